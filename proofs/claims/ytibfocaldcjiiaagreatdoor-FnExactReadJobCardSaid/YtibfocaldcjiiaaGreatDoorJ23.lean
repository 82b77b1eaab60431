/- Texts of this claim, merged by a program (wip/tools/merge.py): HPathsJob, Q200, HPathsEv, HStrs. -/
import Derived.Test.YtibfocaldcjiiaaGreatDoorJ2
import Derived.Test.YtibfocaldcjiiaaGreatDoorJ15
import Derived.Test.YtibfocaldcjiiaaGreatDoorJ4
import Derived.Test.YtibfocaldcjiiaaGreatDoorJ10
import Derived.Test.YtibfocaldcjiiaaGreatDoorJ12
import Derived.Test.YtibfocaldcjiiaaGreatDoorJ22
import Derived.Test.YtibfocaldcjiiaaGreatDoorJ9
import Derived.Test.YtibfocaldcjiiaaGreatDoorJ5
import Derived.Test.YtibfocaldcjiiaaGreatDoorJ21
import Derived.Test.YtibfocaldcjiiaaGreatDoorJ3
import Derived.Test.YtibfocaldcjiiaaGreatDoorJ7
import Derived.Test.YtibfocaldcjiiaaGreatDoorJ13
/- impl.arePaths: as many paths as a kind of job has, each one whole. -/
namespace Go.Proofs.YtibfocaldcjiiaaGreatDoor.Q
open Go.RowKit Go.Proofs.YtibfocaldcjiiaaGreatDoorW.PrintWords Go.Proofs.YtibfocaldcjiiaaGreatDoorW.PrintLast Go.Proofs.YtibfocaldcjiiaaGreatDoorW.PrintMore
attribute [local go_sem] max2_int min2_int max_two min_two max_three min_three max_four min_four   -- for this text's walks alone
set_option linter.unusedVariables false
set_option linter.unusedSimpArgs false

def wholeB (s : ByteArray) : Bool := goodPathB s && (bt s 0 == 47)
theorem isWhole_f (s : ByteArray) : impl_isWhole.f s = some (wholeB s) := by
  unfold impl_isWhole.f wholeB
  rw [GoodPath_f]
  simp only [Option.bind_some]
  cases h : goodPathB s
  · rfl
  · have hs : 0 < s.size := by
      rcases Nat.eq_zero_or_pos s.size with h0 | h0
      · have e : nilB s = true := decide_eq_true h0
        unfold goodPathB longB at h
        rw [e] at h
        simp at h
      · exact h0
    rw [if_pos rfl, if_pos (by omega)]
    rfl
def pathsB (k : Int) (l : List ByteArray) : Bool :=
  (if k = 1 then l.length == 2 else if k = 6 then l.length == 1 else inB 1 10 l.length) && !(l.any fun s => !wholeB s)
def impl_arePaths.f (k : Int) (l : List ByteArray) : Option Bool := some (pathsB k l)
theorem arePaths_pred (w : World) : PredB 152 #[] Value.string (fun p => !wholeB p) w := by
  intro W x hb
  have HC := Aside0.mk (impl_isWhole.calls x (wholeB x) W (isWhole_f x))
  show Calls Tryz.prog 152 #[.string x] W fun e w' => e = .returned (.bool (!wholeB x)) ∧ Below W.heap.size W w'
  generalize wholeB x = q at HC ⊢
  go_enter Tryz.func152, Tryz.ntmps152
  go_wp2_with (go_at_call 153; refine HC.out.mono ?_; rintro e w' ⟨rfl, hd⟩)
  go_ret
  exact ⟨rfl, hd⟩
/-- The walk, the bounds of a kind of job decided. -/
theorem arePaths_no (k lo hi : Int) (A0 : Option Addr) (c0 : Nat) (l0 : List ByteArray) (w : World)
    (hk : (k = 1 ∧ lo = 2 ∧ hi = 2) ∨ (k = 6 ∧ lo = 1 ∧ hi = 1) ∨ ((k == 1) = false ∧ (k == 6) = false ∧ lo = 1 ∧ hi = 10)) (hin : inB lo hi l0.length = false) :
    Calls Tryz.prog 106 #[.int .i64 k, .slice A0 l0.length c0] w fun e w' => e = .returned (.bool false) ∧ Below w.heap.size w w' := by
  have HW := Aside0.mk (fun W => impl_within.calls (l0.length : Int) lo hi _ W (within_f (l0.length : Int) lo hi))
  rw [hin] at HW
  clear hin
  rcases hk with ⟨rfl, rfl, rfl⟩ | ⟨rfl, rfl, rfl⟩ | ⟨k1, k2, rfl, rfl⟩
  all_goals
    go_enter Tryz.func106, Tryz.ntmps106
    go_wp2_with fail
    refine (HW.out _).mono ?_; rintro e w1 ⟨rfl, ⟨n1, rfl⟩⟩
    go_wp2
    go_ret
    exact ⟨rfl, by repeat (first | exact Below.refl _ _ | apply pw_below_drewN | apply below_drew1)⟩
theorem arePaths_yes (k lo hi : Int) (A0 : Option Addr) (c0 : Nat) (l0 : List ByteArray) (w : World) (q : Bool)
    (hk : (k = 1 ∧ lo = 2 ∧ hi = 2) ∨ (k = 6 ∧ lo = 1 ∧ hi = 1) ∨ ((k == 1) = false ∧ (k == 6) = false ∧ lo = 1 ∧ hi = 10)) (hin : inB lo hi l0.length = true)
    (HC : Aside0 (∀ W, Below w.heap.size w W → Calls Tryz.prog 151 #[.slice A0 l0.length c0, .func (.func 152) #[] #[]] W fun e w' => e = .returned (.bool q) ∧ Below W.heap.size W w')) :
    Calls Tryz.prog 106 #[.int .i64 k, .slice A0 l0.length c0] w fun e w' => e = .returned (.bool (!q)) ∧ Below w.heap.size w w' := by
  have HW := Aside0.mk (fun W => impl_within.calls (l0.length : Int) lo hi _ W (within_f (l0.length : Int) lo hi))
  rw [hin] at HW
  clear hin
  rcases hk with ⟨rfl, rfl, rfl⟩ | ⟨rfl, rfl, rfl⟩ | ⟨k1, k2, rfl, rfl⟩
  all_goals
    go_enter Tryz.func106, Tryz.ntmps106
    go_wp2_with fail
    refine (HW.out _).mono ?_; rintro e w1 ⟨rfl, ⟨n1, rfl⟩⟩
    go_wp2_with fail
    refine (HC.out _ (by repeat (first | exact Below.refl _ _ | apply pw_below_drewN | apply below_drew1))).mono ?_; rintro e w2 ⟨rfl, hd⟩
    go_wp2
    go_ret
    exact ⟨rfl, (show Below w.heap.size w w2 from below_step (by repeat (first | exact Below.refl _ _ | apply pw_below_drewN | apply below_drew1)) hd)⟩
theorem impl_arePaths.calls (a0 : Int) (A1 : Option Addr) (c1 : Nat) (l1 : List ByteArray) (r : Bool) (w : World) (hr1 : Kd.C Kd.string w A1 l1.length l1) (hc1 : l1.length ≤ c1) (h : impl_arePaths.f a0 l1 = some r) :
    Calls Tryz.prog 106 #[.int .i64 a0, .slice A1 l1.length c1] w fun e w' => e = .returned (.bool r) ∧ Below w.heap.size w w' := by
  obtain rfl : r = pathsB a0 l1 := (Option.some.inj h).symm
  have eg : ∀ args w, (callFunc 152 args).run Tryz.prog w = .ok (.enter 152 args) w := enters_of Tryz.func152 (by kernel_rfl) rfl
  have HC : Aside0 (∀ W, Below w.heap.size w W → Calls Tryz.prog 151 #[.slice A1 l1.length c1, .func (.func 152) #[] #[]] W fun e w' => e = .returned (.bool (l1.any fun p => !wholeB p)) ∧ Below W.heap.size W w') :=
    ⟨fun W hb => containsFuncS eg (fun p => !wholeB p) A1 c1 l1 W (arePaths_pred _) (Kd.C_below hr1 hb) hc1⟩
  obtain ⟨lo, hi, hk, hb⟩ : ∃ lo hi : Int, ((a0 = 1 ∧ lo = 2 ∧ hi = 2) ∨ (a0 = 6 ∧ lo = 1 ∧ hi = 1) ∨ ((a0 == 1) = false ∧ (a0 == 6) = false ∧ lo = 1 ∧ hi = 10)) ∧ pathsB a0 l1 = (inB lo hi l1.length && !(l1.any fun s => !wholeB s)) := by
    unfold pathsB
    by_cases h1 : a0 = 1
    · refine ⟨2, 2, .inl ⟨h1, rfl, rfl⟩, ?_⟩
      rw [if_pos h1]
      congr 1
      unfold inB
      rw [Bool.eq_iff_iff]; simp; omega
    · by_cases h6 : a0 = 6
      · refine ⟨1, 1, .inr (.inl ⟨h6, rfl, rfl⟩), ?_⟩
        rw [if_neg h1, if_pos h6]
        congr 1
        unfold inB
        rw [Bool.eq_iff_iff]; simp; omega
      · refine ⟨1, 10, .inr (.inr ⟨by simpa using h1, by simpa using h6, rfl, rfl⟩), ?_⟩
        rw [if_neg h1, if_neg h6]
  rw [hb]
  cases hin : inB lo hi (l1.length : Int)
  · exact arePaths_no a0 lo hi A1 c1 l1 w hk hin
  · rw [Bool.true_and]
    exact arePaths_yes a0 lo hi A1 c1 l1 w _ hk hin HC

end Go.Proofs.YtibfocaldcjiiaaGreatDoor.Q

-- Printed by a program of this session (wip/tools/myprint.py) that runs the kit's print, hand-proved functions among the others.
namespace Go.Proofs.YtibfocaldcjiiaaGreatDoor.Q
open Go.RowKit Go.Proofs.YtibfocaldcjiiaaGreatDoorW.PrintWords Go.Proofs.YtibfocaldcjiiaaGreatDoorW.PrintLast Go.Proofs.YtibfocaldcjiiaaGreatDoorW.PrintMore
attribute [local go_sem] max2_int min2_int max_two min_two max_three min_three max_four min_four   -- for this text's walks alone
set_option linter.unusedVariables false
set_option linter.unusedSimpArgs false

/-! ### impl_GoodJob: function 42 -/
def impl_GoodJob.j0 : Nat → Bool → Int → ByteArray → ByteArray → Int → Int → List ByteArray → Option (Bool)
 | 0, _, _, _, _, _, _, _ => none
 | k + 1, x35, x924000, x924001, x924002, x924003, x924004, x924005 => if x35 = true then (some false) else (if x924000 = 4 then ((impl_areOwners.f x924003 x924004).bind fun t930 => (if t930 = true then (if x924003 = (-1) then (some (x924004 != (-1))) else (some true)) else (some false))) else (if x924003 = 0 then (some (x924004 == 0)) else (some false)))
def impl_GoodJob.f (k : Nat) (a0_0 : Int) (a0_1 : ByteArray) (a0_2 : ByteArray) (a0_3 : Int) (a0_4 : Int) (l0_5 : List ByteArray) : Option (Bool) := (impl_within.f a0_0 1 6).bind fun t924 => (if t924 = true then (if a0_1.toList = ([] : List UInt8) then ((impl_isWord.f k a0_0 a0_2).bind fun t925 => (if t925 = true then ((impl_arePaths.f a0_0 l0_5).bind fun t926 => (impl_GoodJob.j0 k (!t926) a0_0 a0_1 a0_2 a0_3 a0_4 l0_5)) else (impl_GoodJob.j0 k true a0_0 a0_1 a0_2 a0_3 a0_4 l0_5))) else ((impl_flagOf.f a0_0).bind fun t927 => (if a0_1.toList = t927.toList then ((impl_isWord.f k a0_0 a0_2).bind fun t928 => (if t928 = true then ((impl_arePaths.f a0_0 l0_5).bind fun t929 => (impl_GoodJob.j0 k (!t929) a0_0 a0_1 a0_2 a0_3 a0_4 l0_5)) else (impl_GoodJob.j0 k true a0_0 a0_1 a0_2 a0_3 a0_4 l0_5))) else (impl_GoodJob.j0 k true a0_0 a0_1 a0_2 a0_3 a0_4 l0_5)))) else (impl_GoodJob.j0 k true a0_0 a0_1 a0_2 a0_3 a0_4 l0_5))
theorem impl_GoodJob.mono_l : ∀ k, (∀ y0 y1 y2 y3 y4 y5 y6, LeO (impl_GoodJob.j0 k y0 y1 y2 y3 y4 y5 y6) (impl_GoodJob.j0 (k + 1) y0 y1 y2 y3 y4 y5 y6))
 | 0 => fun _ _ _ _ _ _ _ r h => by simp [impl_GoodJob.j0] at h
 | k + 1 => by
  have ih0 := impl_GoodJob.mono_l k
  ·intro y0 y1 y2 y3 y4 y5 y6
   unfold impl_GoodJob.j0
   repeat' first
   | (with_reducible exact ih0 _ _ _ _ _ _ _)
   | (with_reducible exact impl_isWord.mono _ _ _)
   | (with_reducible exact LeO.refl _)
   | (with_reducible exact LeO.none _)
   | (with_reducible refine LeO.ite ?_ ?_)
   | (with_reducible refine LeO.bind ?_ (fun _ => ?_))
   | exact ih0 _ _ _ _ _ _ _
   | exact impl_isWord.mono _ _ _
   | exact LeO.none _
   | refine LeO.ite ?_ ?_
   | refine LeO.bind ?_ (fun _ => ?_)
theorem impl_GoodJob.mono : ∀ a0 a1 a2 a3 a4 a5 k, LeO (impl_GoodJob.f k a0 a1 a2 a3 a4 a5) (impl_GoodJob.f (k + 1) a0 a1 a2 a3 a4 a5) := by
 intro a0 a1 a2 a3 a4 a5 k
 have ih0 := impl_GoodJob.mono_l k
 unfold impl_GoodJob.f
 repeat' first
   | (with_reducible exact ih0 _ _ _ _ _ _ _)
   | (with_reducible exact impl_isWord.mono _ _ _)
   | (with_reducible exact LeO.refl _)
   | (with_reducible exact LeO.none _)
   | (with_reducible refine LeO.ite ?_ ?_)
   | (with_reducible refine LeO.bind ?_ (fun _ => ?_))
   | exact ih0 _ _ _ _ _ _ _
   | exact impl_isWord.mono _ _ _
   | exact LeO.none _
   | refine LeO.ite ?_ ?_
   | refine LeO.bind ?_ (fun _ => ?_)
def impl_GoodJob.T1 : Bool × List (List Nat × List Nat) := (true, [([], []), ([0], [0]), ([1], [1]), ([2], [2]), ([3, 2], [3]), ([4], [4]), ([5, 4], [4, 5]), ([6, 4], [4, 6]), ([7, 4, 4], [4, 7]), ([8], [8]), ([9, 8], [8, 9]), ([8], [8]), ([11, 8], [8, 11]), ([12, 8, 8], [8, 12]), ([10, 13, 8], [8, 10, 13]), ([8, 14, 4], [4, 8, 14]), ([4, 15], [4, 15]), ([16, 13], [16]), ([17], [17]), ([18, 17], [17, 18]), ([17], [17]), ([20, 17], [17, 20]), ([19, 21, 17, 17], [17, 19, 21]), ([22, 17], [17, 22]), ([17, 23], [17, 23]), ([24, 22], [24]), ([25], [25]), ([26, 25], [25, 26]), ([25], [25]), ([28, 25], [25, 28]), ([27, 29, 25, 25], [25, 27, 29]), ([30, 25], [25, 30]), ([25, 31], [25, 31])])
def impl_GoodJob.B1 : List Nat := [0, 1, 3, 7, 15, 31, 63, 127, 255, 511, 1023, 511, 2559, 6655, 16383, 32767, 65535, 131071, 262143, 524287, 262143, 1310719, 4194303, 8388607, 16777215, 33554431, 67108863, 134217727, 67108863, 335544319, 1073741823, 2147483647, 4294967295]
theorem impl_GoodJob.tab1 : rtab .any (opsOf Tryz.f42 1) = impl_GoodJob.T1 := by kernel_rfl
theorem impl_GoodJob.bits1 : waitsOk impl_GoodJob.T1.2 impl_GoodJob.B1 = true := by kernel_rfl
set_option maxHeartbeats 8000000 in
set_option maxRecDepth 100000 in
theorem impl_GoodJob.calls (k : Nat) (a0_0 : Int) (a0_1 : ByteArray) (a0_2 : ByteArray) (a0_3 : Int) (a0_4 : Int) (A0_5 : Option Addr) (c0_5 : Nat) (l0_5 : List ByteArray) (r : Bool) (w : World) (hr0_5 : Kd.C Kd.string w A0_5 l0_5.length l0_5) (hc0_5 : l0_5.length ≤ c0_5) (h : impl_GoodJob.f k a0_0 a0_1 a0_2 a0_3 a0_4 l0_5 = some r) :
  Calls Tryz.prog 42 #[.agg #[.int .i64 a0_0, .string a0_1, .string a0_2, .int .i64 a0_3, .int .i64 a0_4, .slice A0_5 l0_5.length c0_5]] w fun e w' => e = .returned (.bool r) ∧ Below w.heap.size w w' := by
 have hu49 := Tryz.underlying49
 have HR0_5 := Aside0.mk hr0_5
 have HC0_5 := Aside0.mk hc0_5
 clear hr0_5 hc0_5
 have HB := Aside0.mk (Below.refl w.heap.size w)
 have H : ((impl_within.f a0_0 1 6).bind fun t924 => (if t924 = true then (if a0_1.toList = ([] : List UInt8) then ((impl_isWord.f k a0_0 a0_2).bind fun t925 => (if t925 = true then ((impl_arePaths.f a0_0 l0_5).bind fun t926 => (impl_GoodJob.j0 k (!t926) a0_0 a0_1 a0_2 a0_3 a0_4 l0_5)) else (impl_GoodJob.j0 k true a0_0 a0_1 a0_2 a0_3 a0_4 l0_5))) else ((impl_flagOf.f a0_0).bind fun t927 => (if a0_1.toList = t927.toList then ((impl_isWord.f k a0_0 a0_2).bind fun t928 => (if t928 = true then ((impl_arePaths.f a0_0 l0_5).bind fun t929 => (impl_GoodJob.j0 k (!t929) a0_0 a0_1 a0_2 a0_3 a0_4 l0_5)) else (impl_GoodJob.j0 k true a0_0 a0_1 a0_2 a0_3 a0_4 l0_5))) else (impl_GoodJob.j0 k true a0_0 a0_1 a0_2 a0_3 a0_4 l0_5)))) else (impl_GoodJob.j0 k true a0_0 a0_1 a0_2 a0_3 a0_4 l0_5))) = some r := h
 clear h
 have HC2 := Aside0.mk H
 clear H
 go_enter Tryz.func42, Tryz.ntmps42
 go_upto_region 1 with (first | ((with_reducible refine gate_dst (N := 1) rfl ?_); refine box_event ?hg (N := 1) ?hd (cs := #[.int .i64 a0_0, .string a0_1, .string a0_2, .int .i64 a0_3, .int .i64 a0_4, .slice A0_5 l0_5.length c0_5]) (t := 49) ?hr ?_; (case hd => rfl); (case hg => rfl); (case hr => first | (go_simp; done) | (go_simp; rfl)); intro gb923 hg w3 hbox hb; have n0_ := Aside0.mk (below_step (Gtr.bw HB.out) hb); have n1_ := Aside0.mk (hbox); have n2_ := Aside0.mk ((by rw [hg]; exact (below_size (Gtr.bw HB.out)) : w.heap.size ≤ gb923)); have n3_ := Aside0.mk ((by rw [hg]; exact (below_size (Gtr.bw HB.out)) : w.heap.size ≤ gb923)); clear HB; have HB := n0_; have BK923 := n1_; have GW923 := n2_; have GE923 := n3_; clear n0_ n1_ n2_ n3_; clear hb hbox hg))
 (try simp only [Act.put, List.setIfInBounds_toArray, List.set_cons_zero, List.set_cons_succ])
 go_cut [35] (fun v35 wc => ∃ (kq : Nat) (x35_1 : Bool), v35 = .bool x35_1 ∧ Aside0 (impl_GoodJob.j0 kq x35_1 a0_0 a0_1 a0_2 a0_3 a0_4 l0_5 = some r) ∧ Aside0 (kq ≤ k) ∧ Aside0 (wc.heap[gb923]? = some (.cells #[.int .i64 a0_0, .string a0_1, .string a0_2, .int .i64 a0_3, .int .i64 a0_4, (.slice A0_5 l0_5.length c0_5)] 49 (0, 0))) ∧ Aside0 (Below w.heap.size w wc))
 case first =>
  have H := HC2.out
  clear HC2
  replace H := Option.bind_eq_some_iff.mp H
  obtain ⟨t924, A40, H⟩ := H
  try dsimp only at H
  have A4 := Aside0.mk A40
  clear A40
  by_cases c5 : t924 = true
  ·subst c5
   have H1 := H
   rw [if_pos rfl] at H1
   clear H
   have H := H1
   clear H1
   by_cases c6 : a0_1.toList = ([] : List UInt8)
   ·rw [if_pos c6] at H
    have c6b0 : (a0_1.toList == ([] : List UInt8)) = true := beq_iff_eq.mpr c6
    have c6b1 : (a0_1.toList != ([] : List UInt8)) = false := bne_eq_false_iff_eq.mpr c6
    clear c6
    (first | rw [c6b0] | (simp only [i64_w, i32_w]; rw [c6b0]) | skip)
    replace H := Option.bind_eq_some_iff.mp H
    obtain ⟨t925, A70, H⟩ := H
    try dsimp only at H
    have A7 := Aside0.mk A70
    clear A70
    by_cases c8 : t925 = true
    ·subst c8
     have H1 := H
     rw [if_pos rfl] at H1
     clear H
     have H := H1
     clear H1
     replace H := Option.bind_eq_some_iff.mp H
     obtain ⟨t926, A90, H⟩ := H
     try dsimp only at H
     have A9 := Aside0.mk A90
     clear A90
     have H' := Aside0.mk H
     clear H
     try go_wp2
     have n0_ := Aside0.mk (blk_drew BK923.out)
     have n1_ := Aside0.mk (below_drew1 HB.out)
     clear BK923
     clear HB
     have BK923 := n0_
     have HB := n1_
     clear n0_ n1_
     refine start_ (n := 33) (S := fun w' => w'.cell? ⟨gb923, 0, none⟩ = some (.int .i64 a0_0) ∧ w'.cell? ⟨gb923, 1, none⟩ = some (.string a0_1) ∧ w'.cell? ⟨gb923, 2, none⟩ = some (.string a0_2) ∧ w'.cell? ⟨gb923, 3, none⟩ = some (.int .i64 a0_3) ∧ w'.cell? ⟨gb923, 4, none⟩ = some (.int .i64 a0_4) ∧ w'.cell? ⟨gb923, 5, none⟩ = some (.slice A0_5 l0_5.length c0_5)) (ds := []) (Gtr.bb 33 0) (by kernel_rfl) rfl rfl ⟨(blk_cell BK923.out 0).trans rfl, (blk_cell BK923.out 1).trans rfl, (blk_cell BK923.out 2).trans rfl, (blk_cell BK923.out 3).trans rfl, (blk_cell BK923.out 4).trans rfl, (blk_cell BK923.out 5).trans rfl⟩ (fun hHeld => ?_); refine with_tabW impl_GoodJob.tab1 impl_GoodJob.bits1 (fun HT_ HW_ => ?_)
     generalize w3.drew = w10 at BK923 HB hHeld ⊢
     refine pure_ (i := 0) (N := some 3) (v := ?_) (a' := ?_) (Gtr.bb 33 1) rfl rfl (any_of HT_.out (by kernel_rfl)) (fun _ _ _ h => h) (Or.inl ⟨by rfl, ?_⟩) ?_ ?_
     rotate_left
     ·intro w'
      go_simp
      with_reducible rfl
     rotate_left
     ·simp only [Gtr.ps]
      rfl
     refine take_ (i := 1) (N := some 4) (v := ?_) (a' := ?_) (Gtr.bb 33 3) rfl rfl (take_ofW HT_.out HW_.out (by kernel_rfl)) (fun _ _ _ h => h) (Or.inl ⟨by rfl, ?_⟩) hHeld ?_ ?_
     rotate_left
     ·rintro w' ⟨s0, s1, s2, s3, s4, s5⟩
      go_simp
      with_reducible rfl
     rotate_left
     ·simp only [Gtr.ps]
      rfl
     refine one_ (i := 2) (N := some 5) (Gtr.bb 33 7) rfl rfl (one_of HT_.out (by kernel_rfl)) (by decide) (fun K hK => ?_)
     refine goes_ Tryz.func71 (by kernel_rfl) rfl #[.int .i64 a0_0, .int .i64 1, .int .i64 6] (by rfl) rfl rfl (by (try simp only [List.map_toArray, List.map_cons, List.map_nil]); first | done | rfl | (simp only [List.length_drop, List.length_take]; rfl)) ?_
     with_reducible refine (impl_within.calls a0_0 1 6 true _ A4.out).mono ?_
     rintro e w' ⟨rfl, ⟨nd, rfl⟩⟩
     refine ⟨_, rfl, ?_⟩
     refine hK.out _ _ ⟨(blk_cell BK923.out 0).trans rfl, (blk_cell BK923.out 1).trans rfl, (blk_cell BK923.out 2).trans rfl, (blk_cell BK923.out 3).trans rfl, (blk_cell BK923.out 4).trans rfl, (blk_cell BK923.out 5).trans rfl⟩ (fun hHeld => ?_)
     clear hK K
     refine norm_ (a' := ?_) ?_ ?_
     rotate_left
     ·show Act.put _ (some 5) _ = _
      simp only [Gtr.ps]
      rfl
     refine pure_ (i := 3) (N := some 6) (v := ?_) (a' := ?_) (Gtr.bb 33 15) rfl rfl (any_of HT_.out (by kernel_rfl)) (fun _ _ _ h => h) (Or.inl ⟨by rfl, ?_⟩) ?_ ?_
     rotate_left
     ·intro w'
      go_simp
      with_reducible rfl
     rotate_left
     ·simp only [Gtr.ps]
      rfl
     refine pure_ (i := 4) (N := some 7) (v := ?_) (a' := ?_) (Gtr.bb 33 31) rfl rfl (any_of HT_.out (by kernel_rfl)) (fun _ _ _ h => h) (Or.inl ⟨by rfl, ?_⟩) ?_ ?_
     rotate_left
     ·intro w'
      go_simp
      with_reducible rfl
     rotate_left
     ·simp only [Gtr.ps]
      rfl
     refine pure_ (i := 5) (N := some 8) (v := ?_) (a' := ?_) (Gtr.bb 33 63) rfl rfl (any_of HT_.out (by kernel_rfl)) (fun _ _ _ h => h) (Or.inl ⟨by rfl, ?_⟩) ?_ ?_
     rotate_left
     ·intro w'
      go_simp
      with_reducible rfl
     rotate_left
     ·simp only [Gtr.ps]
      rfl
     refine take_ (i := 6) (N := some 9) (v := ?_) (a' := ?_) (Gtr.bb 33 127) rfl rfl (take_ofW HT_.out HW_.out (by kernel_rfl)) (fun _ _ _ h => h) (Or.inl ⟨by rfl, ?_⟩) hHeld ?_ ?_
     rotate_left
     ·rintro w' ⟨s0, s1, s2, s3, s4, s5⟩
      go_simp
      with_reducible rfl
     rotate_left
     ·simp only [Gtr.ps]
      rfl
     refine pure_ (i := 7) (N := some 10) (v := ?_) (a' := ?_) (Gtr.bb 33 255) rfl rfl (any_of HT_.out (by kernel_rfl)) (fun _ _ _ h => h) (Or.inl ⟨by rfl, ?_⟩) ?_ ?_
     rotate_left
     ·intro w'
      go_simp
      with_reducible rfl
     rotate_left
     ·simp only [Gtr.ps]
      rfl
     refine pure_ (i := 8) (N := some 11) (v := ?_) (a' := ?_) (Gtr.bb 33 511) rfl rfl (any_of HT_.out (by kernel_rfl)) (fun _ _ _ h => h) (Or.inl ⟨by rfl, ?_⟩) ?_ ?_
     rotate_left
     ·intro w'
      go_simp
      with_reducible rfl
     rotate_left
     ·simp only [Gtr.ps]
      rfl
     refine pure_ (i := 9) (N := some 12) (v := undef) (a' := ?_) (Gtr.bb 33 1023) rfl rfl (any_of HT_.out (by kernel_rfl)) (fun _ _ _ h => h) (Or.inr ⟨by rfl, rfl⟩) ?_ ?_
     rotate_left
     ·simp only [Gtr.ps]
      rfl
     refine pure_ (i := 10) (N := some 13) (v := undef) (a' := ?_) (Gtr.bb 33 2047) rfl rfl (any_of HT_.out (by kernel_rfl)) (fun _ _ _ h => h) (Or.inr ⟨by rfl, rfl⟩) ?_ ?_
     rotate_left
     ·simp only [Gtr.ps]
      rfl
     refine pure_ (i := 11) (N := some 14) (v := undef) (a' := ?_) (Gtr.bb 33 4095) rfl rfl (any_of HT_.out (by kernel_rfl)) (fun _ _ _ h => h) (Or.inr ⟨by rfl, rfl⟩) ?_ ?_
     rotate_left
     ·simp only [Gtr.ps]
      rfl
     refine pure_ (i := 12) (N := some 15) (v := undef) (a' := ?_) (Gtr.bb 33 8191) rfl rfl (any_of HT_.out (by kernel_rfl)) (fun _ _ _ h => h) (Or.inr ⟨by rfl, rfl⟩) ?_ ?_
     rotate_left
     ·simp only [Gtr.ps]
      rfl
     refine pure_ (i := 13) (N := some 16) (v := undef) (a' := ?_) (Gtr.bb 33 16383) rfl rfl (any_of HT_.out (by kernel_rfl)) (fun _ _ _ h => h) (Or.inr ⟨by rfl, rfl⟩) ?_ ?_
     rotate_left
     ·simp only [Gtr.ps]
      rfl
     refine pure_ (i := 14) (N := some 17) (v := undef) (a' := ?_) (Gtr.bb 33 32767) rfl rfl (any_of HT_.out (by kernel_rfl)) (fun _ _ _ h => h) (Or.inr ⟨by rfl, rfl⟩) ?_ ?_
     rotate_left
     ·simp only [Gtr.ps]
      rfl
     refine pure_ (i := 15) (N := some 18) (v := ?_) (a' := ?_) (Gtr.bb 33 65535) rfl rfl (any_of HT_.out (by kernel_rfl)) (fun _ _ _ h => h) (Or.inl ⟨by rfl, ?_⟩) ?_ ?_
     rotate_left
     ·intro w'
      go_simp
      with_reducible rfl
     rotate_left
     ·simp only [Gtr.ps]
      rfl
     refine pure_ (i := 16) (N := some 19) (v := ?_) (a' := ?_) (Gtr.bb 33 131071) rfl rfl (any_of HT_.out (by kernel_rfl)) (fun _ _ _ h => h) (Or.inl ⟨by rfl, ?_⟩) ?_ ?_
     rotate_left
     ·intro w'
      go_simp
      with_reducible rfl
     rotate_left
     ·simp only [Gtr.ps]
      rfl
     refine pure_ (i := 17) (N := some 20) (v := ?_) (a' := ?_) (Gtr.bb 33 262143) rfl rfl (any_of HT_.out (by kernel_rfl)) (fun _ _ _ h => h) (Or.inl ⟨by rfl, ?_⟩) ?_ ?_
     rotate_left
     ·intro w'
      go_simp
      with_reducible rfl
     rotate_left
     ·simp only [Gtr.ps]
      rfl
     refine pure_ (i := 18) (N := some 21) (v := ?_) (a' := ?_) (Gtr.bb 33 524287) rfl rfl (any_of HT_.out (by kernel_rfl)) (fun _ _ _ h => h) (Or.inl ⟨by rfl, ?_⟩) ?_ ?_
     rotate_left
     ·intro w'
      go_simp
      with_reducible rfl
     rotate_left
     ·simp only [Gtr.ps]
      rfl
     refine pure_ (i := 20) (N := some 23) (v := ?_) (a' := ?_) (Gtr.bb 33 1572863) rfl rfl (any_of HT_.out (by kernel_rfl)) (fun _ _ _ h => h) (Or.inl ⟨by rfl, ?_⟩) ?_ ?_
     rotate_left
     ·intro w'
      go_simp
      with_reducible rfl
     rotate_left
     ·simp only [Gtr.ps]
      rfl
     refine take_ (i := 19) (N := some 22) (v := ?_) (a' := ?_) (Gtr.bb 33 2097151) rfl rfl (take_ofW HT_.out HW_.out (by kernel_rfl)) (fun _ _ _ h => h) (Or.inl ⟨by rfl, ?_⟩) hHeld ?_ ?_
     rotate_left
     ·rintro w' ⟨s0, s1, s2, s3, s4, s5⟩
      go_simp
      with_reducible rfl
     rotate_left
     ·simp only [Gtr.ps]
      rfl
     refine take_ (i := 21) (N := some 24) (v := ?_) (a' := ?_) (Gtr.bb 33 4194303) rfl rfl (take_ofW HT_.out HW_.out (by kernel_rfl)) (fun _ _ _ h => h) (Or.inl ⟨by rfl, ?_⟩) hHeld ?_ ?_
     rotate_left
     ·rintro w' ⟨s0, s1, s2, s3, s4, s5⟩
      go_simp
      with_reducible rfl
     rotate_left
     ·simp only [Gtr.ps]
      rfl
     refine one_ (i := 22) (N := some 25) (Gtr.bb 33 8388607) rfl rfl (one_of HT_.out (by kernel_rfl)) (by decide) (fun K hK => ?_)
     refine goes_ Tryz.func105 (by kernel_rfl) rfl #[.int .i64 a0_0, .string a0_2] (by rfl) rfl rfl (by (try simp only [List.map_toArray, List.map_cons, List.map_nil]); first | done | rfl | (simp only [List.length_drop, List.length_take]; rfl)) ?_
     with_reducible refine (impl_isWord.calls k a0_0 a0_2 true _ A7.out).mono ?_
     rintro e w11 ⟨rfl, hb⟩
     refine ⟨_, rfl, ?_⟩
     have n0_ := Aside0.mk (blk_below (g := gb923) (o := .cells #[.int .i64 a0_0, .string a0_1, .string a0_2, .int .i64 a0_3, .int .i64 a0_4, .slice A0_5 l0_5.length c0_5] 49 (0, 0)) (by (with_reducible repeat (first | refine blk_drewN ?_ _ | refine blk_drew ?_ | refine blk_alloc ?_ _)); exact BK923.out) hb)
     have n1_ := Aside0.mk (below_step (Gtr.bw HB.out) hb)
     clear BK923
     clear HB
     have BK923 := n0_
     have HB := n1_
     clear n0_ n1_
     (try clear hb);(try clear hb2);(try clear hk);(try clear hi)
     refine hK.out _ _ ⟨(blk_cell BK923.out 0).trans rfl, (blk_cell BK923.out 1).trans rfl, (blk_cell BK923.out 2).trans rfl, (blk_cell BK923.out 3).trans rfl, (blk_cell BK923.out 4).trans rfl, (blk_cell BK923.out 5).trans rfl⟩ (fun hHeld => ?_)
     clear hK K
     refine norm_ (a' := ?_) ?_ ?_
     rotate_left
     ·show Act.put _ (some 25) _ = _
      simp only [Gtr.ps]
      rfl
     refine pure_ (i := 23) (N := some 26) (v := ?_) (a' := ?_) (Gtr.bb 33 16777215) rfl rfl (any_of HT_.out (by kernel_rfl)) (fun _ _ _ h => h) (Or.inl ⟨by rfl, ?_⟩) ?_ ?_
     rotate_left
     ·intro w'
      go_simp
      with_reducible rfl
     rotate_left
     ·simp only [Gtr.ps]
      rfl
     refine pure_ (i := 24) (N := some 27) (v := ?_) (a' := ?_) (Gtr.bb 33 33554431) rfl rfl (any_of HT_.out (by kernel_rfl)) (fun _ _ _ h => h) (Or.inl ⟨by rfl, ?_⟩) ?_ ?_
     rotate_left
     ·intro w'
      go_simp
      with_reducible rfl
     rotate_left
     ·simp only [Gtr.ps]
      rfl
     refine pure_ (i := 25) (N := some 28) (v := ?_) (a' := ?_) (Gtr.bb 33 67108863) rfl rfl (any_of HT_.out (by kernel_rfl)) (fun _ _ _ h => h) (Or.inl ⟨by rfl, ?_⟩) ?_ ?_
     rotate_left
     ·intro w'
      go_simp
      with_reducible rfl
     rotate_left
     ·simp only [Gtr.ps]
      rfl
     refine pure_ (i := 26) (N := some 29) (v := ?_) (a' := ?_) (Gtr.bb 33 134217727) rfl rfl (any_of HT_.out (by kernel_rfl)) (fun _ _ _ h => h) (Or.inl ⟨by rfl, ?_⟩) ?_ ?_
     rotate_left
     ·intro w'
      go_simp
      with_reducible rfl
     rotate_left
     ·simp only [Gtr.ps]
      rfl
     refine pure_ (i := 28) (N := some 31) (v := ?_) (a' := ?_) (Gtr.bb 33 402653183) rfl rfl (any_of HT_.out (by kernel_rfl)) (fun _ _ _ h => h) (Or.inl ⟨by rfl, ?_⟩) ?_ ?_
     rotate_left
     ·intro w'
      go_simp
      with_reducible rfl
     rotate_left
     ·simp only [Gtr.ps]
      rfl
     refine take_ (i := 27) (N := some 30) (v := ?_) (a' := ?_) (Gtr.bb 33 536870911) rfl rfl (take_ofW HT_.out HW_.out (by kernel_rfl)) (fun _ _ _ h => h) (Or.inl ⟨by rfl, ?_⟩) hHeld ?_ ?_
     rotate_left
     ·rintro w' ⟨s0, s1, s2, s3, s4, s5⟩
      go_simp
      with_reducible rfl
     rotate_left
     ·simp only [Gtr.ps]
      rfl
     refine take_ (i := 29) (N := some 32) (v := ?_) (a' := ?_) (Gtr.bb 33 1073741823) rfl rfl (take_ofW HT_.out HW_.out (by kernel_rfl)) (fun _ _ _ h => h) (Or.inl ⟨by rfl, ?_⟩) hHeld ?_ ?_
     rotate_left
     ·rintro w' ⟨s0, s1, s2, s3, s4, s5⟩
      go_simp
      with_reducible rfl
     rotate_left
     ·simp only [Gtr.ps]
      rfl
     refine one_ (i := 30) (N := some 33) (Gtr.bb 33 2147483647) rfl rfl (one_of HT_.out (by kernel_rfl)) (by decide) (fun K hK => ?_)
     refine goes_ Tryz.func106 (by kernel_rfl) rfl #[.int .i64 a0_0, .slice A0_5 l0_5.length c0_5] (by rfl) rfl rfl (by (try simp only [List.map_toArray, List.map_cons, List.map_nil]); first | done | rfl | (simp only [List.length_drop, List.length_take]; rfl)) ?_
     with_reducible refine (impl_arePaths.calls a0_0 _ _ l0_5 t926 _ ?side1 ?side2 A9.out).mono ?_
     (case side1 => repeat (first | exact (Kd.C_below HR0_5.out HB.out) | (with_reducible refine Kd.C_alloc ?_ _) | (with_reducible refine Kd.C_drewN ?_ _) | (with_reducible refine Kd.C_drew ?_)))
     (case side2 => exact HC0_5.out)
     rintro e w12 ⟨rfl, hb⟩
     refine ⟨_, rfl, ?_⟩
     have n0_ := Aside0.mk (blk_below (g := gb923) (o := .cells #[.int .i64 a0_0, .string a0_1, .string a0_2, .int .i64 a0_3, .int .i64 a0_4, .slice A0_5 l0_5.length c0_5] 49 (0, 0)) (by (with_reducible repeat (first | refine blk_drewN ?_ _ | refine blk_drew ?_ | refine blk_alloc ?_ _)); exact BK923.out) hb)
     have n1_ := Aside0.mk (below_step (Gtr.bw HB.out) hb)
     clear BK923
     clear HB
     have BK923 := n0_
     have HB := n1_
     clear n0_ n1_
     (try clear hb);(try clear hb2);(try clear hk);(try clear hi)
     refine hK.out _ _ ⟨(blk_cell BK923.out 0).trans rfl, (blk_cell BK923.out 1).trans rfl, (blk_cell BK923.out 2).trans rfl, (blk_cell BK923.out 3).trans rfl, (blk_cell BK923.out 4).trans rfl, (blk_cell BK923.out 5).trans rfl⟩ (fun hHeld => ?_)
     clear hK K
     refine norm_ (a' := ?_) ?_ ?_
     rotate_left
     ·show Act.put _ (some 33) _ = _
      simp only [Gtr.ps]
      rfl
     refine pure_ (i := 31) (N := some 34) (v := ?_) (a' := ?_) (Gtr.bb 33 4294967295) rfl rfl (any_of HT_.out (by kernel_rfl)) (fun _ _ _ h => h) (Or.inl ⟨by rfl, ?_⟩) ?_ ?_
     rotate_left
     ·intro w'
      go_simp
      with_reducible rfl
     rotate_left
     ·simp only [Gtr.ps]
      rfl
     refine pure_ (i := 32) (N := some 35) (v := ?_) (a' := ?_) (Gtr.bb 33 8589934591) rfl rfl (any_of HT_.out (by kernel_rfl)) (fun _ _ _ h => h) (Or.inl ⟨by rfl, ?_⟩) ?_ ?_
     rotate_left
     ·intro w'
      go_simp
      with_reducible rfl
     rotate_left
     ·simp only [Gtr.ps]
      rfl
     refine done_ (done_of HT_.out (by kernel_rfl)) ?_
     try go_wp2
     go_meet
     case rel => exact ⟨_, (!t926), (by first | rfl | (simp; done) | (simp [*]; done)), H', ⟨by first | omega | exact Nat.le_refl _⟩, ⟨by (with_reducible repeat (first | refine blk_drewN ?_ _ | refine blk_drew ?_ | refine blk_alloc ?_ _)); exact BK923.out⟩, ⟨(Gtr.bw HB.out)⟩⟩
    ·replace c8 := Bool.eq_false_iff.mpr c8
     subst c8
     have H1 : (impl_GoodJob.j0 k true a0_0 a0_1 a0_2 a0_3 a0_4 l0_5) = some r := by rw [if_neg (show ¬ (false = true) by decide)] at H; exact H
     clear H
     have H := H1
     clear H1
     have H' := Aside0.mk H
     clear H
     try go_wp2
     have n0_ := Aside0.mk (blk_drew BK923.out)
     have n1_ := Aside0.mk (below_drew1 HB.out)
     clear BK923
     clear HB
     have BK923 := n0_
     have HB := n1_
     clear n0_ n1_
     refine start_ (n := 33) (S := fun w' => w'.cell? ⟨gb923, 0, none⟩ = some (.int .i64 a0_0) ∧ w'.cell? ⟨gb923, 1, none⟩ = some (.string a0_1) ∧ w'.cell? ⟨gb923, 2, none⟩ = some (.string a0_2) ∧ w'.cell? ⟨gb923, 3, none⟩ = some (.int .i64 a0_3) ∧ w'.cell? ⟨gb923, 4, none⟩ = some (.int .i64 a0_4) ∧ w'.cell? ⟨gb923, 5, none⟩ = some (.slice A0_5 l0_5.length c0_5)) (ds := []) (Gtr.bb 33 0) (by kernel_rfl) rfl rfl ⟨(blk_cell BK923.out 0).trans rfl, (blk_cell BK923.out 1).trans rfl, (blk_cell BK923.out 2).trans rfl, (blk_cell BK923.out 3).trans rfl, (blk_cell BK923.out 4).trans rfl, (blk_cell BK923.out 5).trans rfl⟩ (fun hHeld => ?_); refine with_tabW impl_GoodJob.tab1 impl_GoodJob.bits1 (fun HT_ HW_ => ?_)
     generalize w3.drew = w13 at BK923 HB hHeld ⊢
     refine pure_ (i := 0) (N := some 3) (v := ?_) (a' := ?_) (Gtr.bb 33 1) rfl rfl (any_of HT_.out (by kernel_rfl)) (fun _ _ _ h => h) (Or.inl ⟨by rfl, ?_⟩) ?_ ?_
     rotate_left
     ·intro w'
      go_simp
      with_reducible rfl
     rotate_left
     ·simp only [Gtr.ps]
      rfl
     refine take_ (i := 1) (N := some 4) (v := ?_) (a' := ?_) (Gtr.bb 33 3) rfl rfl (take_ofW HT_.out HW_.out (by kernel_rfl)) (fun _ _ _ h => h) (Or.inl ⟨by rfl, ?_⟩) hHeld ?_ ?_
     rotate_left
     ·rintro w' ⟨s0, s1, s2, s3, s4, s5⟩
      go_simp
      with_reducible rfl
     rotate_left
     ·simp only [Gtr.ps]
      rfl
     refine one_ (i := 2) (N := some 5) (Gtr.bb 33 7) rfl rfl (one_of HT_.out (by kernel_rfl)) (by decide) (fun K hK => ?_)
     refine goes_ Tryz.func71 (by kernel_rfl) rfl #[.int .i64 a0_0, .int .i64 1, .int .i64 6] (by rfl) rfl rfl (by (try simp only [List.map_toArray, List.map_cons, List.map_nil]); first | done | rfl | (simp only [List.length_drop, List.length_take]; rfl)) ?_
     with_reducible refine (impl_within.calls a0_0 1 6 true _ A4.out).mono ?_
     rintro e w' ⟨rfl, ⟨nd, rfl⟩⟩
     refine ⟨_, rfl, ?_⟩
     refine hK.out _ _ ⟨(blk_cell BK923.out 0).trans rfl, (blk_cell BK923.out 1).trans rfl, (blk_cell BK923.out 2).trans rfl, (blk_cell BK923.out 3).trans rfl, (blk_cell BK923.out 4).trans rfl, (blk_cell BK923.out 5).trans rfl⟩ (fun hHeld => ?_)
     clear hK K
     refine norm_ (a' := ?_) ?_ ?_
     rotate_left
     ·show Act.put _ (some 5) _ = _
      simp only [Gtr.ps]
      rfl
     refine pure_ (i := 3) (N := some 6) (v := ?_) (a' := ?_) (Gtr.bb 33 15) rfl rfl (any_of HT_.out (by kernel_rfl)) (fun _ _ _ h => h) (Or.inl ⟨by rfl, ?_⟩) ?_ ?_
     rotate_left
     ·intro w'
      go_simp
      with_reducible rfl
     rotate_left
     ·simp only [Gtr.ps]
      rfl
     refine pure_ (i := 4) (N := some 7) (v := ?_) (a' := ?_) (Gtr.bb 33 31) rfl rfl (any_of HT_.out (by kernel_rfl)) (fun _ _ _ h => h) (Or.inl ⟨by rfl, ?_⟩) ?_ ?_
     rotate_left
     ·intro w'
      go_simp
      with_reducible rfl
     rotate_left
     ·simp only [Gtr.ps]
      rfl
     refine pure_ (i := 5) (N := some 8) (v := ?_) (a' := ?_) (Gtr.bb 33 63) rfl rfl (any_of HT_.out (by kernel_rfl)) (fun _ _ _ h => h) (Or.inl ⟨by rfl, ?_⟩) ?_ ?_
     rotate_left
     ·intro w'
      go_simp
      with_reducible rfl
     rotate_left
     ·simp only [Gtr.ps]
      rfl
     refine take_ (i := 6) (N := some 9) (v := ?_) (a' := ?_) (Gtr.bb 33 127) rfl rfl (take_ofW HT_.out HW_.out (by kernel_rfl)) (fun _ _ _ h => h) (Or.inl ⟨by rfl, ?_⟩) hHeld ?_ ?_
     rotate_left
     ·rintro w' ⟨s0, s1, s2, s3, s4, s5⟩
      go_simp
      with_reducible rfl
     rotate_left
     ·simp only [Gtr.ps]
      rfl
     refine pure_ (i := 7) (N := some 10) (v := ?_) (a' := ?_) (Gtr.bb 33 255) rfl rfl (any_of HT_.out (by kernel_rfl)) (fun _ _ _ h => h) (Or.inl ⟨by rfl, ?_⟩) ?_ ?_
     rotate_left
     ·intro w'
      go_simp
      with_reducible rfl
     rotate_left
     ·simp only [Gtr.ps]
      rfl
     refine pure_ (i := 8) (N := some 11) (v := ?_) (a' := ?_) (Gtr.bb 33 511) rfl rfl (any_of HT_.out (by kernel_rfl)) (fun _ _ _ h => h) (Or.inl ⟨by rfl, ?_⟩) ?_ ?_
     rotate_left
     ·intro w'
      go_simp
      with_reducible rfl
     rotate_left
     ·simp only [Gtr.ps]
      rfl
     refine pure_ (i := 9) (N := some 12) (v := undef) (a' := ?_) (Gtr.bb 33 1023) rfl rfl (any_of HT_.out (by kernel_rfl)) (fun _ _ _ h => h) (Or.inr ⟨by rfl, rfl⟩) ?_ ?_
     rotate_left
     ·simp only [Gtr.ps]
      rfl
     refine pure_ (i := 10) (N := some 13) (v := undef) (a' := ?_) (Gtr.bb 33 2047) rfl rfl (any_of HT_.out (by kernel_rfl)) (fun _ _ _ h => h) (Or.inr ⟨by rfl, rfl⟩) ?_ ?_
     rotate_left
     ·simp only [Gtr.ps]
      rfl
     refine pure_ (i := 11) (N := some 14) (v := undef) (a' := ?_) (Gtr.bb 33 4095) rfl rfl (any_of HT_.out (by kernel_rfl)) (fun _ _ _ h => h) (Or.inr ⟨by rfl, rfl⟩) ?_ ?_
     rotate_left
     ·simp only [Gtr.ps]
      rfl
     refine pure_ (i := 12) (N := some 15) (v := undef) (a' := ?_) (Gtr.bb 33 8191) rfl rfl (any_of HT_.out (by kernel_rfl)) (fun _ _ _ h => h) (Or.inr ⟨by rfl, rfl⟩) ?_ ?_
     rotate_left
     ·simp only [Gtr.ps]
      rfl
     refine pure_ (i := 13) (N := some 16) (v := undef) (a' := ?_) (Gtr.bb 33 16383) rfl rfl (any_of HT_.out (by kernel_rfl)) (fun _ _ _ h => h) (Or.inr ⟨by rfl, rfl⟩) ?_ ?_
     rotate_left
     ·simp only [Gtr.ps]
      rfl
     refine pure_ (i := 14) (N := some 17) (v := undef) (a' := ?_) (Gtr.bb 33 32767) rfl rfl (any_of HT_.out (by kernel_rfl)) (fun _ _ _ h => h) (Or.inr ⟨by rfl, rfl⟩) ?_ ?_
     rotate_left
     ·simp only [Gtr.ps]
      rfl
     refine pure_ (i := 15) (N := some 18) (v := ?_) (a' := ?_) (Gtr.bb 33 65535) rfl rfl (any_of HT_.out (by kernel_rfl)) (fun _ _ _ h => h) (Or.inl ⟨by rfl, ?_⟩) ?_ ?_
     rotate_left
     ·intro w'
      go_simp
      with_reducible rfl
     rotate_left
     ·simp only [Gtr.ps]
      rfl
     refine pure_ (i := 16) (N := some 19) (v := ?_) (a' := ?_) (Gtr.bb 33 131071) rfl rfl (any_of HT_.out (by kernel_rfl)) (fun _ _ _ h => h) (Or.inl ⟨by rfl, ?_⟩) ?_ ?_
     rotate_left
     ·intro w'
      go_simp
      with_reducible rfl
     rotate_left
     ·simp only [Gtr.ps]
      rfl
     refine pure_ (i := 17) (N := some 20) (v := ?_) (a' := ?_) (Gtr.bb 33 262143) rfl rfl (any_of HT_.out (by kernel_rfl)) (fun _ _ _ h => h) (Or.inl ⟨by rfl, ?_⟩) ?_ ?_
     rotate_left
     ·intro w'
      go_simp
      with_reducible rfl
     rotate_left
     ·simp only [Gtr.ps]
      rfl
     refine pure_ (i := 18) (N := some 21) (v := ?_) (a' := ?_) (Gtr.bb 33 524287) rfl rfl (any_of HT_.out (by kernel_rfl)) (fun _ _ _ h => h) (Or.inl ⟨by rfl, ?_⟩) ?_ ?_
     rotate_left
     ·intro w'
      go_simp
      with_reducible rfl
     rotate_left
     ·simp only [Gtr.ps]
      rfl
     refine pure_ (i := 20) (N := some 23) (v := ?_) (a' := ?_) (Gtr.bb 33 1572863) rfl rfl (any_of HT_.out (by kernel_rfl)) (fun _ _ _ h => h) (Or.inl ⟨by rfl, ?_⟩) ?_ ?_
     rotate_left
     ·intro w'
      go_simp
      with_reducible rfl
     rotate_left
     ·simp only [Gtr.ps]
      rfl
     refine take_ (i := 19) (N := some 22) (v := ?_) (a' := ?_) (Gtr.bb 33 2097151) rfl rfl (take_ofW HT_.out HW_.out (by kernel_rfl)) (fun _ _ _ h => h) (Or.inl ⟨by rfl, ?_⟩) hHeld ?_ ?_
     rotate_left
     ·rintro w' ⟨s0, s1, s2, s3, s4, s5⟩
      go_simp
      with_reducible rfl
     rotate_left
     ·simp only [Gtr.ps]
      rfl
     refine take_ (i := 21) (N := some 24) (v := ?_) (a' := ?_) (Gtr.bb 33 4194303) rfl rfl (take_ofW HT_.out HW_.out (by kernel_rfl)) (fun _ _ _ h => h) (Or.inl ⟨by rfl, ?_⟩) hHeld ?_ ?_
     rotate_left
     ·rintro w' ⟨s0, s1, s2, s3, s4, s5⟩
      go_simp
      with_reducible rfl
     rotate_left
     ·simp only [Gtr.ps]
      rfl
     refine one_ (i := 22) (N := some 25) (Gtr.bb 33 8388607) rfl rfl (one_of HT_.out (by kernel_rfl)) (by decide) (fun K hK => ?_)
     refine goes_ Tryz.func105 (by kernel_rfl) rfl #[.int .i64 a0_0, .string a0_2] (by rfl) rfl rfl (by (try simp only [List.map_toArray, List.map_cons, List.map_nil]); first | done | rfl | (simp only [List.length_drop, List.length_take]; rfl)) ?_
     with_reducible refine (impl_isWord.calls k a0_0 a0_2 false _ A7.out).mono ?_
     rintro e w14 ⟨rfl, hb⟩
     refine ⟨_, rfl, ?_⟩
     have n0_ := Aside0.mk (blk_below (g := gb923) (o := .cells #[.int .i64 a0_0, .string a0_1, .string a0_2, .int .i64 a0_3, .int .i64 a0_4, .slice A0_5 l0_5.length c0_5] 49 (0, 0)) (by (with_reducible repeat (first | refine blk_drewN ?_ _ | refine blk_drew ?_ | refine blk_alloc ?_ _)); exact BK923.out) hb)
     have n1_ := Aside0.mk (below_step (Gtr.bw HB.out) hb)
     clear BK923
     clear HB
     have BK923 := n0_
     have HB := n1_
     clear n0_ n1_
     (try clear hb);(try clear hb2);(try clear hk);(try clear hi)
     refine hK.out _ _ ⟨(blk_cell BK923.out 0).trans rfl, (blk_cell BK923.out 1).trans rfl, (blk_cell BK923.out 2).trans rfl, (blk_cell BK923.out 3).trans rfl, (blk_cell BK923.out 4).trans rfl, (blk_cell BK923.out 5).trans rfl⟩ (fun hHeld => ?_)
     clear hK K
     refine norm_ (a' := ?_) ?_ ?_
     rotate_left
     ·show Act.put _ (some 25) _ = _
      simp only [Gtr.ps]
      rfl
     refine pure_ (i := 23) (N := some 26) (v := ?_) (a' := ?_) (Gtr.bb 33 16777215) rfl rfl (any_of HT_.out (by kernel_rfl)) (fun _ _ _ h => h) (Or.inl ⟨by rfl, ?_⟩) ?_ ?_
     rotate_left
     ·intro w'
      go_simp
      with_reducible rfl
     rotate_left
     ·simp only [Gtr.ps]
      rfl
     refine pure_ (i := 24) (N := some 27) (v := ?_) (a' := ?_) (Gtr.bb 33 33554431) rfl rfl (any_of HT_.out (by kernel_rfl)) (fun _ _ _ h => h) (Or.inl ⟨by rfl, ?_⟩) ?_ ?_
     rotate_left
     ·intro w'
      go_simp
      with_reducible rfl
     rotate_left
     ·simp only [Gtr.ps]
      rfl
     refine pure_ (i := 25) (N := some 28) (v := ?_) (a' := ?_) (Gtr.bb 33 67108863) rfl rfl (any_of HT_.out (by kernel_rfl)) (fun _ _ _ h => h) (Or.inl ⟨by rfl, ?_⟩) ?_ ?_
     rotate_left
     ·intro w'
      go_simp
      with_reducible rfl
     rotate_left
     ·simp only [Gtr.ps]
      rfl
     refine pure_ (i := 26) (N := some 29) (v := undef) (a' := ?_) (Gtr.bb 33 134217727) rfl rfl (any_of HT_.out (by kernel_rfl)) (fun _ _ _ h => h) (Or.inr ⟨by rfl, rfl⟩) ?_ ?_
     rotate_left
     ·simp only [Gtr.ps]
      rfl
     refine pure_ (i := 27) (N := some 30) (v := undef) (a' := ?_) (Gtr.bb 33 268435455) rfl rfl (any_of HT_.out (by kernel_rfl)) (fun _ _ _ h => h) (Or.inr ⟨by rfl, rfl⟩) ?_ ?_
     rotate_left
     ·simp only [Gtr.ps]
      rfl
     refine pure_ (i := 28) (N := some 31) (v := undef) (a' := ?_) (Gtr.bb 33 536870911) rfl rfl (any_of HT_.out (by kernel_rfl)) (fun _ _ _ h => h) (Or.inr ⟨by rfl, rfl⟩) ?_ ?_
     rotate_left
     ·simp only [Gtr.ps]
      rfl
     refine pure_ (i := 29) (N := some 32) (v := undef) (a' := ?_) (Gtr.bb 33 1073741823) rfl rfl (any_of HT_.out (by kernel_rfl)) (fun _ _ _ h => h) (Or.inr ⟨by rfl, rfl⟩) ?_ ?_
     rotate_left
     ·simp only [Gtr.ps]
      rfl
     refine pure_ (i := 30) (N := some 33) (v := undef) (a' := ?_) (Gtr.bb 33 2147483647) rfl rfl (any_of HT_.out (by kernel_rfl)) (fun _ _ _ h => h) (Or.inr ⟨by rfl, rfl⟩) ?_ ?_
     rotate_left
     ·simp only [Gtr.ps]
      rfl
     refine pure_ (i := 31) (N := some 34) (v := undef) (a' := ?_) (Gtr.bb 33 4294967295) rfl rfl (any_of HT_.out (by kernel_rfl)) (fun _ _ _ h => h) (Or.inr ⟨by rfl, rfl⟩) ?_ ?_
     rotate_left
     ·simp only [Gtr.ps]
      rfl
     refine pure_ (i := 32) (N := some 35) (v := ?_) (a' := ?_) (Gtr.bb 33 8589934591) rfl rfl (any_of HT_.out (by kernel_rfl)) (fun _ _ _ h => h) (Or.inl ⟨by rfl, ?_⟩) ?_ ?_
     rotate_left
     ·intro w'
      go_simp
      with_reducible rfl
     rotate_left
     ·simp only [Gtr.ps]
      rfl
     refine done_ (done_of HT_.out (by kernel_rfl)) ?_
     try go_wp2
     go_meet
     case rel => exact ⟨_, (true), (by first | rfl | (simp; done) | (simp [*]; done)), H', ⟨by first | omega | exact Nat.le_refl _⟩, ⟨by (with_reducible repeat (first | refine blk_drewN ?_ _ | refine blk_drew ?_ | refine blk_alloc ?_ _)); exact BK923.out⟩, ⟨(Gtr.bw HB.out)⟩⟩
   ·rw [if_neg c6] at H
    have c6b0 : (a0_1.toList == ([] : List UInt8)) = false := beq_eq_false_iff_ne.mpr c6
    have c6b1 : (a0_1.toList != ([] : List UInt8)) = true := bne_iff_ne.mpr c6
    (first | rw [c6b0] | (simp only [i64_w, i32_w]; rw [c6b0]) | skip)
    replace H := Option.bind_eq_some_iff.mp H
    obtain ⟨t927, A150, H⟩ := H
    try dsimp only at H
    have A15 := Aside0.mk A150
    clear A150
    by_cases c16 : a0_1.toList = t927.toList
    ·rw [if_pos c16] at H
     have c16b0 : (a0_1.toList == t927.toList) = true := beq_iff_eq.mpr c16
     have c16b1 : (a0_1.toList != t927.toList) = false := bne_eq_false_iff_eq.mpr c16
     clear c16
     replace H := Option.bind_eq_some_iff.mp H
     obtain ⟨t928, A170, H⟩ := H
     try dsimp only at H
     have A17 := Aside0.mk A170
     clear A170
     by_cases c18 : t928 = true
     ·subst c18
      have H1 := H
      rw [if_pos rfl] at H1
      clear H
      have H := H1
      clear H1
      replace H := Option.bind_eq_some_iff.mp H
      obtain ⟨t929, A190, H⟩ := H
      try dsimp only at H
      have A19 := Aside0.mk A190
      clear A190
      have H' := Aside0.mk H
      clear H
      try go_wp2
      have n0_ := Aside0.mk (blk_drew BK923.out)
      have n1_ := Aside0.mk (below_drew1 HB.out)
      clear BK923
      clear HB
      have BK923 := n0_
      have HB := n1_
      clear n0_ n1_
      refine start_ (n := 33) (S := fun w' => w'.cell? ⟨gb923, 0, none⟩ = some (.int .i64 a0_0) ∧ w'.cell? ⟨gb923, 1, none⟩ = some (.string a0_1) ∧ w'.cell? ⟨gb923, 2, none⟩ = some (.string a0_2) ∧ w'.cell? ⟨gb923, 3, none⟩ = some (.int .i64 a0_3) ∧ w'.cell? ⟨gb923, 4, none⟩ = some (.int .i64 a0_4) ∧ w'.cell? ⟨gb923, 5, none⟩ = some (.slice A0_5 l0_5.length c0_5)) (ds := []) (Gtr.bb 33 0) (by kernel_rfl) rfl rfl ⟨(blk_cell BK923.out 0).trans rfl, (blk_cell BK923.out 1).trans rfl, (blk_cell BK923.out 2).trans rfl, (blk_cell BK923.out 3).trans rfl, (blk_cell BK923.out 4).trans rfl, (blk_cell BK923.out 5).trans rfl⟩ (fun hHeld => ?_); refine with_tabW impl_GoodJob.tab1 impl_GoodJob.bits1 (fun HT_ HW_ => ?_)
      generalize w3.drew = w20 at BK923 HB hHeld ⊢
      refine pure_ (i := 0) (N := some 3) (v := ?_) (a' := ?_) (Gtr.bb 33 1) rfl rfl (any_of HT_.out (by kernel_rfl)) (fun _ _ _ h => h) (Or.inl ⟨by rfl, ?_⟩) ?_ ?_
      rotate_left
      ·intro w'
       go_simp
       with_reducible rfl
      rotate_left
      ·simp only [Gtr.ps]
       rfl
      refine take_ (i := 1) (N := some 4) (v := ?_) (a' := ?_) (Gtr.bb 33 3) rfl rfl (take_ofW HT_.out HW_.out (by kernel_rfl)) (fun _ _ _ h => h) (Or.inl ⟨by rfl, ?_⟩) hHeld ?_ ?_
      rotate_left
      ·rintro w' ⟨s0, s1, s2, s3, s4, s5⟩
       go_simp
       with_reducible rfl
      rotate_left
      ·simp only [Gtr.ps]
       rfl
      refine one_ (i := 2) (N := some 5) (Gtr.bb 33 7) rfl rfl (one_of HT_.out (by kernel_rfl)) (by decide) (fun K hK => ?_)
      refine goes_ Tryz.func71 (by kernel_rfl) rfl #[.int .i64 a0_0, .int .i64 1, .int .i64 6] (by rfl) rfl rfl (by (try simp only [List.map_toArray, List.map_cons, List.map_nil]); first | done | rfl | (simp only [List.length_drop, List.length_take]; rfl)) ?_
      with_reducible refine (impl_within.calls a0_0 1 6 true _ A4.out).mono ?_
      rintro e w' ⟨rfl, ⟨nd, rfl⟩⟩
      refine ⟨_, rfl, ?_⟩
      refine hK.out _ _ ⟨(blk_cell BK923.out 0).trans rfl, (blk_cell BK923.out 1).trans rfl, (blk_cell BK923.out 2).trans rfl, (blk_cell BK923.out 3).trans rfl, (blk_cell BK923.out 4).trans rfl, (blk_cell BK923.out 5).trans rfl⟩ (fun hHeld => ?_)
      clear hK K
      refine norm_ (a' := ?_) ?_ ?_
      rotate_left
      ·show Act.put _ (some 5) _ = _
       simp only [Gtr.ps]
       rfl
      refine pure_ (i := 3) (N := some 6) (v := ?_) (a' := ?_) (Gtr.bb 33 15) rfl rfl (any_of HT_.out (by kernel_rfl)) (fun _ _ _ h => h) (Or.inl ⟨by rfl, ?_⟩) ?_ ?_
      rotate_left
      ·intro w'
       go_simp
       with_reducible rfl
      rotate_left
      ·simp only [Gtr.ps]
       rfl
      refine pure_ (i := 4) (N := some 7) (v := ?_) (a' := ?_) (Gtr.bb 33 31) rfl rfl (any_of HT_.out (by kernel_rfl)) (fun _ _ _ h => h) (Or.inl ⟨by rfl, ?_⟩) ?_ ?_
      rotate_left
      ·intro w'
       go_simp
       with_reducible rfl
      rotate_left
      ·simp only [Gtr.ps]
       rfl
      refine pure_ (i := 5) (N := some 8) (v := ?_) (a' := ?_) (Gtr.bb 33 63) rfl rfl (any_of HT_.out (by kernel_rfl)) (fun _ _ _ h => h) (Or.inl ⟨by rfl, ?_⟩) ?_ ?_
      rotate_left
      ·intro w'
       go_simp
       with_reducible rfl
      rotate_left
      ·simp only [Gtr.ps]
       rfl
      refine take_ (i := 6) (N := some 9) (v := ?_) (a' := ?_) (Gtr.bb 33 127) rfl rfl (take_ofW HT_.out HW_.out (by kernel_rfl)) (fun _ _ _ h => h) (Or.inl ⟨by rfl, ?_⟩) hHeld ?_ ?_
      rotate_left
      ·rintro w' ⟨s0, s1, s2, s3, s4, s5⟩
       go_simp
       with_reducible rfl
      rotate_left
      ·simp only [Gtr.ps]
       rfl
      refine pure_ (i := 7) (N := some 10) (v := ?_) (a' := ?_) (Gtr.bb 33 255) rfl rfl (any_of HT_.out (by kernel_rfl)) (fun _ _ _ h => h) (Or.inl ⟨by rfl, ?_⟩) ?_ ?_
      rotate_left
      ·intro w'
       go_simp
       with_reducible rfl
      rotate_left
      ·simp only [Gtr.ps]
       rfl
      refine pure_ (i := 8) (N := some 11) (v := ?_) (a' := ?_) (Gtr.bb 33 511) rfl rfl (any_of HT_.out (by kernel_rfl)) (fun _ _ _ h => h) (Or.inl ⟨by rfl, ?_⟩) ?_ ?_
      rotate_left
      ·intro w'
       go_simp
       with_reducible rfl
      rotate_left
      ·simp only [Gtr.ps]
       rfl
      refine pure_ (i := 9) (N := some 12) (v := ?_) (a' := ?_) (Gtr.bb 33 1023) rfl rfl (any_of HT_.out (by kernel_rfl)) (fun _ _ _ h => h) (Or.inl ⟨by rfl, ?_⟩) ?_ ?_
      rotate_left
      ·intro w'
       go_simp
       with_reducible rfl
      rotate_left
      ·simp only [Gtr.ps]
       rfl
      refine pure_ (i := 11) (N := some 14) (v := ?_) (a' := ?_) (Gtr.bb 33 3071) rfl rfl (any_of HT_.out (by kernel_rfl)) (fun _ _ _ h => h) (Or.inl ⟨by rfl, ?_⟩) ?_ ?_
      rotate_left
      ·intro w'
       go_simp
       with_reducible rfl
      rotate_left
      ·simp only [Gtr.ps]
       rfl
      refine take_ (i := 10) (N := some 13) (v := ?_) (a' := ?_) (Gtr.bb 33 4095) rfl rfl (take_ofW HT_.out HW_.out (by kernel_rfl)) (fun _ _ _ h => h) (Or.inl ⟨by rfl, ?_⟩) hHeld ?_ ?_
      rotate_left
      ·rintro w' ⟨s0, s1, s2, s3, s4, s5⟩
       go_simp
       with_reducible rfl
      rotate_left
      ·simp only [Gtr.ps]
       rfl
      refine take_ (i := 12) (N := some 15) (v := ?_) (a' := ?_) (Gtr.bb 33 8191) rfl rfl (take_ofW HT_.out HW_.out (by kernel_rfl)) (fun _ _ _ h => h) (Or.inl ⟨by rfl, ?_⟩) hHeld ?_ ?_
      rotate_left
      ·rintro w' ⟨s0, s1, s2, s3, s4, s5⟩
       go_simp
       with_reducible rfl
      rotate_left
      ·simp only [Gtr.ps]
       rfl
      refine one_ (i := 13) (N := some 16) (Gtr.bb 33 16383) rfl rfl (one_of HT_.out (by kernel_rfl)) (by decide) (fun K hK => ?_)
      refine goes_ Tryz.func98 (by kernel_rfl) rfl #[.int .i64 a0_0] (by rfl) rfl rfl (by (try simp only [List.map_toArray, List.map_cons, List.map_nil]); first | done | rfl | (simp only [List.length_drop, List.length_take]; rfl)) ?_
      with_reducible refine (impl_flagOf.calls a0_0 t927 _ A15.out).mono ?_
      rintro e w21 ⟨rfl, hb⟩
      refine ⟨_, rfl, ?_⟩
      have n0_ := Aside0.mk (blk_below (g := gb923) (o := .cells #[.int .i64 a0_0, .string a0_1, .string a0_2, .int .i64 a0_3, .int .i64 a0_4, .slice A0_5 l0_5.length c0_5] 49 (0, 0)) (by (with_reducible repeat (first | refine blk_drewN ?_ _ | refine blk_drew ?_ | refine blk_alloc ?_ _)); exact BK923.out) hb)
      have n1_ := Aside0.mk (below_step (Gtr.bw HB.out) hb)
      clear BK923
      clear HB
      have BK923 := n0_
      have HB := n1_
      clear n0_ n1_
      (try clear hb);(try clear hb2);(try clear hk);(try clear hi)
      refine hK.out _ _ ⟨(blk_cell BK923.out 0).trans rfl, (blk_cell BK923.out 1).trans rfl, (blk_cell BK923.out 2).trans rfl, (blk_cell BK923.out 3).trans rfl, (blk_cell BK923.out 4).trans rfl, (blk_cell BK923.out 5).trans rfl⟩ (fun hHeld => ?_)
      clear hK K
      refine norm_ (a' := ?_) ?_ ?_
      rotate_left
      ·show Act.put _ (some 16) _ = _
       simp only [Gtr.ps]
       rfl
      refine pure_ (i := 14) (N := some 17) (v := ?_) (a' := ?_) (Gtr.bb 33 32767) rfl rfl (any_of HT_.out (by kernel_rfl)) (fun _ _ _ h => h) (Or.inl ⟨by rfl, ?_⟩) ?_ ?_
      rotate_left
      ·intro w'
       go_simp
       with_reducible rfl
      rotate_left
      ·simp only [Gtr.ps]
       rfl
      refine pure_ (i := 15) (N := some 18) (v := ?_) (a' := ?_) (Gtr.bb 33 65535) rfl rfl (any_of HT_.out (by kernel_rfl)) (fun _ _ _ h => h) (Or.inl ⟨by rfl, ?_⟩) ?_ ?_
      rotate_left
      ·intro w'
       go_simp
       with_reducible rfl
      rotate_left
      ·simp only [Gtr.ps]
       rfl
      refine pure_ (i := 16) (N := some 19) (v := ?_) (a' := ?_) (Gtr.bb 33 131071) rfl rfl (any_of HT_.out (by kernel_rfl)) (fun _ _ _ h => h) (Or.inl ⟨by rfl, ?_⟩) ?_ ?_
      rotate_left
      ·intro w'
       go_simp
       with_reducible rfl
      rotate_left
      ·simp only [Gtr.ps]
       rfl
      refine pure_ (i := 17) (N := some 20) (v := ?_) (a' := ?_) (Gtr.bb 33 262143) rfl rfl (any_of HT_.out (by kernel_rfl)) (fun _ _ _ h => h) (Or.inl ⟨by rfl, ?_⟩) ?_ ?_
      rotate_left
      ·intro w'
       go_simp
       with_reducible rfl
      rotate_left
      ·simp only [Gtr.ps]
       rfl
      refine pure_ (i := 18) (N := some 21) (v := ?_) (a' := ?_) (Gtr.bb 33 524287) rfl rfl (any_of HT_.out (by kernel_rfl)) (fun _ _ _ h => h) (Or.inl ⟨by rfl, ?_⟩) ?_ ?_
      rotate_left
      ·intro w'
       go_simp
       with_reducible rfl
      rotate_left
      ·simp only [Gtr.ps]
       rfl
      refine pure_ (i := 20) (N := some 23) (v := ?_) (a' := ?_) (Gtr.bb 33 1572863) rfl rfl (any_of HT_.out (by kernel_rfl)) (fun _ _ _ h => h) (Or.inl ⟨by rfl, ?_⟩) ?_ ?_
      rotate_left
      ·intro w'
       go_simp
       with_reducible rfl
      rotate_left
      ·simp only [Gtr.ps]
       rfl
      refine take_ (i := 19) (N := some 22) (v := ?_) (a' := ?_) (Gtr.bb 33 2097151) rfl rfl (take_ofW HT_.out HW_.out (by kernel_rfl)) (fun _ _ _ h => h) (Or.inl ⟨by rfl, ?_⟩) hHeld ?_ ?_
      rotate_left
      ·rintro w' ⟨s0, s1, s2, s3, s4, s5⟩
       go_simp
       with_reducible rfl
      rotate_left
      ·simp only [Gtr.ps]
       rfl
      refine take_ (i := 21) (N := some 24) (v := ?_) (a' := ?_) (Gtr.bb 33 4194303) rfl rfl (take_ofW HT_.out HW_.out (by kernel_rfl)) (fun _ _ _ h => h) (Or.inl ⟨by rfl, ?_⟩) hHeld ?_ ?_
      rotate_left
      ·rintro w' ⟨s0, s1, s2, s3, s4, s5⟩
       go_simp
       with_reducible rfl
      rotate_left
      ·simp only [Gtr.ps]
       rfl
      refine one_ (i := 22) (N := some 25) (Gtr.bb 33 8388607) rfl rfl (one_of HT_.out (by kernel_rfl)) (by decide) (fun K hK => ?_)
      refine goes_ Tryz.func105 (by kernel_rfl) rfl #[.int .i64 a0_0, .string a0_2] (by rfl) rfl rfl (by (try simp only [List.map_toArray, List.map_cons, List.map_nil]); first | done | rfl | (simp only [List.length_drop, List.length_take]; rfl)) ?_
      with_reducible refine (impl_isWord.calls k a0_0 a0_2 true _ A17.out).mono ?_
      rintro e w22 ⟨rfl, hb⟩
      refine ⟨_, rfl, ?_⟩
      have n0_ := Aside0.mk (blk_below (g := gb923) (o := .cells #[.int .i64 a0_0, .string a0_1, .string a0_2, .int .i64 a0_3, .int .i64 a0_4, .slice A0_5 l0_5.length c0_5] 49 (0, 0)) (by (with_reducible repeat (first | refine blk_drewN ?_ _ | refine blk_drew ?_ | refine blk_alloc ?_ _)); exact BK923.out) hb)
      have n1_ := Aside0.mk (below_step (Gtr.bw HB.out) hb)
      clear BK923
      clear HB
      have BK923 := n0_
      have HB := n1_
      clear n0_ n1_
      (try clear hb);(try clear hb2);(try clear hk);(try clear hi)
      refine hK.out _ _ ⟨(blk_cell BK923.out 0).trans rfl, (blk_cell BK923.out 1).trans rfl, (blk_cell BK923.out 2).trans rfl, (blk_cell BK923.out 3).trans rfl, (blk_cell BK923.out 4).trans rfl, (blk_cell BK923.out 5).trans rfl⟩ (fun hHeld => ?_)
      clear hK K
      refine norm_ (a' := ?_) ?_ ?_
      rotate_left
      ·show Act.put _ (some 25) _ = _
       simp only [Gtr.ps]
       rfl
      refine pure_ (i := 23) (N := some 26) (v := ?_) (a' := ?_) (Gtr.bb 33 16777215) rfl rfl (any_of HT_.out (by kernel_rfl)) (fun _ _ _ h => h) (Or.inl ⟨by rfl, ?_⟩) ?_ ?_
      rotate_left
      ·intro w'
       go_simp
       with_reducible rfl
      rotate_left
      ·simp only [Gtr.ps]
       rfl
      refine pure_ (i := 24) (N := some 27) (v := ?_) (a' := ?_) (Gtr.bb 33 33554431) rfl rfl (any_of HT_.out (by kernel_rfl)) (fun _ _ _ h => h) (Or.inl ⟨by rfl, ?_⟩) ?_ ?_
      rotate_left
      ·intro w'
       go_simp
       with_reducible rfl
      rotate_left
      ·simp only [Gtr.ps]
       rfl
      refine pure_ (i := 25) (N := some 28) (v := ?_) (a' := ?_) (Gtr.bb 33 67108863) rfl rfl (any_of HT_.out (by kernel_rfl)) (fun _ _ _ h => h) (Or.inl ⟨by rfl, ?_⟩) ?_ ?_
      rotate_left
      ·intro w'
       go_simp
       with_reducible rfl
      rotate_left
      ·simp only [Gtr.ps]
       rfl
      refine pure_ (i := 26) (N := some 29) (v := ?_) (a' := ?_) (Gtr.bb 33 134217727) rfl rfl (any_of HT_.out (by kernel_rfl)) (fun _ _ _ h => h) (Or.inl ⟨by rfl, ?_⟩) ?_ ?_
      rotate_left
      ·intro w'
       go_simp
       with_reducible rfl
      rotate_left
      ·simp only [Gtr.ps]
       rfl
      refine pure_ (i := 28) (N := some 31) (v := ?_) (a' := ?_) (Gtr.bb 33 402653183) rfl rfl (any_of HT_.out (by kernel_rfl)) (fun _ _ _ h => h) (Or.inl ⟨by rfl, ?_⟩) ?_ ?_
      rotate_left
      ·intro w'
       go_simp
       with_reducible rfl
      rotate_left
      ·simp only [Gtr.ps]
       rfl
      refine take_ (i := 27) (N := some 30) (v := ?_) (a' := ?_) (Gtr.bb 33 536870911) rfl rfl (take_ofW HT_.out HW_.out (by kernel_rfl)) (fun _ _ _ h => h) (Or.inl ⟨by rfl, ?_⟩) hHeld ?_ ?_
      rotate_left
      ·rintro w' ⟨s0, s1, s2, s3, s4, s5⟩
       go_simp
       with_reducible rfl
      rotate_left
      ·simp only [Gtr.ps]
       rfl
      refine take_ (i := 29) (N := some 32) (v := ?_) (a' := ?_) (Gtr.bb 33 1073741823) rfl rfl (take_ofW HT_.out HW_.out (by kernel_rfl)) (fun _ _ _ h => h) (Or.inl ⟨by rfl, ?_⟩) hHeld ?_ ?_
      rotate_left
      ·rintro w' ⟨s0, s1, s2, s3, s4, s5⟩
       go_simp
       with_reducible rfl
      rotate_left
      ·simp only [Gtr.ps]
       rfl
      refine one_ (i := 30) (N := some 33) (Gtr.bb 33 2147483647) rfl rfl (one_of HT_.out (by kernel_rfl)) (by decide) (fun K hK => ?_)
      refine goes_ Tryz.func106 (by kernel_rfl) rfl #[.int .i64 a0_0, .slice A0_5 l0_5.length c0_5] (by rfl) rfl rfl (by (try simp only [List.map_toArray, List.map_cons, List.map_nil]); first | done | rfl | (simp only [List.length_drop, List.length_take]; rfl)) ?_
      with_reducible refine (impl_arePaths.calls a0_0 _ _ l0_5 t929 _ ?side1 ?side2 A19.out).mono ?_
      (case side1 => repeat (first | exact (Kd.C_below HR0_5.out HB.out) | (with_reducible refine Kd.C_alloc ?_ _) | (with_reducible refine Kd.C_drewN ?_ _) | (with_reducible refine Kd.C_drew ?_)))
      (case side2 => exact HC0_5.out)
      rintro e w23 ⟨rfl, hb⟩
      refine ⟨_, rfl, ?_⟩
      have n0_ := Aside0.mk (blk_below (g := gb923) (o := .cells #[.int .i64 a0_0, .string a0_1, .string a0_2, .int .i64 a0_3, .int .i64 a0_4, .slice A0_5 l0_5.length c0_5] 49 (0, 0)) (by (with_reducible repeat (first | refine blk_drewN ?_ _ | refine blk_drew ?_ | refine blk_alloc ?_ _)); exact BK923.out) hb)
      have n1_ := Aside0.mk (below_step (Gtr.bw HB.out) hb)
      clear BK923
      clear HB
      have BK923 := n0_
      have HB := n1_
      clear n0_ n1_
      (try clear hb);(try clear hb2);(try clear hk);(try clear hi)
      refine hK.out _ _ ⟨(blk_cell BK923.out 0).trans rfl, (blk_cell BK923.out 1).trans rfl, (blk_cell BK923.out 2).trans rfl, (blk_cell BK923.out 3).trans rfl, (blk_cell BK923.out 4).trans rfl, (blk_cell BK923.out 5).trans rfl⟩ (fun hHeld => ?_)
      clear hK K
      refine norm_ (a' := ?_) ?_ ?_
      rotate_left
      ·show Act.put _ (some 33) _ = _
       simp only [Gtr.ps]
       rfl
      refine pure_ (i := 31) (N := some 34) (v := ?_) (a' := ?_) (Gtr.bb 33 4294967295) rfl rfl (any_of HT_.out (by kernel_rfl)) (fun _ _ _ h => h) (Or.inl ⟨by rfl, ?_⟩) ?_ ?_
      rotate_left
      ·intro w'
       go_simp
       with_reducible rfl
      rotate_left
      ·simp only [Gtr.ps]
       rfl
      refine pure_ (i := 32) (N := some 35) (v := ?_) (a' := ?_) (Gtr.bb 33 8589934591) rfl rfl (any_of HT_.out (by kernel_rfl)) (fun _ _ _ h => h) (Or.inl ⟨by rfl, ?_⟩) ?_ ?_
      rotate_left
      ·intro w'
       go_simp
       with_reducible rfl
      rotate_left
      ·simp only [Gtr.ps]
       rfl
      refine done_ (done_of HT_.out (by kernel_rfl)) ?_
      try go_wp2
      go_meet
      case rel => exact ⟨_, (!t929), (by first | rfl | (simp; done) | (simp [*]; done)), H', ⟨by first | omega | exact Nat.le_refl _⟩, ⟨by (with_reducible repeat (first | refine blk_drewN ?_ _ | refine blk_drew ?_ | refine blk_alloc ?_ _)); exact BK923.out⟩, ⟨(Gtr.bw HB.out)⟩⟩
     ·replace c18 := Bool.eq_false_iff.mpr c18
      subst c18
      have H1 : (impl_GoodJob.j0 k true a0_0 a0_1 a0_2 a0_3 a0_4 l0_5) = some r := by rw [if_neg (show ¬ (false = true) by decide)] at H; exact H
      clear H
      have H := H1
      clear H1
      have H' := Aside0.mk H
      clear H
      try go_wp2
      have n0_ := Aside0.mk (blk_drew BK923.out)
      have n1_ := Aside0.mk (below_drew1 HB.out)
      clear BK923
      clear HB
      have BK923 := n0_
      have HB := n1_
      clear n0_ n1_
      refine start_ (n := 33) (S := fun w' => w'.cell? ⟨gb923, 0, none⟩ = some (.int .i64 a0_0) ∧ w'.cell? ⟨gb923, 1, none⟩ = some (.string a0_1) ∧ w'.cell? ⟨gb923, 2, none⟩ = some (.string a0_2) ∧ w'.cell? ⟨gb923, 3, none⟩ = some (.int .i64 a0_3) ∧ w'.cell? ⟨gb923, 4, none⟩ = some (.int .i64 a0_4) ∧ w'.cell? ⟨gb923, 5, none⟩ = some (.slice A0_5 l0_5.length c0_5)) (ds := []) (Gtr.bb 33 0) (by kernel_rfl) rfl rfl ⟨(blk_cell BK923.out 0).trans rfl, (blk_cell BK923.out 1).trans rfl, (blk_cell BK923.out 2).trans rfl, (blk_cell BK923.out 3).trans rfl, (blk_cell BK923.out 4).trans rfl, (blk_cell BK923.out 5).trans rfl⟩ (fun hHeld => ?_); refine with_tabW impl_GoodJob.tab1 impl_GoodJob.bits1 (fun HT_ HW_ => ?_)
      generalize w3.drew = w24 at BK923 HB hHeld ⊢
      refine pure_ (i := 0) (N := some 3) (v := ?_) (a' := ?_) (Gtr.bb 33 1) rfl rfl (any_of HT_.out (by kernel_rfl)) (fun _ _ _ h => h) (Or.inl ⟨by rfl, ?_⟩) ?_ ?_
      rotate_left
      ·intro w'
       go_simp
       with_reducible rfl
      rotate_left
      ·simp only [Gtr.ps]
       rfl
      refine take_ (i := 1) (N := some 4) (v := ?_) (a' := ?_) (Gtr.bb 33 3) rfl rfl (take_ofW HT_.out HW_.out (by kernel_rfl)) (fun _ _ _ h => h) (Or.inl ⟨by rfl, ?_⟩) hHeld ?_ ?_
      rotate_left
      ·rintro w' ⟨s0, s1, s2, s3, s4, s5⟩
       go_simp
       with_reducible rfl
      rotate_left
      ·simp only [Gtr.ps]
       rfl
      refine one_ (i := 2) (N := some 5) (Gtr.bb 33 7) rfl rfl (one_of HT_.out (by kernel_rfl)) (by decide) (fun K hK => ?_)
      refine goes_ Tryz.func71 (by kernel_rfl) rfl #[.int .i64 a0_0, .int .i64 1, .int .i64 6] (by rfl) rfl rfl (by (try simp only [List.map_toArray, List.map_cons, List.map_nil]); first | done | rfl | (simp only [List.length_drop, List.length_take]; rfl)) ?_
      with_reducible refine (impl_within.calls a0_0 1 6 true _ A4.out).mono ?_
      rintro e w' ⟨rfl, ⟨nd, rfl⟩⟩
      refine ⟨_, rfl, ?_⟩
      refine hK.out _ _ ⟨(blk_cell BK923.out 0).trans rfl, (blk_cell BK923.out 1).trans rfl, (blk_cell BK923.out 2).trans rfl, (blk_cell BK923.out 3).trans rfl, (blk_cell BK923.out 4).trans rfl, (blk_cell BK923.out 5).trans rfl⟩ (fun hHeld => ?_)
      clear hK K
      refine norm_ (a' := ?_) ?_ ?_
      rotate_left
      ·show Act.put _ (some 5) _ = _
       simp only [Gtr.ps]
       rfl
      refine pure_ (i := 3) (N := some 6) (v := ?_) (a' := ?_) (Gtr.bb 33 15) rfl rfl (any_of HT_.out (by kernel_rfl)) (fun _ _ _ h => h) (Or.inl ⟨by rfl, ?_⟩) ?_ ?_
      rotate_left
      ·intro w'
       go_simp
       with_reducible rfl
      rotate_left
      ·simp only [Gtr.ps]
       rfl
      refine pure_ (i := 4) (N := some 7) (v := ?_) (a' := ?_) (Gtr.bb 33 31) rfl rfl (any_of HT_.out (by kernel_rfl)) (fun _ _ _ h => h) (Or.inl ⟨by rfl, ?_⟩) ?_ ?_
      rotate_left
      ·intro w'
       go_simp
       with_reducible rfl
      rotate_left
      ·simp only [Gtr.ps]
       rfl
      refine pure_ (i := 5) (N := some 8) (v := ?_) (a' := ?_) (Gtr.bb 33 63) rfl rfl (any_of HT_.out (by kernel_rfl)) (fun _ _ _ h => h) (Or.inl ⟨by rfl, ?_⟩) ?_ ?_
      rotate_left
      ·intro w'
       go_simp
       with_reducible rfl
      rotate_left
      ·simp only [Gtr.ps]
       rfl
      refine take_ (i := 6) (N := some 9) (v := ?_) (a' := ?_) (Gtr.bb 33 127) rfl rfl (take_ofW HT_.out HW_.out (by kernel_rfl)) (fun _ _ _ h => h) (Or.inl ⟨by rfl, ?_⟩) hHeld ?_ ?_
      rotate_left
      ·rintro w' ⟨s0, s1, s2, s3, s4, s5⟩
       go_simp
       with_reducible rfl
      rotate_left
      ·simp only [Gtr.ps]
       rfl
      refine pure_ (i := 7) (N := some 10) (v := ?_) (a' := ?_) (Gtr.bb 33 255) rfl rfl (any_of HT_.out (by kernel_rfl)) (fun _ _ _ h => h) (Or.inl ⟨by rfl, ?_⟩) ?_ ?_
      rotate_left
      ·intro w'
       go_simp
       with_reducible rfl
      rotate_left
      ·simp only [Gtr.ps]
       rfl
      refine pure_ (i := 8) (N := some 11) (v := ?_) (a' := ?_) (Gtr.bb 33 511) rfl rfl (any_of HT_.out (by kernel_rfl)) (fun _ _ _ h => h) (Or.inl ⟨by rfl, ?_⟩) ?_ ?_
      rotate_left
      ·intro w'
       go_simp
       with_reducible rfl
      rotate_left
      ·simp only [Gtr.ps]
       rfl
      refine pure_ (i := 9) (N := some 12) (v := ?_) (a' := ?_) (Gtr.bb 33 1023) rfl rfl (any_of HT_.out (by kernel_rfl)) (fun _ _ _ h => h) (Or.inl ⟨by rfl, ?_⟩) ?_ ?_
      rotate_left
      ·intro w'
       go_simp
       with_reducible rfl
      rotate_left
      ·simp only [Gtr.ps]
       rfl
      refine pure_ (i := 11) (N := some 14) (v := ?_) (a' := ?_) (Gtr.bb 33 3071) rfl rfl (any_of HT_.out (by kernel_rfl)) (fun _ _ _ h => h) (Or.inl ⟨by rfl, ?_⟩) ?_ ?_
      rotate_left
      ·intro w'
       go_simp
       with_reducible rfl
      rotate_left
      ·simp only [Gtr.ps]
       rfl
      refine take_ (i := 10) (N := some 13) (v := ?_) (a' := ?_) (Gtr.bb 33 4095) rfl rfl (take_ofW HT_.out HW_.out (by kernel_rfl)) (fun _ _ _ h => h) (Or.inl ⟨by rfl, ?_⟩) hHeld ?_ ?_
      rotate_left
      ·rintro w' ⟨s0, s1, s2, s3, s4, s5⟩
       go_simp
       with_reducible rfl
      rotate_left
      ·simp only [Gtr.ps]
       rfl
      refine take_ (i := 12) (N := some 15) (v := ?_) (a' := ?_) (Gtr.bb 33 8191) rfl rfl (take_ofW HT_.out HW_.out (by kernel_rfl)) (fun _ _ _ h => h) (Or.inl ⟨by rfl, ?_⟩) hHeld ?_ ?_
      rotate_left
      ·rintro w' ⟨s0, s1, s2, s3, s4, s5⟩
       go_simp
       with_reducible rfl
      rotate_left
      ·simp only [Gtr.ps]
       rfl
      refine one_ (i := 13) (N := some 16) (Gtr.bb 33 16383) rfl rfl (one_of HT_.out (by kernel_rfl)) (by decide) (fun K hK => ?_)
      refine goes_ Tryz.func98 (by kernel_rfl) rfl #[.int .i64 a0_0] (by rfl) rfl rfl (by (try simp only [List.map_toArray, List.map_cons, List.map_nil]); first | done | rfl | (simp only [List.length_drop, List.length_take]; rfl)) ?_
      with_reducible refine (impl_flagOf.calls a0_0 t927 _ A15.out).mono ?_
      rintro e w25 ⟨rfl, hb⟩
      refine ⟨_, rfl, ?_⟩
      have n0_ := Aside0.mk (blk_below (g := gb923) (o := .cells #[.int .i64 a0_0, .string a0_1, .string a0_2, .int .i64 a0_3, .int .i64 a0_4, .slice A0_5 l0_5.length c0_5] 49 (0, 0)) (by (with_reducible repeat (first | refine blk_drewN ?_ _ | refine blk_drew ?_ | refine blk_alloc ?_ _)); exact BK923.out) hb)
      have n1_ := Aside0.mk (below_step (Gtr.bw HB.out) hb)
      clear BK923
      clear HB
      have BK923 := n0_
      have HB := n1_
      clear n0_ n1_
      (try clear hb);(try clear hb2);(try clear hk);(try clear hi)
      refine hK.out _ _ ⟨(blk_cell BK923.out 0).trans rfl, (blk_cell BK923.out 1).trans rfl, (blk_cell BK923.out 2).trans rfl, (blk_cell BK923.out 3).trans rfl, (blk_cell BK923.out 4).trans rfl, (blk_cell BK923.out 5).trans rfl⟩ (fun hHeld => ?_)
      clear hK K
      refine norm_ (a' := ?_) ?_ ?_
      rotate_left
      ·show Act.put _ (some 16) _ = _
       simp only [Gtr.ps]
       rfl
      refine pure_ (i := 14) (N := some 17) (v := ?_) (a' := ?_) (Gtr.bb 33 32767) rfl rfl (any_of HT_.out (by kernel_rfl)) (fun _ _ _ h => h) (Or.inl ⟨by rfl, ?_⟩) ?_ ?_
      rotate_left
      ·intro w'
       go_simp
       with_reducible rfl
      rotate_left
      ·simp only [Gtr.ps]
       rfl
      refine pure_ (i := 15) (N := some 18) (v := ?_) (a' := ?_) (Gtr.bb 33 65535) rfl rfl (any_of HT_.out (by kernel_rfl)) (fun _ _ _ h => h) (Or.inl ⟨by rfl, ?_⟩) ?_ ?_
      rotate_left
      ·intro w'
       go_simp
       with_reducible rfl
      rotate_left
      ·simp only [Gtr.ps]
       rfl
      refine pure_ (i := 16) (N := some 19) (v := ?_) (a' := ?_) (Gtr.bb 33 131071) rfl rfl (any_of HT_.out (by kernel_rfl)) (fun _ _ _ h => h) (Or.inl ⟨by rfl, ?_⟩) ?_ ?_
      rotate_left
      ·intro w'
       go_simp
       with_reducible rfl
      rotate_left
      ·simp only [Gtr.ps]
       rfl
      refine pure_ (i := 17) (N := some 20) (v := ?_) (a' := ?_) (Gtr.bb 33 262143) rfl rfl (any_of HT_.out (by kernel_rfl)) (fun _ _ _ h => h) (Or.inl ⟨by rfl, ?_⟩) ?_ ?_
      rotate_left
      ·intro w'
       go_simp
       with_reducible rfl
      rotate_left
      ·simp only [Gtr.ps]
       rfl
      refine pure_ (i := 18) (N := some 21) (v := ?_) (a' := ?_) (Gtr.bb 33 524287) rfl rfl (any_of HT_.out (by kernel_rfl)) (fun _ _ _ h => h) (Or.inl ⟨by rfl, ?_⟩) ?_ ?_
      rotate_left
      ·intro w'
       go_simp
       with_reducible rfl
      rotate_left
      ·simp only [Gtr.ps]
       rfl
      refine pure_ (i := 20) (N := some 23) (v := ?_) (a' := ?_) (Gtr.bb 33 1572863) rfl rfl (any_of HT_.out (by kernel_rfl)) (fun _ _ _ h => h) (Or.inl ⟨by rfl, ?_⟩) ?_ ?_
      rotate_left
      ·intro w'
       go_simp
       with_reducible rfl
      rotate_left
      ·simp only [Gtr.ps]
       rfl
      refine take_ (i := 19) (N := some 22) (v := ?_) (a' := ?_) (Gtr.bb 33 2097151) rfl rfl (take_ofW HT_.out HW_.out (by kernel_rfl)) (fun _ _ _ h => h) (Or.inl ⟨by rfl, ?_⟩) hHeld ?_ ?_
      rotate_left
      ·rintro w' ⟨s0, s1, s2, s3, s4, s5⟩
       go_simp
       with_reducible rfl
      rotate_left
      ·simp only [Gtr.ps]
       rfl
      refine take_ (i := 21) (N := some 24) (v := ?_) (a' := ?_) (Gtr.bb 33 4194303) rfl rfl (take_ofW HT_.out HW_.out (by kernel_rfl)) (fun _ _ _ h => h) (Or.inl ⟨by rfl, ?_⟩) hHeld ?_ ?_
      rotate_left
      ·rintro w' ⟨s0, s1, s2, s3, s4, s5⟩
       go_simp
       with_reducible rfl
      rotate_left
      ·simp only [Gtr.ps]
       rfl
      refine one_ (i := 22) (N := some 25) (Gtr.bb 33 8388607) rfl rfl (one_of HT_.out (by kernel_rfl)) (by decide) (fun K hK => ?_)
      refine goes_ Tryz.func105 (by kernel_rfl) rfl #[.int .i64 a0_0, .string a0_2] (by rfl) rfl rfl (by (try simp only [List.map_toArray, List.map_cons, List.map_nil]); first | done | rfl | (simp only [List.length_drop, List.length_take]; rfl)) ?_
      with_reducible refine (impl_isWord.calls k a0_0 a0_2 false _ A17.out).mono ?_
      rintro e w26 ⟨rfl, hb⟩
      refine ⟨_, rfl, ?_⟩
      have n0_ := Aside0.mk (blk_below (g := gb923) (o := .cells #[.int .i64 a0_0, .string a0_1, .string a0_2, .int .i64 a0_3, .int .i64 a0_4, .slice A0_5 l0_5.length c0_5] 49 (0, 0)) (by (with_reducible repeat (first | refine blk_drewN ?_ _ | refine blk_drew ?_ | refine blk_alloc ?_ _)); exact BK923.out) hb)
      have n1_ := Aside0.mk (below_step (Gtr.bw HB.out) hb)
      clear BK923
      clear HB
      have BK923 := n0_
      have HB := n1_
      clear n0_ n1_
      (try clear hb);(try clear hb2);(try clear hk);(try clear hi)
      refine hK.out _ _ ⟨(blk_cell BK923.out 0).trans rfl, (blk_cell BK923.out 1).trans rfl, (blk_cell BK923.out 2).trans rfl, (blk_cell BK923.out 3).trans rfl, (blk_cell BK923.out 4).trans rfl, (blk_cell BK923.out 5).trans rfl⟩ (fun hHeld => ?_)
      clear hK K
      refine norm_ (a' := ?_) ?_ ?_
      rotate_left
      ·show Act.put _ (some 25) _ = _
       simp only [Gtr.ps]
       rfl
      refine pure_ (i := 23) (N := some 26) (v := ?_) (a' := ?_) (Gtr.bb 33 16777215) rfl rfl (any_of HT_.out (by kernel_rfl)) (fun _ _ _ h => h) (Or.inl ⟨by rfl, ?_⟩) ?_ ?_
      rotate_left
      ·intro w'
       go_simp
       with_reducible rfl
      rotate_left
      ·simp only [Gtr.ps]
       rfl
      refine pure_ (i := 24) (N := some 27) (v := ?_) (a' := ?_) (Gtr.bb 33 33554431) rfl rfl (any_of HT_.out (by kernel_rfl)) (fun _ _ _ h => h) (Or.inl ⟨by rfl, ?_⟩) ?_ ?_
      rotate_left
      ·intro w'
       go_simp
       with_reducible rfl
      rotate_left
      ·simp only [Gtr.ps]
       rfl
      refine pure_ (i := 25) (N := some 28) (v := ?_) (a' := ?_) (Gtr.bb 33 67108863) rfl rfl (any_of HT_.out (by kernel_rfl)) (fun _ _ _ h => h) (Or.inl ⟨by rfl, ?_⟩) ?_ ?_
      rotate_left
      ·intro w'
       go_simp
       with_reducible rfl
      rotate_left
      ·simp only [Gtr.ps]
       rfl
      refine pure_ (i := 26) (N := some 29) (v := undef) (a' := ?_) (Gtr.bb 33 134217727) rfl rfl (any_of HT_.out (by kernel_rfl)) (fun _ _ _ h => h) (Or.inr ⟨by rfl, rfl⟩) ?_ ?_
      rotate_left
      ·simp only [Gtr.ps]
       rfl
      refine pure_ (i := 27) (N := some 30) (v := undef) (a' := ?_) (Gtr.bb 33 268435455) rfl rfl (any_of HT_.out (by kernel_rfl)) (fun _ _ _ h => h) (Or.inr ⟨by rfl, rfl⟩) ?_ ?_
      rotate_left
      ·simp only [Gtr.ps]
       rfl
      refine pure_ (i := 28) (N := some 31) (v := undef) (a' := ?_) (Gtr.bb 33 536870911) rfl rfl (any_of HT_.out (by kernel_rfl)) (fun _ _ _ h => h) (Or.inr ⟨by rfl, rfl⟩) ?_ ?_
      rotate_left
      ·simp only [Gtr.ps]
       rfl
      refine pure_ (i := 29) (N := some 32) (v := undef) (a' := ?_) (Gtr.bb 33 1073741823) rfl rfl (any_of HT_.out (by kernel_rfl)) (fun _ _ _ h => h) (Or.inr ⟨by rfl, rfl⟩) ?_ ?_
      rotate_left
      ·simp only [Gtr.ps]
       rfl
      refine pure_ (i := 30) (N := some 33) (v := undef) (a' := ?_) (Gtr.bb 33 2147483647) rfl rfl (any_of HT_.out (by kernel_rfl)) (fun _ _ _ h => h) (Or.inr ⟨by rfl, rfl⟩) ?_ ?_
      rotate_left
      ·simp only [Gtr.ps]
       rfl
      refine pure_ (i := 31) (N := some 34) (v := undef) (a' := ?_) (Gtr.bb 33 4294967295) rfl rfl (any_of HT_.out (by kernel_rfl)) (fun _ _ _ h => h) (Or.inr ⟨by rfl, rfl⟩) ?_ ?_
      rotate_left
      ·simp only [Gtr.ps]
       rfl
      refine pure_ (i := 32) (N := some 35) (v := ?_) (a' := ?_) (Gtr.bb 33 8589934591) rfl rfl (any_of HT_.out (by kernel_rfl)) (fun _ _ _ h => h) (Or.inl ⟨by rfl, ?_⟩) ?_ ?_
      rotate_left
      ·intro w'
       go_simp
       with_reducible rfl
      rotate_left
      ·simp only [Gtr.ps]
       rfl
      refine done_ (done_of HT_.out (by kernel_rfl)) ?_
      try go_wp2
      go_meet
      case rel => exact ⟨_, (true), (by first | rfl | (simp; done) | (simp [*]; done)), H', ⟨by first | omega | exact Nat.le_refl _⟩, ⟨by (with_reducible repeat (first | refine blk_drewN ?_ _ | refine blk_drew ?_ | refine blk_alloc ?_ _)); exact BK923.out⟩, ⟨(Gtr.bw HB.out)⟩⟩
    ·rw [if_neg c16] at H
     have c16b0 : (a0_1.toList == t927.toList) = false := beq_eq_false_iff_ne.mpr c16
     have c16b1 : (a0_1.toList != t927.toList) = true := bne_iff_ne.mpr c16
     have H' := Aside0.mk H
     clear H
     try go_wp2
     have n0_ := Aside0.mk (blk_drew BK923.out)
     have n1_ := Aside0.mk (below_drew1 HB.out)
     clear BK923
     clear HB
     have BK923 := n0_
     have HB := n1_
     clear n0_ n1_
     refine start_ (n := 33) (S := fun w' => w'.cell? ⟨gb923, 0, none⟩ = some (.int .i64 a0_0) ∧ w'.cell? ⟨gb923, 1, none⟩ = some (.string a0_1) ∧ w'.cell? ⟨gb923, 2, none⟩ = some (.string a0_2) ∧ w'.cell? ⟨gb923, 3, none⟩ = some (.int .i64 a0_3) ∧ w'.cell? ⟨gb923, 4, none⟩ = some (.int .i64 a0_4) ∧ w'.cell? ⟨gb923, 5, none⟩ = some (.slice A0_5 l0_5.length c0_5)) (ds := []) (Gtr.bb 33 0) (by kernel_rfl) rfl rfl ⟨(blk_cell BK923.out 0).trans rfl, (blk_cell BK923.out 1).trans rfl, (blk_cell BK923.out 2).trans rfl, (blk_cell BK923.out 3).trans rfl, (blk_cell BK923.out 4).trans rfl, (blk_cell BK923.out 5).trans rfl⟩ (fun hHeld => ?_); refine with_tabW impl_GoodJob.tab1 impl_GoodJob.bits1 (fun HT_ HW_ => ?_)
     generalize w3.drew = w27 at BK923 HB hHeld ⊢
     refine pure_ (i := 0) (N := some 3) (v := ?_) (a' := ?_) (Gtr.bb 33 1) rfl rfl (any_of HT_.out (by kernel_rfl)) (fun _ _ _ h => h) (Or.inl ⟨by rfl, ?_⟩) ?_ ?_
     rotate_left
     ·intro w'
      go_simp
      with_reducible rfl
     rotate_left
     ·simp only [Gtr.ps]
      rfl
     refine take_ (i := 1) (N := some 4) (v := ?_) (a' := ?_) (Gtr.bb 33 3) rfl rfl (take_ofW HT_.out HW_.out (by kernel_rfl)) (fun _ _ _ h => h) (Or.inl ⟨by rfl, ?_⟩) hHeld ?_ ?_
     rotate_left
     ·rintro w' ⟨s0, s1, s2, s3, s4, s5⟩
      go_simp
      with_reducible rfl
     rotate_left
     ·simp only [Gtr.ps]
      rfl
     refine one_ (i := 2) (N := some 5) (Gtr.bb 33 7) rfl rfl (one_of HT_.out (by kernel_rfl)) (by decide) (fun K hK => ?_)
     refine goes_ Tryz.func71 (by kernel_rfl) rfl #[.int .i64 a0_0, .int .i64 1, .int .i64 6] (by rfl) rfl rfl (by (try simp only [List.map_toArray, List.map_cons, List.map_nil]); first | done | rfl | (simp only [List.length_drop, List.length_take]; rfl)) ?_
     with_reducible refine (impl_within.calls a0_0 1 6 true _ A4.out).mono ?_
     rintro e w' ⟨rfl, ⟨nd, rfl⟩⟩
     refine ⟨_, rfl, ?_⟩
     refine hK.out _ _ ⟨(blk_cell BK923.out 0).trans rfl, (blk_cell BK923.out 1).trans rfl, (blk_cell BK923.out 2).trans rfl, (blk_cell BK923.out 3).trans rfl, (blk_cell BK923.out 4).trans rfl, (blk_cell BK923.out 5).trans rfl⟩ (fun hHeld => ?_)
     clear hK K
     refine norm_ (a' := ?_) ?_ ?_
     rotate_left
     ·show Act.put _ (some 5) _ = _
      simp only [Gtr.ps]
      rfl
     refine pure_ (i := 3) (N := some 6) (v := ?_) (a' := ?_) (Gtr.bb 33 15) rfl rfl (any_of HT_.out (by kernel_rfl)) (fun _ _ _ h => h) (Or.inl ⟨by rfl, ?_⟩) ?_ ?_
     rotate_left
     ·intro w'
      go_simp
      with_reducible rfl
     rotate_left
     ·simp only [Gtr.ps]
      rfl
     refine pure_ (i := 4) (N := some 7) (v := ?_) (a' := ?_) (Gtr.bb 33 31) rfl rfl (any_of HT_.out (by kernel_rfl)) (fun _ _ _ h => h) (Or.inl ⟨by rfl, ?_⟩) ?_ ?_
     rotate_left
     ·intro w'
      go_simp
      with_reducible rfl
     rotate_left
     ·simp only [Gtr.ps]
      rfl
     refine pure_ (i := 5) (N := some 8) (v := ?_) (a' := ?_) (Gtr.bb 33 63) rfl rfl (any_of HT_.out (by kernel_rfl)) (fun _ _ _ h => h) (Or.inl ⟨by rfl, ?_⟩) ?_ ?_
     rotate_left
     ·intro w'
      go_simp
      with_reducible rfl
     rotate_left
     ·simp only [Gtr.ps]
      rfl
     refine take_ (i := 6) (N := some 9) (v := ?_) (a' := ?_) (Gtr.bb 33 127) rfl rfl (take_ofW HT_.out HW_.out (by kernel_rfl)) (fun _ _ _ h => h) (Or.inl ⟨by rfl, ?_⟩) hHeld ?_ ?_
     rotate_left
     ·rintro w' ⟨s0, s1, s2, s3, s4, s5⟩
      go_simp
      with_reducible rfl
     rotate_left
     ·simp only [Gtr.ps]
      rfl
     refine pure_ (i := 7) (N := some 10) (v := ?_) (a' := ?_) (Gtr.bb 33 255) rfl rfl (any_of HT_.out (by kernel_rfl)) (fun _ _ _ h => h) (Or.inl ⟨by rfl, ?_⟩) ?_ ?_
     rotate_left
     ·intro w'
      go_simp
      with_reducible rfl
     rotate_left
     ·simp only [Gtr.ps]
      rfl
     refine pure_ (i := 8) (N := some 11) (v := ?_) (a' := ?_) (Gtr.bb 33 511) rfl rfl (any_of HT_.out (by kernel_rfl)) (fun _ _ _ h => h) (Or.inl ⟨by rfl, ?_⟩) ?_ ?_
     rotate_left
     ·intro w'
      go_simp
      with_reducible rfl
     rotate_left
     ·simp only [Gtr.ps]
      rfl
     refine pure_ (i := 9) (N := some 12) (v := ?_) (a' := ?_) (Gtr.bb 33 1023) rfl rfl (any_of HT_.out (by kernel_rfl)) (fun _ _ _ h => h) (Or.inl ⟨by rfl, ?_⟩) ?_ ?_
     rotate_left
     ·intro w'
      go_simp
      with_reducible rfl
     rotate_left
     ·simp only [Gtr.ps]
      rfl
     refine pure_ (i := 11) (N := some 14) (v := ?_) (a' := ?_) (Gtr.bb 33 3071) rfl rfl (any_of HT_.out (by kernel_rfl)) (fun _ _ _ h => h) (Or.inl ⟨by rfl, ?_⟩) ?_ ?_
     rotate_left
     ·intro w'
      go_simp
      with_reducible rfl
     rotate_left
     ·simp only [Gtr.ps]
      rfl
     refine take_ (i := 10) (N := some 13) (v := ?_) (a' := ?_) (Gtr.bb 33 4095) rfl rfl (take_ofW HT_.out HW_.out (by kernel_rfl)) (fun _ _ _ h => h) (Or.inl ⟨by rfl, ?_⟩) hHeld ?_ ?_
     rotate_left
     ·rintro w' ⟨s0, s1, s2, s3, s4, s5⟩
      go_simp
      with_reducible rfl
     rotate_left
     ·simp only [Gtr.ps]
      rfl
     refine take_ (i := 12) (N := some 15) (v := ?_) (a' := ?_) (Gtr.bb 33 8191) rfl rfl (take_ofW HT_.out HW_.out (by kernel_rfl)) (fun _ _ _ h => h) (Or.inl ⟨by rfl, ?_⟩) hHeld ?_ ?_
     rotate_left
     ·rintro w' ⟨s0, s1, s2, s3, s4, s5⟩
      go_simp
      with_reducible rfl
     rotate_left
     ·simp only [Gtr.ps]
      rfl
     refine one_ (i := 13) (N := some 16) (Gtr.bb 33 16383) rfl rfl (one_of HT_.out (by kernel_rfl)) (by decide) (fun K hK => ?_)
     refine goes_ Tryz.func98 (by kernel_rfl) rfl #[.int .i64 a0_0] (by rfl) rfl rfl (by (try simp only [List.map_toArray, List.map_cons, List.map_nil]); first | done | rfl | (simp only [List.length_drop, List.length_take]; rfl)) ?_
     with_reducible refine (impl_flagOf.calls a0_0 t927 _ A15.out).mono ?_
     rintro e w28 ⟨rfl, hb⟩
     refine ⟨_, rfl, ?_⟩
     have n0_ := Aside0.mk (blk_below (g := gb923) (o := .cells #[.int .i64 a0_0, .string a0_1, .string a0_2, .int .i64 a0_3, .int .i64 a0_4, .slice A0_5 l0_5.length c0_5] 49 (0, 0)) (by (with_reducible repeat (first | refine blk_drewN ?_ _ | refine blk_drew ?_ | refine blk_alloc ?_ _)); exact BK923.out) hb)
     have n1_ := Aside0.mk (below_step (Gtr.bw HB.out) hb)
     clear BK923
     clear HB
     have BK923 := n0_
     have HB := n1_
     clear n0_ n1_
     (try clear hb);(try clear hb2);(try clear hk);(try clear hi)
     refine hK.out _ _ ⟨(blk_cell BK923.out 0).trans rfl, (blk_cell BK923.out 1).trans rfl, (blk_cell BK923.out 2).trans rfl, (blk_cell BK923.out 3).trans rfl, (blk_cell BK923.out 4).trans rfl, (blk_cell BK923.out 5).trans rfl⟩ (fun hHeld => ?_)
     clear hK K
     refine norm_ (a' := ?_) ?_ ?_
     rotate_left
     ·show Act.put _ (some 16) _ = _
      simp only [Gtr.ps]
      rfl
     refine pure_ (i := 14) (N := some 17) (v := ?_) (a' := ?_) (Gtr.bb 33 32767) rfl rfl (any_of HT_.out (by kernel_rfl)) (fun _ _ _ h => h) (Or.inl ⟨by rfl, ?_⟩) ?_ ?_
     rotate_left
     ·intro w'
      go_simp
      with_reducible rfl
     rotate_left
     ·simp only [Gtr.ps]
      rfl
     refine pure_ (i := 15) (N := some 18) (v := ?_) (a' := ?_) (Gtr.bb 33 65535) rfl rfl (any_of HT_.out (by kernel_rfl)) (fun _ _ _ h => h) (Or.inl ⟨by rfl, ?_⟩) ?_ ?_
     rotate_left
     ·intro w'
      go_simp
      with_reducible rfl
     rotate_left
     ·simp only [Gtr.ps]
      rfl
     refine pure_ (i := 16) (N := some 19) (v := ?_) (a' := ?_) (Gtr.bb 33 131071) rfl rfl (any_of HT_.out (by kernel_rfl)) (fun _ _ _ h => h) (Or.inl ⟨by rfl, ?_⟩) ?_ ?_
     rotate_left
     ·intro w'
      go_simp
      with_reducible rfl
     rotate_left
     ·simp only [Gtr.ps]
      rfl
     refine pure_ (i := 17) (N := some 20) (v := ?_) (a' := ?_) (Gtr.bb 33 262143) rfl rfl (any_of HT_.out (by kernel_rfl)) (fun _ _ _ h => h) (Or.inl ⟨by rfl, ?_⟩) ?_ ?_
     rotate_left
     ·intro w'
      go_simp
      with_reducible rfl
     rotate_left
     ·simp only [Gtr.ps]
      rfl
     refine pure_ (i := 18) (N := some 21) (v := undef) (a' := ?_) (Gtr.bb 33 524287) rfl rfl (any_of HT_.out (by kernel_rfl)) (fun _ _ _ h => h) (Or.inr ⟨by rfl, rfl⟩) ?_ ?_
     rotate_left
     ·simp only [Gtr.ps]
      rfl
     refine pure_ (i := 19) (N := some 22) (v := undef) (a' := ?_) (Gtr.bb 33 1048575) rfl rfl (any_of HT_.out (by kernel_rfl)) (fun _ _ _ h => h) (Or.inr ⟨by rfl, rfl⟩) ?_ ?_
     rotate_left
     ·simp only [Gtr.ps]
      rfl
     refine pure_ (i := 20) (N := some 23) (v := undef) (a' := ?_) (Gtr.bb 33 2097151) rfl rfl (any_of HT_.out (by kernel_rfl)) (fun _ _ _ h => h) (Or.inr ⟨by rfl, rfl⟩) ?_ ?_
     rotate_left
     ·simp only [Gtr.ps]
      rfl
     refine pure_ (i := 21) (N := some 24) (v := undef) (a' := ?_) (Gtr.bb 33 4194303) rfl rfl (any_of HT_.out (by kernel_rfl)) (fun _ _ _ h => h) (Or.inr ⟨by rfl, rfl⟩) ?_ ?_
     rotate_left
     ·simp only [Gtr.ps]
      rfl
     refine pure_ (i := 22) (N := some 25) (v := undef) (a' := ?_) (Gtr.bb 33 8388607) rfl rfl (any_of HT_.out (by kernel_rfl)) (fun _ _ _ h => h) (Or.inr ⟨by rfl, rfl⟩) ?_ ?_
     rotate_left
     ·simp only [Gtr.ps]
      rfl
     refine pure_ (i := 23) (N := some 26) (v := undef) (a' := ?_) (Gtr.bb 33 16777215) rfl rfl (any_of HT_.out (by kernel_rfl)) (fun _ _ _ h => h) (Or.inr ⟨by rfl, rfl⟩) ?_ ?_
     rotate_left
     ·simp only [Gtr.ps]
      rfl
     refine pure_ (i := 24) (N := some 27) (v := ?_) (a' := ?_) (Gtr.bb 33 33554431) rfl rfl (any_of HT_.out (by kernel_rfl)) (fun _ _ _ h => h) (Or.inl ⟨by rfl, ?_⟩) ?_ ?_
     rotate_left
     ·intro w'
      go_simp
      with_reducible rfl
     rotate_left
     ·simp only [Gtr.ps]
      rfl
     refine pure_ (i := 25) (N := some 28) (v := ?_) (a' := ?_) (Gtr.bb 33 67108863) rfl rfl (any_of HT_.out (by kernel_rfl)) (fun _ _ _ h => h) (Or.inl ⟨by rfl, ?_⟩) ?_ ?_
     rotate_left
     ·intro w'
      go_simp
      with_reducible rfl
     rotate_left
     ·simp only [Gtr.ps]
      rfl
     refine pure_ (i := 26) (N := some 29) (v := undef) (a' := ?_) (Gtr.bb 33 134217727) rfl rfl (any_of HT_.out (by kernel_rfl)) (fun _ _ _ h => h) (Or.inr ⟨by rfl, rfl⟩) ?_ ?_
     rotate_left
     ·simp only [Gtr.ps]
      rfl
     refine pure_ (i := 27) (N := some 30) (v := undef) (a' := ?_) (Gtr.bb 33 268435455) rfl rfl (any_of HT_.out (by kernel_rfl)) (fun _ _ _ h => h) (Or.inr ⟨by rfl, rfl⟩) ?_ ?_
     rotate_left
     ·simp only [Gtr.ps]
      rfl
     refine pure_ (i := 28) (N := some 31) (v := undef) (a' := ?_) (Gtr.bb 33 536870911) rfl rfl (any_of HT_.out (by kernel_rfl)) (fun _ _ _ h => h) (Or.inr ⟨by rfl, rfl⟩) ?_ ?_
     rotate_left
     ·simp only [Gtr.ps]
      rfl
     refine pure_ (i := 29) (N := some 32) (v := undef) (a' := ?_) (Gtr.bb 33 1073741823) rfl rfl (any_of HT_.out (by kernel_rfl)) (fun _ _ _ h => h) (Or.inr ⟨by rfl, rfl⟩) ?_ ?_
     rotate_left
     ·simp only [Gtr.ps]
      rfl
     refine pure_ (i := 30) (N := some 33) (v := undef) (a' := ?_) (Gtr.bb 33 2147483647) rfl rfl (any_of HT_.out (by kernel_rfl)) (fun _ _ _ h => h) (Or.inr ⟨by rfl, rfl⟩) ?_ ?_
     rotate_left
     ·simp only [Gtr.ps]
      rfl
     refine pure_ (i := 31) (N := some 34) (v := undef) (a' := ?_) (Gtr.bb 33 4294967295) rfl rfl (any_of HT_.out (by kernel_rfl)) (fun _ _ _ h => h) (Or.inr ⟨by rfl, rfl⟩) ?_ ?_
     rotate_left
     ·simp only [Gtr.ps]
      rfl
     refine pure_ (i := 32) (N := some 35) (v := ?_) (a' := ?_) (Gtr.bb 33 8589934591) rfl rfl (any_of HT_.out (by kernel_rfl)) (fun _ _ _ h => h) (Or.inl ⟨by rfl, ?_⟩) ?_ ?_
     rotate_left
     ·intro w'
      go_simp
      with_reducible rfl
     rotate_left
     ·simp only [Gtr.ps]
      rfl
     refine done_ (done_of HT_.out (by kernel_rfl)) ?_
     try go_wp2
     go_meet
     case rel => exact ⟨_, (true), (by first | rfl | (simp; done) | (simp [*]; done)), H', ⟨by first | omega | exact Nat.le_refl _⟩, ⟨by (with_reducible repeat (first | refine blk_drewN ?_ _ | refine blk_drew ?_ | refine blk_alloc ?_ _)); exact BK923.out⟩, ⟨(Gtr.bw HB.out)⟩⟩
  ·replace c5 := Bool.eq_false_iff.mpr c5
   subst c5
   have H1 : (impl_GoodJob.j0 k true a0_0 a0_1 a0_2 a0_3 a0_4 l0_5) = some r := by rw [if_neg (show ¬ (false = true) by decide)] at H; exact H
   clear H
   have H := H1
   clear H1
   have H' := Aside0.mk H
   clear H
   try go_wp2
   have n0_ := Aside0.mk (blk_drew BK923.out)
   have n1_ := Aside0.mk (below_drew1 HB.out)
   clear BK923
   clear HB
   have BK923 := n0_
   have HB := n1_
   clear n0_ n1_
   refine start_ (n := 33) (S := fun w' => w'.cell? ⟨gb923, 0, none⟩ = some (.int .i64 a0_0) ∧ w'.cell? ⟨gb923, 1, none⟩ = some (.string a0_1) ∧ w'.cell? ⟨gb923, 2, none⟩ = some (.string a0_2) ∧ w'.cell? ⟨gb923, 3, none⟩ = some (.int .i64 a0_3) ∧ w'.cell? ⟨gb923, 4, none⟩ = some (.int .i64 a0_4) ∧ w'.cell? ⟨gb923, 5, none⟩ = some (.slice A0_5 l0_5.length c0_5)) (ds := []) (Gtr.bb 33 0) (by kernel_rfl) rfl rfl ⟨(blk_cell BK923.out 0).trans rfl, (blk_cell BK923.out 1).trans rfl, (blk_cell BK923.out 2).trans rfl, (blk_cell BK923.out 3).trans rfl, (blk_cell BK923.out 4).trans rfl, (blk_cell BK923.out 5).trans rfl⟩ (fun hHeld => ?_); refine with_tabW impl_GoodJob.tab1 impl_GoodJob.bits1 (fun HT_ HW_ => ?_)
   generalize w3.drew = w29 at BK923 HB hHeld ⊢
   refine pure_ (i := 0) (N := some 3) (v := ?_) (a' := ?_) (Gtr.bb 33 1) rfl rfl (any_of HT_.out (by kernel_rfl)) (fun _ _ _ h => h) (Or.inl ⟨by rfl, ?_⟩) ?_ ?_
   rotate_left
   ·intro w'
    go_simp
    with_reducible rfl
   rotate_left
   ·simp only [Gtr.ps]
    rfl
   refine take_ (i := 1) (N := some 4) (v := ?_) (a' := ?_) (Gtr.bb 33 3) rfl rfl (take_ofW HT_.out HW_.out (by kernel_rfl)) (fun _ _ _ h => h) (Or.inl ⟨by rfl, ?_⟩) hHeld ?_ ?_
   rotate_left
   ·rintro w' ⟨s0, s1, s2, s3, s4, s5⟩
    go_simp
    with_reducible rfl
   rotate_left
   ·simp only [Gtr.ps]
    rfl
   refine one_ (i := 2) (N := some 5) (Gtr.bb 33 7) rfl rfl (one_of HT_.out (by kernel_rfl)) (by decide) (fun K hK => ?_)
   refine goes_ Tryz.func71 (by kernel_rfl) rfl #[.int .i64 a0_0, .int .i64 1, .int .i64 6] (by rfl) rfl rfl (by (try simp only [List.map_toArray, List.map_cons, List.map_nil]); first | done | rfl | (simp only [List.length_drop, List.length_take]; rfl)) ?_
   with_reducible refine (impl_within.calls a0_0 1 6 false _ A4.out).mono ?_
   rintro e w' ⟨rfl, ⟨nd, rfl⟩⟩
   refine ⟨_, rfl, ?_⟩
   refine hK.out _ _ ⟨(blk_cell BK923.out 0).trans rfl, (blk_cell BK923.out 1).trans rfl, (blk_cell BK923.out 2).trans rfl, (blk_cell BK923.out 3).trans rfl, (blk_cell BK923.out 4).trans rfl, (blk_cell BK923.out 5).trans rfl⟩ (fun hHeld => ?_)
   clear hK K
   refine norm_ (a' := ?_) ?_ ?_
   rotate_left
   ·show Act.put _ (some 5) _ = _
    simp only [Gtr.ps]
    rfl
   refine pure_ (i := 3) (N := some 6) (v := ?_) (a' := ?_) (Gtr.bb 33 15) rfl rfl (any_of HT_.out (by kernel_rfl)) (fun _ _ _ h => h) (Or.inl ⟨by rfl, ?_⟩) ?_ ?_
   rotate_left
   ·intro w'
    go_simp
    with_reducible rfl
   rotate_left
   ·simp only [Gtr.ps]
    rfl
   refine pure_ (i := 4) (N := some 7) (v := ?_) (a' := ?_) (Gtr.bb 33 31) rfl rfl (any_of HT_.out (by kernel_rfl)) (fun _ _ _ h => h) (Or.inl ⟨by rfl, ?_⟩) ?_ ?_
   rotate_left
   ·intro w'
    go_simp
    with_reducible rfl
   rotate_left
   ·simp only [Gtr.ps]
    rfl
   refine pure_ (i := 5) (N := some 8) (v := undef) (a' := ?_) (Gtr.bb 33 63) rfl rfl (any_of HT_.out (by kernel_rfl)) (fun _ _ _ h => h) (Or.inr ⟨by rfl, rfl⟩) ?_ ?_
   rotate_left
   ·simp only [Gtr.ps]
    rfl
   refine pure_ (i := 6) (N := some 9) (v := undef) (a' := ?_) (Gtr.bb 33 127) rfl rfl (any_of HT_.out (by kernel_rfl)) (fun _ _ _ h => h) (Or.inr ⟨by rfl, rfl⟩) ?_ ?_
   rotate_left
   ·simp only [Gtr.ps]
    rfl
   refine pure_ (i := 7) (N := some 10) (v := undef) (a' := ?_) (Gtr.bb 33 255) rfl rfl (any_of HT_.out (by kernel_rfl)) (fun _ _ _ h => h) (Or.inr ⟨by rfl, rfl⟩) ?_ ?_
   rotate_left
   ·simp only [Gtr.ps]
    rfl
   refine pure_ (i := 8) (N := some 11) (v := undef) (a' := ?_) (Gtr.bb 33 511) rfl rfl (any_of HT_.out (by kernel_rfl)) (fun _ _ _ h => h) (Or.inr ⟨by rfl, rfl⟩) ?_ ?_
   rotate_left
   ·simp only [Gtr.ps]
    rfl
   refine pure_ (i := 9) (N := some 12) (v := undef) (a' := ?_) (Gtr.bb 33 1023) rfl rfl (any_of HT_.out (by kernel_rfl)) (fun _ _ _ h => h) (Or.inr ⟨by rfl, rfl⟩) ?_ ?_
   rotate_left
   ·simp only [Gtr.ps]
    rfl
   refine pure_ (i := 10) (N := some 13) (v := undef) (a' := ?_) (Gtr.bb 33 2047) rfl rfl (any_of HT_.out (by kernel_rfl)) (fun _ _ _ h => h) (Or.inr ⟨by rfl, rfl⟩) ?_ ?_
   rotate_left
   ·simp only [Gtr.ps]
    rfl
   refine pure_ (i := 11) (N := some 14) (v := undef) (a' := ?_) (Gtr.bb 33 4095) rfl rfl (any_of HT_.out (by kernel_rfl)) (fun _ _ _ h => h) (Or.inr ⟨by rfl, rfl⟩) ?_ ?_
   rotate_left
   ·simp only [Gtr.ps]
    rfl
   refine pure_ (i := 12) (N := some 15) (v := undef) (a' := ?_) (Gtr.bb 33 8191) rfl rfl (any_of HT_.out (by kernel_rfl)) (fun _ _ _ h => h) (Or.inr ⟨by rfl, rfl⟩) ?_ ?_
   rotate_left
   ·simp only [Gtr.ps]
    rfl
   refine pure_ (i := 13) (N := some 16) (v := undef) (a' := ?_) (Gtr.bb 33 16383) rfl rfl (any_of HT_.out (by kernel_rfl)) (fun _ _ _ h => h) (Or.inr ⟨by rfl, rfl⟩) ?_ ?_
   rotate_left
   ·simp only [Gtr.ps]
    rfl
   refine pure_ (i := 14) (N := some 17) (v := undef) (a' := ?_) (Gtr.bb 33 32767) rfl rfl (any_of HT_.out (by kernel_rfl)) (fun _ _ _ h => h) (Or.inr ⟨by rfl, rfl⟩) ?_ ?_
   rotate_left
   ·simp only [Gtr.ps]
    rfl
   refine pure_ (i := 15) (N := some 18) (v := undef) (a' := ?_) (Gtr.bb 33 65535) rfl rfl (any_of HT_.out (by kernel_rfl)) (fun _ _ _ h => h) (Or.inr ⟨by rfl, rfl⟩) ?_ ?_
   rotate_left
   ·simp only [Gtr.ps]
    rfl
   refine pure_ (i := 16) (N := some 19) (v := ?_) (a' := ?_) (Gtr.bb 33 131071) rfl rfl (any_of HT_.out (by kernel_rfl)) (fun _ _ _ h => h) (Or.inl ⟨by rfl, ?_⟩) ?_ ?_
   rotate_left
   ·intro w'
    go_simp
    with_reducible rfl
   rotate_left
   ·simp only [Gtr.ps]
    rfl
   refine pure_ (i := 17) (N := some 20) (v := ?_) (a' := ?_) (Gtr.bb 33 262143) rfl rfl (any_of HT_.out (by kernel_rfl)) (fun _ _ _ h => h) (Or.inl ⟨by rfl, ?_⟩) ?_ ?_
   rotate_left
   ·intro w'
    go_simp
    with_reducible rfl
   rotate_left
   ·simp only [Gtr.ps]
    rfl
   refine pure_ (i := 18) (N := some 21) (v := undef) (a' := ?_) (Gtr.bb 33 524287) rfl rfl (any_of HT_.out (by kernel_rfl)) (fun _ _ _ h => h) (Or.inr ⟨by rfl, rfl⟩) ?_ ?_
   rotate_left
   ·simp only [Gtr.ps]
    rfl
   refine pure_ (i := 19) (N := some 22) (v := undef) (a' := ?_) (Gtr.bb 33 1048575) rfl rfl (any_of HT_.out (by kernel_rfl)) (fun _ _ _ h => h) (Or.inr ⟨by rfl, rfl⟩) ?_ ?_
   rotate_left
   ·simp only [Gtr.ps]
    rfl
   refine pure_ (i := 20) (N := some 23) (v := undef) (a' := ?_) (Gtr.bb 33 2097151) rfl rfl (any_of HT_.out (by kernel_rfl)) (fun _ _ _ h => h) (Or.inr ⟨by rfl, rfl⟩) ?_ ?_
   rotate_left
   ·simp only [Gtr.ps]
    rfl
   refine pure_ (i := 21) (N := some 24) (v := undef) (a' := ?_) (Gtr.bb 33 4194303) rfl rfl (any_of HT_.out (by kernel_rfl)) (fun _ _ _ h => h) (Or.inr ⟨by rfl, rfl⟩) ?_ ?_
   rotate_left
   ·simp only [Gtr.ps]
    rfl
   refine pure_ (i := 22) (N := some 25) (v := undef) (a' := ?_) (Gtr.bb 33 8388607) rfl rfl (any_of HT_.out (by kernel_rfl)) (fun _ _ _ h => h) (Or.inr ⟨by rfl, rfl⟩) ?_ ?_
   rotate_left
   ·simp only [Gtr.ps]
    rfl
   refine pure_ (i := 23) (N := some 26) (v := undef) (a' := ?_) (Gtr.bb 33 16777215) rfl rfl (any_of HT_.out (by kernel_rfl)) (fun _ _ _ h => h) (Or.inr ⟨by rfl, rfl⟩) ?_ ?_
   rotate_left
   ·simp only [Gtr.ps]
    rfl
   refine pure_ (i := 24) (N := some 27) (v := ?_) (a' := ?_) (Gtr.bb 33 33554431) rfl rfl (any_of HT_.out (by kernel_rfl)) (fun _ _ _ h => h) (Or.inl ⟨by rfl, ?_⟩) ?_ ?_
   rotate_left
   ·intro w'
    go_simp
    with_reducible rfl
   rotate_left
   ·simp only [Gtr.ps]
    rfl
   refine pure_ (i := 25) (N := some 28) (v := ?_) (a' := ?_) (Gtr.bb 33 67108863) rfl rfl (any_of HT_.out (by kernel_rfl)) (fun _ _ _ h => h) (Or.inl ⟨by rfl, ?_⟩) ?_ ?_
   rotate_left
   ·intro w'
    go_simp
    with_reducible rfl
   rotate_left
   ·simp only [Gtr.ps]
    rfl
   refine pure_ (i := 26) (N := some 29) (v := undef) (a' := ?_) (Gtr.bb 33 134217727) rfl rfl (any_of HT_.out (by kernel_rfl)) (fun _ _ _ h => h) (Or.inr ⟨by rfl, rfl⟩) ?_ ?_
   rotate_left
   ·simp only [Gtr.ps]
    rfl
   refine pure_ (i := 27) (N := some 30) (v := undef) (a' := ?_) (Gtr.bb 33 268435455) rfl rfl (any_of HT_.out (by kernel_rfl)) (fun _ _ _ h => h) (Or.inr ⟨by rfl, rfl⟩) ?_ ?_
   rotate_left
   ·simp only [Gtr.ps]
    rfl
   refine pure_ (i := 28) (N := some 31) (v := undef) (a' := ?_) (Gtr.bb 33 536870911) rfl rfl (any_of HT_.out (by kernel_rfl)) (fun _ _ _ h => h) (Or.inr ⟨by rfl, rfl⟩) ?_ ?_
   rotate_left
   ·simp only [Gtr.ps]
    rfl
   refine pure_ (i := 29) (N := some 32) (v := undef) (a' := ?_) (Gtr.bb 33 1073741823) rfl rfl (any_of HT_.out (by kernel_rfl)) (fun _ _ _ h => h) (Or.inr ⟨by rfl, rfl⟩) ?_ ?_
   rotate_left
   ·simp only [Gtr.ps]
    rfl
   refine pure_ (i := 30) (N := some 33) (v := undef) (a' := ?_) (Gtr.bb 33 2147483647) rfl rfl (any_of HT_.out (by kernel_rfl)) (fun _ _ _ h => h) (Or.inr ⟨by rfl, rfl⟩) ?_ ?_
   rotate_left
   ·simp only [Gtr.ps]
    rfl
   refine pure_ (i := 31) (N := some 34) (v := undef) (a' := ?_) (Gtr.bb 33 4294967295) rfl rfl (any_of HT_.out (by kernel_rfl)) (fun _ _ _ h => h) (Or.inr ⟨by rfl, rfl⟩) ?_ ?_
   rotate_left
   ·simp only [Gtr.ps]
    rfl
   refine pure_ (i := 32) (N := some 35) (v := ?_) (a' := ?_) (Gtr.bb 33 8589934591) rfl rfl (any_of HT_.out (by kernel_rfl)) (fun _ _ _ h => h) (Or.inl ⟨by rfl, ?_⟩) ?_ ?_
   rotate_left
   ·intro w'
    go_simp
    with_reducible rfl
   rotate_left
   ·simp only [Gtr.ps]
    rfl
   refine done_ (done_of HT_.out (by kernel_rfl)) ?_
   try go_wp2
   go_meet
   case rel => exact ⟨_, (true), (by first | rfl | (simp; done) | (simp [*]; done)), H', ⟨by first | omega | exact Nat.le_refl _⟩, ⟨by (with_reducible repeat (first | refine blk_drewN ?_ _ | refine blk_drew ?_ | refine blk_alloc ?_ _)); exact BK923.out⟩, ⟨(Gtr.bw HB.out)⟩⟩
 case rest =>
  clear HC2
  (try clear c1);(try clear p2);(try clear c5);(try clear c7);(try clear c9);(try clear c10);(try clear c16);(try clear c16b0);(try clear c16b1)
  obtain ⟨kq, x35_1, rfl, HA, HJ1, BK923, HB⟩ := hcut
  cases kq with
  | zero => exact absurd HA.out (by simp [impl_GoodJob.j0])
  | succ kj1 =>
   have H := HA.out
   clear HA
   simp only [impl_GoodJob.j0] at H
   by_cases c30 : x35_1 = true
   ·subst c30
    have H1 := H
    rw [if_pos rfl] at H1
    clear H
    have H := H1
    clear H1
    obtain rfl := Option.some.inj H
    go_wp2
    go_ret
    exact ⟨by first | rfl | (simp [errW_none, errW_some] <;> rfl) | (simp [*, errW_none, errW_some] <;> rfl), (Gtr.bw HB.out)⟩
   ·replace c30 := Bool.eq_false_iff.mpr c30
    subst c30
    have H1 : (if a0_0 = 4 then ((impl_areOwners.f a0_3 a0_4).bind fun t930 => (if t930 = true then (if a0_3 = (-1) then (some (a0_4 != (-1))) else (some true)) else (some false))) else (if a0_3 = 0 then (some (a0_4 == 0)) else (some false))) = some r := by rw [if_neg (show ¬ (false = true) by decide)] at H; exact H
    clear H
    have H := H1
    clear H1
    by_cases c31 : a0_0 = 4
    ·rw [if_pos c31] at H
     have c31b0 : (a0_0 == 4) = true := beq_iff_eq.mpr c31
     have c31b1 : (a0_0 != 4) = false := bne_eq_false_iff_eq.mpr c31
     clear c31
     replace H := Option.bind_eq_some_iff.mp H
     obtain ⟨t930, A320, H⟩ := H
     try dsimp only at H
     have A32 := Aside0.mk A320
     clear A320
     by_cases c33 : t930 = true
     ·subst c33
      have H1 := H
      rw [if_pos rfl] at H1
      clear H
      have H := H1
      clear H1
      by_cases c34 : a0_3 = (-1)
      ·rw [if_pos c34] at H
       have c34b0 : (a0_3 == (-1)) = true := beq_iff_eq.mpr c34
       have c34b1 : (a0_3 != (-1)) = false := bne_eq_false_iff_eq.mpr c34
       clear c34
       obtain rfl := Option.some.inj H
       have hcz35_0 : wc.cell? ⟨gb923, 0, none⟩ = some (.int .i64 a0_0) := (blk_cell BK923.out 0).trans rfl
       have hcz35_1 : wc.cell? ⟨gb923, 1, none⟩ = some (.string a0_1) := (blk_cell BK923.out 1).trans rfl
       have hcz35_2 : wc.cell? ⟨gb923, 2, none⟩ = some (.string a0_2) := (blk_cell BK923.out 2).trans rfl
       have hcz35_3 : wc.cell? ⟨gb923, 3, none⟩ = some (.int .i64 a0_3) := (blk_cell BK923.out 3).trans rfl
       have hcz35_4 : wc.cell? ⟨gb923, 4, none⟩ = some (.int .i64 a0_4) := (blk_cell BK923.out 4).trans rfl
       have hcz35_5 : wc.cell? ⟨gb923, 5, none⟩ = some (.slice A0_5 l0_5.length c0_5) := (blk_cell BK923.out 5).trans rfl
       have hfz35_0 := blk_frozen BK923.out 0
       have hfz35_1 := blk_frozen BK923.out 1
       have hfz35_2 := blk_frozen BK923.out 2
       have hfz35_3 := blk_frozen BK923.out 3
       have hfz35_4 := blk_frozen BK923.out 4
       have hfz35_5 := blk_frozen BK923.out 5
       go_wp2_with (first | ((with_reducible refine gate_callee (f := 107) rfl ?_); refine goesL_ (some 43) rfl rfl Tryz.func107 (by kernel_rfl) rfl #[.int .i64 a0_3, .int .i64 a0_4] rfl (by (try simp only [List.map_toArray, List.map_cons, List.map_nil]); first | done | rfl | (simp only [List.length_drop, List.length_take]; rfl)) ?_; (with_reducible refine (impl_areOwners.calls a0_3 a0_4 true _ A32.out).mono ?_); rintro e w' ⟨rfl, ⟨nd, rfl⟩⟩; refine ⟨_, rfl, ?_⟩))
       go_ret
       exact ⟨by first | rfl | (simp [errW_none, errW_some] <;> rfl) | (simp [*, errW_none, errW_some] <;> rfl), (Gtr.bw HB.out)⟩
      ·rw [if_neg c34] at H
       have c34b0 : (a0_3 == (-1)) = false := beq_eq_false_iff_ne.mpr c34
       have c34b1 : (a0_3 != (-1)) = true := bne_iff_ne.mpr c34
       obtain rfl := Option.some.inj H
       have hcz36_0 : wc.cell? ⟨gb923, 0, none⟩ = some (.int .i64 a0_0) := (blk_cell BK923.out 0).trans rfl
       have hcz36_1 : wc.cell? ⟨gb923, 1, none⟩ = some (.string a0_1) := (blk_cell BK923.out 1).trans rfl
       have hcz36_2 : wc.cell? ⟨gb923, 2, none⟩ = some (.string a0_2) := (blk_cell BK923.out 2).trans rfl
       have hcz36_3 : wc.cell? ⟨gb923, 3, none⟩ = some (.int .i64 a0_3) := (blk_cell BK923.out 3).trans rfl
       have hcz36_4 : wc.cell? ⟨gb923, 4, none⟩ = some (.int .i64 a0_4) := (blk_cell BK923.out 4).trans rfl
       have hcz36_5 : wc.cell? ⟨gb923, 5, none⟩ = some (.slice A0_5 l0_5.length c0_5) := (blk_cell BK923.out 5).trans rfl
       have hfz36_0 := blk_frozen BK923.out 0
       have hfz36_1 := blk_frozen BK923.out 1
       have hfz36_2 := blk_frozen BK923.out 2
       have hfz36_3 := blk_frozen BK923.out 3
       have hfz36_4 := blk_frozen BK923.out 4
       have hfz36_5 := blk_frozen BK923.out 5
       go_wp2_with (first | ((with_reducible refine gate_callee (f := 107) rfl ?_); refine goesL_ (some 43) rfl rfl Tryz.func107 (by kernel_rfl) rfl #[.int .i64 a0_3, .int .i64 a0_4] rfl (by (try simp only [List.map_toArray, List.map_cons, List.map_nil]); first | done | rfl | (simp only [List.length_drop, List.length_take]; rfl)) ?_; (with_reducible refine (impl_areOwners.calls a0_3 a0_4 true _ A32.out).mono ?_); rintro e w' ⟨rfl, ⟨nd, rfl⟩⟩; refine ⟨_, rfl, ?_⟩))
       go_ret
       exact ⟨by first | rfl | (simp [errW_none, errW_some] <;> rfl) | (simp [*, errW_none, errW_some] <;> rfl), (Gtr.bw HB.out)⟩
     ·replace c33 := Bool.eq_false_iff.mpr c33
      subst c33
      have H1 : (some false) = some r := by rw [if_neg (show ¬ (false = true) by decide)] at H; exact H
      clear H
      have H := H1
      clear H1
      obtain rfl := Option.some.inj H
      have hcz37_0 : wc.cell? ⟨gb923, 0, none⟩ = some (.int .i64 a0_0) := (blk_cell BK923.out 0).trans rfl
      have hcz37_1 : wc.cell? ⟨gb923, 1, none⟩ = some (.string a0_1) := (blk_cell BK923.out 1).trans rfl
      have hcz37_2 : wc.cell? ⟨gb923, 2, none⟩ = some (.string a0_2) := (blk_cell BK923.out 2).trans rfl
      have hcz37_3 : wc.cell? ⟨gb923, 3, none⟩ = some (.int .i64 a0_3) := (blk_cell BK923.out 3).trans rfl
      have hcz37_4 : wc.cell? ⟨gb923, 4, none⟩ = some (.int .i64 a0_4) := (blk_cell BK923.out 4).trans rfl
      have hcz37_5 : wc.cell? ⟨gb923, 5, none⟩ = some (.slice A0_5 l0_5.length c0_5) := (blk_cell BK923.out 5).trans rfl
      have hfz37_0 := blk_frozen BK923.out 0
      have hfz37_1 := blk_frozen BK923.out 1
      have hfz37_2 := blk_frozen BK923.out 2
      have hfz37_3 := blk_frozen BK923.out 3
      have hfz37_4 := blk_frozen BK923.out 4
      have hfz37_5 := blk_frozen BK923.out 5
      go_wp2_with (first | ((with_reducible refine gate_callee (f := 107) rfl ?_); refine goesL_ (some 43) rfl rfl Tryz.func107 (by kernel_rfl) rfl #[.int .i64 a0_3, .int .i64 a0_4] rfl (by (try simp only [List.map_toArray, List.map_cons, List.map_nil]); first | done | rfl | (simp only [List.length_drop, List.length_take]; rfl)) ?_; (with_reducible refine (impl_areOwners.calls a0_3 a0_4 false _ A32.out).mono ?_); rintro e w' ⟨rfl, ⟨nd, rfl⟩⟩; refine ⟨_, rfl, ?_⟩))
      go_ret
      exact ⟨by first | rfl | (simp [errW_none, errW_some] <;> rfl) | (simp [*, errW_none, errW_some] <;> rfl), (Gtr.bw HB.out)⟩
    ·rw [if_neg c31] at H
     have c31b0 : (a0_0 == 4) = false := beq_eq_false_iff_ne.mpr c31
     have c31b1 : (a0_0 != 4) = true := bne_iff_ne.mpr c31
     by_cases c38 : a0_3 = 0
     ·rw [if_pos c38] at H
      have c38b0 : (a0_3 == 0) = true := beq_iff_eq.mpr c38
      have c38b1 : (a0_3 != 0) = false := bne_eq_false_iff_eq.mpr c38
      clear c38
      obtain rfl := Option.some.inj H
      have hcz39_0 : wc.cell? ⟨gb923, 0, none⟩ = some (.int .i64 a0_0) := (blk_cell BK923.out 0).trans rfl
      have hcz39_1 : wc.cell? ⟨gb923, 1, none⟩ = some (.string a0_1) := (blk_cell BK923.out 1).trans rfl
      have hcz39_2 : wc.cell? ⟨gb923, 2, none⟩ = some (.string a0_2) := (blk_cell BK923.out 2).trans rfl
      have hcz39_3 : wc.cell? ⟨gb923, 3, none⟩ = some (.int .i64 a0_3) := (blk_cell BK923.out 3).trans rfl
      have hcz39_4 : wc.cell? ⟨gb923, 4, none⟩ = some (.int .i64 a0_4) := (blk_cell BK923.out 4).trans rfl
      have hcz39_5 : wc.cell? ⟨gb923, 5, none⟩ = some (.slice A0_5 l0_5.length c0_5) := (blk_cell BK923.out 5).trans rfl
      have hfz39_0 := blk_frozen BK923.out 0
      have hfz39_1 := blk_frozen BK923.out 1
      have hfz39_2 := blk_frozen BK923.out 2
      have hfz39_3 := blk_frozen BK923.out 3
      have hfz39_4 := blk_frozen BK923.out 4
      have hfz39_5 := blk_frozen BK923.out 5
      go_wp2
      go_ret
      exact ⟨by first | rfl | (simp [errW_none, errW_some] <;> rfl) | (simp [*, errW_none, errW_some] <;> rfl), (Gtr.bw HB.out)⟩
     ·rw [if_neg c38] at H
      have c38b0 : (a0_3 == 0) = false := beq_eq_false_iff_ne.mpr c38
      have c38b1 : (a0_3 != 0) = true := bne_iff_ne.mpr c38
      obtain rfl := Option.some.inj H
      have hcz40_0 : wc.cell? ⟨gb923, 0, none⟩ = some (.int .i64 a0_0) := (blk_cell BK923.out 0).trans rfl
      have hcz40_1 : wc.cell? ⟨gb923, 1, none⟩ = some (.string a0_1) := (blk_cell BK923.out 1).trans rfl
      have hcz40_2 : wc.cell? ⟨gb923, 2, none⟩ = some (.string a0_2) := (blk_cell BK923.out 2).trans rfl
      have hcz40_3 : wc.cell? ⟨gb923, 3, none⟩ = some (.int .i64 a0_3) := (blk_cell BK923.out 3).trans rfl
      have hcz40_4 : wc.cell? ⟨gb923, 4, none⟩ = some (.int .i64 a0_4) := (blk_cell BK923.out 4).trans rfl
      have hcz40_5 : wc.cell? ⟨gb923, 5, none⟩ = some (.slice A0_5 l0_5.length c0_5) := (blk_cell BK923.out 5).trans rfl
      have hfz40_0 := blk_frozen BK923.out 0
      have hfz40_1 := blk_frozen BK923.out 1
      have hfz40_2 := blk_frozen BK923.out 2
      have hfz40_3 := blk_frozen BK923.out 3
      have hfz40_4 := blk_frozen BK923.out 4
      have hfz40_5 := blk_frozen BK923.out 5
      go_wp2
      go_ret
      exact ⟨by first | rfl | (simp [errW_none, errW_some] <;> rfl) | (simp [*, errW_none, errW_some] <;> rfl), (Gtr.bw HB.out)⟩
end Go.Proofs.YtibfocaldcjiiaaGreatDoor.Q

/- The reference's names, parts and paths come to the program's. -/
namespace Go.Proofs.YtibfocaldcjiiaaGreatDoor.Q
open Go.RowKit Go.Proofs.YtibfocaldcjiiaaGreatDoorW.PrintWords Go.Proofs.YtibfocaldcjiiaaGreatDoorW.PrintLast Go.Proofs.YtibfocaldcjiiaaGreatDoorW.PrintMore
attribute [local go_sem] max2_int min2_int max_two min_two max_three min_three max_four min_four   -- for this text's walks alone
set_option linter.unusedVariables false
set_option linter.unusedSimpArgs false

theorem nameB_iff (c : Int) : nameB c = true ↔ (97 ≤ c ∧ c ≤ 122) ∨ (48 ≤ c ∧ c ≤ 57) ∨ c = 46 ∨ c = 95 ∨ c = 45 := by
  unfold nameB; simp
theorem name_step {α : Type} (c : Int) (X F : α) :
    (if c < 97 then (if c < 48 then (if c = 46 then X else (if c = 95 then X else (if c = 45 then X else F))) else (if c > 57 then (if c = 46 then X else (if c = 95 then X else (if c = 45 then X else F))) else X)) else (if c > 122 then (if c < 48 then (if c = 46 then X else (if c = 95 then X else (if c = 45 then X else F))) else (if c > 57 then (if c = 46 then X else (if c = 95 then X else (if c = 45 then X else F))) else X)) else X)) = if nameB c = true then X else F := by
  by_cases h : nameB c = true
  · rw [if_pos h]
    have := (nameB_iff c).mp h
    repeat' split
    all_goals first | rfl | omega
  · rw [if_neg h]
    have := fun q => h ((nameB_iff c).mpr q)
    repeat' split
    all_goals first | rfl | (exfalso; apply this; omega)
theorem l1In_f (n lo hi : Int) : spec_l1In.f n lo hi = some (inB lo hi n) := by
  unfold spec_l1In.f inB
  by_cases h : n ≥ lo
  · rw [if_pos h]; have : lo ≤ n := h; simp [this]
  · rw [if_neg h]; have : ¬ lo ≤ n := h; simp [this]
/-- What the reference's loop over the bytes from place i on ends in. -/
def nameEnd (s : ByteArray) : Bool := inB 1 8 s.size && !(s.toList == [46] || s.toList == [46, 46])
theorem l2Name_loop (s : ByteArray) (hs : s.size < 4294967281) (d : Nat) : ∀ i : Nat, i + d = s.size → Ev (fun k => spec_l2Name.l0 k s (i : Int)) (((bytesOf s).drop i).all nameB && nameEnd s) := by
  induction d with
  | zero =>
    intro i hi
    refine Ev.step (f := fun _ => some (nameEnd s)) (fun k => ?_) ?_
    · simp only [spec_l2Name.l0]
      rw [if_neg (by omega), l1In_f]
      unfold nameEnd
      simp only [Option.bind_some]
      cases inB 1 8 s.size
      · rfl
      · by_cases h1 : s.toList = [46]
        · simp [h1]
        · have e1 : (s.toList == [46]) = false := by simpa using h1
          rw [if_pos rfl, if_neg h1, e1]
          simp [bne]
    · rw [List.drop_of_length_le (by rw [bytesOf_length]; omega)]
      simpa using Ev.now (nameEnd s)
  | succ d ih =>
    intro i hi
    have hlt : i < s.size := by omega
    have hw := step_n (i := i) (n := s.size) hlt (by omega)
    have e : ∀ k, spec_l2Name.l0 (k + 1) s (i : Int) = if nameB (bt s i) = true then spec_l2Name.l0 k s ((i + 1 : Nat) : Int) else some false := fun k => by
      simp only [spec_l2Name.l0]
      rw [if_pos (by omega), if_pos (by omega), hw, name_step]
    have hdrop : (bytesOf s).drop i = bt s i :: (bytesOf s).drop (i + 1) := by
      rw [List.drop_eq_getElem_cons (by rw [bytesOf_length]; exact hlt)]
      congr 1
      have := rd_bytesOf s (i : Int)
      rw [← this]
      simp [rd, rdOf, List.getD, bytesOf_length, hlt]
    rw [hdrop, List.all_cons]
    by_cases hn : nameB (bt s i) = true
    · rw [hn, Bool.true_and]
      exact Ev.step (fun k => by rw [e k, if_pos hn]) (ih (i + 1) (by omega))
    · have hn' : nameB (bt s i) = false := by simpa using hn
      rw [hn', Bool.false_and, Bool.false_and]
      exact Ev.step (f := fun _ => some false) (fun k => by rw [e k, if_neg hn]) (Ev.now _)
theorem inB_nat (lo hi : Nat) (n : Nat) : inB lo hi n = (decide (lo ≤ n) && decide (n ≤ hi)) := by
  unfold inB; simp
theorem nameOk_eq (s : ByteArray) : ((bytesOf s).all nameB && nameEnd s) = nameOkB s := by
  unfold nameOkB partB nameEnd
  rw [show inB 1 8 (s.size : Int) = (decide (1 ≤ s.size) && decide (s.size ≤ 8)) from inB_nat 1 8 s.size]
  have : (bytesOf s).all nameB = !(bytesOf s).any (fun b => !nameB b) := by
    rw [List.all_eq_not_any_not]
  rw [this]
  cases (bytesOf s).any (fun b => !nameB b) <;> cases decide (1 ≤ s.size) <;> cases decide (s.size ≤ 8) <;> simp
theorem l2Name_ev (s : ByteArray) (hs : s.size < 4294967281) : Ev (fun k => spec_l2Name.f k s) (nameOkB s) := by
  rw [← nameOk_eq]
  have h := l2Name_loop s hs s.size 0 (by omega)
  rw [List.drop_zero] at h
  exact h
theorem rdS (xs : List ByteArray) (i : Nat) (h : i < xs.length) : rdOf ByteArray.empty xs (i : Int) = xs[i] := by
  simp [rdOf, List.getD, h]
theorem l2Parts_loop (l : List ByteArray) (hl : l.length ≤ 4294967282) (d : Nat) : ∀ (i : Nat) (out : List ByteArray), i + d = l.length → out.length ≤ i →
    Ev (fun k => spec_l2Parts.l0 k out l (l.length : Int) (i : Int)) (out ++ (l.drop i).filter fun p => !nilB p) := by
  induction d with
  | zero =>
    intro i out hi ho
    refine Ev.step (f := fun _ => some out) (fun k => ?_) ?_
    · simp only [spec_l2Parts.l0]; rw [if_neg (by omega)]
    · rw [List.drop_of_length_le (by omega)]; simpa using Ev.now out
  | succ d ih =>
    intro i out hi ho
    have hlt : i < l.length := by omega
    have hw := step_n (i := i) (n := l.length) hlt (by omega)
    rw [List.drop_eq_getElem_cons hlt, List.filter_cons]
    by_cases hc : l[i].toList = []
    · have hn : nilB l[i] = true := by rw [← nilB_eq]; simpa using hc
      rw [hn, Bool.not_true, if_neg (by simp)]
      refine Ev.step (f := fun k => spec_l2Parts.l0 k out l (l.length : Int) ((i + 1 : Nat) : Int)) (fun k => ?_) (ih (i + 1) out (by omega) (by omega))
      simp only [spec_l2Parts.l0]
      rw [if_pos (by omega), if_pos (by omega), if_pos (by omega), rdS _ _ hlt, if_pos hc, hw]
    · have hn : nilB l[i] = false := by rw [← nilB_eq]; simpa using hc
      rw [hn, Bool.not_false, if_pos rfl]
      have h2 := ih (i + 1) (out ++ [l[i]]) (by omega) (by simp; omega)
      refine Ev.step (f := fun k => spec_l2Parts.l0 k (out ++ [l[i]]) l (l.length : Int) ((i + 1 : Nat) : Int)) (fun k => ?_) (by simpa using h2)
      simp only [spec_l2Parts.l0]
      rw [if_pos (by omega), if_pos (by omega), if_pos (by omega), rdS _ _ hlt, if_neg hc, if_pos (by omega), hw]
theorem slash_len (s : ByteArray) (hs : s.size < 4294967281) : (slashL s).length ≤ 4294967282 := by
  unfold slashL
  rw [← show segs s 47 s.size 0 0 = _ from segs_split s 47]
  have := segs_len s 47 s.size 0 0
  omega
theorem l2Parts_ev (s : ByteArray) (hs : s.size < 4294967281) : Ev (fun k => spec_l2Parts.f k s) (partsL s) := by
  refine Ev.bind (slash_ev s hs) ?_
  have := l2Parts_loop (slashL s) (slash_len s hs) (slashL s).length 0 [] (by omega) (by simp)
  simpa [partsL] using this
theorem parts_mem_size (s : ByteArray) : ∀ p ∈ partsL s, p.size ≤ s.size := by
  intro p hp
  have hm : p ∈ slashL s := (List.mem_filter.mp hp).1
  unfold slashL at hm
  rw [← show segs s 47 s.size 0 0 = _ from segs_split s 47] at hm
  have key : ∀ d fr i, i ≤ s.size → ∀ p ∈ segs s 47 d fr i, p.size ≤ s.size := by
    intro d
    induction d with
    | zero => intro fr i hi p hp; simp only [segs, List.mem_singleton] at hp; subst hp; simp
    | succ d ih =>
      intro fr i hi p hp
      simp only [segs] at hp
      by_cases hi2 : i < s.size
      · split at hp
        · rcases List.mem_cons.mp hp with rfl | h
          · simp; omega
          · exact ih _ _ (by omega) p h
        · exact ih _ _ (by omega) p hp
      · have hb : bt s i = 0 := by unfold bt; rw [dif_neg (by simpa using hi2)]
        rw [if_neg (by rw [hb]; decide)] at hp
        have : ∀ d fr j, s.size ≤ j → ∀ p ∈ segs s 47 d fr j, p.size ≤ s.size := by
          intro d
          induction d with
          | zero => intro fr j hj p hp; simp only [segs, List.mem_singleton] at hp; subst hp; simp
          | succ d ih =>
            intro fr j hj p hp
            simp only [segs] at hp
            have hb : bt s j = 0 := by unfold bt; rw [dif_neg (by simp; omega)]
            rw [if_neg (by rw [hb]; decide)] at hp
            exact ih _ _ (by omega) p hp
        exact this d fr (i + 1) (by omega) p hp
  exact key _ _ _ (by omega) p hm
/-- A part is a name, or dots. -/
def dotsOr (p : ByteArray) : Bool := nameOkB p || (p.toList == [46] || p.toList == [46, 46])
theorem part_of_dots {p : ByteArray} (h : p.toList = [46] ∨ p.toList = [46, 46]) : partB p = true := by
  have hd : p.data.toList = p.toList := (ByteArray.toList_eq p).symm
  have hsz : p.size = p.toList.length := by rw [← hd, data_length]
  unfold partB bytesOf
  rw [hd]
  rcases h with h | h <;> rw [hsz, h] <;> decide
theorem dotsOr_eq (p : ByteArray) : dotsOr p = partB p := by
  unfold dotsOr nameOkB
  by_cases h1 : p.toList = [46]
  · rw [part_of_dots (.inl h1)]; simp [h1]
  · by_cases h2 : p.toList = [46, 46]
    · rw [part_of_dots (.inr h2)]; simp [h2]
    · have e1 : (p.toList == [46]) = false := by simpa using h1
      have e2 : (p.toList == [46, 46]) = false := by simpa using h2
      rw [e1, e2]
      simp
theorem l2Path_loop (s : ByteArray) (l : List ByteArray) (hl : l.length ≤ 4294967282) (hm : ∀ p ∈ l, p.size < 4294967281) (d : Nat) : ∀ i : Nat, i + d = l.length →
    Ev (fun k => spec_l2Path.l0 k s l (l.length : Int) (i : Int)) ((l.drop i).all partB && inB 1 60 s.size) := by
  induction d with
  | zero =>
    intro i hi
    refine Ev.step (f := fun _ => some (inB 1 60 s.size)) (fun k => ?_) ?_
    · simp only [spec_l2Path.l0]; rw [if_neg (by omega), l1In_f]; rfl
    · rw [List.drop_of_length_le (by omega)]; simpa using Ev.now (inB 1 60 s.size)
  | succ d ih =>
    intro i hi
    have hlt : i < l.length := by omega
    have hw := step_n (i := i) (n := l.length) hlt (by omega)
    rw [List.drop_eq_getElem_cons hlt, List.all_cons, ← dotsOr_eq]
    refine Ev.step (f := fun k => (spec_l2Name.f k l[i]).bind fun t122 => (if t122 = true then (spec_l2Path.l0 k s l (l.length : Int) ((i + 1 : Nat) : Int)) else (if l[i].toList = ([46] : List UInt8) then (spec_l2Path.l0 k s l (l.length : Int) ((i + 1 : Nat) : Int)) else (if l[i].toList = ([46, 46] : List UInt8) then (spec_l2Path.l0 k s l (l.length : Int) ((i + 1 : Nat) : Int)) else (some false))))) (fun k => ?_) ?_
    · simp only [spec_l2Path.l0]
      rw [if_pos (by omega), if_pos (by omega), if_pos (by omega), rdS _ _ hlt, hw]
    · refine Ev.bind (l2Name_ev l[i] (hm _ (List.getElem_mem hlt))) ?_
      unfold dotsOr
      cases nameOkB l[i]
      · by_cases h1 : l[i].toList = [46]
        · simp only [h1, if_true, Bool.false_eq_true, if_false]
          simpa using ih (i + 1) (by omega)
        · by_cases h2 : l[i].toList = [46, 46]
          · simp only [h2, if_true, Bool.false_eq_true, if_false]
            simpa using ih (i + 1) (by omega)
          · simp only [h1, h2, Bool.false_eq_true, if_false]
            have e1 : (l[i].toList == [46]) = false := by simpa using h1
            have e2 : (l[i].toList == [46, 46]) = false := by simpa using h2
            rw [e1, e2]
            exact Ev.now _
      · simp only [if_true, Bool.true_or, Bool.true_and]
        exact ih (i + 1) (by omega)
theorem l2Path_ev (s : ByteArray) (hs : s.size < 4294967281) : Ev (fun k => spec_l2Path.f k s) (goodPathB s) := by
  refine Ev.bind (l2Parts_ev s hs) ?_
  have h := l2Path_loop s (partsL s) (Nat.le_trans (List.length_filter_le _ _) (slash_len s hs)) (fun p hp => by have := parts_mem_size s p hp; omega) (partsL s).length 0 (by omega)
  have e : ((partsL s).all partB && inB 1 60 s.size) = goodPathB s := by
    unfold goodPathB longB nilB
    rw [show inB 1 60 (s.size : Int) = (decide (1 ≤ s.size) && decide (s.size ≤ 60)) from inB_nat 1 60 s.size]
    have : (partsL s).all partB = !(partsL s).any (fun b => !partB b) := by rw [List.all_eq_not_any_not]
    rw [this]
    have h0 : decide (1 ≤ s.size) = !decide (s.size = 0) := by
      by_cases hz : s.size = 0 <;> simp [hz]
      omega
    rw [h0]
    cases (partsL s).any (fun b => !partB b) <;> cases decide (s.size = 0) <;> cases decide (s.size ≤ 60) <;> rfl
  rw [← e]
  simpa using h

end Go.Proofs.YtibfocaldcjiiaaGreatDoor.Q

/- What the laws over lists of texts ask beside the two functions: copies, sizes, equality. -/
namespace Go.Proofs.YtibfocaldcjiiaaGreatDoor.Q
open Go.RowKit Go.Proofs.YtibfocaldcjiiaaGreatDoorW.PrintWords Go.Proofs.YtibfocaldcjiiaaGreatDoorW.PrintLast Go.Proofs.YtibfocaldcjiiaaGreatDoorW.PrintMore
attribute [local go_sem] max2_int min2_int max_two min_two max_three min_three max_four min_four   -- for this text's walks alone
set_option linter.unusedVariables false
set_option linter.unusedSimpArgs false

theorem toStringS_loop (l0 : List ByteArray) (hl : l0.length ≤ 4294967282) (d : Nat) : ∀ (i : Nat) (acc : List ByteArray), i + d = l0.length → acc.length = l0.length →
    Ev (fun k => laws_toStringS.l0 k l0 acc (i : Int)) (acc.take i ++ l0.drop i) := by
  induction d with
  | zero =>
    intro i acc hi ha
    refine Ev.step (f := fun _ => some acc) (fun k => ?_) ?_
    · simp only [laws_toStringS.l0]; rw [if_neg (by omega)]
    · have : acc.take i ++ l0.drop i = acc := by rw [List.drop_of_length_le (by omega), List.take_of_length_le (by omega)]; simp
      rw [this]; exact Ev.now acc
  | succ d ih =>
    intro i acc hi ha
    have hlt : i < l0.length := by omega
    have hw := step_n (i := i) (n := l0.length) hlt (by omega)
    have := ih (i + 1) (acc.set i l0[i]) (by omega) (by simpa using ha)
    refine Ev.step (f := fun k => laws_toStringS.l0 k l0 (acc.set i l0[i]) ((i + 1 : Nat) : Int)) (fun k => ?_) ?_
    · simp only [laws_toStringS.l0]
      rw [if_pos (by omega), if_pos (by omega), if_pos (by omega), hw, rdS _ _ hlt]; rfl
    · have e : (acc.set i l0[i]).take (i + 1) ++ l0.drop (i + 1) = acc.take i ++ l0.drop i := by
        rw [List.drop_eq_getElem_cons hlt, List.take_succ_eq_append_getElem (by simp; omega), List.take_set_of_le (by omega), List.getElem_set_self, List.append_assoc]; rfl
      rw [← e]; exact this
theorem toStringS_ev (l0 : List ByteArray) (hl : l0.length ≤ 4294967282) : Ev (fun k => laws_toStringS.f k l0) l0 := by
  refine Ev.congr (f := fun k => laws_toStringS.l0 k l0 (List.replicate l0.length (⟨#[]⟩ : ByteArray)) ((0 : Nat) : Int)) (fun k => ?_) ?_
  · simp only [laws_toStringS.f]
    rw [if_pos (by omega), if_pos (by omega)]; rfl
  · simpa using toStringS_loop l0 hl l0.length 0 (List.replicate l0.length (⟨#[]⟩ : ByteArray)) (by omega) (by simp)
theorem eqStringS_loop (l : List ByteArray) (hl : l.length ≤ 4294967282) (d : Nat) : ∀ i : Nat, i + d = l.length → Ev (fun k => laws_eqStringS.l0 k l l (i : Int)) true := by
  induction d with
  | zero =>
    intro i hi
    refine Ev.step (f := fun _ => some true) (fun k => ?_) (Ev.now true)
    simp only [laws_eqStringS.l0]; rw [if_neg (by omega)]
  | succ d ih =>
    intro i hi
    have hlt : i < l.length := by omega
    have hw := step_n (i := i) (n := l.length) hlt (by omega)
    refine Ev.step (f := fun k => laws_eqStringS.l0 k l l ((i + 1 : Nat) : Int)) (fun k => ?_) (ih (i + 1) (by omega))
    simp only [laws_eqStringS.l0]
    rw [if_pos (by omega), if_pos (by omega), if_pos (by omega), if_pos trivial, hw]
theorem eqStringS_ev (l : List ByteArray) (hl : l.length ≤ 4294967282) : Ev (fun k => laws_eqStringS.f k l l) true := by
  refine Ev.congr (f := fun k => laws_eqStringS.l0 k l l ((0 : Nat) : Int)) (fun k => ?_) (eqStringS_loop l hl l.length 0 (by omega))
  simp only [laws_eqStringS.f, if_true]; rfl
theorem szStringS_loop (l : List ByteArray) (hl : l.length ≤ 4294967282) (hs : ∀ x ∈ l, x.size ≤ maxLen) (d : Nat) : ∀ (i : Nat) (a : Int), i + d = l.length → 0 ≤ a → a ≤ 1048576 →
    ∃ r, Ev (fun k => laws_szStringS.l0 k l a (i : Int)) r ∧ r ≤ 1048576 ∧ (0 ≤ r → ∀ x ∈ l.drop i, x.size ≤ 1048576) := by
  induction d with
  | zero =>
    intro i a hi h0 h1
    refine ⟨a, Ev.step (f := fun _ => some a) (fun k => ?_) (Ev.now a), h1, fun _ => ?_⟩
    · simp only [laws_szStringS.l0]; rw [if_neg (by omega)]
    · rw [List.drop_of_length_le (by omega)]; simp
  | succ d ih =>
    intro i a hi h0 h1
    have hlt : i < l.length := by omega
    have hw := step_n (i := i) (n := l.length) hlt (by omega)
    have hx := hs l[i] (List.getElem_mem hlt)
    unfold maxLen at hx
    have e : ∀ k, laws_szStringS.l0 (k + 1) l a (i : Int) = if wrap64 (a - (l[i].size : Int)) < 0 then some (-1) else laws_szStringS.l0 k l (wrap64 (a - (l[i].size : Int))) ((i + 1 : Nat) : Int) := fun k => by
      simp only [laws_szStringS.l0]
      rw [if_pos (by omega), if_pos (by omega), rdS _ _ hlt, hw]
    have ew : wrap64 (a - (l[i].size : Int)) = a - (l[i].size : Int) := by unfold wrap64; omega
    rw [ew] at e
    by_cases hc : a - (l[i].size : Int) < 0
    · exact ⟨-1, Ev.step (f := fun _ => some (-1)) (fun k => by rw [e k, if_pos hc]) (Ev.now _), by omega, by omega⟩
    · obtain ⟨q, hq, hq1, hq2⟩ := ih (i + 1) (a - (l[i].size : Int)) (by omega) (by omega) (by omega)
      refine ⟨q, Ev.step (f := fun k => laws_szStringS.l0 k l (a - (l[i].size : Int)) ((i + 1 : Nat) : Int)) (fun k => by rw [e k, if_neg hc]) hq, hq1, fun h => ?_⟩
      rw [List.drop_eq_getElem_cons hlt]
      intro x hx
      rcases List.mem_cons.mp hx with rfl | hx
      · omega
      · exact hq2 h x hx
theorem szStringS_ev (l : List ByteArray) (hl : l.length ≤ maxLen) (hs : ∀ x ∈ l, x.size ≤ maxLen) (a : Int) (h0 : 0 ≤ a) (h1 : a ≤ 1048576) :
    ∃ r, Ev (fun k => laws_szStringS.f k l a) r ∧ r ≤ 1048576 ∧ (0 ≤ r → l.length ≤ 1048576 ∧ ∀ x ∈ l, x.size ≤ 1048576) := by
  have e : wrap64 (a - (l.length : Int)) = a - l.length := by unfold wrap64; unfold maxLen at hl; omega
  by_cases hc : a - (l.length : Int) < 0
  · exact ⟨-1, Ev.congr (f := fun _ => some (-1)) (fun k => by simp only [laws_szStringS.f]; rw [e, if_pos hc]) (Ev.now _), by omega, by omega⟩
  · obtain ⟨r, hr, h, hz⟩ := szStringS_loop l (by omega) hs l.length 0 (a - l.length) (by omega) (by omega) (by omega)
    exact ⟨r, Ev.congr (fun k => by simp only [laws_szStringS.f]; rw [e, if_neg hc]; rfl) hr, h, fun hr => ⟨by omega, by simpa using hz hr⟩⟩

end Go.Proofs.YtibfocaldcjiiaaGreatDoor.Q
