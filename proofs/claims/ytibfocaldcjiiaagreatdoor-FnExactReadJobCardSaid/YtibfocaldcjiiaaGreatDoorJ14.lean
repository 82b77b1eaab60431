/- Texts of this claim, merged by a program (wip/tools/merge.py): Q192. -/
import Derived.Test.YtibfocaldcjiiaaGreatDoorJ2
import Derived.Test.YtibfocaldcjiiaaGreatDoorJ4
import Derived.Test.YtibfocaldcjiiaaGreatDoorJ13
-- Printed by a program of this session (wip/tools/myprint.py) that runs the kit's print, hand-proved functions among the others.
namespace Go.Proofs.YtibfocaldcjiiaaGreatDoor.Q
open Go.RowKit Go.Proofs.YtibfocaldcjiiaaGreatDoorW.PrintWords Go.Proofs.YtibfocaldcjiiaaGreatDoorW.PrintLast Go.Proofs.YtibfocaldcjiiaaGreatDoorW.PrintMore
attribute [local go_sem] max2_int min2_int max_two min_two max_three min_three max_four min_four   -- for this text's walks alone
set_option linter.unusedVariables false
set_option linter.unusedSimpArgs false

/-! ### spec_ReadJob: function 29 -/
mutual
def spec_ReadJob.l0 : Nat → List ByteArray → List ByteArray → Int → Int → Int → ByteArray → ByteArray → Int → Int → Option (Int × ByteArray × ByteArray × Int × Int × List ByteArray × Int × Bool)
 | 0, _, _, _, _, _, _, _, _, _ => none
 | k + 1, x0, x14, x15, x16, x848000, x848001, x848002, x848003, x848004 => if x16 < x15 then (if 0 ≤ x16 then (if x16 < (x14.length : Int) then (if x16 > 0 then (if (x0.length : Int) > 0 then (if 0 < (x0.length : Int) then (if (rdOf ByteArray.empty x0 0).toList = (rdOf ByteArray.empty x14 x16).toList then (spec_ReadJob.l0 k x0 x14 x15 (wrap64 (x16 + 1)) x16 x848001 x848002 x848003 x848004) else (spec_ReadJob.l0 k x0 x14 x15 (wrap64 (x16 + 1)) x848000 x848001 x848002 x848003 x848004)) else (none)) else (spec_ReadJob.l0 k x0 x14 x15 (wrap64 (x16 + 1)) x848000 x848001 x848002 x848003 x848004)) else (spec_ReadJob.l0 k x0 x14 x15 (wrap64 (x16 + 1)) x848000 x848001 x848002 x848003 x848004)) else (none)) else (none)) else (if x848000 = 0 then (spec_ReadJob.j1 k x0 true x848000 x848001 x848002 x848003 x848004) else (spec_ReadJob.j1 k x0 (decide ((x0.length : Int) > 20)) x848000 x848001 x848002 x848003 x848004))
def spec_ReadJob.j1 : Nat → List ByteArray → Bool → Int → ByteArray → ByteArray → Int → Int → Option (Int × ByteArray × ByteArray × Int × Int × List ByteArray × Int × Bool)
 | 0, _, _, _, _, _, _, _ => none
 | k + 1, x0, x45, x848000, x848001, x848002, x848003, x848004 => if x45 = true then (some (0, (⟨#[]⟩ : ByteArray), (⟨#[]⟩ : ByteArray), 0, 0, ([] : List ByteArray), 1, false)) else (if 1 ≤ (x0.length : Int) then ((some (x0.drop 1 : List ByteArray)).bind fun y853 => (if (y853.length : Int) > 0 then (if 0 < (y853.length : Int) then (if (rdOf ByteArray.empty y853 0).toList = ([] : List UInt8) then (spec_ReadJob.j2 k y853 false x848000 x848001 x848002 x848003 x848004) else (if 0 < ((rdOf ByteArray.empty y853 0).size : Int) then (spec_ReadJob.j2 k y853 ((bt (rdOf ByteArray.empty y853 0) 0) == 45) x848000 x848001 x848002 x848003 x848004) else (none))) else (none)) else (spec_ReadJob.j2 k y853 false x848000 x848001 x848002 x848003 x848004))) else (none))
def spec_ReadJob.j2 : Nat → List ByteArray → Bool → Int → ByteArray → ByteArray → Int → Int → Option (Int × ByteArray × ByteArray × Int × Int × List ByteArray × Int × Bool)
 | 0, _, _, _, _, _, _, _ => none
 | k + 1, x8, x64, x848000, x848001, x848002, x848003, x848004 => if x64 = true then ((spec_l15Flag.f x848000).bind fun t860 => (if t860.toList = ([] : List UInt8) then (some (0, (⟨#[]⟩ : ByteArray), (⟨#[]⟩ : ByteArray), 0, 0, ([] : List ByteArray), 2, false)) else (if 0 < (x8.length : Int) then (if 1 + t860.size ≤ 9223372036854775807 then (if (rdOf ByteArray.empty x8 0).toList = ((⟨#[45]⟩ : ByteArray) ++ t860).toList then (if 1 ≤ ((rdOf ByteArray.empty x8 0).size : Int) then (if 1 ≤ (x8.length : Int) then (spec_ReadJob.j3 k (x8.drop 1) x848000 ((rdOf ByteArray.empty x8 0).extract 1 (rdOf ByteArray.empty x8 0).size) x848002 x848003 x848004) else (none)) else (none)) else (some (0, (⟨#[]⟩ : ByteArray), (⟨#[]⟩ : ByteArray), 0, 0, ([] : List ByteArray), 2, false))) else (none)) else (none)))) else (spec_ReadJob.j3 k x8 x848000 x848001 x848002 x848003 x848004)
def spec_ReadJob.j3 : Nat → List ByteArray → Int → ByteArray → ByteArray → Int → Int → Option (Int × ByteArray × ByteArray × Int × Int × List ByteArray × Int × Bool)
 | 0, _, _, _, _, _, _ => none
 | k + 1, x8, x848000, x848001, x848002, x848003, x848004 => if x848000 ≥ 4 then (if (x8.length : Int) = 0 then (some (0, (⟨#[]⟩ : ByteArray), (⟨#[]⟩ : ByteArray), 0, 0, ([] : List ByteArray), 3, false)) else (if x848000 = 4 then (if 0 < (x8.length : Int) then ((spec_ReadOwner.f (rdOf ByteArray.empty x8 0)).bind fun bt869 => (spec_ReadJob.j4 k x8 bt869.2.2 x848000 x848001 x848002 bt869.1 bt869.2.1)) else (none)) else (if 0 < (x8.length : Int) then ((spec_l15Word.f k x848000 x848001 (rdOf ByteArray.empty x8 0) x848003 x848004 ([] : List ByteArray)).bind fun t873 => (spec_ReadJob.j4 k x8 t873 x848000 x848001 (rdOf ByteArray.empty x8 0) x848003 x848004)) else (none)))) else ((some (([] : List ByteArray) : List ByteArray)).bind fun y886 => (if y886.length + x8.length < 8796093022208 then ((some (y886 ++ x8 : List ByteArray)).bind fun y889 => ((spec_GoodJob.f k x848000 x848001 x848002 x848003 x848004 y889).bind fun t892 => (if t892 = true then (some (x848000, x848001, x848002, x848003, x848004, y889, 0, true)) else (some (0, (⟨#[]⟩ : ByteArray), (⟨#[]⟩ : ByteArray), 0, 0, ([] : List ByteArray), 4, false))))) else (none)))
def spec_ReadJob.j4 : Nat → List ByteArray → Bool → Int → ByteArray → ByteArray → Int → Int → Option (Int × ByteArray × ByteArray × Int × Int × List ByteArray × Int × Bool)
 | 0, _, _, _, _, _, _, _ => none
 | k + 1, x8, x10, x848000, x848001, x848002, x848003, x848004 => if x10 = true then (if 1 ≤ (x8.length : Int) then ((some (x8.drop 1 : List ByteArray)).bind fun y874 => ((some (([] : List ByteArray) : List ByteArray)).bind fun y879 => (if y879.length + y874.length < 8796093022208 then ((some (y879 ++ y874 : List ByteArray)).bind fun y882 => ((spec_GoodJob.f k x848000 x848001 x848002 x848003 x848004 y882).bind fun t885 => (if t885 = true then (some (x848000, x848001, x848002, x848003, x848004, y882, 0, true)) else (some (0, (⟨#[]⟩ : ByteArray), (⟨#[]⟩ : ByteArray), 0, 0, ([] : List ByteArray), 4, false))))) else (none)))) else (none)) else (some (0, (⟨#[]⟩ : ByteArray), (⟨#[]⟩ : ByteArray), 0, 0, ([] : List ByteArray), 3, false))
end
def spec_ReadJob.f (k : Nat) (l0 : List ByteArray) : Option (Int × ByteArray × ByteArray × Int × Int × List ByteArray × Int × Bool) := (spec_l15Kinds.f).bind fun t848 => (spec_ReadJob.l0 k l0 t848 (t848.length : Int) 0 0 (⟨#[]⟩ : ByteArray) (⟨#[]⟩ : ByteArray) 0 0)
theorem spec_ReadJob.mono_l : ∀ k, (∀ y0 y1 y2 y3 y4 y5 y6 y7 y8, LeO (spec_ReadJob.l0 k y0 y1 y2 y3 y4 y5 y6 y7 y8) (spec_ReadJob.l0 (k + 1) y0 y1 y2 y3 y4 y5 y6 y7 y8)) ∧ (∀ y0 y1 y2 y3 y4 y5 y6, LeO (spec_ReadJob.j1 k y0 y1 y2 y3 y4 y5 y6) (spec_ReadJob.j1 (k + 1) y0 y1 y2 y3 y4 y5 y6)) ∧ (∀ y0 y1 y2 y3 y4 y5 y6, LeO (spec_ReadJob.j2 k y0 y1 y2 y3 y4 y5 y6) (spec_ReadJob.j2 (k + 1) y0 y1 y2 y3 y4 y5 y6)) ∧ (∀ y0 y1 y2 y3 y4 y5, LeO (spec_ReadJob.j3 k y0 y1 y2 y3 y4 y5) (spec_ReadJob.j3 (k + 1) y0 y1 y2 y3 y4 y5)) ∧ (∀ y0 y1 y2 y3 y4 y5 y6, LeO (spec_ReadJob.j4 k y0 y1 y2 y3 y4 y5 y6) (spec_ReadJob.j4 (k + 1) y0 y1 y2 y3 y4 y5 y6))
 | 0 => ⟨fun _ _ _ _ _ _ _ _ _ r h => by simp [spec_ReadJob.l0] at h, fun _ _ _ _ _ _ _ r h => by simp [spec_ReadJob.j1] at h, fun _ _ _ _ _ _ _ r h => by simp [spec_ReadJob.j2] at h, fun _ _ _ _ _ _ r h => by simp [spec_ReadJob.j3] at h, fun _ _ _ _ _ _ _ r h => by simp [spec_ReadJob.j4] at h⟩
 | k + 1 => by
  obtain ⟨ih0, ih1, ih2, ih3, ih4⟩ := spec_ReadJob.mono_l k
  refine ⟨?_, ?_, ?_, ?_, ?_⟩
  ·intro y0 y1 y2 y3 y4 y5 y6 y7 y8
   unfold spec_ReadJob.l0
   repeat' first
   | (with_reducible exact ih0 _ _ _ _ _ _ _ _ _)
   | (with_reducible exact ih1 _ _ _ _ _ _ _)
   | (with_reducible exact ih2 _ _ _ _ _ _ _)
   | (with_reducible exact ih3 _ _ _ _ _ _)
   | (with_reducible exact ih4 _ _ _ _ _ _ _)
   | (with_reducible exact spec_GoodJob.mono _ _ _ _ _ _ _)
   | (with_reducible exact spec_l15Word.mono _ _ _ _ _ _ _)
   | (with_reducible exact LeO.refl _)
   | (with_reducible exact LeO.none _)
   | (with_reducible refine LeO.ite ?_ ?_)
   | (with_reducible refine LeO.bind ?_ (fun _ => ?_))
   | exact ih0 _ _ _ _ _ _ _ _ _
   | exact ih1 _ _ _ _ _ _ _
   | exact ih2 _ _ _ _ _ _ _
   | exact ih3 _ _ _ _ _ _
   | exact ih4 _ _ _ _ _ _ _
   | exact spec_GoodJob.mono _ _ _ _ _ _ _
   | exact spec_l15Word.mono _ _ _ _ _ _ _
   | exact LeO.none _
   | refine LeO.ite ?_ ?_
   | refine LeO.bind ?_ (fun _ => ?_)
  ·intro y0 y1 y2 y3 y4 y5 y6
   unfold spec_ReadJob.j1
   repeat' first
   | (with_reducible exact ih0 _ _ _ _ _ _ _ _ _)
   | (with_reducible exact ih1 _ _ _ _ _ _ _)
   | (with_reducible exact ih2 _ _ _ _ _ _ _)
   | (with_reducible exact ih3 _ _ _ _ _ _)
   | (with_reducible exact ih4 _ _ _ _ _ _ _)
   | (with_reducible exact spec_GoodJob.mono _ _ _ _ _ _ _)
   | (with_reducible exact spec_l15Word.mono _ _ _ _ _ _ _)
   | (with_reducible exact LeO.refl _)
   | (with_reducible exact LeO.none _)
   | (with_reducible refine LeO.ite ?_ ?_)
   | (with_reducible refine LeO.bind ?_ (fun _ => ?_))
   | exact ih0 _ _ _ _ _ _ _ _ _
   | exact ih1 _ _ _ _ _ _ _
   | exact ih2 _ _ _ _ _ _ _
   | exact ih3 _ _ _ _ _ _
   | exact ih4 _ _ _ _ _ _ _
   | exact spec_GoodJob.mono _ _ _ _ _ _ _
   | exact spec_l15Word.mono _ _ _ _ _ _ _
   | exact LeO.none _
   | refine LeO.ite ?_ ?_
   | refine LeO.bind ?_ (fun _ => ?_)
  ·intro y0 y1 y2 y3 y4 y5 y6
   unfold spec_ReadJob.j2
   repeat' first
   | (with_reducible exact ih0 _ _ _ _ _ _ _ _ _)
   | (with_reducible exact ih1 _ _ _ _ _ _ _)
   | (with_reducible exact ih2 _ _ _ _ _ _ _)
   | (with_reducible exact ih3 _ _ _ _ _ _)
   | (with_reducible exact ih4 _ _ _ _ _ _ _)
   | (with_reducible exact spec_GoodJob.mono _ _ _ _ _ _ _)
   | (with_reducible exact spec_l15Word.mono _ _ _ _ _ _ _)
   | (with_reducible exact LeO.refl _)
   | (with_reducible exact LeO.none _)
   | (with_reducible refine LeO.ite ?_ ?_)
   | (with_reducible refine LeO.bind ?_ (fun _ => ?_))
   | exact ih0 _ _ _ _ _ _ _ _ _
   | exact ih1 _ _ _ _ _ _ _
   | exact ih2 _ _ _ _ _ _ _
   | exact ih3 _ _ _ _ _ _
   | exact ih4 _ _ _ _ _ _ _
   | exact spec_GoodJob.mono _ _ _ _ _ _ _
   | exact spec_l15Word.mono _ _ _ _ _ _ _
   | exact LeO.none _
   | refine LeO.ite ?_ ?_
   | refine LeO.bind ?_ (fun _ => ?_)
  ·intro y0 y1 y2 y3 y4 y5
   unfold spec_ReadJob.j3
   repeat' first
   | (with_reducible exact ih0 _ _ _ _ _ _ _ _ _)
   | (with_reducible exact ih1 _ _ _ _ _ _ _)
   | (with_reducible exact ih2 _ _ _ _ _ _ _)
   | (with_reducible exact ih3 _ _ _ _ _ _)
   | (with_reducible exact ih4 _ _ _ _ _ _ _)
   | (with_reducible exact spec_GoodJob.mono _ _ _ _ _ _ _)
   | (with_reducible exact spec_l15Word.mono _ _ _ _ _ _ _)
   | (with_reducible exact LeO.refl _)
   | (with_reducible exact LeO.none _)
   | (with_reducible refine LeO.ite ?_ ?_)
   | (with_reducible refine LeO.bind ?_ (fun _ => ?_))
   | exact ih0 _ _ _ _ _ _ _ _ _
   | exact ih1 _ _ _ _ _ _ _
   | exact ih2 _ _ _ _ _ _ _
   | exact ih3 _ _ _ _ _ _
   | exact ih4 _ _ _ _ _ _ _
   | exact spec_GoodJob.mono _ _ _ _ _ _ _
   | exact spec_l15Word.mono _ _ _ _ _ _ _
   | exact LeO.none _
   | refine LeO.ite ?_ ?_
   | refine LeO.bind ?_ (fun _ => ?_)
  ·intro y0 y1 y2 y3 y4 y5 y6
   unfold spec_ReadJob.j4
   repeat' first
   | (with_reducible exact ih0 _ _ _ _ _ _ _ _ _)
   | (with_reducible exact ih1 _ _ _ _ _ _ _)
   | (with_reducible exact ih2 _ _ _ _ _ _ _)
   | (with_reducible exact ih3 _ _ _ _ _ _)
   | (with_reducible exact ih4 _ _ _ _ _ _ _)
   | (with_reducible exact spec_GoodJob.mono _ _ _ _ _ _ _)
   | (with_reducible exact spec_l15Word.mono _ _ _ _ _ _ _)
   | (with_reducible exact LeO.refl _)
   | (with_reducible exact LeO.none _)
   | (with_reducible refine LeO.ite ?_ ?_)
   | (with_reducible refine LeO.bind ?_ (fun _ => ?_))
   | exact ih0 _ _ _ _ _ _ _ _ _
   | exact ih1 _ _ _ _ _ _ _
   | exact ih2 _ _ _ _ _ _ _
   | exact ih3 _ _ _ _ _ _
   | exact ih4 _ _ _ _ _ _ _
   | exact spec_GoodJob.mono _ _ _ _ _ _ _
   | exact spec_l15Word.mono _ _ _ _ _ _ _
   | exact LeO.none _
   | refine LeO.ite ?_ ?_
   | refine LeO.bind ?_ (fun _ => ?_)
theorem spec_ReadJob.mono : ∀ a0 k, LeO (spec_ReadJob.f k a0) (spec_ReadJob.f (k + 1) a0) := by
 intro a0 k
 obtain ⟨ih0, ih1, ih2, ih3, ih4⟩ := spec_ReadJob.mono_l k
 unfold spec_ReadJob.f
 repeat' first
   | (with_reducible exact ih0 _ _ _ _ _ _ _ _ _)
   | (with_reducible exact ih1 _ _ _ _ _ _ _)
   | (with_reducible exact ih2 _ _ _ _ _ _ _)
   | (with_reducible exact ih3 _ _ _ _ _ _)
   | (with_reducible exact ih4 _ _ _ _ _ _ _)
   | (with_reducible exact spec_GoodJob.mono _ _ _ _ _ _ _)
   | (with_reducible exact spec_l15Word.mono _ _ _ _ _ _ _)
   | (with_reducible exact LeO.refl _)
   | (with_reducible exact LeO.none _)
   | (with_reducible refine LeO.ite ?_ ?_)
   | (with_reducible refine LeO.bind ?_ (fun _ => ?_))
   | exact ih0 _ _ _ _ _ _ _ _ _
   | exact ih1 _ _ _ _ _ _ _
   | exact ih2 _ _ _ _ _ _ _
   | exact ih3 _ _ _ _ _ _
   | exact ih4 _ _ _ _ _ _ _
   | exact spec_GoodJob.mono _ _ _ _ _ _ _
   | exact spec_l15Word.mono _ _ _ _ _ _ _
   | exact LeO.none _
   | refine LeO.ite ?_ ?_
   | refine LeO.bind ?_ (fun _ => ?_)
set_option maxHeartbeats 8000000 in
set_option maxRecDepth 100000 in
theorem spec_ReadJob.calls (k : Nat) (P0_ : Nat → Prop) (A0 : Option Addr) (c0 : Nat) (l0 : List ByteArray) (r1 : Int) (r2 : ByteArray) (r3 : ByteArray) (r4 : Int) (r5 : Int) (r6 : List ByteArray) (r7 : Int) (r8 : Bool) (w : World) (hs0 : Kd.V Kd.string 9 w w.heap.size (fun k_ => P0_ k_) (.slice A0 l0.length c0) l0) (h : spec_ReadJob.f k l0 = some (r1, r2, r3, r4, r5, r6, r7, r8)) :
  Calls Tryz.prog 29 #[.slice A0 l0.length c0] w fun e w' => ∃ v5_ : Value, e = .returned (.tuple #[.agg #[.int .i64 r1, .string r2, .string r3, .int .i64 r4, .int .i64 r5, v5_], .int .i64 r7, .bool r8]) ∧ Kd.R Kd.string 9 w' w.heap.size (fun k_ => (w.heap.size ≤ k_)) v5_ r6 ∧ Below w.heap.size w w' := by
 have hu49 := Tryz.underlying49
 have HO0 := Aside0.mk (show Kd.V Kd.string 9 w w.heap.size (fun k_ => (P0_ k_ ∨ w.heap.size ≤ k_)) (.slice A0 l0.length c0) l0 from Kd.V_mono hs0 (fun k_ hk => .inl hk))
 have HB := Aside0.mk (Below.refl w.heap.size w)
 have H : ((spec_l15Kinds.f).bind fun t848 => (spec_ReadJob.l0 k l0 t848 (t848.length : Int) 0 0 (⟨#[]⟩ : ByteArray) (⟨#[]⟩ : ByteArray) 0 0)) = some (r1, r2, r3, r4, r5, r6, r7, r8) := h
 clear h
 replace H := Option.bind_eq_some_iff.mp H
 obtain ⟨t848, A20, H⟩ := H
 try dsimp only at H
 have A2 := Aside0.mk A20
 clear A20
 have H' := Aside0.mk H
 clear H
 go_enter Tryz.func29, Tryz.ntmps29
 go_wp2_with (first | ((with_reducible refine gate_dst (N := 2) rfl ?_); (try (refine gate_guard (by rfl) ?_; dsimp only)); refine box_event ?hg (N := 2) ?hd (cs := #[.int .i64 0, .string (⟨#[]⟩ : ByteArray), .string (⟨#[]⟩ : ByteArray), .int .i64 0, .int .i64 0, .slice none 0 0]) (t := 49) ?hr ?_; (case hd => rfl); (case hg => rfl); (case hr => first | (go_simp; done) | (go_simp; rfl)); intro gb846 hg w3 hbox hb; have n0_ := Aside0.mk (Kd.V_below (Kd.V_elderB (by (with_reducible repeat (first | apply Kd.V_alloc | apply Kd.V_drewN | apply Kd.V_drew)); exact HO0.out) gb846 (Nat.le_of_eq hg.symm)) hb); have n1_ := Aside0.mk (below_step (Gtr.bw HB.out) hb); have n2_ := Aside0.mk (hbox); have n3_ := Aside0.mk ((by rw [hg]; exact (below_size (Gtr.bw HB.out)) : w.heap.size ≤ gb846)); have n4_ := Aside0.mk ((by rw [hg]; exact (below_size (Gtr.bw HB.out)) : w.heap.size ≤ gb846)); clear HO0; clear HB; have HO0 := n0_; have HB := n1_; have BK846 := n2_; have GW846 := n3_; have GE846 := n4_; clear n0_ n1_ n2_ n3_ n4_; clear hb hbox hg) | ((with_reducible refine gate_dst (N := 5) rfl ?_); (try (refine gate_guard (by rfl) ?_; dsimp only)); refine box_event ?hg (N := 5) ?hd (cs := #[.int .i64 0, .string (⟨#[]⟩ : ByteArray), .string (⟨#[]⟩ : ByteArray), .int .i64 0, .int .i64 0, .slice none 0 0]) (t := 49) ?hr ?_; (case hd => rfl); (case hg => rfl); (case hr => first | (go_simp; done) | (go_simp; rfl)); intro gb847 hg w4 hbox hb; have n0_ := Aside0.mk (Kd.V_below (Kd.V_elderB (by (with_reducible repeat (first | apply Kd.V_alloc | apply Kd.V_drewN | apply Kd.V_drew)); exact HO0.out) gb847 (Nat.le_of_eq hg.symm)) hb); have n1_ := Aside0.mk (blk_below (g := gb846) (o := .cells #[.int .i64 0, .string (⟨#[]⟩ : ByteArray), .string (⟨#[]⟩ : ByteArray), .int .i64 0, .int .i64 0, .slice none 0 0] 49 (0, 0)) (by (with_reducible repeat (first | refine blk_drewN ?_ _ | refine blk_drew ?_ | refine blk_alloc ?_ _)); exact BK846.out) hb); have n2_ := Aside0.mk (below_step (Gtr.bw HB.out) hb); have n3_ := Aside0.mk (hbox); have n4_ := Aside0.mk ((by rw [hg]; exact (below_size (Gtr.bw HB.out)) : w.heap.size ≤ gb847)); have n5_ := Aside0.mk ((by rw [hg]; exact (below_size (Gtr.bw HB.out)) : w.heap.size ≤ gb847)); have n6_ := Aside0.mk ((by rw [hg]; exact Nat.ne_of_lt (blk_lt (g := gb846) (o := .cells #[.int .i64 0, .string (⟨#[]⟩ : ByteArray), .string (⟨#[]⟩ : ByteArray), .int .i64 0, .int .i64 0, .slice none 0 0] 49 (0, 0)) (by (with_reducible repeat (first | refine blk_drewN ?_ _ | refine blk_drew ?_ | refine blk_alloc ?_ _)); exact BK846.out)) : gb846 ≠ gb847)); have n7_ := Aside0.mk ((by rw [hg]; exact Nat.ne_of_gt (blk_lt (g := gb846) (o := .cells #[.int .i64 0, .string (⟨#[]⟩ : ByteArray), .string (⟨#[]⟩ : ByteArray), .int .i64 0, .int .i64 0, .slice none 0 0] 49 (0, 0)) (by (with_reducible repeat (first | refine blk_drewN ?_ _ | refine blk_drew ?_ | refine blk_alloc ?_ _)); exact BK846.out)) : gb847 ≠ gb846)); clear HO0; clear BK846; clear HB; have HO0 := n0_; have BK846 := n1_; have HB := n2_; have BK847 := n3_; have GW847 := n4_; have GE847 := n5_; have NB846_847 := n6_; have NB847_846 := n7_; clear n0_ n1_ n2_ n3_ n4_ n5_ n6_ n7_; clear hb hbox hg) | ((with_reducible refine gate_callee (f := 93) rfl ?_); refine goesL_ (some 14) rfl rfl Tryz.func93 (by kernel_rfl) rfl #[] rfl (by (try simp only [List.map_toArray, List.map_cons, List.map_nil]); first | done | rfl | (simp only [List.length_drop, List.length_take]; rfl)) ?_; (with_reducible refine (spec_l15Kinds.calls  t848 _ A2.out).mono ?_); rintro e w5 ⟨v849, rfl, ho0, hb⟩; refine ⟨_, rfl, ?_⟩; have n0_ := Aside0.mk (Kd.V_elder' (by (with_reducible repeat (first | apply Kd.V_alloc | apply Kd.V_drewN | apply Kd.V_drew)); exact HO0.out) (Kd.R_base ho0) hb); have n1_ := Aside0.mk (Kd.R_lower (Kd.R_newM (M := fun k_ => (w.heap.size ≤ k_)) ho0 (below_size (Gtr.bw HB.out)) (fun k_ h_ => h_)) (below_size (Gtr.bw HB.out))); have n2_ := Aside0.mk (blk_below (g := gb846) (o := .cells #[.int .i64 0, .string (⟨#[]⟩ : ByteArray), .string (⟨#[]⟩ : ByteArray), .int .i64 0, .int .i64 0, .slice none 0 0] 49 (0, 0)) (by (with_reducible repeat (first | refine blk_drewN ?_ _ | refine blk_drew ?_ | refine blk_alloc ?_ _)); exact BK846.out) hb); have n3_ := Aside0.mk (blk_below (g := gb847) (o := .cells #[.int .i64 0, .string (⟨#[]⟩ : ByteArray), .string (⟨#[]⟩ : ByteArray), .int .i64 0, .int .i64 0, .slice none 0 0] 49 (0, 0)) (by (with_reducible repeat (first | refine blk_drewN ?_ _ | refine blk_drew ?_ | refine blk_alloc ?_ _)); exact BK847.out) hb); have n4_ := Aside0.mk (below_step (Gtr.bw HB.out) hb); clear HO0; clear BK846; clear BK847; clear HB; have HO0 := n0_; have HO850 := n1_; have BK846 := n2_; have BK847 := n3_; have HB := n4_; clear n0_ n1_ n2_ n3_ n4_; (try clear hb); (try clear hb2); (try clear hk); (try clear hi); (try clear ho0); obtain ⟨Ao6, co6, eo6⟩ := Kd.R_slice HO850.out; subst eo6))
 go_loopg [16] k (fun kq v16 w' => ∃ (x16_1 : Int) (x848000_1 : Int), v16 = .int .i64 x16_1 ∧ Aside0 (spec_ReadJob.l0 kq l0 t848 (t848.length : Int) x16_1 x848000_1 (⟨#[]⟩ : ByteArray) (⟨#[]⟩ : ByteArray) 0 0 = some (r1, r2, r3, r4, r5, r6, r7, r8)) ∧ Aside0 (kq ≤ k) ∧ Aside0 (Kd.V Kd.string 9 w' w.heap.size (fun k_ => (P0_ k_ ∨ w.heap.size ≤ k_) ∧ some k_ ≠ ((.slice Ao6 t848.length co6) : Value).ownBlock ∧ k_ ≠ gb846 ∧ k_ ≠ gb847) (.slice A0 l0.length c0) l0) ∧ Aside0 (Kd.R Kd.string 9 w' w.heap.size (fun k_ => (w.heap.size ≤ k_)) (.slice Ao6 t848.length co6) t848) ∧ Aside0 (w'.heap[gb846]? = some (.cells #[.int .i64 0, .string (⟨#[]⟩ : ByteArray), .string (⟨#[]⟩ : ByteArray), .int .i64 0, .int .i64 0, (.slice none 0 0)] 49 (0, 0))) ∧ Aside0 (w'.heap[gb847]? = some (.cells #[.int .i64 x848000_1, .string (⟨#[]⟩ : ByteArray), .string (⟨#[]⟩ : ByteArray), .int .i64 0, .int .i64 0, (.slice none 0 0)] 49 (0, 0))) ∧ Aside0 (Below w.heap.size w w'))
 case atStart => exact ⟨(0), (0), (by first | rfl | (simp; done) | (simp [*]; done)), H', ⟨Nat.le_refl _⟩, ⟨by (with_reducible repeat (first | apply Kd.V_alloc | apply Kd.V_drewN | apply Kd.V_drew)); exact Kd.V_mono HO0.out (fun _ hk => ⟨hk.1.1.1, ⟨hk.2, ⟨hk.1.1.2, hk.1.2⟩⟩⟩)⟩, ⟨by (with_reducible repeat (first | apply Kd.R_alloc | apply Kd.R_drewN | apply Kd.R_drew)); exact Kd.R_mono HO850.out (fun _ hk => hk.1)⟩, ⟨by (with_reducible repeat (first | refine blk_drewN ?_ _ | refine blk_drew ?_ | refine blk_alloc ?_ _)); exact BK846.out⟩, ⟨by (with_reducible repeat (first | refine blk_drewN ?_ _ | refine blk_drew ?_ | refine blk_alloc ?_ _)); exact BK847.out⟩, ⟨(Gtr.bw HB.out)⟩⟩
 case round =>
  clear H'
  (try clear c2);(try clear p2)
  obtain ⟨x16_1, x848000_1, rfl, HA, HK1, HO_0, HO_14, BK846, BK847, HB⟩ := hrel
  cases gk with
  | zero => exact absurd HA.out (by simp [spec_ReadJob.l0])
  | succ k1 =>
   have H := HA.out
   clear HA
   simp only [spec_ReadJob.l0] at H
   by_cases c7 : x16_1 < (t848.length : Int)
   ·rw [if_pos c7] at H
    have c7b0 : decide (x16_1 < (t848.length : Int)) = true := decide_eq_true c7
    clear c7
    by_cases c8 : 0 ≤ x16_1
    ·rw [if_pos c8] at H
     have c8b0 : decide (0 ≤ x16_1) = true := decide_eq_true c8
     clear c8
     by_cases c9 : x16_1 < (t848.length : Int)
     ·rw [if_pos c9] at H
      have c9b0 : decide (x16_1 < (t848.length : Int)) = true := decide_eq_true c9
      clear c9
      by_cases c10 : x16_1 > 0
      ·rw [if_pos c10] at H
       have c10b0 : decide (0 < x16_1) = true := decide_eq_true c10
       clear c10
       by_cases c11 : (l0.length : Int) > 0
       ·rw [if_pos c11] at H
        have c11b0 : decide (0 < (l0.length : Int)) = true := decide_eq_true c11
        have c11b1 : decide (0 < l0.length) = true := decide_eq_true (by omega)
        clear c11
        by_cases c12 : 0 < (l0.length : Int)
        ·rw [if_pos c12] at H
         have c12b0 : decide (0 < (l0.length : Int)) = true := decide_eq_true c12
         have c12b1 : decide (0 < l0.length) = true := decide_eq_true (by omega)
         clear c12
         by_cases c13 : (rdOf ByteArray.empty l0 0).toList = (rdOf ByteArray.empty t848 x16_1).toList
         ·rw [if_pos c13] at H
          have c13b0 : ((rdOf ByteArray.empty l0 0).toList == (rdOf ByteArray.empty t848 x16_1).toList) = true := beq_iff_eq.mpr c13
          have c13b1 : ((rdOf ByteArray.empty l0 0).toList != (rdOf ByteArray.empty t848 x16_1).toList) = false := bne_eq_false_iff_eq.mpr c13
          clear c13
          have H' := Aside0.mk H
          clear H
          have p851 : 0 ≤ (x16_1 : Int) := of_decide_eq_true (by first | (with_reducible assumption) | assumption)
          have q851 : x16_1 < (t848.length : Int) := of_decide_eq_true (by first | (with_reducible assumption) | assumption)
          obtain ⟨ad851, e851, hx851_0⟩ := Kd.at_string (Kd.R_reads' HO_14.out).2.2 x16_1 p851 q851
          cases e851
          replace p851 := eq_true p851
          replace q851 := eq_true q851
          have p852 : 0 ≤ (0 : Int) := (by omega)
          have q852 : 0 < (l0.length : Int) := of_decide_eq_true (by first | (with_reducible assumption) | assumption)
          obtain ⟨ad852, e852, hx852_0⟩ := Kd.at_string (Kd.V_reads' HO_0.out).2.2 0 p852 q852
          cases e852
          have qi852 : (0 < l0.length) = True := eq_true (by omega)
          (try rw [show ((0 : Int)).toNat = 0 from rfl] at hx852_0)
          (try rw [Addr.add_zero'] at hx852_0)
          replace p852 := eq_true p852
          replace q852 := eq_true q852
          have hnb14 := NB847_846.out
          have hnc14 := NB846_847.out
          have hcz15_0 : wr.cell? ⟨gb847, 0, none⟩ = some (.int .i64 x848000_1) := (blk_cell BK847.out 0).trans rfl
          have hcz15_1 : wr.cell? ⟨gb847, 1, none⟩ = some (.string (⟨#[]⟩ : ByteArray)) := (blk_cell BK847.out 1).trans rfl
          have hcz15_2 : wr.cell? ⟨gb847, 2, none⟩ = some (.string (⟨#[]⟩ : ByteArray)) := (blk_cell BK847.out 2).trans rfl
          have hcz15_3 : wr.cell? ⟨gb847, 3, none⟩ = some (.int .i64 0) := (blk_cell BK847.out 3).trans rfl
          have hcz15_4 : wr.cell? ⟨gb847, 4, none⟩ = some (.int .i64 0) := (blk_cell BK847.out 4).trans rfl
          have hcz15_5 : wr.cell? ⟨gb847, 5, none⟩ = some (.slice none 0 0) := (blk_cell BK847.out 5).trans rfl
          have hfz15_0 := blk_frozen BK847.out 0
          have hfz15_1 := blk_frozen BK847.out 1
          have hfz15_2 := blk_frozen BK847.out 2
          have hfz15_3 := blk_frozen BK847.out 3
          have hfz15_4 := blk_frozen BK847.out 4
          have hfz15_5 := blk_frozen BK847.out 5
          go_wp2
          go_roundg k1
          case measure => have := HK1.out; omega
          case rel => exact ⟨(wrap64 (x16_1 + 1)), (x16_1), (by first | rfl | (simp; done) | (simp [*]; done)), H', ⟨by have := HK1.out; omega⟩, ⟨by (with_reducible repeat (first | apply Kd.V_alloc | apply Kd.V_drewN | apply Kd.V_drew)); exact Kd.V_mono (Kd.V_far (p := ⟨gb847, 0, none⟩) (Kd.V_mono HO_0.out (fun k_ hk => (⟨hk, hk.2.2.2⟩ : _ ∧ k_ ≠ gb847))) (fun _ hk => hk.2) (.int .i64 x16_1)) (fun _ hk => ⟨hk.1.1, ⟨hk.1.2.1, ⟨hk.1.2.2.1, hk.1.2.2.2⟩⟩⟩)⟩, ⟨by (with_reducible repeat (first | apply Kd.R_alloc | apply Kd.R_drewN | apply Kd.R_drew)); exact Kd.R_mono (Kd.R_far (p := ⟨gb847, 0, none⟩) (Kd.R_types HO_14.out BK847.out (by decide)) (fun _ hk => hk.2) (.int .i64 x16_1)) (fun _ hk => hk.1)⟩, ⟨by (with_reducible repeat (first | refine blk_drewN ?_ _ | refine blk_drew ?_ | refine blk_alloc ?_ _)); refine blk_far ?_ NB846_847.out _; (with_reducible repeat (first | refine blk_drewN ?_ _ | refine blk_drew ?_ | refine blk_alloc ?_ _)); exact BK846.out⟩, ⟨by (with_reducible repeat (first | refine blk_drewN ?_ _ | refine blk_drew ?_ | refine blk_alloc ?_ _)); refine blk_put (cs := #[.int .i64 x848000_1, .string (⟨#[]⟩ : ByteArray), .string (⟨#[]⟩ : ByteArray), .int .i64 0, .int .i64 0, .slice none 0 0]) ?_ 0 _ rfl; (with_reducible repeat (first | refine blk_drewN ?_ _ | refine blk_drew ?_ | refine blk_alloc ?_ _)); exact BK847.out⟩, ⟨(Gtr.bw HB.out)⟩⟩
         ·rw [if_neg c13] at H
          have c13b0 : ((rdOf ByteArray.empty l0 0).toList == (rdOf ByteArray.empty t848 x16_1).toList) = false := beq_eq_false_iff_ne.mpr c13
          have c13b1 : ((rdOf ByteArray.empty l0 0).toList != (rdOf ByteArray.empty t848 x16_1).toList) = true := bne_iff_ne.mpr c13
          have H' := Aside0.mk H
          clear H
          have p851 : 0 ≤ (x16_1 : Int) := of_decide_eq_true (by first | (with_reducible assumption) | assumption)
          have q851 : x16_1 < (t848.length : Int) := of_decide_eq_true (by first | (with_reducible assumption) | assumption)
          obtain ⟨ad851, e851, hx851_0⟩ := Kd.at_string (Kd.R_reads' HO_14.out).2.2 x16_1 p851 q851
          cases e851
          replace p851 := eq_true p851
          replace q851 := eq_true q851
          have p852 : 0 ≤ (0 : Int) := (by omega)
          have q852 : 0 < (l0.length : Int) := of_decide_eq_true (by first | (with_reducible assumption) | assumption)
          obtain ⟨ad852, e852, hx852_0⟩ := Kd.at_string (Kd.V_reads' HO_0.out).2.2 0 p852 q852
          cases e852
          have qi852 : (0 < l0.length) = True := eq_true (by omega)
          (try rw [show ((0 : Int)).toNat = 0 from rfl] at hx852_0)
          (try rw [Addr.add_zero'] at hx852_0)
          replace p852 := eq_true p852
          replace q852 := eq_true q852
          go_wp2
          go_roundg k1
          case measure => have := HK1.out; omega
          case rel => exact ⟨(wrap64 (x16_1 + 1)), (x848000_1), (by first | rfl | (simp; done) | (simp [*]; done)), H', ⟨by have := HK1.out; omega⟩, ⟨by (with_reducible repeat (first | apply Kd.V_alloc | apply Kd.V_drewN | apply Kd.V_drew)); exact HO_0.out⟩, ⟨by (with_reducible repeat (first | apply Kd.R_alloc | apply Kd.R_drewN | apply Kd.R_drew)); exact HO_14.out⟩, ⟨by (with_reducible repeat (first | refine blk_drewN ?_ _ | refine blk_drew ?_ | refine blk_alloc ?_ _)); exact BK846.out⟩, ⟨by (with_reducible repeat (first | refine blk_drewN ?_ _ | refine blk_drew ?_ | refine blk_alloc ?_ _)); exact BK847.out⟩, ⟨(Gtr.bw HB.out)⟩⟩
        ·rw [if_neg c12] at H
         exact absurd H (by simp)
       ·rw [if_neg c11] at H
        have c11b0 : decide (0 < (l0.length : Int)) = false := decide_eq_false c11
        have c11b1 : decide (0 < l0.length) = false := decide_eq_false (by omega)
        clear c11
        have H' := Aside0.mk H
        clear H
        have p851 : 0 ≤ (x16_1 : Int) := of_decide_eq_true (by first | (with_reducible assumption) | assumption)
        have q851 : x16_1 < (t848.length : Int) := of_decide_eq_true (by first | (with_reducible assumption) | assumption)
        obtain ⟨ad851, e851, hx851_0⟩ := Kd.at_string (Kd.R_reads' HO_14.out).2.2 x16_1 p851 q851
        cases e851
        replace p851 := eq_true p851
        replace q851 := eq_true q851
        go_wp2
        go_roundg k1
        case measure => have := HK1.out; omega
        case rel => exact ⟨(wrap64 (x16_1 + 1)), (x848000_1), (by first | rfl | (simp; done) | (simp [*]; done)), H', ⟨by have := HK1.out; omega⟩, ⟨by (with_reducible repeat (first | apply Kd.V_alloc | apply Kd.V_drewN | apply Kd.V_drew)); exact HO_0.out⟩, ⟨by (with_reducible repeat (first | apply Kd.R_alloc | apply Kd.R_drewN | apply Kd.R_drew)); exact HO_14.out⟩, ⟨by (with_reducible repeat (first | refine blk_drewN ?_ _ | refine blk_drew ?_ | refine blk_alloc ?_ _)); exact BK846.out⟩, ⟨by (with_reducible repeat (first | refine blk_drewN ?_ _ | refine blk_drew ?_ | refine blk_alloc ?_ _)); exact BK847.out⟩, ⟨(Gtr.bw HB.out)⟩⟩
      ·rw [if_neg c10] at H
       have c10b0 : decide (0 < x16_1) = false := decide_eq_false c10
       clear c10
       have H' := Aside0.mk H
       clear H
       have p851 : 0 ≤ (x16_1 : Int) := of_decide_eq_true (by first | (with_reducible assumption) | assumption)
       have q851 : x16_1 < (t848.length : Int) := of_decide_eq_true (by first | (with_reducible assumption) | assumption)
       obtain ⟨ad851, e851, hx851_0⟩ := Kd.at_string (Kd.R_reads' HO_14.out).2.2 x16_1 p851 q851
       cases e851
       replace p851 := eq_true p851
       replace q851 := eq_true q851
       go_wp2
       go_roundg k1
       case measure => have := HK1.out; omega
       case rel => exact ⟨(wrap64 (x16_1 + 1)), (x848000_1), (by first | rfl | (simp; done) | (simp [*]; done)), H', ⟨by have := HK1.out; omega⟩, ⟨by (with_reducible repeat (first | apply Kd.V_alloc | apply Kd.V_drewN | apply Kd.V_drew)); exact HO_0.out⟩, ⟨by (with_reducible repeat (first | apply Kd.R_alloc | apply Kd.R_drewN | apply Kd.R_drew)); exact HO_14.out⟩, ⟨by (with_reducible repeat (first | refine blk_drewN ?_ _ | refine blk_drew ?_ | refine blk_alloc ?_ _)); exact BK846.out⟩, ⟨by (with_reducible repeat (first | refine blk_drewN ?_ _ | refine blk_drew ?_ | refine blk_alloc ?_ _)); exact BK847.out⟩, ⟨(Gtr.bw HB.out)⟩⟩
     ·rw [if_neg c9] at H
      exact absurd H (by simp)
    ·rw [if_neg c8] at H
     exact absurd H (by simp)
   ·rw [if_neg c7] at H
    have c7b0 : decide (x16_1 < (t848.length : Int)) = false := decide_eq_false c7
    clear c7
    have HC16 := Aside0.mk H
    clear H
    go_upto_region 8 with (fail)
    go_cut [45] (fun v45 wc => ∃ (kq : Nat) (x45_15 : Bool), v45 = .bool x45_15 ∧ Aside0 (spec_ReadJob.j1 kq l0 x45_15 x848000_1 (⟨#[]⟩ : ByteArray) (⟨#[]⟩ : ByteArray) 0 0 = some (r1, r2, r3, r4, r5, r6, r7, r8)) ∧ Aside0 (kq ≤ k1) ∧ Aside0 (Kd.V Kd.string 9 wc w.heap.size (fun k_ => (P0_ k_ ∨ w.heap.size ≤ k_) ∧ k_ ≠ gb846 ∧ k_ ≠ gb847) (.slice A0 l0.length c0) l0) ∧ Aside0 (wc.heap[gb846]? = some (.cells #[.int .i64 0, .string (⟨#[]⟩ : ByteArray), .string (⟨#[]⟩ : ByteArray), .int .i64 0, .int .i64 0, (.slice none 0 0)] 49 (0, 0))) ∧ Aside0 (wc.heap[gb847]? = some (.cells #[.int .i64 x848000_1, .string (⟨#[]⟩ : ByteArray), .string (⟨#[]⟩ : ByteArray), .int .i64 0, .int .i64 0, (.slice none 0 0)] 49 (0, 0))) ∧ Aside0 (Below w.heap.size w wc))
    case first =>
     have H := HC16.out
     clear HC16
     by_cases c17 : x848000_1 = 0
     ·rw [if_pos c17] at H
      have c17b0 : (x848000_1 == 0) = true := beq_iff_eq.mpr c17
      have c17b1 : (x848000_1 != 0) = false := bne_eq_false_iff_eq.mpr c17
      clear c17
      (first | rw [c17b0] | (simp only [i64_w, i32_w]; rw [c17b0]) | skip)
      have H' := Aside0.mk H
      clear H
      have hnb18 := NB847_846.out
      have hnc18 := NB846_847.out
      have hcz19_0 : wr.cell? ⟨gb847, 0, none⟩ = some (.int .i64 x848000_1) := (blk_cell BK847.out 0).trans rfl
      have hcz19_1 : wr.cell? ⟨gb847, 1, none⟩ = some (.string (⟨#[]⟩ : ByteArray)) := (blk_cell BK847.out 1).trans rfl
      have hcz19_2 : wr.cell? ⟨gb847, 2, none⟩ = some (.string (⟨#[]⟩ : ByteArray)) := (blk_cell BK847.out 2).trans rfl
      have hcz19_3 : wr.cell? ⟨gb847, 3, none⟩ = some (.int .i64 0) := (blk_cell BK847.out 3).trans rfl
      have hcz19_4 : wr.cell? ⟨gb847, 4, none⟩ = some (.int .i64 0) := (blk_cell BK847.out 4).trans rfl
      have hcz19_5 : wr.cell? ⟨gb847, 5, none⟩ = some (.slice none 0 0) := (blk_cell BK847.out 5).trans rfl
      have hfz19_0 := blk_frozen BK847.out 0
      have hfz19_1 := blk_frozen BK847.out 1
      have hfz19_2 := blk_frozen BK847.out 2
      have hfz19_3 := blk_frozen BK847.out 3
      have hfz19_4 := blk_frozen BK847.out 4
      have hfz19_5 := blk_frozen BK847.out 5
      go_wp2
      go_meet
      case rel => exact ⟨_, (true), (by first | rfl | (simp; done) | (simp [*]; done)), H', ⟨by have := HK1.out; first | omega | exact Nat.le_refl _⟩, ⟨by (with_reducible repeat (first | apply Kd.V_alloc | apply Kd.V_drewN | apply Kd.V_drew)); exact Kd.V_mono HO_0.out (fun _ hk => ⟨hk.1, ⟨hk.2.2.1, hk.2.2.2⟩⟩)⟩, ⟨by (with_reducible repeat (first | refine blk_drewN ?_ _ | refine blk_drew ?_ | refine blk_alloc ?_ _)); exact BK846.out⟩, ⟨by (with_reducible repeat (first | refine blk_drewN ?_ _ | refine blk_drew ?_ | refine blk_alloc ?_ _)); exact BK847.out⟩, ⟨(Gtr.bw HB.out)⟩⟩
     ·rw [if_neg c17] at H
      have c17b0 : (x848000_1 == 0) = false := beq_eq_false_iff_ne.mpr c17
      have c17b1 : (x848000_1 != 0) = true := bne_iff_ne.mpr c17
      (first | rw [c17b0] | (simp only [i64_w, i32_w]; rw [c17b0]) | skip)
      have H' := Aside0.mk H
      clear H
      have hnb20 := NB847_846.out
      have hnc20 := NB846_847.out
      have hcz21_0 : wr.cell? ⟨gb847, 0, none⟩ = some (.int .i64 x848000_1) := (blk_cell BK847.out 0).trans rfl
      have hcz21_1 : wr.cell? ⟨gb847, 1, none⟩ = some (.string (⟨#[]⟩ : ByteArray)) := (blk_cell BK847.out 1).trans rfl
      have hcz21_2 : wr.cell? ⟨gb847, 2, none⟩ = some (.string (⟨#[]⟩ : ByteArray)) := (blk_cell BK847.out 2).trans rfl
      have hcz21_3 : wr.cell? ⟨gb847, 3, none⟩ = some (.int .i64 0) := (blk_cell BK847.out 3).trans rfl
      have hcz21_4 : wr.cell? ⟨gb847, 4, none⟩ = some (.int .i64 0) := (blk_cell BK847.out 4).trans rfl
      have hcz21_5 : wr.cell? ⟨gb847, 5, none⟩ = some (.slice none 0 0) := (blk_cell BK847.out 5).trans rfl
      have hfz21_0 := blk_frozen BK847.out 0
      have hfz21_1 := blk_frozen BK847.out 1
      have hfz21_2 := blk_frozen BK847.out 2
      have hfz21_3 := blk_frozen BK847.out 3
      have hfz21_4 := blk_frozen BK847.out 4
      have hfz21_5 := blk_frozen BK847.out 5
      go_wp2
      go_meet
      case rel => exact ⟨_, (decide ((l0.length : Int) > 20)), (by first | rfl | (simp; done) | (simp [*]; done)), H', ⟨by have := HK1.out; first | omega | exact Nat.le_refl _⟩, ⟨by (with_reducible repeat (first | apply Kd.V_alloc | apply Kd.V_drewN | apply Kd.V_drew)); exact Kd.V_mono HO_0.out (fun _ hk => ⟨hk.1, ⟨hk.2.2.1, hk.2.2.2⟩⟩)⟩, ⟨by (with_reducible repeat (first | refine blk_drewN ?_ _ | refine blk_drew ?_ | refine blk_alloc ?_ _)); exact BK846.out⟩, ⟨by (with_reducible repeat (first | refine blk_drewN ?_ _ | refine blk_drew ?_ | refine blk_alloc ?_ _)); exact BK847.out⟩, ⟨(Gtr.bw HB.out)⟩⟩
    case rest =>
     clear HC16
     (try clear c1);(try clear c2);(try clear p2);(try clear p6);(try clear c7);(try clear c7b0);(try clear c8);(try clear c8b0);(try clear p8);(try clear q8);(try clear hx8);(try clear qi8);(try clear c9);(try clear c9b0);(try clear c10);(try clear c10b0);(try clear c11);(try clear c11b0);(try clear c11b1);(try clear c12);(try clear c12b0);(try clear c12b1);(try clear c13);(try clear c13b0);(try clear c13b1);(try clear c14);(try clear c17);(try clear c17b0);(try clear c17b1);(try clear c18);(try clear c20);(try clear hcz15_0);(try clear hcz15_1);(try clear hcz15_2);(try clear hcz15_3);(try clear hcz15_4);(try clear hcz15_5);(try clear hcz19_0);(try clear hcz19_1);(try clear hcz19_2);(try clear hcz19_3);(try clear hcz19_4);(try clear hcz19_5);(try clear hcz21_0);(try clear hcz21_1);(try clear hcz21_2);(try clear hcz21_3);(try clear hcz21_4);(try clear hcz21_5);(try clear hfz15_0);(try clear hfz15_1);(try clear hfz15_2);(try clear hfz15_3);(try clear hfz15_4);(try clear hfz15_5);(try clear hfz19_0);(try clear hfz19_1);(try clear hfz19_2);(try clear hfz19_3);(try clear hfz19_4);(try clear hfz19_5);(try clear hfz21_0);(try clear hfz21_1);(try clear hfz21_2);(try clear hfz21_3);(try clear hfz21_4);(try clear hfz21_5);(try clear hx851_0);(try clear hx852_0);(try clear p2);(try clear p851);(try clear p852);(try clear q851);(try clear q852)
     obtain ⟨kq, x45_15, rfl, HA, HJ15, HO_0, BK846, BK847, HB⟩ := hcut
     cases kq with
     | zero => exact absurd HA.out (by simp [spec_ReadJob.j1])
     | succ kj15 =>
      have H := HA.out
      clear HA
      simp only [spec_ReadJob.j1] at H
      by_cases c22 : x45_15 = true
      ·subst c22
       have H1 := H
       rw [if_pos rfl] at H1
       clear H
       have H := H1
       clear H1
       simp only [Option.some.injEq, Prod.mk.injEq] at H
       obtain ⟨rfl, rfl, rfl, rfl, rfl, rfl, rfl, rfl⟩ := H
       have hnb23 := NB846_847.out
       have hnc23 := NB847_846.out
       have hcz24_0 : wc.cell? ⟨gb846, 0, none⟩ = some (.int .i64 0) := (blk_cell BK846.out 0).trans rfl
       have hcz24_1 : wc.cell? ⟨gb846, 1, none⟩ = some (.string (⟨#[]⟩ : ByteArray)) := (blk_cell BK846.out 1).trans rfl
       have hcz24_2 : wc.cell? ⟨gb846, 2, none⟩ = some (.string (⟨#[]⟩ : ByteArray)) := (blk_cell BK846.out 2).trans rfl
       have hcz24_3 : wc.cell? ⟨gb846, 3, none⟩ = some (.int .i64 0) := (blk_cell BK846.out 3).trans rfl
       have hcz24_4 : wc.cell? ⟨gb846, 4, none⟩ = some (.int .i64 0) := (blk_cell BK846.out 4).trans rfl
       have hcz24_5 : wc.cell? ⟨gb846, 5, none⟩ = some (.slice none 0 0) := (blk_cell BK846.out 5).trans rfl
       have hfz24_0 := blk_frozen BK846.out 0
       have hfz24_1 := blk_frozen BK846.out 1
       have hfz24_2 := blk_frozen BK846.out 2
       have hfz24_3 := blk_frozen BK846.out 3
       have hfz24_4 := blk_frozen BK846.out 4
       have hfz24_5 := blk_frozen BK846.out 5
       go_wp2
       refine bodyPost_ret (results_ctt rfl _ _ gb846 49 #[.int .i64 0, .string (⟨#[]⟩ : ByteArray), .string (⟨#[]⟩ : ByteArray), .int .i64 0, .int .i64 0, .slice none 0 0] (0, 0) _ rfl (by (with_reducible repeat (first | refine blk_drewN ?_ _ | refine blk_drew ?_ | refine blk_alloc ?_ _)); refine blk_put (cs := #[.int .i64 0, .string (⟨#[]⟩ : ByteArray), .string (⟨#[]⟩ : ByteArray), .int .i64 0, .int .i64 0, .slice none 0 0]) ?_ 5 _ rfl; (with_reducible repeat (first | refine blk_drewN ?_ _ | refine blk_drew ?_ | refine blk_alloc ?_ _)); refine blk_put (cs := #[.int .i64 0, .string (⟨#[]⟩ : ByteArray), .string (⟨#[]⟩ : ByteArray), .int .i64 0, .int .i64 0, .slice none 0 0]) ?_ 4 _ rfl; (with_reducible repeat (first | refine blk_drewN ?_ _ | refine blk_drew ?_ | refine blk_alloc ?_ _)); refine blk_put (cs := #[.int .i64 0, .string (⟨#[]⟩ : ByteArray), .string (⟨#[]⟩ : ByteArray), .int .i64 0, .int .i64 0, .slice none 0 0]) ?_ 3 _ rfl; (with_reducible repeat (first | refine blk_drewN ?_ _ | refine blk_drew ?_ | refine blk_alloc ?_ _)); refine blk_put (cs := #[.int .i64 0, .string (⟨#[]⟩ : ByteArray), .string (⟨#[]⟩ : ByteArray), .int .i64 0, .int .i64 0, .slice none 0 0]) ?_ 2 _ rfl; (with_reducible repeat (first | refine blk_drewN ?_ _ | refine blk_drew ?_ | refine blk_alloc ?_ _)); refine blk_put (cs := #[.int .i64 0, .string (⟨#[]⟩ : ByteArray), .string (⟨#[]⟩ : ByteArray), .int .i64 0, .int .i64 0, .slice none 0 0]) ?_ 1 _ rfl; (with_reducible repeat (first | refine blk_drewN ?_ _ | refine blk_drew ?_ | refine blk_alloc ?_ _)); refine blk_put (cs := #[.int .i64 0, .string (⟨#[]⟩ : ByteArray), .string (⟨#[]⟩ : ByteArray), .int .i64 0, .int .i64 0, .slice none 0 0]) ?_ 0 _ rfl; (with_reducible repeat (first | refine blk_drewN ?_ _ | refine blk_drew ?_ | refine blk_alloc ?_ _)); exact BK846.out) Tryz.underlying49 rfl (by kernel_rfl)) rfl ?_
       exact ⟨_, by first | rfl | (simp [errW_none, errW_some] <;> rfl) | (simp [*, errW_none, errW_some] <;> rfl), by first | exact Kd.R_nil _ _ _ _ _ | exact Kd.N_nil _ _ _ _ _ | exact Kd.V_nil _ _ _ _ _ | exact Kd.Q_nil _ _ _ _ _ | exact Kd.S_nil _ _ _ _ _, (Gtr.bw HB.out)⟩
      ·replace c22 := Bool.eq_false_iff.mpr c22
       subst c22
       have H1 : (if 1 ≤ (l0.length : Int) then ((some (l0.drop 1 : List ByteArray)).bind fun y853 => (if (y853.length : Int) > 0 then (if 0 < (y853.length : Int) then (if (rdOf ByteArray.empty y853 0).toList = ([] : List UInt8) then (spec_ReadJob.j2 kj15 y853 false x848000_1 (⟨#[]⟩ : ByteArray) (⟨#[]⟩ : ByteArray) 0 0) else (if 0 < ((rdOf ByteArray.empty y853 0).size : Int) then (spec_ReadJob.j2 kj15 y853 ((bt (rdOf ByteArray.empty y853 0) 0) == 45) x848000_1 (⟨#[]⟩ : ByteArray) (⟨#[]⟩ : ByteArray) 0 0) else (none))) else (none)) else (spec_ReadJob.j2 kj15 y853 false x848000_1 (⟨#[]⟩ : ByteArray) (⟨#[]⟩ : ByteArray) 0 0))) else (none)) = some (r1, r2, r3, r4, r5, r6, r7, r8) := by rw [if_neg (show ¬ (false = true) by decide)] at H; exact H
       clear H
       have H := H1
       clear H1
       by_cases c25 : 1 ≤ (l0.length : Int)
       ·rw [if_pos c25] at H
        have c25b0 := eq_true c25
        have c25b1 : decide (1 ≤ (l0.length : Int)) = true := decide_eq_true c25
        clear c25
        obtain ⟨y853, hy853⟩ : ∃ y_ : List ByteArray, y_ = (l0.drop 1) := ⟨_, rfl⟩
        replace H : (if (y853.length : Int) > 0 then (if 0 < (y853.length : Int) then (if (rdOf ByteArray.empty y853 0).toList = ([] : List UInt8) then (spec_ReadJob.j2 kj15 y853 false x848000_1 (⟨#[]⟩ : ByteArray) (⟨#[]⟩ : ByteArray) 0 0) else (if 0 < ((rdOf ByteArray.empty y853 0).size : Int) then (spec_ReadJob.j2 kj15 y853 ((bt (rdOf ByteArray.empty y853 0) 0) == 45) x848000_1 (⟨#[]⟩ : ByteArray) (⟨#[]⟩ : ByteArray) 0 0) else (none))) else (none)) else (spec_ReadJob.j2 kj15 y853 false x848000_1 (⟨#[]⟩ : ByteArray) (⟨#[]⟩ : ByteArray) 0 0)) = some (r1, r2, r3, r4, r5, r6, r7, r8) := by first | (rw [hy853]; with_reducible exact H) | (have H2_ := (Option.bind_some _ _).symm.trans H; rw [hy853]; with_reducible exact H2_) | (have H2_ := (Option.bind_some _ _).symm.trans H; with_reducible exact H2_) | with_reducible exact H | (rw [hy853]; exact H) | exact H
        have Ny853 := Aside0.mk hy853
        clear hy853
        have HC26 := Aside0.mk H
        clear H
        have q27 : (1 : Int) ≤ ((l0.length : Int) : Int) := of_decide_eq_true (by first | (with_reducible assumption) | assumption)
        obtain ⟨i027, hi027, _, hsz27, _⟩ := info_parts info9
        have hroom27 : l0.length ≤ c0 := (Kd.V_reads' HO_0.out).2.1
        have hC27 : Kd.F Kd.string _ _ A0 l0.length l0 := (Kd.V_at (base := w.heap.size) HO_0.out).2.2
        have hcut27 := cut_from (P := Tryz.prog) 46 9 .i64 Tryz.underlying46 hi027 1 hsz27 A0 l0.length c0 1 (by omega) q27
        have hr27 := Kd.F_cut (m := (1 : Int).toNat) (c := c0) hC27 (by omega) hroom27
        obtain ⟨A27, hA27⟩ : ∃ A1, A1 = (if c0 = (1 : Int).toNat then A0 else (A0 : Option Addr).map (·.add ((1 : Int).toNat * 1))) := ⟨_, rfl⟩
        obtain ⟨c27, hc27⟩ : ∃ c1, c1 = c0 - (1 : Int).toNat := ⟨_, rfl⟩
        have hy27 : y853.length = l0.length - (1 : Int).toNat := (by rw [Ny853.out, List.length_drop] <;> omega)
        rw [show (l0).drop (1 : Int).toNat = y853 from Ny853.out.symm] at hr27
        replace hr27 : Kd.F Kd.string _ _ A27 y853.length y853 := (by rw [hA27]; exact hr27)
        rw [← hy27, ← hA27, ← hc27] at hcut27
        have HO857 := Aside0.mk (show Kd.V Kd.string 9 _ w.heap.size _ (.slice A27 y853.length c27) y853 from Kd.V_mk (by rw [hy27, hc27]; exact Nat.sub_le_sub_right hroom27 _) hr27)
        have HC857 := Aside0.mk (show y853.length ≤ c27 from by rw [hy27, hc27]; exact Nat.sub_le_sub_right hroom27 _)
        clear hr27 hC27 hroom27 hi027 hsz27 hc27
        have KY27 := Aside0.mk hy27
        have KA27 := Aside0.mk hA27
        clear hy27 hA27
        replace q27 := eq_true q27
        go_upto_region 11 with (fail)
        go_cut [64] (fun v64 wc => ∃ (kq : Nat) (x64_25 : Bool), v64 = .bool x64_25 ∧ Aside0 (spec_ReadJob.j2 kq y853 x64_25 x848000_1 (⟨#[]⟩ : ByteArray) (⟨#[]⟩ : ByteArray) 0 0 = some (r1, r2, r3, r4, r5, r6, r7, r8)) ∧ Aside0 (kq ≤ kj15) ∧ Aside0 (Kd.V Kd.string 9 wc w.heap.size (fun k_ => (P0_ k_ ∨ w.heap.size ≤ k_) ∧ k_ ≠ gb846 ∧ k_ ≠ gb847) (.slice A27 y853.length c27) y853) ∧ Aside0 (wc.heap[gb846]? = some (.cells #[.int .i64 0, .string (⟨#[]⟩ : ByteArray), .string (⟨#[]⟩ : ByteArray), .int .i64 0, .int .i64 0, (.slice none 0 0)] 49 (0, 0))) ∧ Aside0 (wc.heap[gb847]? = some (.cells #[.int .i64 x848000_1, .string (⟨#[]⟩ : ByteArray), .string (⟨#[]⟩ : ByteArray), .int .i64 0, .int .i64 0, (.slice none 0 0)] 49 (0, 0))) ∧ Aside0 (Below w.heap.size w wc))
        case first =>
         have H := HC26.out
         clear HC26
         by_cases c28 : (y853.length : Int) > 0
         ·rw [if_pos c28] at H
          have c28b0 : decide (0 < (y853.length : Int)) = true := decide_eq_true c28
          have c28b1 : decide (0 < y853.length) = true := decide_eq_true (by omega)
          clear c28
          (first | rw [c28b0] | (simp only [i64_w, i32_w]; rw [c28b0]) | skip)
          by_cases c29 : 0 < (y853.length : Int)
          ·rw [if_pos c29] at H
           have c29b0 : decide (0 < (y853.length : Int)) = true := decide_eq_true c29
           have c29b1 : decide (0 < y853.length) = true := decide_eq_true (by omega)
           clear c29
           by_cases c30 : (rdOf ByteArray.empty y853 0).toList = ([] : List UInt8)
           ·rw [if_pos c30] at H
            have c30b0 : ((rdOf ByteArray.empty y853 0).toList == ([] : List UInt8)) = true := beq_iff_eq.mpr c30
            have c30b1 : ((rdOf ByteArray.empty y853 0).toList != ([] : List UInt8)) = false := bne_eq_false_iff_eq.mpr c30
            clear c30
            have H' := Aside0.mk H
            clear H
            have p858 : 0 ≤ (0 : Int) := (by omega)
            have q858 : 0 < (y853.length : Int) := of_decide_eq_true (by first | (with_reducible assumption) | assumption)
            obtain ⟨ad858, e858, hx858_0⟩ := Kd.at_string (Kd.V_reads' HO857.out).2.2 0 p858 q858
            cases e858
            have qi858 : (0 < y853.length) = True := eq_true (by omega)
            (try rw [show ((0 : Int)).toNat = 0 from rfl] at hx858_0)
            (try rw [Addr.add_zero'] at hx858_0)
            replace p858 := eq_true p858
            replace q858 := eq_true q858
            go_wp2
            go_meet
            case rel => exact ⟨_, (false), (by first | rfl | (simp; done) | (simp [*]; done)), H', ⟨by have := HK1.out; have := HJ15.out; first | omega | exact Nat.le_refl _⟩, ⟨by (with_reducible repeat (first | apply Kd.V_alloc | apply Kd.V_drewN | apply Kd.V_drew)); exact HO857.out⟩, ⟨by (with_reducible repeat (first | refine blk_drewN ?_ _ | refine blk_drew ?_ | refine blk_alloc ?_ _)); exact BK846.out⟩, ⟨by (with_reducible repeat (first | refine blk_drewN ?_ _ | refine blk_drew ?_ | refine blk_alloc ?_ _)); exact BK847.out⟩, ⟨(Gtr.bw HB.out)⟩⟩
           ·rw [if_neg c30] at H
            have c30b0 : ((rdOf ByteArray.empty y853 0).toList == ([] : List UInt8)) = false := beq_eq_false_iff_ne.mpr c30
            have c30b1 : ((rdOf ByteArray.empty y853 0).toList != ([] : List UInt8)) = true := bne_iff_ne.mpr c30
            by_cases c31 : 0 < ((rdOf ByteArray.empty y853 0).size : Int)
            ·rw [if_pos c31] at H
             have c31b0 : decide (0 < ((rdOf ByteArray.empty y853 0).size : Int)) = true := decide_eq_true c31
             have c31b1 : decide (0 < (rdOf ByteArray.empty y853 0).size) = true := decide_eq_true (by omega)
             clear c31
             have H' := Aside0.mk H
             clear H
             have p858 : 0 ≤ (0 : Int) := (by omega)
             have q858 : 0 < (y853.length : Int) := of_decide_eq_true (by first | (with_reducible assumption) | assumption)
             obtain ⟨ad858, e858, hx858_0⟩ := Kd.at_string (Kd.V_reads' HO857.out).2.2 0 p858 q858
             cases e858
             have qi858 : (0 < y853.length) = True := eq_true (by omega)
             (try rw [show ((0 : Int)).toNat = 0 from rfl] at hx858_0)
             (try rw [Addr.add_zero'] at hx858_0)
             replace p858 := eq_true p858
             replace q858 := eq_true q858
             have p859 : 0 ≤ (0 : Int) := (by omega)
             have q859 : 0 < (y853.length : Int) := of_decide_eq_true (by first | (with_reducible assumption) | assumption)
             obtain ⟨ad859, e859, hx859_0⟩ := Kd.at_string (Kd.V_reads' HO857.out).2.2 0 p859 q859
             obtain rfl : ad858 = ad859 := (by injection e859)
             have qi859 : (0 < y853.length) = True := eq_true (by omega)
             (try rw [show ((0 : Int)).toNat = 0 from rfl] at hx859_0)
             (try rw [Addr.add_zero'] at hx859_0)
             replace p859 := eq_true p859
             replace q859 := eq_true q859
             have p32 : 0 ≤ (0 : Int) := (by omega)
             have q32 : 0 < (rdOf ByteArray.empty y853 0).size := (by have : (0 : Int) < ((rdOf ByteArray.empty y853 0).size : Int) := of_decide_eq_true (by first | (with_reducible assumption) | assumption); omega)
             have hx32 : ∀ h : 0 < (rdOf ByteArray.empty y853 0).size, (((rdOf ByteArray.empty y853 0)[0]'h).toNat : Int) = bt (rdOf ByteArray.empty y853 0) 0 := bt_at (rdOf ByteArray.empty y853 0) 0
             clear p32
             have qi32 : (0 < ((rdOf ByteArray.empty y853 0).size : Int)) = True := eq_true (of_decide_eq_true (by first | (with_reducible assumption) | assumption))
             replace q32 := eq_true q32
             go_wp2
             go_meet
             case rel => exact ⟨_, (((bt (rdOf ByteArray.empty y853 0) 0) == 45)), (by first | rfl | (simp; done) | (simp [*]; done)), H', ⟨by have := HK1.out; have := HJ15.out; first | omega | exact Nat.le_refl _⟩, ⟨by (with_reducible repeat (first | apply Kd.V_alloc | apply Kd.V_drewN | apply Kd.V_drew)); exact HO857.out⟩, ⟨by (with_reducible repeat (first | refine blk_drewN ?_ _ | refine blk_drew ?_ | refine blk_alloc ?_ _)); exact BK846.out⟩, ⟨by (with_reducible repeat (first | refine blk_drewN ?_ _ | refine blk_drew ?_ | refine blk_alloc ?_ _)); exact BK847.out⟩, ⟨(Gtr.bw HB.out)⟩⟩
            ·rw [if_neg c31] at H
             exact absurd H (by simp)
          ·rw [if_neg c29] at H
           exact absurd H (by simp)
         ·rw [if_neg c28] at H
          have c28b0 : decide (0 < (y853.length : Int)) = false := decide_eq_false c28
          have c28b1 : decide (0 < y853.length) = false := decide_eq_false (by omega)
          clear c28
          (first | rw [c28b0] | (simp only [i64_w, i32_w]; rw [c28b0]) | skip)
          have H' := Aside0.mk H
          clear H
          go_wp2
          go_meet
          case rel => exact ⟨_, (false), (by first | rfl | (simp; done) | (simp [*]; done)), H', ⟨by have := HK1.out; have := HJ15.out; first | omega | exact Nat.le_refl _⟩, ⟨by (with_reducible repeat (first | apply Kd.V_alloc | apply Kd.V_drewN | apply Kd.V_drew)); exact HO857.out⟩, ⟨by (with_reducible repeat (first | refine blk_drewN ?_ _ | refine blk_drew ?_ | refine blk_alloc ?_ _)); exact BK846.out⟩, ⟨by (with_reducible repeat (first | refine blk_drewN ?_ _ | refine blk_drew ?_ | refine blk_alloc ?_ _)); exact BK847.out⟩, ⟨(Gtr.bw HB.out)⟩⟩
        case rest =>
         clear HC26
         (try clear c1);(try clear c2);(try clear p2);(try clear q2);(try clear c3);(try clear p3);(try clear q3);(try clear hx3);(try clear qi3);(try clear p6);(try clear c7);(try clear c7b0);(try clear c8);(try clear c8b0);(try clear p8);(try clear q8);(try clear hx8);(try clear qi8);(try clear c9);(try clear c9b0);(try clear c10);(try clear c10b0);(try clear c11);(try clear c11b0);(try clear c11b1);(try clear c12);(try clear c12b0);(try clear c12b1);(try clear c13);(try clear c13b0);(try clear c13b1);(try clear c14);(try clear c17);(try clear c17b0);(try clear c17b1);(try clear c18);(try clear c20);(try clear c22);(try clear c23);(try clear c25);(try clear c25b0);(try clear c25b1);(try clear c27);(try clear q27);(try clear c28);(try clear c28b0);(try clear c28b1);(try clear c29);(try clear c29b0);(try clear c29b1);(try clear c30);(try clear c30b0);(try clear c30b1);(try clear c31);(try clear c31b0);(try clear c31b1);(try clear p32);(try clear q32);(try clear hx32);(try clear qi32);(try clear hcz15_0);(try clear hcz15_1);(try clear hcz15_2);(try clear hcz15_3);(try clear hcz15_4);(try clear hcz15_5);(try clear hcz19_0);(try clear hcz19_1);(try clear hcz19_2);(try clear hcz19_3);(try clear hcz19_4);(try clear hcz19_5);(try clear hcz21_0);(try clear hcz21_1);(try clear hcz21_2);(try clear hcz21_3);(try clear hcz21_4);(try clear hcz21_5);(try clear hcz24_0);(try clear hcz24_1);(try clear hcz24_2);(try clear hcz24_3);(try clear hcz24_4);(try clear hcz24_5);(try clear hfz15_0);(try clear hfz15_1);(try clear hfz15_2);(try clear hfz15_3);(try clear hfz15_4);(try clear hfz15_5);(try clear hfz19_0);(try clear hfz19_1);(try clear hfz19_2);(try clear hfz19_3);(try clear hfz19_4);(try clear hfz19_5);(try clear hfz21_0);(try clear hfz21_1);(try clear hfz21_2);(try clear hfz21_3);(try clear hfz21_4);(try clear hfz21_5);(try clear hfz24_0);(try clear hfz24_1);(try clear hfz24_2);(try clear hfz24_3);(try clear hfz24_4);(try clear hfz24_5);(try clear hx851_0);(try clear hx852_0);(try clear hx858_0);(try clear hx859_0);(try clear p2);(try clear p32);(try clear p6);(try clear p8);(try clear p851);(try clear p852);(try clear p858);(try clear p859);(try clear q27);(try clear q32);(try clear q8);(try clear q851);(try clear q852);(try clear q858);(try clear q859)
         obtain ⟨kq, x64_25, rfl, HA, HJ25, HO_8, BK846, BK847, HB⟩ := hcut
         cases kq with
         | zero => exact absurd HA.out (by simp [spec_ReadJob.j2])
         | succ kj25 =>
          have H := HA.out
          clear HA
          simp only [spec_ReadJob.j2] at H
          have HC33 := Aside0.mk H
          clear H
          go_upto_if 64 with (fail)
          go_cut [8] (fun v8 wc => ∃ (kq : Nat) (x8_32 : List ByteArray) (x847000_32 : Int) (x847001_32 : ByteArray) (x847002_32 : ByteArray) (x847003_32 : Int) (x847004_32 : Int) (x848001_32 : ByteArray), Aside0 (spec_ReadJob.j3 kq x8_32 x848000_1 x848001_32 (⟨#[]⟩ : ByteArray) 0 0 = some (r1, r2, r3, r4, r5, r6, r7, r8)) ∧ Aside0 (kq ≤ kj25) ∧ Aside0 (Kd.V Kd.string 9 wc w.heap.size (fun k_ => (P0_ k_ ∨ w.heap.size ≤ k_) ∧ k_ ≠ gb846 ∧ k_ ≠ gb847) v8 x8_32) ∧ Aside0 (wc.heap[gb846]? = some (.cells #[.int .i64 x847000_32, .string x847001_32, .string x847002_32, .int .i64 x847003_32, .int .i64 x847004_32, (.slice none 0 0)] 49 (0, 0))) ∧ Aside0 (wc.heap[gb847]? = some (.cells #[.int .i64 x848000_1, .string x848001_32, .string (⟨#[]⟩ : ByteArray), .int .i64 0, .int .i64 0, (.slice none 0 0)] 49 (0, 0))) ∧ Aside0 (Below w.heap.size w wc))
          case first =>
           have H := HC33.out
           clear HC33
           by_cases c34 : x64_25 = true
           ·subst c34
            have H1 := H
            rw [if_pos rfl] at H1
            clear H
            have H := H1
            clear H1
            replace H := Option.bind_eq_some_iff.mp H
            obtain ⟨t860, A350, H⟩ := H
            try dsimp only at H
            have A35 := Aside0.mk A350
            clear A350
            by_cases c36 : t860.toList = ([] : List UInt8)
            ·rw [if_pos c36] at H
             have c36b0 : (t860.toList == ([] : List UInt8)) = true := beq_iff_eq.mpr c36
             have c36b1 : (t860.toList != ([] : List UInt8)) = false := bne_eq_false_iff_eq.mpr c36
             clear c36
             (first | rw [c36b0] | (simp only [i64_w, i32_w]; rw [c36b0]) | skip)
             simp only [Option.some.injEq, Prod.mk.injEq] at H
             obtain ⟨rfl, rfl, rfl, rfl, rfl, rfl, rfl, rfl⟩ := H
             have hnb37 := NB847_846.out
             have hnc37 := NB846_847.out
             have hcz38_0 : wc.cell? ⟨gb847, 0, none⟩ = some (.int .i64 x848000_1) := (blk_cell BK847.out 0).trans rfl
             have hcz38_1 : wc.cell? ⟨gb847, 1, none⟩ = some (.string (⟨#[]⟩ : ByteArray)) := (blk_cell BK847.out 1).trans rfl
             have hcz38_2 : wc.cell? ⟨gb847, 2, none⟩ = some (.string (⟨#[]⟩ : ByteArray)) := (blk_cell BK847.out 2).trans rfl
             have hcz38_3 : wc.cell? ⟨gb847, 3, none⟩ = some (.int .i64 0) := (blk_cell BK847.out 3).trans rfl
             have hcz38_4 : wc.cell? ⟨gb847, 4, none⟩ = some (.int .i64 0) := (blk_cell BK847.out 4).trans rfl
             have hcz38_5 : wc.cell? ⟨gb847, 5, none⟩ = some (.slice none 0 0) := (blk_cell BK847.out 5).trans rfl
             have hfz38_0 := blk_frozen BK847.out 0
             have hfz38_1 := blk_frozen BK847.out 1
             have hfz38_2 := blk_frozen BK847.out 2
             have hfz38_3 := blk_frozen BK847.out 3
             have hfz38_4 := blk_frozen BK847.out 4
             have hfz38_5 := blk_frozen BK847.out 5
             go_wp2_with (first | ((with_reducible refine gate_callee (f := 94) rfl ?_); refine goesL_ (some 67) rfl rfl Tryz.func94 (by kernel_rfl) rfl #[.int .i64 x848000_1] rfl (by (try simp only [List.map_toArray, List.map_cons, List.map_nil]); first | done | rfl | (simp only [List.length_drop, List.length_take]; rfl)) ?_; (with_reducible refine (spec_l15Flag.calls x848000_1 t860 _ A35.out).mono ?_); rintro e w39 ⟨rfl, hb⟩; refine ⟨_, rfl, ?_⟩; have n0_ := Aside0.mk (Kd.V_below (by (with_reducible repeat (first | apply Kd.V_alloc | apply Kd.V_drewN | apply Kd.V_drew)); exact HO_8.out) hb); have n1_ := Aside0.mk (blk_below (g := gb846) (o := .cells #[.int .i64 0, .string (⟨#[]⟩ : ByteArray), .string (⟨#[]⟩ : ByteArray), .int .i64 0, .int .i64 0, .slice none 0 0] 49 (0, 0)) (by (with_reducible repeat (first | refine blk_drewN ?_ _ | refine blk_drew ?_ | refine blk_alloc ?_ _)); exact BK846.out) hb); have n2_ := Aside0.mk (blk_below (g := gb847) (o := .cells #[.int .i64 x848000_1, .string (⟨#[]⟩ : ByteArray), .string (⟨#[]⟩ : ByteArray), .int .i64 0, .int .i64 0, .slice none 0 0] 49 (0, 0)) (by (with_reducible repeat (first | refine blk_drewN ?_ _ | refine blk_drew ?_ | refine blk_alloc ?_ _)); exact BK847.out) hb); have n3_ := Aside0.mk (below_step (Gtr.bw HB.out) hb); clear HO_8; clear BK846; clear BK847; clear HB; have HO_8 := n0_; have BK846 := n1_; have BK847 := n2_; have HB := n3_; clear n0_ n1_ n2_ n3_; (try clear hb); (try clear hb2); (try clear hk); (try clear hi); have hcz40_0 : w39.cell? ⟨gb846, 0, none⟩ = some (.int .i64 0) := (blk_cell BK846.out 0).trans rfl; have hcz40_1 : w39.cell? ⟨gb846, 1, none⟩ = some (.string (⟨#[]⟩ : ByteArray)) := (blk_cell BK846.out 1).trans rfl; have hcz40_2 : w39.cell? ⟨gb846, 2, none⟩ = some (.string (⟨#[]⟩ : ByteArray)) := (blk_cell BK846.out 2).trans rfl; have hcz40_3 : w39.cell? ⟨gb846, 3, none⟩ = some (.int .i64 0) := (blk_cell BK846.out 3).trans rfl; have hcz40_4 : w39.cell? ⟨gb846, 4, none⟩ = some (.int .i64 0) := (blk_cell BK846.out 4).trans rfl; have hcz40_5 : w39.cell? ⟨gb846, 5, none⟩ = some (.slice none 0 0) := (blk_cell BK846.out 5).trans rfl; have hfz40_0 := blk_frozen BK846.out 0; have hfz40_1 := blk_frozen BK846.out 1; have hfz40_2 := blk_frozen BK846.out 2; have hfz40_3 := blk_frozen BK846.out 3; have hfz40_4 := blk_frozen BK846.out 4; have hfz40_5 := blk_frozen BK846.out 5))
             refine bodyPost_ret (results_ctt rfl _ _ gb846 49 #[.int .i64 0, .string (⟨#[]⟩ : ByteArray), .string (⟨#[]⟩ : ByteArray), .int .i64 0, .int .i64 0, .slice none 0 0] (0, 0) _ rfl (by (with_reducible repeat (first | refine blk_drewN ?_ _ | refine blk_drew ?_ | refine blk_alloc ?_ _)); refine blk_put (cs := #[.int .i64 0, .string (⟨#[]⟩ : ByteArray), .string (⟨#[]⟩ : ByteArray), .int .i64 0, .int .i64 0, .slice none 0 0]) ?_ 5 _ rfl; (with_reducible repeat (first | refine blk_drewN ?_ _ | refine blk_drew ?_ | refine blk_alloc ?_ _)); refine blk_put (cs := #[.int .i64 0, .string (⟨#[]⟩ : ByteArray), .string (⟨#[]⟩ : ByteArray), .int .i64 0, .int .i64 0, .slice none 0 0]) ?_ 4 _ rfl; (with_reducible repeat (first | refine blk_drewN ?_ _ | refine blk_drew ?_ | refine blk_alloc ?_ _)); refine blk_put (cs := #[.int .i64 0, .string (⟨#[]⟩ : ByteArray), .string (⟨#[]⟩ : ByteArray), .int .i64 0, .int .i64 0, .slice none 0 0]) ?_ 3 _ rfl; (with_reducible repeat (first | refine blk_drewN ?_ _ | refine blk_drew ?_ | refine blk_alloc ?_ _)); refine blk_put (cs := #[.int .i64 0, .string (⟨#[]⟩ : ByteArray), .string (⟨#[]⟩ : ByteArray), .int .i64 0, .int .i64 0, .slice none 0 0]) ?_ 2 _ rfl; (with_reducible repeat (first | refine blk_drewN ?_ _ | refine blk_drew ?_ | refine blk_alloc ?_ _)); refine blk_put (cs := #[.int .i64 0, .string (⟨#[]⟩ : ByteArray), .string (⟨#[]⟩ : ByteArray), .int .i64 0, .int .i64 0, .slice none 0 0]) ?_ 1 _ rfl; (with_reducible repeat (first | refine blk_drewN ?_ _ | refine blk_drew ?_ | refine blk_alloc ?_ _)); refine blk_put (cs := #[.int .i64 0, .string (⟨#[]⟩ : ByteArray), .string (⟨#[]⟩ : ByteArray), .int .i64 0, .int .i64 0, .slice none 0 0]) ?_ 0 _ rfl; (with_reducible repeat (first | refine blk_drewN ?_ _ | refine blk_drew ?_ | refine blk_alloc ?_ _)); exact BK846.out) Tryz.underlying49 rfl (by kernel_rfl)) rfl ?_
             exact ⟨_, by first | rfl | (simp [errW_none, errW_some] <;> rfl) | (simp [*, errW_none, errW_some] <;> rfl), by first | exact Kd.R_nil _ _ _ _ _ | exact Kd.N_nil _ _ _ _ _ | exact Kd.V_nil _ _ _ _ _ | exact Kd.Q_nil _ _ _ _ _ | exact Kd.S_nil _ _ _ _ _, (Gtr.bw HB.out)⟩
            ·rw [if_neg c36] at H
             have c36b0 : (t860.toList == ([] : List UInt8)) = false := beq_eq_false_iff_ne.mpr c36
             have c36b1 : (t860.toList != ([] : List UInt8)) = true := bne_iff_ne.mpr c36
             (first | rw [c36b0] | (simp only [i64_w, i32_w]; rw [c36b0]) | skip)
             by_cases c41 : 0 < (y853.length : Int)
             ·rw [if_pos c41] at H
              have c41b0 : decide (0 < (y853.length : Int)) = true := decide_eq_true c41
              have c41b1 : decide (0 < y853.length) = true := decide_eq_true (by omega)
              clear c41
              by_cases c42 : 1 + t860.size ≤ 9223372036854775807
              ·rw [if_pos c42] at H
               have c42b0 := eq_true c42
               have c42b1 : decide (1 + t860.size ≤ 9223372036854775807) = true := decide_eq_true c42
               try have c42b2 : (9223372036854775807 < 1 + t860.size) = False := eq_false (Nat.not_lt.2 c42)
               by_cases c43 : (rdOf ByteArray.empty y853 0).toList = ((⟨#[45]⟩ : ByteArray) ++ t860).toList
               ·rw [if_pos c43] at H
                have c43b0 : ((rdOf ByteArray.empty y853 0).toList == ((⟨#[45]⟩ : ByteArray) ++ t860).toList) = true := beq_iff_eq.mpr c43
                have c43b1 : ((rdOf ByteArray.empty y853 0).toList != ((⟨#[45]⟩ : ByteArray) ++ t860).toList) = false := bne_eq_false_iff_eq.mpr c43
                clear c43
                by_cases c44 : 1 ≤ ((rdOf ByteArray.empty y853 0).size : Int)
                ·rw [if_pos c44] at H
                 have c44b0 := eq_true c44
                 have c44b1 : decide (1 ≤ ((rdOf ByteArray.empty y853 0).size : Int)) = true := decide_eq_true c44
                 clear c44
                 by_cases c45 : 1 ≤ (y853.length : Int)
                 ·rw [if_pos c45] at H
                  have c45b0 := eq_true c45
                  have c45b1 : decide (1 ≤ (y853.length : Int)) = true := decide_eq_true c45
                  clear c45
                  obtain ⟨y863, hy863⟩ : ∃ y_ : List ByteArray, y_ = (y853.drop 1) := ⟨_, rfl⟩
                  replace H : (spec_ReadJob.j3 kj25 y863 x848000_1 ((rdOf ByteArray.empty y853 0).extract 1 (rdOf ByteArray.empty y853 0).size) (⟨#[]⟩ : ByteArray) 0 0) = some (r1, r2, r3, r4, r5, r6, r7, r8) := by first | (rw [hy863]; with_reducible exact H) | (have H2_ := (Option.bind_some _ _).symm.trans H; rw [hy863]; with_reducible exact H2_) | (have H2_ := (Option.bind_some _ _).symm.trans H; with_reducible exact H2_) | with_reducible exact H | (rw [hy863]; exact H) | exact H
                  have Ny863 := Aside0.mk hy863
                  clear hy863
                  have H' := Aside0.mk H
                  clear H
                  have hnb46 := NB847_846.out
                  have hnc46 := NB846_847.out
                  have hcz47_0 : wc.cell? ⟨gb847, 0, none⟩ = some (.int .i64 x848000_1) := (blk_cell BK847.out 0).trans rfl
                  have hcz47_1 : wc.cell? ⟨gb847, 1, none⟩ = some (.string (⟨#[]⟩ : ByteArray)) := (blk_cell BK847.out 1).trans rfl
                  have hcz47_2 : wc.cell? ⟨gb847, 2, none⟩ = some (.string (⟨#[]⟩ : ByteArray)) := (blk_cell BK847.out 2).trans rfl
                  have hcz47_3 : wc.cell? ⟨gb847, 3, none⟩ = some (.int .i64 0) := (blk_cell BK847.out 3).trans rfl
                  have hcz47_4 : wc.cell? ⟨gb847, 4, none⟩ = some (.int .i64 0) := (blk_cell BK847.out 4).trans rfl
                  have hcz47_5 : wc.cell? ⟨gb847, 5, none⟩ = some (.slice none 0 0) := (blk_cell BK847.out 5).trans rfl
                  have hfz47_0 := blk_frozen BK847.out 0
                  have hfz47_1 := blk_frozen BK847.out 1
                  have hfz47_2 := blk_frozen BK847.out 2
                  have hfz47_3 := blk_frozen BK847.out 3
                  have hfz47_4 := blk_frozen BK847.out 4
                  have hfz47_5 := blk_frozen BK847.out 5
                  go_wp2_with (first | ((with_reducible refine gate_callee (f := 94) rfl ?_); refine goesL_ (some 67) rfl rfl Tryz.func94 (by kernel_rfl) rfl #[.int .i64 x848000_1] rfl (by (try simp only [List.map_toArray, List.map_cons, List.map_nil]); first | done | rfl | (simp only [List.length_drop, List.length_take]; rfl)) ?_; (with_reducible refine (spec_l15Flag.calls x848000_1 t860 _ A35.out).mono ?_); rintro e w48 ⟨rfl, hb⟩; refine ⟨_, rfl, ?_⟩; have n0_ := Aside0.mk (Kd.V_below (by (with_reducible repeat (first | apply Kd.V_alloc | apply Kd.V_drewN | apply Kd.V_drew)); exact HO_8.out) hb); have n1_ := Aside0.mk (blk_below (g := gb846) (o := .cells #[.int .i64 0, .string (⟨#[]⟩ : ByteArray), .string (⟨#[]⟩ : ByteArray), .int .i64 0, .int .i64 0, .slice none 0 0] 49 (0, 0)) (by (with_reducible repeat (first | refine blk_drewN ?_ _ | refine blk_drew ?_ | refine blk_alloc ?_ _)); exact BK846.out) hb); have n2_ := Aside0.mk (blk_below (g := gb847) (o := .cells #[.int .i64 x848000_1, .string (⟨#[]⟩ : ByteArray), .string (⟨#[]⟩ : ByteArray), .int .i64 0, .int .i64 0, .slice none 0 0] 49 (0, 0)) (by (with_reducible repeat (first | refine blk_drewN ?_ _ | refine blk_drew ?_ | refine blk_alloc ?_ _)); exact BK847.out) hb); have n3_ := Aside0.mk (below_step (Gtr.bw HB.out) hb); clear HO_8; clear BK846; clear BK847; clear HB; have HO_8 := n0_; have BK846 := n1_; have BK847 := n2_; have HB := n3_; clear n0_ n1_ n2_ n3_; (try clear hb); (try clear hb2); (try clear hk); (try clear hi); have p861 : 0 ≤ (0 : Int) := (by omega); have q861 : 0 < (y853.length : Int) := of_decide_eq_true (by first | (with_reducible assumption) | assumption); obtain ⟨ad861, e861, hx861_0⟩ := Kd.at_string (Kd.V_reads' HO_8.out).2.2 0 p861 q861; cases e861; have qi861 : (0 < y853.length) = True := eq_true (by omega); (try rw [show ((0 : Int)).toNat = 0 from rfl] at hx861_0); (try rw [Addr.add_zero'] at hx861_0); replace p861 := eq_true p861; replace q861 := eq_true q861; have p862 : 0 ≤ (0 : Int) := (by omega); have q862 : 0 < (y853.length : Int) := of_decide_eq_true (by first | (with_reducible assumption) | assumption); obtain ⟨ad862, e862, hx862_0⟩ := Kd.at_string (Kd.V_reads' HO_8.out).2.2 0 p862 q862; obtain rfl : ad861 = ad862 := (by injection e862); have qi862 : (0 < y853.length) = True := eq_true (by omega); (try rw [show ((0 : Int)).toNat = 0 from rfl] at hx862_0); (try rw [Addr.add_zero'] at hx862_0); replace p862 := eq_true p862; replace q862 := eq_true q862; have hcz49_0 : w48.cell? ⟨gb847, 0, none⟩ = some (.int .i64 x848000_1) := (blk_cell BK847.out 0).trans rfl; have hcz49_1 : w48.cell? ⟨gb847, 1, none⟩ = some (.string (⟨#[]⟩ : ByteArray)) := (blk_cell BK847.out 1).trans rfl; have hcz49_2 : w48.cell? ⟨gb847, 2, none⟩ = some (.string (⟨#[]⟩ : ByteArray)) := (blk_cell BK847.out 2).trans rfl; have hcz49_3 : w48.cell? ⟨gb847, 3, none⟩ = some (.int .i64 0) := (blk_cell BK847.out 3).trans rfl; have hcz49_4 : w48.cell? ⟨gb847, 4, none⟩ = some (.int .i64 0) := (blk_cell BK847.out 4).trans rfl; have hcz49_5 : w48.cell? ⟨gb847, 5, none⟩ = some (.slice none 0 0) := (blk_cell BK847.out 5).trans rfl; have hfz49_0 := blk_frozen BK847.out 0; have hfz49_1 := blk_frozen BK847.out 1; have hfz49_2 := blk_frozen BK847.out 2; have hfz49_3 := blk_frozen BK847.out 3; have hfz49_4 := blk_frozen BK847.out 4; have hfz49_5 := blk_frozen BK847.out 5) | ((with_reducible refine gate_store (t := 9) (p := 83) rfl ?_); refine store_event (t := 9) (p := 83) (v := ?vo_w50) (w1 := (w48.setCell ⟨gb847, 1, none⟩ (.string ((rdOf ByteArray.empty y853 0).extract 1 (rdOf ByteArray.empty y853 0).size)))) ?hg ?ho ?hn ?hr ?_; (case ho => rfl); (case hg => rfl); (case hn => rfl); (case hr => first | (go_simp; done) | (go_simp; rfl)); intro w50 hw; have n0_ : Aside0 (Kd.V Kd.string 9 w50 w.heap.size (fun k_ => (P0_ k_ ∨ w.heap.size ≤ k_) ∧ k_ ≠ gb846 ∧ k_ ≠ gb847) (.slice (some ad861) y853.length c27) y853) := ⟨(by rw [hw]; exact (by (with_reducible repeat (first | apply Kd.V_alloc | apply Kd.V_drewN | apply Kd.V_drew)); exact Kd.V_mono (Kd.V_far (p := ⟨gb847, 1, none⟩) (Kd.V_mono HO_8.out (fun k_ hk => (⟨hk, hk.2.2⟩ : _ ∧ k_ ≠ gb847))) (fun _ hk => hk.2) (.string ((rdOf ByteArray.empty y853 0).extract 1 (rdOf ByteArray.empty y853 0).size))) (fun _ hk => ⟨hk.1.1, ⟨hk.1.2.1, hk.1.2.2⟩⟩)))⟩; have n1_ : Aside0 (w50.heap[gb846]? = some (.cells #[.int .i64 0, .string (⟨#[]⟩ : ByteArray), .string (⟨#[]⟩ : ByteArray), .int .i64 0, .int .i64 0, .slice none 0 0] 49 (0, 0))) := ⟨(by rw [hw]; exact (by (with_reducible repeat (first | refine blk_drewN ?_ _ | refine blk_drew ?_ | refine blk_alloc ?_ _)); refine blk_far ?_ NB846_847.out _; (with_reducible repeat (first | refine blk_drewN ?_ _ | refine blk_drew ?_ | refine blk_alloc ?_ _)); exact BK846.out))⟩; have n2_ : Aside0 (w50.heap[gb847]? = some (.cells #[.int .i64 x848000_1, .string ((rdOf ByteArray.empty y853 0).extract 1 (rdOf ByteArray.empty y853 0).size), .string (⟨#[]⟩ : ByteArray), .int .i64 0, .int .i64 0, .slice none 0 0] 49 (0, 0))) := ⟨(by rw [hw]; exact (by (with_reducible repeat (first | refine blk_drewN ?_ _ | refine blk_drew ?_ | refine blk_alloc ?_ _)); refine blk_put (cs := #[.int .i64 x848000_1, .string (⟨#[]⟩ : ByteArray), .string (⟨#[]⟩ : ByteArray), .int .i64 0, .int .i64 0, .slice none 0 0]) ?_ 1 _ rfl; (with_reducible repeat (first | refine blk_drewN ?_ _ | refine blk_drew ?_ | refine blk_alloc ?_ _)); exact BK847.out))⟩; have n3_ : Aside0 (Below w.heap.size w w50) := ⟨(by rw [hw]; exact (Gtr.bw HB.out))⟩; clear hw; clear HO_8; clear BK846; clear BK847; clear HB; have HO_8 := n0_; have BK846 := n1_; have BK847 := n2_; have HB := n3_; clear n0_ n1_ n2_ n3_; have q51 : (1 : Int) ≤ ((y853.length : Int) : Int) := of_decide_eq_true (by first | (with_reducible assumption) | assumption); obtain ⟨i051, hi051, _, hsz51, _⟩ := info_parts info9; have hroom51 : y853.length ≤ c27 := (Kd.V_reads' HO_8.out).2.1; have hC51 : Kd.F Kd.string _ _ (some ad861) y853.length y853 := (Kd.V_at (base := w.heap.size) HO_8.out).2.2; have hcut51 := cut_from (P := Tryz.prog) 46 9 .i64 Tryz.underlying46 hi051 1 hsz51 (some ad861) y853.length c27 1 (by omega) q51; have hr51 := Kd.F_cut (m := (1 : Int).toNat) (c := c27) hC51 (by omega) hroom51; obtain ⟨A51, hA51⟩ : ∃ A1, A1 = (if c27 = (1 : Int).toNat then (some ad861) else ((some ad861) : Option Addr).map (·.add ((1 : Int).toNat * 1))) := ⟨_, rfl⟩; obtain ⟨c51, hc51⟩ : ∃ c1, c1 = c27 - (1 : Int).toNat := ⟨_, rfl⟩; have hy51 : y863.length = y853.length - (1 : Int).toNat := (by rw [Ny863.out, List.length_drop] <;> omega); rw [show (y853).drop (1 : Int).toNat = y863 from Ny863.out.symm] at hr51; replace hr51 : Kd.F Kd.string _ _ A51 y863.length y863 := (by rw [hA51]; exact hr51); rw [← hy51, ← hA51, ← hc51] at hcut51; have HO867 := Aside0.mk (show Kd.V Kd.string 9 _ w.heap.size _ (.slice A51 y863.length c51) y863 from Kd.V_mk (by rw [hy51, hc51]; exact Nat.sub_le_sub_right hroom51 _) hr51); have HC867 := Aside0.mk (show y863.length ≤ c51 from by rw [hy51, hc51]; exact Nat.sub_le_sub_right hroom51 _); clear hr51 hC51 hroom51 hi051 hsz51 hc51; have KY51 := Aside0.mk hy51; have KA51 := Aside0.mk hA51; clear hy51 hA51; replace q51 := eq_true q51))
                  go_meet
                  case rel => exact ⟨_, (y863), (0), ((⟨#[]⟩ : ByteArray)), ((⟨#[]⟩ : ByteArray)), (0), (0), ((rdOf ByteArray.empty y853 0).extract 1 (rdOf ByteArray.empty y853 0).size), H', ⟨by have := HK1.out; have := HJ15.out; have := HJ25.out; first | omega | exact Nat.le_refl _⟩, ⟨by (with_reducible repeat (first | apply Kd.V_alloc | apply Kd.V_drewN | apply Kd.V_drew)); exact HO867.out⟩, ⟨by (with_reducible repeat (first | refine blk_drewN ?_ _ | refine blk_drew ?_ | refine blk_alloc ?_ _)); exact BK846.out⟩, ⟨by (with_reducible repeat (first | refine blk_drewN ?_ _ | refine blk_drew ?_ | refine blk_alloc ?_ _)); exact BK847.out⟩, ⟨(Gtr.bw HB.out)⟩⟩
                 ·rw [if_neg c45] at H
                  exact absurd H (by simp)
                ·rw [if_neg c44] at H
                 exact absurd H (by simp)
               ·rw [if_neg c43] at H
                have c43b0 : ((rdOf ByteArray.empty y853 0).toList == ((⟨#[45]⟩ : ByteArray) ++ t860).toList) = false := beq_eq_false_iff_ne.mpr c43
                have c43b1 : ((rdOf ByteArray.empty y853 0).toList != ((⟨#[45]⟩ : ByteArray) ++ t860).toList) = true := bne_iff_ne.mpr c43
                simp only [Option.some.injEq, Prod.mk.injEq] at H
                obtain ⟨rfl, rfl, rfl, rfl, rfl, rfl, rfl, rfl⟩ := H
                have hnb52 := NB847_846.out
                have hnc52 := NB846_847.out
                have hcz53_0 : wc.cell? ⟨gb847, 0, none⟩ = some (.int .i64 x848000_1) := (blk_cell BK847.out 0).trans rfl
                have hcz53_1 : wc.cell? ⟨gb847, 1, none⟩ = some (.string (⟨#[]⟩ : ByteArray)) := (blk_cell BK847.out 1).trans rfl
                have hcz53_2 : wc.cell? ⟨gb847, 2, none⟩ = some (.string (⟨#[]⟩ : ByteArray)) := (blk_cell BK847.out 2).trans rfl
                have hcz53_3 : wc.cell? ⟨gb847, 3, none⟩ = some (.int .i64 0) := (blk_cell BK847.out 3).trans rfl
                have hcz53_4 : wc.cell? ⟨gb847, 4, none⟩ = some (.int .i64 0) := (blk_cell BK847.out 4).trans rfl
                have hcz53_5 : wc.cell? ⟨gb847, 5, none⟩ = some (.slice none 0 0) := (blk_cell BK847.out 5).trans rfl
                have hfz53_0 := blk_frozen BK847.out 0
                have hfz53_1 := blk_frozen BK847.out 1
                have hfz53_2 := blk_frozen BK847.out 2
                have hfz53_3 := blk_frozen BK847.out 3
                have hfz53_4 := blk_frozen BK847.out 4
                have hfz53_5 := blk_frozen BK847.out 5
                go_wp2_with (first | ((with_reducible refine gate_callee (f := 94) rfl ?_); refine goesL_ (some 67) rfl rfl Tryz.func94 (by kernel_rfl) rfl #[.int .i64 x848000_1] rfl (by (try simp only [List.map_toArray, List.map_cons, List.map_nil]); first | done | rfl | (simp only [List.length_drop, List.length_take]; rfl)) ?_; (with_reducible refine (spec_l15Flag.calls x848000_1 t860 _ A35.out).mono ?_); rintro e w54 ⟨rfl, hb⟩; refine ⟨_, rfl, ?_⟩; have n0_ := Aside0.mk (Kd.V_below (by (with_reducible repeat (first | apply Kd.V_alloc | apply Kd.V_drewN | apply Kd.V_drew)); exact HO_8.out) hb); have n1_ := Aside0.mk (blk_below (g := gb846) (o := .cells #[.int .i64 0, .string (⟨#[]⟩ : ByteArray), .string (⟨#[]⟩ : ByteArray), .int .i64 0, .int .i64 0, .slice none 0 0] 49 (0, 0)) (by (with_reducible repeat (first | refine blk_drewN ?_ _ | refine blk_drew ?_ | refine blk_alloc ?_ _)); exact BK846.out) hb); have n2_ := Aside0.mk (blk_below (g := gb847) (o := .cells #[.int .i64 x848000_1, .string (⟨#[]⟩ : ByteArray), .string (⟨#[]⟩ : ByteArray), .int .i64 0, .int .i64 0, .slice none 0 0] 49 (0, 0)) (by (with_reducible repeat (first | refine blk_drewN ?_ _ | refine blk_drew ?_ | refine blk_alloc ?_ _)); exact BK847.out) hb); have n3_ := Aside0.mk (below_step (Gtr.bw HB.out) hb); clear HO_8; clear BK846; clear BK847; clear HB; have HO_8 := n0_; have BK846 := n1_; have BK847 := n2_; have HB := n3_; clear n0_ n1_ n2_ n3_; (try clear hb); (try clear hb2); (try clear hk); (try clear hi); have p861 : 0 ≤ (0 : Int) := (by omega); have q861 : 0 < (y853.length : Int) := of_decide_eq_true (by first | (with_reducible assumption) | assumption); obtain ⟨ad861, e861, hx861_0⟩ := Kd.at_string (Kd.V_reads' HO_8.out).2.2 0 p861 q861; cases e861; have qi861 : (0 < y853.length) = True := eq_true (by omega); (try rw [show ((0 : Int)).toNat = 0 from rfl] at hx861_0); (try rw [Addr.add_zero'] at hx861_0); replace p861 := eq_true p861; replace q861 := eq_true q861; have hcz55_0 : w54.cell? ⟨gb846, 0, none⟩ = some (.int .i64 0) := (blk_cell BK846.out 0).trans rfl; have hcz55_1 : w54.cell? ⟨gb846, 1, none⟩ = some (.string (⟨#[]⟩ : ByteArray)) := (blk_cell BK846.out 1).trans rfl; have hcz55_2 : w54.cell? ⟨gb846, 2, none⟩ = some (.string (⟨#[]⟩ : ByteArray)) := (blk_cell BK846.out 2).trans rfl; have hcz55_3 : w54.cell? ⟨gb846, 3, none⟩ = some (.int .i64 0) := (blk_cell BK846.out 3).trans rfl; have hcz55_4 : w54.cell? ⟨gb846, 4, none⟩ = some (.int .i64 0) := (blk_cell BK846.out 4).trans rfl; have hcz55_5 : w54.cell? ⟨gb846, 5, none⟩ = some (.slice none 0 0) := (blk_cell BK846.out 5).trans rfl; have hfz55_0 := blk_frozen BK846.out 0; have hfz55_1 := blk_frozen BK846.out 1; have hfz55_2 := blk_frozen BK846.out 2; have hfz55_3 := blk_frozen BK846.out 3; have hfz55_4 := blk_frozen BK846.out 4; have hfz55_5 := blk_frozen BK846.out 5))
                refine bodyPost_ret (results_ctt rfl _ _ gb846 49 #[.int .i64 0, .string (⟨#[]⟩ : ByteArray), .string (⟨#[]⟩ : ByteArray), .int .i64 0, .int .i64 0, .slice none 0 0] (0, 0) _ rfl (by (with_reducible repeat (first | refine blk_drewN ?_ _ | refine blk_drew ?_ | refine blk_alloc ?_ _)); refine blk_put (cs := #[.int .i64 0, .string (⟨#[]⟩ : ByteArray), .string (⟨#[]⟩ : ByteArray), .int .i64 0, .int .i64 0, .slice none 0 0]) ?_ 5 _ rfl; (with_reducible repeat (first | refine blk_drewN ?_ _ | refine blk_drew ?_ | refine blk_alloc ?_ _)); refine blk_put (cs := #[.int .i64 0, .string (⟨#[]⟩ : ByteArray), .string (⟨#[]⟩ : ByteArray), .int .i64 0, .int .i64 0, .slice none 0 0]) ?_ 4 _ rfl; (with_reducible repeat (first | refine blk_drewN ?_ _ | refine blk_drew ?_ | refine blk_alloc ?_ _)); refine blk_put (cs := #[.int .i64 0, .string (⟨#[]⟩ : ByteArray), .string (⟨#[]⟩ : ByteArray), .int .i64 0, .int .i64 0, .slice none 0 0]) ?_ 3 _ rfl; (with_reducible repeat (first | refine blk_drewN ?_ _ | refine blk_drew ?_ | refine blk_alloc ?_ _)); refine blk_put (cs := #[.int .i64 0, .string (⟨#[]⟩ : ByteArray), .string (⟨#[]⟩ : ByteArray), .int .i64 0, .int .i64 0, .slice none 0 0]) ?_ 2 _ rfl; (with_reducible repeat (first | refine blk_drewN ?_ _ | refine blk_drew ?_ | refine blk_alloc ?_ _)); refine blk_put (cs := #[.int .i64 0, .string (⟨#[]⟩ : ByteArray), .string (⟨#[]⟩ : ByteArray), .int .i64 0, .int .i64 0, .slice none 0 0]) ?_ 1 _ rfl; (with_reducible repeat (first | refine blk_drewN ?_ _ | refine blk_drew ?_ | refine blk_alloc ?_ _)); refine blk_put (cs := #[.int .i64 0, .string (⟨#[]⟩ : ByteArray), .string (⟨#[]⟩ : ByteArray), .int .i64 0, .int .i64 0, .slice none 0 0]) ?_ 0 _ rfl; (with_reducible repeat (first | refine blk_drewN ?_ _ | refine blk_drew ?_ | refine blk_alloc ?_ _)); exact BK846.out) Tryz.underlying49 rfl (by kernel_rfl)) rfl ?_
                exact ⟨_, by first | rfl | (simp [errW_none, errW_some] <;> rfl) | (simp [*, errW_none, errW_some] <;> rfl), by first | exact Kd.R_nil _ _ _ _ _ | exact Kd.N_nil _ _ _ _ _ | exact Kd.V_nil _ _ _ _ _ | exact Kd.Q_nil _ _ _ _ _ | exact Kd.S_nil _ _ _ _ _, (Gtr.bw HB.out)⟩
              ·rw [if_neg c42] at H
               exact absurd H (by simp)
             ·rw [if_neg c41] at H
              exact absurd H (by simp)
           ·replace c34 := Bool.eq_false_iff.mpr c34
            subst c34
            have H1 : (spec_ReadJob.j3 kj25 y853 x848000_1 (⟨#[]⟩ : ByteArray) (⟨#[]⟩ : ByteArray) 0 0) = some (r1, r2, r3, r4, r5, r6, r7, r8) := by rw [if_neg (show ¬ (false = true) by decide)] at H; exact H
            clear H
            have H := H1
            clear H1
            have H' := Aside0.mk H
            clear H
            go_wp2
            go_meet
            case rel => exact ⟨_, (y853), (0), ((⟨#[]⟩ : ByteArray)), ((⟨#[]⟩ : ByteArray)), (0), (0), ((⟨#[]⟩ : ByteArray)), H', ⟨by have := HK1.out; have := HJ15.out; have := HJ25.out; first | omega | exact Nat.le_refl _⟩, ⟨by (with_reducible repeat (first | apply Kd.V_alloc | apply Kd.V_drewN | apply Kd.V_drew)); exact HO_8.out⟩, ⟨by (with_reducible repeat (first | refine blk_drewN ?_ _ | refine blk_drew ?_ | refine blk_alloc ?_ _)); exact BK846.out⟩, ⟨by (with_reducible repeat (first | refine blk_drewN ?_ _ | refine blk_drew ?_ | refine blk_alloc ?_ _)); exact BK847.out⟩, ⟨(Gtr.bw HB.out)⟩⟩
          case rest =>
           clear HC33
           (try clear c1);(try clear c2);(try clear p2);(try clear q2);(try clear c3);(try clear p3);(try clear q3);(try clear hx3);(try clear qi3);(try clear c4);(try clear c5);(try clear q5);(try clear p6);(try clear c7);(try clear c7b0);(try clear c8);(try clear c8b0);(try clear p8);(try clear q8);(try clear hx8);(try clear qi8);(try clear c9);(try clear c9b0);(try clear c10);(try clear c10b0);(try clear c11);(try clear c11b0);(try clear c11b1);(try clear c12);(try clear c12b0);(try clear c12b1);(try clear c13);(try clear c13b0);(try clear c13b1);(try clear c14);(try clear c17);(try clear c17b0);(try clear c17b1);(try clear c18);(try clear c20);(try clear c22);(try clear c23);(try clear c25);(try clear c25b0);(try clear c25b1);(try clear c27);(try clear q27);(try clear c28);(try clear c28b0);(try clear c28b1);(try clear c29);(try clear c29b0);(try clear c29b1);(try clear c30);(try clear c30b0);(try clear c30b1);(try clear c31);(try clear c31b0);(try clear c31b1);(try clear p32);(try clear q32);(try clear hx32);(try clear qi32);(try clear c34);(try clear c36);(try clear c36b0);(try clear c36b1);(try clear c37);(try clear c41);(try clear c41b0);(try clear c41b1);(try clear c42);(try clear c42b0);(try clear c42b1);(try clear c42b2);(try clear c43);(try clear c43b0);(try clear c43b1);(try clear c44);(try clear c44b0);(try clear c44b1);(try clear c45);(try clear c45b0);(try clear c45b1);(try clear c46);(try clear c51);(try clear q51);(try clear c52);(try clear hcz15_0);(try clear hcz15_1);(try clear hcz15_2);(try clear hcz15_3);(try clear hcz15_4);(try clear hcz15_5);(try clear hcz19_0);(try clear hcz19_1);(try clear hcz19_2);(try clear hcz19_3);(try clear hcz19_4);(try clear hcz19_5);(try clear hcz21_0);(try clear hcz21_1);(try clear hcz21_2);(try clear hcz21_3);(try clear hcz21_4);(try clear hcz21_5);(try clear hcz24_0);(try clear hcz24_1);(try clear hcz24_2);(try clear hcz24_3);(try clear hcz24_4);(try clear hcz24_5);(try clear hcz38_0);(try clear hcz38_1);(try clear hcz38_2);(try clear hcz38_3);(try clear hcz38_4);(try clear hcz38_5);(try clear hcz40_0);(try clear hcz40_1);(try clear hcz40_2);(try clear hcz40_3);(try clear hcz40_4);(try clear hcz40_5);(try clear hcz47_0);(try clear hcz47_1);(try clear hcz47_2);(try clear hcz47_3);(try clear hcz47_4);(try clear hcz47_5);(try clear hcz49_0);(try clear hcz49_1);(try clear hcz49_2);(try clear hcz49_3);(try clear hcz49_4);(try clear hcz49_5);(try clear hcz53_0);(try clear hcz53_1);(try clear hcz53_2);(try clear hcz53_3);(try clear hcz53_4);(try clear hcz53_5);(try clear hcz55_0);(try clear hcz55_1);(try clear hcz55_2);(try clear hcz55_3);(try clear hcz55_4);(try clear hcz55_5);(try clear hfz15_0);(try clear hfz15_1);(try clear hfz15_2);(try clear hfz15_3);(try clear hfz15_4);(try clear hfz15_5);(try clear hfz19_0);(try clear hfz19_1);(try clear hfz19_2);(try clear hfz19_3);(try clear hfz19_4);(try clear hfz19_5);(try clear hfz21_0);(try clear hfz21_1);(try clear hfz21_2);(try clear hfz21_3);(try clear hfz21_4);(try clear hfz21_5);(try clear hfz24_0);(try clear hfz24_1);(try clear hfz24_2);(try clear hfz24_3);(try clear hfz24_4);(try clear hfz24_5);(try clear hfz38_0);(try clear hfz38_1);(try clear hfz38_2);(try clear hfz38_3);(try clear hfz38_4);(try clear hfz38_5);(try clear hfz40_0);(try clear hfz40_1);(try clear hfz40_2);(try clear hfz40_3);(try clear hfz40_4);(try clear hfz40_5);(try clear hfz47_0);(try clear hfz47_1);(try clear hfz47_2);(try clear hfz47_3);(try clear hfz47_4);(try clear hfz47_5);(try clear hfz49_0);(try clear hfz49_1);(try clear hfz49_2);(try clear hfz49_3);(try clear hfz49_4);(try clear hfz49_5);(try clear hfz53_0);(try clear hfz53_1);(try clear hfz53_2);(try clear hfz53_3);(try clear hfz53_4);(try clear hfz53_5);(try clear hfz55_0);(try clear hfz55_1);(try clear hfz55_2);(try clear hfz55_3);(try clear hfz55_4);(try clear hfz55_5);(try clear hx851_0);(try clear hx852_0);(try clear hx858_0);(try clear hx859_0);(try clear hx861_0);(try clear hx862_0);(try clear p2);(try clear p3);(try clear p32);(try clear p6);(try clear p8);(try clear p851);(try clear p852);(try clear p858);(try clear p859);(try clear p861);(try clear p862);(try clear q2);(try clear q27);(try clear q3);(try clear q32);(try clear q51);(try clear q8);(try clear q851);(try clear q852);(try clear q858);(try clear q859);(try clear q861);(try clear q862)
           obtain ⟨kq, x8_32, x847000_32, x847001_32, x847002_32, x847003_32, x847004_32, x848001_32, HA, HJ32, HO_8, BK846, BK847, HB⟩ := hcut
           cases kq with
           | zero => exact absurd HA.out (by simp [spec_ReadJob.j3])
           | succ kj32 =>
            have H := HA.out
            clear HA
            simp only [spec_ReadJob.j3] at H
            by_cases c56 : x848000_1 ≥ 4
            ·rw [if_pos c56] at H
             have c56b0 : decide (4 ≤ x848000_1) = true := decide_eq_true c56
             clear c56
             by_cases c57 : (x8_32.length : Int) = 0
             ·rw [if_pos c57] at H
              have c57b0 : ((x8_32.length : Int) == 0) = true := beq_iff_eq.mpr c57
              have c57b1 : ((x8_32.length : Int) != 0) = false := bne_eq_false_iff_eq.mpr c57
              clear c57
              simp only [Option.some.injEq, Prod.mk.injEq] at H
              obtain ⟨rfl, rfl, rfl, rfl, rfl, rfl, rfl, rfl⟩ := H
              have hnb58 := NB847_846.out
              have hnc58 := NB846_847.out
              have hcz59_0 : wc.cell? ⟨gb847, 0, none⟩ = some (.int .i64 x848000_1) := (blk_cell BK847.out 0).trans rfl
              have hcz59_1 : wc.cell? ⟨gb847, 1, none⟩ = some (.string x848001_32) := (blk_cell BK847.out 1).trans rfl
              have hcz59_2 : wc.cell? ⟨gb847, 2, none⟩ = some (.string (⟨#[]⟩ : ByteArray)) := (blk_cell BK847.out 2).trans rfl
              have hcz59_3 : wc.cell? ⟨gb847, 3, none⟩ = some (.int .i64 0) := (blk_cell BK847.out 3).trans rfl
              have hcz59_4 : wc.cell? ⟨gb847, 4, none⟩ = some (.int .i64 0) := (blk_cell BK847.out 4).trans rfl
              have hcz59_5 : wc.cell? ⟨gb847, 5, none⟩ = some (.slice none 0 0) := (blk_cell BK847.out 5).trans rfl
              have hfz59_0 := blk_frozen BK847.out 0
              have hfz59_1 := blk_frozen BK847.out 1
              have hfz59_2 := blk_frozen BK847.out 2
              have hfz59_3 := blk_frozen BK847.out 3
              have hfz59_4 := blk_frozen BK847.out 4
              have hfz59_5 := blk_frozen BK847.out 5
              obtain ⟨Ao60, co60, eo60⟩ := Kd.V_slice HO_8.out
              subst eo60
              have hcz61_0 : wc.cell? ⟨gb846, 0, none⟩ = some (.int .i64 x847000_32) := (blk_cell BK846.out 0).trans rfl
              have hcz61_1 : wc.cell? ⟨gb846, 1, none⟩ = some (.string x847001_32) := (blk_cell BK846.out 1).trans rfl
              have hcz61_2 : wc.cell? ⟨gb846, 2, none⟩ = some (.string x847002_32) := (blk_cell BK846.out 2).trans rfl
              have hcz61_3 : wc.cell? ⟨gb846, 3, none⟩ = some (.int .i64 x847003_32) := (blk_cell BK846.out 3).trans rfl
              have hcz61_4 : wc.cell? ⟨gb846, 4, none⟩ = some (.int .i64 x847004_32) := (blk_cell BK846.out 4).trans rfl
              have hcz61_5 : wc.cell? ⟨gb846, 5, none⟩ = some (.slice none 0 0) := (blk_cell BK846.out 5).trans rfl
              have hfz61_0 := blk_frozen BK846.out 0
              have hfz61_1 := blk_frozen BK846.out 1
              have hfz61_2 := blk_frozen BK846.out 2
              have hfz61_3 := blk_frozen BK846.out 3
              have hfz61_4 := blk_frozen BK846.out 4
              have hfz61_5 := blk_frozen BK846.out 5
              go_wp2
              refine bodyPost_ret (results_ctt rfl _ _ gb846 49 #[.int .i64 0, .string (⟨#[]⟩ : ByteArray), .string (⟨#[]⟩ : ByteArray), .int .i64 0, .int .i64 0, .slice none 0 0] (0, 0) _ rfl (by (with_reducible repeat (first | refine blk_drewN ?_ _ | refine blk_drew ?_ | refine blk_alloc ?_ _)); refine blk_put (cs := #[.int .i64 0, .string (⟨#[]⟩ : ByteArray), .string (⟨#[]⟩ : ByteArray), .int .i64 0, .int .i64 0, .slice none 0 0]) ?_ 5 _ rfl; (with_reducible repeat (first | refine blk_drewN ?_ _ | refine blk_drew ?_ | refine blk_alloc ?_ _)); refine blk_put (cs := #[.int .i64 0, .string (⟨#[]⟩ : ByteArray), .string (⟨#[]⟩ : ByteArray), .int .i64 0, .int .i64 x847004_32, .slice none 0 0]) ?_ 4 _ rfl; (with_reducible repeat (first | refine blk_drewN ?_ _ | refine blk_drew ?_ | refine blk_alloc ?_ _)); refine blk_put (cs := #[.int .i64 0, .string (⟨#[]⟩ : ByteArray), .string (⟨#[]⟩ : ByteArray), .int .i64 x847003_32, .int .i64 x847004_32, .slice none 0 0]) ?_ 3 _ rfl; (with_reducible repeat (first | refine blk_drewN ?_ _ | refine blk_drew ?_ | refine blk_alloc ?_ _)); refine blk_put (cs := #[.int .i64 0, .string (⟨#[]⟩ : ByteArray), .string x847002_32, .int .i64 x847003_32, .int .i64 x847004_32, .slice none 0 0]) ?_ 2 _ rfl; (with_reducible repeat (first | refine blk_drewN ?_ _ | refine blk_drew ?_ | refine blk_alloc ?_ _)); refine blk_put (cs := #[.int .i64 0, .string x847001_32, .string x847002_32, .int .i64 x847003_32, .int .i64 x847004_32, .slice none 0 0]) ?_ 1 _ rfl; (with_reducible repeat (first | refine blk_drewN ?_ _ | refine blk_drew ?_ | refine blk_alloc ?_ _)); refine blk_put (cs := #[.int .i64 x847000_32, .string x847001_32, .string x847002_32, .int .i64 x847003_32, .int .i64 x847004_32, .slice none 0 0]) ?_ 0 _ rfl; (with_reducible repeat (first | refine blk_drewN ?_ _ | refine blk_drew ?_ | refine blk_alloc ?_ _)); exact BK846.out) Tryz.underlying49 rfl (by kernel_rfl)) rfl ?_
              exact ⟨_, by first | rfl | (simp [errW_none, errW_some] <;> rfl) | (simp [*, errW_none, errW_some] <;> rfl), by first | exact Kd.R_nil _ _ _ _ _ | exact Kd.N_nil _ _ _ _ _ | exact Kd.V_nil _ _ _ _ _ | exact Kd.Q_nil _ _ _ _ _ | exact Kd.S_nil _ _ _ _ _, (Gtr.bw HB.out)⟩
             ·rw [if_neg c57] at H
              have c57b0 : ((x8_32.length : Int) == 0) = false := beq_eq_false_iff_ne.mpr c57
              have c57b1 : ((x8_32.length : Int) != 0) = true := bne_iff_ne.mpr c57
              have c57b2 : ¬ (x8_32 = []) := fun h_ => c57 (by rw [h_]; rfl)
              have HC62 := Aside0.mk H
              clear H
              have hnb63 := NB847_846.out
              have hnc63 := NB846_847.out
              have hcz64_0 : wc.cell? ⟨gb847, 0, none⟩ = some (.int .i64 x848000_1) := (blk_cell BK847.out 0).trans rfl
              have hcz64_1 : wc.cell? ⟨gb847, 1, none⟩ = some (.string x848001_32) := (blk_cell BK847.out 1).trans rfl
              have hcz64_2 : wc.cell? ⟨gb847, 2, none⟩ = some (.string (⟨#[]⟩ : ByteArray)) := (blk_cell BK847.out 2).trans rfl
              have hcz64_3 : wc.cell? ⟨gb847, 3, none⟩ = some (.int .i64 0) := (blk_cell BK847.out 3).trans rfl
              have hcz64_4 : wc.cell? ⟨gb847, 4, none⟩ = some (.int .i64 0) := (blk_cell BK847.out 4).trans rfl
              have hcz64_5 : wc.cell? ⟨gb847, 5, none⟩ = some (.slice none 0 0) := (blk_cell BK847.out 5).trans rfl
              have hfz64_0 := blk_frozen BK847.out 0
              have hfz64_1 := blk_frozen BK847.out 1
              have hfz64_2 := blk_frozen BK847.out 2
              have hfz64_3 := blk_frozen BK847.out 3
              have hfz64_4 := blk_frozen BK847.out 4
              have hfz64_5 := blk_frozen BK847.out 5
              obtain ⟨Ao65, co65, eo65⟩ := Kd.V_slice HO_8.out
              subst eo65
              go_upto_if 95 with (fail)
              go_cut [10] (fun v10 wc => ∃ (kq : Nat) (x10_61 : Bool) (x848002_61 : ByteArray) (x848003_61 : Int) (x848004_61 : Int), v10 = .bool x10_61 ∧ Aside0 (spec_ReadJob.j4 kq x8_32 x10_61 x848000_1 x848001_32 x848002_61 x848003_61 x848004_61 = some (r1, r2, r3, r4, r5, r6, r7, r8)) ∧ Aside0 (kq ≤ kj32) ∧ Aside0 (Kd.V Kd.string 9 wc w.heap.size (fun k_ => (P0_ k_ ∨ w.heap.size ≤ k_) ∧ k_ ≠ gb846 ∧ k_ ≠ gb847) (.slice Ao65 x8_32.length co65) x8_32) ∧ Aside0 (wc.heap[gb846]? = some (.cells #[.int .i64 x847000_32, .string x847001_32, .string x847002_32, .int .i64 x847003_32, .int .i64 x847004_32, (.slice none 0 0)] 49 (0, 0))) ∧ Aside0 (wc.heap[gb847]? = some (.cells #[.int .i64 x848000_1, .string x848001_32, .string x848002_61, .int .i64 x848003_61, .int .i64 x848004_61, (.slice none 0 0)] 49 (0, 0))) ∧ Aside0 (Below w.heap.size w wc))
              case first =>
               have H := HC62.out
               clear HC62
               by_cases c66 : x848000_1 = 4
               ·rw [if_pos c66] at H
                have c66b0 : (x848000_1 == 4) = true := beq_iff_eq.mpr c66
                have c66b1 : (x848000_1 != 4) = false := bne_eq_false_iff_eq.mpr c66
                clear c66
                (first | rw [c66b0] | (simp only [i64_w, i32_w]; rw [c66b0]) | skip)
                by_cases c67 : 0 < (x8_32.length : Int)
                ·rw [if_pos c67] at H
                 have c67b0 : decide (0 < (x8_32.length : Int)) = true := decide_eq_true c67
                 have c67b1 : decide (0 < x8_32.length) = true := decide_eq_true (by omega)
                 clear c67
                 replace H := Option.bind_eq_some_iff.mp H
                 obtain ⟨⟨t869, t870, t871⟩, A680, H⟩ := H
                 try dsimp only at H
                 have A68 := Aside0.mk A680
                 clear A680
                 have H' := Aside0.mk H
                 clear H
                 have p868 : 0 ≤ (0 : Int) := (by omega)
                 have q868 : 0 < (x8_32.length : Int) := of_decide_eq_true (by first | (with_reducible assumption) | assumption)
                 obtain ⟨ad868, e868, hx868_0⟩ := Kd.at_string (Kd.V_reads' HO_8.out).2.2 0 p868 q868
                 cases e868
                 have qi868 : (0 < x8_32.length) = True := eq_true (by omega)
                 (try rw [show ((0 : Int)).toNat = 0 from rfl] at hx868_0)
                 (try rw [Addr.add_zero'] at hx868_0)
                 replace p868 := eq_true p868
                 replace q868 := eq_true q868
                 go_wp2_with (first | ((with_reducible refine gate_callee (f := 48) rfl ?_); refine goesL_ (some 100) rfl rfl Tryz.func48 (by kernel_rfl) rfl #[.string (rdOf ByteArray.empty x8_32 0)] rfl (by (try simp only [List.map_toArray, List.map_cons, List.map_nil]); first | done | rfl | (simp only [List.length_drop, List.length_take]; rfl)) ?_; (with_reducible refine (spec_ReadOwner.calls (rdOf ByteArray.empty x8_32 0) t869 t870 t871 _ A68.out).mono ?_); rintro e w69 ⟨rfl, hb⟩; refine ⟨_, rfl, ?_⟩; have n0_ := Aside0.mk (Kd.V_below (by (with_reducible repeat (first | apply Kd.V_alloc | apply Kd.V_drewN | apply Kd.V_drew)); exact HO_8.out) hb); have n1_ := Aside0.mk (blk_below (g := gb846) (o := .cells #[.int .i64 x847000_32, .string x847001_32, .string x847002_32, .int .i64 x847003_32, .int .i64 x847004_32, .slice none 0 0] 49 (0, 0)) (by (with_reducible repeat (first | refine blk_drewN ?_ _ | refine blk_drew ?_ | refine blk_alloc ?_ _)); exact BK846.out) hb); have n2_ := Aside0.mk (blk_below (g := gb847) (o := .cells #[.int .i64 x848000_1, .string x848001_32, .string (⟨#[]⟩ : ByteArray), .int .i64 0, .int .i64 0, .slice none 0 0] 49 (0, 0)) (by (with_reducible repeat (first | refine blk_drewN ?_ _ | refine blk_drew ?_ | refine blk_alloc ?_ _)); exact BK847.out) hb); have n3_ := Aside0.mk (below_step (Gtr.bw HB.out) hb); clear HO_8; clear BK846; clear BK847; clear HB; have HO_8 := n0_; have BK846 := n1_; have BK847 := n2_; have HB := n3_; clear n0_ n1_ n2_ n3_; (try clear hb); (try clear hb2); (try clear hk); (try clear hi); have hnb70 := NB847_846.out; have hnc70 := NB846_847.out; have hcz71_0 : w69.cell? ⟨gb847, 0, none⟩ = some (.int .i64 x848000_1) := (blk_cell BK847.out 0).trans rfl; have hcz71_1 : w69.cell? ⟨gb847, 1, none⟩ = some (.string x848001_32) := (blk_cell BK847.out 1).trans rfl; have hcz71_2 : w69.cell? ⟨gb847, 2, none⟩ = some (.string (⟨#[]⟩ : ByteArray)) := (blk_cell BK847.out 2).trans rfl; have hcz71_3 : w69.cell? ⟨gb847, 3, none⟩ = some (.int .i64 0) := (blk_cell BK847.out 3).trans rfl; have hcz71_4 : w69.cell? ⟨gb847, 4, none⟩ = some (.int .i64 0) := (blk_cell BK847.out 4).trans rfl; have hcz71_5 : w69.cell? ⟨gb847, 5, none⟩ = some (.slice none 0 0) := (blk_cell BK847.out 5).trans rfl; have hfz71_0 := blk_frozen BK847.out 0; have hfz71_1 := blk_frozen BK847.out 1; have hfz71_2 := blk_frozen BK847.out 2; have hfz71_3 := blk_frozen BK847.out 3; have hfz71_4 := blk_frozen BK847.out 4; have hfz71_5 := blk_frozen BK847.out 5))
                 go_meet
                 case rel => exact ⟨_, (t871), ((⟨#[]⟩ : ByteArray)), (t869), (t870), (by first | rfl | (simp; done) | (simp [*]; done)), H', ⟨by have := HK1.out; have := HJ15.out; have := HJ25.out; have := HJ32.out; first | omega | exact Nat.le_refl _⟩, ⟨by (with_reducible repeat (first | apply Kd.V_alloc | apply Kd.V_drewN | apply Kd.V_drew)); exact Kd.V_mono (Kd.V_far (p := ⟨gb847, 4, none⟩) (Kd.V_far (p := ⟨gb847, 3, none⟩) (Kd.V_mono HO_8.out (fun k_ hk => (⟨hk, hk.2.2⟩ : _ ∧ k_ ≠ gb847))) (fun _ hk => hk.2) (.int .i64 t869)) (fun _ hk => hk.2) (.int .i64 t870)) (fun _ hk => ⟨hk.1.1, ⟨hk.1.2.1, hk.1.2.2⟩⟩)⟩, ⟨by (with_reducible repeat (first | refine blk_drewN ?_ _ | refine blk_drew ?_ | refine blk_alloc ?_ _)); refine blk_far ?_ NB846_847.out _; (with_reducible repeat (first | refine blk_drewN ?_ _ | refine blk_drew ?_ | refine blk_alloc ?_ _)); refine blk_far ?_ NB846_847.out _; (with_reducible repeat (first | refine blk_drewN ?_ _ | refine blk_drew ?_ | refine blk_alloc ?_ _)); exact BK846.out⟩, ⟨by (with_reducible repeat (first | refine blk_drewN ?_ _ | refine blk_drew ?_ | refine blk_alloc ?_ _)); refine blk_put (cs := #[.int .i64 x848000_1, .string x848001_32, .string (⟨#[]⟩ : ByteArray), .int .i64 t869, .int .i64 0, .slice none 0 0]) ?_ 4 _ rfl; (with_reducible repeat (first | refine blk_drewN ?_ _ | refine blk_drew ?_ | refine blk_alloc ?_ _)); refine blk_put (cs := #[.int .i64 x848000_1, .string x848001_32, .string (⟨#[]⟩ : ByteArray), .int .i64 0, .int .i64 0, .slice none 0 0]) ?_ 3 _ rfl; (with_reducible repeat (first | refine blk_drewN ?_ _ | refine blk_drew ?_ | refine blk_alloc ?_ _)); exact BK847.out⟩, ⟨(Gtr.bw HB.out)⟩⟩
                ·rw [if_neg c67] at H
                 exact absurd H (by simp)
               ·rw [if_neg c66] at H
                have c66b0 : (x848000_1 == 4) = false := beq_eq_false_iff_ne.mpr c66
                have c66b1 : (x848000_1 != 4) = true := bne_iff_ne.mpr c66
                (first | rw [c66b0] | (simp only [i64_w, i32_w]; rw [c66b0]) | skip)
                by_cases c72 : 0 < (x8_32.length : Int)
                ·rw [if_pos c72] at H
                 have c72b0 : decide (0 < (x8_32.length : Int)) = true := decide_eq_true c72
                 have c72b1 : decide (0 < x8_32.length) = true := decide_eq_true (by omega)
                 clear c72
                 replace H := Option.bind_eq_some_iff.mp H
                 obtain ⟨t873, A730, H⟩ := H
                 try dsimp only at H
                 have A73 := Aside0.mk A730
                 clear A730
                 have H' := Aside0.mk H
                 clear H
                 have p872 : 0 ≤ (0 : Int) := (by omega)
                 have q872 : 0 < (x8_32.length : Int) := of_decide_eq_true (by first | (with_reducible assumption) | assumption)
                 obtain ⟨ad872, e872, hx872_0⟩ := Kd.at_string (Kd.V_reads' HO_8.out).2.2 0 p872 q872
                 cases e872
                 have qi872 : (0 < x8_32.length) = True := eq_true (by omega)
                 (try rw [show ((0 : Int)).toNat = 0 from rfl] at hx872_0)
                 (try rw [Addr.add_zero'] at hx872_0)
                 replace p872 := eq_true p872
                 replace q872 := eq_true q872
                 have hnb74 := NB847_846.out
                 have hnc74 := NB846_847.out
                 have hcz75_0 : wc.cell? ⟨gb847, 0, none⟩ = some (.int .i64 x848000_1) := (blk_cell BK847.out 0).trans rfl
                 have hcz75_1 : wc.cell? ⟨gb847, 1, none⟩ = some (.string x848001_32) := (blk_cell BK847.out 1).trans rfl
                 have hcz75_2 : wc.cell? ⟨gb847, 2, none⟩ = some (.string (⟨#[]⟩ : ByteArray)) := (blk_cell BK847.out 2).trans rfl
                 have hcz75_3 : wc.cell? ⟨gb847, 3, none⟩ = some (.int .i64 0) := (blk_cell BK847.out 3).trans rfl
                 have hcz75_4 : wc.cell? ⟨gb847, 4, none⟩ = some (.int .i64 0) := (blk_cell BK847.out 4).trans rfl
                 have hcz75_5 : wc.cell? ⟨gb847, 5, none⟩ = some (.slice none 0 0) := (blk_cell BK847.out 5).trans rfl
                 have hfz75_0 := blk_frozen BK847.out 0
                 have hfz75_1 := blk_frozen BK847.out 1
                 have hfz75_2 := blk_frozen BK847.out 2
                 have hfz75_3 := blk_frozen BK847.out 3
                 have hfz75_4 := blk_frozen BK847.out 4
                 have hfz75_5 := blk_frozen BK847.out 5
                 go_wp2_with (first | ((with_reducible refine gate_callee (f := 95) rfl ?_); refine goesL_ (some 114) rfl rfl Tryz.func95 (by kernel_rfl) rfl #[.agg #[.int .i64 x848000_1, .string x848001_32, .string (rdOf ByteArray.empty x8_32 0), .int .i64 0, .int .i64 0, .slice none 0 0]] rfl (by (try simp only [List.map_toArray, List.map_cons, List.map_nil]); first | done | rfl | (simp only [List.length_drop, List.length_take]; rfl)) ?_; (refine (spec_l15Word.calls kj32 x848000_1 x848001_32 (rdOf ByteArray.empty x8_32 0) 0 0 _ _ ([] : List ByteArray) t873 _ ?side1 ?side2 A73.out).mono ?_); (case side1 => exact Kd.C_nil _ _); (case side2 => exact Nat.le_refl _); rintro e w76 ⟨rfl, hb⟩; refine ⟨_, rfl, ?_⟩; have n0_ := Aside0.mk (Kd.V_below (by (with_reducible repeat (first | apply Kd.V_alloc | apply Kd.V_drewN | apply Kd.V_drew)); exact (Kd.V_mono (Kd.V_far (p := ⟨gb847, 2, none⟩) (Kd.V_mono HO_8.out (fun k_ hk => (⟨hk, hk.2.2⟩ : _ ∧ k_ ≠ gb847))) (fun _ hk => hk.2) (.string (rdOf ByteArray.empty x8_32 0))) (fun _ h_ => h_.1))) hb); have n1_ := Aside0.mk (blk_below (g := gb846) (o := .cells #[.int .i64 x847000_32, .string x847001_32, .string x847002_32, .int .i64 x847003_32, .int .i64 x847004_32, .slice none 0 0] 49 (0, 0)) (by (with_reducible repeat (first | refine blk_drewN ?_ _ | refine blk_drew ?_ | refine blk_alloc ?_ _)); refine blk_far ?_ NB846_847.out _; (with_reducible repeat (first | refine blk_drewN ?_ _ | refine blk_drew ?_ | refine blk_alloc ?_ _)); exact BK846.out) hb); have n2_ := Aside0.mk (blk_below (g := gb847) (o := .cells #[.int .i64 x848000_1, .string x848001_32, .string (rdOf ByteArray.empty x8_32 0), .int .i64 0, .int .i64 0, .slice none 0 0] 49 (0, 0)) (by (with_reducible repeat (first | refine blk_drewN ?_ _ | refine blk_drew ?_ | refine blk_alloc ?_ _)); refine blk_put (cs := #[.int .i64 x848000_1, .string x848001_32, .string (⟨#[]⟩ : ByteArray), .int .i64 0, .int .i64 0, .slice none 0 0]) ?_ 2 _ rfl; (with_reducible repeat (first | refine blk_drewN ?_ _ | refine blk_drew ?_ | refine blk_alloc ?_ _)); exact BK847.out) hb); have n3_ := Aside0.mk (below_step (Gtr.bw HB.out) hb); clear HO_8; clear BK846; clear BK847; clear HB; have HO_8 := n0_; have BK846 := n1_; have BK847 := n2_; have HB := n3_; clear n0_ n1_ n2_ n3_; (try clear hb); (try clear hb2); (try clear hk); (try clear hi)))
                 go_meet
                 case rel => exact ⟨_, (t873), (rdOf ByteArray.empty x8_32 0), (0), (0), (by first | rfl | (simp; done) | (simp [*]; done)), H', ⟨by have := HK1.out; have := HJ15.out; have := HJ25.out; have := HJ32.out; first | omega | exact Nat.le_refl _⟩, ⟨by (with_reducible repeat (first | apply Kd.V_alloc | apply Kd.V_drewN | apply Kd.V_drew)); exact HO_8.out⟩, ⟨by (with_reducible repeat (first | refine blk_drewN ?_ _ | refine blk_drew ?_ | refine blk_alloc ?_ _)); exact BK846.out⟩, ⟨by (with_reducible repeat (first | refine blk_drewN ?_ _ | refine blk_drew ?_ | refine blk_alloc ?_ _)); exact BK847.out⟩, ⟨(Gtr.bw HB.out)⟩⟩
                ·rw [if_neg c72] at H
                 exact absurd H (by simp)
              case rest =>
               clear HC62
               (try clear c1);(try clear c2);(try clear p2);(try clear q2);(try clear c3);(try clear p3);(try clear q3);(try clear hx3);(try clear qi3);(try clear c4);(try clear c5);(try clear q5);(try clear c6);(try clear p6);(try clear c7);(try clear c7b0);(try clear c8);(try clear c8b0);(try clear p8);(try clear q8);(try clear hx8);(try clear qi8);(try clear c9);(try clear c9b0);(try clear c10);(try clear c10b0);(try clear c11);(try clear c11b0);(try clear c11b1);(try clear c12);(try clear c12b0);(try clear c12b1);(try clear c13);(try clear c13b0);(try clear c13b1);(try clear c14);(try clear c17);(try clear c17b0);(try clear c17b1);(try clear c18);(try clear c20);(try clear c22);(try clear c23);(try clear c25);(try clear c25b0);(try clear c25b1);(try clear c27);(try clear q27);(try clear c28);(try clear c28b0);(try clear c28b1);(try clear c29);(try clear c29b0);(try clear c29b1);(try clear c30);(try clear c30b0);(try clear c30b1);(try clear c31);(try clear c31b0);(try clear c31b1);(try clear p32);(try clear q32);(try clear hx32);(try clear qi32);(try clear c34);(try clear c36);(try clear c36b0);(try clear c36b1);(try clear c37);(try clear c41);(try clear c41b0);(try clear c41b1);(try clear c42);(try clear c42b0);(try clear c42b1);(try clear c42b2);(try clear c43);(try clear c43b0);(try clear c43b1);(try clear c44);(try clear c44b0);(try clear c44b1);(try clear c45);(try clear c45b0);(try clear c45b1);(try clear c46);(try clear c48);(try clear c51);(try clear q51);(try clear c52);(try clear c56);(try clear c56b0);(try clear c57);(try clear c57b0);(try clear c57b1);(try clear c57b2);(try clear c58);(try clear c63);(try clear c66);(try clear c66b0);(try clear c66b1);(try clear c67);(try clear c67b0);(try clear c67b1);(try clear c70);(try clear c72);(try clear c72b0);(try clear c72b1);(try clear c74);(try clear hcz15_0);(try clear hcz15_1);(try clear hcz15_2);(try clear hcz15_3);(try clear hcz15_4);(try clear hcz15_5);(try clear hcz19_0);(try clear hcz19_1);(try clear hcz19_2);(try clear hcz19_3);(try clear hcz19_4);(try clear hcz19_5);(try clear hcz21_0);(try clear hcz21_1);(try clear hcz21_2);(try clear hcz21_3);(try clear hcz21_4);(try clear hcz21_5);(try clear hcz24_0);(try clear hcz24_1);(try clear hcz24_2);(try clear hcz24_3);(try clear hcz24_4);(try clear hcz24_5);(try clear hcz38_0);(try clear hcz38_1);(try clear hcz38_2);(try clear hcz38_3);(try clear hcz38_4);(try clear hcz38_5);(try clear hcz40_0);(try clear hcz40_1);(try clear hcz40_2);(try clear hcz40_3);(try clear hcz40_4);(try clear hcz40_5);(try clear hcz47_0);(try clear hcz47_1);(try clear hcz47_2);(try clear hcz47_3);(try clear hcz47_4);(try clear hcz47_5);(try clear hcz49_0);(try clear hcz49_1);(try clear hcz49_2);(try clear hcz49_3);(try clear hcz49_4);(try clear hcz49_5);(try clear hcz53_0);(try clear hcz53_1);(try clear hcz53_2);(try clear hcz53_3);(try clear hcz53_4);(try clear hcz53_5);(try clear hcz55_0);(try clear hcz55_1);(try clear hcz55_2);(try clear hcz55_3);(try clear hcz55_4);(try clear hcz55_5);(try clear hcz59_0);(try clear hcz59_1);(try clear hcz59_2);(try clear hcz59_3);(try clear hcz59_4);(try clear hcz59_5);(try clear hcz61_0);(try clear hcz61_1);(try clear hcz61_2);(try clear hcz61_3);(try clear hcz61_4);(try clear hcz61_5);(try clear hcz64_0);(try clear hcz64_1);(try clear hcz64_2);(try clear hcz64_3);(try clear hcz64_4);(try clear hcz64_5);(try clear hcz71_0);(try clear hcz71_1);(try clear hcz71_2);(try clear hcz71_3);(try clear hcz71_4);(try clear hcz71_5);(try clear hcz75_0);(try clear hcz75_1);(try clear hcz75_2);(try clear hcz75_3);(try clear hcz75_4);(try clear hcz75_5);(try clear hfz15_0);(try clear hfz15_1);(try clear hfz15_2);(try clear hfz15_3);(try clear hfz15_4);(try clear hfz15_5);(try clear hfz19_0);(try clear hfz19_1);(try clear hfz19_2);(try clear hfz19_3);(try clear hfz19_4);(try clear hfz19_5);(try clear hfz21_0);(try clear hfz21_1);(try clear hfz21_2);(try clear hfz21_3);(try clear hfz21_4);(try clear hfz21_5);(try clear hfz24_0);(try clear hfz24_1);(try clear hfz24_2);(try clear hfz24_3);(try clear hfz24_4);(try clear hfz24_5);(try clear hfz38_0);(try clear hfz38_1);(try clear hfz38_2);(try clear hfz38_3);(try clear hfz38_4);(try clear hfz38_5);(try clear hfz40_0);(try clear hfz40_1);(try clear hfz40_2);(try clear hfz40_3);(try clear hfz40_4);(try clear hfz40_5);(try clear hfz47_0);(try clear hfz47_1);(try clear hfz47_2);(try clear hfz47_3);(try clear hfz47_4);(try clear hfz47_5);(try clear hfz49_0);(try clear hfz49_1);(try clear hfz49_2);(try clear hfz49_3);(try clear hfz49_4);(try clear hfz49_5);(try clear hfz53_0);(try clear hfz53_1);(try clear hfz53_2);(try clear hfz53_3);(try clear hfz53_4);(try clear hfz53_5);(try clear hfz55_0);(try clear hfz55_1);(try clear hfz55_2);(try clear hfz55_3);(try clear hfz55_4);(try clear hfz55_5);(try clear hfz59_0);(try clear hfz59_1);(try clear hfz59_2);(try clear hfz59_3);(try clear hfz59_4);(try clear hfz59_5);(try clear hfz61_0);(try clear hfz61_1);(try clear hfz61_2);(try clear hfz61_3);(try clear hfz61_4);(try clear hfz61_5);(try clear hfz64_0);(try clear hfz64_1);(try clear hfz64_2);(try clear hfz64_3);(try clear hfz64_4);(try clear hfz64_5);(try clear hfz71_0);(try clear hfz71_1);(try clear hfz71_2);(try clear hfz71_3);(try clear hfz71_4);(try clear hfz71_5);(try clear hfz75_0);(try clear hfz75_1);(try clear hfz75_2);(try clear hfz75_3);(try clear hfz75_4);(try clear hfz75_5);(try clear hx851_0);(try clear hx852_0);(try clear hx858_0);(try clear hx859_0);(try clear hx861_0);(try clear hx862_0);(try clear hx868_0);(try clear hx872_0);(try clear p2);(try clear p3);(try clear p32);(try clear p6);(try clear p8);(try clear p851);(try clear p852);(try clear p858);(try clear p859);(try clear p861);(try clear p862);(try clear p868);(try clear p872);(try clear q2);(try clear q27);(try clear q3);(try clear q32);(try clear q5);(try clear q51);(try clear q8);(try clear q851);(try clear q852);(try clear q858);(try clear q859);(try clear q861);(try clear q862);(try clear q868);(try clear q872)
               obtain ⟨kq, x10_61, x848002_61, x848003_61, x848004_61, rfl, HA, HJ61, HO_8, BK846, BK847, HB⟩ := hcut
               cases kq with
               | zero => exact absurd HA.out (by simp [spec_ReadJob.j4])
               | succ kj61 =>
                have H := HA.out
                clear HA
                simp only [spec_ReadJob.j4] at H
                by_cases c77 : x10_61 = true
                ·subst c77
                 have H1 := H
                 rw [if_pos rfl] at H1
                 clear H
                 have H := H1
                 clear H1
                 by_cases c78 : 1 ≤ (x8_32.length : Int)
                 ·rw [if_pos c78] at H
                  have c78b0 := eq_true c78
                  have c78b1 : decide (1 ≤ (x8_32.length : Int)) = true := decide_eq_true c78
                  clear c78
                  obtain ⟨y874, hy874⟩ : ∃ y_ : List ByteArray, y_ = (x8_32.drop 1) := ⟨_, rfl⟩
                  replace H : ((some (([] : List ByteArray) : List ByteArray)).bind fun y879 => (if y879.length + y874.length < 8796093022208 then ((some (y879 ++ y874 : List ByteArray)).bind fun y882 => ((spec_GoodJob.f kj61 x848000_1 x848001_32 x848002_61 x848003_61 x848004_61 y882).bind fun t885 => (if t885 = true then (some (x848000_1, x848001_32, x848002_61, x848003_61, x848004_61, y882, 0, true)) else (some (0, (⟨#[]⟩ : ByteArray), (⟨#[]⟩ : ByteArray), 0, 0, ([] : List ByteArray), 4, false))))) else (none))) = some (r1, r2, r3, r4, r5, r6, r7, r8) := by first | (rw [hy874]; with_reducible exact H) | (have H2_ := (Option.bind_some _ _).symm.trans H; rw [hy874]; with_reducible exact H2_) | (have H2_ := (Option.bind_some _ _).symm.trans H; with_reducible exact H2_) | with_reducible exact H | (rw [hy874]; exact H) | exact H
                  have Ny874 := Aside0.mk hy874
                  clear hy874
                  obtain ⟨y879, hy879⟩ : ∃ y_ : List ByteArray, y_ = (([] : List ByteArray)) := ⟨_, rfl⟩
                  replace H : (if y879.length + y874.length < 8796093022208 then ((some (y879 ++ y874 : List ByteArray)).bind fun y882 => ((spec_GoodJob.f kj61 x848000_1 x848001_32 x848002_61 x848003_61 x848004_61 y882).bind fun t885 => (if t885 = true then (some (x848000_1, x848001_32, x848002_61, x848003_61, x848004_61, y882, 0, true)) else (some (0, (⟨#[]⟩ : ByteArray), (⟨#[]⟩ : ByteArray), 0, 0, ([] : List ByteArray), 4, false))))) else (none)) = some (r1, r2, r3, r4, r5, r6, r7, r8) := by first | (rw [hy879]; with_reducible exact H) | (have H2_ := (Option.bind_some _ _).symm.trans H; rw [hy879]; with_reducible exact H2_) | (have H2_ := (Option.bind_some _ _).symm.trans H; with_reducible exact H2_) | with_reducible exact H | (rw [hy879]; exact H) | exact H
                  have Ny879 := Aside0.mk hy879
                  clear hy879
                  by_cases c79 : y879.length + y874.length < 8796093022208
                  ·rw [if_pos c79] at H
                   have LMc79 := Aside0.mk c79
                   clear c79
                   obtain ⟨y882, hy882⟩ : ∃ y_ : List ByteArray, y_ = (y879 ++ y874) := ⟨_, rfl⟩
                   replace H : ((spec_GoodJob.f kj61 x848000_1 x848001_32 x848002_61 x848003_61 x848004_61 y882).bind fun t885 => (if t885 = true then (some (x848000_1, x848001_32, x848002_61, x848003_61, x848004_61, y882, 0, true)) else (some (0, (⟨#[]⟩ : ByteArray), (⟨#[]⟩ : ByteArray), 0, 0, ([] : List ByteArray), 4, false)))) = some (r1, r2, r3, r4, r5, r6, r7, r8) := by first | (rw [hy882]; with_reducible exact H) | (have H2_ := (Option.bind_some _ _).symm.trans H; rw [hy882]; with_reducible exact H2_) | (have H2_ := (Option.bind_some _ _).symm.trans H; with_reducible exact H2_) | with_reducible exact H | (rw [hy882]; exact H) | exact H
                   have Ny882 := Aside0.mk hy882
                   clear hy882
                   replace H := Option.bind_eq_some_iff.mp H
                   obtain ⟨t885, A800, H⟩ := H
                   try dsimp only at H
                   have A80 := Aside0.mk A800
                   clear A800
                   by_cases c81 : t885 = true
                   ·subst c81
                    have H1 := H
                    rw [if_pos rfl] at H1
                    clear H
                    have H := H1
                    clear H1
                    simp only [Option.some.injEq, Prod.mk.injEq] at H
                    obtain ⟨rfl, rfl, rfl, rfl, rfl, rfl, rfl, rfl⟩ := H
                    have q82 : (1 : Int) ≤ ((x8_32.length : Int) : Int) := of_decide_eq_true (by first | (with_reducible assumption) | assumption)
                    obtain ⟨i082, hi082, _, hsz82, _⟩ := info_parts info9
                    have hroom82 : x8_32.length ≤ co65 := (Kd.V_reads' HO_8.out).2.1
                    have hC82 : Kd.F Kd.string _ _ Ao65 x8_32.length x8_32 := (Kd.V_at (base := w.heap.size) HO_8.out).2.2
                    have hcut82 := cut_from (P := Tryz.prog) 46 9 .i64 Tryz.underlying46 hi082 1 hsz82 Ao65 x8_32.length co65 1 (by omega) q82
                    have hr82 := Kd.F_cut (m := (1 : Int).toNat) (c := co65) hC82 (by omega) hroom82
                    obtain ⟨A82, hA82⟩ : ∃ A1, A1 = (if co65 = (1 : Int).toNat then Ao65 else (Ao65 : Option Addr).map (·.add ((1 : Int).toNat * 1))) := ⟨_, rfl⟩
                    obtain ⟨c82, hc82⟩ : ∃ c1, c1 = co65 - (1 : Int).toNat := ⟨_, rfl⟩
                    have hy82 : y874.length = x8_32.length - (1 : Int).toNat := (by rw [Ny874.out, List.length_drop] <;> omega)
                    rw [show (x8_32).drop (1 : Int).toNat = y874 from Ny874.out.symm] at hr82
                    replace hr82 : Kd.F Kd.string _ _ A82 y874.length y874 := (by rw [hA82]; exact hr82)
                    rw [← hy82, ← hA82, ← hc82] at hcut82
                    have HO878 := Aside0.mk (show Kd.V Kd.string 9 _ w.heap.size _ (.slice A82 y874.length c82) y874 from Kd.V_mk (by rw [hy82, hc82]; exact Nat.sub_le_sub_right hroom82 _) hr82)
                    have HC878 := Aside0.mk (show y874.length ≤ c82 from by rw [hy82, hc82]; exact Nat.sub_le_sub_right hroom82 _)
                    clear hr82 hC82 hroom82 hi082 hsz82 hc82
                    have KY82 := Aside0.mk hy82
                    have KA82 := Aside0.mk hA82
                    clear hy82 hA82
                    replace q82 := eq_true q82
                    go_wp2_with (first | ((with_reducible refine gate_dst (N := 120) rfl ?_); (try (refine gate_guard (by rfl) ?_; dsimp only)); refine Kd.R_lit Kd.string _ 9 ?hg (N := 120) ?hd (xs := ([] : List ByteArray)) (inner := []) (ok := fun _ => True) (okp := fun _ => True) ?hr ?hp (fun _ hk => hk) trivial (Below.refl _ _) (Nat.le_refl _) (by simp) ?_; (case hd => rfl); (case hg => rfl); (case hr => first | (go_simp; done) | (go_simp; rfl)); (case hp => exact (Reps.none _ _)); intro v880 w83 ho84 hb hg_ hnew_; clear hg_ hnew_; (first | rw [← Ny879.out] at ho84 | (simp only [Int.reduceToNat] at ho84; rw [← Ny879.out] at ho84)); have n0_ := Aside0.mk (Kd.V_elder' (by (with_reducible repeat (first | apply Kd.V_alloc | apply Kd.V_drewN | apply Kd.V_drew)); exact HO_8.out) (Kd.R_base ho84) hb); have n1_ := Aside0.mk (Kd.V_elder' (by (with_reducible repeat (first | apply Kd.V_alloc | apply Kd.V_drewN | apply Kd.V_drew)); exact HO878.out) (Kd.R_base ho84) hb); have n2_ := Aside0.mk (Kd.R_lower (Kd.R_newM (M := fun k_ => (w.heap.size ≤ k_)) ho84 (below_size (Gtr.bw HB.out)) (fun k_ h_ => h_)) (below_size (Gtr.bw HB.out))); have n3_ := Aside0.mk (blk_below (g := gb846) (o := .cells #[.int .i64 x847000_32, .string x847001_32, .string x847002_32, .int .i64 x847003_32, .int .i64 x847004_32, .slice none 0 0] 49 (0, 0)) (by (with_reducible repeat (first | refine blk_drewN ?_ _ | refine blk_drew ?_ | refine blk_alloc ?_ _)); exact BK846.out) hb); have n4_ := Aside0.mk (blk_below (g := gb847) (o := .cells #[.int .i64 x848000_1, .string x848001_32, .string x848002_61, .int .i64 x848003_61, .int .i64 x848004_61, .slice none 0 0] 49 (0, 0)) (by (with_reducible repeat (first | refine blk_drewN ?_ _ | refine blk_drew ?_ | refine blk_alloc ?_ _)); exact BK847.out) hb); have n5_ := Aside0.mk (below_step (Gtr.bw HB.out) hb); clear HO_8; clear HO878; clear BK846; clear BK847; clear HB; have HO_8 := n0_; have HO878 := n1_; have HO881 := n2_; have BK846 := n3_; have BK847 := n4_; have HB := n5_; clear n0_ n1_ n2_ n3_ n4_ n5_; clear hb ho84) | ((with_reducible refine gate_builtin (b := .append) (xs := #[.tmp 120, .tmp 121]) rfl ?_); (try (refine gate_guard (by rfl) ?_; dsimp only)); at_builtin; refine Kd.R_append_rows Kd.string (w0 := w) w.heap.size rfl (.tmp 120) (.tmp 121) 46 9 (.string ⟨#[]⟩) 16 rfl Tryz.underlying46 info9 rfl (by decide) (by omega) v880 y879 y874 _ _ _ (fun k_ => (w.heap.size ≤ k_)) (fun _ => False) rfl rfl ?aO ?aR (fun _ _ h => h) (fun _ h => h.elim) ?aF ?aB ?aS ?aL ?_; (case aR => repeat (first | exact (Kd.V_reads' HO878.out).2.2 | (with_reducible refine Kd.C_alloc ?_ _) | (with_reducible refine Kd.C_drewN ?_ _) | (with_reducible refine Kd.C_drew ?_))); (case aB => exact (Gtr.bw HB.out)); (case aF => exact (fun k_ hk => (Nat.le_trans (below_size (Gtr.bw HB.out)) hk))); (case aO => exact (by (with_reducible repeat (first | apply Kd.R_alloc | apply Kd.R_drewN | apply Kd.R_drew)); exact Kd.R_mono HO881.out (fun _ hk => hk.1))); (case aS => exact (below_size (Gtr.bw HB.out))); (case aL => have := LMc79.out; omega); intro v883 w85 ho hb hg hat; rw [← Ny882.out] at ho; have n0_ := Aside0.mk (Kd.V_afterv (ok := (fun k_ => (P0_ k_ ∨ w.heap.size ≤ k_) ∧ k_ ≠ gb846 ∧ k_ ≠ gb847)) (by (with_reducible repeat (first | apply Kd.V_alloc | apply Kd.V_drewN | apply Kd.V_drew)); exact HO_8.out) hg hat); have n1_ := Aside0.mk (blk_grown (g := gb846) (o := .cells #[.int .i64 x847000_32, .string x847001_32, .string x847002_32, .int .i64 x847003_32, .int .i64 x847004_32, .slice none 0 0] 49 (0, 0)) (by (with_reducible repeat (first | refine blk_drewN ?_ _ | refine blk_drew ?_ | refine blk_alloc ?_ _)); exact BK846.out) hg (Kd.R_ne HO881.out BK846.out (by decide))); have n2_ := Aside0.mk (blk_grown (g := gb847) (o := .cells #[.int .i64 x848000_1, .string x848001_32, .string x848002_61, .int .i64 x848003_61, .int .i64 x848004_61, .slice none 0 0] 49 (0, 0)) (by (with_reducible repeat (first | refine blk_drewN ?_ _ | refine blk_drew ?_ | refine blk_alloc ?_ _)); exact BK847.out) hg (Kd.R_ne HO881.out BK847.out (by decide))); have n3_ := Aside0.mk (Kd.V_afterv (ok := (fun k_ => (P0_ k_ ∨ w.heap.size ≤ k_) ∧ k_ ≠ gb846 ∧ k_ ≠ gb847)) (by (with_reducible repeat (first | apply Kd.V_alloc | apply Kd.V_drewN | apply Kd.V_drew)); exact HO878.out) hg hat); have n4_ := Aside0.mk (hb); have n5_ := Aside0.mk (ho); clear HO_8; clear BK846; clear BK847; clear HO878; clear HB; clear HO881; have HO_8 := n0_; have BK846 := n1_; have BK847 := n2_; have HO878 := n3_; have HB := n4_; have HO884 := n5_; clear n0_ n1_ n2_ n3_ n4_ n5_; clear ho hb hg hat; obtain ⟨Ao86, co86, eo86⟩ := Kd.R_slice HO884.out; subst eo86; have hnb87 := NB847_846.out; have hnc87 := NB846_847.out; have hcz88_0 : w85.cell? ⟨gb847, 0, none⟩ = some (.int .i64 x848000_1) := (blk_cell BK847.out 0).trans rfl; have hcz88_1 : w85.cell? ⟨gb847, 1, none⟩ = some (.string x848001_32) := (blk_cell BK847.out 1).trans rfl; have hcz88_2 : w85.cell? ⟨gb847, 2, none⟩ = some (.string x848002_61) := (blk_cell BK847.out 2).trans rfl; have hcz88_3 : w85.cell? ⟨gb847, 3, none⟩ = some (.int .i64 x848003_61) := (blk_cell BK847.out 3).trans rfl; have hcz88_4 : w85.cell? ⟨gb847, 4, none⟩ = some (.int .i64 x848004_61) := (blk_cell BK847.out 4).trans rfl; have hcz88_5 : w85.cell? ⟨gb847, 5, none⟩ = some (.slice none 0 0) := (blk_cell BK847.out 5).trans rfl; have hfz88_0 := blk_frozen BK847.out 0; have hfz88_1 := blk_frozen BK847.out 1; have hfz88_2 := blk_frozen BK847.out 2; have hfz88_3 := blk_frozen BK847.out 3; have hfz88_4 := blk_frozen BK847.out 4; have hfz88_5 := blk_frozen BK847.out 5) | ((with_reducible refine gate_callee (f := 43) rfl ?_); refine goesL_ (some 125) rfl rfl Tryz.func43 (by kernel_rfl) rfl #[.agg #[.int .i64 x848000_1, .string x848001_32, .string x848002_61, .int .i64 x848003_61, .int .i64 x848004_61, .slice Ao86 y882.length co86]] rfl (by (try simp only [List.map_toArray, List.map_cons, List.map_nil]); first | done | rfl | (simp only [List.length_drop, List.length_take]; rfl)) ?_; (with_reducible refine (spec_GoodJob.calls kj61 x848000_1 x848001_32 x848002_61 x848003_61 x848004_61 _ _ y882 true _ ?side1 ?side2 A80.out).mono ?_); (case side1 => refine (Kd.R_reads' (e := 9) (base := w.heap.size) (ok := fun k_ => (w.heap.size ≤ k_)) (n := y882.length) (c := co86) ?_).2.2; exact (by (with_reducible repeat (first | apply Kd.R_alloc | apply Kd.R_drewN | apply Kd.R_drew)); exact (Kd.R_mono (Kd.R_far (p := ⟨gb847, 5, none⟩) (Kd.R_types HO884.out BK847.out (by decide)) (fun _ hk => hk.2) (.slice Ao86 y882.length co86)) (fun _ h_ => h_.1)))); (case side2 => exact (Kd.R_reads' HO884.out).2.1); rintro e w89 ⟨rfl, hb⟩; refine ⟨_, rfl, ?_⟩; have n0_ := Aside0.mk (Kd.V_below (by (with_reducible repeat (first | apply Kd.V_alloc | apply Kd.V_drewN | apply Kd.V_drew)); exact (Kd.V_mono (Kd.V_far (p := ⟨gb847, 5, none⟩) (Kd.V_mono HO_8.out (fun k_ hk => (⟨hk, hk.1.2.2⟩ : _ ∧ k_ ≠ gb847))) (fun _ hk => hk.2) (.slice Ao86 y882.length co86)) (fun _ h_ => h_.1))) hb); have n1_ := Aside0.mk (Kd.V_below (by (with_reducible repeat (first | apply Kd.V_alloc | apply Kd.V_drewN | apply Kd.V_drew)); exact (Kd.V_mono (Kd.V_far (p := ⟨gb847, 5, none⟩) (Kd.V_mono HO878.out (fun k_ hk => (⟨hk, hk.1.2.2⟩ : _ ∧ k_ ≠ gb847))) (fun _ hk => hk.2) (.slice Ao86 y882.length co86)) (fun _ h_ => h_.1))) hb); have n2_ := Aside0.mk (Kd.R_below (by (with_reducible repeat (first | apply Kd.R_alloc | apply Kd.R_drewN | apply Kd.R_drew)); exact (Kd.R_mono (Kd.R_far (p := ⟨gb847, 5, none⟩) (Kd.R_types HO884.out BK847.out (by decide)) (fun _ hk => hk.2) (.slice Ao86 y882.length co86)) (fun _ h_ => h_.1))) hb); have n3_ := Aside0.mk (blk_below (g := gb846) (o := .cells #[.int .i64 x847000_32, .string x847001_32, .string x847002_32, .int .i64 x847003_32, .int .i64 x847004_32, .slice none 0 0] 49 (0, 0)) (by (with_reducible repeat (first | refine blk_drewN ?_ _ | refine blk_drew ?_ | refine blk_alloc ?_ _)); refine blk_far ?_ NB846_847.out _; (with_reducible repeat (first | refine blk_drewN ?_ _ | refine blk_drew ?_ | refine blk_alloc ?_ _)); exact BK846.out) hb); have n4_ := Aside0.mk (blk_below (g := gb847) (o := .cells #[.int .i64 x848000_1, .string x848001_32, .string x848002_61, .int .i64 x848003_61, .int .i64 x848004_61, .slice Ao86 y882.length co86] 49 (0, 0)) (by (with_reducible repeat (first | refine blk_drewN ?_ _ | refine blk_drew ?_ | refine blk_alloc ?_ _)); refine blk_put (cs := #[.int .i64 x848000_1, .string x848001_32, .string x848002_61, .int .i64 x848003_61, .int .i64 x848004_61, .slice none 0 0]) ?_ 5 _ rfl; (with_reducible repeat (first | refine blk_drewN ?_ _ | refine blk_drew ?_ | refine blk_alloc ?_ _)); exact BK847.out) hb); have n5_ := Aside0.mk (below_step (Gtr.bw HB.out) hb); clear HO_8; clear HO878; clear HO884; clear BK846; clear BK847; clear HB; have HO_8 := n0_; have HO878 := n1_; have HO884 := n2_; have BK846 := n3_; have BK847 := n4_; have HB := n5_; clear n0_ n1_ n2_ n3_ n4_ n5_; (try clear hb); (try clear hb2); (try clear hk); (try clear hi); have hcz90_0 : w89.cell? ⟨gb847, 0, none⟩ = some (.int .i64 x848000_1) := (blk_cell BK847.out 0).trans rfl; have hcz90_1 : w89.cell? ⟨gb847, 1, none⟩ = some (.string x848001_32) := (blk_cell BK847.out 1).trans rfl; have hcz90_2 : w89.cell? ⟨gb847, 2, none⟩ = some (.string x848002_61) := (blk_cell BK847.out 2).trans rfl; have hcz90_3 : w89.cell? ⟨gb847, 3, none⟩ = some (.int .i64 x848003_61) := (blk_cell BK847.out 3).trans rfl; have hcz90_4 : w89.cell? ⟨gb847, 4, none⟩ = some (.int .i64 x848004_61) := (blk_cell BK847.out 4).trans rfl; have hcz90_5 : w89.cell? ⟨gb847, 5, none⟩ = some (.slice Ao86 y882.length co86) := (blk_cell BK847.out 5).trans rfl; have hfz90_0 := blk_frozen BK847.out 0; have hfz90_1 := blk_frozen BK847.out 1; have hfz90_2 := blk_frozen BK847.out 2; have hfz90_3 := blk_frozen BK847.out 3; have hfz90_4 := blk_frozen BK847.out 4; have hfz90_5 := blk_frozen BK847.out 5; have hcz91_0 : w89.cell? ⟨gb846, 0, none⟩ = some (.int .i64 x847000_32) := (blk_cell BK846.out 0).trans rfl; have hcz91_1 : w89.cell? ⟨gb846, 1, none⟩ = some (.string x847001_32) := (blk_cell BK846.out 1).trans rfl; have hcz91_2 : w89.cell? ⟨gb846, 2, none⟩ = some (.string x847002_32) := (blk_cell BK846.out 2).trans rfl; have hcz91_3 : w89.cell? ⟨gb846, 3, none⟩ = some (.int .i64 x847003_32) := (blk_cell BK846.out 3).trans rfl; have hcz91_4 : w89.cell? ⟨gb846, 4, none⟩ = some (.int .i64 x847004_32) := (blk_cell BK846.out 4).trans rfl; have hcz91_5 : w89.cell? ⟨gb846, 5, none⟩ = some (.slice none 0 0) := (blk_cell BK846.out 5).trans rfl; have hfz91_0 := blk_frozen BK846.out 0; have hfz91_1 := blk_frozen BK846.out 1; have hfz91_2 := blk_frozen BK846.out 2; have hfz91_3 := blk_frozen BK846.out 3; have hfz91_4 := blk_frozen BK846.out 4; have hfz91_5 := blk_frozen BK846.out 5))
                    refine bodyPost_ret (results_ctt rfl _ _ gb846 49 #[.int .i64 x848000_1, .string x848001_32, .string x848002_61, .int .i64 x848003_61, .int .i64 x848004_61, .slice Ao86 y882.length co86] (0, 0) _ rfl (by (with_reducible repeat (first | refine blk_drewN ?_ _ | refine blk_drew ?_ | refine blk_alloc ?_ _)); refine blk_put (cs := #[.int .i64 x848000_1, .string x848001_32, .string x848002_61, .int .i64 x848003_61, .int .i64 x848004_61, .slice none 0 0]) ?_ 5 _ rfl; (with_reducible repeat (first | refine blk_drewN ?_ _ | refine blk_drew ?_ | refine blk_alloc ?_ _)); refine blk_put (cs := #[.int .i64 x848000_1, .string x848001_32, .string x848002_61, .int .i64 x848003_61, .int .i64 x847004_32, .slice none 0 0]) ?_ 4 _ rfl; (with_reducible repeat (first | refine blk_drewN ?_ _ | refine blk_drew ?_ | refine blk_alloc ?_ _)); refine blk_put (cs := #[.int .i64 x848000_1, .string x848001_32, .string x848002_61, .int .i64 x847003_32, .int .i64 x847004_32, .slice none 0 0]) ?_ 3 _ rfl; (with_reducible repeat (first | refine blk_drewN ?_ _ | refine blk_drew ?_ | refine blk_alloc ?_ _)); refine blk_put (cs := #[.int .i64 x848000_1, .string x848001_32, .string x847002_32, .int .i64 x847003_32, .int .i64 x847004_32, .slice none 0 0]) ?_ 2 _ rfl; (with_reducible repeat (first | refine blk_drewN ?_ _ | refine blk_drew ?_ | refine blk_alloc ?_ _)); refine blk_put (cs := #[.int .i64 x848000_1, .string x847001_32, .string x847002_32, .int .i64 x847003_32, .int .i64 x847004_32, .slice none 0 0]) ?_ 1 _ rfl; (with_reducible repeat (first | refine blk_drewN ?_ _ | refine blk_drew ?_ | refine blk_alloc ?_ _)); refine blk_put (cs := #[.int .i64 x847000_32, .string x847001_32, .string x847002_32, .int .i64 x847003_32, .int .i64 x847004_32, .slice none 0 0]) ?_ 0 _ rfl; (with_reducible repeat (first | refine blk_drewN ?_ _ | refine blk_drew ?_ | refine blk_alloc ?_ _)); exact BK846.out) Tryz.underlying49 rfl (by kernel_rfl)) rfl ?_
                    exact ⟨_, by first | rfl | (simp [errW_none, errW_some] <;> rfl) | (simp [*, errW_none, errW_some] <;> rfl), by (with_reducible repeat (first | apply Kd.R_alloc | apply Kd.R_drewN | apply Kd.R_drew)); exact Kd.R_mono (Gtr.far6 (Kd.R_types HO884.out BK846.out (by decide)) (fun _ hk => hk.2)) (fun _ hk => hk.1), (Gtr.bw HB.out)⟩
                   ·replace c81 := Bool.eq_false_iff.mpr c81
                    subst c81
                    have H1 : (some (0, (⟨#[]⟩ : ByteArray), (⟨#[]⟩ : ByteArray), 0, 0, ([] : List ByteArray), 4, false)) = some (r1, r2, r3, r4, r5, r6, r7, r8) := by rw [if_neg (show ¬ (false = true) by decide)] at H; exact H
                    clear H
                    have H := H1
                    clear H1
                    simp only [Option.some.injEq, Prod.mk.injEq] at H
                    obtain ⟨rfl, rfl, rfl, rfl, rfl, rfl, rfl, rfl⟩ := H
                    have q92 : (1 : Int) ≤ ((x8_32.length : Int) : Int) := of_decide_eq_true (by first | (with_reducible assumption) | assumption)
                    obtain ⟨i092, hi092, _, hsz92, _⟩ := info_parts info9
                    have hroom92 : x8_32.length ≤ co65 := (Kd.V_reads' HO_8.out).2.1
                    have hC92 : Kd.F Kd.string _ _ Ao65 x8_32.length x8_32 := (Kd.V_at (base := w.heap.size) HO_8.out).2.2
                    have hcut92 := cut_from (P := Tryz.prog) 46 9 .i64 Tryz.underlying46 hi092 1 hsz92 Ao65 x8_32.length co65 1 (by omega) q92
                    have hr92 := Kd.F_cut (m := (1 : Int).toNat) (c := co65) hC92 (by omega) hroom92
                    obtain ⟨A92, hA92⟩ : ∃ A1, A1 = (if co65 = (1 : Int).toNat then Ao65 else (Ao65 : Option Addr).map (·.add ((1 : Int).toNat * 1))) := ⟨_, rfl⟩
                    obtain ⟨c92, hc92⟩ : ∃ c1, c1 = co65 - (1 : Int).toNat := ⟨_, rfl⟩
                    have hy92 : y874.length = x8_32.length - (1 : Int).toNat := (by rw [Ny874.out, List.length_drop] <;> omega)
                    rw [show (x8_32).drop (1 : Int).toNat = y874 from Ny874.out.symm] at hr92
                    replace hr92 : Kd.F Kd.string _ _ A92 y874.length y874 := (by rw [hA92]; exact hr92)
                    rw [← hy92, ← hA92, ← hc92] at hcut92
                    have HO878 := Aside0.mk (show Kd.V Kd.string 9 _ w.heap.size _ (.slice A92 y874.length c92) y874 from Kd.V_mk (by rw [hy92, hc92]; exact Nat.sub_le_sub_right hroom92 _) hr92)
                    have HC878 := Aside0.mk (show y874.length ≤ c92 from by rw [hy92, hc92]; exact Nat.sub_le_sub_right hroom92 _)
                    clear hr92 hC92 hroom92 hi092 hsz92 hc92
                    have KY92 := Aside0.mk hy92
                    have KA92 := Aside0.mk hA92
                    clear hy92 hA92
                    replace q92 := eq_true q92
                    go_wp2_with (first | ((with_reducible refine gate_dst (N := 120) rfl ?_); (try (refine gate_guard (by rfl) ?_; dsimp only)); refine Kd.R_lit Kd.string _ 9 ?hg (N := 120) ?hd (xs := ([] : List ByteArray)) (inner := []) (ok := fun _ => True) (okp := fun _ => True) ?hr ?hp (fun _ hk => hk) trivial (Below.refl _ _) (Nat.le_refl _) (by simp) ?_; (case hd => rfl); (case hg => rfl); (case hr => first | (go_simp; done) | (go_simp; rfl)); (case hp => exact (Reps.none _ _)); intro v880 w93 ho94 hb hg_ hnew_; clear hg_ hnew_; (first | rw [← Ny879.out] at ho94 | (simp only [Int.reduceToNat] at ho94; rw [← Ny879.out] at ho94)); have n0_ := Aside0.mk (Kd.V_elder' (by (with_reducible repeat (first | apply Kd.V_alloc | apply Kd.V_drewN | apply Kd.V_drew)); exact HO_8.out) (Kd.R_base ho94) hb); have n1_ := Aside0.mk (Kd.V_elder' (by (with_reducible repeat (first | apply Kd.V_alloc | apply Kd.V_drewN | apply Kd.V_drew)); exact HO878.out) (Kd.R_base ho94) hb); have n2_ := Aside0.mk (Kd.R_lower (Kd.R_newM (M := fun k_ => (w.heap.size ≤ k_)) ho94 (below_size (Gtr.bw HB.out)) (fun k_ h_ => h_)) (below_size (Gtr.bw HB.out))); have n3_ := Aside0.mk (blk_below (g := gb846) (o := .cells #[.int .i64 x847000_32, .string x847001_32, .string x847002_32, .int .i64 x847003_32, .int .i64 x847004_32, .slice none 0 0] 49 (0, 0)) (by (with_reducible repeat (first | refine blk_drewN ?_ _ | refine blk_drew ?_ | refine blk_alloc ?_ _)); exact BK846.out) hb); have n4_ := Aside0.mk (blk_below (g := gb847) (o := .cells #[.int .i64 x848000_1, .string x848001_32, .string x848002_61, .int .i64 x848003_61, .int .i64 x848004_61, .slice none 0 0] 49 (0, 0)) (by (with_reducible repeat (first | refine blk_drewN ?_ _ | refine blk_drew ?_ | refine blk_alloc ?_ _)); exact BK847.out) hb); have n5_ := Aside0.mk (below_step (Gtr.bw HB.out) hb); clear HO_8; clear HO878; clear BK846; clear BK847; clear HB; have HO_8 := n0_; have HO878 := n1_; have HO881 := n2_; have BK846 := n3_; have BK847 := n4_; have HB := n5_; clear n0_ n1_ n2_ n3_ n4_ n5_; clear hb ho94) | ((with_reducible refine gate_builtin (b := .append) (xs := #[.tmp 120, .tmp 121]) rfl ?_); (try (refine gate_guard (by rfl) ?_; dsimp only)); at_builtin; refine Kd.R_append_rows Kd.string (w0 := w) w.heap.size rfl (.tmp 120) (.tmp 121) 46 9 (.string ⟨#[]⟩) 16 rfl Tryz.underlying46 info9 rfl (by decide) (by omega) v880 y879 y874 _ _ _ (fun k_ => (w.heap.size ≤ k_)) (fun _ => False) rfl rfl ?aO ?aR (fun _ _ h => h) (fun _ h => h.elim) ?aF ?aB ?aS ?aL ?_; (case aR => repeat (first | exact (Kd.V_reads' HO878.out).2.2 | (with_reducible refine Kd.C_alloc ?_ _) | (with_reducible refine Kd.C_drewN ?_ _) | (with_reducible refine Kd.C_drew ?_))); (case aB => exact (Gtr.bw HB.out)); (case aF => exact (fun k_ hk => (Nat.le_trans (below_size (Gtr.bw HB.out)) hk))); (case aO => exact (by (with_reducible repeat (first | apply Kd.R_alloc | apply Kd.R_drewN | apply Kd.R_drew)); exact Kd.R_mono HO881.out (fun _ hk => hk.1))); (case aS => exact (below_size (Gtr.bw HB.out))); (case aL => have := LMc79.out; omega); intro v883 w95 ho hb hg hat; rw [← Ny882.out] at ho; have n0_ := Aside0.mk (Kd.V_afterv (ok := (fun k_ => (P0_ k_ ∨ w.heap.size ≤ k_) ∧ k_ ≠ gb846 ∧ k_ ≠ gb847)) (by (with_reducible repeat (first | apply Kd.V_alloc | apply Kd.V_drewN | apply Kd.V_drew)); exact HO_8.out) hg hat); have n1_ := Aside0.mk (blk_grown (g := gb846) (o := .cells #[.int .i64 x847000_32, .string x847001_32, .string x847002_32, .int .i64 x847003_32, .int .i64 x847004_32, .slice none 0 0] 49 (0, 0)) (by (with_reducible repeat (first | refine blk_drewN ?_ _ | refine blk_drew ?_ | refine blk_alloc ?_ _)); exact BK846.out) hg (Kd.R_ne HO881.out BK846.out (by decide))); have n2_ := Aside0.mk (blk_grown (g := gb847) (o := .cells #[.int .i64 x848000_1, .string x848001_32, .string x848002_61, .int .i64 x848003_61, .int .i64 x848004_61, .slice none 0 0] 49 (0, 0)) (by (with_reducible repeat (first | refine blk_drewN ?_ _ | refine blk_drew ?_ | refine blk_alloc ?_ _)); exact BK847.out) hg (Kd.R_ne HO881.out BK847.out (by decide))); have n3_ := Aside0.mk (Kd.V_afterv (ok := (fun k_ => (P0_ k_ ∨ w.heap.size ≤ k_) ∧ k_ ≠ gb846 ∧ k_ ≠ gb847)) (by (with_reducible repeat (first | apply Kd.V_alloc | apply Kd.V_drewN | apply Kd.V_drew)); exact HO878.out) hg hat); have n4_ := Aside0.mk (hb); have n5_ := Aside0.mk (ho); clear HO_8; clear BK846; clear BK847; clear HO878; clear HB; clear HO881; have HO_8 := n0_; have BK846 := n1_; have BK847 := n2_; have HO878 := n3_; have HB := n4_; have HO884 := n5_; clear n0_ n1_ n2_ n3_ n4_ n5_; clear ho hb hg hat; obtain ⟨Ao96, co96, eo96⟩ := Kd.R_slice HO884.out; subst eo96; have hnb97 := NB847_846.out; have hnc97 := NB846_847.out; have hcz98_0 : w95.cell? ⟨gb847, 0, none⟩ = some (.int .i64 x848000_1) := (blk_cell BK847.out 0).trans rfl; have hcz98_1 : w95.cell? ⟨gb847, 1, none⟩ = some (.string x848001_32) := (blk_cell BK847.out 1).trans rfl; have hcz98_2 : w95.cell? ⟨gb847, 2, none⟩ = some (.string x848002_61) := (blk_cell BK847.out 2).trans rfl; have hcz98_3 : w95.cell? ⟨gb847, 3, none⟩ = some (.int .i64 x848003_61) := (blk_cell BK847.out 3).trans rfl; have hcz98_4 : w95.cell? ⟨gb847, 4, none⟩ = some (.int .i64 x848004_61) := (blk_cell BK847.out 4).trans rfl; have hcz98_5 : w95.cell? ⟨gb847, 5, none⟩ = some (.slice none 0 0) := (blk_cell BK847.out 5).trans rfl; have hfz98_0 := blk_frozen BK847.out 0; have hfz98_1 := blk_frozen BK847.out 1; have hfz98_2 := blk_frozen BK847.out 2; have hfz98_3 := blk_frozen BK847.out 3; have hfz98_4 := blk_frozen BK847.out 4; have hfz98_5 := blk_frozen BK847.out 5) | ((with_reducible refine gate_callee (f := 43) rfl ?_); refine goesL_ (some 125) rfl rfl Tryz.func43 (by kernel_rfl) rfl #[.agg #[.int .i64 x848000_1, .string x848001_32, .string x848002_61, .int .i64 x848003_61, .int .i64 x848004_61, .slice Ao96 y882.length co96]] rfl (by (try simp only [List.map_toArray, List.map_cons, List.map_nil]); first | done | rfl | (simp only [List.length_drop, List.length_take]; rfl)) ?_; (with_reducible refine (spec_GoodJob.calls kj61 x848000_1 x848001_32 x848002_61 x848003_61 x848004_61 _ _ y882 false _ ?side1 ?side2 A80.out).mono ?_); (case side1 => refine (Kd.R_reads' (e := 9) (base := w.heap.size) (ok := fun k_ => (w.heap.size ≤ k_)) (n := y882.length) (c := co96) ?_).2.2; exact (by (with_reducible repeat (first | apply Kd.R_alloc | apply Kd.R_drewN | apply Kd.R_drew)); exact (Kd.R_mono (Kd.R_far (p := ⟨gb847, 5, none⟩) (Kd.R_types HO884.out BK847.out (by decide)) (fun _ hk => hk.2) (.slice Ao96 y882.length co96)) (fun _ h_ => h_.1)))); (case side2 => exact (Kd.R_reads' HO884.out).2.1); rintro e w99 ⟨rfl, hb⟩; refine ⟨_, rfl, ?_⟩; have n0_ := Aside0.mk (Kd.V_below (by (with_reducible repeat (first | apply Kd.V_alloc | apply Kd.V_drewN | apply Kd.V_drew)); exact (Kd.V_mono (Kd.V_far (p := ⟨gb847, 5, none⟩) (Kd.V_mono HO_8.out (fun k_ hk => (⟨hk, hk.1.2.2⟩ : _ ∧ k_ ≠ gb847))) (fun _ hk => hk.2) (.slice Ao96 y882.length co96)) (fun _ h_ => h_.1))) hb); have n1_ := Aside0.mk (Kd.V_below (by (with_reducible repeat (first | apply Kd.V_alloc | apply Kd.V_drewN | apply Kd.V_drew)); exact (Kd.V_mono (Kd.V_far (p := ⟨gb847, 5, none⟩) (Kd.V_mono HO878.out (fun k_ hk => (⟨hk, hk.1.2.2⟩ : _ ∧ k_ ≠ gb847))) (fun _ hk => hk.2) (.slice Ao96 y882.length co96)) (fun _ h_ => h_.1))) hb); have n2_ := Aside0.mk (Kd.R_below (by (with_reducible repeat (first | apply Kd.R_alloc | apply Kd.R_drewN | apply Kd.R_drew)); exact (Kd.R_mono (Kd.R_far (p := ⟨gb847, 5, none⟩) (Kd.R_types HO884.out BK847.out (by decide)) (fun _ hk => hk.2) (.slice Ao96 y882.length co96)) (fun _ h_ => h_.1))) hb); have n3_ := Aside0.mk (blk_below (g := gb846) (o := .cells #[.int .i64 x847000_32, .string x847001_32, .string x847002_32, .int .i64 x847003_32, .int .i64 x847004_32, .slice none 0 0] 49 (0, 0)) (by (with_reducible repeat (first | refine blk_drewN ?_ _ | refine blk_drew ?_ | refine blk_alloc ?_ _)); refine blk_far ?_ NB846_847.out _; (with_reducible repeat (first | refine blk_drewN ?_ _ | refine blk_drew ?_ | refine blk_alloc ?_ _)); exact BK846.out) hb); have n4_ := Aside0.mk (blk_below (g := gb847) (o := .cells #[.int .i64 x848000_1, .string x848001_32, .string x848002_61, .int .i64 x848003_61, .int .i64 x848004_61, .slice Ao96 y882.length co96] 49 (0, 0)) (by (with_reducible repeat (first | refine blk_drewN ?_ _ | refine blk_drew ?_ | refine blk_alloc ?_ _)); refine blk_put (cs := #[.int .i64 x848000_1, .string x848001_32, .string x848002_61, .int .i64 x848003_61, .int .i64 x848004_61, .slice none 0 0]) ?_ 5 _ rfl; (with_reducible repeat (first | refine blk_drewN ?_ _ | refine blk_drew ?_ | refine blk_alloc ?_ _)); exact BK847.out) hb); have n5_ := Aside0.mk (below_step (Gtr.bw HB.out) hb); clear HO_8; clear HO878; clear HO884; clear BK846; clear BK847; clear HB; have HO_8 := n0_; have HO878 := n1_; have HO884 := n2_; have BK846 := n3_; have BK847 := n4_; have HB := n5_; clear n0_ n1_ n2_ n3_ n4_ n5_; (try clear hb); (try clear hb2); (try clear hk); (try clear hi); have hcz100_0 : w99.cell? ⟨gb846, 0, none⟩ = some (.int .i64 x847000_32) := (blk_cell BK846.out 0).trans rfl; have hcz100_1 : w99.cell? ⟨gb846, 1, none⟩ = some (.string x847001_32) := (blk_cell BK846.out 1).trans rfl; have hcz100_2 : w99.cell? ⟨gb846, 2, none⟩ = some (.string x847002_32) := (blk_cell BK846.out 2).trans rfl; have hcz100_3 : w99.cell? ⟨gb846, 3, none⟩ = some (.int .i64 x847003_32) := (blk_cell BK846.out 3).trans rfl; have hcz100_4 : w99.cell? ⟨gb846, 4, none⟩ = some (.int .i64 x847004_32) := (blk_cell BK846.out 4).trans rfl; have hcz100_5 : w99.cell? ⟨gb846, 5, none⟩ = some (.slice none 0 0) := (blk_cell BK846.out 5).trans rfl; have hfz100_0 := blk_frozen BK846.out 0; have hfz100_1 := blk_frozen BK846.out 1; have hfz100_2 := blk_frozen BK846.out 2; have hfz100_3 := blk_frozen BK846.out 3; have hfz100_4 := blk_frozen BK846.out 4; have hfz100_5 := blk_frozen BK846.out 5))
                    refine bodyPost_ret (results_ctt rfl _ _ gb846 49 #[.int .i64 0, .string (⟨#[]⟩ : ByteArray), .string (⟨#[]⟩ : ByteArray), .int .i64 0, .int .i64 0, .slice none 0 0] (0, 0) _ rfl (by (with_reducible repeat (first | refine blk_drewN ?_ _ | refine blk_drew ?_ | refine blk_alloc ?_ _)); refine blk_put (cs := #[.int .i64 0, .string (⟨#[]⟩ : ByteArray), .string (⟨#[]⟩ : ByteArray), .int .i64 0, .int .i64 0, .slice none 0 0]) ?_ 5 _ rfl; (with_reducible repeat (first | refine blk_drewN ?_ _ | refine blk_drew ?_ | refine blk_alloc ?_ _)); refine blk_put (cs := #[.int .i64 0, .string (⟨#[]⟩ : ByteArray), .string (⟨#[]⟩ : ByteArray), .int .i64 0, .int .i64 x847004_32, .slice none 0 0]) ?_ 4 _ rfl; (with_reducible repeat (first | refine blk_drewN ?_ _ | refine blk_drew ?_ | refine blk_alloc ?_ _)); refine blk_put (cs := #[.int .i64 0, .string (⟨#[]⟩ : ByteArray), .string (⟨#[]⟩ : ByteArray), .int .i64 x847003_32, .int .i64 x847004_32, .slice none 0 0]) ?_ 3 _ rfl; (with_reducible repeat (first | refine blk_drewN ?_ _ | refine blk_drew ?_ | refine blk_alloc ?_ _)); refine blk_put (cs := #[.int .i64 0, .string (⟨#[]⟩ : ByteArray), .string x847002_32, .int .i64 x847003_32, .int .i64 x847004_32, .slice none 0 0]) ?_ 2 _ rfl; (with_reducible repeat (first | refine blk_drewN ?_ _ | refine blk_drew ?_ | refine blk_alloc ?_ _)); refine blk_put (cs := #[.int .i64 0, .string x847001_32, .string x847002_32, .int .i64 x847003_32, .int .i64 x847004_32, .slice none 0 0]) ?_ 1 _ rfl; (with_reducible repeat (first | refine blk_drewN ?_ _ | refine blk_drew ?_ | refine blk_alloc ?_ _)); refine blk_put (cs := #[.int .i64 x847000_32, .string x847001_32, .string x847002_32, .int .i64 x847003_32, .int .i64 x847004_32, .slice none 0 0]) ?_ 0 _ rfl; (with_reducible repeat (first | refine blk_drewN ?_ _ | refine blk_drew ?_ | refine blk_alloc ?_ _)); exact BK846.out) Tryz.underlying49 rfl (by kernel_rfl)) rfl ?_
                    exact ⟨_, by first | rfl | (simp [errW_none, errW_some] <;> rfl) | (simp [*, errW_none, errW_some] <;> rfl), by first | exact Kd.R_nil _ _ _ _ _ | exact Kd.N_nil _ _ _ _ _ | exact Kd.V_nil _ _ _ _ _ | exact Kd.Q_nil _ _ _ _ _ | exact Kd.S_nil _ _ _ _ _, (Gtr.bw HB.out)⟩
                  ·rw [if_neg c79] at H
                   exact absurd H (by simp)
                 ·rw [if_neg c78] at H
                  exact absurd H (by simp)
                ·replace c77 := Bool.eq_false_iff.mpr c77
                 subst c77
                 have H1 : (some (0, (⟨#[]⟩ : ByteArray), (⟨#[]⟩ : ByteArray), 0, 0, ([] : List ByteArray), 3, false)) = some (r1, r2, r3, r4, r5, r6, r7, r8) := by rw [if_neg (show ¬ (false = true) by decide)] at H; exact H
                 clear H
                 have H := H1
                 clear H1
                 simp only [Option.some.injEq, Prod.mk.injEq] at H
                 obtain ⟨rfl, rfl, rfl, rfl, rfl, rfl, rfl, rfl⟩ := H
                 have hnb101 := NB846_847.out
                 have hnc101 := NB847_846.out
                 have hcz102_0 : wc.cell? ⟨gb846, 0, none⟩ = some (.int .i64 x847000_32) := (blk_cell BK846.out 0).trans rfl
                 have hcz102_1 : wc.cell? ⟨gb846, 1, none⟩ = some (.string x847001_32) := (blk_cell BK846.out 1).trans rfl
                 have hcz102_2 : wc.cell? ⟨gb846, 2, none⟩ = some (.string x847002_32) := (blk_cell BK846.out 2).trans rfl
                 have hcz102_3 : wc.cell? ⟨gb846, 3, none⟩ = some (.int .i64 x847003_32) := (blk_cell BK846.out 3).trans rfl
                 have hcz102_4 : wc.cell? ⟨gb846, 4, none⟩ = some (.int .i64 x847004_32) := (blk_cell BK846.out 4).trans rfl
                 have hcz102_5 : wc.cell? ⟨gb846, 5, none⟩ = some (.slice none 0 0) := (blk_cell BK846.out 5).trans rfl
                 have hfz102_0 := blk_frozen BK846.out 0
                 have hfz102_1 := blk_frozen BK846.out 1
                 have hfz102_2 := blk_frozen BK846.out 2
                 have hfz102_3 := blk_frozen BK846.out 3
                 have hfz102_4 := blk_frozen BK846.out 4
                 have hfz102_5 := blk_frozen BK846.out 5
                 go_wp2
                 refine bodyPost_ret (results_ctt rfl _ _ gb846 49 #[.int .i64 0, .string (⟨#[]⟩ : ByteArray), .string (⟨#[]⟩ : ByteArray), .int .i64 0, .int .i64 0, .slice none 0 0] (0, 0) _ rfl (by (with_reducible repeat (first | refine blk_drewN ?_ _ | refine blk_drew ?_ | refine blk_alloc ?_ _)); refine blk_put (cs := #[.int .i64 0, .string (⟨#[]⟩ : ByteArray), .string (⟨#[]⟩ : ByteArray), .int .i64 0, .int .i64 0, .slice none 0 0]) ?_ 5 _ rfl; (with_reducible repeat (first | refine blk_drewN ?_ _ | refine blk_drew ?_ | refine blk_alloc ?_ _)); refine blk_put (cs := #[.int .i64 0, .string (⟨#[]⟩ : ByteArray), .string (⟨#[]⟩ : ByteArray), .int .i64 0, .int .i64 x847004_32, .slice none 0 0]) ?_ 4 _ rfl; (with_reducible repeat (first | refine blk_drewN ?_ _ | refine blk_drew ?_ | refine blk_alloc ?_ _)); refine blk_put (cs := #[.int .i64 0, .string (⟨#[]⟩ : ByteArray), .string (⟨#[]⟩ : ByteArray), .int .i64 x847003_32, .int .i64 x847004_32, .slice none 0 0]) ?_ 3 _ rfl; (with_reducible repeat (first | refine blk_drewN ?_ _ | refine blk_drew ?_ | refine blk_alloc ?_ _)); refine blk_put (cs := #[.int .i64 0, .string (⟨#[]⟩ : ByteArray), .string x847002_32, .int .i64 x847003_32, .int .i64 x847004_32, .slice none 0 0]) ?_ 2 _ rfl; (with_reducible repeat (first | refine blk_drewN ?_ _ | refine blk_drew ?_ | refine blk_alloc ?_ _)); refine blk_put (cs := #[.int .i64 0, .string x847001_32, .string x847002_32, .int .i64 x847003_32, .int .i64 x847004_32, .slice none 0 0]) ?_ 1 _ rfl; (with_reducible repeat (first | refine blk_drewN ?_ _ | refine blk_drew ?_ | refine blk_alloc ?_ _)); refine blk_put (cs := #[.int .i64 x847000_32, .string x847001_32, .string x847002_32, .int .i64 x847003_32, .int .i64 x847004_32, .slice none 0 0]) ?_ 0 _ rfl; (with_reducible repeat (first | refine blk_drewN ?_ _ | refine blk_drew ?_ | refine blk_alloc ?_ _)); exact BK846.out) Tryz.underlying49 rfl (by kernel_rfl)) rfl ?_
                 exact ⟨_, by first | rfl | (simp [errW_none, errW_some] <;> rfl) | (simp [*, errW_none, errW_some] <;> rfl), by first | exact Kd.R_nil _ _ _ _ _ | exact Kd.N_nil _ _ _ _ _ | exact Kd.V_nil _ _ _ _ _ | exact Kd.Q_nil _ _ _ _ _ | exact Kd.S_nil _ _ _ _ _, (Gtr.bw HB.out)⟩
            ·rw [if_neg c56] at H
             have c56b0 : decide (4 ≤ x848000_1) = false := decide_eq_false c56
             clear c56
             obtain ⟨y886, hy886⟩ : ∃ y_ : List ByteArray, y_ = (([] : List ByteArray)) := ⟨_, rfl⟩
             replace H : (if y886.length + x8_32.length < 8796093022208 then ((some (y886 ++ x8_32 : List ByteArray)).bind fun y889 => ((spec_GoodJob.f kj32 x848000_1 x848001_32 (⟨#[]⟩ : ByteArray) 0 0 y889).bind fun t892 => (if t892 = true then (some (x848000_1, x848001_32, (⟨#[]⟩ : ByteArray), 0, 0, y889, 0, true)) else (some (0, (⟨#[]⟩ : ByteArray), (⟨#[]⟩ : ByteArray), 0, 0, ([] : List ByteArray), 4, false))))) else (none)) = some (r1, r2, r3, r4, r5, r6, r7, r8) := by first | (rw [hy886]; with_reducible exact H) | (have H2_ := (Option.bind_some _ _).symm.trans H; rw [hy886]; with_reducible exact H2_) | (have H2_ := (Option.bind_some _ _).symm.trans H; with_reducible exact H2_) | with_reducible exact H | (rw [hy886]; exact H) | exact H
             have Ny886 := Aside0.mk hy886
             clear hy886
             by_cases c103 : y886.length + x8_32.length < 8796093022208
             ·rw [if_pos c103] at H
              have LMc103 := Aside0.mk c103
              clear c103
              obtain ⟨y889, hy889⟩ : ∃ y_ : List ByteArray, y_ = (y886 ++ x8_32) := ⟨_, rfl⟩
              replace H : ((spec_GoodJob.f kj32 x848000_1 x848001_32 (⟨#[]⟩ : ByteArray) 0 0 y889).bind fun t892 => (if t892 = true then (some (x848000_1, x848001_32, (⟨#[]⟩ : ByteArray), 0, 0, y889, 0, true)) else (some (0, (⟨#[]⟩ : ByteArray), (⟨#[]⟩ : ByteArray), 0, 0, ([] : List ByteArray), 4, false)))) = some (r1, r2, r3, r4, r5, r6, r7, r8) := by first | (rw [hy889]; with_reducible exact H) | (have H2_ := (Option.bind_some _ _).symm.trans H; rw [hy889]; with_reducible exact H2_) | (have H2_ := (Option.bind_some _ _).symm.trans H; with_reducible exact H2_) | with_reducible exact H | (rw [hy889]; exact H) | exact H
              have Ny889 := Aside0.mk hy889
              clear hy889
              replace H := Option.bind_eq_some_iff.mp H
              obtain ⟨t892, A1040, H⟩ := H
              try dsimp only at H
              have A104 := Aside0.mk A1040
              clear A1040
              by_cases c105 : t892 = true
              ·subst c105
               have H1 := H
               rw [if_pos rfl] at H1
               clear H
               have H := H1
               clear H1
               simp only [Option.some.injEq, Prod.mk.injEq] at H
               obtain ⟨rfl, rfl, rfl, rfl, rfl, rfl, rfl, rfl⟩ := H
               have hnb106 := NB847_846.out
               have hnc106 := NB846_847.out
               have hcz107_0 : wc.cell? ⟨gb847, 0, none⟩ = some (.int .i64 x848000_1) := (blk_cell BK847.out 0).trans rfl
               have hcz107_1 : wc.cell? ⟨gb847, 1, none⟩ = some (.string x848001_32) := (blk_cell BK847.out 1).trans rfl
               have hcz107_2 : wc.cell? ⟨gb847, 2, none⟩ = some (.string (⟨#[]⟩ : ByteArray)) := (blk_cell BK847.out 2).trans rfl
               have hcz107_3 : wc.cell? ⟨gb847, 3, none⟩ = some (.int .i64 0) := (blk_cell BK847.out 3).trans rfl
               have hcz107_4 : wc.cell? ⟨gb847, 4, none⟩ = some (.int .i64 0) := (blk_cell BK847.out 4).trans rfl
               have hcz107_5 : wc.cell? ⟨gb847, 5, none⟩ = some (.slice none 0 0) := (blk_cell BK847.out 5).trans rfl
               have hfz107_0 := blk_frozen BK847.out 0
               have hfz107_1 := blk_frozen BK847.out 1
               have hfz107_2 := blk_frozen BK847.out 2
               have hfz107_3 := blk_frozen BK847.out 3
               have hfz107_4 := blk_frozen BK847.out 4
               have hfz107_5 := blk_frozen BK847.out 5
               go_wp2_with (first | ((with_reducible refine gate_dst (N := 120) rfl ?_); (try (refine gate_guard (by rfl) ?_; dsimp only)); refine Kd.R_lit Kd.string _ 9 ?hg (N := 120) ?hd (xs := ([] : List ByteArray)) (inner := []) (ok := fun _ => True) (okp := fun _ => True) ?hr ?hp (fun _ hk => hk) trivial (Below.refl _ _) (Nat.le_refl _) (by simp) ?_; (case hd => rfl); (case hg => rfl); (case hr => first | (go_simp; done) | (go_simp; rfl)); (case hp => exact (Reps.none _ _)); intro v887 w108 ho109 hb hg_ hnew_; clear hg_ hnew_; (first | rw [← Ny886.out] at ho109 | (simp only [Int.reduceToNat] at ho109; rw [← Ny886.out] at ho109)); have n0_ := Aside0.mk (Kd.V_elder' (by (with_reducible repeat (first | apply Kd.V_alloc | apply Kd.V_drewN | apply Kd.V_drew)); exact HO_8.out) (Kd.R_base ho109) hb); have n1_ := Aside0.mk (Kd.R_lower (Kd.R_newM (M := fun k_ => (w.heap.size ≤ k_)) ho109 (below_size (Gtr.bw HB.out)) (fun k_ h_ => h_)) (below_size (Gtr.bw HB.out))); have n2_ := Aside0.mk (blk_below (g := gb846) (o := .cells #[.int .i64 x847000_32, .string x847001_32, .string x847002_32, .int .i64 x847003_32, .int .i64 x847004_32, .slice none 0 0] 49 (0, 0)) (by (with_reducible repeat (first | refine blk_drewN ?_ _ | refine blk_drew ?_ | refine blk_alloc ?_ _)); exact BK846.out) hb); have n3_ := Aside0.mk (blk_below (g := gb847) (o := .cells #[.int .i64 x848000_1, .string x848001_32, .string (⟨#[]⟩ : ByteArray), .int .i64 0, .int .i64 0, .slice none 0 0] 49 (0, 0)) (by (with_reducible repeat (first | refine blk_drewN ?_ _ | refine blk_drew ?_ | refine blk_alloc ?_ _)); exact BK847.out) hb); have n4_ := Aside0.mk (below_step (Gtr.bw HB.out) hb); clear HO_8; clear BK846; clear BK847; clear HB; have HO_8 := n0_; have HO888 := n1_; have BK846 := n2_; have BK847 := n3_; have HB := n4_; clear n0_ n1_ n2_ n3_ n4_; clear hb ho109; obtain ⟨Ao111, co111, eo111⟩ := Kd.V_slice HO_8.out; subst eo111) | ((with_reducible refine gate_builtin (b := .append) (xs := #[.tmp 120, .tmp 121]) rfl ?_); (try (refine gate_guard (by rfl) ?_; dsimp only)); at_builtin; refine Kd.R_append_rows Kd.string (w0 := w) w.heap.size rfl (.tmp 120) (.tmp 121) 46 9 (.string ⟨#[]⟩) 16 rfl Tryz.underlying46 info9 rfl (by decide) (by omega) v887 y886 x8_32 _ _ _ (fun k_ => (w.heap.size ≤ k_)) (fun _ => False) rfl rfl ?aO ?aR (fun _ _ h => h) (fun _ h => h.elim) ?aF ?aB ?aS ?aL ?_; (case aR => repeat (first | exact (Kd.V_reads' HO_8.out).2.2 | (with_reducible refine Kd.C_alloc ?_ _) | (with_reducible refine Kd.C_drewN ?_ _) | (with_reducible refine Kd.C_drew ?_))); (case aB => exact (Gtr.bw HB.out)); (case aF => exact (fun k_ hk => (Nat.le_trans (below_size (Gtr.bw HB.out)) hk))); (case aO => exact (by (with_reducible repeat (first | apply Kd.R_alloc | apply Kd.R_drewN | apply Kd.R_drew)); exact Kd.R_mono HO888.out (fun _ hk => hk.1))); (case aS => exact (below_size (Gtr.bw HB.out))); (case aL => have := LMc103.out; omega); intro v890 w110 ho hb hg hat; rw [← Ny889.out] at ho; have n0_ := Aside0.mk (Kd.V_afterv (ok := (fun k_ => (P0_ k_ ∨ w.heap.size ≤ k_) ∧ k_ ≠ gb846 ∧ k_ ≠ gb847)) (by (with_reducible repeat (first | apply Kd.V_alloc | apply Kd.V_drewN | apply Kd.V_drew)); exact HO_8.out) hg hat); have n1_ := Aside0.mk (blk_grown (g := gb846) (o := .cells #[.int .i64 x847000_32, .string x847001_32, .string x847002_32, .int .i64 x847003_32, .int .i64 x847004_32, .slice none 0 0] 49 (0, 0)) (by (with_reducible repeat (first | refine blk_drewN ?_ _ | refine blk_drew ?_ | refine blk_alloc ?_ _)); exact BK846.out) hg (Kd.R_ne HO888.out BK846.out (by decide))); have n2_ := Aside0.mk (blk_grown (g := gb847) (o := .cells #[.int .i64 x848000_1, .string x848001_32, .string (⟨#[]⟩ : ByteArray), .int .i64 0, .int .i64 0, .slice none 0 0] 49 (0, 0)) (by (with_reducible repeat (first | refine blk_drewN ?_ _ | refine blk_drew ?_ | refine blk_alloc ?_ _)); exact BK847.out) hg (Kd.R_ne HO888.out BK847.out (by decide))); have n3_ := Aside0.mk (hb); have n4_ := Aside0.mk (ho); clear HO_8; clear BK846; clear BK847; clear HB; clear HO888; have HO_8 := n0_; have BK846 := n1_; have BK847 := n2_; have HB := n3_; have HO891 := n4_; clear n0_ n1_ n2_ n3_ n4_; clear ho hb hg hat; obtain ⟨Ao112, co112, eo112⟩ := Kd.R_slice HO891.out; subst eo112; have hcz113_0 : w110.cell? ⟨gb847, 0, none⟩ = some (.int .i64 x848000_1) := (blk_cell BK847.out 0).trans rfl; have hcz113_1 : w110.cell? ⟨gb847, 1, none⟩ = some (.string x848001_32) := (blk_cell BK847.out 1).trans rfl; have hcz113_2 : w110.cell? ⟨gb847, 2, none⟩ = some (.string (⟨#[]⟩ : ByteArray)) := (blk_cell BK847.out 2).trans rfl; have hcz113_3 : w110.cell? ⟨gb847, 3, none⟩ = some (.int .i64 0) := (blk_cell BK847.out 3).trans rfl; have hcz113_4 : w110.cell? ⟨gb847, 4, none⟩ = some (.int .i64 0) := (blk_cell BK847.out 4).trans rfl; have hcz113_5 : w110.cell? ⟨gb847, 5, none⟩ = some (.slice none 0 0) := (blk_cell BK847.out 5).trans rfl; have hfz113_0 := blk_frozen BK847.out 0; have hfz113_1 := blk_frozen BK847.out 1; have hfz113_2 := blk_frozen BK847.out 2; have hfz113_3 := blk_frozen BK847.out 3; have hfz113_4 := blk_frozen BK847.out 4; have hfz113_5 := blk_frozen BK847.out 5) | ((with_reducible refine gate_callee (f := 43) rfl ?_); refine goesL_ (some 125) rfl rfl Tryz.func43 (by kernel_rfl) rfl #[.agg #[.int .i64 x848000_1, .string x848001_32, .string (⟨#[]⟩ : ByteArray), .int .i64 0, .int .i64 0, .slice Ao112 y889.length co112]] rfl (by (try simp only [List.map_toArray, List.map_cons, List.map_nil]); first | done | rfl | (simp only [List.length_drop, List.length_take]; rfl)) ?_; (with_reducible refine (spec_GoodJob.calls kj32 x848000_1 x848001_32 (⟨#[]⟩ : ByteArray) 0 0 _ _ y889 true _ ?side1 ?side2 A104.out).mono ?_); (case side1 => refine (Kd.R_reads' (e := 9) (base := w.heap.size) (ok := fun k_ => (w.heap.size ≤ k_)) (n := y889.length) (c := co112) ?_).2.2; exact (by (with_reducible repeat (first | apply Kd.R_alloc | apply Kd.R_drewN | apply Kd.R_drew)); exact (Kd.R_mono (Kd.R_far (p := ⟨gb847, 5, none⟩) (Kd.R_types HO891.out BK847.out (by decide)) (fun _ hk => hk.2) (.slice Ao112 y889.length co112)) (fun _ h_ => h_.1)))); (case side2 => exact (Kd.R_reads' HO891.out).2.1); rintro e w114 ⟨rfl, hb⟩; refine ⟨_, rfl, ?_⟩; have n0_ := Aside0.mk (Kd.V_below (by (with_reducible repeat (first | apply Kd.V_alloc | apply Kd.V_drewN | apply Kd.V_drew)); exact (Kd.V_mono (Kd.V_far (p := ⟨gb847, 5, none⟩) (Kd.V_mono HO_8.out (fun k_ hk => (⟨hk, hk.1.2.2⟩ : _ ∧ k_ ≠ gb847))) (fun _ hk => hk.2) (.slice Ao112 y889.length co112)) (fun _ h_ => h_.1))) hb); have n1_ := Aside0.mk (Kd.R_below (by (with_reducible repeat (first | apply Kd.R_alloc | apply Kd.R_drewN | apply Kd.R_drew)); exact (Kd.R_mono (Kd.R_far (p := ⟨gb847, 5, none⟩) (Kd.R_types HO891.out BK847.out (by decide)) (fun _ hk => hk.2) (.slice Ao112 y889.length co112)) (fun _ h_ => h_.1))) hb); have n2_ := Aside0.mk (blk_below (g := gb846) (o := .cells #[.int .i64 x847000_32, .string x847001_32, .string x847002_32, .int .i64 x847003_32, .int .i64 x847004_32, .slice none 0 0] 49 (0, 0)) (by (with_reducible repeat (first | refine blk_drewN ?_ _ | refine blk_drew ?_ | refine blk_alloc ?_ _)); refine blk_far ?_ NB846_847.out _; (with_reducible repeat (first | refine blk_drewN ?_ _ | refine blk_drew ?_ | refine blk_alloc ?_ _)); exact BK846.out) hb); have n3_ := Aside0.mk (blk_below (g := gb847) (o := .cells #[.int .i64 x848000_1, .string x848001_32, .string (⟨#[]⟩ : ByteArray), .int .i64 0, .int .i64 0, .slice Ao112 y889.length co112] 49 (0, 0)) (by (with_reducible repeat (first | refine blk_drewN ?_ _ | refine blk_drew ?_ | refine blk_alloc ?_ _)); refine blk_put (cs := #[.int .i64 x848000_1, .string x848001_32, .string (⟨#[]⟩ : ByteArray), .int .i64 0, .int .i64 0, .slice none 0 0]) ?_ 5 _ rfl; (with_reducible repeat (first | refine blk_drewN ?_ _ | refine blk_drew ?_ | refine blk_alloc ?_ _)); exact BK847.out) hb); have n4_ := Aside0.mk (below_step (Gtr.bw HB.out) hb); clear HO_8; clear HO891; clear BK846; clear BK847; clear HB; have HO_8 := n0_; have HO891 := n1_; have BK846 := n2_; have BK847 := n3_; have HB := n4_; clear n0_ n1_ n2_ n3_ n4_; (try clear hb); (try clear hb2); (try clear hk); (try clear hi); have hcz115_0 : w114.cell? ⟨gb847, 0, none⟩ = some (.int .i64 x848000_1) := (blk_cell BK847.out 0).trans rfl; have hcz115_1 : w114.cell? ⟨gb847, 1, none⟩ = some (.string x848001_32) := (blk_cell BK847.out 1).trans rfl; have hcz115_2 : w114.cell? ⟨gb847, 2, none⟩ = some (.string (⟨#[]⟩ : ByteArray)) := (blk_cell BK847.out 2).trans rfl; have hcz115_3 : w114.cell? ⟨gb847, 3, none⟩ = some (.int .i64 0) := (blk_cell BK847.out 3).trans rfl; have hcz115_4 : w114.cell? ⟨gb847, 4, none⟩ = some (.int .i64 0) := (blk_cell BK847.out 4).trans rfl; have hcz115_5 : w114.cell? ⟨gb847, 5, none⟩ = some (.slice Ao112 y889.length co112) := (blk_cell BK847.out 5).trans rfl; have hfz115_0 := blk_frozen BK847.out 0; have hfz115_1 := blk_frozen BK847.out 1; have hfz115_2 := blk_frozen BK847.out 2; have hfz115_3 := blk_frozen BK847.out 3; have hfz115_4 := blk_frozen BK847.out 4; have hfz115_5 := blk_frozen BK847.out 5; have hcz116_0 : w114.cell? ⟨gb846, 0, none⟩ = some (.int .i64 x847000_32) := (blk_cell BK846.out 0).trans rfl; have hcz116_1 : w114.cell? ⟨gb846, 1, none⟩ = some (.string x847001_32) := (blk_cell BK846.out 1).trans rfl; have hcz116_2 : w114.cell? ⟨gb846, 2, none⟩ = some (.string x847002_32) := (blk_cell BK846.out 2).trans rfl; have hcz116_3 : w114.cell? ⟨gb846, 3, none⟩ = some (.int .i64 x847003_32) := (blk_cell BK846.out 3).trans rfl; have hcz116_4 : w114.cell? ⟨gb846, 4, none⟩ = some (.int .i64 x847004_32) := (blk_cell BK846.out 4).trans rfl; have hcz116_5 : w114.cell? ⟨gb846, 5, none⟩ = some (.slice none 0 0) := (blk_cell BK846.out 5).trans rfl; have hfz116_0 := blk_frozen BK846.out 0; have hfz116_1 := blk_frozen BK846.out 1; have hfz116_2 := blk_frozen BK846.out 2; have hfz116_3 := blk_frozen BK846.out 3; have hfz116_4 := blk_frozen BK846.out 4; have hfz116_5 := blk_frozen BK846.out 5))
               refine bodyPost_ret (results_ctt rfl _ _ gb846 49 #[.int .i64 x848000_1, .string x848001_32, .string (⟨#[]⟩ : ByteArray), .int .i64 0, .int .i64 0, .slice Ao112 y889.length co112] (0, 0) _ rfl (by (with_reducible repeat (first | refine blk_drewN ?_ _ | refine blk_drew ?_ | refine blk_alloc ?_ _)); refine blk_put (cs := #[.int .i64 x848000_1, .string x848001_32, .string (⟨#[]⟩ : ByteArray), .int .i64 0, .int .i64 0, .slice none 0 0]) ?_ 5 _ rfl; (with_reducible repeat (first | refine blk_drewN ?_ _ | refine blk_drew ?_ | refine blk_alloc ?_ _)); refine blk_put (cs := #[.int .i64 x848000_1, .string x848001_32, .string (⟨#[]⟩ : ByteArray), .int .i64 0, .int .i64 x847004_32, .slice none 0 0]) ?_ 4 _ rfl; (with_reducible repeat (first | refine blk_drewN ?_ _ | refine blk_drew ?_ | refine blk_alloc ?_ _)); refine blk_put (cs := #[.int .i64 x848000_1, .string x848001_32, .string (⟨#[]⟩ : ByteArray), .int .i64 x847003_32, .int .i64 x847004_32, .slice none 0 0]) ?_ 3 _ rfl; (with_reducible repeat (first | refine blk_drewN ?_ _ | refine blk_drew ?_ | refine blk_alloc ?_ _)); refine blk_put (cs := #[.int .i64 x848000_1, .string x848001_32, .string x847002_32, .int .i64 x847003_32, .int .i64 x847004_32, .slice none 0 0]) ?_ 2 _ rfl; (with_reducible repeat (first | refine blk_drewN ?_ _ | refine blk_drew ?_ | refine blk_alloc ?_ _)); refine blk_put (cs := #[.int .i64 x848000_1, .string x847001_32, .string x847002_32, .int .i64 x847003_32, .int .i64 x847004_32, .slice none 0 0]) ?_ 1 _ rfl; (with_reducible repeat (first | refine blk_drewN ?_ _ | refine blk_drew ?_ | refine blk_alloc ?_ _)); refine blk_put (cs := #[.int .i64 x847000_32, .string x847001_32, .string x847002_32, .int .i64 x847003_32, .int .i64 x847004_32, .slice none 0 0]) ?_ 0 _ rfl; (with_reducible repeat (first | refine blk_drewN ?_ _ | refine blk_drew ?_ | refine blk_alloc ?_ _)); exact BK846.out) Tryz.underlying49 rfl (by kernel_rfl)) rfl ?_
               exact ⟨_, by first | rfl | (simp [errW_none, errW_some] <;> rfl) | (simp [*, errW_none, errW_some] <;> rfl), by (with_reducible repeat (first | apply Kd.R_alloc | apply Kd.R_drewN | apply Kd.R_drew)); exact Kd.R_mono (Gtr.far6 (Kd.R_types HO891.out BK846.out (by decide)) (fun _ hk => hk.2)) (fun _ hk => hk.1), (Gtr.bw HB.out)⟩
              ·replace c105 := Bool.eq_false_iff.mpr c105
               subst c105
               have H1 : (some (0, (⟨#[]⟩ : ByteArray), (⟨#[]⟩ : ByteArray), 0, 0, ([] : List ByteArray), 4, false)) = some (r1, r2, r3, r4, r5, r6, r7, r8) := by rw [if_neg (show ¬ (false = true) by decide)] at H; exact H
               clear H
               have H := H1
               clear H1
               simp only [Option.some.injEq, Prod.mk.injEq] at H
               obtain ⟨rfl, rfl, rfl, rfl, rfl, rfl, rfl, rfl⟩ := H
               have hnb117 := NB847_846.out
               have hnc117 := NB846_847.out
               have hcz118_0 : wc.cell? ⟨gb847, 0, none⟩ = some (.int .i64 x848000_1) := (blk_cell BK847.out 0).trans rfl
               have hcz118_1 : wc.cell? ⟨gb847, 1, none⟩ = some (.string x848001_32) := (blk_cell BK847.out 1).trans rfl
               have hcz118_2 : wc.cell? ⟨gb847, 2, none⟩ = some (.string (⟨#[]⟩ : ByteArray)) := (blk_cell BK847.out 2).trans rfl
               have hcz118_3 : wc.cell? ⟨gb847, 3, none⟩ = some (.int .i64 0) := (blk_cell BK847.out 3).trans rfl
               have hcz118_4 : wc.cell? ⟨gb847, 4, none⟩ = some (.int .i64 0) := (blk_cell BK847.out 4).trans rfl
               have hcz118_5 : wc.cell? ⟨gb847, 5, none⟩ = some (.slice none 0 0) := (blk_cell BK847.out 5).trans rfl
               have hfz118_0 := blk_frozen BK847.out 0
               have hfz118_1 := blk_frozen BK847.out 1
               have hfz118_2 := blk_frozen BK847.out 2
               have hfz118_3 := blk_frozen BK847.out 3
               have hfz118_4 := blk_frozen BK847.out 4
               have hfz118_5 := blk_frozen BK847.out 5
               go_wp2_with (first | ((with_reducible refine gate_dst (N := 120) rfl ?_); (try (refine gate_guard (by rfl) ?_; dsimp only)); refine Kd.R_lit Kd.string _ 9 ?hg (N := 120) ?hd (xs := ([] : List ByteArray)) (inner := []) (ok := fun _ => True) (okp := fun _ => True) ?hr ?hp (fun _ hk => hk) trivial (Below.refl _ _) (Nat.le_refl _) (by simp) ?_; (case hd => rfl); (case hg => rfl); (case hr => first | (go_simp; done) | (go_simp; rfl)); (case hp => exact (Reps.none _ _)); intro v887 w119 ho120 hb hg_ hnew_; clear hg_ hnew_; (first | rw [← Ny886.out] at ho120 | (simp only [Int.reduceToNat] at ho120; rw [← Ny886.out] at ho120)); have n0_ := Aside0.mk (Kd.V_elder' (by (with_reducible repeat (first | apply Kd.V_alloc | apply Kd.V_drewN | apply Kd.V_drew)); exact HO_8.out) (Kd.R_base ho120) hb); have n1_ := Aside0.mk (Kd.R_lower (Kd.R_newM (M := fun k_ => (w.heap.size ≤ k_)) ho120 (below_size (Gtr.bw HB.out)) (fun k_ h_ => h_)) (below_size (Gtr.bw HB.out))); have n2_ := Aside0.mk (blk_below (g := gb846) (o := .cells #[.int .i64 x847000_32, .string x847001_32, .string x847002_32, .int .i64 x847003_32, .int .i64 x847004_32, .slice none 0 0] 49 (0, 0)) (by (with_reducible repeat (first | refine blk_drewN ?_ _ | refine blk_drew ?_ | refine blk_alloc ?_ _)); exact BK846.out) hb); have n3_ := Aside0.mk (blk_below (g := gb847) (o := .cells #[.int .i64 x848000_1, .string x848001_32, .string (⟨#[]⟩ : ByteArray), .int .i64 0, .int .i64 0, .slice none 0 0] 49 (0, 0)) (by (with_reducible repeat (first | refine blk_drewN ?_ _ | refine blk_drew ?_ | refine blk_alloc ?_ _)); exact BK847.out) hb); have n4_ := Aside0.mk (below_step (Gtr.bw HB.out) hb); clear HO_8; clear BK846; clear BK847; clear HB; have HO_8 := n0_; have HO888 := n1_; have BK846 := n2_; have BK847 := n3_; have HB := n4_; clear n0_ n1_ n2_ n3_ n4_; clear hb ho120; obtain ⟨Ao122, co122, eo122⟩ := Kd.V_slice HO_8.out; subst eo122) | ((with_reducible refine gate_builtin (b := .append) (xs := #[.tmp 120, .tmp 121]) rfl ?_); (try (refine gate_guard (by rfl) ?_; dsimp only)); at_builtin; refine Kd.R_append_rows Kd.string (w0 := w) w.heap.size rfl (.tmp 120) (.tmp 121) 46 9 (.string ⟨#[]⟩) 16 rfl Tryz.underlying46 info9 rfl (by decide) (by omega) v887 y886 x8_32 _ _ _ (fun k_ => (w.heap.size ≤ k_)) (fun _ => False) rfl rfl ?aO ?aR (fun _ _ h => h) (fun _ h => h.elim) ?aF ?aB ?aS ?aL ?_; (case aR => repeat (first | exact (Kd.V_reads' HO_8.out).2.2 | (with_reducible refine Kd.C_alloc ?_ _) | (with_reducible refine Kd.C_drewN ?_ _) | (with_reducible refine Kd.C_drew ?_))); (case aB => exact (Gtr.bw HB.out)); (case aF => exact (fun k_ hk => (Nat.le_trans (below_size (Gtr.bw HB.out)) hk))); (case aO => exact (by (with_reducible repeat (first | apply Kd.R_alloc | apply Kd.R_drewN | apply Kd.R_drew)); exact Kd.R_mono HO888.out (fun _ hk => hk.1))); (case aS => exact (below_size (Gtr.bw HB.out))); (case aL => have := LMc103.out; omega); intro v890 w121 ho hb hg hat; rw [← Ny889.out] at ho; have n0_ := Aside0.mk (Kd.V_afterv (ok := (fun k_ => (P0_ k_ ∨ w.heap.size ≤ k_) ∧ k_ ≠ gb846 ∧ k_ ≠ gb847)) (by (with_reducible repeat (first | apply Kd.V_alloc | apply Kd.V_drewN | apply Kd.V_drew)); exact HO_8.out) hg hat); have n1_ := Aside0.mk (blk_grown (g := gb846) (o := .cells #[.int .i64 x847000_32, .string x847001_32, .string x847002_32, .int .i64 x847003_32, .int .i64 x847004_32, .slice none 0 0] 49 (0, 0)) (by (with_reducible repeat (first | refine blk_drewN ?_ _ | refine blk_drew ?_ | refine blk_alloc ?_ _)); exact BK846.out) hg (Kd.R_ne HO888.out BK846.out (by decide))); have n2_ := Aside0.mk (blk_grown (g := gb847) (o := .cells #[.int .i64 x848000_1, .string x848001_32, .string (⟨#[]⟩ : ByteArray), .int .i64 0, .int .i64 0, .slice none 0 0] 49 (0, 0)) (by (with_reducible repeat (first | refine blk_drewN ?_ _ | refine blk_drew ?_ | refine blk_alloc ?_ _)); exact BK847.out) hg (Kd.R_ne HO888.out BK847.out (by decide))); have n3_ := Aside0.mk (hb); have n4_ := Aside0.mk (ho); clear HO_8; clear BK846; clear BK847; clear HB; clear HO888; have HO_8 := n0_; have BK846 := n1_; have BK847 := n2_; have HB := n3_; have HO891 := n4_; clear n0_ n1_ n2_ n3_ n4_; clear ho hb hg hat; obtain ⟨Ao123, co123, eo123⟩ := Kd.R_slice HO891.out; subst eo123; have hcz124_0 : w121.cell? ⟨gb847, 0, none⟩ = some (.int .i64 x848000_1) := (blk_cell BK847.out 0).trans rfl; have hcz124_1 : w121.cell? ⟨gb847, 1, none⟩ = some (.string x848001_32) := (blk_cell BK847.out 1).trans rfl; have hcz124_2 : w121.cell? ⟨gb847, 2, none⟩ = some (.string (⟨#[]⟩ : ByteArray)) := (blk_cell BK847.out 2).trans rfl; have hcz124_3 : w121.cell? ⟨gb847, 3, none⟩ = some (.int .i64 0) := (blk_cell BK847.out 3).trans rfl; have hcz124_4 : w121.cell? ⟨gb847, 4, none⟩ = some (.int .i64 0) := (blk_cell BK847.out 4).trans rfl; have hcz124_5 : w121.cell? ⟨gb847, 5, none⟩ = some (.slice none 0 0) := (blk_cell BK847.out 5).trans rfl; have hfz124_0 := blk_frozen BK847.out 0; have hfz124_1 := blk_frozen BK847.out 1; have hfz124_2 := blk_frozen BK847.out 2; have hfz124_3 := blk_frozen BK847.out 3; have hfz124_4 := blk_frozen BK847.out 4; have hfz124_5 := blk_frozen BK847.out 5) | ((with_reducible refine gate_callee (f := 43) rfl ?_); refine goesL_ (some 125) rfl rfl Tryz.func43 (by kernel_rfl) rfl #[.agg #[.int .i64 x848000_1, .string x848001_32, .string (⟨#[]⟩ : ByteArray), .int .i64 0, .int .i64 0, .slice Ao123 y889.length co123]] rfl (by (try simp only [List.map_toArray, List.map_cons, List.map_nil]); first | done | rfl | (simp only [List.length_drop, List.length_take]; rfl)) ?_; (with_reducible refine (spec_GoodJob.calls kj32 x848000_1 x848001_32 (⟨#[]⟩ : ByteArray) 0 0 _ _ y889 false _ ?side1 ?side2 A104.out).mono ?_); (case side1 => refine (Kd.R_reads' (e := 9) (base := w.heap.size) (ok := fun k_ => (w.heap.size ≤ k_)) (n := y889.length) (c := co123) ?_).2.2; exact (by (with_reducible repeat (first | apply Kd.R_alloc | apply Kd.R_drewN | apply Kd.R_drew)); exact (Kd.R_mono (Kd.R_far (p := ⟨gb847, 5, none⟩) (Kd.R_types HO891.out BK847.out (by decide)) (fun _ hk => hk.2) (.slice Ao123 y889.length co123)) (fun _ h_ => h_.1)))); (case side2 => exact (Kd.R_reads' HO891.out).2.1); rintro e w125 ⟨rfl, hb⟩; refine ⟨_, rfl, ?_⟩; have n0_ := Aside0.mk (Kd.V_below (by (with_reducible repeat (first | apply Kd.V_alloc | apply Kd.V_drewN | apply Kd.V_drew)); exact (Kd.V_mono (Kd.V_far (p := ⟨gb847, 5, none⟩) (Kd.V_mono HO_8.out (fun k_ hk => (⟨hk, hk.1.2.2⟩ : _ ∧ k_ ≠ gb847))) (fun _ hk => hk.2) (.slice Ao123 y889.length co123)) (fun _ h_ => h_.1))) hb); have n1_ := Aside0.mk (Kd.R_below (by (with_reducible repeat (first | apply Kd.R_alloc | apply Kd.R_drewN | apply Kd.R_drew)); exact (Kd.R_mono (Kd.R_far (p := ⟨gb847, 5, none⟩) (Kd.R_types HO891.out BK847.out (by decide)) (fun _ hk => hk.2) (.slice Ao123 y889.length co123)) (fun _ h_ => h_.1))) hb); have n2_ := Aside0.mk (blk_below (g := gb846) (o := .cells #[.int .i64 x847000_32, .string x847001_32, .string x847002_32, .int .i64 x847003_32, .int .i64 x847004_32, .slice none 0 0] 49 (0, 0)) (by (with_reducible repeat (first | refine blk_drewN ?_ _ | refine blk_drew ?_ | refine blk_alloc ?_ _)); refine blk_far ?_ NB846_847.out _; (with_reducible repeat (first | refine blk_drewN ?_ _ | refine blk_drew ?_ | refine blk_alloc ?_ _)); exact BK846.out) hb); have n3_ := Aside0.mk (blk_below (g := gb847) (o := .cells #[.int .i64 x848000_1, .string x848001_32, .string (⟨#[]⟩ : ByteArray), .int .i64 0, .int .i64 0, .slice Ao123 y889.length co123] 49 (0, 0)) (by (with_reducible repeat (first | refine blk_drewN ?_ _ | refine blk_drew ?_ | refine blk_alloc ?_ _)); refine blk_put (cs := #[.int .i64 x848000_1, .string x848001_32, .string (⟨#[]⟩ : ByteArray), .int .i64 0, .int .i64 0, .slice none 0 0]) ?_ 5 _ rfl; (with_reducible repeat (first | refine blk_drewN ?_ _ | refine blk_drew ?_ | refine blk_alloc ?_ _)); exact BK847.out) hb); have n4_ := Aside0.mk (below_step (Gtr.bw HB.out) hb); clear HO_8; clear HO891; clear BK846; clear BK847; clear HB; have HO_8 := n0_; have HO891 := n1_; have BK846 := n2_; have BK847 := n3_; have HB := n4_; clear n0_ n1_ n2_ n3_ n4_; (try clear hb); (try clear hb2); (try clear hk); (try clear hi); have hcz126_0 : w125.cell? ⟨gb846, 0, none⟩ = some (.int .i64 x847000_32) := (blk_cell BK846.out 0).trans rfl; have hcz126_1 : w125.cell? ⟨gb846, 1, none⟩ = some (.string x847001_32) := (blk_cell BK846.out 1).trans rfl; have hcz126_2 : w125.cell? ⟨gb846, 2, none⟩ = some (.string x847002_32) := (blk_cell BK846.out 2).trans rfl; have hcz126_3 : w125.cell? ⟨gb846, 3, none⟩ = some (.int .i64 x847003_32) := (blk_cell BK846.out 3).trans rfl; have hcz126_4 : w125.cell? ⟨gb846, 4, none⟩ = some (.int .i64 x847004_32) := (blk_cell BK846.out 4).trans rfl; have hcz126_5 : w125.cell? ⟨gb846, 5, none⟩ = some (.slice none 0 0) := (blk_cell BK846.out 5).trans rfl; have hfz126_0 := blk_frozen BK846.out 0; have hfz126_1 := blk_frozen BK846.out 1; have hfz126_2 := blk_frozen BK846.out 2; have hfz126_3 := blk_frozen BK846.out 3; have hfz126_4 := blk_frozen BK846.out 4; have hfz126_5 := blk_frozen BK846.out 5))
               refine bodyPost_ret (results_ctt rfl _ _ gb846 49 #[.int .i64 0, .string (⟨#[]⟩ : ByteArray), .string (⟨#[]⟩ : ByteArray), .int .i64 0, .int .i64 0, .slice none 0 0] (0, 0) _ rfl (by (with_reducible repeat (first | refine blk_drewN ?_ _ | refine blk_drew ?_ | refine blk_alloc ?_ _)); refine blk_put (cs := #[.int .i64 0, .string (⟨#[]⟩ : ByteArray), .string (⟨#[]⟩ : ByteArray), .int .i64 0, .int .i64 0, .slice none 0 0]) ?_ 5 _ rfl; (with_reducible repeat (first | refine blk_drewN ?_ _ | refine blk_drew ?_ | refine blk_alloc ?_ _)); refine blk_put (cs := #[.int .i64 0, .string (⟨#[]⟩ : ByteArray), .string (⟨#[]⟩ : ByteArray), .int .i64 0, .int .i64 x847004_32, .slice none 0 0]) ?_ 4 _ rfl; (with_reducible repeat (first | refine blk_drewN ?_ _ | refine blk_drew ?_ | refine blk_alloc ?_ _)); refine blk_put (cs := #[.int .i64 0, .string (⟨#[]⟩ : ByteArray), .string (⟨#[]⟩ : ByteArray), .int .i64 x847003_32, .int .i64 x847004_32, .slice none 0 0]) ?_ 3 _ rfl; (with_reducible repeat (first | refine blk_drewN ?_ _ | refine blk_drew ?_ | refine blk_alloc ?_ _)); refine blk_put (cs := #[.int .i64 0, .string (⟨#[]⟩ : ByteArray), .string x847002_32, .int .i64 x847003_32, .int .i64 x847004_32, .slice none 0 0]) ?_ 2 _ rfl; (with_reducible repeat (first | refine blk_drewN ?_ _ | refine blk_drew ?_ | refine blk_alloc ?_ _)); refine blk_put (cs := #[.int .i64 0, .string x847001_32, .string x847002_32, .int .i64 x847003_32, .int .i64 x847004_32, .slice none 0 0]) ?_ 1 _ rfl; (with_reducible repeat (first | refine blk_drewN ?_ _ | refine blk_drew ?_ | refine blk_alloc ?_ _)); refine blk_put (cs := #[.int .i64 x847000_32, .string x847001_32, .string x847002_32, .int .i64 x847003_32, .int .i64 x847004_32, .slice none 0 0]) ?_ 0 _ rfl; (with_reducible repeat (first | refine blk_drewN ?_ _ | refine blk_drew ?_ | refine blk_alloc ?_ _)); exact BK846.out) Tryz.underlying49 rfl (by kernel_rfl)) rfl ?_
               exact ⟨_, by first | rfl | (simp [errW_none, errW_some] <;> rfl) | (simp [*, errW_none, errW_some] <;> rfl), by first | exact Kd.R_nil _ _ _ _ _ | exact Kd.N_nil _ _ _ _ _ | exact Kd.V_nil _ _ _ _ _ | exact Kd.Q_nil _ _ _ _ _ | exact Kd.S_nil _ _ _ _ _, (Gtr.bw HB.out)⟩
             ·rw [if_neg c103] at H
              exact absurd H (by simp)
       ·rw [if_neg c25] at H
        exact absurd H (by simp)
end Go.Proofs.YtibfocaldcjiiaaGreatDoor.Q
