/- Texts of this claim, merged by a program (wip/tools/merge.py): HOwner, HOwnerText, Q131. -/
import Derived.Test.YtibfocaldcjiiaaDoorK1
import Derived.Test.YtibfocaldcjiiaaDoorK18
import Derived.Test.YtibfocaldcjiiaaDoorK20
import Derived.Test.YtibfocaldcjiiaaDoorK22
import Derived.Test.YtibfocaldcjiiaaDoorK4
namespace Go.Proofs.YtibfocaldcjiiaaDoor.Q
open Go.RowKit Go.Proofs.YtibfocaldcjiiaaDoorW.PrintWords Go.Proofs.YtibfocaldcjiiaaDoorW.PrintLast Go.Proofs.YtibfocaldcjiiaaDoorW.PrintMore
attribute [local go_sem] max2_int min2_int max_two min_two max_three min_three max_four min_four   -- for this text's walks alone
set_option linter.unusedVariables false
set_option linter.unusedSimpArgs false
def digB (n : Int) : ByteArray := ⟨(Lib.decDigits n.toNat).toArray⟩
def ownB (u g : Int) : ByteArray :=
  if g = -1 then (if u = -1 then ⟨#[]⟩ else digB u) else (if u = -1 then ⟨#[]⟩ else digB u) ++ ((⟨#[58]⟩ : ByteArray) ++ digB g)
theorem itoa_small (n : Int) (h0 : 0 ≤ n) (h1 : n ≤ 99) (w : World) : Calls Tryd.prog 72 #[.int .i64 n] w fun e w' => e = .returned (.string (digB n)) ∧ w' = w := by
  obtain ⟨i, rfl⟩ : ∃ i : Nat, n = i := ⟨n.toNat, by omega⟩
  unfold digB
  rw [Int.toNat_natCast]
  exact Any.strconv_Itoa_small Tryd.lays171 i (by omega) w
theorem dec_len : ∀ i : Fin 100, 1 ≤ (Lib.decDigits i.val).length ∧ (Lib.decDigits i.val).length ≤ 2 := by decide +kernel
theorem digB_size (n : Int) (h0 : 0 ≤ n) (h1 : n ≤ 99) : 1 ≤ (digB n).size ∧ (digB n).size ≤ 2 := by
  have := dec_len ⟨n.toNat, by omega⟩
  have e : (digB n).size = (Lib.decDigits n.toNat).length := by rw [← data_length]; simp [digB]
  rw [e]; exact this
set_option maxHeartbeats 2000000 in
set_option maxRecDepth 100000 in
theorem ownerText_walk (u g : Int) (hu : -1 ≤ u ∧ u ≤ 99) (hg : -1 ≤ g ∧ g ≤ 99) (w : World) :
    Calls Tryd.prog 42 #[.int .i64 u, .int .i64 g] w fun e w' => e = .returned (.string (ownB u g)) ∧ Drawn0 w w' := by
  have HU := Aside0.mk (fun (h : 0 ≤ u) (W : World) => itoa_small u h hu.2 W)
  have HG := Aside0.mk (fun (h : 0 ≤ g) (W : World) => itoa_small g h hg.2 W)
  unfold ownB
  by_cases h1 : u = -1
  · by_cases h2 : g = -1
    · rw [if_pos h1, if_pos h2]
      clear HU HG hu hg
      subst h1
      subst h2
      go_enter Tryd.func42, Tryd.ntmps42
      go_wp2
      go_ret
      exact ⟨rfl, by repeat (first | exact Drawn0.refl _ | apply Drawn0.step)⟩
    · rw [if_pos h1, if_neg h2]
      have HG' := Aside0.mk (HG.out (by omega))
      have b2 : (g != -1) = true := by simpa using h2
      have b3 : (g == -1) = false := by simpa using h2
      have hx := digB_size g (by omega) hg.2
      clear HU HG hu hg
      subst h1
      generalize digB g = x at HG' hx ⊢
      go_enter Tryd.func42, Tryd.ntmps42
      go_wp2_with fail
      refine (HG'.out _).mono ?_; rintro e w1 ⟨rfl, rfl⟩
      go_wp2
      go_ret
      exact ⟨by first | rfl | (simp; done), by repeat (first | exact Drawn0.refl _ | apply Drawn0.step)⟩
  · have HU' := Aside0.mk (HU.out (by omega))
    have c2 : (u != -1) = true := by simpa using h1
    have c3 : (u == -1) = false := by simpa using h1
    have hy := digB_size u (by omega) hu.2
    by_cases h2 : g = -1
    · rw [if_neg h1, if_pos h2]
      clear HU HG hu hg
      subst h2
      generalize digB u = y at HU' hy ⊢
      go_enter Tryd.func42, Tryd.ntmps42
      go_wp2_with fail
      refine (HU'.out _).mono ?_; rintro e w1 ⟨rfl, rfl⟩
      go_wp2
      go_ret
      exact ⟨by first | rfl | (simp; done), by repeat (first | exact Drawn0.refl _ | apply Drawn0.step)⟩
    · rw [if_neg h1, if_neg h2]
      have HG' := Aside0.mk (HG.out (by omega))
      have b2 : (g != -1) = true := by simpa using h2
      have b3 : (g == -1) = false := by simpa using h2
      have hx := digB_size g (by omega) hg.2
      clear HU HG hu hg
      generalize digB u = y at HU' hy ⊢
      generalize digB g = x at HG' hx ⊢
      have hxy : ((⟨#[58]⟩ : ByteArray) ++ x).size = 1 + x.size := by rw [ByteArray.size_append]; rfl
      go_enter Tryd.func42, Tryd.ntmps42
      go_wp2_with fail
      refine (HU'.out _).mono ?_; rintro e w1 ⟨rfl, rfl⟩
      go_wp2_with fail
      refine (HG'.out _).mono ?_; rintro e w1 ⟨rfl, rfl⟩
      go_wp2
      go_ret
      exact ⟨by first | rfl | (simp; done), by repeat (first | exact Drawn0.refl _ | apply Drawn0.step)⟩
end Go.Proofs.YtibfocaldcjiiaaDoor.Q
namespace Go.Proofs.YtibfocaldcjiiaaDoor.Q
open Go.RowKit Go.Proofs.YtibfocaldcjiiaaDoorW.PrintWords Go.Proofs.YtibfocaldcjiiaaDoorW.PrintLast Go.Proofs.YtibfocaldcjiiaaDoorW.PrintMore
attribute [local go_sem] max2_int min2_int max_two min_two max_three min_three max_four min_four   -- for this text's walks alone
set_option linter.unusedVariables false
set_option linter.unusedSimpArgs false
def impl_ownerText.f (u g : Int) : Option ByteArray := if (-1 ≤ u ∧ u ≤ 99) ∧ (-1 ≤ g ∧ g ≤ 99) then some (ownB u g) else none
theorem impl_ownerText.calls (a0 a1 : Int) (r : ByteArray) (w : World) (h : impl_ownerText.f a0 a1 = some r) :
    Calls Tryd.prog 42 #[.int .i64 a0, .int .i64 a1] w fun e w' => e = .returned (.string r) ∧ Drawn0 w w' := by
  unfold impl_ownerText.f at h
  split at h
  case isFalse => cases h
  rename_i hc
  injection h with h
  subst h
  exact ownerText_walk a0 a1 hc.1 hc.2 w
end Go.Proofs.YtibfocaldcjiiaaDoor.Q
namespace Go.Proofs.YtibfocaldcjiiaaDoor.Q
open Go.RowKit Go.Proofs.YtibfocaldcjiiaaDoorW.PrintWords Go.Proofs.YtibfocaldcjiiaaDoorW.PrintLast Go.Proofs.YtibfocaldcjiiaaDoorW.PrintMore
attribute [local go_sem] max2_int min2_int max_two min_two max_three min_three max_four min_four   -- for this text's walks alone
set_option linter.unusedVariables false
set_option linter.unusedSimpArgs false
def impl_JobWords.j0 : Nat → List ByteArray → Int → ByteArray → ByteArray → Int → Int → List ByteArray → Option (List ByteArray × Bool)
  | 0, _, _, _, _, _, _, _ => none
  | k + 1, x4, x511000, x511001, x511002, x511003, x511004, x511005 => if x511000 = 4 then ((impl_ownerText.f x511003 x511004).bind fun t519 => (if x4.length < 8796093022208 then ((some (x4 ++ [t519] : List ByteArray)).bind fun y520 => (if y520.length + x511005.length < 8796093022208 then (some ((y520 ++ x511005), true)) else (none))) else (none))) else (if x511000 = 5 then (if x4.length < 8796093022208 then ((some (x4 ++ [x511002] : List ByteArray)).bind fun y526 => (if y526.length + x511005.length < 8796093022208 then (some ((y526 ++ x511005), true)) else (none))) else (none)) else (if x511000 = 6 then (if x4.length < 8796093022208 then ((some (x4 ++ [x511002] : List ByteArray)).bind fun y532 => (if y532.length + x511005.length < 8796093022208 then (some ((y532 ++ x511005), true)) else (none))) else (none)) else (if x4.length + x511005.length < 8796093022208 then (some ((x4 ++ x511005), true)) else (none))))
def impl_JobWords.f (k : Nat) (a0_0 : Int) (a0_1 : ByteArray) (a0_2 : ByteArray) (a0_3 : Int) (a0_4 : Int) (l0_5 : List ByteArray) : Option (List ByteArray × Bool) := (impl_GoodJob.f k a0_0 a0_1 a0_2 a0_3 a0_4 l0_5).bind fun t511 => (if t511 = true then ((impl_jobWord.f a0_0).bind fun t512 => ((some (([t512] : List ByteArray) : List ByteArray)).bind fun y513 => (if a0_1.toList = ([] : List UInt8) then (impl_JobWords.j0 k y513 a0_0 a0_1 a0_2 a0_3 a0_4 l0_5) else (if 1 + a0_1.size ≤ 9223372036854775807 then (if y513.length < 8796093022208 then (impl_JobWords.j0 k (y513 ++ [(⟨#[45]⟩ : ByteArray) ++ a0_1]) a0_0 a0_1 a0_2 a0_3 a0_4 l0_5) else (none)) else (none))))) else (some (([] : List ByteArray), false)))
set_option maxHeartbeats 8000000 in
set_option maxRecDepth 100000 in
theorem impl_JobWords.calls (k : Nat) (a0_0 : Int) (a0_1 : ByteArray) (a0_2 : ByteArray) (a0_3 : Int) (a0_4 : Int) (A0_5 : Option Addr) (c0_5 : Nat) (l0_5 : List ByteArray) (r1 : List ByteArray) (r2 : Bool) (w : World) (hr0_5 : Kd.C Kd.string w A0_5 l0_5.length l0_5) (hc0_5 : l0_5.length ≤ c0_5) (h : impl_JobWords.f k a0_0 a0_1 a0_2 a0_3 a0_4 l0_5 = some (r1, r2)) :
    Calls Tryd.prog 23 #[.agg #[.int .i64 a0_0, .string a0_1, .string a0_2, .int .i64 a0_3, .int .i64 a0_4, .slice A0_5 l0_5.length c0_5]] w fun e w' => ∃ v0_ : Value, e = .returned (.tuple #[v0_, .bool r2]) ∧ Kd.R Kd.string 9 w' w.heap.size (fun _ => True) v0_ r1 ∧ Below w.heap.size w w' := by
  have hu38 := Tryd.underlying38
  have HR0_5 := Aside0.mk hr0_5
  have HC0_5 := Aside0.mk hc0_5
  clear hr0_5 hc0_5
  have HB := Aside0.mk (Below.refl w.heap.size w)
  have H : ((impl_GoodJob.f k a0_0 a0_1 a0_2 a0_3 a0_4 l0_5).bind fun t511 => (if t511 = true then ((impl_jobWord.f a0_0).bind fun t512 => ((some (([t512] : List ByteArray) : List ByteArray)).bind fun y513 => (if a0_1.toList = ([] : List UInt8) then (impl_JobWords.j0 k y513 a0_0 a0_1 a0_2 a0_3 a0_4 l0_5) else (if 1 + a0_1.size ≤ 9223372036854775807 then (if y513.length < 8796093022208 then (impl_JobWords.j0 k (y513 ++ [(⟨#[45]⟩ : ByteArray) ++ a0_1]) a0_0 a0_1 a0_2 a0_3 a0_4 l0_5) else (none)) else (none))))) else (some (([] : List ByteArray), false)))) = some (r1, r2) := h
  clear h
  replace H := Option.bind_eq_some_iff.mp H
  obtain ⟨t511, A20, H⟩ := H
  replace H : (if t511 = true then ((impl_jobWord.f a0_0).bind fun t512 => ((some (([t512] : List ByteArray) : List ByteArray)).bind fun y513 => (if a0_1.toList = ([] : List UInt8) then (impl_JobWords.j0 k y513 a0_0 a0_1 a0_2 a0_3 a0_4 l0_5) else (if 1 + a0_1.size ≤ 9223372036854775807 then (if y513.length < 8796093022208 then (impl_JobWords.j0 k (y513 ++ [(⟨#[45]⟩ : ByteArray) ++ a0_1]) a0_0 a0_1 a0_2 a0_3 a0_4 l0_5) else (none)) else (none))))) else (some (([] : List ByteArray), false))) = some (r1, r2) := H
  have A2 := Aside0.mk A20
  clear A20
  by_cases c3 : t511 = true
  · subst c3
    have H1 : ((impl_jobWord.f a0_0).bind fun t512 => ((some (([t512] : List ByteArray) : List ByteArray)).bind fun y513 => (if a0_1.toList = ([] : List UInt8) then (impl_JobWords.j0 k y513 a0_0 a0_1 a0_2 a0_3 a0_4 l0_5) else (if 1 + a0_1.size ≤ 9223372036854775807 then (if y513.length < 8796093022208 then (impl_JobWords.j0 k (y513 ++ [(⟨#[45]⟩ : ByteArray) ++ a0_1]) a0_0 a0_1 a0_2 a0_3 a0_4 l0_5) else (none)) else (none))))) = some (r1, r2) := by rw [if_pos rfl] at H; exact H
    clear H
    have H := H1
    clear H1
    replace H := Option.bind_eq_some_iff.mp H
    obtain ⟨t512, A40, H⟩ := H
    replace H : ((some (([t512] : List ByteArray) : List ByteArray)).bind fun y513 => (if a0_1.toList = ([] : List UInt8) then (impl_JobWords.j0 k y513 a0_0 a0_1 a0_2 a0_3 a0_4 l0_5) else (if 1 + a0_1.size ≤ 9223372036854775807 then (if y513.length < 8796093022208 then (impl_JobWords.j0 k (y513 ++ [(⟨#[45]⟩ : ByteArray) ++ a0_1]) a0_0 a0_1 a0_2 a0_3 a0_4 l0_5) else (none)) else (none)))) = some (r1, r2) := H
    have A4 := Aside0.mk A40
    clear A40
    obtain ⟨y513, hy513⟩ : ∃ y_ : List ByteArray, y_ = (([t512] : List ByteArray)) := ⟨_, rfl⟩
    replace H : (if a0_1.toList = ([] : List UInt8) then (impl_JobWords.j0 k y513 a0_0 a0_1 a0_2 a0_3 a0_4 l0_5) else (if 1 + a0_1.size ≤ 9223372036854775807 then (if y513.length < 8796093022208 then (impl_JobWords.j0 k (y513 ++ [(⟨#[45]⟩ : ByteArray) ++ a0_1]) a0_0 a0_1 a0_2 a0_3 a0_4 l0_5) else (none)) else (none))) = some (r1, r2) := by first | (rw [hy513]; with_reducible exact H) | (have H2_ := (Option.bind_some _ _).symm.trans H; rw [hy513]; with_reducible exact H2_) | (have H2_ := (Option.bind_some _ _).symm.trans H; with_reducible exact H2_) | with_reducible exact H | (rw [hy513]; exact H) | exact H
    have Ny513 := Aside0.mk hy513
    clear hy513
    have HC5 := Aside0.mk H
    clear H
    go_enter Tryd.func23, Tryd.ntmps23
    go_upto_if 14 with (first | ((with_reducible refine gate_dst (N := 1) rfl ?_); refine box_event ?hg (N := 1) ?hd (cs := #[.int .i64 a0_0, .string a0_1, .string a0_2, .int .i64 a0_3, .int .i64 a0_4, .slice A0_5 l0_5.length c0_5]) (t := 38) ?hr ?_; (case hd => rfl); (case hg => rfl); (case hr => first | (go_simp; done) | (go_simp; rfl)); intro gb510 hg w6 hbox hb; have n0_ := Aside0.mk (below_step (by repeat (first | (with_reducible first | exact HB.out | apply below_alloc | apply pw_below_drewN | apply below_drew1) | exact HB.out)) hb); have n1_ := Aside0.mk (hbox); have n2_ := Aside0.mk ((by rw [hg]; exact (below_size (by repeat (first | (with_reducible first | exact HB.out | apply below_alloc | apply pw_below_drewN | apply below_drew1) | exact HB.out))) : w.heap.size ≤ gb510)); have n3_ := Aside0.mk ((by rw [hg]; exact (below_size (by repeat (first | (with_reducible first | exact HB.out | apply below_alloc | apply pw_below_drewN | apply below_drew1) | exact HB.out))) : w.heap.size ≤ gb510)); clear HB; have HB := n0_; have BK510 := n1_; have GW510 := n2_; have GE510 := n3_; clear n0_ n1_ n2_ n3_; clear hb hbox hg; have hcz7_0 : w6.cell? ⟨gb510, 0, none⟩ = some (.int .i64 a0_0) := (blk_cell BK510.out 0).trans rfl; have hcz7_1 : w6.cell? ⟨gb510, 1, none⟩ = some (.string a0_1) := (blk_cell BK510.out 1).trans rfl; have hcz7_2 : w6.cell? ⟨gb510, 2, none⟩ = some (.string a0_2) := (blk_cell BK510.out 2).trans rfl; have hcz7_3 : w6.cell? ⟨gb510, 3, none⟩ = some (.int .i64 a0_3) := (blk_cell BK510.out 3).trans rfl; have hcz7_4 : w6.cell? ⟨gb510, 4, none⟩ = some (.int .i64 a0_4) := (blk_cell BK510.out 4).trans rfl; have hcz7_5 : w6.cell? ⟨gb510, 5, none⟩ = some (.slice A0_5 l0_5.length c0_5) := (blk_cell BK510.out 5).trans rfl; have hfz7_0 := blk_frozen BK510.out 0; have hfz7_1 := blk_frozen BK510.out 1; have hfz7_2 := blk_frozen BK510.out 2; have hfz7_3 := blk_frozen BK510.out 3; have hfz7_4 := blk_frozen BK510.out 4; have hfz7_5 := blk_frozen BK510.out 5) | ((with_reducible refine gate_callee (f := 20) rfl ?_); refine goesL_ (some 6) rfl rfl Tryd.func20 (by kernel_rfl) rfl #[.agg #[.int .i64 a0_0, .string a0_1, .string a0_2, .int .i64 a0_3, .int .i64 a0_4, .slice A0_5 l0_5.length c0_5]] rfl (by (try simp only [List.map_toArray, List.map_cons, List.map_nil]); first | done | rfl | (simp only [List.length_drop, List.length_take]; rfl)) ?_; (with_reducible refine (impl_GoodJob.calls k a0_0 a0_1 a0_2 a0_3 a0_4 _ _ l0_5 true _ ?side1 ?side2 A2.out).mono ?_); (case side1 => repeat (first | exact (Kd.C_below HR0_5.out HB.out) | (with_reducible refine Kd.C_alloc ?_ _) | (with_reducible refine Kd.C_drewN ?_ _) | (with_reducible refine Kd.C_drew ?_))); (case side2 => exact HC0_5.out); rintro e w8 ⟨rfl, hb⟩; refine ⟨_, rfl, ?_⟩; have n0_ := Aside0.mk (blk_below (g := gb510) (o := .cells #[.int .i64 a0_0, .string a0_1, .string a0_2, .int .i64 a0_3, .int .i64 a0_4, .slice A0_5 l0_5.length c0_5] 38 (0, 0)) (by (with_reducible repeat (first | refine blk_drewN ?_ _ | refine blk_drew ?_ | refine blk_alloc ?_ _)); exact BK510.out) hb); have n1_ := Aside0.mk (below_step (by repeat (first | (with_reducible first | exact HB.out | apply below_alloc | apply pw_below_drewN | apply below_drew1 | refine below_set ?_ GE510.out) | exact HB.out)) hb); clear BK510; clear HB; have BK510 := n0_; have HB := n1_; clear n0_ n1_; (try clear hb); (try clear hb2); (try clear hk); (try clear hi); have hcz9_0 : w8.cell? ⟨gb510, 0, none⟩ = some (.int .i64 a0_0) := (blk_cell BK510.out 0).trans rfl; have hcz9_1 : w8.cell? ⟨gb510, 1, none⟩ = some (.string a0_1) := (blk_cell BK510.out 1).trans rfl; have hcz9_2 : w8.cell? ⟨gb510, 2, none⟩ = some (.string a0_2) := (blk_cell BK510.out 2).trans rfl; have hcz9_3 : w8.cell? ⟨gb510, 3, none⟩ = some (.int .i64 a0_3) := (blk_cell BK510.out 3).trans rfl; have hcz9_4 : w8.cell? ⟨gb510, 4, none⟩ = some (.int .i64 a0_4) := (blk_cell BK510.out 4).trans rfl; have hcz9_5 : w8.cell? ⟨gb510, 5, none⟩ = some (.slice A0_5 l0_5.length c0_5) := (blk_cell BK510.out 5).trans rfl; have hfz9_0 := blk_frozen BK510.out 0; have hfz9_1 := blk_frozen BK510.out 1; have hfz9_2 := blk_frozen BK510.out 2; have hfz9_3 := blk_frozen BK510.out 3; have hfz9_4 := blk_frozen BK510.out 4; have hfz9_5 := blk_frozen BK510.out 5) | ((with_reducible refine gate_callee (f := 57) rfl ?_); refine goesL_ (some 10) rfl rfl Tryd.func57 (by kernel_rfl) rfl #[.int .i64 a0_0] rfl (by (try simp only [List.map_toArray, List.map_cons, List.map_nil]); first | done | rfl | (simp only [List.length_drop, List.length_take]; rfl)) ?_; (with_reducible refine (impl_jobWord.calls a0_0 t512 _ A4.out).mono ?_); rintro e w10 ⟨rfl, hb⟩; refine ⟨_, rfl, ?_⟩; have n0_ := Aside0.mk (blk_below (g := gb510) (o := .cells #[.int .i64 a0_0, .string a0_1, .string a0_2, .int .i64 a0_3, .int .i64 a0_4, .slice A0_5 l0_5.length c0_5] 38 (0, 0)) (by (with_reducible repeat (first | refine blk_drewN ?_ _ | refine blk_drew ?_ | refine blk_alloc ?_ _)); exact BK510.out) hb); have n1_ := Aside0.mk (below_step (by repeat (first | (with_reducible first | exact HB.out | apply below_alloc | apply pw_below_drewN | apply below_drew1 | refine below_set ?_ GE510.out) | exact HB.out)) hb); clear BK510; clear HB; have BK510 := n0_; have HB := n1_; clear n0_ n1_; (try clear hb); (try clear hb2); (try clear hk); (try clear hi)) | ((with_reducible refine gate_dst (N := 11) rfl ?_); refine Kd.R_lit Kd.string _ 9 ?hg (N := 11) ?hd (xs := ([t512] : List ByteArray)) (inner := [.string t512]) (ok := fun _ => True) (okp := fun _ => True) ?hr ?hp (fun _ hk => hk) trivial (Below.refl _ _) (Nat.le_refl _) (by simp) ?_; (case hd => rfl); (case hg => rfl); (case hr => first | (go_simp; done) | (go_simp; rfl)); (case hp => exact (Reps.one (show Kd.M Kd.string _ _ _ t512 [.string t512] from rfl) (Reps.none _ _))); intro v514 w11 ho12 hb hg_ hnew_; clear hg_ hnew_; (first | rw [← Ny513.out] at ho12 | (simp only [Int.reduceToNat] at ho12; rw [← Ny513.out] at ho12)); have n0_ := Aside0.mk (Kd.R_lower ho12 (below_size (by repeat (first | (with_reducible first | exact HB.out | apply below_alloc | apply pw_below_drewN | apply below_drew1 | refine below_set ?_ GE510.out) | exact HB.out)))); have n1_ := Aside0.mk (blk_below (g := gb510) (o := .cells #[.int .i64 a0_0, .string a0_1, .string a0_2, .int .i64 a0_3, .int .i64 a0_4, .slice A0_5 l0_5.length c0_5] 38 (0, 0)) (by (with_reducible repeat (first | refine blk_drewN ?_ _ | refine blk_drew ?_ | refine blk_alloc ?_ _)); exact BK510.out) hb); have n2_ := Aside0.mk (below_step (by repeat (first | (with_reducible first | exact HB.out | apply below_alloc | apply pw_below_drewN | apply below_drew1 | refine below_set ?_ GE510.out) | exact HB.out)) hb); clear BK510; clear HB; have HO515 := n0_; have BK510 := n1_; have HB := n2_; clear n0_ n1_ n2_; clear hb ho12; have hcz13_0 : w11.cell? ⟨gb510, 0, none⟩ = some (.int .i64 a0_0) := (blk_cell BK510.out 0).trans rfl; have hcz13_1 : w11.cell? ⟨gb510, 1, none⟩ = some (.string a0_1) := (blk_cell BK510.out 1).trans rfl; have hcz13_2 : w11.cell? ⟨gb510, 2, none⟩ = some (.string a0_2) := (blk_cell BK510.out 2).trans rfl; have hcz13_3 : w11.cell? ⟨gb510, 3, none⟩ = some (.int .i64 a0_3) := (blk_cell BK510.out 3).trans rfl; have hcz13_4 : w11.cell? ⟨gb510, 4, none⟩ = some (.int .i64 a0_4) := (blk_cell BK510.out 4).trans rfl; have hcz13_5 : w11.cell? ⟨gb510, 5, none⟩ = some (.slice A0_5 l0_5.length c0_5) := (blk_cell BK510.out 5).trans rfl; have hfz13_0 := blk_frozen BK510.out 0; have hfz13_1 := blk_frozen BK510.out 1; have hfz13_2 := blk_frozen BK510.out 2; have hfz13_3 := blk_frozen BK510.out 3; have hfz13_4 := blk_frozen BK510.out 4; have hfz13_5 := blk_frozen BK510.out 5))
    (try simp only [Act.put, List.setIfInBounds_toArray, List.set_cons_zero, List.set_cons_succ])
    go_cut [4] (fun v4 wc => ∃ (kq : Nat) (x4_4 : List ByteArray), Aside0 (impl_JobWords.j0 kq x4_4 a0_0 a0_1 a0_2 a0_3 a0_4 l0_5 = some (r1, r2)) ∧ Aside0 (kq ≤ k) ∧ Aside0 (Kd.R Kd.string 9 wc w.heap.size (fun _ => True) v4 x4_4) ∧ Aside0 (wc.heap[gb510]? = some (.cells #[.int .i64 a0_0, .string a0_1, .string a0_2, .int .i64 a0_3, .int .i64 a0_4, (.slice A0_5 l0_5.length c0_5)] 38 (0, 0))) ∧ Aside0 (Below w.heap.size w wc))
    case first =>
      have H := HC5.out
      clear HC5
      by_cases c14 : a0_1.toList = ([] : List UInt8)
      · rw [if_pos c14] at H
        have c14b0 : (a0_1.toList == ([] : List UInt8)) = true := beq_iff_eq.mpr c14
        have c14b1 : (a0_1.toList != ([] : List UInt8)) = false := bne_eq_false_iff_eq.mpr c14
        have c14b3 : a0_1.toList.isEmpty = true := List.isEmpty_iff.mpr (bne_eq_false_iff_eq.mp c14b1)
        clear c14
        (first | rw [c14b0] | rw [c14b3] | (simp only [i64_w, i32_w]; rw [c14b0]) | skip)
        have H' := Aside0.mk H
        clear H
        go_wp2
        go_meet
        case rel => exact ⟨_, (y513), H', ⟨by first | omega | exact Nat.le_refl _⟩, ⟨by (with_reducible repeat (first | apply Kd.R_alloc | apply Kd.R_drewN | apply Kd.R_drew)); exact HO515.out⟩, ⟨by (with_reducible repeat (first | refine blk_drewN ?_ _ | refine blk_drew ?_ | refine blk_alloc ?_ _)); exact BK510.out⟩, ⟨by repeat (first | (with_reducible first | exact HB.out | apply below_alloc | apply pw_below_drewN | apply below_drew1 | refine below_set ?_ GE510.out) | exact HB.out)⟩⟩
      · rw [if_neg c14] at H
        have c14b0 : (a0_1.toList == ([] : List UInt8)) = false := beq_eq_false_iff_ne.mpr c14
        have c14b1 : (a0_1.toList != ([] : List UInt8)) = true := bne_iff_ne.mpr c14
        have c14b3 : a0_1.toList.isEmpty = false := List.isEmpty_eq_false_iff.mpr (bne_iff_ne.mp c14b1)
        (first | rw [c14b0] | rw [c14b3] | (simp only [i64_w, i32_w]; rw [c14b0]) | skip)
        by_cases c15 : 1 + a0_1.size ≤ 9223372036854775807
        · rw [if_pos c15] at H
          have c15b0 := eq_true c15
          have c15b1 : decide (1 + a0_1.size ≤ 9223372036854775807) = true := decide_eq_true c15
          try have c15b2 : (9223372036854775807 < 1 + a0_1.size) = False := eq_false (Nat.not_lt.2 c15)
          by_cases c16 : y513.length < 8796093022208
          · rw [if_pos c16] at H
            have LMc16 := Aside0.mk c16
            clear c16
            obtain ⟨y516, hy516⟩ : ∃ y_ : List ByteArray, y_ = (y513 ++ [(⟨#[45]⟩ : ByteArray) ++ a0_1]) := ⟨_, rfl⟩
            replace H : (impl_JobWords.j0 k y516 a0_0 a0_1 a0_2 a0_3 a0_4 l0_5) = some (r1, r2) := by first | (rw [hy516]; with_reducible exact H) | (have H2_ := (Option.bind_some _ _).symm.trans H; rw [hy516]; with_reducible exact H2_) | (have H2_ := (Option.bind_some _ _).symm.trans H; with_reducible exact H2_) | with_reducible exact H | (rw [hy516]; exact H) | exact H
            have Ny516 := Aside0.mk hy516
            clear hy516
            have H' := Aside0.mk H
            clear H
            have hcz17_0 : w11.cell? ⟨gb510, 0, none⟩ = some (.int .i64 a0_0) := (blk_cell BK510.out 0).trans rfl
            have hcz17_1 : w11.cell? ⟨gb510, 1, none⟩ = some (.string a0_1) := (blk_cell BK510.out 1).trans rfl
            have hcz17_2 : w11.cell? ⟨gb510, 2, none⟩ = some (.string a0_2) := (blk_cell BK510.out 2).trans rfl
            have hcz17_3 : w11.cell? ⟨gb510, 3, none⟩ = some (.int .i64 a0_3) := (blk_cell BK510.out 3).trans rfl
            have hcz17_4 : w11.cell? ⟨gb510, 4, none⟩ = some (.int .i64 a0_4) := (blk_cell BK510.out 4).trans rfl
            have hcz17_5 : w11.cell? ⟨gb510, 5, none⟩ = some (.slice A0_5 l0_5.length c0_5) := (blk_cell BK510.out 5).trans rfl
            have hfz17_0 := blk_frozen BK510.out 0
            have hfz17_1 := blk_frozen BK510.out 1
            have hfz17_2 := blk_frozen BK510.out 2
            have hfz17_3 := blk_frozen BK510.out 3
            have hfz17_4 := blk_frozen BK510.out 4
            have hfz17_5 := blk_frozen BK510.out 5
            go_wp2_with (first | ((with_reducible refine gate_builtin (b := .append) (xs := #[.tmp 15, .tmp 19]) rfl ?_); at_builtin; refine Kd.R_append Kd.string (w0 := w) w.heap.size rfl (.tmp 15) (.tmp 19) 33 9 (.string ⟨#[]⟩) 16 rfl Tryd.underlying33 info9 rfl (by decide) (by omega) v514 y513 ((⟨#[45]⟩ : ByteArray) ++ a0_1) [.string ((⟨#[45]⟩ : ByteArray) ++ a0_1)] (fun _ => True) (fun _ => False) rfl rfl ?aP (fun _ hk => hk.elim) ?aF ?aO ?aB ?aS ?aL ?_; (case aP => exact rfl); (case aB => exact (by repeat (first | (with_reducible first | exact HB.out | apply below_alloc | apply pw_below_drewN | apply below_drew1 | refine below_set ?_ GE510.out) | exact HB.out))); (case aF => exact (fun _ _ => trivial)); (case aO => exact (by (with_reducible repeat (first | apply Kd.R_alloc | apply Kd.R_drewN | apply Kd.R_drew)); exact HO515.out)); (case aS => exact (below_size (by repeat (first | (with_reducible first | exact HB.out | apply below_alloc | apply pw_below_drewN | apply below_drew1 | refine below_set ?_ GE510.out) | exact HB.out)))); (case aL => have := LMc16.out; omega); intro v517 w18 ho hb hg hat; rw [← Ny516.out] at ho; have n0_ := Aside0.mk (blk_grown (g := gb510) (o := .cells #[.int .i64 a0_0, .string a0_1, .string a0_2, .int .i64 a0_3, .int .i64 a0_4, .slice A0_5 l0_5.length c0_5] 38 (0, 0)) (by (with_reducible repeat (first | refine blk_drewN ?_ _ | refine blk_drew ?_ | refine blk_alloc ?_ _)); exact BK510.out) hg (Kd.R_ne HO515.out BK510.out (by decide))); have n1_ := Aside0.mk (hb); have n2_ := Aside0.mk (ho); clear BK510; clear HB; clear HO515; have BK510 := n0_; have HB := n1_; have HO518 := n2_; clear n0_ n1_ n2_; clear ho hb hg hat))
            go_meet
            case rel => exact ⟨_, (y516), H', ⟨by first | omega | exact Nat.le_refl _⟩, ⟨by (with_reducible repeat (first | apply Kd.R_alloc | apply Kd.R_drewN | apply Kd.R_drew)); exact HO518.out⟩, ⟨by (with_reducible repeat (first | refine blk_drewN ?_ _ | refine blk_drew ?_ | refine blk_alloc ?_ _)); exact BK510.out⟩, ⟨by repeat (first | (with_reducible first | exact HB.out | apply below_alloc | apply pw_below_drewN | apply below_drew1 | refine below_set ?_ GE510.out) | exact HB.out)⟩⟩
          · rw [if_neg c16] at H
            exact absurd H (by simp)
        · rw [if_neg c15] at H
          exact absurd H (by simp)
    case rest =>
      clear HC5
      try clear c1
      try clear c2
      try clear p2
      try clear c3
      try clear c5
      try clear c14
      try clear c14b0
      try clear c14b1
      try clear c15
      try clear c15b0
      try clear c15b1
      try clear c15b2
      try clear c16
      try clear hcz13_0
      try clear hcz13_1
      try clear hcz13_2
      try clear hcz13_3
      try clear hcz13_4
      try clear hcz13_5
      try clear hcz17_0
      try clear hcz17_1
      try clear hcz17_2
      try clear hcz17_3
      try clear hcz17_4
      try clear hcz17_5
      try clear hcz7_0
      try clear hcz7_1
      try clear hcz7_2
      try clear hcz7_3
      try clear hcz7_4
      try clear hcz7_5
      try clear hcz9_0
      try clear hcz9_1
      try clear hcz9_2
      try clear hcz9_3
      try clear hcz9_4
      try clear hcz9_5
      try clear hfz13_0
      try clear hfz13_1
      try clear hfz13_2
      try clear hfz13_3
      try clear hfz13_4
      try clear hfz13_5
      try clear hfz17_0
      try clear hfz17_1
      try clear hfz17_2
      try clear hfz17_3
      try clear hfz17_4
      try clear hfz17_5
      try clear hfz7_0
      try clear hfz7_1
      try clear hfz7_2
      try clear hfz7_3
      try clear hfz7_4
      try clear hfz7_5
      try clear hfz9_0
      try clear hfz9_1
      try clear hfz9_2
      try clear hfz9_3
      try clear hfz9_4
      try clear hfz9_5
      obtain ⟨kq, x4_4, HA, HJ4, HO_4, BK510, HB⟩ := hcut
      cases kq with
      | zero => exact absurd HA.out (by simp [impl_JobWords.j0])
      | succ kj4 =>
        have H := HA.out
        clear HA
        simp only [impl_JobWords.j0] at H
        by_cases c19 : a0_0 = 4
        · rw [if_pos c19] at H
          have c19b0 : (a0_0 == 4) = true := beq_iff_eq.mpr c19
          have c19b1 : (a0_0 != 4) = false := bne_eq_false_iff_eq.mpr c19
          clear c19
          replace H := Option.bind_eq_some_iff.mp H
          obtain ⟨t519, A200, H⟩ := H
          replace H : (if x4_4.length < 8796093022208 then ((some (x4_4 ++ [t519] : List ByteArray)).bind fun y520 => (if y520.length + l0_5.length < 8796093022208 then (some ((y520 ++ l0_5), true)) else (none))) else (none)) = some (r1, r2) := H
          have A20 := Aside0.mk A200
          clear A200
          by_cases c21 : x4_4.length < 8796093022208
          · rw [if_pos c21] at H
            have LMc21 := Aside0.mk c21
            clear c21
            obtain ⟨y520, hy520⟩ : ∃ y_ : List ByteArray, y_ = (x4_4 ++ [t519]) := ⟨_, rfl⟩
            replace H : (if y520.length + l0_5.length < 8796093022208 then (some ((y520 ++ l0_5), true)) else (none)) = some (r1, r2) := by first | (rw [hy520]; with_reducible exact H) | (have H2_ := (Option.bind_some _ _).symm.trans H; rw [hy520]; with_reducible exact H2_) | (have H2_ := (Option.bind_some _ _).symm.trans H; with_reducible exact H2_) | with_reducible exact H | (rw [hy520]; exact H) | exact H
            have Ny520 := Aside0.mk hy520
            clear hy520
            by_cases c22 : y520.length + l0_5.length < 8796093022208
            · rw [if_pos c22] at H
              have LMc22 := Aside0.mk c22
              clear c22
              obtain ⟨y523, hy523⟩ : ∃ y_ : List ByteArray, y_ = (y520 ++ l0_5) := ⟨_, rfl⟩
              replace H : (some (y523, true)) = some (r1, r2) := by first | (rw [hy523]; with_reducible exact H) | (have H2_ := (Option.bind_some _ _).symm.trans H; rw [hy523]; with_reducible exact H2_) | (have H2_ := (Option.bind_some _ _).symm.trans H; with_reducible exact H2_) | with_reducible exact H | (rw [hy523]; exact H) | exact H
              have Ny523 := Aside0.mk hy523
              clear hy523
              simp only [Option.some.injEq, Prod.mk.injEq] at H
              obtain ⟨rfl, rfl⟩ := H
              have hcz23_0 : wc.cell? ⟨gb510, 0, none⟩ = some (.int .i64 a0_0) := (blk_cell BK510.out 0).trans rfl
              have hcz23_1 : wc.cell? ⟨gb510, 1, none⟩ = some (.string a0_1) := (blk_cell BK510.out 1).trans rfl
              have hcz23_2 : wc.cell? ⟨gb510, 2, none⟩ = some (.string a0_2) := (blk_cell BK510.out 2).trans rfl
              have hcz23_3 : wc.cell? ⟨gb510, 3, none⟩ = some (.int .i64 a0_3) := (blk_cell BK510.out 3).trans rfl
              have hcz23_4 : wc.cell? ⟨gb510, 4, none⟩ = some (.int .i64 a0_4) := (blk_cell BK510.out 4).trans rfl
              have hcz23_5 : wc.cell? ⟨gb510, 5, none⟩ = some (.slice A0_5 l0_5.length c0_5) := (blk_cell BK510.out 5).trans rfl
              have hfz23_0 := blk_frozen BK510.out 0
              have hfz23_1 := blk_frozen BK510.out 1
              have hfz23_2 := blk_frozen BK510.out 2
              have hfz23_3 := blk_frozen BK510.out 3
              have hfz23_4 := blk_frozen BK510.out 4
              have hfz23_5 := blk_frozen BK510.out 5
              go_wp2_with (first | ((with_reducible refine gate_callee (f := 42) rfl ?_); refine goesL_ (some 30) rfl rfl Tryd.func42 (by kernel_rfl) rfl #[.int .i64 a0_3, .int .i64 a0_4] rfl (by (try simp only [List.map_toArray, List.map_cons, List.map_nil]); first | done | rfl | (simp only [List.length_drop, List.length_take]; rfl)) ?_; (with_reducible refine (impl_ownerText.calls a0_3 a0_4 t519 _ A20.out).mono ?_); rintro e w' ⟨rfl, ⟨nd, rfl⟩⟩; refine ⟨_, rfl, ?_⟩) | ((with_reducible refine gate_builtin (b := .append) (xs := #[.tmp 25, .tmp 31]) rfl ?_); at_builtin; refine Kd.R_append Kd.string (w0 := w) w.heap.size rfl (.tmp 25) (.tmp 31) 33 9 (.string ⟨#[]⟩) 16 rfl Tryd.underlying33 info9 rfl (by decide) (by omega) u4 x4_4 t519 [.string t519] (fun _ => True) (fun _ => False) rfl rfl ?aP (fun _ hk => hk.elim) ?aF ?aO ?aB ?aS ?aL ?_; (case aP => exact rfl); (case aB => exact (by repeat (first | (with_reducible first | exact HB.out | apply below_alloc | apply pw_below_drewN | apply below_drew1 | refine below_set ?_ GE510.out) | exact HB.out))); (case aF => exact (fun _ _ => trivial)); (case aO => exact (by (with_reducible repeat (first | apply Kd.R_alloc | apply Kd.R_drewN | apply Kd.R_drew)); exact HO_4.out)); (case aS => exact (below_size (by repeat (first | (with_reducible first | exact HB.out | apply below_alloc | apply pw_below_drewN | apply below_drew1 | refine below_set ?_ GE510.out) | exact HB.out)))); (case aL => have := LMc21.out; omega); intro v521 w24 ho hb hg hat; rw [← Ny520.out] at ho; have n0_ := Aside0.mk (blk_grown (g := gb510) (o := .cells #[.int .i64 a0_0, .string a0_1, .string a0_2, .int .i64 a0_3, .int .i64 a0_4, .slice A0_5 l0_5.length c0_5] 38 (0, 0)) (by (with_reducible repeat (first | refine blk_drewN ?_ _ | refine blk_drew ?_ | refine blk_alloc ?_ _)); exact BK510.out) hg (Kd.R_ne HO_4.out BK510.out (by decide))); have n1_ := Aside0.mk (hb); have n2_ := Aside0.mk (ho); clear BK510; clear HB; clear HO_4; have BK510 := n0_; have HB := n1_; have HO522 := n2_; clear n0_ n1_ n2_; clear ho hb hg hat; have hcz25_0 : w24.cell? ⟨gb510, 0, none⟩ = some (.int .i64 a0_0) := (blk_cell BK510.out 0).trans rfl; have hcz25_1 : w24.cell? ⟨gb510, 1, none⟩ = some (.string a0_1) := (blk_cell BK510.out 1).trans rfl; have hcz25_2 : w24.cell? ⟨gb510, 2, none⟩ = some (.string a0_2) := (blk_cell BK510.out 2).trans rfl; have hcz25_3 : w24.cell? ⟨gb510, 3, none⟩ = some (.int .i64 a0_3) := (blk_cell BK510.out 3).trans rfl; have hcz25_4 : w24.cell? ⟨gb510, 4, none⟩ = some (.int .i64 a0_4) := (blk_cell BK510.out 4).trans rfl; have hcz25_5 : w24.cell? ⟨gb510, 5, none⟩ = some (.slice A0_5 l0_5.length c0_5) := (blk_cell BK510.out 5).trans rfl; have hfz25_0 := blk_frozen BK510.out 0; have hfz25_1 := blk_frozen BK510.out 1; have hfz25_2 := blk_frozen BK510.out 2; have hfz25_3 := blk_frozen BK510.out 3; have hfz25_4 := blk_frozen BK510.out 4; have hfz25_5 := blk_frozen BK510.out 5) | ((with_reducible refine gate_builtin (b := .append) (xs := #[.tmp 41, .tmp 43]) rfl ?_); at_builtin; refine Kd.R_append_rows Kd.string (w0 := w) w.heap.size rfl (.tmp 41) (.tmp 43) 33 9 (.string ⟨#[]⟩) 16 rfl Tryd.underlying33 info9 rfl (by decide) (by omega) v521 y520 l0_5 _ _ _ (fun _ => True) (fun _ => False) rfl rfl ?aO ?aR (fun _ _ h => h) (fun _ h => h.elim) ?aF ?aB ?aS ?aL ?_; (case aR => repeat (first | exact (Kd.C_below HR0_5.out HB.out) | (with_reducible refine Kd.C_alloc ?_ _) | (with_reducible refine Kd.C_drewN ?_ _) | (with_reducible refine Kd.C_drew ?_))); (case aB => exact (by repeat (first | (with_reducible first | exact HB.out | apply below_alloc | apply pw_below_drewN | apply below_drew1 | refine below_set ?_ GE510.out) | exact HB.out))); (case aF => exact (fun _ _ => trivial)); (case aO => exact (by (with_reducible repeat (first | apply Kd.R_alloc | apply Kd.R_drewN | apply Kd.R_drew)); exact HO522.out)); (case aS => exact (below_size (by repeat (first | (with_reducible first | exact HB.out | apply below_alloc | apply pw_below_drewN | apply below_drew1 | refine below_set ?_ GE510.out) | exact HB.out)))); (case aL => have := LMc22.out; omega); intro v524 w26 ho hb hg hat; rw [← Ny523.out] at ho; have n0_ := Aside0.mk (blk_grown (g := gb510) (o := .cells #[.int .i64 a0_0, .string a0_1, .string a0_2, .int .i64 a0_3, .int .i64 a0_4, .slice A0_5 l0_5.length c0_5] 38 (0, 0)) (by (with_reducible repeat (first | refine blk_drewN ?_ _ | refine blk_drew ?_ | refine blk_alloc ?_ _)); exact BK510.out) hg (Kd.R_ne HO522.out BK510.out (by decide))); have n1_ := Aside0.mk (hb); have n2_ := Aside0.mk (ho); clear BK510; clear HB; clear HO522; have BK510 := n0_; have HB := n1_; have HO525 := n2_; clear n0_ n1_ n2_; clear ho hb hg hat))
              go_ret2
              exact ⟨_, by first | rfl | (simp [errW_none, errW_some] <;> rfl) | (simp [*, errW_none, errW_some] <;> rfl), by (with_reducible repeat (first | apply Kd.R_alloc | apply Kd.R_drewN | apply Kd.R_drew)); exact HO525.out, by repeat (first | (with_reducible first | exact HB.out | apply below_alloc | apply pw_below_drewN | apply below_drew1 | refine below_set ?_ GE510.out) | exact HB.out)⟩
            · rw [if_neg c22] at H
              exact absurd H (by simp)
          · rw [if_neg c21] at H
            exact absurd H (by simp)
        · rw [if_neg c19] at H
          have c19b0 : (a0_0 == 4) = false := beq_eq_false_iff_ne.mpr c19
          have c19b1 : (a0_0 != 4) = true := bne_iff_ne.mpr c19
          by_cases c27 : a0_0 = 5
          · rw [if_pos c27] at H
            have c27b0 : (a0_0 == 5) = true := beq_iff_eq.mpr c27
            have c27b1 : (a0_0 != 5) = false := bne_eq_false_iff_eq.mpr c27
            clear c27
            by_cases c28 : x4_4.length < 8796093022208
            · rw [if_pos c28] at H
              have LMc28 := Aside0.mk c28
              clear c28
              obtain ⟨y526, hy526⟩ : ∃ y_ : List ByteArray, y_ = (x4_4 ++ [a0_2]) := ⟨_, rfl⟩
              replace H : (if y526.length + l0_5.length < 8796093022208 then (some ((y526 ++ l0_5), true)) else (none)) = some (r1, r2) := by first | (rw [hy526]; with_reducible exact H) | (have H2_ := (Option.bind_some _ _).symm.trans H; rw [hy526]; with_reducible exact H2_) | (have H2_ := (Option.bind_some _ _).symm.trans H; with_reducible exact H2_) | with_reducible exact H | (rw [hy526]; exact H) | exact H
              have Ny526 := Aside0.mk hy526
              clear hy526
              by_cases c29 : y526.length + l0_5.length < 8796093022208
              · rw [if_pos c29] at H
                have LMc29 := Aside0.mk c29
                clear c29
                obtain ⟨y529, hy529⟩ : ∃ y_ : List ByteArray, y_ = (y526 ++ l0_5) := ⟨_, rfl⟩
                replace H : (some (y529, true)) = some (r1, r2) := by first | (rw [hy529]; with_reducible exact H) | (have H2_ := (Option.bind_some _ _).symm.trans H; rw [hy529]; with_reducible exact H2_) | (have H2_ := (Option.bind_some _ _).symm.trans H; with_reducible exact H2_) | with_reducible exact H | (rw [hy529]; exact H) | exact H
                have Ny529 := Aside0.mk hy529
                clear hy529
                simp only [Option.some.injEq, Prod.mk.injEq] at H
                obtain ⟨rfl, rfl⟩ := H
                have hcz30_0 : wc.cell? ⟨gb510, 0, none⟩ = some (.int .i64 a0_0) := (blk_cell BK510.out 0).trans rfl
                have hcz30_1 : wc.cell? ⟨gb510, 1, none⟩ = some (.string a0_1) := (blk_cell BK510.out 1).trans rfl
                have hcz30_2 : wc.cell? ⟨gb510, 2, none⟩ = some (.string a0_2) := (blk_cell BK510.out 2).trans rfl
                have hcz30_3 : wc.cell? ⟨gb510, 3, none⟩ = some (.int .i64 a0_3) := (blk_cell BK510.out 3).trans rfl
                have hcz30_4 : wc.cell? ⟨gb510, 4, none⟩ = some (.int .i64 a0_4) := (blk_cell BK510.out 4).trans rfl
                have hcz30_5 : wc.cell? ⟨gb510, 5, none⟩ = some (.slice A0_5 l0_5.length c0_5) := (blk_cell BK510.out 5).trans rfl
                have hfz30_0 := blk_frozen BK510.out 0
                have hfz30_1 := blk_frozen BK510.out 1
                have hfz30_2 := blk_frozen BK510.out 2
                have hfz30_3 := blk_frozen BK510.out 3
                have hfz30_4 := blk_frozen BK510.out 4
                have hfz30_5 := blk_frozen BK510.out 5
                go_wp2_with (first | ((with_reducible refine gate_builtin (b := .append) (xs := #[.tmp 36, .tmp 39]) rfl ?_); at_builtin; refine Kd.R_append Kd.string (w0 := w) w.heap.size rfl (.tmp 36) (.tmp 39) 33 9 (.string ⟨#[]⟩) 16 rfl Tryd.underlying33 info9 rfl (by decide) (by omega) u4 x4_4 a0_2 [.string a0_2] (fun _ => True) (fun _ => False) rfl rfl ?aP (fun _ hk => hk.elim) ?aF ?aO ?aB ?aS ?aL ?_; (case aP => exact rfl); (case aB => exact (by repeat (first | (with_reducible first | exact HB.out | apply below_alloc | apply pw_below_drewN | apply below_drew1 | refine below_set ?_ GE510.out) | exact HB.out))); (case aF => exact (fun _ _ => trivial)); (case aO => exact (by (with_reducible repeat (first | apply Kd.R_alloc | apply Kd.R_drewN | apply Kd.R_drew)); exact HO_4.out)); (case aS => exact (below_size (by repeat (first | (with_reducible first | exact HB.out | apply below_alloc | apply pw_below_drewN | apply below_drew1 | refine below_set ?_ GE510.out) | exact HB.out)))); (case aL => have := LMc28.out; omega); intro v527 w31 ho hb hg hat; rw [← Ny526.out] at ho; have n0_ := Aside0.mk (blk_grown (g := gb510) (o := .cells #[.int .i64 a0_0, .string a0_1, .string a0_2, .int .i64 a0_3, .int .i64 a0_4, .slice A0_5 l0_5.length c0_5] 38 (0, 0)) (by (with_reducible repeat (first | refine blk_drewN ?_ _ | refine blk_drew ?_ | refine blk_alloc ?_ _)); exact BK510.out) hg (Kd.R_ne HO_4.out BK510.out (by decide))); have n1_ := Aside0.mk (hb); have n2_ := Aside0.mk (ho); clear BK510; clear HB; clear HO_4; have BK510 := n0_; have HB := n1_; have HO528 := n2_; clear n0_ n1_ n2_; clear ho hb hg hat; have hcz32_0 : w31.cell? ⟨gb510, 0, none⟩ = some (.int .i64 a0_0) := (blk_cell BK510.out 0).trans rfl; have hcz32_1 : w31.cell? ⟨gb510, 1, none⟩ = some (.string a0_1) := (blk_cell BK510.out 1).trans rfl; have hcz32_2 : w31.cell? ⟨gb510, 2, none⟩ = some (.string a0_2) := (blk_cell BK510.out 2).trans rfl; have hcz32_3 : w31.cell? ⟨gb510, 3, none⟩ = some (.int .i64 a0_3) := (blk_cell BK510.out 3).trans rfl; have hcz32_4 : w31.cell? ⟨gb510, 4, none⟩ = some (.int .i64 a0_4) := (blk_cell BK510.out 4).trans rfl; have hcz32_5 : w31.cell? ⟨gb510, 5, none⟩ = some (.slice A0_5 l0_5.length c0_5) := (blk_cell BK510.out 5).trans rfl; have hfz32_0 := blk_frozen BK510.out 0; have hfz32_1 := blk_frozen BK510.out 1; have hfz32_2 := blk_frozen BK510.out 2; have hfz32_3 := blk_frozen BK510.out 3; have hfz32_4 := blk_frozen BK510.out 4; have hfz32_5 := blk_frozen BK510.out 5) | ((with_reducible refine gate_builtin (b := .append) (xs := #[.tmp 41, .tmp 43]) rfl ?_); at_builtin; refine Kd.R_append_rows Kd.string (w0 := w) w.heap.size rfl (.tmp 41) (.tmp 43) 33 9 (.string ⟨#[]⟩) 16 rfl Tryd.underlying33 info9 rfl (by decide) (by omega) v527 y526 l0_5 _ _ _ (fun _ => True) (fun _ => False) rfl rfl ?aO ?aR (fun _ _ h => h) (fun _ h => h.elim) ?aF ?aB ?aS ?aL ?_; (case aR => repeat (first | exact (Kd.C_below HR0_5.out HB.out) | (with_reducible refine Kd.C_alloc ?_ _) | (with_reducible refine Kd.C_drewN ?_ _) | (with_reducible refine Kd.C_drew ?_))); (case aB => exact (by repeat (first | (with_reducible first | exact HB.out | apply below_alloc | apply pw_below_drewN | apply below_drew1 | refine below_set ?_ GE510.out) | exact HB.out))); (case aF => exact (fun _ _ => trivial)); (case aO => exact (by (with_reducible repeat (first | apply Kd.R_alloc | apply Kd.R_drewN | apply Kd.R_drew)); exact HO528.out)); (case aS => exact (below_size (by repeat (first | (with_reducible first | exact HB.out | apply below_alloc | apply pw_below_drewN | apply below_drew1 | refine below_set ?_ GE510.out) | exact HB.out)))); (case aL => have := LMc29.out; omega); intro v530 w33 ho hb hg hat; rw [← Ny529.out] at ho; have n0_ := Aside0.mk (blk_grown (g := gb510) (o := .cells #[.int .i64 a0_0, .string a0_1, .string a0_2, .int .i64 a0_3, .int .i64 a0_4, .slice A0_5 l0_5.length c0_5] 38 (0, 0)) (by (with_reducible repeat (first | refine blk_drewN ?_ _ | refine blk_drew ?_ | refine blk_alloc ?_ _)); exact BK510.out) hg (Kd.R_ne HO528.out BK510.out (by decide))); have n1_ := Aside0.mk (hb); have n2_ := Aside0.mk (ho); clear BK510; clear HB; clear HO528; have BK510 := n0_; have HB := n1_; have HO531 := n2_; clear n0_ n1_ n2_; clear ho hb hg hat))
                go_ret2
                exact ⟨_, by first | rfl | (simp [errW_none, errW_some] <;> rfl) | (simp [*, errW_none, errW_some] <;> rfl), by (with_reducible repeat (first | apply Kd.R_alloc | apply Kd.R_drewN | apply Kd.R_drew)); exact HO531.out, by repeat (first | (with_reducible first | exact HB.out | apply below_alloc | apply pw_below_drewN | apply below_drew1 | refine below_set ?_ GE510.out) | exact HB.out)⟩
              · rw [if_neg c29] at H
                exact absurd H (by simp)
            · rw [if_neg c28] at H
              exact absurd H (by simp)
          · rw [if_neg c27] at H
            have c27b0 : (a0_0 == 5) = false := beq_eq_false_iff_ne.mpr c27
            have c27b1 : (a0_0 != 5) = true := bne_iff_ne.mpr c27
            by_cases c34 : a0_0 = 6
            · rw [if_pos c34] at H
              have c34b0 : (a0_0 == 6) = true := beq_iff_eq.mpr c34
              have c34b1 : (a0_0 != 6) = false := bne_eq_false_iff_eq.mpr c34
              clear c34
              by_cases c35 : x4_4.length < 8796093022208
              · rw [if_pos c35] at H
                have LMc35 := Aside0.mk c35
                clear c35
                obtain ⟨y532, hy532⟩ : ∃ y_ : List ByteArray, y_ = (x4_4 ++ [a0_2]) := ⟨_, rfl⟩
                replace H : (if y532.length + l0_5.length < 8796093022208 then (some ((y532 ++ l0_5), true)) else (none)) = some (r1, r2) := by first | (rw [hy532]; with_reducible exact H) | (have H2_ := (Option.bind_some _ _).symm.trans H; rw [hy532]; with_reducible exact H2_) | (have H2_ := (Option.bind_some _ _).symm.trans H; with_reducible exact H2_) | with_reducible exact H | (rw [hy532]; exact H) | exact H
                have Ny532 := Aside0.mk hy532
                clear hy532
                by_cases c36 : y532.length + l0_5.length < 8796093022208
                · rw [if_pos c36] at H
                  have LMc36 := Aside0.mk c36
                  clear c36
                  obtain ⟨y535, hy535⟩ : ∃ y_ : List ByteArray, y_ = (y532 ++ l0_5) := ⟨_, rfl⟩
                  replace H : (some (y535, true)) = some (r1, r2) := by first | (rw [hy535]; with_reducible exact H) | (have H2_ := (Option.bind_some _ _).symm.trans H; rw [hy535]; with_reducible exact H2_) | (have H2_ := (Option.bind_some _ _).symm.trans H; with_reducible exact H2_) | with_reducible exact H | (rw [hy535]; exact H) | exact H
                  have Ny535 := Aside0.mk hy535
                  clear hy535
                  simp only [Option.some.injEq, Prod.mk.injEq] at H
                  obtain ⟨rfl, rfl⟩ := H
                  have hcz37_0 : wc.cell? ⟨gb510, 0, none⟩ = some (.int .i64 a0_0) := (blk_cell BK510.out 0).trans rfl
                  have hcz37_1 : wc.cell? ⟨gb510, 1, none⟩ = some (.string a0_1) := (blk_cell BK510.out 1).trans rfl
                  have hcz37_2 : wc.cell? ⟨gb510, 2, none⟩ = some (.string a0_2) := (blk_cell BK510.out 2).trans rfl
                  have hcz37_3 : wc.cell? ⟨gb510, 3, none⟩ = some (.int .i64 a0_3) := (blk_cell BK510.out 3).trans rfl
                  have hcz37_4 : wc.cell? ⟨gb510, 4, none⟩ = some (.int .i64 a0_4) := (blk_cell BK510.out 4).trans rfl
                  have hcz37_5 : wc.cell? ⟨gb510, 5, none⟩ = some (.slice A0_5 l0_5.length c0_5) := (blk_cell BK510.out 5).trans rfl
                  have hfz37_0 := blk_frozen BK510.out 0
                  have hfz37_1 := blk_frozen BK510.out 1
                  have hfz37_2 := blk_frozen BK510.out 2
                  have hfz37_3 := blk_frozen BK510.out 3
                  have hfz37_4 := blk_frozen BK510.out 4
                  have hfz37_5 := blk_frozen BK510.out 5
                  go_wp2_with (first | ((with_reducible refine gate_builtin (b := .append) (xs := #[.tmp 36, .tmp 39]) rfl ?_); at_builtin; refine Kd.R_append Kd.string (w0 := w) w.heap.size rfl (.tmp 36) (.tmp 39) 33 9 (.string ⟨#[]⟩) 16 rfl Tryd.underlying33 info9 rfl (by decide) (by omega) u4 x4_4 a0_2 [.string a0_2] (fun _ => True) (fun _ => False) rfl rfl ?aP (fun _ hk => hk.elim) ?aF ?aO ?aB ?aS ?aL ?_; (case aP => exact rfl); (case aB => exact (by repeat (first | (with_reducible first | exact HB.out | apply below_alloc | apply pw_below_drewN | apply below_drew1 | refine below_set ?_ GE510.out) | exact HB.out))); (case aF => exact (fun _ _ => trivial)); (case aO => exact (by (with_reducible repeat (first | apply Kd.R_alloc | apply Kd.R_drewN | apply Kd.R_drew)); exact HO_4.out)); (case aS => exact (below_size (by repeat (first | (with_reducible first | exact HB.out | apply below_alloc | apply pw_below_drewN | apply below_drew1 | refine below_set ?_ GE510.out) | exact HB.out)))); (case aL => have := LMc35.out; omega); intro v533 w38 ho hb hg hat; rw [← Ny532.out] at ho; have n0_ := Aside0.mk (blk_grown (g := gb510) (o := .cells #[.int .i64 a0_0, .string a0_1, .string a0_2, .int .i64 a0_3, .int .i64 a0_4, .slice A0_5 l0_5.length c0_5] 38 (0, 0)) (by (with_reducible repeat (first | refine blk_drewN ?_ _ | refine blk_drew ?_ | refine blk_alloc ?_ _)); exact BK510.out) hg (Kd.R_ne HO_4.out BK510.out (by decide))); have n1_ := Aside0.mk (hb); have n2_ := Aside0.mk (ho); clear BK510; clear HB; clear HO_4; have BK510 := n0_; have HB := n1_; have HO534 := n2_; clear n0_ n1_ n2_; clear ho hb hg hat; have hcz39_0 : w38.cell? ⟨gb510, 0, none⟩ = some (.int .i64 a0_0) := (blk_cell BK510.out 0).trans rfl; have hcz39_1 : w38.cell? ⟨gb510, 1, none⟩ = some (.string a0_1) := (blk_cell BK510.out 1).trans rfl; have hcz39_2 : w38.cell? ⟨gb510, 2, none⟩ = some (.string a0_2) := (blk_cell BK510.out 2).trans rfl; have hcz39_3 : w38.cell? ⟨gb510, 3, none⟩ = some (.int .i64 a0_3) := (blk_cell BK510.out 3).trans rfl; have hcz39_4 : w38.cell? ⟨gb510, 4, none⟩ = some (.int .i64 a0_4) := (blk_cell BK510.out 4).trans rfl; have hcz39_5 : w38.cell? ⟨gb510, 5, none⟩ = some (.slice A0_5 l0_5.length c0_5) := (blk_cell BK510.out 5).trans rfl; have hfz39_0 := blk_frozen BK510.out 0; have hfz39_1 := blk_frozen BK510.out 1; have hfz39_2 := blk_frozen BK510.out 2; have hfz39_3 := blk_frozen BK510.out 3; have hfz39_4 := blk_frozen BK510.out 4; have hfz39_5 := blk_frozen BK510.out 5) | ((with_reducible refine gate_builtin (b := .append) (xs := #[.tmp 41, .tmp 43]) rfl ?_); at_builtin; refine Kd.R_append_rows Kd.string (w0 := w) w.heap.size rfl (.tmp 41) (.tmp 43) 33 9 (.string ⟨#[]⟩) 16 rfl Tryd.underlying33 info9 rfl (by decide) (by omega) v533 y532 l0_5 _ _ _ (fun _ => True) (fun _ => False) rfl rfl ?aO ?aR (fun _ _ h => h) (fun _ h => h.elim) ?aF ?aB ?aS ?aL ?_; (case aR => repeat (first | exact (Kd.C_below HR0_5.out HB.out) | (with_reducible refine Kd.C_alloc ?_ _) | (with_reducible refine Kd.C_drewN ?_ _) | (with_reducible refine Kd.C_drew ?_))); (case aB => exact (by repeat (first | (with_reducible first | exact HB.out | apply below_alloc | apply pw_below_drewN | apply below_drew1 | refine below_set ?_ GE510.out) | exact HB.out))); (case aF => exact (fun _ _ => trivial)); (case aO => exact (by (with_reducible repeat (first | apply Kd.R_alloc | apply Kd.R_drewN | apply Kd.R_drew)); exact HO534.out)); (case aS => exact (below_size (by repeat (first | (with_reducible first | exact HB.out | apply below_alloc | apply pw_below_drewN | apply below_drew1 | refine below_set ?_ GE510.out) | exact HB.out)))); (case aL => have := LMc36.out; omega); intro v536 w40 ho hb hg hat; rw [← Ny535.out] at ho; have n0_ := Aside0.mk (blk_grown (g := gb510) (o := .cells #[.int .i64 a0_0, .string a0_1, .string a0_2, .int .i64 a0_3, .int .i64 a0_4, .slice A0_5 l0_5.length c0_5] 38 (0, 0)) (by (with_reducible repeat (first | refine blk_drewN ?_ _ | refine blk_drew ?_ | refine blk_alloc ?_ _)); exact BK510.out) hg (Kd.R_ne HO534.out BK510.out (by decide))); have n1_ := Aside0.mk (hb); have n2_ := Aside0.mk (ho); clear BK510; clear HB; clear HO534; have BK510 := n0_; have HB := n1_; have HO537 := n2_; clear n0_ n1_ n2_; clear ho hb hg hat))
                  go_ret2
                  exact ⟨_, by first | rfl | (simp [errW_none, errW_some] <;> rfl) | (simp [*, errW_none, errW_some] <;> rfl), by (with_reducible repeat (first | apply Kd.R_alloc | apply Kd.R_drewN | apply Kd.R_drew)); exact HO537.out, by repeat (first | (with_reducible first | exact HB.out | apply below_alloc | apply pw_below_drewN | apply below_drew1 | refine below_set ?_ GE510.out) | exact HB.out)⟩
                · rw [if_neg c36] at H
                  exact absurd H (by simp)
              · rw [if_neg c35] at H
                exact absurd H (by simp)
            · rw [if_neg c34] at H
              have c34b0 : (a0_0 == 6) = false := beq_eq_false_iff_ne.mpr c34
              have c34b1 : (a0_0 != 6) = true := bne_iff_ne.mpr c34
              by_cases c41 : x4_4.length + l0_5.length < 8796093022208
              · rw [if_pos c41] at H
                have LMc41 := Aside0.mk c41
                clear c41
                obtain ⟨y538, hy538⟩ : ∃ y_ : List ByteArray, y_ = (x4_4 ++ l0_5) := ⟨_, rfl⟩
                replace H : (some (y538, true)) = some (r1, r2) := by first | (rw [hy538]; with_reducible exact H) | (have H2_ := (Option.bind_some _ _).symm.trans H; rw [hy538]; with_reducible exact H2_) | (have H2_ := (Option.bind_some _ _).symm.trans H; with_reducible exact H2_) | with_reducible exact H | (rw [hy538]; exact H) | exact H
                have Ny538 := Aside0.mk hy538
                clear hy538
                simp only [Option.some.injEq, Prod.mk.injEq] at H
                obtain ⟨rfl, rfl⟩ := H
                have hcz42_0 : wc.cell? ⟨gb510, 0, none⟩ = some (.int .i64 a0_0) := (blk_cell BK510.out 0).trans rfl
                have hcz42_1 : wc.cell? ⟨gb510, 1, none⟩ = some (.string a0_1) := (blk_cell BK510.out 1).trans rfl
                have hcz42_2 : wc.cell? ⟨gb510, 2, none⟩ = some (.string a0_2) := (blk_cell BK510.out 2).trans rfl
                have hcz42_3 : wc.cell? ⟨gb510, 3, none⟩ = some (.int .i64 a0_3) := (blk_cell BK510.out 3).trans rfl
                have hcz42_4 : wc.cell? ⟨gb510, 4, none⟩ = some (.int .i64 a0_4) := (blk_cell BK510.out 4).trans rfl
                have hcz42_5 : wc.cell? ⟨gb510, 5, none⟩ = some (.slice A0_5 l0_5.length c0_5) := (blk_cell BK510.out 5).trans rfl
                have hfz42_0 := blk_frozen BK510.out 0
                have hfz42_1 := blk_frozen BK510.out 1
                have hfz42_2 := blk_frozen BK510.out 2
                have hfz42_3 := blk_frozen BK510.out 3
                have hfz42_4 := blk_frozen BK510.out 4
                have hfz42_5 := blk_frozen BK510.out 5
                go_wp2_with (first | ((with_reducible refine gate_builtin (b := .append) (xs := #[.tmp 41, .tmp 43]) rfl ?_); at_builtin; refine Kd.R_append_rows Kd.string (w0 := w) w.heap.size rfl (.tmp 41) (.tmp 43) 33 9 (.string ⟨#[]⟩) 16 rfl Tryd.underlying33 info9 rfl (by decide) (by omega) u4 x4_4 l0_5 _ _ _ (fun _ => True) (fun _ => False) rfl rfl ?aO ?aR (fun _ _ h => h) (fun _ h => h.elim) ?aF ?aB ?aS ?aL ?_; (case aR => repeat (first | exact (Kd.C_below HR0_5.out HB.out) | (with_reducible refine Kd.C_alloc ?_ _) | (with_reducible refine Kd.C_drewN ?_ _) | (with_reducible refine Kd.C_drew ?_))); (case aB => exact (by repeat (first | (with_reducible first | exact HB.out | apply below_alloc | apply pw_below_drewN | apply below_drew1 | refine below_set ?_ GE510.out) | exact HB.out))); (case aF => exact (fun _ _ => trivial)); (case aO => exact (by (with_reducible repeat (first | apply Kd.R_alloc | apply Kd.R_drewN | apply Kd.R_drew)); exact HO_4.out)); (case aS => exact (below_size (by repeat (first | (with_reducible first | exact HB.out | apply below_alloc | apply pw_below_drewN | apply below_drew1 | refine below_set ?_ GE510.out) | exact HB.out)))); (case aL => have := LMc41.out; omega); intro v539 w43 ho hb hg hat; rw [← Ny538.out] at ho; have n0_ := Aside0.mk (blk_grown (g := gb510) (o := .cells #[.int .i64 a0_0, .string a0_1, .string a0_2, .int .i64 a0_3, .int .i64 a0_4, .slice A0_5 l0_5.length c0_5] 38 (0, 0)) (by (with_reducible repeat (first | refine blk_drewN ?_ _ | refine blk_drew ?_ | refine blk_alloc ?_ _)); exact BK510.out) hg (Kd.R_ne HO_4.out BK510.out (by decide))); have n1_ := Aside0.mk (hb); have n2_ := Aside0.mk (ho); clear BK510; clear HB; clear HO_4; have BK510 := n0_; have HB := n1_; have HO540 := n2_; clear n0_ n1_ n2_; clear ho hb hg hat))
                go_ret2
                exact ⟨_, by first | rfl | (simp [errW_none, errW_some] <;> rfl) | (simp [*, errW_none, errW_some] <;> rfl), by (with_reducible repeat (first | apply Kd.R_alloc | apply Kd.R_drewN | apply Kd.R_drew)); exact HO540.out, by repeat (first | (with_reducible first | exact HB.out | apply below_alloc | apply pw_below_drewN | apply below_drew1 | refine below_set ?_ GE510.out) | exact HB.out)⟩
              · rw [if_neg c41] at H
                exact absurd H (by simp)
  · replace c3 := Bool.eq_false_iff.mpr c3
    subst c3
    have H1 : (some (([] : List ByteArray), false)) = some (r1, r2) := by rw [if_neg (show ¬ (false = true) by decide)] at H; exact H
    clear H
    have H := H1
    clear H1
    simp only [Option.some.injEq, Prod.mk.injEq] at H
    obtain ⟨rfl, rfl⟩ := H
    go_enter Tryd.func23, Tryd.ntmps23
    go_wp2_with (first | ((with_reducible refine gate_dst (N := 1) rfl ?_); refine box_event ?hg (N := 1) ?hd (cs := #[.int .i64 a0_0, .string a0_1, .string a0_2, .int .i64 a0_3, .int .i64 a0_4, .slice A0_5 l0_5.length c0_5]) (t := 38) ?hr ?_; (case hd => rfl); (case hg => rfl); (case hr => first | (go_simp; done) | (go_simp; rfl)); intro gb510 hg w44 hbox hb; have n0_ := Aside0.mk (below_step (by repeat (first | (with_reducible first | exact HB.out | apply below_alloc | apply pw_below_drewN | apply below_drew1) | exact HB.out)) hb); have n1_ := Aside0.mk (hbox); have n2_ := Aside0.mk ((by rw [hg]; exact (below_size (by repeat (first | (with_reducible first | exact HB.out | apply below_alloc | apply pw_below_drewN | apply below_drew1) | exact HB.out))) : w.heap.size ≤ gb510)); have n3_ := Aside0.mk ((by rw [hg]; exact (below_size (by repeat (first | (with_reducible first | exact HB.out | apply below_alloc | apply pw_below_drewN | apply below_drew1) | exact HB.out))) : w.heap.size ≤ gb510)); clear HB; have HB := n0_; have BK510 := n1_; have GW510 := n2_; have GE510 := n3_; clear n0_ n1_ n2_ n3_; clear hb hbox hg; have hcz45_0 : w44.cell? ⟨gb510, 0, none⟩ = some (.int .i64 a0_0) := (blk_cell BK510.out 0).trans rfl; have hcz45_1 : w44.cell? ⟨gb510, 1, none⟩ = some (.string a0_1) := (blk_cell BK510.out 1).trans rfl; have hcz45_2 : w44.cell? ⟨gb510, 2, none⟩ = some (.string a0_2) := (blk_cell BK510.out 2).trans rfl; have hcz45_3 : w44.cell? ⟨gb510, 3, none⟩ = some (.int .i64 a0_3) := (blk_cell BK510.out 3).trans rfl; have hcz45_4 : w44.cell? ⟨gb510, 4, none⟩ = some (.int .i64 a0_4) := (blk_cell BK510.out 4).trans rfl; have hcz45_5 : w44.cell? ⟨gb510, 5, none⟩ = some (.slice A0_5 l0_5.length c0_5) := (blk_cell BK510.out 5).trans rfl; have hfz45_0 := blk_frozen BK510.out 0; have hfz45_1 := blk_frozen BK510.out 1; have hfz45_2 := blk_frozen BK510.out 2; have hfz45_3 := blk_frozen BK510.out 3; have hfz45_4 := blk_frozen BK510.out 4; have hfz45_5 := blk_frozen BK510.out 5) | ((with_reducible refine gate_callee (f := 20) rfl ?_); refine goesL_ (some 6) rfl rfl Tryd.func20 (by kernel_rfl) rfl #[.agg #[.int .i64 a0_0, .string a0_1, .string a0_2, .int .i64 a0_3, .int .i64 a0_4, .slice A0_5 l0_5.length c0_5]] rfl (by (try simp only [List.map_toArray, List.map_cons, List.map_nil]); first | done | rfl | (simp only [List.length_drop, List.length_take]; rfl)) ?_; (with_reducible refine (impl_GoodJob.calls k a0_0 a0_1 a0_2 a0_3 a0_4 _ _ l0_5 false _ ?side1 ?side2 A2.out).mono ?_); (case side1 => repeat (first | exact (Kd.C_below HR0_5.out HB.out) | (with_reducible refine Kd.C_alloc ?_ _) | (with_reducible refine Kd.C_drewN ?_ _) | (with_reducible refine Kd.C_drew ?_))); (case side2 => exact HC0_5.out); rintro e w46 ⟨rfl, hb⟩; refine ⟨_, rfl, ?_⟩; have n0_ := Aside0.mk (blk_below (g := gb510) (o := .cells #[.int .i64 a0_0, .string a0_1, .string a0_2, .int .i64 a0_3, .int .i64 a0_4, .slice A0_5 l0_5.length c0_5] 38 (0, 0)) (by (with_reducible repeat (first | refine blk_drewN ?_ _ | refine blk_drew ?_ | refine blk_alloc ?_ _)); exact BK510.out) hb); have n1_ := Aside0.mk (below_step (by repeat (first | (with_reducible first | exact HB.out | apply below_alloc | apply pw_below_drewN | apply below_drew1 | refine below_set ?_ GE510.out) | exact HB.out)) hb); clear BK510; clear HB; have BK510 := n0_; have HB := n1_; clear n0_ n1_; (try clear hb); (try clear hb2); (try clear hk); (try clear hi)))
    go_ret2
    exact ⟨_, by first | rfl | (simp [errW_none, errW_some] <;> rfl) | (simp [*, errW_none, errW_some] <;> rfl), by first | exact Kd.R_nil _ _ _ _ _ | exact Kd.N_nil _ _ _ _ _ | exact Kd.V_nil _ _ _ _ _ | exact Kd.Q_nil _ _ _ _ _ | exact Kd.S_nil _ _ _ _ _, by repeat (first | (with_reducible first | exact HB.out | apply below_alloc | apply pw_below_drewN | apply below_drew1 | refine below_set ?_ GE510.out) | exact HB.out)⟩
end Go.Proofs.YtibfocaldcjiiaaDoor.Q
