/- Texts of this claim, merged by a program (wip/tools/merge.py): Q23, HGraph, Q60, Q61, HHeld, Q42, Q44, Q45, Q49, Q74, Q76. -/
import Derived.Test.YtfohpboikknknaaGreatDoorF2
import Derived.Test.YtfohpboikknknaaGreatDoorF3
namespace Go.Proofs.YtfohpboikknknaaGreatDoor.Q
open Go.RowKit Go.Proofs.YtfohpboikknknaaGreatDoorW.PrintWords Go.Proofs.YtfohpboikknknaaGreatDoorW.PrintLast Go.Proofs.YtfohpboikknknaaGreatDoorW.PrintMore
attribute [local go_sem] max2_int min2_int max_two min_two max_three min_three max_four min_four
set_option linter.unusedVariables false
set_option linter.unusedSimpArgs false
def spec_l1Put.l0 : Nat → List Int → Int → Int → Option (List Int)
 | 0, _, _, _ => none
 | k + 1, x0, x1, x5 => if x5 < (x0.length : Int) then (if 0 ≤ x5 then (if (rd x0 x5) < x1 then (spec_l1Put.l0 k x0 x1 (wrap64 (x5 + 1))) else (if (rd x0 x5) = x1 then (some x0) else ((some (([] : List Int) : List Int)).bind fun y108 => (if x5 ≤ (x0.length : Int) then ((some (x0.take (x5 : Int).toNat : List Int)).bind fun y111 => (if y108.length + y111.length < 17592186044416 then ((some (y108 ++ y111 : List Int)).bind fun y115 => (if y115.length < 17592186044416 then ((some (y115 ++ [x1] : List Int)).bind fun y118 => ((some (x0.drop (x5 : Int).toNat : List Int)).bind fun y121 => (if y118.length + y121.length < 17592186044416 then (some (y118 ++ y121)) else (none)))) else (none))) else (none))) else (none))))) else (none)) else ((some (([] : List Int) : List Int)).bind fun y128 => (if 0 ≤ x5 then (if x5 ≤ (x0.length : Int) then ((some (x0.take (x5 : Int).toNat : List Int)).bind fun y131 => (if y128.length + y131.length < 17592186044416 then ((some (y128 ++ y131 : List Int)).bind fun y135 => (if y135.length < 17592186044416 then ((some (y135 ++ [x1] : List Int)).bind fun y138 => ((some (x0.drop (x5 : Int).toNat : List Int)).bind fun y141 => (if y138.length + y141.length < 17592186044416 then (some (y138 ++ y141)) else (none)))) else (none))) else (none))) else (none)) else (none)))
def spec_l1Put.f (k : Nat) (l0 : List Int) (a1 : Int) : Option (List Int) := spec_l1Put.l0 k l0 a1 0
set_option maxHeartbeats 8000000 in
set_option maxRecDepth 100000 in
theorem spec_l1Put.calls (k : Nat) (P0_ : Nat → Prop) (u9000_ : Value) (l0 : List Int) (a1 : Int) (r : List Int) (w0 w : World) (hB : Below w0.heap.size w0 w) (ho0 : Kd.R (Kd.int .i64) 3 w w0.heap.size P0_ u9000_ l0) (h : spec_l1Put.f k l0 a1 = some r) :
  Calls Tryz.prog 195 #[u9000_, .int .i64 a1] w fun e w' => ∃ v0_ : Value, e = .returned (v0_) ∧ Kd.R (Kd.int .i64) 3 w' w0.heap.size (fun k_ => (P0_ k_ ∨ w.heap.size ≤ k_)) v0_ r ∧ Below w0.heap.size w0 w' ∧ Kept w w' (fun k_ => P0_ k_) := by
 have HO0 := Aside0.mk (show Kd.R (Kd.int .i64) 3 w w0.heap.size (fun k_ => (P0_ k_ ∨ w.heap.size ≤ k_)) u9000_ l0 from Kd.R_mono ho0 (fun k_ hk => (.inl hk)))
 have HK := Aside0.mk (Kept.refl w (fun k_ => P0_ k_))
 have HW0 := Aside0.mk hB.size
 have HB := Aside0.mk hB
 clear hB
 have H : (spec_l1Put.l0 k l0 a1 0) = some r := h
 clear h
 have H' := Aside0.mk H
 clear H
 go_enter Tryz.func195, Tryz.ntmps195
 go_wp2
 go_loopg [5] k (fun kq v5 w' => ∃ (x5_1 : Int), v5 = .int .i64 x5_1 ∧ Aside0 (spec_l1Put.l0 kq l0 a1 x5_1 = some r) ∧ Aside0 (kq ≤ k) ∧ Aside0 (Kd.R (Kd.int .i64) 3 w' w0.heap.size (fun k_ => (P0_ k_ ∨ w.heap.size ≤ k_)) u9000_ l0) ∧ Aside0 (Kept w w' (fun k_ => P0_ k_)) ∧ Aside0 (Below w0.heap.size w0 w'))
 case atStart => exact ⟨(0), Gtr.fr, H', ⟨Nat.le_refl _⟩, ⟨by (with_reducible repeat (first | apply Kd.R_alloc | apply Kd.R_drewN | apply Kd.R_drew)); exact HO0.out⟩, ⟨by repeat (first | (with_reducible first | exact HK.out | apply Kept.alloc | apply Kept.drewN | apply Kept.drew) | exact HK.out)⟩, ⟨(Gtr.bw HB.out)⟩⟩
 case round =>
  clear H'
  (try clear c1);(try clear p2)
  obtain ⟨x5_1, rfl, HA, HK1, HO_0, HK, HB⟩ := hrel
  cases gk with
  | zero => exact absurd HA.out (by simp [spec_l1Put.l0])
  | succ k1 =>
   have H := HA.out
   clear HA
   simp only [spec_l1Put.l0] at H
   by_cases c3 : x5_1 < (l0.length : Int)
   ·rw [if_pos c3] at H
    have c3b0 : decide (x5_1 < (l0.length : Int)) = true := decide_eq_true c3
    clear c3
    refine Or.elim (Classical.em (0 ≤ x5_1)) (fun c4 => ?_) (fun c4 => by rw [if_neg c4] at H; exact absurd H (by simp))
    rw [if_pos c4] at H
    have c4b0 : decide (0 ≤ x5_1) = true := decide_eq_true c4
    clear c4
    by_cases c5 : (rd l0 x5_1) < a1
    ·rw [if_pos c5] at H
     have c5b0 : decide ((rd l0 x5_1) < a1) = true := decide_eq_true c5
     clear c5
     have H' := Aside0.mk H
     clear H
     obtain ⟨Ao6, co6, eo6⟩ := Kd.R_slice HO_0.out
     subst eo6
     have p106 : 0 ≤ (x5_1 : Int) := Gtr.od
     have q106 : x5_1 < (l0.length : Int) := Gtr.od
     obtain ⟨ad106, e106, hx106_0⟩ := Kd.at_int (Kd.R_reads' HO_0.out).2.2 x5_1 p106 q106
     cases e106
     replace p106 := eq_true p106
     replace q106 := eq_true q106
     go_wp2
     go_roundg k1
     case measure => have := HK1.out; omega
     case rel => exact ⟨(wrap64 (x5_1 + 1)), Gtr.fr, H', ⟨by have := HK1.out; omega⟩, ⟨by (with_reducible repeat (first | apply Kd.R_alloc | apply Kd.R_drewN | apply Kd.R_drew)); exact HO_0.out⟩, ⟨by repeat (first | (with_reducible first | exact HK.out | apply Kept.alloc | apply Kept.drewN | apply Kept.drew) | exact HK.out)⟩, ⟨(Gtr.bw HB.out)⟩⟩
    ·rw [if_neg c5] at H
     have c5b0 : decide ((rd l0 x5_1) < a1) = false := decide_eq_false c5
     clear c5
     by_cases c7 : (rd l0 x5_1) = a1
     ·rw [if_pos c7] at H
      have c7b0 : ((rd l0 x5_1) == a1) = true := beq_iff_eq.mpr c7
      have c7b1 : ((rd l0 x5_1) != a1) = false := bne_eq_false_iff_eq.mpr c7
      clear c7
      obtain rfl := Option.some.inj H
      obtain ⟨Ao8, co8, eo8⟩ := Kd.R_slice HO_0.out
      subst eo8
      have p106 : 0 ≤ (x5_1 : Int) := Gtr.od
      have q106 : x5_1 < (l0.length : Int) := Gtr.od
      obtain ⟨ad106, e106, hx106_0⟩ := Kd.at_int (Kd.R_reads' HO_0.out).2.2 x5_1 p106 q106
      cases e106
      replace p106 := eq_true p106
      replace q106 := eq_true q106
      have p107 : 0 ≤ (x5_1 : Int) := Gtr.od
      have q107 : x5_1 < (l0.length : Int) := Gtr.od
      obtain ⟨ad107, e107, hx107_0⟩ := Kd.at_int (Kd.R_reads' HO_0.out).2.2 x5_1 p107 q107
      obtain rfl : ad106 = ad107 := (by injection e107)
      replace p107 := eq_true p107
      replace q107 := eq_true q107
      go_wp2
      go_ret
      exact ⟨_, Gtr.fe, by (with_reducible repeat (first | apply Kd.R_alloc | apply Kd.R_drewN | apply Kd.R_drew)); exact HO_0.out, (Gtr.bw HB.out), by repeat (first | (with_reducible first | exact HK.out | apply Kept.alloc | apply Kept.drewN | apply Kept.drew) | exact HK.out)⟩
     ·rw [if_neg c7] at H
      have c7b0 : ((rd l0 x5_1) == a1) = false := beq_eq_false_iff_ne.mpr c7
      have c7b1 : ((rd l0 x5_1) != a1) = true := bne_iff_ne.mpr c7
      obtain ⟨y108, hy108⟩ : ∃ y_ : List Int, y_ = (([] : List Int)) := ⟨_, rfl⟩
      replace H : (if x5_1 ≤ (l0.length : Int) then ((some (l0.take (x5_1 : Int).toNat : List Int)).bind fun y111 => (if y108.length + y111.length < 17592186044416 then ((some (y108 ++ y111 : List Int)).bind fun y115 => (if y115.length < 17592186044416 then ((some (y115 ++ [a1] : List Int)).bind fun y118 => ((some (l0.drop (x5_1 : Int).toNat : List Int)).bind fun y121 => (if y118.length + y121.length < 17592186044416 then (some (y118 ++ y121)) else (none)))) else (none))) else (none))) else (none)) = some r := by first | (rw [hy108]; with_reducible exact H) | (have H2_ := (Option.bind_some _ _).symm.trans H; rw [hy108]; with_reducible exact H2_) | (have H2_ := (Option.bind_some _ _).symm.trans H; with_reducible exact H2_) | with_reducible exact H | (rw [hy108]; exact H) | exact H
      have Ny108 := Aside0.mk hy108
      clear hy108
      have c9b0 := eq_true (Gtr.od : 0 ≤ x5_1)
      refine Or.elim (Classical.em (x5_1 ≤ (l0.length : Int))) (fun c10 => ?_) (fun c10 => by rw [if_neg c10] at H; exact absurd H (by simp))
      rw [if_pos c10] at H
      have c10b0 := eq_true c10
      have c10b1 : decide (x5_1 ≤ (l0.length : Int)) = true := decide_eq_true c10
      clear c10
      obtain ⟨y111, hy111⟩ : ∃ y_ : List Int, y_ = (l0.take (x5_1 : Int).toNat) := ⟨_, rfl⟩
      replace H : (if y108.length + y111.length < 17592186044416 then ((some (y108 ++ y111 : List Int)).bind fun y115 => (if y115.length < 17592186044416 then ((some (y115 ++ [a1] : List Int)).bind fun y118 => ((some (l0.drop (x5_1 : Int).toNat : List Int)).bind fun y121 => (if y118.length + y121.length < 17592186044416 then (some (y118 ++ y121)) else (none)))) else (none))) else (none)) = some r := by first | (rw [hy111]; with_reducible exact H) | (have H2_ := (Option.bind_some _ _).symm.trans H; rw [hy111]; with_reducible exact H2_) | (have H2_ := (Option.bind_some _ _).symm.trans H; with_reducible exact H2_) | with_reducible exact H | (rw [hy111]; exact H) | exact H
      have Ny111 := Aside0.mk hy111
      clear hy111
      refine Or.elim (Classical.em (y108.length + y111.length < 17592186044416)) (fun c11 => ?_) (fun c11 => by rw [if_neg c11] at H; exact absurd H (by simp))
      rw [if_pos c11] at H
      have LMc11 := Aside0.mk c11
      clear c11
      obtain ⟨y115, hy115⟩ : ∃ y_ : List Int, y_ = (y108 ++ y111) := ⟨_, rfl⟩
      replace H : (if y115.length < 17592186044416 then ((some (y115 ++ [a1] : List Int)).bind fun y118 => ((some (l0.drop (x5_1 : Int).toNat : List Int)).bind fun y121 => (if y118.length + y121.length < 17592186044416 then (some (y118 ++ y121)) else (none)))) else (none)) = some r := by first | (rw [hy115]; with_reducible exact H) | (have H2_ := (Option.bind_some _ _).symm.trans H; rw [hy115]; with_reducible exact H2_) | (have H2_ := (Option.bind_some _ _).symm.trans H; with_reducible exact H2_) | with_reducible exact H | (rw [hy115]; exact H) | exact H
      have Ny115 := Aside0.mk hy115
      clear hy115
      refine Or.elim (Classical.em (y115.length < 17592186044416)) (fun c12 => ?_) (fun c12 => by rw [if_neg c12] at H; exact absurd H (by simp))
      rw [if_pos c12] at H
      have LMc12 := Aside0.mk c12
      clear c12
      obtain ⟨y118, hy118⟩ : ∃ y_ : List Int, y_ = (y115 ++ [a1]) := ⟨_, rfl⟩
      replace H : ((some (l0.drop (x5_1 : Int).toNat : List Int)).bind fun y121 => (if y118.length + y121.length < 17592186044416 then (some (y118 ++ y121)) else (none))) = some r := by first | (rw [hy118]; with_reducible exact H) | (have H2_ := (Option.bind_some _ _).symm.trans H; rw [hy118]; with_reducible exact H2_) | (have H2_ := (Option.bind_some _ _).symm.trans H; with_reducible exact H2_) | with_reducible exact H | (rw [hy118]; exact H) | exact H
      have Ny118 := Aside0.mk hy118
      clear hy118
      have c13b0 := eq_true (Gtr.od : 0 ≤ x5_1)
      have c14b0 := eq_true (Gtr.od : x5_1 ≤ (l0.length : Int))
      obtain ⟨y121, hy121⟩ : ∃ y_ : List Int, y_ = (l0.drop (x5_1 : Int).toNat) := ⟨_, rfl⟩
      replace H : (if y118.length + y121.length < 17592186044416 then (some (y118 ++ y121)) else (none)) = some r := by first | (rw [hy121]; with_reducible exact H) | (have H2_ := (Option.bind_some _ _).symm.trans H; rw [hy121]; with_reducible exact H2_) | (have H2_ := (Option.bind_some _ _).symm.trans H; with_reducible exact H2_) | with_reducible exact H | (rw [hy121]; exact H) | exact H
      have Ny121 := Aside0.mk hy121
      clear hy121
      refine Or.elim (Classical.em (y118.length + y121.length < 17592186044416)) (fun c15 => ?_) (fun c15 => by rw [if_neg c15] at H; exact absurd H (by simp))
      rw [if_pos c15] at H
      have LMc15 := Aside0.mk c15
      clear c15
      obtain ⟨y125, hy125⟩ : ∃ y_ : List Int, y_ = (y118 ++ y121) := ⟨_, rfl⟩
      replace H : (some y125) = some r := by first | (rw [hy125]; with_reducible exact H) | (have H2_ := (Option.bind_some _ _).symm.trans H; rw [hy125]; with_reducible exact H2_) | (have H2_ := (Option.bind_some _ _).symm.trans H; with_reducible exact H2_) | with_reducible exact H | (rw [hy125]; exact H) | exact H
      have Ny125 := Aside0.mk hy125
      clear hy125
      obtain rfl := Option.some.inj H
      obtain ⟨Ao16, co16, eo16⟩ := Kd.R_slice HO_0.out
      subst eo16
      have p106 : 0 ≤ (x5_1 : Int) := Gtr.od
      have q106 : x5_1 < (l0.length : Int) := Gtr.od
      obtain ⟨ad106, e106, hx106_0⟩ := Kd.at_int (Kd.R_reads' HO_0.out).2.2 x5_1 p106 q106
      cases e106
      replace p106 := eq_true p106
      replace q106 := eq_true q106
      have p107 : 0 ≤ (x5_1 : Int) := Gtr.od
      have q107 : x5_1 < (l0.length : Int) := Gtr.od
      obtain ⟨ad107, e107, hx107_0⟩ := Kd.at_int (Kd.R_reads' HO_0.out).2.2 x5_1 p107 q107
      obtain rfl : ad106 = ad107 := (by injection e107)
      replace p107 := eq_true p107
      replace q107 := eq_true q107
      go_wp2_with (first | ((with_reducible refine gate_dst (N := 34) rfl ?_); refine Kd.R_lit (Kd.int .i64) _ 3 ?hg (N := 34) ?hd (xs := ([] : List Int)) (inner := []) (ok := fun _ => True) (okp := fun _ => True) ?hr ?hp (fun _ hk => hk) trivial (Below.refl _ _) (Nat.le_refl _) (by simp) ?_; (case hd => rfl); (case hg => rfl); (case hr => first | (go_simp; done) | (go_simp; rfl)); (case hp => exact (Reps.none _ _)); intro v109 w17 ho18 hb hg_ hnew_; clear hg_ hnew_; (first | rw [← Ny108.out] at ho18 | (simp only [Int.reduceToNat] at ho18; rw [← Ny108.out] at ho18)); have HO110 := Aside0.mk (Kd.R_lower (Kd.R_new' (Kd.R_newM (M := fun k_ => (P0_ k_ ∨ w.heap.size ≤ k_)) ho18 (by first | exact HK.out.1 | exact (show Kept w _ (fun k_ => P0_ k_) from by repeat (first | (with_reducible first | exact HK.out | apply Kept.alloc | apply Kept.drewN | apply Kept.drew) | exact HK.out)).1) (fun k_ h_ => .inr h_)) (Kd.R_lt (by (with_reducible repeat (first | apply Kd.R_alloc | apply Kd.R_drewN | apply Kd.R_drew)); exact HO_0.out))) (below_size (Gtr.bw HB.out))); replace HO_0 := Aside0.mk (Kd.R_elder' (by (with_reducible repeat (first | apply Kd.R_alloc | apply Kd.R_drewN | apply Kd.R_drew)); exact HO_0.out) (Kd.R_base ho18) hb); replace HK := Aside0.mk (Kept.below (S := (fun k_ => P0_ k_)) (by repeat (first | (with_reducible first | exact HK.out | apply Kept.alloc | apply Kept.drewN | apply Kept.drew) | exact HK.out)) hb); replace HB := Aside0.mk (below_step (Gtr.bw HB.out) hb); clear hb ho18; have q19 : (x5_1 : Int) ≤ ((l0.length : Int) : Int) := Gtr.od; obtain ⟨i019, hi019, _, hsz19, _⟩ := info_parts info3; have hroom19 : l0.length ≤ co16 := (Kd.R_reads' HO_0.out).2.1; have hC19 : Kd.C (Kd.int .i64) _ (some ad106) l0.length l0 := (Kd.R_reads' HO_0.out).2.2; have hcut19 := cut_to (P := Tryz.prog) 28 3 .i64 Tryz.underlying28 hi019 (some ad106) l0.length co16 x5_1 (Gtr.od) q19 hroom19; have hr19 := Kd.C_take (m := (x5_1 : Int).toNat) hC19 (by omega); have hy19 : y111.length = (x5_1 : Int).toNat := (by rw [Ny111.out, List.length_take]; omega); rw [← Ny111.out] at hr19; rw [← hy19] at hcut19; have HR114 := Aside0.mk hr19; have HC114 := Aside0.mk (show y111.length ≤ co16 from by omega); clear hr19 hC19 hroom19 hi019 hsz19; have KY19 := Aside0.mk hy19; clear hy19; have KL19 := Aside0.mk (show (x5_1 : Int).toNat ≤ l0.length from by omega); replace q19 := eq_true q19) | ((with_reducible refine gate_builtin (b := .append) (xs := #[.tmp 34, .tmp 37]) rfl ?_); at_builtin; refine Kd.R_append_rows (Kd.int .i64) (w0 := w0) w0.heap.size rfl (.tmp 34) (.tmp 37) 28 3 (.int .i64 0) 8 rfl Tryz.underlying28 info3 rfl (by decide) (by omega) v109 y108 y111 _ _ _ (fun k_ => (P0_ k_ ∨ w.heap.size ≤ k_) ∧ some k_ ≠ (.slice (some ad106) l0.length co16 : Value).ownBlock) (fun _ => False) rfl rfl ?aO ?aR (fun _ _ h => h) (fun _ h => h.elim) ?aF ?aB ?aS ?aL ?_; (case aR => repeat (first | exact (by repeat (first | (with_reducible exact HR114.out) | (with_reducible refine Kd.C_alloc ?_ _) | (with_reducible refine Kd.C_drewN ?_ _) | (with_reducible refine Kd.C_drew ?_) | exact HR114.out)) | (with_reducible refine Kd.C_alloc ?_ _) | (with_reducible refine Kd.C_drewN ?_ _) | (with_reducible refine Kd.C_drew ?_))); (case aB => exact (Gtr.bw HB.out)); (case aF => exact (fun k_ hk => ⟨(.inr (Nat.le_trans (by first | exact HK.out.1 | exact (show Kept w _ (fun k_ => P0_ k_) from by repeat (first | (with_reducible first | exact HK.out | apply Kept.alloc | apply Kept.drewN | apply Kept.drew) | exact HK.out)).1) hk)), Kd.fresh' (Kd.R_lt (by (with_reducible repeat (first | apply Kd.R_alloc | apply Kd.R_drewN | apply Kd.R_drew)); exact HO_0.out)) k_ hk⟩)); (case aO => exact (by (with_reducible repeat (first | apply Kd.R_alloc | apply Kd.R_drewN | apply Kd.R_drew)); exact Kd.R_mono HO110.out (fun _ hk => ⟨hk.1.1, hk.2⟩))); (case aS => exact (below_size (Gtr.bw HB.out))); (case aL => have := LMc11.out; omega); intro v116 w20 ho hb hg hat; rw [← Ny115.out] at ho; replace HB := Aside0.mk (hb); replace HK := Aside0.mk (Kept.of_grown (S := (fun k_ => P0_ k_)) hg (by repeat (first | (with_reducible first | exact HK.out | apply Kept.alloc | apply Kept.drewN | apply Kept.drew) | exact HK.out)) (fun k_ e_ => (HO110.out.1 k_ e_).1.1)); replace HR114 := Aside0.mk ((show Kd.C (Kd.int .i64) w20 (some ad106) y111.length y111 from by rw [Ny111.out]; exact Kd.C_take (m := (x5_1 : Int).toNat) ((Kd.R_reads' (Kd.R_after (ok := (fun k_ => (P0_ k_ ∨ w.heap.size ≤ k_))) (by (with_reducible repeat (first | apply Kd.R_alloc | apply Kd.R_drewN | apply Kd.R_drew)); exact HO_0.out) hg hat)).2.2) KL19.out)); replace HO_0 := Aside0.mk (Kd.R_after (ok := (fun k_ => (P0_ k_ ∨ w.heap.size ≤ k_))) (by (with_reducible repeat (first | apply Kd.R_alloc | apply Kd.R_drewN | apply Kd.R_drew)); exact HO_0.out) hg hat); have HO117 := Aside0.mk (ho); clear HO110; clear ho hb hg hat) | ((with_reducible refine gate_builtin (b := .append) (xs := #[.tmp 39, .tmp 41]) rfl ?_); at_builtin; refine Kd.R_append (Kd.int .i64) (w0 := w0) w0.heap.size rfl (.tmp 39) (.tmp 41) 28 3 (.int .i64 0) 8 rfl Tryz.underlying28 info3 rfl (by decide) (by omega) v116 y115 a1 [.int .i64 a1] (fun k_ => (P0_ k_ ∨ w.heap.size ≤ k_) ∧ some k_ ≠ (.slice (some ad106) l0.length co16 : Value).ownBlock) (fun _ => False) rfl rfl ?aP (fun _ hk => hk.elim) ?aF ?aO ?aB ?aS ?aL ?_; (case aP => exact rfl); (case aB => exact (Gtr.bw HB.out)); (case aF => exact (fun k_ hk => ⟨(.inr (Nat.le_trans (by first | exact HK.out.1 | exact (show Kept w _ (fun k_ => P0_ k_) from by repeat (first | (with_reducible first | exact HK.out | apply Kept.alloc | apply Kept.drewN | apply Kept.drew) | exact HK.out)).1) hk)), Kd.fresh' (Kd.R_lt (by (with_reducible repeat (first | apply Kd.R_alloc | apply Kd.R_drewN | apply Kd.R_drew)); exact HO_0.out)) k_ hk⟩)); (case aO => exact (by (with_reducible repeat (first | apply Kd.R_alloc | apply Kd.R_drewN | apply Kd.R_drew)); exact HO117.out)); (case aS => exact (below_size (Gtr.bw HB.out))); (case aL => have := LMc12.out; omega); intro v119 w21 ho hb hg hat; rw [← Ny118.out] at ho; replace HB := Aside0.mk (hb); replace HK := Aside0.mk (Kept.of_grown (S := (fun k_ => P0_ k_)) hg (by repeat (first | (with_reducible first | exact HK.out | apply Kept.alloc | apply Kept.drewN | apply Kept.drew) | exact HK.out)) (fun k_ e_ => (HO117.out.1 k_ e_).1)); replace HR114 := Aside0.mk ((show Kd.C (Kd.int .i64) w21 (some ad106) y111.length y111 from by rw [Ny111.out]; exact Kd.C_take (m := (x5_1 : Int).toNat) ((Kd.R_reads' (Kd.R_after (ok := (fun k_ => (P0_ k_ ∨ w.heap.size ≤ k_))) (by (with_reducible repeat (first | apply Kd.R_alloc | apply Kd.R_drewN | apply Kd.R_drew)); exact HO_0.out) hg hat)).2.2) KL19.out)); replace HO_0 := Aside0.mk (Kd.R_after (ok := (fun k_ => (P0_ k_ ∨ w.heap.size ≤ k_))) (by (with_reducible repeat (first | apply Kd.R_alloc | apply Kd.R_drewN | apply Kd.R_drew)); exact HO_0.out) hg hat); have HO120 := Aside0.mk (ho); clear HO117; clear ho hb hg hat; have q22 : (x5_1 : Int) ≤ ((l0.length : Int) : Int) := Gtr.od; obtain ⟨i022, hi022, _, hsz22, _⟩ := info_parts info3; have hroom22 : l0.length ≤ co16 := (Kd.R_reads' HO_0.out).2.1; have hC22 : Kd.C (Kd.int .i64) _ (some ad106) l0.length l0 := (Kd.R_reads' HO_0.out).2.2; have q022 : (0 : Int) ≤ (x5_1 : Int) := Gtr.od; have hcut22 := cut_from (P := Tryz.prog) 28 3 .i64 Tryz.underlying28 hi022 1 hsz22 (some ad106) l0.length co16 x5_1 q022 q22; have hr22 := Kd.C_drop (m := (x5_1 : Int).toNat) (c := co16) hC22 (by omega) hroom22; obtain ⟨A22, hA22⟩ : ∃ A1, A1 = (if co16 = (x5_1 : Int).toNat then (some ad106) else ((some ad106) : Option Addr).map (·.add ((x5_1 : Int).toNat * 1))) := ⟨_, rfl⟩; obtain ⟨c22, hc22⟩ : ∃ c1, c1 = co16 - (x5_1 : Int).toNat := ⟨_, rfl⟩; have hy22 : y121.length = l0.length - (x5_1 : Int).toNat := (by rw [Ny121.out, List.length_drop] <;> omega); rw [show (l0).drop (x5_1 : Int).toNat = y121 from Ny121.out.symm] at hr22; replace hr22 : Kd.C (Kd.int .i64) _ A22 y121.length y121 := (by rw [hA22]; exact hr22); rw [← hy22, ← hA22, ← hc22] at hcut22; have HR124 := Aside0.mk hr22; have HC124 := Aside0.mk (show y121.length ≤ c22 from by rw [hy22, hc22]; exact Nat.sub_le_sub_right hroom22 _); clear hr22 hC22 hroom22 hi022 hsz22 hc22; have KY22 := Aside0.mk hy22; have KA22 := Aside0.mk hA22; clear hy22 hA22; have KL22 := Aside0.mk (show (x5_1 : Int).toNat ≤ l0.length from by omega); replace q22 := eq_true q22) | ((with_reducible refine gate_builtin (b := .append) (xs := #[.tmp 43, .tmp 46]) rfl ?_); at_builtin; refine Kd.R_append_rows (Kd.int .i64) (w0 := w0) w0.heap.size rfl (.tmp 43) (.tmp 46) 28 3 (.int .i64 0) 8 rfl Tryz.underlying28 info3 rfl (by decide) (by omega) v119 y118 y121 _ _ _ (fun k_ => (P0_ k_ ∨ w.heap.size ≤ k_) ∧ some k_ ≠ (.slice (some ad106) l0.length co16 : Value).ownBlock) (fun _ => False) rfl rfl ?aO ?aR (fun _ _ h => h) (fun _ h => h.elim) ?aF ?aB ?aS ?aL ?_; (case aR => repeat (first | exact (by repeat (first | (with_reducible exact HR124.out) | (with_reducible refine Kd.C_alloc ?_ _) | (with_reducible refine Kd.C_drewN ?_ _) | (with_reducible refine Kd.C_drew ?_) | exact HR124.out)) | (with_reducible refine Kd.C_alloc ?_ _) | (with_reducible refine Kd.C_drewN ?_ _) | (with_reducible refine Kd.C_drew ?_))); (case aB => exact (Gtr.bw HB.out)); (case aF => exact (fun k_ hk => ⟨(.inr (Nat.le_trans (by first | exact HK.out.1 | exact (show Kept w _ (fun k_ => P0_ k_) from by repeat (first | (with_reducible first | exact HK.out | apply Kept.alloc | apply Kept.drewN | apply Kept.drew) | exact HK.out)).1) hk)), Kd.fresh' (Kd.R_lt (by (with_reducible repeat (first | apply Kd.R_alloc | apply Kd.R_drewN | apply Kd.R_drew)); exact HO_0.out)) k_ hk⟩)); (case aO => exact (by (with_reducible repeat (first | apply Kd.R_alloc | apply Kd.R_drewN | apply Kd.R_drew)); exact HO120.out)); (case aS => exact (below_size (Gtr.bw HB.out))); (case aL => have := LMc15.out; omega); intro v126 w23 ho hb hg hat; rw [← Ny125.out] at ho; replace HB := Aside0.mk (hb); replace HK := Aside0.mk (Kept.of_grown (S := (fun k_ => P0_ k_)) hg (by repeat (first | (with_reducible first | exact HK.out | apply Kept.alloc | apply Kept.drewN | apply Kept.drew) | exact HK.out)) (fun k_ e_ => (HO120.out.1 k_ e_).1)); replace HR114 := Aside0.mk ((show Kd.C (Kd.int .i64) w23 (some ad106) y111.length y111 from by rw [Ny111.out]; exact Kd.C_take (m := (x5_1 : Int).toNat) ((Kd.R_reads' (Kd.R_after (ok := (fun k_ => (P0_ k_ ∨ w.heap.size ≤ k_))) (by (with_reducible repeat (first | apply Kd.R_alloc | apply Kd.R_drewN | apply Kd.R_drew)); exact HO_0.out) hg hat)).2.2) KL19.out)); replace HR124 := Aside0.mk ((show Kd.C (Kd.int .i64) w23 A22 y121.length y121 from by rw [Ny121.out, KA22.out]; exact Kd.C_drop (m := (x5_1 : Int).toNat) (c := co16) ((Kd.R_reads' (Kd.R_after (ok := (fun k_ => (P0_ k_ ∨ w.heap.size ≤ k_))) (by (with_reducible repeat (first | apply Kd.R_alloc | apply Kd.R_drewN | apply Kd.R_drew)); exact HO_0.out) hg hat)).2.2) KL22.out ((Kd.R_reads' (Kd.R_after (ok := (fun k_ => (P0_ k_ ∨ w.heap.size ≤ k_))) (by (with_reducible repeat (first | apply Kd.R_alloc | apply Kd.R_drewN | apply Kd.R_drew)); exact HO_0.out) hg hat)).2.1))); replace HO_0 := Aside0.mk (Kd.R_after (ok := (fun k_ => (P0_ k_ ∨ w.heap.size ≤ k_))) (by (with_reducible repeat (first | apply Kd.R_alloc | apply Kd.R_drewN | apply Kd.R_drew)); exact HO_0.out) hg hat); have HO127 := Aside0.mk (ho); clear HO120; clear ho hb hg hat))
      go_ret
      exact ⟨_, Gtr.fe, by (with_reducible repeat (first | apply Kd.R_alloc | apply Kd.R_drewN | apply Kd.R_drew)); exact Kd.R_mono HO127.out (fun _ hk => hk.1), (Gtr.bw HB.out), by repeat (first | (with_reducible first | exact HK.out | apply Kept.alloc | apply Kept.drewN | apply Kept.drew) | exact HK.out)⟩
   ·rw [if_neg c3] at H
    have c3b0 : decide (x5_1 < (l0.length : Int)) = false := decide_eq_false c3
    clear c3
    obtain ⟨y128, hy128⟩ : ∃ y_ : List Int, y_ = (([] : List Int)) := ⟨_, rfl⟩
    replace H : (if 0 ≤ x5_1 then (if x5_1 ≤ (l0.length : Int) then ((some (l0.take (x5_1 : Int).toNat : List Int)).bind fun y131 => (if y128.length + y131.length < 17592186044416 then ((some (y128 ++ y131 : List Int)).bind fun y135 => (if y135.length < 17592186044416 then ((some (y135 ++ [a1] : List Int)).bind fun y138 => ((some (l0.drop (x5_1 : Int).toNat : List Int)).bind fun y141 => (if y138.length + y141.length < 17592186044416 then (some (y138 ++ y141)) else (none)))) else (none))) else (none))) else (none)) else (none)) = some r := by first | (rw [hy128]; with_reducible exact H) | (have H2_ := (Option.bind_some _ _).symm.trans H; rw [hy128]; with_reducible exact H2_) | (have H2_ := (Option.bind_some _ _).symm.trans H; with_reducible exact H2_) | with_reducible exact H | (rw [hy128]; exact H) | exact H
    have Ny128 := Aside0.mk hy128
    clear hy128
    refine Or.elim (Classical.em (0 ≤ x5_1)) (fun c24 => ?_) (fun c24 => by rw [if_neg c24] at H; exact absurd H (by simp))
    rw [if_pos c24] at H
    have c24b0 := eq_true c24
    have c24b1 : decide (0 ≤ x5_1) = true := decide_eq_true c24
    clear c24
    refine Or.elim (Classical.em (x5_1 ≤ (l0.length : Int))) (fun c25 => ?_) (fun c25 => by rw [if_neg c25] at H; exact absurd H (by simp))
    rw [if_pos c25] at H
    have c25b0 := eq_true c25
    have c25b1 : decide (x5_1 ≤ (l0.length : Int)) = true := decide_eq_true c25
    clear c25
    obtain ⟨y131, hy131⟩ : ∃ y_ : List Int, y_ = (l0.take (x5_1 : Int).toNat) := ⟨_, rfl⟩
    replace H : (if y128.length + y131.length < 17592186044416 then ((some (y128 ++ y131 : List Int)).bind fun y135 => (if y135.length < 17592186044416 then ((some (y135 ++ [a1] : List Int)).bind fun y138 => ((some (l0.drop (x5_1 : Int).toNat : List Int)).bind fun y141 => (if y138.length + y141.length < 17592186044416 then (some (y138 ++ y141)) else (none)))) else (none))) else (none)) = some r := by first | (rw [hy131]; with_reducible exact H) | (have H2_ := (Option.bind_some _ _).symm.trans H; rw [hy131]; with_reducible exact H2_) | (have H2_ := (Option.bind_some _ _).symm.trans H; with_reducible exact H2_) | with_reducible exact H | (rw [hy131]; exact H) | exact H
    have Ny131 := Aside0.mk hy131
    clear hy131
    refine Or.elim (Classical.em (y128.length + y131.length < 17592186044416)) (fun c26 => ?_) (fun c26 => by rw [if_neg c26] at H; exact absurd H (by simp))
    rw [if_pos c26] at H
    have LMc26 := Aside0.mk c26
    clear c26
    obtain ⟨y135, hy135⟩ : ∃ y_ : List Int, y_ = (y128 ++ y131) := ⟨_, rfl⟩
    replace H : (if y135.length < 17592186044416 then ((some (y135 ++ [a1] : List Int)).bind fun y138 => ((some (l0.drop (x5_1 : Int).toNat : List Int)).bind fun y141 => (if y138.length + y141.length < 17592186044416 then (some (y138 ++ y141)) else (none)))) else (none)) = some r := by first | (rw [hy135]; with_reducible exact H) | (have H2_ := (Option.bind_some _ _).symm.trans H; rw [hy135]; with_reducible exact H2_) | (have H2_ := (Option.bind_some _ _).symm.trans H; with_reducible exact H2_) | with_reducible exact H | (rw [hy135]; exact H) | exact H
    have Ny135 := Aside0.mk hy135
    clear hy135
    refine Or.elim (Classical.em (y135.length < 17592186044416)) (fun c27 => ?_) (fun c27 => by rw [if_neg c27] at H; exact absurd H (by simp))
    rw [if_pos c27] at H
    have LMc27 := Aside0.mk c27
    clear c27
    obtain ⟨y138, hy138⟩ : ∃ y_ : List Int, y_ = (y135 ++ [a1]) := ⟨_, rfl⟩
    replace H : ((some (l0.drop (x5_1 : Int).toNat : List Int)).bind fun y141 => (if y138.length + y141.length < 17592186044416 then (some (y138 ++ y141)) else (none))) = some r := by first | (rw [hy138]; with_reducible exact H) | (have H2_ := (Option.bind_some _ _).symm.trans H; rw [hy138]; with_reducible exact H2_) | (have H2_ := (Option.bind_some _ _).symm.trans H; with_reducible exact H2_) | with_reducible exact H | (rw [hy138]; exact H) | exact H
    have Ny138 := Aside0.mk hy138
    clear hy138
    have c28b0 := eq_true (Gtr.od : 0 ≤ x5_1)
    have c29b0 := eq_true (Gtr.od : x5_1 ≤ (l0.length : Int))
    obtain ⟨y141, hy141⟩ : ∃ y_ : List Int, y_ = (l0.drop (x5_1 : Int).toNat) := ⟨_, rfl⟩
    replace H : (if y138.length + y141.length < 17592186044416 then (some (y138 ++ y141)) else (none)) = some r := by first | (rw [hy141]; with_reducible exact H) | (have H2_ := (Option.bind_some _ _).symm.trans H; rw [hy141]; with_reducible exact H2_) | (have H2_ := (Option.bind_some _ _).symm.trans H; with_reducible exact H2_) | with_reducible exact H | (rw [hy141]; exact H) | exact H
    have Ny141 := Aside0.mk hy141
    clear hy141
    refine Or.elim (Classical.em (y138.length + y141.length < 17592186044416)) (fun c30 => ?_) (fun c30 => by rw [if_neg c30] at H; exact absurd H (by simp))
    rw [if_pos c30] at H
    have LMc30 := Aside0.mk c30
    clear c30
    obtain ⟨y145, hy145⟩ : ∃ y_ : List Int, y_ = (y138 ++ y141) := ⟨_, rfl⟩
    replace H : (some y145) = some r := by first | (rw [hy145]; with_reducible exact H) | (have H2_ := (Option.bind_some _ _).symm.trans H; rw [hy145]; with_reducible exact H2_) | (have H2_ := (Option.bind_some _ _).symm.trans H; with_reducible exact H2_) | with_reducible exact H | (rw [hy145]; exact H) | exact H
    have Ny145 := Aside0.mk hy145
    clear hy145
    obtain rfl := Option.some.inj H
    obtain ⟨Ao31, co31, eo31⟩ := Kd.R_slice HO_0.out
    subst eo31
    go_wp2_with (first | ((with_reducible refine gate_dst (N := 34) rfl ?_); refine Kd.R_lit (Kd.int .i64) _ 3 ?hg (N := 34) ?hd (xs := ([] : List Int)) (inner := []) (ok := fun _ => True) (okp := fun _ => True) ?hr ?hp (fun _ hk => hk) trivial (Below.refl _ _) (Nat.le_refl _) (by simp) ?_; (case hd => rfl); (case hg => rfl); (case hr => first | (go_simp; done) | (go_simp; rfl)); (case hp => exact (Reps.none _ _)); intro v129 w32 ho33 hb hg_ hnew_; clear hg_ hnew_; (first | rw [← Ny128.out] at ho33 | (simp only [Int.reduceToNat] at ho33; rw [← Ny128.out] at ho33)); have HO130 := Aside0.mk (Kd.R_lower (Kd.R_new' (Kd.R_newM (M := fun k_ => (P0_ k_ ∨ w.heap.size ≤ k_)) ho33 (by first | exact HK.out.1 | exact (show Kept w _ (fun k_ => P0_ k_) from by repeat (first | (with_reducible first | exact HK.out | apply Kept.alloc | apply Kept.drewN | apply Kept.drew) | exact HK.out)).1) (fun k_ h_ => .inr h_)) (Kd.R_lt (by (with_reducible repeat (first | apply Kd.R_alloc | apply Kd.R_drewN | apply Kd.R_drew)); exact HO_0.out))) (below_size (Gtr.bw HB.out))); replace HO_0 := Aside0.mk (Kd.R_elder' (by (with_reducible repeat (first | apply Kd.R_alloc | apply Kd.R_drewN | apply Kd.R_drew)); exact HO_0.out) (Kd.R_base ho33) hb); replace HK := Aside0.mk (Kept.below (S := (fun k_ => P0_ k_)) (by repeat (first | (with_reducible first | exact HK.out | apply Kept.alloc | apply Kept.drewN | apply Kept.drew) | exact HK.out)) hb); replace HB := Aside0.mk (below_step (Gtr.bw HB.out) hb); clear hb ho33; have q34 : (x5_1 : Int) ≤ ((l0.length : Int) : Int) := Gtr.od; obtain ⟨i034, hi034, _, hsz34, _⟩ := info_parts info3; have hroom34 : l0.length ≤ co31 := (Kd.R_reads' HO_0.out).2.1; have hC34 : Kd.C (Kd.int .i64) _ Ao31 l0.length l0 := (Kd.R_reads' HO_0.out).2.2; have hcut34 := cut_to (P := Tryz.prog) 28 3 .i64 Tryz.underlying28 hi034 Ao31 l0.length co31 x5_1 (Gtr.od) q34 hroom34; have hr34 := Kd.C_take (m := (x5_1 : Int).toNat) hC34 (by omega); have hy34 : y131.length = (x5_1 : Int).toNat := (by rw [Ny131.out, List.length_take]; omega); rw [← Ny131.out] at hr34; rw [← hy34] at hcut34; have HR134 := Aside0.mk hr34; have HC134 := Aside0.mk (show y131.length ≤ co31 from by omega); clear hr34 hC34 hroom34 hi034 hsz34; have KY34 := Aside0.mk hy34; clear hy34; have KL34 := Aside0.mk (show (x5_1 : Int).toNat ≤ l0.length from by omega); replace q34 := eq_true q34) | ((with_reducible refine gate_builtin (b := .append) (xs := #[.tmp 34, .tmp 37]) rfl ?_); at_builtin; refine Kd.R_append_rows (Kd.int .i64) (w0 := w0) w0.heap.size rfl (.tmp 34) (.tmp 37) 28 3 (.int .i64 0) 8 rfl Tryz.underlying28 info3 rfl (by decide) (by omega) v129 y128 y131 _ _ _ (fun k_ => (P0_ k_ ∨ w.heap.size ≤ k_) ∧ some k_ ≠ (.slice Ao31 l0.length co31 : Value).ownBlock) (fun _ => False) rfl rfl ?aO ?aR (fun _ _ h => h) (fun _ h => h.elim) ?aF ?aB ?aS ?aL ?_; (case aR => repeat (first | exact (by repeat (first | (with_reducible exact HR134.out) | (with_reducible refine Kd.C_alloc ?_ _) | (with_reducible refine Kd.C_drewN ?_ _) | (with_reducible refine Kd.C_drew ?_) | exact HR134.out)) | (with_reducible refine Kd.C_alloc ?_ _) | (with_reducible refine Kd.C_drewN ?_ _) | (with_reducible refine Kd.C_drew ?_))); (case aB => exact (Gtr.bw HB.out)); (case aF => exact (fun k_ hk => ⟨(.inr (Nat.le_trans (by first | exact HK.out.1 | exact (show Kept w _ (fun k_ => P0_ k_) from by repeat (first | (with_reducible first | exact HK.out | apply Kept.alloc | apply Kept.drewN | apply Kept.drew) | exact HK.out)).1) hk)), Kd.fresh' (Kd.R_lt (by (with_reducible repeat (first | apply Kd.R_alloc | apply Kd.R_drewN | apply Kd.R_drew)); exact HO_0.out)) k_ hk⟩)); (case aO => exact (by (with_reducible repeat (first | apply Kd.R_alloc | apply Kd.R_drewN | apply Kd.R_drew)); exact Kd.R_mono HO130.out (fun _ hk => ⟨hk.1.1, hk.2⟩))); (case aS => exact (below_size (Gtr.bw HB.out))); (case aL => have := LMc26.out; omega); intro v136 w35 ho hb hg hat; rw [← Ny135.out] at ho; replace HB := Aside0.mk (hb); replace HK := Aside0.mk (Kept.of_grown (S := (fun k_ => P0_ k_)) hg (by repeat (first | (with_reducible first | exact HK.out | apply Kept.alloc | apply Kept.drewN | apply Kept.drew) | exact HK.out)) (fun k_ e_ => (HO130.out.1 k_ e_).1.1)); replace HR134 := Aside0.mk ((show Kd.C (Kd.int .i64) w35 Ao31 y131.length y131 from by rw [Ny131.out]; exact Kd.C_take (m := (x5_1 : Int).toNat) ((Kd.R_reads' (Kd.R_after (ok := (fun k_ => (P0_ k_ ∨ w.heap.size ≤ k_))) (by (with_reducible repeat (first | apply Kd.R_alloc | apply Kd.R_drewN | apply Kd.R_drew)); exact HO_0.out) hg hat)).2.2) KL34.out)); replace HO_0 := Aside0.mk (Kd.R_after (ok := (fun k_ => (P0_ k_ ∨ w.heap.size ≤ k_))) (by (with_reducible repeat (first | apply Kd.R_alloc | apply Kd.R_drewN | apply Kd.R_drew)); exact HO_0.out) hg hat); have HO137 := Aside0.mk (ho); clear HO130; clear ho hb hg hat) | ((with_reducible refine gate_builtin (b := .append) (xs := #[.tmp 39, .tmp 41]) rfl ?_); at_builtin; refine Kd.R_append (Kd.int .i64) (w0 := w0) w0.heap.size rfl (.tmp 39) (.tmp 41) 28 3 (.int .i64 0) 8 rfl Tryz.underlying28 info3 rfl (by decide) (by omega) v136 y135 a1 [.int .i64 a1] (fun k_ => (P0_ k_ ∨ w.heap.size ≤ k_) ∧ some k_ ≠ (.slice Ao31 l0.length co31 : Value).ownBlock) (fun _ => False) rfl rfl ?aP (fun _ hk => hk.elim) ?aF ?aO ?aB ?aS ?aL ?_; (case aP => exact rfl); (case aB => exact (Gtr.bw HB.out)); (case aF => exact (fun k_ hk => ⟨(.inr (Nat.le_trans (by first | exact HK.out.1 | exact (show Kept w _ (fun k_ => P0_ k_) from by repeat (first | (with_reducible first | exact HK.out | apply Kept.alloc | apply Kept.drewN | apply Kept.drew) | exact HK.out)).1) hk)), Kd.fresh' (Kd.R_lt (by (with_reducible repeat (first | apply Kd.R_alloc | apply Kd.R_drewN | apply Kd.R_drew)); exact HO_0.out)) k_ hk⟩)); (case aO => exact (by (with_reducible repeat (first | apply Kd.R_alloc | apply Kd.R_drewN | apply Kd.R_drew)); exact HO137.out)); (case aS => exact (below_size (Gtr.bw HB.out))); (case aL => have := LMc27.out; omega); intro v139 w36 ho hb hg hat; rw [← Ny138.out] at ho; replace HB := Aside0.mk (hb); replace HK := Aside0.mk (Kept.of_grown (S := (fun k_ => P0_ k_)) hg (by repeat (first | (with_reducible first | exact HK.out | apply Kept.alloc | apply Kept.drewN | apply Kept.drew) | exact HK.out)) (fun k_ e_ => (HO137.out.1 k_ e_).1)); replace HR134 := Aside0.mk ((show Kd.C (Kd.int .i64) w36 Ao31 y131.length y131 from by rw [Ny131.out]; exact Kd.C_take (m := (x5_1 : Int).toNat) ((Kd.R_reads' (Kd.R_after (ok := (fun k_ => (P0_ k_ ∨ w.heap.size ≤ k_))) (by (with_reducible repeat (first | apply Kd.R_alloc | apply Kd.R_drewN | apply Kd.R_drew)); exact HO_0.out) hg hat)).2.2) KL34.out)); replace HO_0 := Aside0.mk (Kd.R_after (ok := (fun k_ => (P0_ k_ ∨ w.heap.size ≤ k_))) (by (with_reducible repeat (first | apply Kd.R_alloc | apply Kd.R_drewN | apply Kd.R_drew)); exact HO_0.out) hg hat); have HO140 := Aside0.mk (ho); clear HO137; clear ho hb hg hat; have q37 : (x5_1 : Int) ≤ ((l0.length : Int) : Int) := Gtr.od; obtain ⟨i037, hi037, _, hsz37, _⟩ := info_parts info3; have hroom37 : l0.length ≤ co31 := (Kd.R_reads' HO_0.out).2.1; have hC37 : Kd.C (Kd.int .i64) _ Ao31 l0.length l0 := (Kd.R_reads' HO_0.out).2.2; have q037 : (0 : Int) ≤ (x5_1 : Int) := Gtr.od; have hcut37 := cut_from (P := Tryz.prog) 28 3 .i64 Tryz.underlying28 hi037 1 hsz37 Ao31 l0.length co31 x5_1 q037 q37; have hr37 := Kd.C_drop (m := (x5_1 : Int).toNat) (c := co31) hC37 (by omega) hroom37; obtain ⟨A37, hA37⟩ : ∃ A1, A1 = (if co31 = (x5_1 : Int).toNat then Ao31 else (Ao31 : Option Addr).map (·.add ((x5_1 : Int).toNat * 1))) := ⟨_, rfl⟩; obtain ⟨c37, hc37⟩ : ∃ c1, c1 = co31 - (x5_1 : Int).toNat := ⟨_, rfl⟩; have hy37 : y141.length = l0.length - (x5_1 : Int).toNat := (by rw [Ny141.out, List.length_drop] <;> omega); rw [show (l0).drop (x5_1 : Int).toNat = y141 from Ny141.out.symm] at hr37; replace hr37 : Kd.C (Kd.int .i64) _ A37 y141.length y141 := (by rw [hA37]; exact hr37); rw [← hy37, ← hA37, ← hc37] at hcut37; have HR144 := Aside0.mk hr37; have HC144 := Aside0.mk (show y141.length ≤ c37 from by rw [hy37, hc37]; exact Nat.sub_le_sub_right hroom37 _); clear hr37 hC37 hroom37 hi037 hsz37 hc37; have KY37 := Aside0.mk hy37; have KA37 := Aside0.mk hA37; clear hy37 hA37; have KL37 := Aside0.mk (show (x5_1 : Int).toNat ≤ l0.length from by omega); replace q37 := eq_true q37) | ((with_reducible refine gate_builtin (b := .append) (xs := #[.tmp 43, .tmp 46]) rfl ?_); at_builtin; refine Kd.R_append_rows (Kd.int .i64) (w0 := w0) w0.heap.size rfl (.tmp 43) (.tmp 46) 28 3 (.int .i64 0) 8 rfl Tryz.underlying28 info3 rfl (by decide) (by omega) v139 y138 y141 _ _ _ (fun k_ => (P0_ k_ ∨ w.heap.size ≤ k_) ∧ some k_ ≠ (.slice Ao31 l0.length co31 : Value).ownBlock) (fun _ => False) rfl rfl ?aO ?aR (fun _ _ h => h) (fun _ h => h.elim) ?aF ?aB ?aS ?aL ?_; (case aR => repeat (first | exact (by repeat (first | (with_reducible exact HR144.out) | (with_reducible refine Kd.C_alloc ?_ _) | (with_reducible refine Kd.C_drewN ?_ _) | (with_reducible refine Kd.C_drew ?_) | exact HR144.out)) | (with_reducible refine Kd.C_alloc ?_ _) | (with_reducible refine Kd.C_drewN ?_ _) | (with_reducible refine Kd.C_drew ?_))); (case aB => exact (Gtr.bw HB.out)); (case aF => exact (fun k_ hk => ⟨(.inr (Nat.le_trans (by first | exact HK.out.1 | exact (show Kept w _ (fun k_ => P0_ k_) from by repeat (first | (with_reducible first | exact HK.out | apply Kept.alloc | apply Kept.drewN | apply Kept.drew) | exact HK.out)).1) hk)), Kd.fresh' (Kd.R_lt (by (with_reducible repeat (first | apply Kd.R_alloc | apply Kd.R_drewN | apply Kd.R_drew)); exact HO_0.out)) k_ hk⟩)); (case aO => exact (by (with_reducible repeat (first | apply Kd.R_alloc | apply Kd.R_drewN | apply Kd.R_drew)); exact HO140.out)); (case aS => exact (below_size (Gtr.bw HB.out))); (case aL => have := LMc30.out; omega); intro v146 w38 ho hb hg hat; rw [← Ny145.out] at ho; replace HB := Aside0.mk (hb); replace HK := Aside0.mk (Kept.of_grown (S := (fun k_ => P0_ k_)) hg (by repeat (first | (with_reducible first | exact HK.out | apply Kept.alloc | apply Kept.drewN | apply Kept.drew) | exact HK.out)) (fun k_ e_ => (HO140.out.1 k_ e_).1)); replace HR134 := Aside0.mk ((show Kd.C (Kd.int .i64) w38 Ao31 y131.length y131 from by rw [Ny131.out]; exact Kd.C_take (m := (x5_1 : Int).toNat) ((Kd.R_reads' (Kd.R_after (ok := (fun k_ => (P0_ k_ ∨ w.heap.size ≤ k_))) (by (with_reducible repeat (first | apply Kd.R_alloc | apply Kd.R_drewN | apply Kd.R_drew)); exact HO_0.out) hg hat)).2.2) KL34.out)); replace HR144 := Aside0.mk ((show Kd.C (Kd.int .i64) w38 A37 y141.length y141 from by rw [Ny141.out, KA37.out]; exact Kd.C_drop (m := (x5_1 : Int).toNat) (c := co31) ((Kd.R_reads' (Kd.R_after (ok := (fun k_ => (P0_ k_ ∨ w.heap.size ≤ k_))) (by (with_reducible repeat (first | apply Kd.R_alloc | apply Kd.R_drewN | apply Kd.R_drew)); exact HO_0.out) hg hat)).2.2) KL37.out ((Kd.R_reads' (Kd.R_after (ok := (fun k_ => (P0_ k_ ∨ w.heap.size ≤ k_))) (by (with_reducible repeat (first | apply Kd.R_alloc | apply Kd.R_drewN | apply Kd.R_drew)); exact HO_0.out) hg hat)).2.1))); replace HO_0 := Aside0.mk (Kd.R_after (ok := (fun k_ => (P0_ k_ ∨ w.heap.size ≤ k_))) (by (with_reducible repeat (first | apply Kd.R_alloc | apply Kd.R_drewN | apply Kd.R_drew)); exact HO_0.out) hg hat); have HO147 := Aside0.mk (ho); clear HO140; clear ho hb hg hat))
    go_ret
    exact ⟨_, Gtr.fe, by (with_reducible repeat (first | apply Kd.R_alloc | apply Kd.R_drewN | apply Kd.R_drew)); exact Kd.R_mono HO147.out (fun _ hk => hk.1), (Gtr.bw HB.out), by repeat (first | (with_reducible first | exact HK.out | apply Kept.alloc | apply Kept.drewN | apply Kept.drew) | exact HK.out)⟩
def putM (n : Int) : List Int → List Int
  | [] => [n]
  | a :: l => if a < n then a :: putM n l else if a = n then a :: l else n :: a :: l
theorem putM_mem (n x : Int) : ∀ l, x ∈ putM n l ↔ x = n ∨ x ∈ l
  | [] => by simp [putM]
  | a :: l => by
    have ih := putM_mem n x l
    unfold putM
    split
    · rw [List.mem_cons, ih, List.mem_cons]
      constructor
      · rintro (h | h | h)
        · exact .inr (.inl h)
        · exact .inl h
        · exact .inr (.inr h)
      · rintro (h | h | h)
        · exact .inr (.inl h)
        · exact .inl h
        · exact .inr (.inr h)
    · split
      · rename_i _ h2
        subst h2
        rw [List.mem_cons]
        constructor
        · intro h; exact .inr h
        · rintro (h | h)
          · exact .inl h
          · exact h
      · rw [List.mem_cons]
theorem putM_sorted (n : Int) : ∀ l : List Int, l.Pairwise (· < ·) → (putM n l).Pairwise (· < ·)
  | [], _ => by simp [putM]
  | a :: l, h => by
    obtain ⟨h1, h2⟩ := List.pairwise_cons.mp h
    unfold putM
    split
    · rename_i hc
      rw [List.pairwise_cons]
      refine ⟨fun x hx => ?_, putM_sorted n l h2⟩
      rcases (putM_mem n x l).mp hx with rfl | hx
      · exact hc
      · exact h1 x hx
    · split
      · exact h
      · rename_i hc he
        have hna : n < a := by omega
        rw [List.pairwise_cons]
        refine ⟨fun x hx => ?_, h⟩
        rcases List.mem_cons.mp hx with rfl | hx
        · exact hna
        · have := h1 x hx; omega
inductive From (sc : Int → List Int) (a : Int) : Int → Prop where
  | self : From sc a a
  | step {b c : Int} : From sc a b → c ∈ sc b → From sc a c
theorem From.head {sc : Int → List Int} {a b c : Int} (h : b ∈ sc a) (k : From sc b c) : From sc a c := by
  induction k with
  | self => exact .step .self h
  | step _ hc ih => exact .step ih hc
theorem From.trans {sc : Int → List Int} {a b c : Int} (h : From sc a b) (k : From sc b c) : From sc a c := by
  induction k with
  | self => exact h
  | step _ hc ih => exact .step ih hc
def dfs (sc : Int → List Int) : Nat → Int → List Int → Option (List Int)
  | 0, _, _ => none
  | d + 1, x, met => if x ∈ met then some met else (sc x).foldlM (fun m y => dfs sc d y m) (putM x met)
structure MetOk (sc : Int → List Int) (xs : List Int) (met out : List Int) : Prop where
  old : ∀ y, y ∈ met → y ∈ out
  top : ∀ x, x ∈ xs → x ∈ out
  sound : ∀ y, y ∈ out → y ∈ met ∨ ∃ x, x ∈ xs ∧ From sc x y
  closed : ∀ y, y ∈ out → y ∈ met ∨ ∀ z, z ∈ sc y → z ∈ out
  sorted : met.Pairwise (· < ·) → out.Pairwise (· < ·)
def left (all met : List Int) : Nat := (all.filter (fun y => !met.contains y)).length
theorem left_le {all a b : List Int} (h : ∀ y, y ∈ a → y ∈ b) : left all b ≤ left all a := by
  unfold left
  induction all with
  | nil => simp
  | cons z r ih =>
    rw [List.filter_cons, List.filter_cons]
    by_cases hb : z ∈ b
    · have e : (!b.contains z) = false := by simp [hb]
      rw [e]
      by_cases ha : z ∈ a
      · have e2 : (!a.contains z) = false := by simp [ha]
        rw [e2]; simpa using ih
      · have e2 : (!a.contains z) = true := by simp [ha]
        rw [e2, if_neg (by simp), if_pos rfl, List.length_cons]; exact Nat.le_succ_of_le ih
    · have ha : z ∉ a := fun h' => hb (h z h')
      have e : (!b.contains z) = true := by simp [hb]
      have e2 : (!a.contains z) = true := by simp [ha]
      rw [e, e2]; simpa using ih
theorem left_put {all met : List Int} {x : Int} (hx : x ∈ all) (hm : x ∉ met) : left all (putM x met) < left all met := by
  unfold left
  induction all with
  | nil => exact absurd hx (by simp)
  | cons z r ih =>
    rw [List.filter_cons, List.filter_cons]
    have hle : (r.filter (fun y => !(putM x met).contains y)).length ≤ (r.filter (fun y => !met.contains y)).length := left_le (fun y hy => (putM_mem x y met).mpr (.inr hy))
    by_cases hz : z = x
    · subst hz
      have e : (!(putM z met).contains z) = false := by simp [putM_mem]
      have e2 : (!met.contains z) = true := by simp [hm]
      rw [e, e2, if_neg (by simp), if_pos rfl, List.length_cons]; exact Nat.lt_succ_of_le hle
    · have hxr : x ∈ r := by
        rcases List.mem_cons.mp hx with h | h
        · exact absurd h.symm hz
        · exact h
      have ih := ih hxr
      have e : (!(putM x met).contains z) = (!met.contains z) := by
        congr 1
        rw [Bool.eq_iff_iff, List.contains_iff_mem, List.contains_iff_mem, putM_mem]
        simp [hz]
      rw [e]
      by_cases h : (!met.contains z) = true
      · rw [if_pos h, if_pos h, List.length_cons, List.length_cons]; exact Nat.succ_lt_succ ih
      · rw [if_neg h, if_neg h]; exact ih
theorem MetOk.nil (sc : Int → List Int) (met : List Int) : MetOk sc [] met met :=
  ⟨fun _ h => h, fun _ h => absurd h (by simp), fun _ h => .inl h, fun _ h => .inl h, fun h => h⟩
theorem MetOk.cons {sc : Int → List Int} {x : Int} {xs met m1 out : List Int} (h : MetOk sc [x] met m1) (k : MetOk sc xs m1 out) : MetOk sc (x :: xs) met out := by
  refine ⟨fun y hy => k.old y (h.old y hy), fun y hy => ?_, fun y hy => ?_, fun y hy => ?_, fun hs => k.sorted (h.sorted hs)⟩
  · rcases List.mem_cons.mp hy with rfl | hy
    · exact k.old _ (h.top _ (by simp))
    · exact k.top y hy
  · rcases k.sound y hy with h1 | ⟨x', hx', hf⟩
    · rcases h.sound y h1 with h2 | ⟨x', hx', hf⟩
      · exact .inl h2
      · exact .inr ⟨x', by simp at hx'; simp [hx'], hf⟩
    · exact .inr ⟨x', List.mem_cons_of_mem _ hx', hf⟩
  · rcases k.closed y hy with h1 | h1
    · rcases h.closed y h1 with h2 | h2
      · exact .inl h2
      · exact .inr (fun z hz => k.old z (h2 z hz))
    · exact .inr h1
theorem dfs_ok (sc : Int → List Int) (all : List Int) (hall : ∀ x, x ∈ all → ∀ y, y ∈ sc x → y ∈ all) : ∀ (d : Nat) (x : Int) (met : List Int), x ∈ all → left all met < d →
    ∃ out, dfs sc d x met = some out ∧ MetOk sc [x] met out
  | 0, _, _, _, h => absurd h (Nat.not_lt_zero _)
  | d + 1, x, met, hx, hd => by
    unfold dfs
    by_cases hm : x ∈ met
    · rw [if_pos hm]
      exact ⟨met, rfl, fun _ h => h, fun y hy => by simp at hy; rw [hy]; exact hm, fun _ h => .inl h, fun _ h => .inl h, fun h => h⟩
    · rw [if_neg hm]
      have hlt := left_put hx hm
      have key : ∀ (ys m : List Int), (∀ y, y ∈ ys → y ∈ all) → left all m < d → ∃ out, ys.foldlM (fun m y => dfs sc d y m) m = some out ∧ MetOk sc ys m out := by
        intro ys
        induction ys with
        | nil => intro m _ _; exact ⟨m, rfl, MetOk.nil sc m⟩
        | cons y r ih =>
          intro m hy hl
          obtain ⟨m1, h1, k1⟩ := dfs_ok sc all hall d y m (hy y (by simp)) hl
          obtain ⟨out, h2, k2⟩ := ih m1 (fun z hz => hy z (List.mem_cons_of_mem _ hz)) (Nat.lt_of_le_of_lt (left_le k1.old) hl)
          exact ⟨out, by rw [List.foldlM_cons, h1]; exact h2, k1.cons k2⟩
      obtain ⟨out, h1, k⟩ := key (sc x) (putM x met) (hall x hx) (by omega)
      refine ⟨out, h1, fun y hy => k.old y ((putM_mem x y met).mpr (.inr hy)), fun y hy => by simp at hy; rw [hy]; exact k.old x ((putM_mem x x met).mpr (.inl rfl)), fun y hy => ?_, fun y hy => ?_, fun hs => k.sorted (putM_sorted x met hs)⟩
      · rcases k.sound y hy with h2 | ⟨z, hz, hf⟩
        · rcases (putM_mem x y met).mp h2 with rfl | h3
          · exact .inr ⟨y, by simp, .self⟩
          · exact .inl h3
        · exact .inr ⟨x, by simp, From.head hz hf⟩
      · rcases k.closed y hy with h2 | h2
        · rcases (putM_mem x y met).mp h2 with rfl | h3
          · exact .inr (fun z hz => k.top z hz)
          · exact .inl h3
        · exact .inr h2
theorem dfs_from (sc : Int → List Int) (all : List Int) (hall : ∀ x, x ∈ all → ∀ y, y ∈ sc x → y ∈ all) (x : Int) (hx : x ∈ all) (d : Nat) (hd : all.length < d) :
    ∃ out, dfs sc d x [] = some out ∧ out.Pairwise (· < ·) ∧ ∀ y, y ∈ out ↔ From sc x y := by
  have hl : left all [] ≤ all.length := by unfold left; exact List.length_filter_le _ _
  obtain ⟨out, h1, k⟩ := dfs_ok sc all hall d x [] hx (by omega)
  refine ⟨out, h1, k.sorted List.Pairwise.nil, fun y => ⟨fun hy => ?_, fun hf => ?_⟩⟩
  · rcases k.sound y hy with h2 | ⟨z, hz, hf⟩
    · exact absurd h2 (by simp)
    · simp at hz; rw [hz] at hf; exact hf
  · induction hf with
    | self => exact k.top x (by simp)
    | step _ hc ih =>
      rcases k.closed _ ih with h2 | h2
      · exact absurd h2 (by simp)
      · exact h2 _ hc
theorem dfs_spec (sc : Int → List Int) : ∀ (d : Nat) (x : Int) (met out : List Int), dfs sc d x met = some out → MetOk sc [x] met out
  | 0, _, _, _, h => by simp [dfs] at h
  | d + 1, x, met, out, h => by
    unfold dfs at h
    by_cases hm : x ∈ met
    · rw [if_pos hm] at h
      injection h with h
      subst h
      exact ⟨fun _ h => h, fun y hy => by simp at hy; rw [hy]; exact hm, fun _ h => .inl h, fun _ h => .inl h, fun h => h⟩
    · rw [if_neg hm] at h
      have key : ∀ (ys m out : List Int), ys.foldlM (fun m y => dfs sc d y m) m = some out → MetOk sc ys m out := by
        intro ys
        induction ys with
        | nil => intro m out h; injection h with h; subst h; exact MetOk.nil sc m
        | cons y r ih =>
          intro m out h
          rw [List.foldlM_cons] at h
          cases h1 : dfs sc d y m with
          | none => rw [h1] at h; cases h
          | some m1 => rw [h1] at h; exact (dfs_spec sc d y m m1 h1).cons (ih m1 out h)
      have k := key (sc x) (putM x met) out h
      refine ⟨fun y hy => k.old y ((putM_mem x y met).mpr (.inr hy)), fun y hy => by simp at hy; rw [hy]; exact k.old x ((putM_mem x x met).mpr (.inl rfl)), fun y hy => ?_, fun y hy => ?_, fun hs => k.sorted (putM_sorted x met hs)⟩
      · rcases k.sound y hy with h2 | ⟨z, hz, hf⟩
        · rcases (putM_mem x y met).mp h2 with rfl | h3
          · exact .inr ⟨y, by simp, .self⟩
          · exact .inl h3
        · exact .inr ⟨x, by simp, From.head hz hf⟩
      · rcases k.closed y hy with h2 | h2
        · rcases (putM_mem x y met).mp h2 with rfl | h3
          · exact .inr (fun z hz => k.top z hz)
          · exact .inl h3
        · exact .inr h2
structure MetIn (all met : List Int) : Prop where
  sorted : met.Pairwise (· < ·)
  sub : ∀ y, y ∈ met → y ∈ all
theorem MetIn.nodup {all met : List Int} (h : MetIn all met) : met.Nodup := h.sorted.imp (fun hab e => by subst e; exact absurd hab (Int.lt_irrefl _))
theorem MetIn.out {sc : Int → List Int} {all xs met out : List Int} (hall : ∀ x, x ∈ all → ∀ y, y ∈ sc x → y ∈ all) (hx : ∀ x, x ∈ xs → x ∈ all) (h : MetIn all met) (k : MetOk sc xs met out) : MetIn all out := by
  refine ⟨k.sorted h.sorted, fun y hy => ?_⟩
  rcases k.sound y hy with h1 | ⟨x, hx1, hf⟩
  · exact h.sub y h1
  · have hxa := hx x hx1
    clear hx1 hy
    induction hf with
    | self => exact hxa
    | step _ hc ih => exact hall _ ih _ hc
theorem MetIn.put {all met : List Int} (h : MetIn all met) {x : Int} (hx : x ∈ all) : MetIn all (putM x met) := by
  refine ⟨putM_sorted x met h.sorted, fun y hy => ?_⟩
  rcases (putM_mem x y met).mp hy with rfl | h1
  · exact hx
  · exact h.sub y h1
theorem sum_erase (f : Int → Nat) : ∀ (l : List Int) (x : Int), x ∈ l → (l.map f).sum = f x + ((l.erase x).map f).sum
  | [], x, h => absurd h (by simp)
  | a :: l, x, h => by
    by_cases ha : a = x
    · subst ha; simp
    · have hx : x ∈ l := by
        rcases List.mem_cons.mp h with h | h
        · exact absurd h.symm ha
        · exact h
      rw [List.erase_cons_tail (by simpa using ha), List.map_cons, List.sum_cons, List.map_cons, List.sum_cons, sum_erase f l x hx]; omega
theorem sum_sub (f : Int → Nat) : ∀ (l all : List Int), l.Nodup → (∀ x, x ∈ l → x ∈ all) → (l.map f).sum ≤ (all.map f).sum
  | [], all, _, _ => by simp
  | x :: l, all, hn, hs => by
    obtain ⟨h1, h2⟩ := List.nodup_cons.mp hn
    have ih := sum_sub f l (all.erase x) h2 (fun y hy => by
      have hy2 := hs y (List.mem_cons_of_mem _ hy)
      exact (List.mem_erase_of_ne (by intro e; subst e; exact h1 hy)).mpr hy2)
    rw [sum_erase f all x (hs x (by simp)), List.map_cons, List.sum_cons]
    omega
theorem count_flat (sc : Int → List Int) (y : Int) : ∀ l : List Int, (l.flatMap sc).count y = (l.map (fun x => (sc x).count y)).sum
  | [] => rfl
  | x :: l => by rw [List.flatMap_cons, List.count_append, count_flat sc y l, List.map_cons, List.sum_cons]
theorem nodup_len : ∀ (l all : List Int), l.Nodup → (∀ x, x ∈ l → x ∈ all) → l.length ≤ all.length := fun l all h1 h2 => by
  have := sum_sub (fun _ => 1) l all h1 h2
  have e : ∀ l : List Int, (l.map (fun _ => 1)).sum = l.length := fun l => by
    induction l with
    | nil => rfl
    | cons a l ih => rw [List.map_cons, List.sum_cons, ih, List.length_cons]; omega
  rw [e, e] at this; exact this
structure Bfs (sc : Int → List Int) (dir : Int → Bool) (all : List Int) (Q : List Int) (k : Nat) (pre : List Int) : Prop where
  zero : (0 : Int) ∈ Q
  from_ : ∀ y, y ∈ Q → From sc 0 y ∧ dir y = true ∧ y ∈ all
  closed : ∀ x, x ∈ Q.take k → ∀ z, z ∈ sc x → dir z = true → z ∈ Q
  clp : ∀ z, z ∈ pre → dir z = true → z ∈ Q
  cnt : ∀ y, Q.count y ≤ (if y = 0 then 1 else 0) + ((Q.take k).flatMap sc ++ pre).count y
  nodup : Q.Nodup
theorem Bfs.start (sc : Int → List Int) (dir : Int → Bool) (all : List Int) (h0 : dir 0 = true) (ha : (0 : Int) ∈ all) : Bfs sc dir all [0] 0 [] := by
  refine ⟨by simp, fun y hy => ?_, fun x hx => by simp at hx, fun z hz => by simp at hz, fun y => ?_, by simp⟩
  · simp at hy; subst hy; exact ⟨.self, h0, ha⟩
  · simp only [List.count_cons, List.count_nil, List.take_zero, List.flatMap_nil, List.nil_append]
    by_cases hy : y = 0
    · subst hy; simp
    · rw [if_neg hy]
      have : ((0 : Int) == y) = false := by simpa using Ne.symm hy
      simp [this]
section
variable {sc : Int → List Int} {dir : Int → Bool} {all Q : List Int} {k : Nat} {pre post : List Int} {x z : Int}
theorem Bfs.skip (h : Bfs sc dir all Q k pre) (hz : dir z = false ∨ z ∈ Q) : Bfs sc dir all Q k (pre ++ [z]) := by
  refine ⟨h.zero, h.from_, h.closed, fun y hy hd => ?_, fun y => ?_, h.nodup⟩
  · rcases List.mem_append.mp hy with h1 | h1
    · exact h.clp y h1 hd
    · simp at h1; subst h1
      rcases hz with h2 | h2
      · rw [hd] at h2; cases h2
      · exact h2
  · have := h.cnt y
    rw [← List.append_assoc, List.count_append]; omega
theorem Bfs.total (h : Bfs sc dir all Q k pre) (hx : Q[k]? = some x) (hs : sc x = pre ++ post) (y : Int) : ((Q.take k).flatMap sc ++ (pre ++ post)).count y ≤ (all.flatMap sc).count y := by
  have e : (Q.take k).flatMap sc ++ (pre ++ post) = (Q.take (k + 1)).flatMap sc := by
    obtain ⟨hk, hxe⟩ := List.getElem?_eq_some_iff.mp hx
    rw [List.take_succ_eq_append_getElem hk, List.flatMap_append, hxe]; simp [hs]
  rw [e, count_flat, count_flat]
  exact sum_sub _ _ _ (h.nodup.sublist (List.take_sublist _ _)) (fun w hw => (h.from_ w (List.mem_of_mem_take hw)).2.2)
theorem Bfs.push (h : Bfs sc dir all Q k pre) (hx : Q[k]? = some x) (hs : sc x = pre ++ z :: post) (hd : dir z = true) (ha : z ∈ all) (hc : (all.flatMap sc).count z ≤ if z = 0 then 0 else 1) : Bfs sc dir all (Q ++ [z]) k (pre ++ [z]) := by
  obtain ⟨hk, hxe⟩ := List.getElem?_eq_some_iff.mp hx
  have htk : (Q ++ [z]).take k = Q.take k := List.take_append_of_le_length (by omega)
  have hnot : z ∉ Q := by
    intro hz
    have h1 := h.cnt z
    have h2 := List.count_pos_iff.mpr hz
    have h3 := h.total hx hs z
    rw [← List.append_assoc, List.count_append, List.count_cons, beq_self_eq_true, if_pos rfl] at h3
    by_cases h0 : z = 0
    · rw [if_pos h0] at hc; omega
    · rw [if_neg h0] at hc h1; omega
  refine ⟨by simp [h.zero], fun y hy => ?_, fun w hw y hy hdy => ?_, fun y hy hdy => ?_, fun y => ?_, ?_⟩
  · rcases List.mem_append.mp hy with h1 | h1
    · exact h.from_ y h1
    · simp at h1; subst h1
      have hxq : x ∈ Q := hxe ▸ List.getElem_mem hk
      exact ⟨.step (h.from_ x hxq).1 (by rw [hs]; simp), hd, ha⟩
  · rw [htk] at hw
    exact List.mem_append_left _ (h.closed w hw y hy hdy)
  · rcases List.mem_append.mp hy with h1 | h1
    · exact List.mem_append_left _ (h.clp y h1 hdy)
    · exact List.mem_append_right _ h1
  · rw [htk, List.count_append, ← List.append_assoc, List.count_append (l₁ := _ ++ pre)]
    have := h.cnt y; omega
  · rw [List.nodup_append]
    exact ⟨h.nodup, by simp, fun a ha2 b hb => by simp at hb; subst hb; intro e; subst e; exact hnot ha2⟩
theorem Bfs.next (h : Bfs sc dir all Q k (sc x)) (hx : Q[k]? = some x) : Bfs sc dir all Q (k + 1) [] := by
  obtain ⟨hk, hxe⟩ := List.getElem?_eq_some_iff.mp hx
  have e : Q.take (k + 1) = Q.take k ++ [x] := by rw [List.take_succ_eq_append_getElem hk, hxe]
  refine ⟨h.zero, h.from_, fun w hw y hy hd => ?_, fun _ hz => by simp at hz, fun y => ?_, h.nodup⟩
  · rw [e] at hw
    rcases List.mem_append.mp hw with h1 | h1
    · exact h.closed w h1 y hy hd
    · simp at h1; subst h1; exact h.clp y hy hd
  · have := h.cnt y
    rw [e, List.flatMap_append]; simpa using this
theorem Bfs.len (h : Bfs sc dir all Q k pre) : Q.length ≤ all.length := nodup_len _ _ h.nodup (fun y hy => (h.from_ y hy).2.2)
theorem Bfs.done (h : Bfs sc dir all Q Q.length []) (hdir : ∀ x, sc x ≠ [] → dir x = true) (y : Int) (hy : dir y = true) : y ∈ Q ↔ From sc 0 y := by
  refine ⟨fun hq => (h.from_ y hq).1, fun hf => ?_⟩
  induction hf with
  | self => exact h.zero
  | step _ hc ih =>
    rename_i b c _
    have hb : dir b = true := hdir b (fun e => by rw [e] at hc; simp at hc)
    exact h.closed b (by rw [List.take_length]; exact ih hb) c hc hy
end
section
variable {sc : Int → List Int} {dir free : Int → Bool} {all : List Int}
theorem From.in_all (hsc : ∀ x, x ∈ all → ∀ y, y ∈ sc x → y ∈ all) {a y : Int} (ha : a ∈ all) (h : From sc a y) : y ∈ all := by
  induction h with
  | self => exact ha
  | step _ hc ih => exact hsc _ ih _ hc
theorem tails_iff (ha0 : (0 : Int) ∈ all) (hsc : ∀ x, x ∈ all → ∀ y, y ∈ sc x → y ∈ all) (hdir : ∀ x, sc x ≠ [] → dir x = true) (hfd : ∀ y, dir y = true → free y = false) (hd0 : dir 0 = true) :
    ((∀ y, y ∈ all → free y = false → if y = 0 then (all.flatMap sc).count y = 0 else 1 ≤ (all.flatMap sc).count y ∧ (dir y = true → (all.flatMap sc).count y ≤ 1)) ∧ ∀ y, y ∈ all → dir y = true → From sc 0 y) ↔
    ∀ y, y ∈ all → (y = 0 → (all.flatMap sc).count y = 0) ∧ (y ≠ 0 → dir y = true → (all.flatMap sc).count y = 1) ∧ (free y = false → From sc 0 y) := by
  constructor
  · rintro ⟨h1, h2⟩ y hy
    refine ⟨fun h => ?_, fun h hd => ?_, fun hf => ?_⟩
    · have := h1 y hy (by rw [h]; exact hfd 0 hd0); rwa [if_pos h] at this
    · have := h1 y hy (hfd y hd)
      rw [if_neg h] at this
      have h3 := this.2 hd
      omega
    · by_cases h : y = 0
      · subst h; exact .self
      · have := h1 y hy hf
        rw [if_neg h] at this
        have hm : y ∈ all.flatMap sc := List.count_pos_iff.mp (by omega)
        obtain ⟨x, hx, hxy⟩ := List.mem_flatMap.mp hm
        exact .step (h2 x hx (hdir x (fun e => by rw [e] at hxy; simp at hxy))) hxy
  · intro h
    refine ⟨fun y hy hf => ?_, fun y hy hd => (h y hy).2.2 (hfd y hd)⟩
    by_cases h0 : y = 0
    · rw [if_pos h0]; exact (h y hy).1 h0
    · rw [if_neg h0]
      have hfr := (h y hy).2.2 hf
      refine ⟨?_, fun hd => by have := (h y hy).2.1 h0 hd; omega⟩
      cases hfr with
      | self => exact absurd rfl h0
      | step hb hc => exact List.count_pos_iff.mpr (List.mem_flatMap.mpr ⟨_, hb.in_all hsc ha0, hc⟩)
end
def impl_Fs_bytesIn.l0 : Nat → Int → List (S85) → Int → Int → Option (Int)
 | 0, _, _, _, _ => none
 | k + 1, x3, x7, x8, x9 => if x9 < x8 then (if 0 ≤ x9 then (if x9 < (x7.length : Int) then (impl_Fs_bytesIn.l0 k (wrap64 (x3 + (((rd_T85 x7 x9).f5).size : Int))) x7 x8 (wrap64 (x9 + 1))) else (none)) else (none)) else (some x3)
def impl_Fs_bytesIn.f (k : Nat) (l0_0 : List (S85)) (a0_1 : Int) : Option (Int) := impl_Fs_bytesIn.l0 k 0 l0_0 (l0_0.length : Int) 0
set_option maxHeartbeats 8000000 in
set_option maxRecDepth 100000 in
theorem impl_Fs_bytesIn.calls (k : Nat) (A0_0 : Option Addr) (c0_0 : Nat) (l0_0 : List (S85)) (a0_1 : Int) (r : Int) (w : World) (hr0_0 : Kd.C k85 w A0_0 l0_0.length l0_0) (hc0_0 : l0_0.length ≤ c0_0) (h : impl_Fs_bytesIn.f k l0_0 a0_1 = some r) :
  Calls Tryz.prog 100 #[.agg #[.slice A0_0 l0_0.length c0_0, .int .i64 a0_1]] w fun e w' => e = .returned (.int .i64 r) ∧ Below w.heap.size w w' := by
 have hu34 := Tryz.underlying34
 have hu85 := Tryz.underlying85
 have HR0_0 := Aside0.mk hr0_0
 have HC0_0 := Aside0.mk hc0_0
 clear hr0_0 hc0_0
 have HB := Aside0.mk (Below.refl w.heap.size w)
 have H : (impl_Fs_bytesIn.l0 k 0 l0_0 (l0_0.length : Int) 0) = some r := h
 clear h
 have H' := Aside0.mk H
 clear H
 go_enter Tryz.func100, Tryz.ntmps100
 go_wp2_with (first | ((with_reducible refine gate_dst (N := 1) rfl ?_); refine box_event rfl (N := 1) rfl (cs := #[.slice A0_0 l0_0.length c0_0, .int .i64 a0_1]) (t := 34) (by first | (go_simp; done) | (go_simp; rfl)) ?_; intro gb280 hg w2 hbox hb; have BK280 := Aside0.mk (hbox); have GW280 := Aside0.mk (Gtr.gz hg (Gtr.bw HB.out)); have GE280 := GW280; replace HB := Aside0.mk (below_step (Gtr.bw HB.out) hb); clear hb hbox hg; have hcz3_0 := fun o_ => blk_cell BK280.out o_; have hfz3_0 := fun o_ => blk_frozen BK280.out o_))
 go_loopg [3, 9] k (fun kq v3 v9 w' => ∃ (x3_1 : Int) (x9_1 : Int), v3 = .int .i64 x3_1 ∧ v9 = .int .i64 x9_1 ∧ Aside0 (impl_Fs_bytesIn.l0 kq x3_1 l0_0 (l0_0.length : Int) x9_1 = some r) ∧ Aside0 (kq ≤ k) ∧ Aside0 (w'.heap[gb280]? = some (.cells #[(.slice A0_0 l0_0.length c0_0), .int .i64 a0_1] 34 (0, 0))) ∧ Aside0 (Below w.heap.size w w'))
 case atStart => exact ⟨(0), (0), Gtr.fr, Gtr.fr, H', ⟨Nat.le_refl _⟩, ⟨by (with_reducible repeat (first | refine blk_drewN ?_ _ | refine blk_drew ?_ | refine blk_alloc ?_ _)); exact BK280.out⟩, ⟨Gtr.bw HB.out⟩⟩
 case round =>
  clear H'
  (try clear c1);(try clear p2);(try clear hcz3_0);(try clear hcz3_1);(try clear hfz3_0);(try clear hfz3_1)
  obtain ⟨x3_1, x9_1, rfl, rfl, HA, HK1, BK280, HB⟩ := hrel
  cases gk with
  | zero => exact absurd HA.out (by simp [impl_Fs_bytesIn.l0])
  | succ k1 =>
   have H := HA.out
   clear HA
   simp only [impl_Fs_bytesIn.l0] at H
   by_cases c4 : x9_1 < (l0_0.length : Int)
   ·rw [if_pos c4] at H
    have c4b0 : decide (x9_1 < (l0_0.length : Int)) = true := decide_eq_true c4
    clear c4
    refine Or.elim (Classical.em (0 ≤ x9_1)) (fun c5 => ?_) (fun c5 => by rw [if_neg c5] at H; exact absurd H (by simp))
    rw [if_pos c5] at H
    have c5b0 : decide (0 ≤ x9_1) = true := decide_eq_true c5
    clear c5
    refine Or.elim (Classical.em (x9_1 < (l0_0.length : Int))) (fun c6 => ?_) (fun c6 => by rw [if_neg c6] at H; exact absurd H (by simp))
    rw [if_pos c6] at H
    have c6b0 : decide (x9_1 < (l0_0.length : Int)) = true := decide_eq_true c6
    clear c6
    have H' := Aside0.mk H
    clear H
    have p281 : 0 ≤ (x9_1 : Int) := Gtr.od
    have q281 : x9_1 < (l0_0.length : Int) := Gtr.od
    obtain ⟨ad281, A281_6, c281_6, e281, hx281_0, hx281_1, hx281_2, hx281_3, hx281_4, hx281_5, hx281_6, hl281_6, hi281_6⟩ := at_T85 HR0_0.out x9_1 p281 q281
    cases e281
    replace hx281_0 := Gtr.cl HB.out hx281_0
    replace hx281_1 := Gtr.cl HB.out hx281_1
    replace hx281_2 := Gtr.cl HB.out hx281_2
    replace hx281_3 := Gtr.cl HB.out hx281_3
    replace hx281_4 := Gtr.cl HB.out hx281_4
    replace hx281_5 := Gtr.cl HB.out hx281_5
    replace hx281_6 := Gtr.cl HB.out hx281_6
    have HR281_6 := Aside0.mk hi281_6
    have HC281_6 := Aside0.mk hl281_6
    clear hi281_6 hl281_6
    replace p281 := eq_true p281
    replace q281 := eq_true q281
    go_wp2_with (first | ((with_reducible refine gate_dst (N := 5) rfl ?_); refine box_event rfl (N := 5) rfl (cs := #[.int .i64 0, .int .i64 0, .int .i64 0, .int .i64 0, .int .i64 0, .string (⟨#[]⟩ : ByteArray), .slice none 0 0]) (t := 85) (by first | (go_simp; done) | (go_simp; rfl)) ?_; intro gb282 hg w7 hbox hb; have BK282 := Aside0.mk (hbox); have GW282 := Aside0.mk (Gtr.gz hg (Gtr.bw HB.out)); have GE282 := GW282; replace HB := Aside0.mk (below_step (Gtr.bw HB.out) hb); have NB280_282 := Aside0.mk (Gtr.nl hg (Gtr.bk BK280.out)); have NB282_280 := Aside0.mk NB280_282.out.symm; replace BK280 := Aside0.mk (blk_below (Gtr.bk BK280.out) hb); clear hb hbox hg; have hnb8 := NB282_280.out; have hnc8 := NB280_282.out; have hcz9_0 := fun o_ => blk_cell BK282.out o_; have hfz9_0 := fun o_ => blk_frozen BK282.out o_))
    go_roundg k1
    case measure => have := HK1.out; omega
    case rel => exact ⟨(wrap64 (x3_1 + (((rd_T85 l0_0 x9_1).f5).size : Int))), (wrap64 (x9_1 + 1)), Gtr.fr, Gtr.fr, H', ⟨by have := HK1.out; omega⟩, ⟨by (with_reducible repeat (first | refine blk_drewN ?_ _ | refine blk_drew ?_ | refine blk_alloc ?_ _)); refine blk_far ?_ NB280_282.out _; (with_reducible repeat (first | refine blk_drewN ?_ _ | refine blk_drew ?_ | refine blk_alloc ?_ _)); refine blk_far ?_ NB280_282.out _; (with_reducible repeat (first | refine blk_drewN ?_ _ | refine blk_drew ?_ | refine blk_alloc ?_ _)); refine blk_far ?_ NB280_282.out _; (with_reducible repeat (first | refine blk_drewN ?_ _ | refine blk_drew ?_ | refine blk_alloc ?_ _)); refine blk_far ?_ NB280_282.out _; (with_reducible repeat (first | refine blk_drewN ?_ _ | refine blk_drew ?_ | refine blk_alloc ?_ _)); refine blk_far ?_ NB280_282.out _; (with_reducible repeat (first | refine blk_drewN ?_ _ | refine blk_drew ?_ | refine blk_alloc ?_ _)); refine blk_far ?_ NB280_282.out _; (with_reducible repeat (first | refine blk_drewN ?_ _ | refine blk_drew ?_ | refine blk_alloc ?_ _)); refine blk_far ?_ NB280_282.out _; (with_reducible repeat (first | refine blk_drewN ?_ _ | refine blk_drew ?_ | refine blk_alloc ?_ _)); exact BK280.out⟩, ⟨Gtr.bw HB.out⟩⟩
   ·rw [if_neg c4] at H
    have c4b0 : decide (x9_1 < (l0_0.length : Int)) = false := decide_eq_false c4
    clear c4
    obtain rfl := Option.some.inj H
    go_wp2
    go_ret
    exact ⟨Gtr.fe, Gtr.bw HB.out⟩
mutual
def impl_Fs_links.l0 : Nat → List Int → List (S85) → Int → Int → Option (List Int)
 | 0, _, _, _, _ => none
 | k + 1, x3, x13, x14, x15 => if x15 < x14 then (if 0 ≤ x15 then (if x15 < (x13.length : Int) then (impl_Fs_links.l1 k x3 x13 x14 x15 ((rd_T85 x13 x15).f6) (((rd_T85 x13 x15).f6).length : Int) 0) else (none)) else (none)) else (some x3)
def impl_Fs_links.l1 : Nat → List Int → List (S85) → Int → Int → List (S144) → Int → Int → Option (List Int)
 | 0, _, _, _, _, _, _, _ => none
 | k + 1, x3, x13, x14, x15, x20, x21, x22 => if x22 < x21 then (if 0 ≤ x22 then (if x22 < (x20.length : Int) then (if 0 ≤ ((rd_T144 x20 x22).f1) then (if ((rd_T144 x20 x22).f1) < (x3.length : Int) then (impl_Fs_links.l1 k (x3.set (((rd_T144 x20 x22).f1) : Int).toNat (wrap64 ((rd x3 ((rd_T144 x20 x22).f1)) + 1))) x13 x14 x15 x20 x21 (wrap64 (x22 + 1))) else (none)) else (none)) else (none)) else (none)) else (impl_Fs_links.l0 k x3 x13 x14 (wrap64 (x15 + 1)))
end
def impl_Fs_links.f (k : Nat) (l0_0 : List (S85)) (a0_1 : Int) : Option (List Int) := if 0 ≤ (l0_0.length : Int) then (if ((l0_0.length : Int) : Int).toNat ≤ 35184372088832 then (impl_Fs_links.l0 k (List.replicate ((l0_0.length : Int) : Int).toNat 0) l0_0 (l0_0.length : Int) 0) else (none)) else (none)
set_option maxHeartbeats 8000000 in
set_option maxRecDepth 100000 in
theorem impl_Fs_links.calls (k : Nat) (A0_0 : Option Addr) (c0_0 : Nat) (l0_0 : List (S85)) (a0_1 : Int) (r : List Int) (w : World) (hr0_0 : Kd.C k85 w A0_0 l0_0.length l0_0) (hc0_0 : l0_0.length ≤ c0_0) (h : impl_Fs_links.f k l0_0 a0_1 = some r) :
  Calls Tryz.prog 113 #[.agg #[.slice A0_0 l0_0.length c0_0, .int .i64 a0_1]] w fun e w' => ∃ v0_ : Value, e = .returned (v0_) ∧ Kd.R (Kd.int .i64) 3 w' w.heap.size (fun _ => True) v0_ r ∧ Below w.heap.size w w' := by
 have hu34 := Tryz.underlying34
 have hu85 := Tryz.underlying85
 have hu144 := Tryz.underlying144
 have HR0_0 := Aside0.mk hr0_0
 have HC0_0 := Aside0.mk hc0_0
 clear hr0_0 hc0_0
 have HB := Aside0.mk (Below.refl w.heap.size w)
 have H : (if 0 ≤ (l0_0.length : Int) then (if ((l0_0.length : Int) : Int).toNat ≤ 35184372088832 then (impl_Fs_links.l0 k (List.replicate ((l0_0.length : Int) : Int).toNat 0) l0_0 (l0_0.length : Int) 0) else (none)) else (none)) = some r := h
 clear h
 refine Or.elim (Classical.em (0 ≤ (l0_0.length : Int))) (fun c2 => ?_) (fun c2 => by rw [if_neg c2] at H; exact absurd H (by simp))
 rw [if_pos c2] at H
 have c2b0 := eq_true c2
 have c2b1 : decide (0 ≤ (l0_0.length : Int)) = true := decide_eq_true c2
 clear c2
 refine Or.elim (Classical.em (((l0_0.length : Int) : Int).toNat ≤ 35184372088832)) (fun c3 => ?_) (fun c3 => by rw [if_neg c3] at H; exact absurd H (by simp))
 rw [if_pos c3] at H
 have c3b0 := eq_true c3
 have c3b1 : decide (((l0_0.length : Int) : Int).toNat ≤ 35184372088832) = true := decide_eq_true c3
 clear c3
 obtain ⟨y284, hy284⟩ : ∃ y_ : List Int, y_ = (List.replicate ((l0_0.length : Int) : Int).toNat 0) := ⟨_, rfl⟩
 replace H : (impl_Fs_links.l0 k y284 l0_0 (l0_0.length : Int) 0) = some r := by first | (rw [hy284]; with_reducible exact H) | (have H2_ := (Option.bind_some _ _).symm.trans H; rw [hy284]; with_reducible exact H2_) | (have H2_ := (Option.bind_some _ _).symm.trans H; with_reducible exact H2_) | with_reducible exact H | (rw [hy284]; exact H) | exact H
 have Ny284 := Aside0.mk hy284
 clear hy284
 have H' := Aside0.mk H
 clear H
 go_enter Tryz.func113, Tryz.ntmps113
 go_wp2_with (first | ((with_reducible refine gate_dst (N := 1) rfl ?_); refine box_event rfl (N := 1) rfl (cs := #[.slice A0_0 l0_0.length c0_0, .int .i64 a0_1]) (t := 34) (by first | (go_simp; done) | (go_simp; rfl)) ?_; intro gb283 hg w4 hbox hb; have BK283 := Aside0.mk (hbox); have GW283 := Aside0.mk (Gtr.gz hg (Gtr.bw HB.out)); have GE283 := GW283; replace HB := Aside0.mk (below_step (Gtr.bw HB.out) hb); clear hb hbox hg; have hcz5_0 := fun o_ => blk_cell BK283.out o_; have hfz5_0 := fun o_ => blk_frozen BK283.out o_) | ((with_reducible refine gate_dst (N := 11) rfl ?_); refine Kd.R_make (Kd.int .i64) _ 3 rfl (N := 11) rfl 28 _ _ rfl (l0_0.length : Int) rfl rfl Tryz.underlying28 (.int .i64 0) 8 info3 rfl (by decide) (by omega) 0 (ok := fun _ => True) (okp := fun _ => True) rfl (fun _ hk => hk) trivial (Gtr.od) (Nat.le_trans (Nat.mul_le_mul_right _ (Gtr.od : (l0_0.length : Int).toNat ≤ 35184372088832)) (by omega)) (Below.refl _ _) (Nat.le_refl _) ?_; intro v285 w6 ho7 hb hg_ hnew_; clear hg_ hnew_; (first | rw [← Ny284.out] at ho7 | (simp only [Int.reduceToNat] at ho7; rw [← Ny284.out] at ho7)); have HO286 := Aside0.mk (Kd.R_lower ho7 (below_size (Gtr.bw HB.out))); replace BK283 := Aside0.mk (blk_below (Gtr.bk BK283.out) hb); replace HB := Aside0.mk (below_step (Gtr.bw HB.out) hb); clear hb ho7; have hcz8_0 := fun o_ => blk_cell BK283.out o_; have hfz8_0 := fun o_ => blk_frozen BK283.out o_))
 go_loopg [15] k (fun kq v15 w' => ∃ (x3_1 : List Int) (x15_1 : Int), v15 = .int .i64 x15_1 ∧ Aside0 (impl_Fs_links.l0 kq x3_1 l0_0 (l0_0.length : Int) x15_1 = some r) ∧ Aside0 (kq ≤ k) ∧ Aside0 (Kd.R (Kd.int .i64) 3 w' w.heap.size (fun _ => True) v285 x3_1) ∧ Aside0 (w'.heap[gb283]? = some (.cells #[(.slice A0_0 l0_0.length c0_0), .int .i64 a0_1] 34 (0, 0))) ∧ Aside0 (Below w.heap.size w w'))
 case atStart => exact ⟨(y284), (0), Gtr.fr, H', ⟨Nat.le_refl _⟩, ⟨by (with_reducible repeat (first | apply Kd.R_alloc | apply Kd.R_drewN | apply Kd.R_drew)); exact HO286.out⟩, ⟨by (with_reducible repeat (first | refine blk_drewN ?_ _ | refine blk_drew ?_ | refine blk_alloc ?_ _)); exact BK283.out⟩, ⟨Gtr.bw HB.out⟩⟩
 case round =>
  clear H'
  (try clear c1);(try clear c2);(try clear c2b0);(try clear c2b1);(try clear p2);(try clear c3);(try clear c3b0);(try clear c3b1);(try clear hcz5_0);(try clear hcz5_1);(try clear hcz8_0);(try clear hcz8_1);(try clear hfz5_0);(try clear hfz5_1);(try clear hfz8_0);(try clear hfz8_1)
  obtain ⟨x3_1, x15_1, rfl, HA, HK1, HO_3, BK283, HB⟩ := hrel
  cases gk with
  | zero => exact absurd HA.out (by simp [impl_Fs_links.l0])
  | succ k1 =>
   have H := HA.out
   clear HA
   simp only [impl_Fs_links.l0] at H
   by_cases c9 : x15_1 < (l0_0.length : Int)
   ·rw [if_pos c9] at H
    have c9b0 : decide (x15_1 < (l0_0.length : Int)) = true := decide_eq_true c9
    clear c9
    refine Or.elim (Classical.em (0 ≤ x15_1)) (fun c10 => ?_) (fun c10 => by rw [if_neg c10] at H; exact absurd H (by simp))
    rw [if_pos c10] at H
    have c10b0 : decide (0 ≤ x15_1) = true := decide_eq_true c10
    clear c10
    refine Or.elim (Classical.em (x15_1 < (l0_0.length : Int))) (fun c11 => ?_) (fun c11 => by rw [if_neg c11] at H; exact absurd H (by simp))
    rw [if_pos c11] at H
    have c11b0 : decide (x15_1 < (l0_0.length : Int)) = true := decide_eq_true c11
    clear c11
    have H' := Aside0.mk H
    clear H
    have p287 : 0 ≤ (x15_1 : Int) := Gtr.od
    have q287 : x15_1 < (l0_0.length : Int) := Gtr.od
    obtain ⟨ad287, A287_6, c287_6, e287, hx287_0, hx287_1, hx287_2, hx287_3, hx287_4, hx287_5, hx287_6, hl287_6, hi287_6⟩ := at_T85 HR0_0.out x15_1 p287 q287
    cases e287
    replace hx287_0 := Gtr.cl HB.out hx287_0
    replace hx287_1 := Gtr.cl HB.out hx287_1
    replace hx287_2 := Gtr.cl HB.out hx287_2
    replace hx287_3 := Gtr.cl HB.out hx287_3
    replace hx287_4 := Gtr.cl HB.out hx287_4
    replace hx287_5 := Gtr.cl HB.out hx287_5
    replace hx287_6 := Gtr.cl HB.out hx287_6
    have HR287_6 := Aside0.mk hi287_6
    have HC287_6 := Aside0.mk hl287_6
    clear hi287_6 hl287_6
    replace p287 := eq_true p287
    replace q287 := eq_true q287
    go_wp2_with (first | ((with_reducible refine gate_dst (N := 5) rfl ?_); refine box_event rfl (N := 5) rfl (cs := #[.int .i64 0, .int .i64 0, .int .i64 0, .int .i64 0, .int .i64 0, .string (⟨#[]⟩ : ByteArray), .slice none 0 0]) (t := 85) (by first | (go_simp; done) | (go_simp; rfl)) ?_; intro gb288 hg w12 hbox hb; replace HO_3 := Aside0.mk (Kd.R_below (by (with_reducible repeat (first | apply Kd.R_alloc | apply Kd.R_drewN | apply Kd.R_drew)); exact HO_3.out) hb); have BK288 := Aside0.mk (hbox); have GW288 := Aside0.mk (Gtr.gz hg (Gtr.bw HB.out)); have GE288 := GW288; replace HB := Aside0.mk (below_step (Gtr.bw HB.out) hb); have NB283_288 := Aside0.mk (Gtr.nl hg (Gtr.bk BK283.out)); have NB288_283 := Aside0.mk NB283_288.out.symm; replace BK283 := Aside0.mk (blk_below (Gtr.bk BK283.out) hb); clear hb hbox hg; have hnb13 := NB288_283.out; have hnc13 := NB283_288.out; have hcz14_0 := fun o_ => blk_cell BK288.out o_; have hfz14_0 := fun o_ => blk_frozen BK288.out o_))
    go_loopg [22] k1 (fun kq v22 w' => ∃ (x3_2 : List Int) (x22_2 : Int), v22 = .int .i64 x22_2 ∧ Aside0 (impl_Fs_links.l1 kq x3_2 l0_0 (l0_0.length : Int) x15_1 ((rd_T85 l0_0 x15_1).f6) (((rd_T85 l0_0 x15_1).f6).length : Int) x22_2 = some r) ∧ Aside0 (kq ≤ k1) ∧ Aside0 (Kd.R (Kd.int .i64) 3 w' w.heap.size (fun _ => True) v285 x3_2) ∧ Aside0 (w'.heap[gb283]? = some (.cells #[(.slice (some ad287) l0_0.length c0_0), .int .i64 a0_1] 34 (0, 0))) ∧ Aside0 (w'.heap[gb288]? = some (.cells #[.int .i64 ((rd_T85 l0_0 x15_1).f0), .int .i64 ((rd_T85 l0_0 x15_1).f1), .int .i64 ((rd_T85 l0_0 x15_1).f2), .int .i64 ((rd_T85 l0_0 x15_1).f3), .int .i64 ((rd_T85 l0_0 x15_1).f4), .string ((rd_T85 l0_0 x15_1).f5), (.slice A287_6 ((rd_T85 l0_0 x15_1).f6).length c287_6)] 85 (0, 0))) ∧ Aside0 (Below w.heap.size w w'))
    case atStart => exact ⟨(x3_1), (0), Gtr.fr, H', ⟨Nat.le_refl _⟩, ⟨by (with_reducible repeat (first | apply Kd.R_alloc | apply Kd.R_drewN | apply Kd.R_drew)); exact Kd.R_mono (Kd.R_far (p := ⟨gb288, 6, none⟩) (Kd.R_far (p := ⟨gb288, 5, none⟩) (Kd.R_far (p := ⟨gb288, 4, none⟩) (Kd.R_far (p := ⟨gb288, 3, none⟩) (Kd.R_far (p := ⟨gb288, 2, none⟩) (Kd.R_far (p := ⟨gb288, 1, none⟩) (Kd.R_far (p := ⟨gb288, 0, none⟩) (Kd.R_types HO_3.out BK288.out (by decide)) (fun _ hk => hk.2) (.int .i64 ((rd_T85 l0_0 x15_1).f0))) (fun _ hk => hk.2) (.int .i64 ((rd_T85 l0_0 x15_1).f1))) (fun _ hk => hk.2) (.int .i64 ((rd_T85 l0_0 x15_1).f2))) (fun _ hk => hk.2) (.int .i64 ((rd_T85 l0_0 x15_1).f3))) (fun _ hk => hk.2) (.int .i64 ((rd_T85 l0_0 x15_1).f4))) (fun _ hk => hk.2) (.string ((rd_T85 l0_0 x15_1).f5))) (fun _ hk => hk.2) (.slice A287_6 ((rd_T85 l0_0 x15_1).f6).length c287_6)) (fun _ hk => trivial)⟩, ⟨by (with_reducible repeat (first | refine blk_drewN ?_ _ | refine blk_drew ?_ | refine blk_alloc ?_ _)); refine blk_far ?_ NB283_288.out _; (with_reducible repeat (first | refine blk_drewN ?_ _ | refine blk_drew ?_ | refine blk_alloc ?_ _)); refine blk_far ?_ NB283_288.out _; (with_reducible repeat (first | refine blk_drewN ?_ _ | refine blk_drew ?_ | refine blk_alloc ?_ _)); refine blk_far ?_ NB283_288.out _; (with_reducible repeat (first | refine blk_drewN ?_ _ | refine blk_drew ?_ | refine blk_alloc ?_ _)); refine blk_far ?_ NB283_288.out _; (with_reducible repeat (first | refine blk_drewN ?_ _ | refine blk_drew ?_ | refine blk_alloc ?_ _)); refine blk_far ?_ NB283_288.out _; (with_reducible repeat (first | refine blk_drewN ?_ _ | refine blk_drew ?_ | refine blk_alloc ?_ _)); refine blk_far ?_ NB283_288.out _; (with_reducible repeat (first | refine blk_drewN ?_ _ | refine blk_drew ?_ | refine blk_alloc ?_ _)); refine blk_far ?_ NB283_288.out _; (with_reducible repeat (first | refine blk_drewN ?_ _ | refine blk_drew ?_ | refine blk_alloc ?_ _)); exact BK283.out⟩, ⟨by (with_reducible repeat (first | refine blk_drewN ?_ _ | refine blk_drew ?_ | refine blk_alloc ?_ _)); refine blk_put (cs := #[.int .i64 ((rd_T85 l0_0 x15_1).f0), .int .i64 ((rd_T85 l0_0 x15_1).f1), .int .i64 ((rd_T85 l0_0 x15_1).f2), .int .i64 ((rd_T85 l0_0 x15_1).f3), .int .i64 ((rd_T85 l0_0 x15_1).f4), .string ((rd_T85 l0_0 x15_1).f5), .slice none 0 0]) ?_ 6 _ rfl; (with_reducible repeat (first | refine blk_drewN ?_ _ | refine blk_drew ?_ | refine blk_alloc ?_ _)); refine blk_put (cs := #[.int .i64 ((rd_T85 l0_0 x15_1).f0), .int .i64 ((rd_T85 l0_0 x15_1).f1), .int .i64 ((rd_T85 l0_0 x15_1).f2), .int .i64 ((rd_T85 l0_0 x15_1).f3), .int .i64 ((rd_T85 l0_0 x15_1).f4), .string (⟨#[]⟩ : ByteArray), .slice none 0 0]) ?_ 5 _ rfl; (with_reducible repeat (first | refine blk_drewN ?_ _ | refine blk_drew ?_ | refine blk_alloc ?_ _)); refine blk_put (cs := #[.int .i64 ((rd_T85 l0_0 x15_1).f0), .int .i64 ((rd_T85 l0_0 x15_1).f1), .int .i64 ((rd_T85 l0_0 x15_1).f2), .int .i64 ((rd_T85 l0_0 x15_1).f3), .int .i64 0, .string (⟨#[]⟩ : ByteArray), .slice none 0 0]) ?_ 4 _ rfl; (with_reducible repeat (first | refine blk_drewN ?_ _ | refine blk_drew ?_ | refine blk_alloc ?_ _)); refine blk_put (cs := #[.int .i64 ((rd_T85 l0_0 x15_1).f0), .int .i64 ((rd_T85 l0_0 x15_1).f1), .int .i64 ((rd_T85 l0_0 x15_1).f2), .int .i64 0, .int .i64 0, .string (⟨#[]⟩ : ByteArray), .slice none 0 0]) ?_ 3 _ rfl; (with_reducible repeat (first | refine blk_drewN ?_ _ | refine blk_drew ?_ | refine blk_alloc ?_ _)); refine blk_put (cs := #[.int .i64 ((rd_T85 l0_0 x15_1).f0), .int .i64 ((rd_T85 l0_0 x15_1).f1), .int .i64 0, .int .i64 0, .int .i64 0, .string (⟨#[]⟩ : ByteArray), .slice none 0 0]) ?_ 2 _ rfl; (with_reducible repeat (first | refine blk_drewN ?_ _ | refine blk_drew ?_ | refine blk_alloc ?_ _)); refine blk_put (cs := #[.int .i64 ((rd_T85 l0_0 x15_1).f0), .int .i64 0, .int .i64 0, .int .i64 0, .int .i64 0, .string (⟨#[]⟩ : ByteArray), .slice none 0 0]) ?_ 1 _ rfl; (with_reducible repeat (first | refine blk_drewN ?_ _ | refine blk_drew ?_ | refine blk_alloc ?_ _)); refine blk_put (cs := #[.int .i64 0, .int .i64 0, .int .i64 0, .int .i64 0, .int .i64 0, .string (⟨#[]⟩ : ByteArray), .slice none 0 0]) ?_ 0 _ rfl; (with_reducible repeat (first | refine blk_drewN ?_ _ | refine blk_drew ?_ | refine blk_alloc ?_ _)); exact BK288.out⟩, ⟨Gtr.bw HB.out⟩⟩
    case round =>
     clear H'
     (try clear c1);(try clear c2);(try clear c2b0);(try clear c2b1);(try clear p2);(try clear q2);(try clear hx2);(try clear c3);(try clear c3b0);(try clear c3b1);(try clear c9);(try clear c9b0);(try clear c10);(try clear c10b0);(try clear c11);(try clear c11b0);(try clear c13);(try clear hcz14_0);(try clear hcz14_1);(try clear hcz14_2);(try clear hcz14_3);(try clear hcz14_4);(try clear hcz14_5);(try clear hcz14_6);(try clear hcz5_0);(try clear hcz5_1);(try clear hcz8_0);(try clear hcz8_1);(try clear hfz14_0);(try clear hfz14_1);(try clear hfz14_2);(try clear hfz14_3);(try clear hfz14_4);(try clear hfz14_5);(try clear hfz14_6);(try clear hfz5_0);(try clear hfz5_1);(try clear hfz8_0);(try clear hfz8_1);(try clear hx287_0);(try clear hx287_1);(try clear hx287_2);(try clear hx287_3);(try clear hx287_4);(try clear hx287_5);(try clear hx287_6);(try clear p2);(try clear p287);(try clear q287)
     obtain ⟨x3_2, x22_2, rfl, HA, HK2, HO_3, BK283, BK288, HB⟩ := hrel
     cases gk with
     | zero => exact absurd HA.out (by simp [impl_Fs_links.l1])
     | succ k2 =>
      have H := HA.out
      clear HA
      simp only [impl_Fs_links.l1] at H
      by_cases c15 : x22_2 < (((rd_T85 l0_0 x15_1).f6).length : Int)
      ·rw [if_pos c15] at H
       have c15b0 : decide (x22_2 < (((rd_T85 l0_0 x15_1).f6).length : Int)) = true := decide_eq_true c15
       clear c15
       refine Or.elim (Classical.em (0 ≤ x22_2)) (fun c16 => ?_) (fun c16 => by rw [if_neg c16] at H; exact absurd H (by simp))
       rw [if_pos c16] at H
       have c16b0 : decide (0 ≤ x22_2) = true := decide_eq_true c16
       clear c16
       refine Or.elim (Classical.em (x22_2 < (((rd_T85 l0_0 x15_1).f6).length : Int))) (fun c17 => ?_) (fun c17 => by rw [if_neg c17] at H; exact absurd H (by simp))
       rw [if_pos c17] at H
       have c17b0 : decide (x22_2 < (((rd_T85 l0_0 x15_1).f6).length : Int)) = true := decide_eq_true c17
       clear c17
       refine Or.elim (Classical.em (0 ≤ ((rd_T144 ((rd_T85 l0_0 x15_1).f6) x22_2).f1))) (fun c18 => ?_) (fun c18 => by rw [if_neg c18] at H; exact absurd H (by simp))
       rw [if_pos c18] at H
       have c18b0 : decide (0 ≤ ((rd_T144 ((rd_T85 l0_0 x15_1).f6) x22_2).f1)) = true := decide_eq_true c18
       clear c18
       refine Or.elim (Classical.em (((rd_T144 ((rd_T85 l0_0 x15_1).f6) x22_2).f1) < (x3_2.length : Int))) (fun c19 => ?_) (fun c19 => by rw [if_neg c19] at H; exact absurd H (by simp))
       rw [if_pos c19] at H
       have c19b0 : decide (((rd_T144 ((rd_T85 l0_0 x15_1).f6) x22_2).f1) < (x3_2.length : Int)) = true := decide_eq_true c19
       clear c19
       obtain ⟨y292, hy292⟩ : ∃ y_ : List Int, y_ = (x3_2.set (((rd_T144 ((rd_T85 l0_0 x15_1).f6) x22_2).f1) : Int).toNat (wrap64 ((rd x3_2 ((rd_T144 ((rd_T85 l0_0 x15_1).f6) x22_2).f1)) + 1))) := ⟨_, rfl⟩
       replace H : (impl_Fs_links.l1 k2 y292 l0_0 (l0_0.length : Int) x15_1 ((rd_T85 l0_0 x15_1).f6) (((rd_T85 l0_0 x15_1).f6).length : Int) (wrap64 (x22_2 + 1))) = some r := by first | (rw [hy292]; with_reducible exact H) | (have H2_ := (Option.bind_some _ _).symm.trans H; rw [hy292]; with_reducible exact H2_) | (have H2_ := (Option.bind_some _ _).symm.trans H; with_reducible exact H2_) | with_reducible exact H | (rw [hy292]; exact H) | exact H
       have Ny292 := Aside0.mk hy292
       clear hy292
       have H' := Aside0.mk H
       clear H
       have p289 : 0 ≤ (x22_2 : Int) := Gtr.od
       have q289 : x22_2 < (((rd_T85 l0_0 x15_1).f6).length : Int) := Gtr.od
       obtain ⟨ad289, e289, hx289_0, hx289_1⟩ := at_T144 HR287_6.out x22_2 p289 q289
       cases e289
       replace hx289_0 := Gtr.cl HB.out hx289_0
       replace hx289_1 := Gtr.cl HB.out hx289_1
       replace p289 := eq_true p289
       replace q289 := eq_true q289
       go_wp2_with (first | ((with_reducible refine gate_dst (N := 7) rfl ?_); refine box_event rfl (N := 7) rfl (cs := #[.string (⟨#[]⟩ : ByteArray), .int .i64 0]) (t := 144) (by first | (go_simp; done) | (go_simp; rfl)) ?_; intro gb290 hg w21 hbox hb; replace HO_3 := Aside0.mk (Kd.R_below (by (with_reducible repeat (first | apply Kd.R_alloc | apply Kd.R_drewN | apply Kd.R_drew)); exact HO_3.out) hb); have BK290 := Aside0.mk (hbox); have GW290 := Aside0.mk (Gtr.gz hg (Gtr.bw HB.out)); have GE290 := GW290; replace HB := Aside0.mk (below_step (Gtr.bw HB.out) hb); have NB283_290 := Aside0.mk (Gtr.nl hg (Gtr.bk BK283.out)); have NB290_283 := Aside0.mk NB283_290.out.symm; replace BK283 := Aside0.mk (blk_below (Gtr.bk BK283.out) hb); have NB288_290 := Aside0.mk (Gtr.nl hg (Gtr.bk BK288.out)); have NB290_288 := Aside0.mk NB288_290.out.symm; replace BK288 := Aside0.mk (blk_below (Gtr.bk BK288.out) hb); clear hb hbox hg; have hnb22 := NB290_283.out; have hnc22 := NB283_290.out; have hnb23 := NB290_288.out; have hnc23 := NB288_290.out; have hcz24_0 := fun o_ => blk_cell BK290.out o_; have hfz24_0 := fun o_ => blk_frozen BK290.out o_) | ((with_reducible refine gate_store (t := 144) (p := 7) rfl ?_); refine store_event (t := 144) (p := 7) (v := ?vo_w25) (w1 := ((w21.setCell ⟨gb290, 0, none⟩ (.string ((rd_T144 ((rd_T85 l0_0 x15_1).f6) x22_2).f0))).setCell ⟨gb290, 1, none⟩ (.int .i64 ((rd_T144 ((rd_T85 l0_0 x15_1).f6) x22_2).f1)))) ?hg ?ho ?hn ?hr ?_; (case ho => rfl); (case hg => rfl); (case hn => rfl); (case hr => first | (go_simp; done) | (go_simp; rfl)); intro w25 hw; have n0_ : Aside0 (Kd.R (Kd.int .i64) 3 w25 w.heap.size (fun _ => True) v285 x3_2) := ⟨(by rw [hw]; exact (by (with_reducible repeat (first | apply Kd.R_alloc | apply Kd.R_drewN | apply Kd.R_drew)); exact Kd.R_mono (Kd.R_far (p := ⟨gb290, 1, none⟩) (Kd.R_far (p := ⟨gb290, 0, none⟩) (Kd.R_types HO_3.out BK290.out (by decide)) (fun _ hk => hk.2) (.string ((rd_T144 ((rd_T85 l0_0 x15_1).f6) x22_2).f0))) (fun _ hk => hk.2) (.int .i64 ((rd_T144 ((rd_T85 l0_0 x15_1).f6) x22_2).f1))) (fun _ hk => trivial)))⟩; have n1_ : Aside0 (w25.heap[gb283]? = some (.cells #[.slice (some ad287) l0_0.length c0_0, .int .i64 a0_1] 34 (0, 0))) := ⟨(by rw [hw]; exact (by (with_reducible repeat (first | refine blk_drewN ?_ _ | refine blk_drew ?_ | refine blk_alloc ?_ _)); refine blk_far ?_ NB283_290.out _; (with_reducible repeat (first | refine blk_drewN ?_ _ | refine blk_drew ?_ | refine blk_alloc ?_ _)); refine blk_far ?_ NB283_290.out _; (with_reducible repeat (first | refine blk_drewN ?_ _ | refine blk_drew ?_ | refine blk_alloc ?_ _)); exact BK283.out))⟩; have n2_ : Aside0 (w25.heap[gb288]? = some (.cells #[.int .i64 ((rd_T85 l0_0 x15_1).f0), .int .i64 ((rd_T85 l0_0 x15_1).f1), .int .i64 ((rd_T85 l0_0 x15_1).f2), .int .i64 ((rd_T85 l0_0 x15_1).f3), .int .i64 ((rd_T85 l0_0 x15_1).f4), .string ((rd_T85 l0_0 x15_1).f5), .slice (some ad289) ((rd_T85 l0_0 x15_1).f6).length c287_6] 85 (0, 0))) := ⟨(by rw [hw]; exact (by (with_reducible repeat (first | refine blk_drewN ?_ _ | refine blk_drew ?_ | refine blk_alloc ?_ _)); refine blk_far ?_ NB288_290.out _; (with_reducible repeat (first | refine blk_drewN ?_ _ | refine blk_drew ?_ | refine blk_alloc ?_ _)); refine blk_far ?_ NB288_290.out _; (with_reducible repeat (first | refine blk_drewN ?_ _ | refine blk_drew ?_ | refine blk_alloc ?_ _)); exact BK288.out))⟩; have n3_ : Aside0 (w25.heap[gb290]? = some (.cells #[.string ((rd_T144 ((rd_T85 l0_0 x15_1).f6) x22_2).f0), .int .i64 ((rd_T144 ((rd_T85 l0_0 x15_1).f6) x22_2).f1)] 144 (0, 0))) := ⟨(by rw [hw]; exact (by (with_reducible repeat (first | refine blk_drewN ?_ _ | refine blk_drew ?_ | refine blk_alloc ?_ _)); refine blk_put (cs := #[.string ((rd_T144 ((rd_T85 l0_0 x15_1).f6) x22_2).f0), .int .i64 0]) ?_ 1 _ rfl; (with_reducible repeat (first | refine blk_drewN ?_ _ | refine blk_drew ?_ | refine blk_alloc ?_ _)); refine blk_put (cs := #[.string (⟨#[]⟩ : ByteArray), .int .i64 0]) ?_ 0 _ rfl; (with_reducible repeat (first | refine blk_drewN ?_ _ | refine blk_drew ?_ | refine blk_alloc ?_ _)); exact BK290.out))⟩; have n4_ : Aside0 (Below w.heap.size w w25) := ⟨(by rw [hw]; exact (Gtr.bw HB.out))⟩; clear hw; clear HO_3; clear BK283; clear BK288; clear BK290; clear HB; have HO_3 := n0_; have BK283 := n1_; have BK288 := n2_; have BK290 := n3_; have HB := n4_; clear n0_ n1_ n2_ n3_ n4_; have hcz26_0 : w25.cell? ⟨gb290, 0, none⟩ = some (.string ((rd_T144 ((rd_T85 l0_0 x15_1).f6) x22_2).f0)) := (blk_cell BK290.out 0).trans rfl; have hcz26_1 : w25.cell? ⟨gb290, 1, none⟩ = some (.int .i64 ((rd_T144 ((rd_T85 l0_0 x15_1).f6) x22_2).f1)) := (blk_cell BK290.out 1).trans rfl; have hfz26_0 := fun o_ => blk_frozen BK290.out o_; obtain ⟨Ao27, co27, eo27⟩ := Kd.R_slice HO_3.out; subst eo27; have p291 : 0 ≤ (((rd_T144 ((rd_T85 l0_0 x15_1).f6) x22_2).f1) : Int) := Gtr.od; have q291 : ((rd_T144 ((rd_T85 l0_0 x15_1).f6) x22_2).f1) < (x3_2.length : Int) := Gtr.od; obtain ⟨ad291, e291, hx291_0⟩ := Kd.at_int (Kd.R_reads' HO_3.out).2.2 ((rd_T144 ((rd_T85 l0_0 x15_1).f6) x22_2).f1) p291 q291; cases e291; replace p291 := eq_true p291; replace q291 := eq_true q291; have p20 : 0 ≤ (((rd_T144 ((rd_T85 l0_0 x15_1).f6) x22_2).f1) : Int) := Gtr.od; have q20 : (((rd_T144 ((rd_T85 l0_0 x15_1).f6) x22_2).f1) : Int) < ((x3_2.length : Int) : Int) := Gtr.od; obtain ⟨go20, co20, eo20, gb20, gl20, cl20, HG20⟩ := Kd.R_form HO_3.out (by omega); (first | cases eo20 | (injection eo20 with ea_ en_ ec_; (first | subst ea_ | (injection ea_ with ea_; subst ea_)); subst ec_; clear en_)); have GB20 := Aside0.mk gb20; have GG20 := Aside0.mk HG20; clear gb20 gl20 HG20; (first | simp only [add_plain] at hx291_0 | skip); obtain ⟨hx20_0, hf20_0⟩ := Kd.R_celln 0 HO_3.out (((rd_T144 ((rd_T85 l0_0 x15_1).f6) x22_2).f1) : Int) p20 q20; replace p20 := eq_true p20; replace q20 := eq_true q20; obtain ⟨hy28_, hz28_⟩ := Kd.R_celln 0 HO_3.out (((rd_T144 ((rd_T85 l0_0 x15_1).f6) x22_2).f1) : Int) (Gtr.od) (Gtr.od); have HP28 := Kd.R_putg HO_3.out (((rd_T144 ((rd_T85 l0_0 x15_1).f6) x22_2).f1) : Int) (wrap64 ((rd x3_2 ((rd_T144 ((rd_T85 l0_0 x15_1).f6) x22_2).f1)) + 1))) | ((with_reducible refine gate_store (t := 3) (p := 32) rfl ?_); refine store_event (t := 3) (p := 32) (v := ?vo_w29) (w1 := (w25.setCell ⟨go20, (((rd_T144 ((rd_T85 l0_0 x15_1).f6) x22_2).f1) : Int).toNat, none⟩ (.int .i64 (wrap64 ((rd x3_2 ((rd_T144 ((rd_T85 l0_0 x15_1).f6) x22_2).f1)) + 1))))) ?hg ?ho ?hn ?hr ?_; (case ho => rfl); (case hg => rfl); (case hn => rfl); (case hr => first | (go_simp; done) | (go_simp; rfl)); intro w29 hw; have hg : w25.grownBy w29 (some go20) := (by rw [hw]; exact HP28.2); have hp_ : Kd.R (Kd.int .i64) 3 w29 w.heap.size (fun _ => True) (.slice (some ⟨go20, 0, none⟩) x3_2.length co27) y292 := (by rw [hw, Ny292.out]; exact HP28.1); clear HP28; replace BK283 := Aside0.mk (blk_grown (g := gb283) (o := .cells #[.slice (some ad287) l0_0.length c0_0, .int .i64 a0_1] 34 (0, 0)) (by (with_reducible repeat (first | refine blk_drewN ?_ _ | refine blk_drew ?_ | refine blk_alloc ?_ _)); exact BK283.out) hg (Kd.R_ne HO_3.out BK283.out (by decide))); replace BK288 := Aside0.mk (blk_grown (g := gb288) (o := .cells #[.int .i64 ((rd_T85 l0_0 x15_1).f0), .int .i64 ((rd_T85 l0_0 x15_1).f1), .int .i64 ((rd_T85 l0_0 x15_1).f2), .int .i64 ((rd_T85 l0_0 x15_1).f3), .int .i64 ((rd_T85 l0_0 x15_1).f4), .string ((rd_T85 l0_0 x15_1).f5), .slice (some ad289) ((rd_T85 l0_0 x15_1).f6).length c287_6] 85 (0, 0)) (by (with_reducible repeat (first | refine blk_drewN ?_ _ | refine blk_drew ?_ | refine blk_alloc ?_ _)); exact BK288.out) hg (Kd.R_ne HO_3.out BK288.out (by decide))); replace BK290 := Aside0.mk (blk_grown (g := gb290) (o := .cells #[.string ((rd_T144 ((rd_T85 l0_0 x15_1).f6) x22_2).f0), .int .i64 ((rd_T144 ((rd_T85 l0_0 x15_1).f6) x22_2).f1)] 144 (0, 0)) (by (with_reducible repeat (first | refine blk_drewN ?_ _ | refine blk_drew ?_ | refine blk_alloc ?_ _)); exact BK290.out) hg (Kd.R_ne HO_3.out BK290.out (by decide))); replace HO_3 := Aside0.mk (hp_); replace HB := Aside0.mk ((by rw [hw]; exact below_set (HB.out) GB20.out : Below w.heap.size w w29)); clear hg hw hp_))
       go_roundg k2
       case measure => have := HK1.out; have := HK2.out; omega
       case rel => exact ⟨(y292), (wrap64 (x22_2 + 1)), Gtr.fr, H', ⟨by have := HK1.out; have := HK2.out; omega⟩, ⟨by (with_reducible repeat (first | apply Kd.R_alloc | apply Kd.R_drewN | apply Kd.R_drew)); exact HO_3.out⟩, ⟨by (with_reducible repeat (first | refine blk_drewN ?_ _ | refine blk_drew ?_ | refine blk_alloc ?_ _)); exact BK283.out⟩, ⟨by (with_reducible repeat (first | refine blk_drewN ?_ _ | refine blk_drew ?_ | refine blk_alloc ?_ _)); exact BK288.out⟩, ⟨Gtr.bw HB.out⟩⟩
      ·rw [if_neg c15] at H
       have c15b0 : decide (x22_2 < (((rd_T85 l0_0 x15_1).f6).length : Int)) = false := decide_eq_false c15
       clear c15
       have H' := Aside0.mk H
       clear H
       go_wp2
       go_roundg k2
       case measure => have := HK1.out; have := HK2.out; omega
       case rel => exact ⟨(x3_2), (wrap64 (x15_1 + 1)), Gtr.fr, H', ⟨by have := HK1.out; have := HK2.out; omega⟩, ⟨by (with_reducible repeat (first | apply Kd.R_alloc | apply Kd.R_drewN | apply Kd.R_drew)); exact HO_3.out⟩, ⟨by (with_reducible repeat (first | refine blk_drewN ?_ _ | refine blk_drew ?_ | refine blk_alloc ?_ _)); exact BK283.out⟩, ⟨Gtr.bw HB.out⟩⟩
   ·rw [if_neg c9] at H
    have c9b0 : decide (x15_1 < (l0_0.length : Int)) = false := decide_eq_false c9
    clear c9
    obtain rfl := Option.some.inj H
    go_wp2
    go_ret
    exact ⟨_, Gtr.fe, by (with_reducible repeat (first | apply Kd.R_alloc | apply Kd.R_drewN | apply Kd.R_drew)); exact HO_3.out, Gtr.bw HB.out⟩
def pre (n k : Nat) : Array Bool := ((List.range n).map (fun i => decide (i < k))).toArray
section
variable {P : Program} {ops : Array Oper} {Q : Exit → Act → World → Prop} {S : World → Prop} {ds : List Nat} {md : Region.Mode} {T : Bool × List (List Nat × List Nat)} {B : List Nat}
theorem rg_start {id n : Nat} {a : Act} {w : World} (hT : rtab .any ops = T) (hB : waitsOk T.2 B = true) (hm : P.follows .mixedOrders = true) (hn : ops.size = n) (hl : Array.replicate n false = pre n 0) (hS : S w.drew)
    (h : Aside0 (rtab .any ops = T) → Aside0 (waitsOk T.2 B = true) → Aside0 (S w.drew) → wpAnyLast P .any ops Q S [] n (pre n 0) a w.drew) : (Code.region id ops true).wp P Q a w :=
  start_ (ds := []) (pre n 0) hm hn hl hS (fun _ => h ⟨hT⟩ ⟨hB⟩ ⟨hS⟩)
theorem rg_take {k k' n : Nat} {N : Option Tmp} {oi : Oper} {v : Value} {fuel : Nat} {a : Act} {w : World} (hk : k + 1 = k') (hi : ops[k]? = some oi) (hN : oi.dst = N) (hT : Aside0 (rtab md ops = T)) (hB : Aside0 (waitsOk T.2 B = true)) (hc : takeW T B ds (pre n k).toList (pre n k').toList k = true)
    (hQ : ∀ c a w, Q (.panic c) (a.put oi.dst v) w → Q (.panic c) a w) (hy : YieldsIf P ops S oi v a) (hS : Aside0 (S w)) {a' : Act} (ha : a.put N v = a')
    (h : wpAnyLast P md ops Q S ds fuel (pre n k') a' w) : wpAnyLast P md ops Q S ds (fuel + 1) (pre n k) a w := by
  subst hk
  exact take_ (i := k) (pre n (k + 1)) hi hN (take_ofW hT.out hB.out hc) hQ hy hS.out ha h
theorem rg_one {k k' n : Nat} {N : Option Tmp} {oi : Oper} {fuel : Nat} {a : Act} {w : World} (hk : k + 1 = k') (hi : ops[k]? = some oi) (hN : oi.dst = N) (hT : Aside0 (rtab md ops = T)) (hc : (readyT T.2 (pre n k).toList == [k] && (pre n k).toList.set k true == (pre n k').toList) = true) (hd : k ∉ ds)
    (h : ∀ K : Act → World → Prop, Shut (∀ a' w', S w' → (S w' → wpAnyLast P md ops Q S ds fuel (pre n k') a' w') → K a' w') → if Region.wanted oi (yielded ops a.tmps) = true then Oper.wp P oi a w K Q else K (a.put N undef) w) :
    wpAnyLast P md ops Q S ds (fuel + 1) (pre n k) a w := by
  subst hk
  exact one_ (i := k) (pre n (k + 1)) hi hN (one_of hT.out hc) hd h
end
def spec_l2Whole.f (k : Nat) (a0 : ByteArray) : Option (Bool) := (spec_l2Path.f k a0).bind fun t212 => (if t212 = true then (if 0 < (a0.size : Int) then (some ((bt a0 0) == 47)) else (none)) else (some false))
set_option maxHeartbeats 8000000 in
set_option maxRecDepth 100000 in
theorem spec_l2Whole.calls (k : Nat) (a0 : ByteArray) (r : Bool) (w : World) (h : spec_l2Whole.f k a0 = some r) :
  Calls Tryz.prog 76 #[.string a0] w fun e w' => e = .returned (.bool r) ∧ Below w.heap.size w w' := by
 have HB := Aside0.mk (Below.refl w.heap.size w)
 have H : ((spec_l2Path.f k a0).bind fun t212 => (if t212 = true then (if 0 < (a0.size : Int) then (some ((bt a0 0) == 47)) else (none)) else (some false))) = some r := h
 clear h
 replace H := Option.bind_eq_some_iff.mp H
 obtain ⟨t212, A20, H⟩ := H
 try dsimp only at H
 have A2 := Aside0.mk A20
 clear A20
 by_cases c3 : t212 = true
 ·subst c3
  have H1 := H
  rw [if_pos rfl] at H1
  clear H
  have H := H1
  clear H1
  refine Or.elim (Classical.em (0 < (a0.size : Int))) (fun c4 => ?_) (fun c4 => by rw [if_neg c4] at H; exact absurd H (by simp))
  rw [if_pos c4] at H
  have c4b0 : decide (0 < (a0.size : Int)) = true := decide_eq_true c4
  have c4b1 : decide (0 < a0.size) = true := decide_eq_true (by omega)
  clear c4
  obtain rfl := Option.some.inj H
  go_enter Tryz.func76, Tryz.ntmps76
  go_wp2_with (first | ((with_reducible refine gate_callee (f := 60) rfl ?_); refine goesL_ (some 4) rfl rfl Tryz.func60 (by kernel_rfl) rfl #[.string a0] rfl (by (try simp only [List.map_toArray, List.map_cons, List.map_nil]); first | done | rfl | (simp only [List.length_drop, List.length_take]; rfl)) ?_; (with_reducible refine (spec_l2Path.calls k a0 true _ A2.out).mono ?_); rintro e w6 ⟨rfl, hb⟩; refine ⟨_, rfl, ?_⟩; replace HB := Aside0.mk (below_step (Gtr.bw HB.out) hb); (try clear hb); (try clear hb2); (try clear hk); (try clear hi); have p5 : 0 ≤ (0 : Int) := (by omega); have q5 : 0 < a0.size := (by have : (0 : Int) < (a0.size : Int) := Gtr.od; omega); have hx5 : ∀ h : 0 < a0.size, ((a0[0]'h).toNat : Int) = bt a0 0 := bt_at a0 0; clear p5; have qi5 : (0 < (a0.size : Int)) = True := eq_true (Gtr.od); replace q5 := eq_true q5))
  go_ret
  exact ⟨Gtr.fe, (Gtr.bw HB.out)⟩
 ·replace c3 := Bool.eq_false_iff.mpr c3
  subst c3
  have H1 : (some false) = some r := by rw [if_neg (show ¬ (false = true) by decide)] at H; exact H
  clear H
  have H := H1
  clear H1
  obtain rfl := Option.some.inj H
  go_enter Tryz.func76, Tryz.ntmps76
  go_wp2_with (first | ((with_reducible refine gate_callee (f := 60) rfl ?_); refine goesL_ (some 4) rfl rfl Tryz.func60 (by kernel_rfl) rfl #[.string a0] rfl (by (try simp only [List.map_toArray, List.map_cons, List.map_nil]); first | done | rfl | (simp only [List.length_drop, List.length_take]; rfl)) ?_; (with_reducible refine (spec_l2Path.calls k a0 false _ A2.out).mono ?_); rintro e w7 ⟨rfl, hb⟩; refine ⟨_, rfl, ?_⟩; replace HB := Aside0.mk (below_step (Gtr.bw HB.out) hb); (try clear hb); (try clear hb2); (try clear hk); (try clear hi)))
  go_ret
  exact ⟨Gtr.fe, (Gtr.bw HB.out)⟩
def spec_l1May.f (a0_0 : Int) (a0_1 : Int) (a1 : Int) (a2 : Int) (a3 : Int) (a4 : Int) : Option (Bool) := if a0_0 = 0 then (some true) else (if a0_0 = a2 then (some ((Go.bits .and .i64 (a1 / 64) a4) == a4)) else (if a0_1 = a3 then (some ((Go.bits .and .i64 (Go.bits .and .i64 (a1 / 8) 7) a4) == a4)) else (some ((Go.bits .and .i64 (Go.bits .and .i64 a1 7) a4) == a4))))
set_option maxHeartbeats 8000000 in
set_option maxRecDepth 100000 in
theorem spec_l1May.calls (a0_0 : Int) (a0_1 : Int) (a1 : Int) (a2 : Int) (a3 : Int) (a4 : Int) (r : Bool) (w : World) (h : spec_l1May.f a0_0 a0_1 a1 a2 a3 a4 = some r) :
  Calls Tryz.prog 166 #[.agg #[.int .i64 a0_0, .int .i64 a0_1], .int .i64 a1, .int .i64 a2, .int .i64 a3, .int .i64 a4] w fun e w' => e = .returned (.bool r) ∧ Below w.heap.size w w' := by
 have hu36 := Tryz.underlying36
 have HB := Aside0.mk (Below.refl w.heap.size w)
 have H : (if a0_0 = 0 then (some true) else (if a0_0 = a2 then (some ((Go.bits .and .i64 (a1 / 64) a4) == a4)) else (if a0_1 = a3 then (some ((Go.bits .and .i64 (Go.bits .and .i64 (a1 / 8) 7) a4) == a4)) else (some ((Go.bits .and .i64 (Go.bits .and .i64 a1 7) a4) == a4))))) = some r := h
 clear h
 by_cases c6 : a0_0 = 0
 ·rw [if_pos c6] at H
  have c6b0 : (a0_0 == 0) = true := beq_iff_eq.mpr c6
  have c6b1 : (a0_0 != 0) = false := bne_eq_false_iff_eq.mpr c6
  clear c6
  obtain rfl := Option.some.inj H
  go_enter Tryz.func166, Tryz.ntmps166
  go_wp2_with (first | ((with_reducible refine gate_dst (N := 5) rfl ?_); refine box_event rfl (N := 5) rfl (cs := #[.int .i64 a0_0, .int .i64 a0_1]) (t := 36) (by first | (go_simp; done) | (go_simp; rfl)) ?_; intro gb215 hg w7 hbox hb; have BK215 := Aside0.mk (hbox); have GW215 := Aside0.mk (Gtr.gz hg (Gtr.bw HB.out)); have GE215 := GW215; replace HB := Aside0.mk (below_step (Gtr.bw HB.out) hb); clear hb hbox hg; have hcz8_0 := fun o_ => blk_cell BK215.out o_; have hfz8_0 := fun o_ => blk_frozen BK215.out o_))
  go_ret
  exact ⟨Gtr.fe, (Gtr.bw HB.out)⟩
 ·rw [if_neg c6] at H
  have c6b0 : (a0_0 == 0) = false := beq_eq_false_iff_ne.mpr c6
  have c6b1 : (a0_0 != 0) = true := bne_iff_ne.mpr c6
  by_cases c9 : a0_0 = a2
  ·rw [if_pos c9] at H
   have c9b0 : (a0_0 == a2) = true := beq_iff_eq.mpr c9
   have c9b1 : (a0_0 != a2) = false := bne_eq_false_iff_eq.mpr c9
   clear c9
   obtain rfl := Option.some.inj H
   go_enter Tryz.func166, Tryz.ntmps166
   go_wp2_with (first | ((with_reducible refine gate_dst (N := 5) rfl ?_); refine box_event rfl (N := 5) rfl (cs := #[.int .i64 a0_0, .int .i64 a0_1]) (t := 36) (by first | (go_simp; done) | (go_simp; rfl)) ?_; intro gb215 hg w10 hbox hb; have BK215 := Aside0.mk (hbox); have GW215 := Aside0.mk (Gtr.gz hg (Gtr.bw HB.out)); have GE215 := GW215; replace HB := Aside0.mk (below_step (Gtr.bw HB.out) hb); clear hb hbox hg; have hcz11_0 := fun o_ => blk_cell BK215.out o_; have hfz11_0 := fun o_ => blk_frozen BK215.out o_))
   go_ret
   exact ⟨Gtr.fe, (Gtr.bw HB.out)⟩
  ·rw [if_neg c9] at H
   have c9b0 : (a0_0 == a2) = false := beq_eq_false_iff_ne.mpr c9
   have c9b1 : (a0_0 != a2) = true := bne_iff_ne.mpr c9
   by_cases c12 : a0_1 = a3
   ·rw [if_pos c12] at H
    have c12b0 : (a0_1 == a3) = true := beq_iff_eq.mpr c12
    have c12b1 : (a0_1 != a3) = false := bne_eq_false_iff_eq.mpr c12
    clear c12
    obtain rfl := Option.some.inj H
    go_enter Tryz.func166, Tryz.ntmps166
    go_wp2_with (first | ((with_reducible refine gate_dst (N := 5) rfl ?_); refine box_event rfl (N := 5) rfl (cs := #[.int .i64 a0_0, .int .i64 a0_1]) (t := 36) (by first | (go_simp; done) | (go_simp; rfl)) ?_; intro gb215 hg w13 hbox hb; have BK215 := Aside0.mk (hbox); have GW215 := Aside0.mk (Gtr.gz hg (Gtr.bw HB.out)); have GE215 := GW215; replace HB := Aside0.mk (below_step (Gtr.bw HB.out) hb); clear hb hbox hg; have hcz14_0 := fun o_ => blk_cell BK215.out o_; have hfz14_0 := fun o_ => blk_frozen BK215.out o_))
    go_ret
    exact ⟨Gtr.fe, (Gtr.bw HB.out)⟩
   ·rw [if_neg c12] at H
    have c12b0 : (a0_1 == a3) = false := beq_eq_false_iff_ne.mpr c12
    have c12b1 : (a0_1 != a3) = true := bne_iff_ne.mpr c12
    obtain rfl := Option.some.inj H
    go_enter Tryz.func166, Tryz.ntmps166
    go_wp2_with (first | ((with_reducible refine gate_dst (N := 5) rfl ?_); refine box_event rfl (N := 5) rfl (cs := #[.int .i64 a0_0, .int .i64 a0_1]) (t := 36) (by first | (go_simp; done) | (go_simp; rfl)) ?_; intro gb215 hg w15 hbox hb; have BK215 := Aside0.mk (hbox); have GW215 := Aside0.mk (Gtr.gz hg (Gtr.bw HB.out)); have GE215 := GW215; replace HB := Aside0.mk (below_step (Gtr.bw HB.out) hb); clear hb hbox hg; have hcz16_0 := fun o_ => blk_cell BK215.out o_; have hfz16_0 := fun o_ => blk_frozen BK215.out o_))
    go_ret
    exact ⟨Gtr.fe, (Gtr.bw HB.out)⟩
def spec_l4May.f (l0_0 : List (S85)) (a0_1 : Int) (a1_0 : Int) (a1_1 : Int) (a2 : Int) (a3 : Int) : Option (Bool) := if 0 ≤ a2 then (if a2 < (l0_0.length : Int) then ((spec_l1May.f a1_0 a1_1 ((rd_T85 l0_0 a2).f1) ((rd_T85 l0_0 a2).f2) ((rd_T85 l0_0 a2).f3) a3).bind fun t220 => (some t220)) else (none)) else (none)
set_option maxHeartbeats 8000000 in
set_option maxRecDepth 100000 in
theorem spec_l4May.calls (A0_0 : Option Addr) (c0_0 : Nat) (l0_0 : List (S85)) (a0_1 : Int) (a1_0 : Int) (a1_1 : Int) (a2 : Int) (a3 : Int) (r : Bool) (w : World) (hr0_0 : Kd.C k85 w A0_0 l0_0.length l0_0) (hc0_0 : l0_0.length ≤ c0_0) (h : spec_l4May.f l0_0 a0_1 a1_0 a1_1 a2 a3 = some r) :
  Calls Tryz.prog 124 #[.agg #[.slice A0_0 l0_0.length c0_0, .int .i64 a0_1], .agg #[.int .i64 a1_0, .int .i64 a1_1], .int .i64 a2, .int .i64 a3] w fun e w' => e = .returned (.bool r) ∧ Below w.heap.size w w' := by
 have hu34 := Tryz.underlying34
 have hu36 := Tryz.underlying36
 have hu85 := Tryz.underlying85
 have HR0_0 := Aside0.mk hr0_0
 have HC0_0 := Aside0.mk hc0_0
 clear hr0_0 hc0_0
 have HB := Aside0.mk (Below.refl w.heap.size w)
 have H : (if 0 ≤ a2 then (if a2 < (l0_0.length : Int) then ((spec_l1May.f a1_0 a1_1 ((rd_T85 l0_0 a2).f1) ((rd_T85 l0_0 a2).f2) ((rd_T85 l0_0 a2).f3) a3).bind fun t220 => (some t220)) else (none)) else (none)) = some r := h
 clear h
 refine Or.elim (Classical.em (0 ≤ a2)) (fun c5 => ?_) (fun c5 => by rw [if_neg c5] at H; exact absurd H (by simp))
 rw [if_pos c5] at H
 have c5b0 : decide (0 ≤ a2) = true := decide_eq_true c5
 clear c5
 refine Or.elim (Classical.em (a2 < (l0_0.length : Int))) (fun c6 => ?_) (fun c6 => by rw [if_neg c6] at H; exact absurd H (by simp))
 rw [if_pos c6] at H
 have c6b0 : decide (a2 < (l0_0.length : Int)) = true := decide_eq_true c6
 clear c6
 replace H := Option.bind_eq_some_iff.mp H
 obtain ⟨t220, A70, H⟩ := H
 replace H : (some t220) = some r := H
 have A7 := Aside0.mk A70
 clear A70
 obtain rfl := Option.some.inj H
 go_enter Tryz.func124, Tryz.ntmps124
 go_wp2_with (first | ((with_reducible refine gate_dst (N := 4) rfl ?_); refine box_event rfl (N := 4) rfl (cs := #[.slice A0_0 l0_0.length c0_0, .int .i64 a0_1]) (t := 34) (by first | (go_simp; done) | (go_simp; rfl)) ?_; intro gb216 hg w8 hbox hb; have BK216 := Aside0.mk (hbox); have GW216 := Aside0.mk (Gtr.gz hg (Gtr.bw HB.out)); have GE216 := GW216; replace HB := Aside0.mk (below_step (Gtr.bw HB.out) hb); clear hb hbox hg) | ((with_reducible refine gate_dst (N := 5) rfl ?_); refine box_event rfl (N := 5) rfl (cs := #[.int .i64 a1_0, .int .i64 a1_1]) (t := 36) (by first | (go_simp; done) | (go_simp; rfl)) ?_; intro gb217 hg w9 hbox hb; have BK217 := Aside0.mk (hbox); have GW217 := Aside0.mk (Gtr.gz hg (Gtr.bw HB.out)); have GE217 := GW217; replace HB := Aside0.mk (below_step (Gtr.bw HB.out) hb); have NB216_217 := Aside0.mk (Gtr.nl hg (Gtr.bk BK216.out)); have NB217_216 := Aside0.mk NB216_217.out.symm; replace BK216 := Aside0.mk (blk_below (Gtr.bk BK216.out) hb); clear hb hbox hg; have hnb10 := NB216_217.out; have hnc10 := NB217_216.out; have hcz11_0 := fun o_ => blk_cell BK216.out o_; have hfz11_0 := fun o_ => blk_frozen BK216.out o_; have p218 : 0 ≤ (a2 : Int) := Gtr.od; have q218 : a2 < (l0_0.length : Int) := Gtr.od; obtain ⟨ad218, A218_6, c218_6, e218, hx218_0, hx218_1, hx218_2, hx218_3, hx218_4, hx218_5, hx218_6, hl218_6, hi218_6⟩ := at_T85 HR0_0.out a2 p218 q218; cases e218; replace hx218_0 := Gtr.cl HB.out hx218_0; replace hx218_1 := Gtr.cl HB.out hx218_1; replace hx218_2 := Gtr.cl HB.out hx218_2; replace hx218_3 := Gtr.cl HB.out hx218_3; replace hx218_4 := Gtr.cl HB.out hx218_4; replace hx218_5 := Gtr.cl HB.out hx218_5; replace hx218_6 := Gtr.cl HB.out hx218_6; have HR218_6 := Aside0.mk hi218_6; have HC218_6 := Aside0.mk hl218_6; clear hi218_6 hl218_6; replace p218 := eq_true p218; replace q218 := eq_true q218) | ((with_reducible refine gate_dst (N := 9) rfl ?_); refine box_event rfl (N := 9) rfl (cs := #[.int .i64 0, .int .i64 0, .int .i64 0, .int .i64 0, .int .i64 0, .string (⟨#[]⟩ : ByteArray), .slice none 0 0]) (t := 85) (by first | (go_simp; done) | (go_simp; rfl)) ?_; intro gb219 hg w12 hbox hb; have BK219 := Aside0.mk (hbox); have GW219 := Aside0.mk (Gtr.gz hg (Gtr.bw HB.out)); have GE219 := GW219; replace HB := Aside0.mk (below_step (Gtr.bw HB.out) hb); have NB216_219 := Aside0.mk (Gtr.nl hg (Gtr.bk BK216.out)); have NB219_216 := Aside0.mk NB216_219.out.symm; replace BK216 := Aside0.mk (blk_below (Gtr.bk BK216.out) hb); have NB217_219 := Aside0.mk (Gtr.nl hg (Gtr.bk BK217.out)); have NB219_217 := Aside0.mk NB217_219.out.symm; replace BK217 := Aside0.mk (blk_below (Gtr.bk BK217.out) hb); clear hb hbox hg; have hnb13 := NB219_216.out; have hnc13 := NB216_219.out; have hnb14 := NB219_217.out; have hnc14 := NB217_219.out; have hcz15_0 := fun o_ => blk_cell BK219.out o_; have hfz15_0 := fun o_ => blk_frozen BK219.out o_; have hcz16_0 := fun o_ => blk_cell BK217.out o_; have hfz16_0 := fun o_ => blk_frozen BK217.out o_) | ((with_reducible refine gate_callee (f := 166) rfl ?_); refine goesL_ (some 23) rfl rfl Tryz.func166 (by kernel_rfl) rfl #[.agg #[.int .i64 a1_0, .int .i64 a1_1], .int .i64 ((rd_T85 l0_0 a2).f1), .int .i64 ((rd_T85 l0_0 a2).f2), .int .i64 ((rd_T85 l0_0 a2).f3), .int .i64 a3] rfl (by (try simp only [List.map_toArray, List.map_cons, List.map_nil]); first | done | rfl | (simp only [List.length_drop, List.length_take]; rfl)) ?_; (with_reducible refine (spec_l1May.calls a1_0 a1_1 ((rd_T85 l0_0 a2).f1) ((rd_T85 l0_0 a2).f2) ((rd_T85 l0_0 a2).f3) a3 t220 _ A7.out).mono ?_); rintro e w17 ⟨rfl, hb⟩; refine ⟨_, rfl, ?_⟩; replace BK216 := Aside0.mk (blk_below (g := gb216) (o := .cells #[.slice (some ad218) l0_0.length c0_0, .int .i64 a0_1] 34 (0, 0)) (by (with_reducible repeat (first | refine blk_drewN ?_ _ | refine blk_drew ?_ | refine blk_alloc ?_ _)); refine blk_far ?_ NB216_219.out _; (with_reducible repeat (first | refine blk_drewN ?_ _ | refine blk_drew ?_ | refine blk_alloc ?_ _)); refine blk_far ?_ NB216_219.out _; (with_reducible repeat (first | refine blk_drewN ?_ _ | refine blk_drew ?_ | refine blk_alloc ?_ _)); refine blk_far ?_ NB216_219.out _; (with_reducible repeat (first | refine blk_drewN ?_ _ | refine blk_drew ?_ | refine blk_alloc ?_ _)); refine blk_far ?_ NB216_219.out _; (with_reducible repeat (first | refine blk_drewN ?_ _ | refine blk_drew ?_ | refine blk_alloc ?_ _)); refine blk_far ?_ NB216_219.out _; (with_reducible repeat (first | refine blk_drewN ?_ _ | refine blk_drew ?_ | refine blk_alloc ?_ _)); refine blk_far ?_ NB216_219.out _; (with_reducible repeat (first | refine blk_drewN ?_ _ | refine blk_drew ?_ | refine blk_alloc ?_ _)); refine blk_far ?_ NB216_219.out _; (with_reducible repeat (first | refine blk_drewN ?_ _ | refine blk_drew ?_ | refine blk_alloc ?_ _)); exact BK216.out) hb); replace BK217 := Aside0.mk (blk_below (g := gb217) (o := .cells #[.int .i64 a1_0, .int .i64 a1_1] 36 (0, 0)) (by (with_reducible repeat (first | refine blk_drewN ?_ _ | refine blk_drew ?_ | refine blk_alloc ?_ _)); refine blk_far ?_ NB217_219.out _; (with_reducible repeat (first | refine blk_drewN ?_ _ | refine blk_drew ?_ | refine blk_alloc ?_ _)); refine blk_far ?_ NB217_219.out _; (with_reducible repeat (first | refine blk_drewN ?_ _ | refine blk_drew ?_ | refine blk_alloc ?_ _)); refine blk_far ?_ NB217_219.out _; (with_reducible repeat (first | refine blk_drewN ?_ _ | refine blk_drew ?_ | refine blk_alloc ?_ _)); refine blk_far ?_ NB217_219.out _; (with_reducible repeat (first | refine blk_drewN ?_ _ | refine blk_drew ?_ | refine blk_alloc ?_ _)); refine blk_far ?_ NB217_219.out _; (with_reducible repeat (first | refine blk_drewN ?_ _ | refine blk_drew ?_ | refine blk_alloc ?_ _)); refine blk_far ?_ NB217_219.out _; (with_reducible repeat (first | refine blk_drewN ?_ _ | refine blk_drew ?_ | refine blk_alloc ?_ _)); refine blk_far ?_ NB217_219.out _; (with_reducible repeat (first | refine blk_drewN ?_ _ | refine blk_drew ?_ | refine blk_alloc ?_ _)); exact BK217.out) hb); replace BK219 := Aside0.mk (blk_below (g := gb219) (o := .cells #[.int .i64 ((rd_T85 l0_0 a2).f0), .int .i64 ((rd_T85 l0_0 a2).f1), .int .i64 ((rd_T85 l0_0 a2).f2), .int .i64 ((rd_T85 l0_0 a2).f3), .int .i64 ((rd_T85 l0_0 a2).f4), .string ((rd_T85 l0_0 a2).f5), .slice A218_6 ((rd_T85 l0_0 a2).f6).length c218_6] 85 (0, 0)) (by (with_reducible repeat (first | refine blk_drewN ?_ _ | refine blk_drew ?_ | refine blk_alloc ?_ _)); refine blk_put (cs := #[.int .i64 ((rd_T85 l0_0 a2).f0), .int .i64 ((rd_T85 l0_0 a2).f1), .int .i64 ((rd_T85 l0_0 a2).f2), .int .i64 ((rd_T85 l0_0 a2).f3), .int .i64 ((rd_T85 l0_0 a2).f4), .string ((rd_T85 l0_0 a2).f5), .slice none 0 0]) ?_ 6 _ rfl; (with_reducible repeat (first | refine blk_drewN ?_ _ | refine blk_drew ?_ | refine blk_alloc ?_ _)); refine blk_put (cs := #[.int .i64 ((rd_T85 l0_0 a2).f0), .int .i64 ((rd_T85 l0_0 a2).f1), .int .i64 ((rd_T85 l0_0 a2).f2), .int .i64 ((rd_T85 l0_0 a2).f3), .int .i64 ((rd_T85 l0_0 a2).f4), .string (⟨#[]⟩ : ByteArray), .slice none 0 0]) ?_ 5 _ rfl; (with_reducible repeat (first | refine blk_drewN ?_ _ | refine blk_drew ?_ | refine blk_alloc ?_ _)); refine blk_put (cs := #[.int .i64 ((rd_T85 l0_0 a2).f0), .int .i64 ((rd_T85 l0_0 a2).f1), .int .i64 ((rd_T85 l0_0 a2).f2), .int .i64 ((rd_T85 l0_0 a2).f3), .int .i64 0, .string (⟨#[]⟩ : ByteArray), .slice none 0 0]) ?_ 4 _ rfl; (with_reducible repeat (first | refine blk_drewN ?_ _ | refine blk_drew ?_ | refine blk_alloc ?_ _)); refine blk_put (cs := #[.int .i64 ((rd_T85 l0_0 a2).f0), .int .i64 ((rd_T85 l0_0 a2).f1), .int .i64 ((rd_T85 l0_0 a2).f2), .int .i64 0, .int .i64 0, .string (⟨#[]⟩ : ByteArray), .slice none 0 0]) ?_ 3 _ rfl; (with_reducible repeat (first | refine blk_drewN ?_ _ | refine blk_drew ?_ | refine blk_alloc ?_ _)); refine blk_put (cs := #[.int .i64 ((rd_T85 l0_0 a2).f0), .int .i64 ((rd_T85 l0_0 a2).f1), .int .i64 0, .int .i64 0, .int .i64 0, .string (⟨#[]⟩ : ByteArray), .slice none 0 0]) ?_ 2 _ rfl; (with_reducible repeat (first | refine blk_drewN ?_ _ | refine blk_drew ?_ | refine blk_alloc ?_ _)); refine blk_put (cs := #[.int .i64 ((rd_T85 l0_0 a2).f0), .int .i64 0, .int .i64 0, .int .i64 0, .int .i64 0, .string (⟨#[]⟩ : ByteArray), .slice none 0 0]) ?_ 1 _ rfl; (with_reducible repeat (first | refine blk_drewN ?_ _ | refine blk_drew ?_ | refine blk_alloc ?_ _)); refine blk_put (cs := #[.int .i64 0, .int .i64 0, .int .i64 0, .int .i64 0, .int .i64 0, .string (⟨#[]⟩ : ByteArray), .slice none 0 0]) ?_ 0 _ rfl; (with_reducible repeat (first | refine blk_drewN ?_ _ | refine blk_drew ?_ | refine blk_alloc ?_ _)); exact BK219.out) hb); replace HB := Aside0.mk (below_step (Gtr.bw HB.out) hb); (try clear hb); (try clear hb2); (try clear hk); (try clear hi)))
 go_ret
 exact ⟨Gtr.fe, Gtr.bw HB.out⟩
def spec_l8Join.f (a0 : ByteArray) (a1 : ByteArray) : Option (ByteArray) := if 0 ≤ (wrap64 ((a0.size : Int) - 1)) then (if (wrap64 ((a0.size : Int) - 1)) < (a0.size : Int) then (if (bt a0 (wrap64 ((a0.size : Int) - 1))) = 47 then (if a0.size + a1.size ≤ 9223372036854775807 then (some (a0 ++ a1)) else (none)) else (if a0.size + 1 ≤ 9223372036854775807 then (if (a0 ++ (⟨#[47]⟩ : ByteArray)).size + a1.size ≤ 9223372036854775807 then (some ((a0 ++ (⟨#[47]⟩ : ByteArray)) ++ a1)) else (none)) else (none))) else (none)) else (none)
set_option maxHeartbeats 8000000 in
set_option maxRecDepth 100000 in
theorem spec_l8Join.calls (a0 : ByteArray) (a1 : ByteArray) (r : ByteArray) (w : World) (h : spec_l8Join.f a0 a1 = some r) :
  Calls Tryz.prog 125 #[.string a0, .string a1] w fun e w' => e = .returned (.string r) ∧ Drawn0 w w' := by
 have H : (if 0 ≤ (wrap64 ((a0.size : Int) - 1)) then (if (wrap64 ((a0.size : Int) - 1)) < (a0.size : Int) then (if (bt a0 (wrap64 ((a0.size : Int) - 1))) = 47 then (if a0.size + a1.size ≤ 9223372036854775807 then (some (a0 ++ a1)) else (none)) else (if a0.size + 1 ≤ 9223372036854775807 then (if (a0 ++ (⟨#[47]⟩ : ByteArray)).size + a1.size ≤ 9223372036854775807 then (some ((a0 ++ (⟨#[47]⟩ : ByteArray)) ++ a1)) else (none)) else (none))) else (none)) else (none)) = some r := h
 clear h
 obtain ⟨ji3, hji3⟩ : ∃ j_ : Int, (wrap64 ((a0.size : Int) - 1)) = j_ := ⟨_, rfl⟩
 replace H : (if 0 ≤ (ji3) then (if (ji3) < (a0.size : Int) then (if (bt a0 (ji3)) = 47 then (if a0.size + a1.size ≤ 9223372036854775807 then (some (a0 ++ a1)) else (none)) else (if a0.size + 1 ≤ 9223372036854775807 then (if (a0 ++ (⟨#[47]⟩ : ByteArray)).size + a1.size ≤ 9223372036854775807 then (some ((a0 ++ (⟨#[47]⟩ : ByteArray)) ++ a1)) else (none)) else (none))) else (none)) else (none)) = some r := by first | (rw [hji3] at H; exact H) | (simp only [hji3] at H ⊢; exact H)
 have hji3w : (IntKind.i64.wrap ((a0.size : Int) - 1)) = ji3 := (i64_w _).trans hji3
 refine Or.elim (Classical.em (0 ≤ (ji3))) (fun c4 => ?_) (fun c4 => by rw [if_neg c4] at H; exact absurd H (by simp))
 rw [if_pos c4] at H
 have c4b0 : decide (0 ≤ (ji3)) = true := decide_eq_true c4
 clear c4
 refine Or.elim (Classical.em ((ji3) < (a0.size : Int))) (fun c5 => ?_) (fun c5 => by rw [if_neg c5] at H; exact absurd H (by simp))
 rw [if_pos c5] at H
 have c5b0 : decide ((ji3) < (a0.size : Int)) = true := decide_eq_true c5
 clear c5
 by_cases c7 : (bt a0 (ji3)) = 47
 ·rw [if_pos c7] at H
  have c7b0 : ((bt a0 (ji3)) == 47) = true := beq_iff_eq.mpr c7
  have c7b1 : ((bt a0 (ji3)) != 47) = false := bne_eq_false_iff_eq.mpr c7
  clear c7
  refine Or.elim (Classical.em (a0.size + a1.size ≤ 9223372036854775807)) (fun c8 => ?_) (fun c8 => by rw [if_neg c8] at H; exact absurd H (by simp))
  rw [if_pos c8] at H
  have c8b0 := eq_true c8
  have c8b1 : decide (a0.size + a1.size ≤ 9223372036854775807) = true := decide_eq_true c8
  try have c8b2 : (9223372036854775807 < a0.size + a1.size) = False := eq_false (Nat.not_lt.2 c8)
  obtain rfl := Option.some.inj H
  have p6 : 0 ≤ ((ji3) : Int) := Gtr.od
  have q6 : (ji3) < (a0.size : Int) := Gtr.od
  have hx6 := bt_at a0 (ji3)
  replace p6 := eq_true p6
  replace q6 := eq_true q6
  go_enter Tryz.func125, Tryz.ntmps125
  go_wp2
  go_ret
  exact ⟨by first | rfl | (simp; done) | (simp only [← hji3] <;> (first | rfl | simp)) | (simp [*]; done), by repeat (first | exact Drawn0.refl _ | apply Drawn0.step)⟩
 ·rw [if_neg c7] at H
  have c7b0 : ((bt a0 (ji3)) == 47) = false := beq_eq_false_iff_ne.mpr c7
  have c7b1 : ((bt a0 (ji3)) != 47) = true := bne_iff_ne.mpr c7
  refine Or.elim (Classical.em (a0.size + 1 ≤ 9223372036854775807)) (fun c9 => ?_) (fun c9 => by rw [if_neg c9] at H; exact absurd H (by simp))
  rw [if_pos c9] at H
  have c9b0 := eq_true c9
  have c9b1 : decide (a0.size + 1 ≤ 9223372036854775807) = true := decide_eq_true c9
  try have c9b2 : (9223372036854775807 < a0.size + 1) = False := eq_false (Nat.not_lt.2 c9)
  refine Or.elim (Classical.em ((a0 ++ (⟨#[47]⟩ : ByteArray)).size + a1.size ≤ 9223372036854775807)) (fun c10 => ?_) (fun c10 => by rw [if_neg c10] at H; exact absurd H (by simp))
  rw [if_pos c10] at H
  have c10b0 := eq_true c10
  have c10b1 : decide ((a0 ++ (⟨#[47]⟩ : ByteArray)).size + a1.size ≤ 9223372036854775807) = true := decide_eq_true c10
  try have c10b2 : (9223372036854775807 < (a0 ++ (⟨#[47]⟩ : ByteArray)).size + a1.size) = False := eq_false (Nat.not_lt.2 c10)
  try have c10b5 := c10b0
  try have c10b7 := c10b2
  try simp only [ByteArray.size_append, show (⟨#[47]⟩ : ByteArray).size = 1 from rfl] at c10b5
  try simp only [ByteArray.size_append, show (⟨#[47]⟩ : ByteArray).size = 1 from rfl] at c10b7
  obtain rfl := Option.some.inj H
  have p6 : 0 ≤ ((ji3) : Int) := Gtr.od
  have q6 : (ji3) < (a0.size : Int) := Gtr.od
  have hx6 := bt_at a0 (ji3)
  replace p6 := eq_true p6
  replace q6 := eq_true q6
  go_enter Tryz.func125, Tryz.ntmps125
  go_wp2
  go_ret
  exact ⟨by first | rfl | (simp; done) | (simp only [← hji3] <;> (first | rfl | simp)) | (simp [*]; done), by repeat (first | exact Drawn0.refl _ | apply Drawn0.step)⟩
def impl_Fs_isDir.f (l0_0 : List (S85)) (a0_1 : Int) (a1 : Int) : Option (Bool) := if 0 ≤ a1 then (if a1 < (l0_0.length : Int) then (some (((rd_T85 l0_0 a1).f0) == 2)) else (none)) else (none)
set_option maxHeartbeats 8000000 in
set_option maxRecDepth 100000 in
theorem impl_Fs_isDir.calls (A0_0 : Option Addr) (c0_0 : Nat) (l0_0 : List (S85)) (a0_1 : Int) (a1 : Int) (r : Bool) (w : World) (hr0_0 : Kd.C k85 w A0_0 l0_0.length l0_0) (hc0_0 : l0_0.length ≤ c0_0) (h : impl_Fs_isDir.f l0_0 a0_1 a1 = some r) :
  Calls Tryz.prog 48 #[.agg #[.slice A0_0 l0_0.length c0_0, .int .i64 a0_1], .int .i64 a1] w fun e w' => e = .returned (.bool r) ∧ Below w.heap.size w w' := by
 have hu34 := Tryz.underlying34
 have HR0_0 := Aside0.mk hr0_0
 have HC0_0 := Aside0.mk hc0_0
 clear hr0_0 hc0_0
 have HB := Aside0.mk (Below.refl w.heap.size w)
 have H : (if 0 ≤ a1 then (if a1 < (l0_0.length : Int) then (some (((rd_T85 l0_0 a1).f0) == 2)) else (none)) else (none)) = some r := h
 clear h
 refine Or.elim (Classical.em (0 ≤ a1)) (fun c3 => ?_) (fun c3 => by rw [if_neg c3] at H; exact absurd H (by simp))
 rw [if_pos c3] at H
 have c3b0 : decide (0 ≤ a1) = true := decide_eq_true c3
 clear c3
 refine Or.elim (Classical.em (a1 < (l0_0.length : Int))) (fun c4 => ?_) (fun c4 => by rw [if_neg c4] at H; exact absurd H (by simp))
 rw [if_pos c4] at H
 have c4b0 : decide (a1 < (l0_0.length : Int)) = true := decide_eq_true c4
 clear c4
 obtain rfl := Option.some.inj H
 go_enter Tryz.func48, Tryz.ntmps48
 go_wp2_with (first | ((with_reducible refine gate_dst (N := 2) rfl ?_); refine box_event rfl (N := 2) rfl (cs := #[.slice A0_0 l0_0.length c0_0, .int .i64 a0_1]) (t := 34) (by first | (go_simp; done) | (go_simp; rfl)) ?_; intro gb310 hg w5 hbox hb; have BK310 := Aside0.mk (hbox); have GW310 := Aside0.mk (Gtr.gz hg (Gtr.bw HB.out)); have GE310 := GW310; replace HB := Aside0.mk (below_step (Gtr.bw HB.out) hb); clear hb hbox hg; have hcz6_0 := fun o_ => blk_cell BK310.out o_; have hfz6_0 := fun o_ => blk_frozen BK310.out o_; have p311 : 0 ≤ (a1 : Int) := Gtr.od; have q311 : a1 < (l0_0.length : Int) := Gtr.od; obtain ⟨ad311, A311_6, c311_6, e311, hx311_0, hx311_1, hx311_2, hx311_3, hx311_4, hx311_5, hx311_6, hl311_6, hi311_6⟩ := at_T85 HR0_0.out a1 p311 q311; cases e311; replace hx311_0 := Gtr.cl HB.out hx311_0; replace hx311_1 := Gtr.cl HB.out hx311_1; replace hx311_2 := Gtr.cl HB.out hx311_2; replace hx311_3 := Gtr.cl HB.out hx311_3; replace hx311_4 := Gtr.cl HB.out hx311_4; replace hx311_5 := Gtr.cl HB.out hx311_5; replace hx311_6 := Gtr.cl HB.out hx311_6; have HR311_6 := Aside0.mk hi311_6; have HC311_6 := Aside0.mk hl311_6; clear hi311_6 hl311_6; replace p311 := eq_true p311; replace q311 := eq_true q311))
 go_ret
 exact ⟨Gtr.fe, (Gtr.bw HB.out)⟩
def impl_Cred_may.f (a0_0 : Int) (a0_1 : Int) (a1 : Int) (a2 : Int) (a3 : Int) (a4 : Int) : Option (Bool) := if a0_0 = 0 then (some true) else (if a0_0 = a2 then (some ((Go.bits .andNot .i64 a4 (a1 / 64)) == 0)) else (if a0_1 = a3 then (some ((Go.bits .andNot .i64 a4 (Go.bits .and .i64 (a1 / 8) 7)) == 0)) else (some ((Go.bits .andNot .i64 a4 (Go.bits .and .i64 a1 7)) == 0))))
set_option maxHeartbeats 8000000 in
set_option maxRecDepth 100000 in
theorem impl_Cred_may.calls (a0_0 : Int) (a0_1 : Int) (a1 : Int) (a2 : Int) (a3 : Int) (a4 : Int) (r : Bool) (w : World) (h : impl_Cred_may.f a0_0 a0_1 a1 a2 a3 a4 = some r) :
  Calls Tryz.prog 157 #[.agg #[.int .i64 a0_0, .int .i64 a0_1], .int .i64 a1, .int .i64 a2, .int .i64 a3, .int .i64 a4] w fun e w' => e = .returned (.bool r) ∧ Below w.heap.size w w' := by
 have hu36 := Tryz.underlying36
 have HB := Aside0.mk (Below.refl w.heap.size w)
 have H : (if a0_0 = 0 then (some true) else (if a0_0 = a2 then (some ((Go.bits .andNot .i64 a4 (a1 / 64)) == 0)) else (if a0_1 = a3 then (some ((Go.bits .andNot .i64 a4 (Go.bits .and .i64 (a1 / 8) 7)) == 0)) else (some ((Go.bits .andNot .i64 a4 (Go.bits .and .i64 a1 7)) == 0))))) = some r := h
 clear h
 by_cases c6 : a0_0 = 0
 ·rw [if_pos c6] at H
  have c6b0 : (a0_0 == 0) = true := beq_iff_eq.mpr c6
  have c6b1 : (a0_0 != 0) = false := bne_eq_false_iff_eq.mpr c6
  clear c6
  obtain rfl := Option.some.inj H
  go_enter Tryz.func157, Tryz.ntmps157
  go_wp2_with (first | ((with_reducible refine gate_dst (N := 5) rfl ?_); refine box_event rfl (N := 5) rfl (cs := #[.int .i64 a0_0, .int .i64 a0_1]) (t := 36) (by first | (go_simp; done) | (go_simp; rfl)) ?_; intro gb316 hg w7 hbox hb; have BK316 := Aside0.mk (hbox); have GW316 := Aside0.mk (Gtr.gz hg (Gtr.bw HB.out)); have GE316 := GW316; replace HB := Aside0.mk (below_step (Gtr.bw HB.out) hb); clear hb hbox hg; have hcz8_0 := fun o_ => blk_cell BK316.out o_; have hfz8_0 := fun o_ => blk_frozen BK316.out o_))
  go_ret
  exact ⟨Gtr.fe, (Gtr.bw HB.out)⟩
 ·rw [if_neg c6] at H
  have c6b0 : (a0_0 == 0) = false := beq_eq_false_iff_ne.mpr c6
  have c6b1 : (a0_0 != 0) = true := bne_iff_ne.mpr c6
  by_cases c9 : a0_0 = a2
  ·rw [if_pos c9] at H
   have c9b0 : (a0_0 == a2) = true := beq_iff_eq.mpr c9
   have c9b1 : (a0_0 != a2) = false := bne_eq_false_iff_eq.mpr c9
   clear c9
   obtain rfl := Option.some.inj H
   go_enter Tryz.func157, Tryz.ntmps157
   go_wp2_with (first | ((with_reducible refine gate_dst (N := 5) rfl ?_); refine box_event rfl (N := 5) rfl (cs := #[.int .i64 a0_0, .int .i64 a0_1]) (t := 36) (by first | (go_simp; done) | (go_simp; rfl)) ?_; intro gb316 hg w10 hbox hb; have BK316 := Aside0.mk (hbox); have GW316 := Aside0.mk (Gtr.gz hg (Gtr.bw HB.out)); have GE316 := GW316; replace HB := Aside0.mk (below_step (Gtr.bw HB.out) hb); clear hb hbox hg; have hcz11_0 := fun o_ => blk_cell BK316.out o_; have hfz11_0 := fun o_ => blk_frozen BK316.out o_))
   go_ret
   exact ⟨Gtr.fe, (Gtr.bw HB.out)⟩
  ·rw [if_neg c9] at H
   have c9b0 : (a0_0 == a2) = false := beq_eq_false_iff_ne.mpr c9
   have c9b1 : (a0_0 != a2) = true := bne_iff_ne.mpr c9
   by_cases c12 : a0_1 = a3
   ·rw [if_pos c12] at H
    have c12b0 : (a0_1 == a3) = true := beq_iff_eq.mpr c12
    have c12b1 : (a0_1 != a3) = false := bne_eq_false_iff_eq.mpr c12
    clear c12
    obtain rfl := Option.some.inj H
    go_enter Tryz.func157, Tryz.ntmps157
    go_wp2_with (first | ((with_reducible refine gate_dst (N := 5) rfl ?_); refine box_event rfl (N := 5) rfl (cs := #[.int .i64 a0_0, .int .i64 a0_1]) (t := 36) (by first | (go_simp; done) | (go_simp; rfl)) ?_; intro gb316 hg w13 hbox hb; have BK316 := Aside0.mk (hbox); have GW316 := Aside0.mk (Gtr.gz hg (Gtr.bw HB.out)); have GE316 := GW316; replace HB := Aside0.mk (below_step (Gtr.bw HB.out) hb); clear hb hbox hg; have hcz14_0 := fun o_ => blk_cell BK316.out o_; have hfz14_0 := fun o_ => blk_frozen BK316.out o_))
    go_ret
    exact ⟨Gtr.fe, (Gtr.bw HB.out)⟩
   ·rw [if_neg c12] at H
    have c12b0 : (a0_1 == a3) = false := beq_eq_false_iff_ne.mpr c12
    have c12b1 : (a0_1 != a3) = true := bne_iff_ne.mpr c12
    obtain rfl := Option.some.inj H
    go_enter Tryz.func157, Tryz.ntmps157
    go_wp2_with (first | ((with_reducible refine gate_dst (N := 5) rfl ?_); refine box_event rfl (N := 5) rfl (cs := #[.int .i64 a0_0, .int .i64 a0_1]) (t := 36) (by first | (go_simp; done) | (go_simp; rfl)) ?_; intro gb316 hg w15 hbox hb; have BK316 := Aside0.mk (hbox); have GW316 := Aside0.mk (Gtr.gz hg (Gtr.bw HB.out)); have GE316 := GW316; replace HB := Aside0.mk (below_step (Gtr.bw HB.out) hb); clear hb hbox hg; have hcz16_0 := fun o_ => blk_cell BK316.out o_; have hfz16_0 := fun o_ => blk_frozen BK316.out o_))
    go_ret
    exact ⟨Gtr.fe, (Gtr.bw HB.out)⟩
end Go.Proofs.YtfohpboikknknaaGreatDoor.Q
