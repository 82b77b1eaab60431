/- Texts of this claim, merged by a program (wip/tools/merge.py): Q112, Q116, HPureReadItems. -/
import Derived.Test.YthhmkbchdiflcaaGreatDoorR1
import Derived.Test.YthhmkbchdiflcaaGreatDoorR14
import Derived.Test.YthhmkbchdiflcaaGreatDoorR25
import Derived.Test.YthhmkbchdiflcaaGreatDoorR10
import Derived.Test.YthhmkbchdiflcaaGreatDoorR4
import Derived.Test.YthhmkbchdiflcaaGreatDoorR16
import Derived.Test.YthhmkbchdiflcaaGreatDoorR2
import Derived.Test.YthhmkbchdiflcaaGreatDoorR3
import Derived.Test.YthhmkbchdiflcaaGreatDoorR15
import Derived.Test.YthhmkbchdiflcaaGreatDoorR5
import Derived.Test.YthhmkbchdiflcaaGreatDoorR17
import Derived.Test.YthhmkbchdiflcaaGreatDoorR24
-- Printed by a program of this session (wip/tools/myprint.py) that runs the kit's print, hand-proved functions among the others.
namespace Go.Proofs.YthhmkbchdiflcaaGreatDoor.Q
open Go.RowKit Go.Proofs.YthhmkbchdiflcaaGreatDoorW.PrintWords Go.Proofs.YthhmkbchdiflcaaGreatDoorW.PrintLast Go.Proofs.YthhmkbchdiflcaaGreatDoorW.PrintMore
attribute [local go_sem] max2_int min2_int max_two min_two max_three min_three max_four min_four   -- for this text's walks alone
set_option linter.unusedVariables false
set_option linter.unusedSimpArgs false

/-! ### impl_ReadItems: function 16 -/
mutual
def impl_ReadItems.j0 : Nat → ByteArray → Bool → Option ((List (S74)) × Int × Bool)
 | 0, _, _ => none
 | k + 1, x0, x25 => if x25 = true then (some (([] : List (S74)), 1, false)) else (if 0 ≤ (wrap64 ((x0.size : Int) - 1)) then (if (wrap64 ((x0.size : Int) - 1)) ≤ (x0.size : Int) then ((strings_Split.f (x0.extract 0 ((wrap64 ((x0.size : Int) - 1)) : Int).toNat) (⟨#[10]⟩ : ByteArray)).bind fun t389 => (impl_ReadItems.l0 k (([] : List (List ByteArray))) t389 (t389.length : Int) 0)) else (none)) else (none))
def impl_ReadItems.l0 : Nat → List (List ByteArray) → List ByteArray → Int → Int → Option ((List (S74)) × Int × Bool)
 | 0, _, _, _, _ => none
 | k + 1, x5, x32, x33, x34 => if x34 < x33 then (if 0 ≤ x34 then (if x34 < (x32.length : Int) then ((strings_Split.f (rdOf ByteArray.empty x32 x34) (⟨#[9]⟩ : ByteArray)).bind fun t393 => (if (t393.length : Int) = 8 then (if x5.length < 5864062014805 then (impl_ReadItems.l0 k (x5 ++ [t393]) x32 x33 (wrap64 (x34 + 1))) else (none)) else (some (([] : List (S74)), 2, false)))) else (none)) else (none)) else (impl_ReadItems.l1 k (([] : List (S74))) x5 (x5.length : Int) 0)
def impl_ReadItems.l1 : Nat → List (S74) → List (List ByteArray) → Int → Int → Option ((List (S74)) × Int × Bool)
 | 0, _, _, _, _ => none
 | k + 1, x9, x49, x50, x51 => if x51 < x50 then (if 0 ≤ x51 then (if x51 < (x49.length : Int) then ((impl_readItem.f (rd_L1 x49 x51)).bind fun bt403 => (if bt403.2.2.2.2.2.2.2.2 = true then (if x9.length < 1759218604441 then (impl_ReadItems.l1 k (x9 ++ [(⟨bt403.1, bt403.2.1, bt403.2.2.1, bt403.2.2.2.1, bt403.2.2.2.2.1, bt403.2.2.2.2.2.1, bt403.2.2.2.2.2.2.1, bt403.2.2.2.2.2.2.2.1⟩ : S74)]) x49 x50 (wrap64 (x51 + 1))) else (none)) else (some (([] : List (S74)), 3, false)))) else (none)) else (none)) else ((impl_GoodItems.f x9).bind fun t416 => (if t416 = true then (some (x9, 0, true)) else (some (([] : List (S74)), 4, false))))
end
def impl_ReadItems.f (k : Nat) (a0 : ByteArray) : Option ((List (S74)) × Int × Bool) := (impl_within.f (a0.size : Int) 1 6000).bind fun t385 => (if t385 = true then (if 0 ≤ (wrap64 ((a0.size : Int) - 1)) then (if (wrap64 ((a0.size : Int) - 1)) < (a0.size : Int) then (impl_ReadItems.j0 k a0 ((bt a0 (wrap64 ((a0.size : Int) - 1))) != 10)) else (none)) else (none)) else (impl_ReadItems.j0 k a0 true))
set_option maxHeartbeats 8000000 in
set_option maxRecDepth 100000 in
theorem impl_ReadItems.calls (k : Nat) (a0 : ByteArray) (r1 : List (S74)) (r2 : Int) (r3 : Bool) (w : World) (h : impl_ReadItems.f k a0 = some (r1, r2, r3)) (hEnvR : EnvR w) :
  Calls Tryz.prog 16 #[.string a0] w fun e w' => ∃ v0_ : Value, e = .returned (.tuple #[v0_, .int .i64 r2, .bool r3]) ∧ Kd.R k74 74 w' w.heap.size (fun _ => True) v0_ r1 ∧ Below w.heap.size w w' := by
 have hu74 := Tryz.underlying74
 have HB := Aside0.mk (Below.refl w.heap.size w)
 have H : ((impl_within.f (a0.size : Int) 1 6000).bind fun t385 => (if t385 = true then (if 0 ≤ (wrap64 ((a0.size : Int) - 1)) then (if (wrap64 ((a0.size : Int) - 1)) < (a0.size : Int) then (impl_ReadItems.j0 k a0 ((bt a0 (wrap64 ((a0.size : Int) - 1))) != 10)) else (none)) else (none)) else (impl_ReadItems.j0 k a0 true))) = some (r1, r2, r3) := h
 clear h
 have HC2 := Aside0.mk H
 clear H
 go_enter Tryz.func16, Tryz.ntmps16
 go_upto_region 1 with (fail)
 go_cut [25] (fun v25 wc => ∃ (kq : Nat) (x25_1 : Bool), v25 = .bool x25_1 ∧ Aside0 (impl_ReadItems.j0 kq a0 x25_1 = some (r1, r2, r3)) ∧ Aside0 (kq ≤ k) ∧ Aside0 (Below w.heap.size w wc))
 case first =>
  have H := HC2.out
  clear HC2
  replace H := Option.bind_eq_some_iff.mp H
  obtain ⟨t385, A30, H⟩ := H
  try dsimp only at H
  have A3 := Aside0.mk A30
  clear A30
  by_cases c4 : t385 = true
  ·subst c4
   have H1 := H
   rw [if_pos rfl] at H1
   clear H
   have H := H1
   clear H1
   obtain ⟨ji5, hji5⟩ : ∃ j_ : Int, (wrap64 ((a0.size : Int) - 1)) = j_ := ⟨_, rfl⟩
   replace H : (if 0 ≤ (ji5) then (if (ji5) < (a0.size : Int) then (impl_ReadItems.j0 k a0 ((bt a0 (ji5)) != 10)) else (none)) else (none)) = some (r1, r2, r3) := by first | (rw [hji5] at H; exact H) | (simp only [hji5] at H ⊢; exact H)
   (try rw [hji5] at A3)
   have hji5w : (IntKind.i64.wrap ((a0.size : Int) - 1)) = ji5 := (i64_w _).trans hji5
   refine Or.elim (Classical.em (0 ≤ (ji5))) (fun c6 => ?_) (fun c6 => by rw [if_neg c6] at H; exact absurd H (by simp))
   rw [if_pos c6] at H
   have c6b0 : decide (0 ≤ (ji5)) = true := decide_eq_true c6
   clear c6
   (first | rw [c6b0] | (simp only [i64_w, i32_w]; rw [c6b0]) | skip)
   refine Or.elim (Classical.em ((ji5) < (a0.size : Int))) (fun c7 => ?_) (fun c7 => by rw [if_neg c7] at H; exact absurd H (by simp))
   rw [if_pos c7] at H
   have c7b0 : decide ((ji5) < (a0.size : Int)) = true := decide_eq_true c7
   clear c7
   have H' := Aside0.mk H
   clear H
   go_wp2_with (first | ((with_reducible refine gate_callee (f := 71) rfl ?_); refine goesL_ (some 16) rfl rfl Tryz.func71 (by kernel_rfl) rfl #[.int .i64 (a0.size : Int), .int .i64 1, .int .i64 6000] rfl (by (try simp only [List.map_toArray, List.map_cons, List.map_nil]); first | done | rfl | (simp only [List.length_drop, List.length_take]; rfl)) ?_; (with_reducible refine (impl_within.calls (a0.size : Int) 1 6000 true _ A3.out).mono ?_); rintro e w' ⟨rfl, ⟨nd, rfl⟩⟩; refine ⟨_, rfl, ?_⟩; have p8 : 0 ≤ ((ji5) : Int) := of_decide_eq_true (by first | (with_reducible assumption) | assumption); have q8 : (ji5) < (a0.size : Int) := of_decide_eq_true (by first | (with_reducible assumption) | assumption); have hx8 := bt_at a0 (ji5); replace p8 := eq_true p8; replace q8 := eq_true q8))
   go_meet
   case rel => exact ⟨_, (((bt a0 (ji5)) != 10)), (by first | rfl | (simp; done) | (simp only [← hji5] <;> (first | rfl | simp)) | (simp [*]; done)), H', ⟨by first | omega | exact Nat.le_refl _⟩, ⟨(Gtr.bw HB.out)⟩⟩
  ·replace c4 := Bool.eq_false_iff.mpr c4
   subst c4
   have H1 : (impl_ReadItems.j0 k a0 true) = some (r1, r2, r3) := by rw [if_neg (show ¬ (false = true) by decide)] at H; exact H
   clear H
   have H := H1
   clear H1
   have H' := Aside0.mk H
   clear H
   go_wp2_with (first | ((with_reducible refine gate_callee (f := 71) rfl ?_); refine goesL_ (some 16) rfl rfl Tryz.func71 (by kernel_rfl) rfl #[.int .i64 (a0.size : Int), .int .i64 1, .int .i64 6000] rfl (by (try simp only [List.map_toArray, List.map_cons, List.map_nil]); first | done | rfl | (simp only [List.length_drop, List.length_take]; rfl)) ?_; (with_reducible refine (impl_within.calls (a0.size : Int) 1 6000 false _ A3.out).mono ?_); rintro e w' ⟨rfl, ⟨nd, rfl⟩⟩; refine ⟨_, rfl, ?_⟩))
   go_meet
   case rel => exact ⟨_, (true), (by first | rfl | (simp; done) | (simp [*]; done)), H', ⟨by first | omega | exact Nat.le_refl _⟩, ⟨(Gtr.bw HB.out)⟩⟩
 case rest =>
  clear HC2
  (try clear c1);(try clear p2);(try clear c4);(try clear c6);(try clear c6b0);(try clear p6);(try clear c7);(try clear c7b0);(try clear p8);(try clear q8);(try clear hx8);(try clear p8);(try clear q8)
  obtain ⟨kq, x25_1, rfl, HA, HJ1, HB⟩ := hcut
  cases kq with
  | zero => exact absurd HA.out (by simp [impl_ReadItems.j0])
  | succ kj1 =>
   have H := HA.out
   clear HA
   simp only [impl_ReadItems.j0] at H
   by_cases c9 : x25_1 = true
   ·subst c9
    have H1 := H
    rw [if_pos rfl] at H1
    clear H
    have H := H1
    clear H1
    simp only [Option.some.injEq, Prod.mk.injEq] at H
    obtain ⟨rfl, rfl, rfl⟩ := H
    go_wp2
    go_ret3
    exact ⟨_, by first | rfl | (simp [errW_none, errW_some] <;> rfl) | (simp [*, errW_none, errW_some] <;> rfl), by first | exact Kd.R_nil _ _ _ _ _ | exact Kd.N_nil _ _ _ _ _ | exact Kd.V_nil _ _ _ _ _ | exact Kd.Q_nil _ _ _ _ _ | exact Kd.S_nil _ _ _ _ _, (Gtr.bw HB.out)⟩
   ·replace c9 := Bool.eq_false_iff.mpr c9
    subst c9
    have H1 : (if 0 ≤ (wrap64 ((a0.size : Int) - 1)) then (if (wrap64 ((a0.size : Int) - 1)) ≤ (a0.size : Int) then ((strings_Split.f (a0.extract 0 ((wrap64 ((a0.size : Int) - 1)) : Int).toNat) (⟨#[10]⟩ : ByteArray)).bind fun t389 => (impl_ReadItems.l0 kj1 (([] : List (List ByteArray))) t389 (t389.length : Int) 0)) else (none)) else (none)) = some (r1, r2, r3) := by rw [if_neg (show ¬ (false = true) by decide)] at H; exact H
    clear H
    have H := H1
    clear H1
    obtain ⟨y386, hy386⟩ : ∃ y_ : List (List ByteArray), y_ = (([] : List (List ByteArray))) := ⟨_, rfl⟩
    replace H : (if 0 ≤ (wrap64 ((a0.size : Int) - 1)) then (if (wrap64 ((a0.size : Int) - 1)) ≤ (a0.size : Int) then ((strings_Split.f (a0.extract 0 ((wrap64 ((a0.size : Int) - 1)) : Int).toNat) (⟨#[10]⟩ : ByteArray)).bind fun t389 => (impl_ReadItems.l0 kj1 y386 t389 (t389.length : Int) 0)) else (none)) else (none)) = some (r1, r2, r3) := by first | (rw [hy386]; with_reducible exact H) | (have H2_ := (Option.bind_some _ _).symm.trans H; rw [hy386]; with_reducible exact H2_) | (have H2_ := (Option.bind_some _ _).symm.trans H; with_reducible exact H2_) | with_reducible exact H | (rw [hy386]; exact H) | exact H
    have Ny386 := Aside0.mk hy386
    clear hy386
    obtain ⟨ji10, hji10⟩ : ∃ j_ : Int, (wrap64 ((a0.size : Int) - 1)) = j_ := ⟨_, rfl⟩
    replace H : (if 0 ≤ (ji10) then (if (ji10) ≤ (a0.size : Int) then ((strings_Split.f (a0.extract 0 ((ji10) : Int).toNat) (⟨#[10]⟩ : ByteArray)).bind fun t389 => (impl_ReadItems.l0 kj1 y386 t389 (t389.length : Int) 0)) else (none)) else (none)) = some (r1, r2, r3) := by first | (rw [hji10] at H; exact H) | (simp only [hji10] at H ⊢; exact H)
    have hji10w : (IntKind.i64.wrap ((a0.size : Int) - 1)) = ji10 := (i64_w _).trans hji10
    refine Or.elim (Classical.em (0 ≤ (ji10))) (fun c11 => ?_) (fun c11 => by rw [if_neg c11] at H; exact absurd H (by simp))
    rw [if_pos c11] at H
    have c11b0 := eq_true c11
    have c11b1 : decide (0 ≤ (ji10)) = true := decide_eq_true c11
    clear c11
    refine Or.elim (Classical.em ((ji10) ≤ (a0.size : Int))) (fun c12 => ?_) (fun c12 => by rw [if_neg c12] at H; exact absurd H (by simp))
    rw [if_pos c12] at H
    have c12b0 := eq_true c12
    have c12b1 : decide ((ji10) ≤ (a0.size : Int)) = true := decide_eq_true c12
    clear c12
    replace H := Option.bind_eq_some_iff.mp H
    obtain ⟨t389, A130, H⟩ := H
    try dsimp only at H
    have A13 := Aside0.mk A130
    clear A130
    have H' := Aside0.mk H
    clear H
    go_wp2_with (first | ((with_reducible refine gate_dst (N := 26) rfl ?_); (try (refine gate_guard (by rfl) ?_; dsimp only)); refine Kd.S_lit (Kd.slice 9 Kd.string) _ 55 ?hg (N := 26) ?hd (xs := ([] : List (List ByteArray))) (inner := []) (ok := fun _ => True) (okp := fun _ => True) ?hr ?hp (fun _ hk => hk) trivial (Below.refl _ _) (Nat.le_refl _) (by simp) ?_; (case hd => rfl); (case hg => rfl); (case hr => first | (go_simp; done) | (go_simp; rfl)); (case hp => exact (Reps.none _ _)); intro v387 w14 ho15 hb hg_ hnew_; clear hg_ hnew_; (first | rw [← Ny386.out] at ho15 | (simp only [Int.reduceToNat] at ho15; rw [← Ny386.out] at ho15)); have n0_ := Aside0.mk (Kd.S_lower ho15 (below_size (Gtr.bw HB.out))); have n1_ := Aside0.mk (below_step (Gtr.bw HB.out) hb); clear HB; have HO388 := n0_; have HB := n1_; clear n0_ n1_; clear hb ho15) | ((with_reducible refine gate_callee (f := 72) rfl ?_); refine goesL_ (some 32) rfl rfl Tryz.func72 (by kernel_rfl) rfl #[.string (a0.extract 0 ((ji10) : Int).toNat), .string (⟨#[10]⟩ : ByteArray)] rfl (by (try simp only [List.map_toArray, List.map_cons, List.map_nil]); first | done | (simp only [hji10]; rfl) | rfl | (simp only [List.length_drop, List.length_take]; rfl)) ?_; (with_reducible refine (strings_Split.calls (a0.extract 0 ((ji10) : Int).toNat) (⟨#[10]⟩ : ByteArray) t389 _ A13.out).mono ?_); rintro e w16 ⟨v390, rfl, ho0, hb⟩; refine ⟨_, rfl, ?_⟩; have n0_ := Aside0.mk (Kd.S_elder' (by (with_reducible repeat (first | apply Kd.S_alloc | apply Kd.S_drewN | apply Kd.S_drew)); exact HO388.out) (Kd.R_base ho0) hb); have n1_ := Aside0.mk (Kd.R_lower ho0 (below_size (Gtr.bw HB.out))); have n2_ := Aside0.mk (below_step (Gtr.bw HB.out) hb); clear HO388; clear HB; have HO388 := n0_; have HO391 := n1_; have HB := n2_; clear n0_ n1_ n2_; (try clear hb); (try clear hb2); (try clear hk); (try clear hi); (try clear ho0); obtain ⟨Ao17, co17, eo17⟩ := Kd.R_slice HO391.out; subst eo17))
    go_loopg [5, 34] kj1 (fun kq v5 v34 w' => ∃ (x5_2 : List (List ByteArray)) (x34_2 : Int), v34 = .int .i64 x34_2 ∧ Aside0 (impl_ReadItems.l0 kq x5_2 t389 (t389.length : Int) x34_2 = some (r1, r2, r3)) ∧ Aside0 (kq ≤ kj1) ∧ Aside0 (Kd.S (Kd.slice 9 Kd.string) 55 w' w.heap.size (fun k_ => some k_ ≠ ((.slice Ao17 t389.length co17) : Value).ownBlock) v5 x5_2) ∧ Aside0 (Kd.R Kd.string 9 w' w.heap.size (fun _ => True) (.slice Ao17 t389.length co17) t389) ∧ Aside0 (Below w.heap.size w w'))
    case atStart => exact ⟨(y386), (0), (by first | rfl | (simp; done) | (simp [*]; done)), H', ⟨Nat.le_refl _⟩, ⟨by (with_reducible repeat (first | apply Kd.S_alloc | apply Kd.S_drewN | apply Kd.S_drew)); exact Kd.S_mono HO388.out (fun _ hk => hk.2)⟩, ⟨by (with_reducible repeat (first | apply Kd.R_alloc | apply Kd.R_drewN | apply Kd.R_drew)); exact HO391.out⟩, ⟨(Gtr.bw HB.out)⟩⟩
    case round =>
     clear H'
     (try clear c1);(try clear p2);(try clear c4);(try clear c6);(try clear c6b0);(try clear p6);(try clear c7);(try clear c7b0);(try clear p8);(try clear q8);(try clear hx8);(try clear c9);(try clear c11);(try clear c11b0);(try clear c11b1);(try clear c12);(try clear c12b0);(try clear c12b1);(try clear c16);(try clear p2);(try clear p6);(try clear p8);(try clear q8)
     obtain ⟨x5_2, x34_2, rfl, HA, HK2, HO_5, HO_32, HB⟩ := hrel
     cases gk with
     | zero => exact absurd HA.out (by simp [impl_ReadItems.l0])
     | succ k2 =>
      have H := HA.out
      clear HA
      simp only [impl_ReadItems.l0] at H
      by_cases c18 : x34_2 < (t389.length : Int)
      ·rw [if_pos c18] at H
       have c18b0 : decide (x34_2 < (t389.length : Int)) = true := decide_eq_true c18
       clear c18
       refine Or.elim (Classical.em (0 ≤ x34_2)) (fun c19 => ?_) (fun c19 => by rw [if_neg c19] at H; exact absurd H (by simp))
       rw [if_pos c19] at H
       have c19b0 : decide (0 ≤ x34_2) = true := decide_eq_true c19
       clear c19
       refine Or.elim (Classical.em (x34_2 < (t389.length : Int))) (fun c20 => ?_) (fun c20 => by rw [if_neg c20] at H; exact absurd H (by simp))
       rw [if_pos c20] at H
       have c20b0 : decide (x34_2 < (t389.length : Int)) = true := decide_eq_true c20
       clear c20
       replace H := Option.bind_eq_some_iff.mp H
       obtain ⟨t393, A210, H⟩ := H
       try dsimp only at H
       have A21 := Aside0.mk A210
       clear A210
       by_cases c22 : (t393.length : Int) = 8
       ·rw [if_pos c22] at H
        have c22b0 : ((t393.length : Int) == 8) = true := beq_iff_eq.mpr c22
        have c22b1 : ((t393.length : Int) != 8) = false := bne_eq_false_iff_eq.mpr c22
        clear c22
        refine Or.elim (Classical.em (x5_2.length < 5864062014805)) (fun c23 => ?_) (fun c23 => by rw [if_neg c23] at H; exact absurd H (by simp))
        rw [if_pos c23] at H
        have LMc23 := Aside0.mk c23
        clear c23
        obtain ⟨y396, hy396⟩ : ∃ y_ : List (List ByteArray), y_ = (x5_2 ++ [t393]) := ⟨_, rfl⟩
        replace H : (impl_ReadItems.l0 k2 y396 t389 (t389.length : Int) (wrap64 (x34_2 + 1))) = some (r1, r2, r3) := by first | (rw [hy396]; with_reducible exact H) | (have H2_ := (Option.bind_some _ _).symm.trans H; rw [hy396]; with_reducible exact H2_) | (have H2_ := (Option.bind_some _ _).symm.trans H; with_reducible exact H2_) | with_reducible exact H | (rw [hy396]; exact H) | exact H
        have Ny396 := Aside0.mk hy396
        clear hy396
        have H' := Aside0.mk H
        clear H
        have p392 : 0 ≤ (x34_2 : Int) := of_decide_eq_true (by first | (with_reducible assumption) | assumption)
        have q392 : x34_2 < (t389.length : Int) := of_decide_eq_true (by first | (with_reducible assumption) | assumption)
        obtain ⟨ad392, e392, hx392_0⟩ := Kd.at_string (Kd.R_reads' HO_32.out).2.2 x34_2 p392 q392
        cases e392
        replace p392 := eq_true p392
        replace q392 := eq_true q392
        go_wp2_with (first | ((with_reducible refine gate_callee (f := 72) rfl ?_); refine goesL_ (some 39) rfl rfl Tryz.func72 (by kernel_rfl) rfl #[.string (rdOf ByteArray.empty t389 x34_2), .string (⟨#[9]⟩ : ByteArray)] rfl (by (try simp only [List.map_toArray, List.map_cons, List.map_nil]); first | done | rfl | (simp only [List.length_drop, List.length_take]; rfl)) ?_; (with_reducible refine (strings_Split.calls (rdOf ByteArray.empty t389 x34_2) (⟨#[9]⟩ : ByteArray) t393 _ A21.out).mono ?_); rintro e w24 ⟨v394, rfl, ho0, hb⟩; refine ⟨_, rfl, ?_⟩; have n0_ := Aside0.mk (Kd.S_elder' (by (with_reducible repeat (first | apply Kd.S_alloc | apply Kd.S_drewN | apply Kd.S_drew)); exact HO_5.out) (Kd.R_base ho0) hb); have n1_ := Aside0.mk (Kd.R_elder' (by (with_reducible repeat (first | apply Kd.R_alloc | apply Kd.R_drewN | apply Kd.R_drew)); exact HO_32.out) (Kd.R_base ho0) hb); have n2_ := Aside0.mk (Kd.R_lower (Kd.R_new' ho0 (Kd.R_lt (by (with_reducible repeat (first | apply Kd.R_alloc | apply Kd.R_drewN | apply Kd.R_drew)); exact HO_32.out))) (below_size (Gtr.bw HB.out))); have n3_ := Aside0.mk (below_step (Gtr.bw HB.out) hb); clear HO_5; clear HO_32; clear HB; have HO_5 := n0_; have HO_32 := n1_; have HO395 := n2_; have HB := n3_; clear n0_ n1_ n2_ n3_; (try clear hb); (try clear hb2); (try clear hk); (try clear hi); (try clear ho0); obtain ⟨Ao25, co25, eo25⟩ := Kd.R_slice HO395.out; subst eo25) | ((with_reducible refine gate_builtin (b := .append) (xs := #[.tmp 43, .tmp 45]) rfl ?_); (try (refine gate_guard (by rfl) ?_; dsimp only)); at_builtin; refine Kd.S_append (Kd.slice 9 Kd.string) (w0 := w) w.heap.size rfl (.tmp 43) (.tmp 45) 96 55 (.slice none 0 0) 24 rfl Tryz.underlying96 info55 rfl (by decide) (by omega) u5 x5_2 t393 [.slice Ao25 t393.length co25] (fun k_ => some k_ ≠ (.slice (some ad392) t389.length co17 : Value).ownBlock) (fun k_ => some k_ = (.slice Ao25 t393.length co25 : Value).ownBlock) rfl rfl ?aP (fun k_ hk_ => ((Kd.R_mono (ok' := fun k_ => ((fun k_ => some k_ ≠ (.slice (some ad392) t389.length co17 : Value).ownBlock)) k_ ∧ some k_ ≠ (u5 : Value).ownBlock) (Kd.R_apart' (HO395.out) (Kd.S_typed HO_5.out) (by decide)) (fun k_ hk => ⟨hk.1.2, hk.2⟩))).1 k_ hk_.symm) ?aF ?aO ?aB ?aS ?aL ?_; (case aP => exact Kd.M_row (Kd.R_mono (Kd.R_tight rfl (Kd.R_mono (ok' := fun k_ => ((fun k_ => some k_ ≠ (.slice (some ad392) t389.length co17 : Value).ownBlock)) k_ ∧ some k_ ≠ (u5 : Value).ownBlock) (Kd.R_apart' (HO395.out) (Kd.S_typed HO_5.out) (by decide)) (fun k_ hk => ⟨hk.1.2, hk.2⟩))) (fun _ h_ => h_))); (case aB => exact (Gtr.bw HB.out)); (case aF => exact (fun k_ hk => Kd.fresh' (Kd.R_lt (by (with_reducible repeat (first | apply Kd.R_alloc | apply Kd.R_drewN | apply Kd.R_drew)); exact HO_32.out)) k_ hk)); (case aO => exact (by (with_reducible repeat (first | apply Kd.S_alloc | apply Kd.S_drewN | apply Kd.S_drew)); exact Kd.S_mono HO_5.out (fun k_ hk => ⟨hk.1, fun e_ => hk.2 e_⟩))); (case aS => exact (below_size (Gtr.bw HB.out))); (case aL => have := LMc23.out; omega); intro v397 w26 ho hb hg hat; rw [← Ny396.out] at ho; have n0_ := Aside0.mk (Kd.R_over' (by (with_reducible repeat (first | apply Kd.R_alloc | apply Kd.R_drewN | apply Kd.R_drew)); exact HO_32.out) (Kd.S_typed (by (with_reducible repeat (first | apply Kd.S_alloc | apply Kd.S_drewN | apply Kd.S_drew)); exact HO_5.out)) (by decide) hg); have n1_ := Aside0.mk (hb); have n2_ := Aside0.mk (ho); clear HO_32; clear HB; clear HO_5; clear HO395; have HO_32 := n0_; have HB := n1_; have HO398 := n2_; clear n0_ n1_ n2_; clear ho hb hg hat))
        go_roundg k2
        case measure => have := HJ1.out; have := HK2.out; omega
        case rel => exact ⟨(y396), (wrap64 (x34_2 + 1)), (by first | rfl | (simp; done) | (simp [*]; done)), H', ⟨by have := HJ1.out; have := HK2.out; omega⟩, ⟨by (with_reducible repeat (first | apply Kd.S_alloc | apply Kd.S_drewN | apply Kd.S_drew)); exact HO398.out⟩, ⟨by (with_reducible repeat (first | apply Kd.R_alloc | apply Kd.R_drewN | apply Kd.R_drew)); exact Kd.R_mono HO_32.out (fun _ hk => trivial)⟩, ⟨(Gtr.bw HB.out)⟩⟩
       ·rw [if_neg c22] at H
        have c22b0 : ((t393.length : Int) == 8) = false := beq_eq_false_iff_ne.mpr c22
        have c22b1 : ((t393.length : Int) != 8) = true := bne_iff_ne.mpr c22
        simp only [Option.some.injEq, Prod.mk.injEq] at H
        obtain ⟨rfl, rfl, rfl⟩ := H
        have p392 : 0 ≤ (x34_2 : Int) := of_decide_eq_true (by first | (with_reducible assumption) | assumption)
        have q392 : x34_2 < (t389.length : Int) := of_decide_eq_true (by first | (with_reducible assumption) | assumption)
        obtain ⟨ad392, e392, hx392_0⟩ := Kd.at_string (Kd.R_reads' HO_32.out).2.2 x34_2 p392 q392
        cases e392
        replace p392 := eq_true p392
        replace q392 := eq_true q392
        go_wp2_with (first | ((with_reducible refine gate_callee (f := 72) rfl ?_); refine goesL_ (some 39) rfl rfl Tryz.func72 (by kernel_rfl) rfl #[.string (rdOf ByteArray.empty t389 x34_2), .string (⟨#[9]⟩ : ByteArray)] rfl (by (try simp only [List.map_toArray, List.map_cons, List.map_nil]); first | done | rfl | (simp only [List.length_drop, List.length_take]; rfl)) ?_; (with_reducible refine (strings_Split.calls (rdOf ByteArray.empty t389 x34_2) (⟨#[9]⟩ : ByteArray) t393 _ A21.out).mono ?_); rintro e w27 ⟨v394, rfl, ho0, hb⟩; refine ⟨_, rfl, ?_⟩; have n0_ := Aside0.mk (Kd.S_elder' (by (with_reducible repeat (first | apply Kd.S_alloc | apply Kd.S_drewN | apply Kd.S_drew)); exact HO_5.out) (Kd.R_base ho0) hb); have n1_ := Aside0.mk (Kd.R_elder' (by (with_reducible repeat (first | apply Kd.R_alloc | apply Kd.R_drewN | apply Kd.R_drew)); exact HO_32.out) (Kd.R_base ho0) hb); have n2_ := Aside0.mk (Kd.R_lower (Kd.R_new' ho0 (Kd.R_lt (by (with_reducible repeat (first | apply Kd.R_alloc | apply Kd.R_drewN | apply Kd.R_drew)); exact HO_32.out))) (below_size (Gtr.bw HB.out))); have n3_ := Aside0.mk (below_step (Gtr.bw HB.out) hb); clear HO_5; clear HO_32; clear HB; have HO_5 := n0_; have HO_32 := n1_; have HO395 := n2_; have HB := n3_; clear n0_ n1_ n2_ n3_; (try clear hb); (try clear hb2); (try clear hk); (try clear hi); (try clear ho0); obtain ⟨Ao28, co28, eo28⟩ := Kd.R_slice HO395.out; subst eo28))
        go_ret3
        exact ⟨_, by first | rfl | (simp [errW_none, errW_some] <;> rfl) | (simp only [← hji10]; first | rfl | (simp [errW_none, errW_some] <;> rfl)) | (simp [*, errW_none, errW_some] <;> rfl), by first | exact Kd.R_nil _ _ _ _ _ | exact Kd.N_nil _ _ _ _ _ | exact Kd.V_nil _ _ _ _ _ | exact Kd.Q_nil _ _ _ _ _ | exact Kd.S_nil _ _ _ _ _, (Gtr.bw HB.out)⟩
      ·rw [if_neg c18] at H
       have c18b0 : decide (x34_2 < (t389.length : Int)) = false := decide_eq_false c18
       clear c18
       obtain ⟨y399, hy399⟩ : ∃ y_ : List (S74), y_ = (([] : List (S74))) := ⟨_, rfl⟩
       replace H : (impl_ReadItems.l1 k2 y399 x5_2 (x5_2.length : Int) 0) = some (r1, r2, r3) := by first | (rw [hy399]; with_reducible exact H) | (have H2_ := (Option.bind_some _ _).symm.trans H; rw [hy399]; with_reducible exact H2_) | (have H2_ := (Option.bind_some _ _).symm.trans H; with_reducible exact H2_) | with_reducible exact H | (rw [hy399]; exact H) | exact H
       have Ny399 := Aside0.mk hy399
       clear hy399
       have H' := Aside0.mk H
       clear H
       go_wp2_with (first | ((with_reducible refine gate_dst (N := 48) rfl ?_); (try (refine gate_guard (by rfl) ?_; dsimp only)); refine Kd.R_lit k74 _ 74 ?hg (N := 48) ?hd (xs := ([] : List (S74))) (inner := []) (ok := fun _ => True) (okp := fun _ => True) ?hr ?hp (fun _ hk => hk) trivial (Below.refl _ _) (Nat.le_refl _) (by simp) ?_; (case hd => rfl); (case hg => rfl); (case hr => first | (go_simp; done) | (go_simp; rfl)); (case hp => exact (Reps.none _ _)); intro v400 w29 ho30 hb hg_ hnew_; clear hg_ hnew_; (first | rw [← Ny399.out] at ho30 | (simp only [Int.reduceToNat] at ho30; rw [← Ny399.out] at ho30)); have n0_ := Aside0.mk (Kd.S_below (by (with_reducible repeat (first | apply Kd.S_alloc | apply Kd.S_drewN | apply Kd.S_drew)); exact HO_5.out) hb); have n1_ := Aside0.mk (Kd.R_below (by (with_reducible repeat (first | apply Kd.R_alloc | apply Kd.R_drewN | apply Kd.R_drew)); exact HO_32.out) hb); have n2_ := Aside0.mk (Kd.R_lower ho30 (below_size (Gtr.bw HB.out))); have n3_ := Aside0.mk (below_step (Gtr.bw HB.out) hb); clear HO_5; clear HO_32; clear HB; have HO_5 := n0_; have HO_32 := n1_; have HO401 := n2_; have HB := n3_; clear n0_ n1_ n2_ n3_; clear hb ho30; obtain ⟨Ao31, co31, eo31⟩ := Kd.S_slice HO_5.out; subst eo31))
       go_loopg [9, 51] k2 (fun kq v9 v51 w' => ∃ (x9_3 : List (S74)) (x51_3 : Int), v51 = .int .i64 x51_3 ∧ Aside0 (impl_ReadItems.l1 kq x9_3 x5_2 (x5_2.length : Int) x51_3 = some (r1, r2, r3)) ∧ Aside0 (kq ≤ k2) ∧ Aside0 (Kd.R k74 74 w' w.heap.size (fun _ => True) v9 x9_3) ∧ Aside0 (Kd.S (Kd.slice 9 Kd.string) 55 w' w.heap.size (fun _ => True) (.slice Ao31 x5_2.length co31) x5_2) ∧ Aside0 (Below w.heap.size w w'))
       case atStart => exact ⟨(y399), (0), (by first | rfl | (simp; done) | (simp [*]; done)), H', ⟨Nat.le_refl _⟩, ⟨by (with_reducible repeat (first | apply Kd.R_alloc | apply Kd.R_drewN | apply Kd.R_drew)); exact HO401.out⟩, ⟨by (with_reducible repeat (first | apply Kd.S_alloc | apply Kd.S_drewN | apply Kd.S_drew)); exact Kd.S_mono HO_5.out (fun _ hk => trivial)⟩, ⟨(Gtr.bw HB.out)⟩⟩
       case round =>
        clear H'
        (try clear c1);(try clear c2);(try clear p2);(try clear p3);(try clear q3);(try clear hx3);(try clear c4);(try clear c6);(try clear c6b0);(try clear p6);(try clear c7);(try clear c7b0);(try clear p8);(try clear q8);(try clear hx8);(try clear c9);(try clear c11);(try clear c11b0);(try clear c11b1);(try clear c12);(try clear c12b0);(try clear c12b1);(try clear c16);(try clear c18);(try clear c18b0);(try clear c19);(try clear c19b0);(try clear c20);(try clear c20b0);(try clear c22);(try clear c22b0);(try clear c22b1);(try clear c23);(try clear hx392_0);(try clear p2);(try clear p392);(try clear p6);(try clear p8);(try clear q392);(try clear q8)
        obtain ⟨x9_3, x51_3, rfl, HA, HK3, HO_9, HO_49, HB⟩ := hrel
        cases gk with
        | zero => exact absurd HA.out (by simp [impl_ReadItems.l1])
        | succ k3 =>
         have H := HA.out
         clear HA
         simp only [impl_ReadItems.l1] at H
         by_cases c32 : x51_3 < (x5_2.length : Int)
         ·rw [if_pos c32] at H
          have c32b0 : decide (x51_3 < (x5_2.length : Int)) = true := decide_eq_true c32
          clear c32
          refine Or.elim (Classical.em (0 ≤ x51_3)) (fun c33 => ?_) (fun c33 => by rw [if_neg c33] at H; exact absurd H (by simp))
          rw [if_pos c33] at H
          have c33b0 : decide (0 ≤ x51_3) = true := decide_eq_true c33
          clear c33
          refine Or.elim (Classical.em (x51_3 < (x5_2.length : Int))) (fun c34 => ?_) (fun c34 => by rw [if_neg c34] at H; exact absurd H (by simp))
          rw [if_pos c34] at H
          have c34b0 : decide (x51_3 < (x5_2.length : Int)) = true := decide_eq_true c34
          clear c34
          replace H := Option.bind_eq_some_iff.mp H
          obtain ⟨⟨t403, t404, t405, t406, t407, t408, t409, t410, t411⟩, A350, H⟩ := H
          try dsimp only at H
          have A35 := Aside0.mk A350
          clear A350
          by_cases c36 : t411 = true
          ·subst c36
           have H1 := H
           rw [if_pos rfl] at H1
           clear H
           have H := H1
           clear H1
           refine Or.elim (Classical.em (x9_3.length < 1759218604441)) (fun c37 => ?_) (fun c37 => by rw [if_neg c37] at H; exact absurd H (by simp))
           rw [if_pos c37] at H
           have LMc37 := Aside0.mk c37
           clear c37
           obtain ⟨y413, hy413⟩ : ∃ y_ : List (S74), y_ = (x9_3 ++ [(⟨t403, t404, t405, t406, t407, t408, t409, t410⟩ : S74)]) := ⟨_, rfl⟩
           replace H : (impl_ReadItems.l1 k3 y413 x5_2 (x5_2.length : Int) (wrap64 (x51_3 + 1))) = some (r1, r2, r3) := by first | (rw [hy413]; with_reducible exact H) | (have H2_ := (Option.bind_some _ _).symm.trans H; rw [hy413]; with_reducible exact H2_) | (have H2_ := (Option.bind_some _ _).symm.trans H; with_reducible exact H2_) | with_reducible exact H | (rw [hy413]; exact H) | exact H
           have Ny413 := Aside0.mk hy413
           clear hy413
           have H' := Aside0.mk H
           clear H
           have p402 : 0 ≤ (x51_3 : Int) := of_decide_eq_true (by first | (with_reducible assumption) | assumption)
           have q402 : x51_3 < (x5_2.length : Int) := of_decide_eq_true (by first | (with_reducible assumption) | assumption)
           obtain ⟨ad402, A402_0, c402_0, e402, hx402_0, hl402_0, hi402_0⟩ := at_L1 (Kd.S_reads' HO_49.out).2.2 x51_3 p402 q402
           cases e402
           obtain ⟨ce402, hce402, hMe402, hcc402⟩ := Kd.S_get HO_49.out [] x51_3 p402 (by first | exact q402 | exact of_decide_eq_true (by first | (with_reducible assumption) | assumption) | (have e_ := (Kd.S_reads' HO_49.out).1; omega))
           obtain ⟨ve402_0, rfl, ge402_0⟩ := hMe402
           have hv402_0 := hcc402 0 _ rfl
           rw [Nat.add_zero, show ((Kd.slice 9 Kd.string)).sz = 1 from rfl, Nat.mul_one] at hv402_0
           replace hv402_0 := Option.some.inj (hv402_0.symm.trans hx402_0)
           rw [hv402_0] at ge402_0
           have HL402_0 := Aside0.mk (show Kd.R Kd.string 9 _ _ _ _ (rd_L1 x5_2 x51_3) from ge402_0)
           clear hv402_0 ge402_0
           clear hcc402 hce402
           have HR402_0 := Aside0.mk hi402_0
           have HC402_0 := Aside0.mk hl402_0
           clear hi402_0 hl402_0
           replace p402 := eq_true p402
           replace q402 := eq_true q402
           go_wp2_with (first | ((with_reducible refine gate_callee (f := 73) rfl ?_); refine goesL_ (some 57) rfl rfl Tryz.func73 (by kernel_rfl) rfl #[.slice A402_0 (rd_L1 x5_2 x51_3).length c402_0] rfl (by (try simp only [List.map_toArray, List.map_cons, List.map_nil]); first | done | rfl | (simp only [List.length_drop, List.length_take]; rfl)) ?_; (with_reducible refine (impl_readItem.calls _ _ (rd_L1 x5_2 x51_3) t403 t404 t405 t406 t407 t408 t409 t410 true _ ?side1 ?side2 A35.out ?sideEnvR).mono ?_); (case sideEnvR => exact EnvR.below hEnvR (Gtr.bw HB.out)); (case side1 => repeat (first | exact (by repeat (first | (with_reducible exact HR402_0.out) | (with_reducible refine Kd.C_alloc ?_ _) | (with_reducible refine Kd.C_drewN ?_ _) | (with_reducible refine Kd.C_drew ?_) | exact HR402_0.out)) | (with_reducible refine Kd.C_alloc ?_ _) | (with_reducible refine Kd.C_drewN ?_ _) | (with_reducible refine Kd.C_drew ?_))); (case side2 => exact HC402_0.out); rintro e w38 ⟨rfl, hb⟩; refine ⟨_, rfl, ?_⟩; have n0_ := Aside0.mk (Kd.R_below (by (with_reducible repeat (first | apply Kd.R_alloc | apply Kd.R_drewN | apply Kd.R_drew)); exact HO_9.out) hb); have n1_ := Aside0.mk (Kd.S_below (by (with_reducible repeat (first | apply Kd.S_alloc | apply Kd.S_drewN | apply Kd.S_drew)); exact HO_49.out) hb); have n2_ := Aside0.mk (Kd.R_below (by (with_reducible repeat (first | apply Kd.R_alloc | apply Kd.R_drewN | apply Kd.R_drew)); exact HL402_0.out) hb); have n3_ := Aside0.mk (Kd.C_below (by repeat (first | (with_reducible exact HR402_0.out) | (with_reducible refine Kd.C_alloc ?_ _) | (with_reducible refine Kd.C_drewN ?_ _) | (with_reducible refine Kd.C_drew ?_) | exact HR402_0.out)) hb); have n4_ := Aside0.mk (below_step (Gtr.bw HB.out) hb); clear HO_9; clear HO_49; clear HL402_0; clear HR402_0; clear HB; have HO_9 := n0_; have HO_49 := n1_; have HL402_0 := n2_; have HR402_0 := n3_; have HB := n4_; clear n0_ n1_ n2_ n3_ n4_; (try clear hb); (try clear hb2); (try clear hk); (try clear hi)) | ((with_reducible refine gate_dst (N := 12) rfl ?_); (try (refine gate_guard (by rfl) ?_; dsimp only)); refine box_event ?hg (N := 12) ?hd (cs := #[.string (⟨#[]⟩ : ByteArray), .int .i64 0, .int .i64 0, .int .i64 0, .int .i64 0, .int .i64 0, .int .i64 0, .string (⟨#[]⟩ : ByteArray)]) (t := 74) ?hr ?_; (case hd => rfl); (case hg => rfl); (case hr => first | (go_simp; done) | (go_simp; rfl)); intro gb412 hg w39 hbox hb; have n0_ := Aside0.mk (Kd.R_below (Kd.R_elderB (by (with_reducible repeat (first | apply Kd.R_alloc | apply Kd.R_drewN | apply Kd.R_drew)); exact HO_9.out) gb412 (Nat.le_of_eq hg.symm)) hb); have n1_ := Aside0.mk (Kd.S_below (by (with_reducible repeat (first | apply Kd.S_alloc | apply Kd.S_drewN | apply Kd.S_drew)); exact HO_49.out) hb); have n2_ := Aside0.mk (Kd.R_below (by (with_reducible repeat (first | apply Kd.R_alloc | apply Kd.R_drewN | apply Kd.R_drew)); exact HL402_0.out) hb); have n3_ := Aside0.mk (Kd.C_below (by repeat (first | (with_reducible exact HR402_0.out) | (with_reducible refine Kd.C_alloc ?_ _) | (with_reducible refine Kd.C_drewN ?_ _) | (with_reducible refine Kd.C_drew ?_) | exact HR402_0.out)) hb); have n4_ := Aside0.mk (below_step (Gtr.bw HB.out) hb); have n5_ := Aside0.mk (hbox); have n6_ := Aside0.mk ((by rw [hg]; exact (below_size (Gtr.bw HB.out)) : w.heap.size ≤ gb412)); have n7_ := Aside0.mk ((by rw [hg]; exact (below_size (Gtr.bw HB.out)) : w.heap.size ≤ gb412)); clear HO_9; clear HO_49; clear HL402_0; clear HR402_0; clear HB; have HO_9 := n0_; have HO_49 := n1_; have HL402_0 := n2_; have HR402_0 := n3_; have HB := n4_; have BK412 := n5_; have GW412 := n6_; have GE412 := n7_; clear n0_ n1_ n2_ n3_ n4_ n5_ n6_ n7_; clear hb hbox hg; have hcz40_0 : w39.cell? ⟨gb412, 0, none⟩ = some (.string (⟨#[]⟩ : ByteArray)) := (blk_cell BK412.out 0).trans rfl; have hcz40_1 : w39.cell? ⟨gb412, 1, none⟩ = some (.int .i64 0) := (blk_cell BK412.out 1).trans rfl; have hcz40_2 : w39.cell? ⟨gb412, 2, none⟩ = some (.int .i64 0) := (blk_cell BK412.out 2).trans rfl; have hcz40_3 : w39.cell? ⟨gb412, 3, none⟩ = some (.int .i64 0) := (blk_cell BK412.out 3).trans rfl; have hcz40_4 : w39.cell? ⟨gb412, 4, none⟩ = some (.int .i64 0) := (blk_cell BK412.out 4).trans rfl; have hcz40_5 : w39.cell? ⟨gb412, 5, none⟩ = some (.int .i64 0) := (blk_cell BK412.out 5).trans rfl; have hcz40_6 : w39.cell? ⟨gb412, 6, none⟩ = some (.int .i64 0) := (blk_cell BK412.out 6).trans rfl; have hcz40_7 : w39.cell? ⟨gb412, 7, none⟩ = some (.string (⟨#[]⟩ : ByteArray)) := (blk_cell BK412.out 7).trans rfl; have hfz40_0 := blk_frozen BK412.out 0; have hfz40_1 := blk_frozen BK412.out 1; have hfz40_2 := blk_frozen BK412.out 2; have hfz40_3 := blk_frozen BK412.out 3; have hfz40_4 := blk_frozen BK412.out 4; have hfz40_5 := blk_frozen BK412.out 5; have hfz40_6 := blk_frozen BK412.out 6; have hfz40_7 := blk_frozen BK412.out 7) | ((with_reducible refine gate_builtin (b := .append) (xs := #[.tmp 62, .tmp 64]) rfl ?_); (try (refine gate_guard (by rfl) ?_; dsimp only)); at_builtin; refine Kd.R_append k74 (w0 := w) w.heap.size rfl (.tmp 62) (.tmp 64) 26 74 (.agg #[(.string ⟨#[]⟩), (.int .i64 0), (.int .i64 0), (.int .i64 0), (.int .i64 0), (.int .i64 0), (.int .i64 0), (.string ⟨#[]⟩)]) 80 rfl Tryz.underlying26 info74 rfl (by decide) (by omega) u9 x9_3 (⟨t403, t404, t405, t406, t407, t408, t409, t410⟩ : S74) [.string t403, .int .i64 t404, .int .i64 t405, .int .i64 t406, .int .i64 t407, .int .i64 t408, .int .i64 t409, .string t410] (fun k_ => k_ ≠ gb412) (fun _ => False) rfl (by first | (go_simp; done) | (go_simp; rfl)) ?aP (fun _ hk => hk.elim) ?aF ?aO ?aB ?aS ?aL ?_; (case aP => exact k74_mkM _ _ _ (⟨t403, t404, t405, t406, t407, t408, t409, t410⟩ : S74)); (case aB => exact (Gtr.bw HB.out)); (case aF => exact (fun k_ hk => Kd.freshB (g := gb412) (o := .cells #[.string t403, .int .i64 t404, .int .i64 t405, .int .i64 t406, .int .i64 t407, .int .i64 t408, .int .i64 t409, .string t410] 74 (0, 0)) (by (with_reducible repeat (first | refine blk_drewN ?_ _ | refine blk_drew ?_ | refine blk_alloc ?_ _)); refine blk_put (cs := #[.string t403, .int .i64 t404, .int .i64 t405, .int .i64 t406, .int .i64 t407, .int .i64 t408, .int .i64 t409, .string (⟨#[]⟩ : ByteArray)]) ?_ 7 _ rfl; (with_reducible repeat (first | refine blk_drewN ?_ _ | refine blk_drew ?_ | refine blk_alloc ?_ _)); refine blk_put (cs := #[.string t403, .int .i64 t404, .int .i64 t405, .int .i64 t406, .int .i64 t407, .int .i64 t408, .int .i64 0, .string (⟨#[]⟩ : ByteArray)]) ?_ 6 _ rfl; (with_reducible repeat (first | refine blk_drewN ?_ _ | refine blk_drew ?_ | refine blk_alloc ?_ _)); refine blk_put (cs := #[.string t403, .int .i64 t404, .int .i64 t405, .int .i64 t406, .int .i64 t407, .int .i64 0, .int .i64 0, .string (⟨#[]⟩ : ByteArray)]) ?_ 5 _ rfl; (with_reducible repeat (first | refine blk_drewN ?_ _ | refine blk_drew ?_ | refine blk_alloc ?_ _)); refine blk_put (cs := #[.string t403, .int .i64 t404, .int .i64 t405, .int .i64 t406, .int .i64 0, .int .i64 0, .int .i64 0, .string (⟨#[]⟩ : ByteArray)]) ?_ 4 _ rfl; (with_reducible repeat (first | refine blk_drewN ?_ _ | refine blk_drew ?_ | refine blk_alloc ?_ _)); refine blk_put (cs := #[.string t403, .int .i64 t404, .int .i64 t405, .int .i64 0, .int .i64 0, .int .i64 0, .int .i64 0, .string (⟨#[]⟩ : ByteArray)]) ?_ 3 _ rfl; (with_reducible repeat (first | refine blk_drewN ?_ _ | refine blk_drew ?_ | refine blk_alloc ?_ _)); refine blk_put (cs := #[.string t403, .int .i64 t404, .int .i64 0, .int .i64 0, .int .i64 0, .int .i64 0, .int .i64 0, .string (⟨#[]⟩ : ByteArray)]) ?_ 2 _ rfl; (with_reducible repeat (first | refine blk_drewN ?_ _ | refine blk_drew ?_ | refine blk_alloc ?_ _)); refine blk_put (cs := #[.string t403, .int .i64 0, .int .i64 0, .int .i64 0, .int .i64 0, .int .i64 0, .int .i64 0, .string (⟨#[]⟩ : ByteArray)]) ?_ 1 _ rfl; (with_reducible repeat (first | refine blk_drewN ?_ _ | refine blk_drew ?_ | refine blk_alloc ?_ _)); refine blk_put (cs := #[.string (⟨#[]⟩ : ByteArray), .int .i64 0, .int .i64 0, .int .i64 0, .int .i64 0, .int .i64 0, .int .i64 0, .string (⟨#[]⟩ : ByteArray)]) ?_ 0 _ rfl; (with_reducible repeat (first | refine blk_drewN ?_ _ | refine blk_drew ?_ | refine blk_alloc ?_ _)); exact BK412.out) k_ hk)); (case aO => exact (by (with_reducible repeat (first | apply Kd.R_alloc | apply Kd.R_drewN | apply Kd.R_drew)); exact Kd.R_mono (Kd.R_far (p := ⟨gb412, 7, none⟩) (Kd.R_far (p := ⟨gb412, 6, none⟩) (Gtr.far6 (Kd.R_mono HO_9.out (fun k_ hk => (⟨hk, hk.2⟩ : _ ∧ k_ ≠ gb412))) (fun _ hk => hk.2)) (fun _ hk => hk.2) (.int .i64 t409)) (fun _ hk => hk.2) (.string t410)) (fun _ hk => hk.1.2))); (case aS => exact (below_size (Gtr.bw HB.out))); (case aL => have := LMc37.out; omega); intro v414 w41 ho hb hg hat; rw [← Ny413.out] at ho; have n0_ := Aside0.mk (Kd.S_over' (by (with_reducible repeat (first | apply Kd.S_alloc | apply Kd.S_drewN | apply Kd.S_drew)); exact (Kd.S_mono (Kd.S_far (p := ⟨gb412, 7, none⟩) (Kd.S_far (p := ⟨gb412, 6, none⟩) (Kd.S_far (p := ⟨gb412, 5, none⟩) (Kd.S_far (p := ⟨gb412, 4, none⟩) (Kd.S_far (p := ⟨gb412, 3, none⟩) (Kd.S_far (p := ⟨gb412, 2, none⟩) (Kd.S_far (p := ⟨gb412, 1, none⟩) (Kd.S_far (p := ⟨gb412, 0, none⟩) (Kd.S_types HO_49.out BK412.out (by decide)) (fun _ hk => hk.2) (.string t403)) (fun _ hk => hk.2) (.int .i64 t404)) (fun _ hk => hk.2) (.int .i64 t405)) (fun _ hk => hk.2) (.int .i64 t406)) (fun _ hk => hk.2) (.int .i64 t407)) (fun _ hk => hk.2) (.int .i64 t408)) (fun _ hk => hk.2) (.int .i64 t409)) (fun _ hk => hk.2) (.string t410)) (fun _ h_ => h_.1))) (Kd.R_typed (by (with_reducible repeat (first | apply Kd.R_alloc | apply Kd.R_drewN | apply Kd.R_drew)); exact (Kd.R_mono (Kd.R_far (p := ⟨gb412, 7, none⟩) (Kd.R_far (p := ⟨gb412, 6, none⟩) (Gtr.far6 (Kd.R_mono HO_9.out (fun k_ hk => (⟨hk, hk.2⟩ : _ ∧ k_ ≠ gb412))) (fun _ hk => hk.2)) (fun _ hk => hk.2) (.int .i64 t409)) (fun _ hk => hk.2) (.string t410)) (fun _ h_ => h_.1)))) (by decide) hg); have n1_ := Aside0.mk (Kd.R_over' (by (with_reducible repeat (first | apply Kd.R_alloc | apply Kd.R_drewN | apply Kd.R_drew)); exact (Kd.R_mono (Kd.R_far (p := ⟨gb412, 7, none⟩) (Kd.R_far (p := ⟨gb412, 6, none⟩) (Gtr.far6 (Kd.R_types HL402_0.out BK412.out (by decide)) (fun _ hk => hk.2)) (fun _ hk => hk.2) (.int .i64 t409)) (fun _ hk => hk.2) (.string t410)) (fun _ h_ => h_.1))) (Kd.R_typed (by (with_reducible repeat (first | apply Kd.R_alloc | apply Kd.R_drewN | apply Kd.R_drew)); exact (Kd.R_mono (Kd.R_far (p := ⟨gb412, 7, none⟩) (Kd.R_far (p := ⟨gb412, 6, none⟩) (Gtr.far6 (Kd.R_mono HO_9.out (fun k_ hk => (⟨hk, hk.2⟩ : _ ∧ k_ ≠ gb412))) (fun _ hk => hk.2)) (fun _ hk => hk.2) (.int .i64 t409)) (fun _ hk => hk.2) (.string t410)) (fun _ h_ => h_.1)))) (by decide) hg); have n2_ := Aside0.mk (blk_grown (g := gb412) (o := .cells #[.string t403, .int .i64 t404, .int .i64 t405, .int .i64 t406, .int .i64 t407, .int .i64 t408, .int .i64 t409, .string t410] 74 (0, 0)) (by (with_reducible repeat (first | refine blk_drewN ?_ _ | refine blk_drew ?_ | refine blk_alloc ?_ _)); refine blk_put (cs := #[.string t403, .int .i64 t404, .int .i64 t405, .int .i64 t406, .int .i64 t407, .int .i64 t408, .int .i64 t409, .string (⟨#[]⟩ : ByteArray)]) ?_ 7 _ rfl; (with_reducible repeat (first | refine blk_drewN ?_ _ | refine blk_drew ?_ | refine blk_alloc ?_ _)); refine blk_put (cs := #[.string t403, .int .i64 t404, .int .i64 t405, .int .i64 t406, .int .i64 t407, .int .i64 t408, .int .i64 0, .string (⟨#[]⟩ : ByteArray)]) ?_ 6 _ rfl; (with_reducible repeat (first | refine blk_drewN ?_ _ | refine blk_drew ?_ | refine blk_alloc ?_ _)); refine blk_put (cs := #[.string t403, .int .i64 t404, .int .i64 t405, .int .i64 t406, .int .i64 t407, .int .i64 0, .int .i64 0, .string (⟨#[]⟩ : ByteArray)]) ?_ 5 _ rfl; (with_reducible repeat (first | refine blk_drewN ?_ _ | refine blk_drew ?_ | refine blk_alloc ?_ _)); refine blk_put (cs := #[.string t403, .int .i64 t404, .int .i64 t405, .int .i64 t406, .int .i64 0, .int .i64 0, .int .i64 0, .string (⟨#[]⟩ : ByteArray)]) ?_ 4 _ rfl; (with_reducible repeat (first | refine blk_drewN ?_ _ | refine blk_drew ?_ | refine blk_alloc ?_ _)); refine blk_put (cs := #[.string t403, .int .i64 t404, .int .i64 t405, .int .i64 0, .int .i64 0, .int .i64 0, .int .i64 0, .string (⟨#[]⟩ : ByteArray)]) ?_ 3 _ rfl; (with_reducible repeat (first | refine blk_drewN ?_ _ | refine blk_drew ?_ | refine blk_alloc ?_ _)); refine blk_put (cs := #[.string t403, .int .i64 t404, .int .i64 0, .int .i64 0, .int .i64 0, .int .i64 0, .int .i64 0, .string (⟨#[]⟩ : ByteArray)]) ?_ 2 _ rfl; (with_reducible repeat (first | refine blk_drewN ?_ _ | refine blk_drew ?_ | refine blk_alloc ?_ _)); refine blk_put (cs := #[.string t403, .int .i64 0, .int .i64 0, .int .i64 0, .int .i64 0, .int .i64 0, .int .i64 0, .string (⟨#[]⟩ : ByteArray)]) ?_ 1 _ rfl; (with_reducible repeat (first | refine blk_drewN ?_ _ | refine blk_drew ?_ | refine blk_alloc ?_ _)); refine blk_put (cs := #[.string (⟨#[]⟩ : ByteArray), .int .i64 0, .int .i64 0, .int .i64 0, .int .i64 0, .int .i64 0, .int .i64 0, .string (⟨#[]⟩ : ByteArray)]) ?_ 0 _ rfl; (with_reducible repeat (first | refine blk_drewN ?_ _ | refine blk_drew ?_ | refine blk_alloc ?_ _)); exact BK412.out) hg (Kd.R_away HO_9.out (fun _ hk => hk.2))); have n3_ := Aside0.mk (hb); have n4_ := Aside0.mk (ho); clear HO_49; clear HL402_0; clear BK412; clear HB; clear HO_9; have HO_49 := n0_; have HL402_0 := n1_; have BK412 := n2_; have HB := n3_; have HO415 := n4_; clear n0_ n1_ n2_ n3_ n4_; clear ho hb hg hat))
           go_roundg k3
           case measure => have := HJ1.out; have := HK2.out; have := HK3.out; omega
           case rel => exact ⟨(y413), (wrap64 (x51_3 + 1)), (by first | rfl | (simp; done) | (simp [*]; done)), H', ⟨by have := HJ1.out; have := HK2.out; have := HK3.out; omega⟩, ⟨by (with_reducible repeat (first | apply Kd.R_alloc | apply Kd.R_drewN | apply Kd.R_drew)); exact Kd.R_mono HO415.out (fun _ hk => trivial)⟩, ⟨by (with_reducible repeat (first | apply Kd.S_alloc | apply Kd.S_drewN | apply Kd.S_drew)); exact HO_49.out⟩, ⟨(Gtr.bw HB.out)⟩⟩
          ·replace c36 := Bool.eq_false_iff.mpr c36
           subst c36
           have H1 : (some (([] : List (S74)), 3, false)) = some (r1, r2, r3) := by rw [if_neg (show ¬ (false = true) by decide)] at H; exact H
           clear H
           have H := H1
           clear H1
           simp only [Option.some.injEq, Prod.mk.injEq] at H
           obtain ⟨rfl, rfl, rfl⟩ := H
           have p402 : 0 ≤ (x51_3 : Int) := of_decide_eq_true (by first | (with_reducible assumption) | assumption)
           have q402 : x51_3 < (x5_2.length : Int) := of_decide_eq_true (by first | (with_reducible assumption) | assumption)
           obtain ⟨ad402, A402_0, c402_0, e402, hx402_0, hl402_0, hi402_0⟩ := at_L1 (Kd.S_reads' HO_49.out).2.2 x51_3 p402 q402
           cases e402
           obtain ⟨ce402, hce402, hMe402, hcc402⟩ := Kd.S_get HO_49.out [] x51_3 p402 (by first | exact q402 | exact of_decide_eq_true (by first | (with_reducible assumption) | assumption) | (have e_ := (Kd.S_reads' HO_49.out).1; omega))
           obtain ⟨ve402_0, rfl, ge402_0⟩ := hMe402
           have hv402_0 := hcc402 0 _ rfl
           rw [Nat.add_zero, show ((Kd.slice 9 Kd.string)).sz = 1 from rfl, Nat.mul_one] at hv402_0
           replace hv402_0 := Option.some.inj (hv402_0.symm.trans hx402_0)
           rw [hv402_0] at ge402_0
           have HL402_0 := Aside0.mk (show Kd.R Kd.string 9 _ _ _ _ (rd_L1 x5_2 x51_3) from ge402_0)
           clear hv402_0 ge402_0
           clear hcc402 hce402
           have HR402_0 := Aside0.mk hi402_0
           have HC402_0 := Aside0.mk hl402_0
           clear hi402_0 hl402_0
           replace p402 := eq_true p402
           replace q402 := eq_true q402
           go_wp2_with (first | ((with_reducible refine gate_callee (f := 73) rfl ?_); refine goesL_ (some 57) rfl rfl Tryz.func73 (by kernel_rfl) rfl #[.slice A402_0 (rd_L1 x5_2 x51_3).length c402_0] rfl (by (try simp only [List.map_toArray, List.map_cons, List.map_nil]); first | done | rfl | (simp only [List.length_drop, List.length_take]; rfl)) ?_; (with_reducible refine (impl_readItem.calls _ _ (rd_L1 x5_2 x51_3) t403 t404 t405 t406 t407 t408 t409 t410 false _ ?side1 ?side2 A35.out ?sideEnvR).mono ?_); (case sideEnvR => exact EnvR.below hEnvR (Gtr.bw HB.out)); (case side1 => repeat (first | exact (by repeat (first | (with_reducible exact HR402_0.out) | (with_reducible refine Kd.C_alloc ?_ _) | (with_reducible refine Kd.C_drewN ?_ _) | (with_reducible refine Kd.C_drew ?_) | exact HR402_0.out)) | (with_reducible refine Kd.C_alloc ?_ _) | (with_reducible refine Kd.C_drewN ?_ _) | (with_reducible refine Kd.C_drew ?_))); (case side2 => exact HC402_0.out); rintro e w42 ⟨rfl, hb⟩; refine ⟨_, rfl, ?_⟩; have n0_ := Aside0.mk (Kd.R_below (by (with_reducible repeat (first | apply Kd.R_alloc | apply Kd.R_drewN | apply Kd.R_drew)); exact HO_9.out) hb); have n1_ := Aside0.mk (Kd.S_below (by (with_reducible repeat (first | apply Kd.S_alloc | apply Kd.S_drewN | apply Kd.S_drew)); exact HO_49.out) hb); have n2_ := Aside0.mk (Kd.R_below (by (with_reducible repeat (first | apply Kd.R_alloc | apply Kd.R_drewN | apply Kd.R_drew)); exact HL402_0.out) hb); have n3_ := Aside0.mk (Kd.C_below (by repeat (first | (with_reducible exact HR402_0.out) | (with_reducible refine Kd.C_alloc ?_ _) | (with_reducible refine Kd.C_drewN ?_ _) | (with_reducible refine Kd.C_drew ?_) | exact HR402_0.out)) hb); have n4_ := Aside0.mk (below_step (Gtr.bw HB.out) hb); clear HO_9; clear HO_49; clear HL402_0; clear HR402_0; clear HB; have HO_9 := n0_; have HO_49 := n1_; have HL402_0 := n2_; have HR402_0 := n3_; have HB := n4_; clear n0_ n1_ n2_ n3_ n4_; (try clear hb); (try clear hb2); (try clear hk); (try clear hi)) | ((with_reducible refine gate_dst (N := 12) rfl ?_); (try (refine gate_guard (by rfl) ?_; dsimp only)); refine box_event ?hg (N := 12) ?hd (cs := #[.string (⟨#[]⟩ : ByteArray), .int .i64 0, .int .i64 0, .int .i64 0, .int .i64 0, .int .i64 0, .int .i64 0, .string (⟨#[]⟩ : ByteArray)]) (t := 74) ?hr ?_; (case hd => rfl); (case hg => rfl); (case hr => first | (go_simp; done) | (go_simp; rfl)); intro gb412 hg w43 hbox hb; have n0_ := Aside0.mk (Kd.R_below (Kd.R_elderB (by (with_reducible repeat (first | apply Kd.R_alloc | apply Kd.R_drewN | apply Kd.R_drew)); exact HO_9.out) gb412 (Nat.le_of_eq hg.symm)) hb); have n1_ := Aside0.mk (Kd.S_below (by (with_reducible repeat (first | apply Kd.S_alloc | apply Kd.S_drewN | apply Kd.S_drew)); exact HO_49.out) hb); have n2_ := Aside0.mk (Kd.R_below (by (with_reducible repeat (first | apply Kd.R_alloc | apply Kd.R_drewN | apply Kd.R_drew)); exact HL402_0.out) hb); have n3_ := Aside0.mk (Kd.C_below (by repeat (first | (with_reducible exact HR402_0.out) | (with_reducible refine Kd.C_alloc ?_ _) | (with_reducible refine Kd.C_drewN ?_ _) | (with_reducible refine Kd.C_drew ?_) | exact HR402_0.out)) hb); have n4_ := Aside0.mk (below_step (Gtr.bw HB.out) hb); have n5_ := Aside0.mk (hbox); have n6_ := Aside0.mk ((by rw [hg]; exact (below_size (Gtr.bw HB.out)) : w.heap.size ≤ gb412)); have n7_ := Aside0.mk ((by rw [hg]; exact (below_size (Gtr.bw HB.out)) : w.heap.size ≤ gb412)); clear HO_9; clear HO_49; clear HL402_0; clear HR402_0; clear HB; have HO_9 := n0_; have HO_49 := n1_; have HL402_0 := n2_; have HR402_0 := n3_; have HB := n4_; have BK412 := n5_; have GW412 := n6_; have GE412 := n7_; clear n0_ n1_ n2_ n3_ n4_ n5_ n6_ n7_; clear hb hbox hg; have hcz44_0 : w43.cell? ⟨gb412, 0, none⟩ = some (.string (⟨#[]⟩ : ByteArray)) := (blk_cell BK412.out 0).trans rfl; have hcz44_1 : w43.cell? ⟨gb412, 1, none⟩ = some (.int .i64 0) := (blk_cell BK412.out 1).trans rfl; have hcz44_2 : w43.cell? ⟨gb412, 2, none⟩ = some (.int .i64 0) := (blk_cell BK412.out 2).trans rfl; have hcz44_3 : w43.cell? ⟨gb412, 3, none⟩ = some (.int .i64 0) := (blk_cell BK412.out 3).trans rfl; have hcz44_4 : w43.cell? ⟨gb412, 4, none⟩ = some (.int .i64 0) := (blk_cell BK412.out 4).trans rfl; have hcz44_5 : w43.cell? ⟨gb412, 5, none⟩ = some (.int .i64 0) := (blk_cell BK412.out 5).trans rfl; have hcz44_6 : w43.cell? ⟨gb412, 6, none⟩ = some (.int .i64 0) := (blk_cell BK412.out 6).trans rfl; have hcz44_7 : w43.cell? ⟨gb412, 7, none⟩ = some (.string (⟨#[]⟩ : ByteArray)) := (blk_cell BK412.out 7).trans rfl; have hfz44_0 := blk_frozen BK412.out 0; have hfz44_1 := blk_frozen BK412.out 1; have hfz44_2 := blk_frozen BK412.out 2; have hfz44_3 := blk_frozen BK412.out 3; have hfz44_4 := blk_frozen BK412.out 4; have hfz44_5 := blk_frozen BK412.out 5; have hfz44_6 := blk_frozen BK412.out 6; have hfz44_7 := blk_frozen BK412.out 7))
           go_ret3
           exact ⟨_, by first | rfl | (simp [errW_none, errW_some] <;> rfl) | (simp only [← hji10]; first | rfl | (simp [errW_none, errW_some] <;> rfl)) | (simp [*, errW_none, errW_some] <;> rfl), by first | exact Kd.R_nil _ _ _ _ _ | exact Kd.N_nil _ _ _ _ _ | exact Kd.V_nil _ _ _ _ _ | exact Kd.Q_nil _ _ _ _ _ | exact Kd.S_nil _ _ _ _ _, (Gtr.bw HB.out)⟩
         ·rw [if_neg c32] at H
          have c32b0 : decide (x51_3 < (x5_2.length : Int)) = false := decide_eq_false c32
          clear c32
          replace H := Option.bind_eq_some_iff.mp H
          obtain ⟨t416, A450, H⟩ := H
          try dsimp only at H
          have A45 := Aside0.mk A450
          clear A450
          by_cases c46 : t416 = true
          ·subst c46
           have H1 := H
           rw [if_pos rfl] at H1
           clear H
           have H := H1
           clear H1
           simp only [Option.some.injEq, Prod.mk.injEq] at H
           obtain ⟨rfl, rfl, rfl⟩ := H
           obtain ⟨Ao47, co47, eo47⟩ := Kd.R_slice HO_9.out
           subst eo47
           go_wp2_with (first | ((with_reducible refine gate_callee (f := 38) rfl ?_); refine goesL_ (some 68) rfl rfl Tryz.func38 (by kernel_rfl) rfl #[.slice Ao47 x9_3.length co47] rfl (by (try simp only [List.map_toArray, List.map_cons, List.map_nil]); first | done | rfl | (simp only [List.length_drop, List.length_take]; rfl)) ?_; (with_reducible refine (impl_GoodItems.calls _ _ x9_3 true _ ?side1 ?side2 A45.out).mono ?_); (case side1 => repeat (first | exact (Kd.R_reads' HO_9.out).2.2 | (with_reducible refine Kd.C_alloc ?_ _) | (with_reducible refine Kd.C_drewN ?_ _) | (with_reducible refine Kd.C_drew ?_))); (case side2 => exact (Kd.R_reads' HO_9.out).2.1); rintro e w48 ⟨rfl, hb⟩; refine ⟨_, rfl, ?_⟩; have n0_ := Aside0.mk (Kd.R_below (by (with_reducible repeat (first | apply Kd.R_alloc | apply Kd.R_drewN | apply Kd.R_drew)); exact HO_9.out) hb); have n1_ := Aside0.mk (Kd.S_below (by (with_reducible repeat (first | apply Kd.S_alloc | apply Kd.S_drewN | apply Kd.S_drew)); exact HO_49.out) hb); have n2_ := Aside0.mk (below_step (Gtr.bw HB.out) hb); clear HO_9; clear HO_49; clear HB; have HO_9 := n0_; have HO_49 := n1_; have HB := n2_; clear n0_ n1_ n2_; (try clear hb); (try clear hb2); (try clear hk); (try clear hi)))
           go_ret3
           exact ⟨_, by first | rfl | (simp [errW_none, errW_some] <;> rfl) | (simp only [← hji10]; first | rfl | (simp [errW_none, errW_some] <;> rfl)) | (simp [*, errW_none, errW_some] <;> rfl), by (with_reducible repeat (first | apply Kd.R_alloc | apply Kd.R_drewN | apply Kd.R_drew)); exact HO_9.out, (Gtr.bw HB.out)⟩
          ·replace c46 := Bool.eq_false_iff.mpr c46
           subst c46
           have H1 : (some (([] : List (S74)), 4, false)) = some (r1, r2, r3) := by rw [if_neg (show ¬ (false = true) by decide)] at H; exact H
           clear H
           have H := H1
           clear H1
           simp only [Option.some.injEq, Prod.mk.injEq] at H
           obtain ⟨rfl, rfl, rfl⟩ := H
           obtain ⟨Ao49, co49, eo49⟩ := Kd.R_slice HO_9.out
           subst eo49
           go_wp2_with (first | ((with_reducible refine gate_callee (f := 38) rfl ?_); refine goesL_ (some 68) rfl rfl Tryz.func38 (by kernel_rfl) rfl #[.slice Ao49 x9_3.length co49] rfl (by (try simp only [List.map_toArray, List.map_cons, List.map_nil]); first | done | rfl | (simp only [List.length_drop, List.length_take]; rfl)) ?_; (with_reducible refine (impl_GoodItems.calls _ _ x9_3 false _ ?side1 ?side2 A45.out).mono ?_); (case side1 => repeat (first | exact (Kd.R_reads' HO_9.out).2.2 | (with_reducible refine Kd.C_alloc ?_ _) | (with_reducible refine Kd.C_drewN ?_ _) | (with_reducible refine Kd.C_drew ?_))); (case side2 => exact (Kd.R_reads' HO_9.out).2.1); rintro e w50 ⟨rfl, hb⟩; refine ⟨_, rfl, ?_⟩; have n0_ := Aside0.mk (Kd.R_below (by (with_reducible repeat (first | apply Kd.R_alloc | apply Kd.R_drewN | apply Kd.R_drew)); exact HO_9.out) hb); have n1_ := Aside0.mk (Kd.S_below (by (with_reducible repeat (first | apply Kd.S_alloc | apply Kd.S_drewN | apply Kd.S_drew)); exact HO_49.out) hb); have n2_ := Aside0.mk (below_step (Gtr.bw HB.out) hb); clear HO_9; clear HO_49; clear HB; have HO_9 := n0_; have HO_49 := n1_; have HB := n2_; clear n0_ n1_ n2_; (try clear hb); (try clear hb2); (try clear hk); (try clear hi)))
           go_ret3
           exact ⟨_, by first | rfl | (simp [errW_none, errW_some] <;> rfl) | (simp only [← hji10]; first | rfl | (simp [errW_none, errW_some] <;> rfl)) | (simp [*, errW_none, errW_some] <;> rfl), by first | exact Kd.R_nil _ _ _ _ _ | exact Kd.N_nil _ _ _ _ _ | exact Kd.V_nil _ _ _ _ _ | exact Kd.Q_nil _ _ _ _ _ | exact Kd.S_nil _ _ _ _ _, (Gtr.bw HB.out)⟩
end Go.Proofs.YthhmkbchdiflcaaGreatDoor.Q

-- Printed by a program of this session (wip/tools/myprint.py) that runs the kit's print, hand-proved functions among the others.
namespace Go.Proofs.YthhmkbchdiflcaaGreatDoor.Q
open Go.RowKit Go.Proofs.YthhmkbchdiflcaaGreatDoorW.PrintWords Go.Proofs.YthhmkbchdiflcaaGreatDoorW.PrintLast Go.Proofs.YthhmkbchdiflcaaGreatDoorW.PrintMore
attribute [local go_sem] max2_int min2_int max_two min_two max_three min_three max_four min_four   -- for this text's walks alone
set_option linter.unusedVariables false
set_option linter.unusedSimpArgs false

/-! ### laws_FnExactReadItems: function 4 -/
mutual
def laws_FnExactReadItems.j0 : Nat → ByteArray → List (S74) → Int → Bool → List (S74) → Bool → Option (Bool)
 | 0, _, _, _, _, _, _ => none
 | k + 1, x0, x3, x4, x5, x6, x42 => if x42 = true then (some false) else ((laws_markItemS.f k x6 1).bind fun bt451 => ((laws_heldItemS.f k bt451.2 1).bind fun t453 => (if t453 < 0 then (some false) else (if t453 = bt451.1 then ((impl_ReadItems.f k x0).bind fun bt454 => ((laws_eqItemS.f k bt454.1 x3).bind fun t459 => (if t459 = true then (if bt454.2.1 = x4 then (laws_FnExactReadItems.j1 k bt451.2 bt451.1 (bt454.2.2 != x5)) else (laws_FnExactReadItems.j1 k bt451.2 bt451.1 true)) else (laws_FnExactReadItems.j1 k bt451.2 bt451.1 true)))) else (some false)))))
def laws_FnExactReadItems.j1 : Nat → List (S74) → Int → Bool → Option (Bool)
 | 0, _, _, _ => none
 | k + 1, x6, x9, x73 => if x73 = true then (some false) else ((laws_heldItemS.f k x6 1).bind fun t460 => (if t460 < 0 then (some false) else (if t460 = x9 then (some true) else (some false))))
end
def laws_FnExactReadItems.f (k : Nat) (a0 : ByteArray) : Option (Bool) := if (a0.size : Int) > 1048576 then (some true) else ((spec_ReadItems.f k a0).bind fun bt440 => ((impl_ReadItems.f k a0).bind fun bt445 => ((laws_eqItemS.f k bt445.1 bt440.1).bind fun t450 => (if t450 = true then (if bt445.2.1 = bt440.2.1 then (laws_FnExactReadItems.j0 k a0 bt440.1 bt440.2.1 bt440.2.2 bt445.1 (bt445.2.2 != bt440.2.2)) else (laws_FnExactReadItems.j0 k a0 bt440.1 bt440.2.1 bt440.2.2 bt445.1 true)) else (laws_FnExactReadItems.j0 k a0 bt440.1 bt440.2.1 bt440.2.2 bt445.1 true)))))
set_option maxHeartbeats 8000000 in
set_option maxRecDepth 100000 in
theorem laws_FnExactReadItems.calls (k : Nat) (a0 : ByteArray) (r : Bool) (w : World) (h : laws_FnExactReadItems.f k a0 = some r) (hEnvR : EnvR w) :
  Calls Tryz.prog 4 #[.string a0] w fun e w' => e = .returned (.bool r) ∧ Below w.heap.size w w' := by
 have HB := Aside0.mk (Below.refl w.heap.size w)
 have H : (if (a0.size : Int) > 1048576 then (some true) else ((spec_ReadItems.f k a0).bind fun bt440 => ((impl_ReadItems.f k a0).bind fun bt445 => ((laws_eqItemS.f k bt445.1 bt440.1).bind fun t450 => (if t450 = true then (if bt445.2.1 = bt440.2.1 then (laws_FnExactReadItems.j0 k a0 bt440.1 bt440.2.1 bt440.2.2 bt445.1 (bt445.2.2 != bt440.2.2)) else (laws_FnExactReadItems.j0 k a0 bt440.1 bt440.2.1 bt440.2.2 bt445.1 true)) else (laws_FnExactReadItems.j0 k a0 bt440.1 bt440.2.1 bt440.2.2 bt445.1 true)))))) = some r := h
 clear h
 by_cases c2 : (a0.size : Int) > 1048576
 ·rw [if_pos c2] at H
  have c2b0 : decide (1048576 < (a0.size : Int)) = true := decide_eq_true c2
  have c2b1 : decide (1048576 < a0.size) = true := decide_eq_true (by omega)
  clear c2
  obtain rfl := Option.some.inj H
  go_enter Tryz.func4, Tryz.ntmps4
  go_wp2
  go_ret
  exact ⟨by first | rfl | (simp [errW_none, errW_some] <;> rfl) | (simp [*, errW_none, errW_some] <;> rfl), (Gtr.bw HB.out)⟩
 ·rw [if_neg c2] at H
  have c2b0 : decide (1048576 < (a0.size : Int)) = false := decide_eq_false c2
  have c2b1 : decide (1048576 < a0.size) = false := decide_eq_false (by omega)
  clear c2
  replace H := Option.bind_eq_some_iff.mp H
  obtain ⟨⟨t440, t441, t442⟩, A30, H⟩ := H
  try dsimp only at H
  have A3 := Aside0.mk A30
  clear A30
  replace H := Option.bind_eq_some_iff.mp H
  obtain ⟨⟨t445, t446, t447⟩, A40, H⟩ := H
  try dsimp only at H
  have A4 := Aside0.mk A40
  clear A40
  have HC5 := Aside0.mk H
  clear H
  go_enter Tryz.func4, Tryz.ntmps4
  go_upto_region 5 with (first | ((with_reducible refine gate_callee (f := 15) rfl ?_); refine goesL_ (some 19) rfl rfl Tryz.func15 (by kernel_rfl) rfl #[.string a0] rfl (by (try simp only [List.map_toArray, List.map_cons, List.map_nil]); first | done | rfl | (simp only [List.length_drop, List.length_take]; rfl)) ?_; (with_reducible refine (spec_ReadItems.calls k a0 t440 t441 t442 _ A3.out).mono ?_); rintro e w6 ⟨v443, rfl, ho0, hb⟩; refine ⟨_, rfl, ?_⟩; have n0_ := Aside0.mk (Kd.R_lower ho0 (below_size (Gtr.bw HB.out))); have n1_ := Aside0.mk (below_step (Gtr.bw HB.out) hb); clear HB; have HO444 := n0_; have HB := n1_; clear n0_ n1_; (try clear hb); (try clear hb2); (try clear hk); (try clear hi); (try clear ho0)) | ((with_reducible refine gate_callee (f := 16) rfl ?_); refine goesL_ (some 25) rfl rfl Tryz.func16 (by kernel_rfl) rfl #[.string a0] rfl (by (try simp only [List.map_toArray, List.map_cons, List.map_nil]); first | done | rfl | (simp only [List.length_drop, List.length_take]; rfl)) ?_; (with_reducible refine (impl_ReadItems.calls k a0 t445 t446 t447 _ A4.out ?sideEnvR).mono ?_); (case sideEnvR => exact EnvR.below hEnvR (Gtr.bw HB.out)); rintro e w7 ⟨v448, rfl, ho0, hb⟩; refine ⟨_, rfl, ?_⟩; have n0_ := Aside0.mk (Kd.R_elder' (by (with_reducible repeat (first | apply Kd.R_alloc | apply Kd.R_drewN | apply Kd.R_drew)); exact HO444.out) (Kd.R_base ho0) hb); have n1_ := Aside0.mk (Kd.R_lower (Kd.R_new' ho0 (Kd.R_lt (by (with_reducible repeat (first | apply Kd.R_alloc | apply Kd.R_drewN | apply Kd.R_drew)); exact HO444.out))) (below_size (Gtr.bw HB.out))); have n2_ := Aside0.mk (below_step (Gtr.bw HB.out) hb); clear HO444; clear HB; have HO444 := n0_; have HO449 := n1_; have HB := n2_; clear n0_ n1_ n2_; (try clear hb); (try clear hb2); (try clear hk); (try clear hi); (try clear ho0)))
  (try simp only [Act.put, List.setIfInBounds_toArray, List.set_cons_zero, List.set_cons_succ])
  go_cut [42] (fun v42 wc => ∃ (kq : Nat) (x42_4 : Bool), v42 = .bool x42_4 ∧ Aside0 (laws_FnExactReadItems.j0 kq a0 t440 t441 t442 t445 x42_4 = some r) ∧ Aside0 (kq ≤ k) ∧ Aside0 (Kd.R k74 74 wc w.heap.size (fun k_ => some k_ ≠ (v448 : Value).ownBlock) v443 t440) ∧ Aside0 (Kd.R k74 74 wc w.heap.size (fun k_ => some k_ ≠ (v443 : Value).ownBlock) v448 t445) ∧ Aside0 (Below w.heap.size w wc))
  case first =>
   have H := HC5.out
   clear HC5
   replace H := Option.bind_eq_some_iff.mp H
   obtain ⟨t450, A80, H⟩ := H
   try dsimp only at H
   have A8 := Aside0.mk A80
   clear A80
   by_cases c9 : t450 = true
   ·subst c9
    have H1 := H
    rw [if_pos rfl] at H1
    clear H
    have H := H1
    clear H1
    by_cases c10 : t446 = t441
    ·rw [if_pos c10] at H
     have c10b0 : (t446 == t441) = true := beq_iff_eq.mpr c10
     have c10b1 : (t446 != t441) = false := bne_eq_false_iff_eq.mpr c10
     clear c10
     (first | rw [c10b0] | (simp only [i64_w, i32_w]; rw [c10b0]) | skip)
     have H' := Aside0.mk H
     clear H
     obtain ⟨Ao11, co11, eo11⟩ := Kd.R_slice HO449.out
     subst eo11
     obtain ⟨Ao12, co12, eo12⟩ := Kd.R_slice HO444.out
     subst eo12
     go_wp2_with (first | ((with_reducible refine gate_callee (f := 14) rfl ?_); refine goesL_ (some 31) rfl rfl Tryz.func14 (by kernel_rfl) rfl #[.slice Ao11 t445.length co11, .slice Ao12 t440.length co12] rfl (by (try simp only [List.map_toArray, List.map_cons, List.map_nil]); first | done | rfl | (simp only [List.length_drop, List.length_take]; rfl)) ?_; (with_reducible refine (laws_eqItemS.calls k _ _ t445 _ _ t440 true _ ?side1 ?side2 ?side3 ?side4 A8.out).mono ?_); (case side1 => repeat (first | exact (Kd.R_reads' HO449.out).2.2 | (with_reducible refine Kd.C_alloc ?_ _) | (with_reducible refine Kd.C_drewN ?_ _) | (with_reducible refine Kd.C_drew ?_))); (case side2 => exact (Kd.R_reads' HO449.out).2.1); (case side3 => repeat (first | exact (Kd.R_reads' HO444.out).2.2 | (with_reducible refine Kd.C_alloc ?_ _) | (with_reducible refine Kd.C_drewN ?_ _) | (with_reducible refine Kd.C_drew ?_))); (case side4 => exact (Kd.R_reads' HO444.out).2.1); rintro e w13 ⟨rfl, hb⟩; refine ⟨_, rfl, ?_⟩; have n0_ := Aside0.mk (Kd.R_below (by (with_reducible repeat (first | apply Kd.R_alloc | apply Kd.R_drewN | apply Kd.R_drew)); exact HO444.out) hb); have n1_ := Aside0.mk (Kd.R_below (by (with_reducible repeat (first | apply Kd.R_alloc | apply Kd.R_drewN | apply Kd.R_drew)); exact HO449.out) hb); have n2_ := Aside0.mk (below_step (Gtr.bw HB.out) hb); clear HO444; clear HO449; clear HB; have HO444 := n0_; have HO449 := n1_; have HB := n2_; clear n0_ n1_ n2_; (try clear hb); (try clear hb2); (try clear hk); (try clear hi)))
     go_meet
     case rel => exact ⟨_, ((t447 != t442)), (by first | rfl | (simp; done) | (simp [*]; done)), H', ⟨by first | omega | exact Nat.le_refl _⟩, ⟨by (with_reducible repeat (first | apply Kd.R_alloc | apply Kd.R_drewN | apply Kd.R_drew)); exact Kd.R_mono HO444.out (fun _ hk => hk.2)⟩, ⟨by (with_reducible repeat (first | apply Kd.R_alloc | apply Kd.R_drewN | apply Kd.R_drew)); exact Kd.R_mono HO449.out (fun _ hk => hk.2)⟩, ⟨(Gtr.bw HB.out)⟩⟩
    ·rw [if_neg c10] at H
     have c10b0 : (t446 == t441) = false := beq_eq_false_iff_ne.mpr c10
     have c10b1 : (t446 != t441) = true := bne_iff_ne.mpr c10
     (first | rw [c10b0] | (simp only [i64_w, i32_w]; rw [c10b0]) | skip)
     have H' := Aside0.mk H
     clear H
     obtain ⟨Ao14, co14, eo14⟩ := Kd.R_slice HO449.out
     subst eo14
     obtain ⟨Ao15, co15, eo15⟩ := Kd.R_slice HO444.out
     subst eo15
     go_wp2_with (first | ((with_reducible refine gate_callee (f := 14) rfl ?_); refine goesL_ (some 31) rfl rfl Tryz.func14 (by kernel_rfl) rfl #[.slice Ao14 t445.length co14, .slice Ao15 t440.length co15] rfl (by (try simp only [List.map_toArray, List.map_cons, List.map_nil]); first | done | rfl | (simp only [List.length_drop, List.length_take]; rfl)) ?_; (with_reducible refine (laws_eqItemS.calls k _ _ t445 _ _ t440 true _ ?side1 ?side2 ?side3 ?side4 A8.out).mono ?_); (case side1 => repeat (first | exact (Kd.R_reads' HO449.out).2.2 | (with_reducible refine Kd.C_alloc ?_ _) | (with_reducible refine Kd.C_drewN ?_ _) | (with_reducible refine Kd.C_drew ?_))); (case side2 => exact (Kd.R_reads' HO449.out).2.1); (case side3 => repeat (first | exact (Kd.R_reads' HO444.out).2.2 | (with_reducible refine Kd.C_alloc ?_ _) | (with_reducible refine Kd.C_drewN ?_ _) | (with_reducible refine Kd.C_drew ?_))); (case side4 => exact (Kd.R_reads' HO444.out).2.1); rintro e w16 ⟨rfl, hb⟩; refine ⟨_, rfl, ?_⟩; have n0_ := Aside0.mk (Kd.R_below (by (with_reducible repeat (first | apply Kd.R_alloc | apply Kd.R_drewN | apply Kd.R_drew)); exact HO444.out) hb); have n1_ := Aside0.mk (Kd.R_below (by (with_reducible repeat (first | apply Kd.R_alloc | apply Kd.R_drewN | apply Kd.R_drew)); exact HO449.out) hb); have n2_ := Aside0.mk (below_step (Gtr.bw HB.out) hb); clear HO444; clear HO449; clear HB; have HO444 := n0_; have HO449 := n1_; have HB := n2_; clear n0_ n1_ n2_; (try clear hb); (try clear hb2); (try clear hk); (try clear hi)))
     go_meet
     case rel => exact ⟨_, (true), (by first | rfl | (simp; done) | (simp [*]; done)), H', ⟨by first | omega | exact Nat.le_refl _⟩, ⟨by (with_reducible repeat (first | apply Kd.R_alloc | apply Kd.R_drewN | apply Kd.R_drew)); exact Kd.R_mono HO444.out (fun _ hk => hk.2)⟩, ⟨by (with_reducible repeat (first | apply Kd.R_alloc | apply Kd.R_drewN | apply Kd.R_drew)); exact Kd.R_mono HO449.out (fun _ hk => hk.2)⟩, ⟨(Gtr.bw HB.out)⟩⟩
   ·replace c9 := Bool.eq_false_iff.mpr c9
    subst c9
    have H1 : (laws_FnExactReadItems.j0 k a0 t440 t441 t442 t445 true) = some r := by rw [if_neg (show ¬ (false = true) by decide)] at H; exact H
    clear H
    have H := H1
    clear H1
    have H' := Aside0.mk H
    clear H
    obtain ⟨Ao17, co17, eo17⟩ := Kd.R_slice HO449.out
    subst eo17
    obtain ⟨Ao18, co18, eo18⟩ := Kd.R_slice HO444.out
    subst eo18
    go_wp2_with (first | ((with_reducible refine gate_callee (f := 14) rfl ?_); refine goesL_ (some 31) rfl rfl Tryz.func14 (by kernel_rfl) rfl #[.slice Ao17 t445.length co17, .slice Ao18 t440.length co18] rfl (by (try simp only [List.map_toArray, List.map_cons, List.map_nil]); first | done | rfl | (simp only [List.length_drop, List.length_take]; rfl)) ?_; (with_reducible refine (laws_eqItemS.calls k _ _ t445 _ _ t440 false _ ?side1 ?side2 ?side3 ?side4 A8.out).mono ?_); (case side1 => repeat (first | exact (Kd.R_reads' HO449.out).2.2 | (with_reducible refine Kd.C_alloc ?_ _) | (with_reducible refine Kd.C_drewN ?_ _) | (with_reducible refine Kd.C_drew ?_))); (case side2 => exact (Kd.R_reads' HO449.out).2.1); (case side3 => repeat (first | exact (Kd.R_reads' HO444.out).2.2 | (with_reducible refine Kd.C_alloc ?_ _) | (with_reducible refine Kd.C_drewN ?_ _) | (with_reducible refine Kd.C_drew ?_))); (case side4 => exact (Kd.R_reads' HO444.out).2.1); rintro e w19 ⟨rfl, hb⟩; refine ⟨_, rfl, ?_⟩; have n0_ := Aside0.mk (Kd.R_below (by (with_reducible repeat (first | apply Kd.R_alloc | apply Kd.R_drewN | apply Kd.R_drew)); exact HO444.out) hb); have n1_ := Aside0.mk (Kd.R_below (by (with_reducible repeat (first | apply Kd.R_alloc | apply Kd.R_drewN | apply Kd.R_drew)); exact HO449.out) hb); have n2_ := Aside0.mk (below_step (Gtr.bw HB.out) hb); clear HO444; clear HO449; clear HB; have HO444 := n0_; have HO449 := n1_; have HB := n2_; clear n0_ n1_ n2_; (try clear hb); (try clear hb2); (try clear hk); (try clear hi)))
    go_meet
    case rel => exact ⟨_, (true), (by first | rfl | (simp; done) | (simp [*]; done)), H', ⟨by first | omega | exact Nat.le_refl _⟩, ⟨by (with_reducible repeat (first | apply Kd.R_alloc | apply Kd.R_drewN | apply Kd.R_drew)); exact Kd.R_mono HO444.out (fun _ hk => hk.2)⟩, ⟨by (with_reducible repeat (first | apply Kd.R_alloc | apply Kd.R_drewN | apply Kd.R_drew)); exact Kd.R_mono HO449.out (fun _ hk => hk.2)⟩, ⟨(Gtr.bw HB.out)⟩⟩
  case rest =>
   clear HC5
   (try clear c1);(try clear c2);(try clear c2b0);(try clear c2b1);(try clear p2);(try clear c4);(try clear c9);(try clear c10);(try clear c10b0);(try clear c10b1);(try clear c14);(try clear c15);(try clear c16)
   obtain ⟨kq, x42_4, rfl, HA, HJ4, HO_3, HO_6, HB⟩ := hcut
   cases kq with
   | zero => exact absurd HA.out (by simp [laws_FnExactReadItems.j0])
   | succ kj4 =>
    have H := HA.out
    clear HA
    simp only [laws_FnExactReadItems.j0] at H
    by_cases c20 : x42_4 = true
    ·subst c20
     have H1 := H
     rw [if_pos rfl] at H1
     clear H
     have H := H1
     clear H1
     obtain rfl := Option.some.inj H
     go_wp2
     go_ret
     exact ⟨by first | rfl | (simp [errW_none, errW_some] <;> rfl) | (simp [*, errW_none, errW_some] <;> rfl), (Gtr.bw HB.out)⟩
    ·replace c20 := Bool.eq_false_iff.mpr c20
     subst c20
     have H1 : ((laws_markItemS.f kj4 t445 1).bind fun bt451 => ((laws_heldItemS.f kj4 bt451.2 1).bind fun t453 => (if t453 < 0 then (some false) else (if t453 = bt451.1 then ((impl_ReadItems.f kj4 a0).bind fun bt454 => ((laws_eqItemS.f kj4 bt454.1 t440).bind fun t459 => (if t459 = true then (if bt454.2.1 = t441 then (laws_FnExactReadItems.j1 kj4 bt451.2 bt451.1 (bt454.2.2 != t442)) else (laws_FnExactReadItems.j1 kj4 bt451.2 bt451.1 true)) else (laws_FnExactReadItems.j1 kj4 bt451.2 bt451.1 true)))) else (some false))))) = some r := by rw [if_neg (show ¬ (false = true) by decide)] at H; exact H
     clear H
     have H := H1
     clear H1
     replace H := Option.bind_eq_some_iff.mp H
     obtain ⟨⟨t451, t452⟩, A210, H⟩ := H
     try dsimp only at H
     have A21 := Aside0.mk A210
     clear A210
     replace H := Option.bind_eq_some_iff.mp H
     obtain ⟨t453, A220, H⟩ := H
     try dsimp only at H
     have A22 := Aside0.mk A220
     clear A220
     by_cases c23 : t453 < 0
     ·rw [if_pos c23] at H
      have c23b0 : decide (t453 < 0) = true := decide_eq_true c23
      clear c23
      obtain rfl := Option.some.inj H
      obtain ⟨Ao24, co24, eo24⟩ := Kd.R_slice HO_6.out
      subst eo24
      go_wp2_with (first | ((with_reducible refine gate_callee (f := 17) rfl ?_); refine goesL_ (some 45) rfl rfl Tryz.func17 (by kernel_rfl) rfl #[.slice Ao24 t445.length co24, .int .i64 1] rfl (by (try simp only [List.map_toArray, List.map_cons, List.map_nil]); first | done | rfl | (simp only [List.length_drop, List.length_take]; rfl)) ?_; (with_reducible refine (laws_markItemS.calls kj4 (fun k_ => some k_ = (.slice Ao24 t445.length co24 : Value).ownBlock) (.slice Ao24 t445.length co24) t445 1 t451 t452 w _ ?side1 ?side2 A21.out).mono ?_); (case side1 => repeat (first | (with_reducible first | exact HB.out | apply below_alloc | apply pw_below_drewN | apply below_drew1) | exact HB.out)); (case side2 => exact Kd.R_tight rfl HO_6.out); rintro e w25 ⟨rfl, hy0, hb, hkp⟩; refine ⟨_, rfl, ?_⟩; have n0_ := Aside0.mk (Kd.R_mono (ok' := fun k_ => some k_ ≠ (.slice Ao24 t445.length co24 : Value).ownBlock) (Kd.R_keptB (HO_3.out) hkp (fun k_ hk_ hs_ => (hk_) hs_)) (fun k_ hk_ => hk_.1)); have n1_ := Aside0.mk (Kd.R_reok rfl hy0 (fun k_ e_ => HO_6.out.1 k_ e_)); have n2_ := Aside0.mk (hb); clear HO_3; clear HO_6; clear HB; have HO_3 := n0_; have HO_6 := n1_; have HB := n2_; clear n0_ n1_ n2_; (try clear hb); (try clear hkp); (try clear hy0)) | ((with_reducible refine gate_callee (f := 18) rfl ?_); refine goesL_ (some 48) rfl rfl Tryz.func18 (by kernel_rfl) rfl #[.slice Ao24 t452.length co24, .int .i64 1] rfl (by (try simp only [List.map_toArray, List.map_cons, List.map_nil]); first | done | (rw [show t452.length = t445.length from (Kd.R_reads' HO_6.out).1.symm] <;> rfl) | rfl | (simp only [List.length_drop, List.length_take]; rfl)) ?_; (with_reducible refine (laws_heldItemS.calls kj4 _ _ t452 1 t453 _ ?side1 ?side2 A22.out).mono ?_); (case side1 => repeat (first | exact (Kd.R_reads' HO_6.out).2.2 | (with_reducible refine Kd.C_alloc ?_ _) | (with_reducible refine Kd.C_drewN ?_ _) | (with_reducible refine Kd.C_drew ?_))); (case side2 => rw [show t452.length = t445.length from (Kd.R_reads' HO_6.out).1.symm]; exact (Kd.R_reads' HO_6.out).2.1); rintro e w26 ⟨rfl, hb⟩; refine ⟨_, rfl, ?_⟩; have n0_ := Aside0.mk (Kd.R_below (by (with_reducible repeat (first | apply Kd.R_alloc | apply Kd.R_drewN | apply Kd.R_drew)); exact HO_3.out) hb); have n1_ := Aside0.mk (Kd.R_below (by (with_reducible repeat (first | apply Kd.R_alloc | apply Kd.R_drewN | apply Kd.R_drew)); exact HO_6.out) hb); have n2_ := Aside0.mk (below_step (Gtr.bw HB.out) hb); clear HO_3; clear HO_6; clear HB; have HO_3 := n0_; have HO_6 := n1_; have HB := n2_; clear n0_ n1_ n2_; (try clear hb); (try clear hb2); (try clear hk); (try clear hi)))
      go_ret
      exact ⟨by first | rfl | (simp [errW_none, errW_some] <;> rfl) | (simp [*, errW_none, errW_some] <;> rfl), (Gtr.bw HB.out)⟩
     ·rw [if_neg c23] at H
      have c23b0 : decide (t453 < 0) = false := decide_eq_false c23
      clear c23
      by_cases c27 : t453 = t451
      ·rw [if_pos c27] at H
       have c27b0 : (t453 == t451) = true := beq_iff_eq.mpr c27
       have c27b1 : (t453 != t451) = false := bne_eq_false_iff_eq.mpr c27
       clear c27
       replace H := Option.bind_eq_some_iff.mp H
       obtain ⟨⟨t454, t455, t456⟩, A280, H⟩ := H
       try dsimp only at H
       have A28 := Aside0.mk A280
       clear A280
       have HC29 := Aside0.mk H
       clear H
       obtain ⟨Ao30, co30, eo30⟩ := Kd.R_slice HO_6.out
       subst eo30
       go_upto_region 16 with (first | ((with_reducible refine gate_callee (f := 17) rfl ?_); refine goesL_ (some 45) rfl rfl Tryz.func17 (by kernel_rfl) rfl #[.slice Ao30 t445.length co30, .int .i64 1] rfl (by (try simp only [List.map_toArray, List.map_cons, List.map_nil]); first | done | rfl | (simp only [List.length_drop, List.length_take]; rfl)) ?_; (with_reducible refine (laws_markItemS.calls kj4 (fun k_ => some k_ = (.slice Ao30 t445.length co30 : Value).ownBlock) (.slice Ao30 t445.length co30) t445 1 t451 t452 w _ ?side1 ?side2 A21.out).mono ?_); (case side1 => repeat (first | (with_reducible first | exact HB.out | apply below_alloc | apply pw_below_drewN | apply below_drew1) | exact HB.out)); (case side2 => exact Kd.R_tight rfl HO_6.out); rintro e w31 ⟨rfl, hy0, hb, hkp⟩; refine ⟨_, rfl, ?_⟩; have n0_ := Aside0.mk (Kd.R_mono (ok' := fun k_ => some k_ ≠ (.slice Ao30 t445.length co30 : Value).ownBlock) (Kd.R_keptB (HO_3.out) hkp (fun k_ hk_ hs_ => (hk_) hs_)) (fun k_ hk_ => hk_.1)); have n1_ := Aside0.mk (Kd.R_reok rfl hy0 (fun k_ e_ => HO_6.out.1 k_ e_)); have n2_ := Aside0.mk (hb); clear HO_3; clear HO_6; clear HB; have HO_3 := n0_; have HO_6 := n1_; have HB := n2_; clear n0_ n1_ n2_; (try clear hb); (try clear hkp); (try clear hy0)) | ((with_reducible refine gate_callee (f := 18) rfl ?_); refine goesL_ (some 48) rfl rfl Tryz.func18 (by kernel_rfl) rfl #[.slice Ao30 t452.length co30, .int .i64 1] rfl (by (try simp only [List.map_toArray, List.map_cons, List.map_nil]); first | done | (rw [show t452.length = t445.length from (Kd.R_reads' HO_6.out).1.symm] <;> rfl) | rfl | (simp only [List.length_drop, List.length_take]; rfl)) ?_; (with_reducible refine (laws_heldItemS.calls kj4 _ _ t452 1 t453 _ ?side1 ?side2 A22.out).mono ?_); (case side1 => repeat (first | exact (Kd.R_reads' HO_6.out).2.2 | (with_reducible refine Kd.C_alloc ?_ _) | (with_reducible refine Kd.C_drewN ?_ _) | (with_reducible refine Kd.C_drew ?_))); (case side2 => rw [show t452.length = t445.length from (Kd.R_reads' HO_6.out).1.symm]; exact (Kd.R_reads' HO_6.out).2.1); rintro e w32 ⟨rfl, hb⟩; refine ⟨_, rfl, ?_⟩; have n0_ := Aside0.mk (Kd.R_below (by (with_reducible repeat (first | apply Kd.R_alloc | apply Kd.R_drewN | apply Kd.R_drew)); exact HO_3.out) hb); have n1_ := Aside0.mk (Kd.R_below (by (with_reducible repeat (first | apply Kd.R_alloc | apply Kd.R_drewN | apply Kd.R_drew)); exact HO_6.out) hb); have n2_ := Aside0.mk (below_step (Gtr.bw HB.out) hb); clear HO_3; clear HO_6; clear HB; have HO_3 := n0_; have HO_6 := n1_; have HB := n2_; clear n0_ n1_ n2_; (try clear hb); (try clear hb2); (try clear hk); (try clear hi)) | ((with_reducible refine gate_callee (f := 16) rfl ?_); refine goesL_ (some 56) rfl rfl Tryz.func16 (by kernel_rfl) rfl #[.string a0] rfl (by (try simp only [List.map_toArray, List.map_cons, List.map_nil]); first | done | rfl | (simp only [List.length_drop, List.length_take]; rfl)) ?_; (with_reducible refine (impl_ReadItems.calls kj4 a0 t454 t455 t456 _ A28.out ?sideEnvR).mono ?_); (case sideEnvR => exact EnvR.below hEnvR (Gtr.bw HB.out)); rintro e w33 ⟨v457, rfl, ho0, hb⟩; refine ⟨_, rfl, ?_⟩; have n0_ := Aside0.mk (Kd.R_elder' (by (with_reducible repeat (first | apply Kd.R_alloc | apply Kd.R_drewN | apply Kd.R_drew)); exact HO_3.out) (Kd.R_base ho0) hb); have n1_ := Aside0.mk (Kd.R_elder' (by (with_reducible repeat (first | apply Kd.R_alloc | apply Kd.R_drewN | apply Kd.R_drew)); exact HO_6.out) (Kd.R_base ho0) hb); have n2_ := Aside0.mk (Kd.R_lower (Kd.R_new' (Kd.R_new' ho0 (Kd.R_lt (by (with_reducible repeat (first | apply Kd.R_alloc | apply Kd.R_drewN | apply Kd.R_drew)); exact HO_3.out))) (Kd.R_lt (by (with_reducible repeat (first | apply Kd.R_alloc | apply Kd.R_drewN | apply Kd.R_drew)); exact HO_6.out))) (below_size (Gtr.bw HB.out))); have n3_ := Aside0.mk (below_step (Gtr.bw HB.out) hb); clear HO_3; clear HO_6; clear HB; have HO_3 := n0_; have HO_6 := n1_; have HO458 := n2_; have HB := n3_; clear n0_ n1_ n2_ n3_; (try clear hb); (try clear hb2); (try clear hk); (try clear hi); (try clear ho0)))
       (try simp only [Act.put, List.setIfInBounds_toArray, List.set_cons_zero, List.set_cons_succ])
       go_cut [73] (fun v73 wc => ∃ (kq : Nat) (x73_28 : Bool), v73 = .bool x73_28 ∧ Aside0 (laws_FnExactReadItems.j1 kq t452 t451 x73_28 = some r) ∧ Aside0 (kq ≤ kj4) ∧ Aside0 (Kd.R k74 74 wc w.heap.size (fun _ => True) (.slice Ao30 t445.length co30) t452) ∧ Aside0 (Below w.heap.size w wc))
       case first =>
        have H := HC29.out
        clear HC29
        replace H := Option.bind_eq_some_iff.mp H
        obtain ⟨t459, A340, H⟩ := H
        try dsimp only at H
        have A34 := Aside0.mk A340
        clear A340
        by_cases c35 : t459 = true
        ·subst c35
         have H1 := H
         rw [if_pos rfl] at H1
         clear H
         have H := H1
         clear H1
         by_cases c36 : t455 = t441
         ·rw [if_pos c36] at H
          have c36b0 : (t455 == t441) = true := beq_iff_eq.mpr c36
          have c36b1 : (t455 != t441) = false := bne_eq_false_iff_eq.mpr c36
          clear c36
          (first | rw [c36b0] | (simp only [i64_w, i32_w]; rw [c36b0]) | skip)
          have H' := Aside0.mk H
          clear H
          obtain ⟨Ao37, co37, eo37⟩ := Kd.R_slice HO458.out
          subst eo37
          obtain ⟨Ao38, co38, eo38⟩ := Kd.R_slice HO_3.out
          subst eo38
          go_wp2_with (first | ((with_reducible refine gate_callee (f := 14) rfl ?_); refine goesL_ (some 62) rfl rfl Tryz.func14 (by kernel_rfl) rfl #[.slice Ao37 t454.length co37, .slice Ao38 t440.length co38] rfl (by (try simp only [List.map_toArray, List.map_cons, List.map_nil]); first | done | rfl | (simp only [List.length_drop, List.length_take]; rfl)) ?_; (with_reducible refine (laws_eqItemS.calls kj4 _ _ t454 _ _ t440 true _ ?side1 ?side2 ?side3 ?side4 A34.out).mono ?_); (case side1 => repeat (first | exact (Kd.R_reads' HO458.out).2.2 | (with_reducible refine Kd.C_alloc ?_ _) | (with_reducible refine Kd.C_drewN ?_ _) | (with_reducible refine Kd.C_drew ?_))); (case side2 => exact (Kd.R_reads' HO458.out).2.1); (case side3 => repeat (first | exact (Kd.R_reads' HO_3.out).2.2 | (with_reducible refine Kd.C_alloc ?_ _) | (with_reducible refine Kd.C_drewN ?_ _) | (with_reducible refine Kd.C_drew ?_))); (case side4 => exact (Kd.R_reads' HO_3.out).2.1); rintro e w39 ⟨rfl, hb⟩; refine ⟨_, rfl, ?_⟩; have n0_ := Aside0.mk (Kd.R_below (by (with_reducible repeat (first | apply Kd.R_alloc | apply Kd.R_drewN | apply Kd.R_drew)); exact HO_3.out) hb); have n1_ := Aside0.mk (Kd.R_below (by (with_reducible repeat (first | apply Kd.R_alloc | apply Kd.R_drewN | apply Kd.R_drew)); exact HO_6.out) hb); have n2_ := Aside0.mk (Kd.R_below (by (with_reducible repeat (first | apply Kd.R_alloc | apply Kd.R_drewN | apply Kd.R_drew)); exact HO458.out) hb); have n3_ := Aside0.mk (below_step (Gtr.bw HB.out) hb); clear HO_3; clear HO_6; clear HO458; clear HB; have HO_3 := n0_; have HO_6 := n1_; have HO458 := n2_; have HB := n3_; clear n0_ n1_ n2_ n3_; (try clear hb); (try clear hb2); (try clear hk); (try clear hi)))
          go_meet
          case rel => exact ⟨_, ((t456 != t442)), (by first | rfl | (simp; done) | (simp [*]; done)), H', ⟨by have := HJ4.out; first | omega | exact Nat.le_refl _⟩, ⟨by (with_reducible repeat (first | apply Kd.R_alloc | apply Kd.R_drewN | apply Kd.R_drew)); exact Kd.R_mono HO_6.out (fun _ hk => trivial)⟩, ⟨(Gtr.bw HB.out)⟩⟩
         ·rw [if_neg c36] at H
          have c36b0 : (t455 == t441) = false := beq_eq_false_iff_ne.mpr c36
          have c36b1 : (t455 != t441) = true := bne_iff_ne.mpr c36
          (first | rw [c36b0] | (simp only [i64_w, i32_w]; rw [c36b0]) | skip)
          have H' := Aside0.mk H
          clear H
          obtain ⟨Ao40, co40, eo40⟩ := Kd.R_slice HO458.out
          subst eo40
          obtain ⟨Ao41, co41, eo41⟩ := Kd.R_slice HO_3.out
          subst eo41
          go_wp2_with (first | ((with_reducible refine gate_callee (f := 14) rfl ?_); refine goesL_ (some 62) rfl rfl Tryz.func14 (by kernel_rfl) rfl #[.slice Ao40 t454.length co40, .slice Ao41 t440.length co41] rfl (by (try simp only [List.map_toArray, List.map_cons, List.map_nil]); first | done | rfl | (simp only [List.length_drop, List.length_take]; rfl)) ?_; (with_reducible refine (laws_eqItemS.calls kj4 _ _ t454 _ _ t440 true _ ?side1 ?side2 ?side3 ?side4 A34.out).mono ?_); (case side1 => repeat (first | exact (Kd.R_reads' HO458.out).2.2 | (with_reducible refine Kd.C_alloc ?_ _) | (with_reducible refine Kd.C_drewN ?_ _) | (with_reducible refine Kd.C_drew ?_))); (case side2 => exact (Kd.R_reads' HO458.out).2.1); (case side3 => repeat (first | exact (Kd.R_reads' HO_3.out).2.2 | (with_reducible refine Kd.C_alloc ?_ _) | (with_reducible refine Kd.C_drewN ?_ _) | (with_reducible refine Kd.C_drew ?_))); (case side4 => exact (Kd.R_reads' HO_3.out).2.1); rintro e w42 ⟨rfl, hb⟩; refine ⟨_, rfl, ?_⟩; have n0_ := Aside0.mk (Kd.R_below (by (with_reducible repeat (first | apply Kd.R_alloc | apply Kd.R_drewN | apply Kd.R_drew)); exact HO_3.out) hb); have n1_ := Aside0.mk (Kd.R_below (by (with_reducible repeat (first | apply Kd.R_alloc | apply Kd.R_drewN | apply Kd.R_drew)); exact HO_6.out) hb); have n2_ := Aside0.mk (Kd.R_below (by (with_reducible repeat (first | apply Kd.R_alloc | apply Kd.R_drewN | apply Kd.R_drew)); exact HO458.out) hb); have n3_ := Aside0.mk (below_step (Gtr.bw HB.out) hb); clear HO_3; clear HO_6; clear HO458; clear HB; have HO_3 := n0_; have HO_6 := n1_; have HO458 := n2_; have HB := n3_; clear n0_ n1_ n2_ n3_; (try clear hb); (try clear hb2); (try clear hk); (try clear hi)))
          go_meet
          case rel => exact ⟨_, (true), (by first | rfl | (simp; done) | (simp [*]; done)), H', ⟨by have := HJ4.out; first | omega | exact Nat.le_refl _⟩, ⟨by (with_reducible repeat (first | apply Kd.R_alloc | apply Kd.R_drewN | apply Kd.R_drew)); exact Kd.R_mono HO_6.out (fun _ hk => trivial)⟩, ⟨(Gtr.bw HB.out)⟩⟩
        ·replace c35 := Bool.eq_false_iff.mpr c35
         subst c35
         have H1 : (laws_FnExactReadItems.j1 kj4 t452 t451 true) = some r := by rw [if_neg (show ¬ (false = true) by decide)] at H; exact H
         clear H
         have H := H1
         clear H1
         have H' := Aside0.mk H
         clear H
         obtain ⟨Ao43, co43, eo43⟩ := Kd.R_slice HO458.out
         subst eo43
         obtain ⟨Ao44, co44, eo44⟩ := Kd.R_slice HO_3.out
         subst eo44
         go_wp2_with (first | ((with_reducible refine gate_callee (f := 14) rfl ?_); refine goesL_ (some 62) rfl rfl Tryz.func14 (by kernel_rfl) rfl #[.slice Ao43 t454.length co43, .slice Ao44 t440.length co44] rfl (by (try simp only [List.map_toArray, List.map_cons, List.map_nil]); first | done | rfl | (simp only [List.length_drop, List.length_take]; rfl)) ?_; (with_reducible refine (laws_eqItemS.calls kj4 _ _ t454 _ _ t440 false _ ?side1 ?side2 ?side3 ?side4 A34.out).mono ?_); (case side1 => repeat (first | exact (Kd.R_reads' HO458.out).2.2 | (with_reducible refine Kd.C_alloc ?_ _) | (with_reducible refine Kd.C_drewN ?_ _) | (with_reducible refine Kd.C_drew ?_))); (case side2 => exact (Kd.R_reads' HO458.out).2.1); (case side3 => repeat (first | exact (Kd.R_reads' HO_3.out).2.2 | (with_reducible refine Kd.C_alloc ?_ _) | (with_reducible refine Kd.C_drewN ?_ _) | (with_reducible refine Kd.C_drew ?_))); (case side4 => exact (Kd.R_reads' HO_3.out).2.1); rintro e w45 ⟨rfl, hb⟩; refine ⟨_, rfl, ?_⟩; have n0_ := Aside0.mk (Kd.R_below (by (with_reducible repeat (first | apply Kd.R_alloc | apply Kd.R_drewN | apply Kd.R_drew)); exact HO_3.out) hb); have n1_ := Aside0.mk (Kd.R_below (by (with_reducible repeat (first | apply Kd.R_alloc | apply Kd.R_drewN | apply Kd.R_drew)); exact HO_6.out) hb); have n2_ := Aside0.mk (Kd.R_below (by (with_reducible repeat (first | apply Kd.R_alloc | apply Kd.R_drewN | apply Kd.R_drew)); exact HO458.out) hb); have n3_ := Aside0.mk (below_step (Gtr.bw HB.out) hb); clear HO_3; clear HO_6; clear HO458; clear HB; have HO_3 := n0_; have HO_6 := n1_; have HO458 := n2_; have HB := n3_; clear n0_ n1_ n2_ n3_; (try clear hb); (try clear hb2); (try clear hk); (try clear hi)))
         go_meet
         case rel => exact ⟨_, (true), (by first | rfl | (simp; done) | (simp [*]; done)), H', ⟨by have := HJ4.out; first | omega | exact Nat.le_refl _⟩, ⟨by (with_reducible repeat (first | apply Kd.R_alloc | apply Kd.R_drewN | apply Kd.R_drew)); exact Kd.R_mono HO_6.out (fun _ hk => trivial)⟩, ⟨(Gtr.bw HB.out)⟩⟩
       case rest =>
        clear HC29
        (try clear c1);(try clear c2);(try clear c2b0);(try clear c2b1);(try clear p2);(try clear c3);(try clear c4);(try clear c9);(try clear c10);(try clear c10b0);(try clear c10b1);(try clear c14);(try clear c15);(try clear c16);(try clear c17);(try clear c18);(try clear c20);(try clear c23);(try clear c23b0);(try clear c27);(try clear c27b0);(try clear c27b1);(try clear c35);(try clear c36);(try clear c36b0);(try clear c36b1);(try clear p2)
        obtain ⟨kq, x73_28, rfl, HA, HJ28, HO_6, HB⟩ := hcut
        have hl6_28 := (Kd.R_reads' HO_6.out).1
        rw [hl6_28] at HO_6
        (try simp only [hl6_28])
        cases kq with
        | zero => exact absurd HA.out (by simp [laws_FnExactReadItems.j1])
        | succ kj28 =>
         have H := HA.out
         clear HA
         simp only [laws_FnExactReadItems.j1] at H
         by_cases c46 : x73_28 = true
         ·subst c46
          have H1 := H
          rw [if_pos rfl] at H1
          clear H
          have H := H1
          clear H1
          obtain rfl := Option.some.inj H
          go_wp2
          go_ret
          exact ⟨by first | rfl | (simp [errW_none, errW_some] <;> rfl) | (simp [*, errW_none, errW_some] <;> rfl), (Gtr.bw HB.out)⟩
         ·replace c46 := Bool.eq_false_iff.mpr c46
          subst c46
          have H1 : ((laws_heldItemS.f kj28 t452 1).bind fun t460 => (if t460 < 0 then (some false) else (if t460 = t451 then (some true) else (some false)))) = some r := by rw [if_neg (show ¬ (false = true) by decide)] at H; exact H
          clear H
          have H := H1
          clear H1
          replace H := Option.bind_eq_some_iff.mp H
          obtain ⟨t460, A470, H⟩ := H
          try dsimp only at H
          have A47 := Aside0.mk A470
          clear A470
          by_cases c48 : t460 < 0
          ·rw [if_pos c48] at H
           have c48b0 : decide (t460 < 0) = true := decide_eq_true c48
           clear c48
           obtain rfl := Option.some.inj H
           go_wp2_with (first | ((with_reducible refine gate_callee (f := 18) rfl ?_); refine goesL_ (some 76) rfl rfl Tryz.func18 (by kernel_rfl) rfl #[.slice Ao30 t452.length co30, .int .i64 1] rfl (by (try simp only [List.map_toArray, List.map_cons, List.map_nil]); first | done | rfl | (simp only [List.length_drop, List.length_take]; rfl)) ?_; (with_reducible refine (laws_heldItemS.calls kj28 _ _ t452 1 t460 _ ?side1 ?side2 A47.out).mono ?_); (case side1 => repeat (first | exact (Kd.R_reads' HO_6.out).2.2 | (with_reducible refine Kd.C_alloc ?_ _) | (with_reducible refine Kd.C_drewN ?_ _) | (with_reducible refine Kd.C_drew ?_))); (case side2 => exact (Kd.R_reads' HO_6.out).2.1); rintro e w49 ⟨rfl, hb⟩; refine ⟨_, rfl, ?_⟩; have n0_ := Aside0.mk (Kd.R_below (by (with_reducible repeat (first | apply Kd.R_alloc | apply Kd.R_drewN | apply Kd.R_drew)); exact HO_6.out) hb); have n1_ := Aside0.mk (below_step (Gtr.bw HB.out) hb); clear HO_6; clear HB; have HO_6 := n0_; have HB := n1_; clear n0_ n1_; (try clear hb); (try clear hb2); (try clear hk); (try clear hi)))
           go_ret
           exact ⟨by first | rfl | (simp [errW_none, errW_some] <;> rfl) | (simp [*, errW_none, errW_some] <;> rfl), (Gtr.bw HB.out)⟩
          ·rw [if_neg c48] at H
           have c48b0 : decide (t460 < 0) = false := decide_eq_false c48
           clear c48
           by_cases c50 : t460 = t451
           ·rw [if_pos c50] at H
            have c50b0 : (t460 == t451) = true := beq_iff_eq.mpr c50
            have c50b1 : (t460 != t451) = false := bne_eq_false_iff_eq.mpr c50
            clear c50
            obtain rfl := Option.some.inj H
            go_wp2_with (first | ((with_reducible refine gate_callee (f := 18) rfl ?_); refine goesL_ (some 76) rfl rfl Tryz.func18 (by kernel_rfl) rfl #[.slice Ao30 t452.length co30, .int .i64 1] rfl (by (try simp only [List.map_toArray, List.map_cons, List.map_nil]); first | done | rfl | (simp only [List.length_drop, List.length_take]; rfl)) ?_; (with_reducible refine (laws_heldItemS.calls kj28 _ _ t452 1 t460 _ ?side1 ?side2 A47.out).mono ?_); (case side1 => repeat (first | exact (Kd.R_reads' HO_6.out).2.2 | (with_reducible refine Kd.C_alloc ?_ _) | (with_reducible refine Kd.C_drewN ?_ _) | (with_reducible refine Kd.C_drew ?_))); (case side2 => exact (Kd.R_reads' HO_6.out).2.1); rintro e w51 ⟨rfl, hb⟩; refine ⟨_, rfl, ?_⟩; have n0_ := Aside0.mk (Kd.R_below (by (with_reducible repeat (first | apply Kd.R_alloc | apply Kd.R_drewN | apply Kd.R_drew)); exact HO_6.out) hb); have n1_ := Aside0.mk (below_step (Gtr.bw HB.out) hb); clear HO_6; clear HB; have HO_6 := n0_; have HB := n1_; clear n0_ n1_; (try clear hb); (try clear hb2); (try clear hk); (try clear hi)))
            go_ret
            exact ⟨by first | rfl | (simp [errW_none, errW_some] <;> rfl) | (simp [*, errW_none, errW_some] <;> rfl), (Gtr.bw HB.out)⟩
           ·rw [if_neg c50] at H
            have c50b0 : (t460 == t451) = false := beq_eq_false_iff_ne.mpr c50
            have c50b1 : (t460 != t451) = true := bne_iff_ne.mpr c50
            obtain rfl := Option.some.inj H
            go_wp2_with (first | ((with_reducible refine gate_callee (f := 18) rfl ?_); refine goesL_ (some 76) rfl rfl Tryz.func18 (by kernel_rfl) rfl #[.slice Ao30 t452.length co30, .int .i64 1] rfl (by (try simp only [List.map_toArray, List.map_cons, List.map_nil]); first | done | rfl | (simp only [List.length_drop, List.length_take]; rfl)) ?_; (with_reducible refine (laws_heldItemS.calls kj28 _ _ t452 1 t460 _ ?side1 ?side2 A47.out).mono ?_); (case side1 => repeat (first | exact (Kd.R_reads' HO_6.out).2.2 | (with_reducible refine Kd.C_alloc ?_ _) | (with_reducible refine Kd.C_drewN ?_ _) | (with_reducible refine Kd.C_drew ?_))); (case side2 => exact (Kd.R_reads' HO_6.out).2.1); rintro e w52 ⟨rfl, hb⟩; refine ⟨_, rfl, ?_⟩; have n0_ := Aside0.mk (Kd.R_below (by (with_reducible repeat (first | apply Kd.R_alloc | apply Kd.R_drewN | apply Kd.R_drew)); exact HO_6.out) hb); have n1_ := Aside0.mk (below_step (Gtr.bw HB.out) hb); clear HO_6; clear HB; have HO_6 := n0_; have HB := n1_; clear n0_ n1_; (try clear hb); (try clear hb2); (try clear hk); (try clear hi)))
            go_ret
            exact ⟨by first | rfl | (simp [errW_none, errW_some] <;> rfl) | (simp [*, errW_none, errW_some] <;> rfl), (Gtr.bw HB.out)⟩
      ·rw [if_neg c27] at H
       have c27b0 : (t453 == t451) = false := beq_eq_false_iff_ne.mpr c27
       have c27b1 : (t453 != t451) = true := bne_iff_ne.mpr c27
       obtain rfl := Option.some.inj H
       obtain ⟨Ao53, co53, eo53⟩ := Kd.R_slice HO_6.out
       subst eo53
       go_wp2_with (first | ((with_reducible refine gate_callee (f := 17) rfl ?_); refine goesL_ (some 45) rfl rfl Tryz.func17 (by kernel_rfl) rfl #[.slice Ao53 t445.length co53, .int .i64 1] rfl (by (try simp only [List.map_toArray, List.map_cons, List.map_nil]); first | done | rfl | (simp only [List.length_drop, List.length_take]; rfl)) ?_; (with_reducible refine (laws_markItemS.calls kj4 (fun k_ => some k_ = (.slice Ao53 t445.length co53 : Value).ownBlock) (.slice Ao53 t445.length co53) t445 1 t451 t452 w _ ?side1 ?side2 A21.out).mono ?_); (case side1 => repeat (first | (with_reducible first | exact HB.out | apply below_alloc | apply pw_below_drewN | apply below_drew1) | exact HB.out)); (case side2 => exact Kd.R_tight rfl HO_6.out); rintro e w54 ⟨rfl, hy0, hb, hkp⟩; refine ⟨_, rfl, ?_⟩; have n0_ := Aside0.mk (Kd.R_mono (ok' := fun k_ => some k_ ≠ (.slice Ao53 t445.length co53 : Value).ownBlock) (Kd.R_keptB (HO_3.out) hkp (fun k_ hk_ hs_ => (hk_) hs_)) (fun k_ hk_ => hk_.1)); have n1_ := Aside0.mk (Kd.R_reok rfl hy0 (fun k_ e_ => HO_6.out.1 k_ e_)); have n2_ := Aside0.mk (hb); clear HO_3; clear HO_6; clear HB; have HO_3 := n0_; have HO_6 := n1_; have HB := n2_; clear n0_ n1_ n2_; (try clear hb); (try clear hkp); (try clear hy0)) | ((with_reducible refine gate_callee (f := 18) rfl ?_); refine goesL_ (some 48) rfl rfl Tryz.func18 (by kernel_rfl) rfl #[.slice Ao53 t452.length co53, .int .i64 1] rfl (by (try simp only [List.map_toArray, List.map_cons, List.map_nil]); first | done | (rw [show t452.length = t445.length from (Kd.R_reads' HO_6.out).1.symm] <;> rfl) | rfl | (simp only [List.length_drop, List.length_take]; rfl)) ?_; (with_reducible refine (laws_heldItemS.calls kj4 _ _ t452 1 t453 _ ?side1 ?side2 A22.out).mono ?_); (case side1 => repeat (first | exact (Kd.R_reads' HO_6.out).2.2 | (with_reducible refine Kd.C_alloc ?_ _) | (with_reducible refine Kd.C_drewN ?_ _) | (with_reducible refine Kd.C_drew ?_))); (case side2 => rw [show t452.length = t445.length from (Kd.R_reads' HO_6.out).1.symm]; exact (Kd.R_reads' HO_6.out).2.1); rintro e w55 ⟨rfl, hb⟩; refine ⟨_, rfl, ?_⟩; have n0_ := Aside0.mk (Kd.R_below (by (with_reducible repeat (first | apply Kd.R_alloc | apply Kd.R_drewN | apply Kd.R_drew)); exact HO_3.out) hb); have n1_ := Aside0.mk (Kd.R_below (by (with_reducible repeat (first | apply Kd.R_alloc | apply Kd.R_drewN | apply Kd.R_drew)); exact HO_6.out) hb); have n2_ := Aside0.mk (below_step (Gtr.bw HB.out) hb); clear HO_3; clear HO_6; clear HB; have HO_3 := n0_; have HO_6 := n1_; have HB := n2_; clear n0_ n1_ n2_; (try clear hb); (try clear hb2); (try clear hk); (try clear hi)))
       go_ret
       exact ⟨by first | rfl | (simp [errW_none, errW_some] <;> rfl) | (simp [*, errW_none, errW_some] <;> rfl), (Gtr.bw HB.out)⟩
end Go.Proofs.YthhmkbchdiflcaaGreatDoor.Q

/- The law FnExactReadItems over texts alone: both sides come to one plain answer. -/
namespace Go.Proofs.YthhmkbchdiflcaaGreatDoor.Q
open Go.RowKit Go.Proofs.YthhmkbchdiflcaaGreatDoorW.PrintWords Go.Proofs.YthhmkbchdiflcaaGreatDoorW.PrintLast Go.Proofs.YthhmkbchdiflcaaGreatDoorW.PrintMore
attribute [local go_sem] max2_int min2_int max_two min_two max_three min_three max_four min_four   -- for this text's walks alone
set_option linter.unusedVariables false
set_option linter.unusedSimpArgs false

def cutB (c : UInt8) (s : ByteArray) : List ByteArray := Lib.splitB ⟨#[c]⟩ 0 (Lib.countB s ⟨#[c]⟩) s
def itemOfW (p : List ByteArray) : It := ⟨wd p 6, sevV (wd p 0), (octR (wd p 1)).1, sevV (wd p 2), sevV (wd p 3), sevV (wd p 4), sevV (wd p 5), wd p 7⟩
abbrev RiAns := List It × Int × Bool
def riEnd (out : List It) : RiAns := if goodB out = true then (out, 0, true) else ([], 4, false)
def riRead : List (List ByteArray) → List It → RiAns
  | [], acc => riEnd acc
  | p :: r, acc => if okItem p = true then riRead r (acc ++ [itemOfW p]) else ([], 3, false)
def riAll (s : ByteArray) : RiAns :=
  if 1 ≤ s.size ∧ s.size ≤ 6000 ∧ bt s ((s.size : Int) - 1) = 10 then
    (if ((cutB 10 (s.extract 0 (s.size - 1))).all fun p => decide ((cutB 9 p).length = 8)) = true then riRead ((cutB 10 (s.extract 0 (s.size - 1))).map (cutB 9)) [] else ([], 2, false))
  else ([], 1, false)
theorem spl_mem (c : UInt8) : ∀ (l : List UInt8), ∀ p ∈ spl c l, p.length ≤ l.length
  | [], p, h => by simp [spl] at h; subst h; simp
  | b :: r, p, h => by
    have ih := spl_mem c r
    have hne := spl_ne c r
    by_cases hb : b = c
    · subst hb
      have e : spl b (b :: r) = [] :: spl b r := by simp [spl]
      rw [e] at h
      rcases List.mem_cons.mp h with rfl | h
      · simp
      · have := ih p h; simp; omega
    · have e : spl c (b :: r) = glue [b] (spl c r) := by
        rw [← glue_nil c (b :: r), glue_cons c b [] r hb]; rfl
      rw [e] at h
      cases hs : spl c r with
      | nil => exact absurd hs hne
      | cons q t =>
        rw [hs] at h ih
        simp only [glue] at h
        rcases List.mem_cons.mp h with rfl | h
        · have := ih q (by simp); simp; omega
        · have := ih p (by simp [h]); simp; omega
theorem spl_len (c : UInt8) : ∀ (l : List UInt8), (spl c l).length ≤ l.length + 1
  | [] => by simp [spl]
  | b :: r => by
    have ih := spl_len c r
    have hne := spl_ne c r
    by_cases hb : b = c
    · subst hb
      have e : spl b (b :: r) = [] :: spl b r := by simp [spl]
      rw [e]; simp; omega
    · have e : spl c (b :: r) = glue [b] (spl c r) := by
        rw [← glue_nil c (b :: r), glue_cons c b [] r hb]; rfl
      rw [e]
      cases hs : spl c r with
      | nil => exact absurd hs hne
      | cons q t => rw [hs] at ih; simp [glue] at ih ⊢; omega
theorem cutB_mem (c : UInt8) (s : ByteArray) : ∀ p ∈ cutB c s, p.size ≤ s.size := fun p hp => by
  have h := splitB_spl c s
  have hm : p.data.toList ∈ spl c s.data.toList := by rw [← h]; exact List.mem_map_of_mem hp
  have := spl_mem c _ _ hm
  rwa [data_length, data_length] at this
theorem cutB_len (c : UInt8) (s : ByteArray) : (cutB c s).length ≤ s.size + 1 := by
  have h := congrArg List.length (splitB_spl c s)
  rw [List.length_map] at h
  have := spl_len c s.data.toList
  rw [← h, data_length] at this
  exact this
theorem split_f (c : UInt8) (s : ByteArray) (hs : s.size < 4294967281) : strings_Split.f s ⟨#[c]⟩ = some (cutB c s) := by
  unfold strings_Split.f
  rw [if_pos ⟨rfl, hs⟩]; rfl
theorem rdP (ps : List (List ByteArray)) (i : Nat) (h : i < ps.length) : rd_L1 ps (i : Int) = ps[i] := by
  unfold rd_L1; simp [List.getD, h]
def SmallP (p : List ByteArray) : Prop := p.length = 8 ∧ ∀ x ∈ p, x.size < 4294967281
theorem wd_small {p : List ByteArray} (h : SmallP p) (j : Nat) (hj : j < 8) : (wd p j).size < 4294967281 := by
  unfold wd rdOf
  rw [Int.toNat_natCast, List.getD_eq_getElem?_getD, List.getElem?_eq_getElem (by have := h.1; omega)]
  exact h.2 _ (List.getElem_mem _)
theorem readItem_f {p : List ByteArray} (h : SmallP p) : impl_readItem.f p = some (wd p 6, sevV (wd p 0), (octR (wd p 1)).1, sevV (wd p 2), sevV (wd p 3), sevV (wd p 4), sevV (wd p 5), wd p 7, okItem p) := by
  unfold impl_readItem.f
  rw [if_pos ⟨h.1, List.all_eq_true.mpr fun x hx => decide_eq_true (h.2 x hx)⟩]
theorem goodImpl {out : List It} (h : ∀ x ∈ out, x.f0.size < 4294967281 ∧ x.f7.size < 4294967281) : impl_GoodItems.f out = some (goodB out) := by
  unfold impl_GoodItems.f
  rw [if_pos (List.all_eq_true.mpr fun x hx => decide_eq_true (h x hx).1)]
theorem impl_l1 (ps : List (List ByteArray)) (hn : ps.length ≤ 100000) (hp : ∀ p ∈ ps, SmallP p) (d : Nat) : ∀ (i : Nat) (out : List It), i + d = ps.length → out.length ≤ i → (∀ x ∈ out, x.f0.size < 4294967281 ∧ x.f7.size < 4294967281) →
    Ev (fun k => impl_ReadItems.l1 k out ps (ps.length : Int) (i : Int)) (riRead (ps.drop i) out) := by
  induction d with
  | zero =>
    intro i out hi ho hs
    rw [List.drop_of_length_le (by omega)]
    refine Ev.step (f := fun _ => some (riEnd out)) (fun k => ?_) (Ev.now _)
    simp only [impl_ReadItems.l1]
    rw [if_neg (by omega), goodImpl hs]
    unfold riEnd
    simp only [Option.bind_some]
    split <;> rfl
  | succ d ih =>
    intro i out hi ho hs
    have hlt : i < ps.length := by omega
    have hsp := hp ps[i] (List.getElem_mem hlt)
    have hw : wrap64 ((i : Int) + 1) = ((i + 1 : Nat) : Int) := by unfold wrap64; omega
    rw [List.drop_eq_getElem_cons hlt]
    have e : ∀ k, impl_ReadItems.l1 (k + 1) out ps (ps.length : Int) (i : Int) = if okItem ps[i] = true then impl_ReadItems.l1 k (out ++ [itemOfW ps[i]]) ps (ps.length : Int) ((i + 1 : Nat) : Int) else some ([], 3, false) := fun k => by
      simp only [impl_ReadItems.l1]
      rw [if_pos (by omega), if_pos (by omega), if_pos (by omega), rdP ps i hlt, readItem_f hsp]
      simp only [Option.bind_some]
      rw [if_pos (show out.length < 1759218604441 by omega), hw]
      rfl
    by_cases hok : okItem ps[i] = true
    · have : riRead (ps[i] :: ps.drop (i + 1)) out = riRead (ps.drop (i + 1)) (out ++ [itemOfW ps[i]]) := by simp only [riRead]; rw [if_pos hok]
      rw [this]
      refine Ev.step (fun k => by rw [e k, if_pos hok]) (ih (i + 1) _ (by omega) (by rw [List.length_append, List.length_singleton]; omega) (fun x hx => ?_))
      rcases List.mem_append.mp hx with hx | hx
      · exact hs x hx
      · rw [List.mem_singleton.mp hx]
        exact ⟨wd_small hsp 6 (by omega), wd_small hsp 7 (by omega)⟩
    · have : riRead (ps[i] :: ps.drop (i + 1)) out = ([], 3, false) := by simp only [riRead]; rw [if_neg hok]
      rw [this]
      exact Ev.step (f := fun _ => some ([], 3, false)) (fun k => by rw [e k, if_neg hok]) (Ev.now _)
/-- The lines of a text, each of which has eight words, or one has not. -/
def riLines (ls : List ByteArray) (acc : List (List ByteArray)) : RiAns :=
  if (ls.all fun p => decide ((cutB 9 p).length = 8)) = true then riRead (acc ++ ls.map (cutB 9)) [] else ([], 2, false)
theorem impl_l0 (ls : List ByteArray) (hn : ls.length ≤ 100000) (hs : ∀ p ∈ ls, p.size < 4294967281) (d : Nat) : ∀ (i : Nat) (acc : List (List ByteArray)), i + d = ls.length → acc.length ≤ i → (∀ p ∈ acc, SmallP p) →
    Ev (fun k => impl_ReadItems.l0 k acc ls (ls.length : Int) (i : Int)) (riLines (ls.drop i) acc) := by
  induction d with
  | zero =>
    intro i acc hi ha hp
    rw [List.drop_of_length_le (by omega)]
    have e : riLines [] acc = riRead acc [] := by unfold riLines; simp
    rw [e]
    have h := impl_l1 acc (by omega) hp acc.length 0 [] (by omega) (by simp) (by simp)
    refine Ev.step (f := fun k => impl_ReadItems.l1 k [] acc (acc.length : Int) ((0 : Nat) : Int)) (fun k => ?_) h
    simp only [impl_ReadItems.l0]
    rw [if_neg (by omega)]
    rfl
  | succ d ih =>
    intro i acc hi ha hp
    have hlt : i < ls.length := by omega
    have hsz := hs ls[i] (List.getElem_mem hlt)
    have hw : wrap64 ((i : Int) + 1) = ((i + 1 : Nat) : Int) := by unfold wrap64; omega
    have hr : rdOf ByteArray.empty ls (i : Int) = ls[i] := by unfold rdOf; simp [List.getD, hlt]
    rw [List.drop_eq_getElem_cons hlt]
    have e : ∀ k, impl_ReadItems.l0 (k + 1) acc ls (ls.length : Int) (i : Int) = if ((cutB 9 ls[i]).length : Int) = 8 then impl_ReadItems.l0 k (acc ++ [cutB 9 ls[i]]) ls (ls.length : Int) ((i + 1 : Nat) : Int) else some ([], 2, false) := fun k => by
      simp only [impl_ReadItems.l0]
      rw [if_pos (by omega), if_pos (by omega), if_pos (by omega), hr, split_f 9 ls[i] hsz]
      simp only [Option.bind_some]
      rw [if_pos (show acc.length < 5864062014805 by omega), hw]
    by_cases h8 : (cutB 9 ls[i]).length = 8
    · have : riLines (ls[i] :: ls.drop (i + 1)) acc = riLines (ls.drop (i + 1)) (acc ++ [cutB 9 ls[i]]) := by
        unfold riLines
        rw [List.all_cons, decide_eq_true h8, Bool.true_and, List.map_cons, List.append_assoc]; rfl
      rw [this]
      refine Ev.step (fun k => by rw [e k, if_pos (by omega)]) (ih (i + 1) _ (by omega) (by rw [List.length_append, List.length_singleton]; omega) (fun p hp' => ?_))
      rcases List.mem_append.mp hp' with h | h
      · exact hp p h
      · rw [List.mem_singleton.mp h]
        exact ⟨h8, fun x hx => Nat.lt_of_le_of_lt (cutB_mem 9 ls[i] x hx) hsz⟩
    · have : riLines (ls[i] :: ls.drop (i + 1)) acc = ([], 2, false) := by
        unfold riLines
        rw [List.all_cons, decide_eq_false h8, Bool.false_and, if_neg (by simp)]
      rw [this]
      exact Ev.step (f := fun _ => some ([], 2, false)) (fun k => by rw [e k, if_neg (by omega)]) (Ev.now _)
theorem ri_lines (s : ByteArray) (hs : s.size ≤ 6000) (t : ByteArray) (ht : t = s.extract 0 (s.size - 1)) : (cutB 10 t).length ≤ 100000 ∧ ∀ p ∈ cutB 10 t, p.size < 4294967281 := by
  have hz : t.size ≤ 6000 := by rw [ht, ByteArray.size_extract]; omega
  have h1 := cutB_len 10 t
  exact ⟨by omega, fun p hp => by have := cutB_mem 10 t p hp; omega⟩
theorem implRead_ev (s : ByteArray) (hs : s.size < 4294967281) : Ev (fun k => impl_ReadItems.f k s) (riAll s) := by
  unfold impl_ReadItems.f riAll
  rw [within_f]
  simp only [Option.bind_some]
  have hbad : Ev (fun k => impl_ReadItems.j0 k s true) (([], 1, false) : RiAns) :=
    Ev.step (f := fun _ => some ([], 1, false)) (fun k => by simp only [impl_ReadItems.j0]; rw [if_pos trivial]) (Ev.now _)
  by_cases hin : 1 ≤ s.size ∧ s.size ≤ 6000
  · have hw : wrap64 ((s.size : Int) - 1) = (s.size : Int) - 1 := by unfold wrap64; omega
    have hi : inB 1 6000 (s.size : Int) = true := by unfold inB; simp; omega
    rw [hi]
    refine Ev.congr (f := fun k => impl_ReadItems.j0 k s (bt s ((s.size : Int) - 1) != 10)) (fun k => by rw [if_pos rfl, hw, if_pos (by omega), if_pos (by omega)]) ?_
    by_cases hb : bt s ((s.size : Int) - 1) = 10
    · rw [if_pos ⟨hin.1, hin.2, hb⟩]
      obtain ⟨t, ht⟩ : ∃ t, t = s.extract 0 (s.size - 1) := ⟨_, rfl⟩
      obtain ⟨h1, h2⟩ := ri_lines s hin.2 t ht
      have hts : t.size < 4294967281 := by rw [ht, ByteArray.size_extract]; omega
      have h := impl_l0 (cutB 10 t) h1 h2 (cutB 10 t).length 0 [] (by omega) (by simp) (by simp)
      refine Ev.step (f := fun k => impl_ReadItems.l0 k [] (cutB 10 t) ((cutB 10 t).length : Int) ((0 : Nat) : Int)) (fun k => ?_) ?_
      · simp only [impl_ReadItems.j0]
        rw [if_neg (by simp [hb]), hw, if_pos (by omega), if_pos (by omega), show ((s.size : Int) - 1).toNat = s.size - 1 by omega, ← ht, split_f 10 t hts]
        rfl
      · rw [← ht]
        have e : riLines ((cutB 10 t).drop 0) [] = if ((cutB 10 t).all fun p => decide ((cutB 9 p).length = 8)) = true then riRead ((cutB 10 t).map (cutB 9)) [] else ([], 2, false) := by
          unfold riLines; simp
        rw [← e]; exact h
    · rw [if_neg (fun h => hb h.2.2)]
      refine Ev.congr (fun k => by rw [show (bt s ((s.size : Int) - 1) != 10) = true by simpa using hb]) hbad
  · have hi : inB 1 6000 (s.size : Int) = false := by unfold inB; simp; omega
    rw [hi, if_neg (fun h => hin ⟨h.1, h.2.1⟩)]
    exact Ev.congr (fun k => by rw [if_neg (by simp)]) hbad
theorem all_loop (y : List Int) (hy : y.length ≤ 1000) (d : Nat) : ∀ i : Nat, i + d = y.length → Ev (fun k => spec_l1All.l0 k 0 9999999 y (y.length : Int) (i : Int)) ((y.drop i).all (inB 0 9999999)) := by
  induction d with
  | zero =>
    intro i hi
    rw [List.drop_of_length_le (by omega)]
    refine Ev.step (f := fun _ => some true) (fun k => ?_) (Ev.now true)
    simp only [spec_l1All.l0]; rw [if_neg (by omega)]
  | succ d ih =>
    intro i hi
    have hlt : i < y.length := by omega
    have hw : wrap64 ((i : Int) + 1) = ((i + 1 : Nat) : Int) := by unfold wrap64; omega
    have hr : rd y (i : Int) = y[i] := by unfold rd; simp [List.getD, hlt]
    rw [List.drop_eq_getElem_cons hlt, List.all_cons]
    have hin : spec_l1In.f y[i] 0 9999999 = some (inB 0 9999999 y[i]) := by
      unfold spec_l1In.f inB
      by_cases h : y[i] ≥ 0
      · rw [if_pos h, decide_eq_true (show 0 ≤ y[i] from h), Bool.true_and]
      · rw [if_neg h, decide_eq_false (show ¬ 0 ≤ y[i] from h), Bool.false_and]
    have e : ∀ k, spec_l1All.l0 (k + 1) 0 9999999 y (y.length : Int) (i : Int) = if inB 0 9999999 y[i] = true then spec_l1All.l0 k 0 9999999 y (y.length : Int) ((i + 1 : Nat) : Int) else some false := fun k => by
      simp only [spec_l1All.l0]
      rw [if_pos (by omega), if_pos (by omega), if_pos (by omega), hr, hin, hw]; rfl
    cases hq : inB 0 9999999 y[i] with
    | true => rw [Bool.true_and]; exact Ev.step (fun k => by rw [e k, if_pos hq]) (ih (i + 1) (by omega))
    | false => rw [Bool.false_and]; exact Ev.step (f := fun _ => some false) (fun k => by rw [e k, if_neg (by simp [hq])]) (Ev.now _)
theorem all_ev (y : List Int) (hy : y.length ≤ 1000) : Ev (fun k => spec_l1All.f k y 0 9999999) (y.all (inB 0 9999999)) := by
  have := all_loop y hy y.length 0 (by omega)
  unfold spec_l1All.f
  simpa using this
theorem sevZ_in (x : ByteArray) : inB 0 9999999 (sevZ x) = sevB x := by
  rw [sevB_eq, sevZ_eq]
  cases hq : sevL x.data.toList with
  | none => rfl
  | some n =>
    have := sevL_bound hq
    unfold inB optZ
    simp only [Option.isSome_some, Bool.and_eq_true, decide_eq_true_eq]
    omega
theorem sevZ_val {x : ByteArray} (h : sevB x = true) : sevZ x = sevV x := by
  rw [sevB_eq] at h
  obtain ⟨n, hn⟩ := Option.isSome_iff_exists.mp h
  rw [sevZ_eq, hn, sevV_ok hn]; rfl
def zs (p : List ByteArray) : List Int := [sevZ (wd p 0), sevZ (wd p 2), sevZ (wd p 3), sevZ (wd p 4), sevZ (wd p 5)]
theorem zs_all (p : List ByteArray) : (zs p).all (inB 0 9999999) = (numsOf p).all sevB := by
  unfold zs numsOf
  simp only [List.all_cons, List.all_nil, sevZ_in]
theorem spec_step (s : ByteArray) (hs : s.size < 4294967281) (hp : SmallP (cutB 9 s)) (out : List It) (ho : out.length ≤ 200000) (ls : List ByteArray) (n : Int) (i : Nat) (hi : i < ls.length) (hn : n = ls.length) (hl : ls.length ≤ 100000) (hx : ls[i] = s) (r : RiAns)
    (h1 : okItem (cutB 9 s) = true → Ev (fun k => spec_ReadItems.l1 k (out ++ [itemOfW (cutB 9 s)]) ls n ((i + 1 : Nat) : Int)) r) (h2 : okItem (cutB 9 s) = false → r = ([], 3, false)) :
    Ev (fun k => spec_ReadItems.l1 k out ls n (i : Int)) r := by
  have hw : wrap64 ((i : Int) + 1) = ((i + 1 : Nat) : Int) := by unfold wrap64; omega
  have hr : rdOf ByteArray.empty ls (i : Int) = s := by rw [← hx]; unfold rdOf; simp [List.getD, hi]
  have hcut := l1Split_ev s 9 hs
  obtain ⟨p, hpp⟩ : ∃ p, p = cutB 9 s := ⟨_, rfl⟩
  change Ev (fun k => spec_l1Split.f k s 9) (cutB 9 s) at hcut
  rw [← hpp] at hp h1 h2 hcut
  have hl8 := hp.1
  refine Ev.step (f := fun k => (spec_l1Split.f k s 9).bind fun t339 => (if 1 < (t339.length : Int) then ((spec_ReadOctal.f k (wd t339 1)).bind fun bt343 => (if 0 < (t339.length : Int) then ((spec_l17Num.f k (wd t339 0)).bind fun t346 => (if 2 < (t339.length : Int) then ((spec_l17Num.f k (wd t339 2)).bind fun t348 => (if 3 < (t339.length : Int) then ((spec_l17Num.f k (wd t339 3)).bind fun t350 => (if 4 < (t339.length : Int) then ((spec_l17Num.f k (wd t339 4)).bind fun t352 => (if 5 < (t339.length : Int) then ((spec_l17Num.f k (wd t339 5)).bind fun t354 =>
      (if bt343.2 = true then ((spec_l1All.f k [t346, t348, t350, t352, t354] 0 9999999).bind fun t358 => (if t358 = true then (if 6 < (t339.length : Int) then (if 7 < (t339.length : Int) then (spec_ReadItems.l1 k (out ++ [(⟨wd t339 6, t346, bt343.1, t348, t350, t352, t354, wd t339 7⟩ : It)]) ls n ((i + 1 : Nat) : Int)) else none) else none) else (some (([] : List It), 3, false)))) else (some (([] : List It), 3, false)))) else none)) else none)) else none)) else none)) else none)) else none)) (fun k => ?_) ?_
  · simp only [spec_ReadItems.l1]
    rw [if_pos (by omega), if_pos (by omega), if_pos (by omega), hr, hw]
    have ho' : out.length < 1759218604441 := by omega
    simp only [Option.bind_some, ho', if_true]
    rfl
  · refine Ev.bind hcut ?_
    refine Ev.congr (fun k => by rw [if_pos (by omega)]) (Ev.bind (specOct_ev (wd p 1)) ?_)
    refine Ev.congr (fun k => by rw [if_pos (by omega)]) (Ev.bind (l17Num_ev (wd p 0) (wd_small hp 0 (by omega))) ?_)
    refine Ev.congr (fun k => by rw [if_pos (by omega)]) (Ev.bind (l17Num_ev (wd p 2) (wd_small hp 2 (by omega))) ?_)
    refine Ev.congr (fun k => by rw [if_pos (by omega)]) (Ev.bind (l17Num_ev (wd p 3) (wd_small hp 3 (by omega))) ?_)
    refine Ev.congr (fun k => by rw [if_pos (by omega)]) (Ev.bind (l17Num_ev (wd p 4) (wd_small hp 4 (by omega))) ?_)
    refine Ev.congr (fun k => by rw [if_pos (by omega)]) (Ev.bind (l17Num_ev (wd p 5) (wd_small hp 5 (by omega))) ?_)
    have hall := all_ev (zs p) (by simp [zs])
    rw [zs_all] at hall
    change Ev (fun k => spec_l1All.f k [sevZ (wd p 0), sevZ (wd p 2), sevZ (wd p 3), sevZ (wd p 4), sevZ (wd p 5)] 0 9999999) _ at hall
    cases ho2 : (octR (wd p 1)).2 with
    | false =>
      rw [h2 (by unfold okItem; rw [ho2]; rfl)]
      exact Ev.congr (f := fun _ => some ([], 3, false)) (fun k => by rw [if_neg (by simp)]) (Ev.now _)
    | true =>
      refine Ev.congr (fun k => by rw [if_pos rfl]) (Ev.bind hall ?_)
      cases hb : (numsOf p).all sevB with
      | false =>
        rw [h2 (by unfold okItem; rw [ho2, hb]; rfl)]
        exact Ev.congr (f := fun _ => some ([], 3, false)) (fun k => by rw [if_neg (by simp)]) (Ev.now _)
      | true =>
        have hb' := hb
        simp only [numsOf, List.all_cons, List.all_nil, Bool.and_true, Bool.and_eq_true] at hb'
        obtain ⟨b0, b2, b3, b4, b5⟩ := hb'
        have h1' := h1 (by unfold okItem; rw [ho2, hb]; rfl)
        refine Ev.congr (fun k => ?_) h1'
        rw [if_pos rfl, if_pos (by omega), if_pos (by omega), sevZ_val b0, sevZ_val b2, sevZ_val b3, sevZ_val b4, sevZ_val b5]
        rfl
theorem spec_l1 (ls : List ByteArray) (hl : ls.length ≤ 100000) (hs : ∀ p ∈ ls, p.size < 4294967281) (h8 : ∀ p ∈ ls, (cutB 9 p).length = 8) (d : Nat) : ∀ (i : Nat) (out : List It), i + d = ls.length → out.length ≤ i → (∀ x ∈ out, x.f0.size < 4294967281 ∧ x.f7.size < 4294967281) →
    Ev (fun k => spec_ReadItems.l1 k out ls (ls.length : Int) (i : Int)) (riRead ((ls.drop i).map (cutB 9)) out) := by
  induction d with
  | zero =>
    intro i out hi ho hx
    rw [List.drop_of_length_le (by omega)]
    have hsz : ∀ j, (itAt out j).f0.size < 4294967281 ∧ (itAt out j).f7.size < 4294967281 := fun j => by
      by_cases hj : j < out.length
      · rw [show itAt out j = out[j] from rdI out j hj]; exact hx _ (List.getElem_mem hj)
      · have : itAt out j = z74 := by unfold itAt rd_T74; simp [List.getD, List.getElem?_eq_none (show out.length ≤ j by omega)]
        rw [this]; decide
    have hg := l17Good_ev out (fun j => (hsz j).1) (fun j => (hsz j).2)
    refine Ev.step (f := fun k => (spec_l17Good.f k out).bind fun t337 => (if t337 = true then (some (out, 0, true)) else (some (([] : List It), 4, false)))) (fun k => ?_) (Ev.bind hg ?_)
    · simp only [spec_ReadItems.l1]; rw [if_neg (by omega)]
    · show Ev _ (riEnd out)
      unfold riEnd
      cases goodB out with
      | true => exact Ev.congr (f := fun _ => some (out, 0, true)) (fun k => by rw [if_pos rfl]) (by rw [if_pos rfl]; exact Ev.now _)
      | false => exact Ev.congr (f := fun _ => some ([], 4, false)) (fun k => by rw [if_neg (by simp)]) (by rw [if_neg (by simp)]; exact Ev.now _)
  | succ d ih =>
    intro i out hi ho hx
    have hlt : i < ls.length := by omega
    have hsz := hs ls[i] (List.getElem_mem hlt)
    have hp : SmallP (cutB 9 ls[i]) := ⟨h8 _ (List.getElem_mem hlt), fun x hx => Nat.lt_of_le_of_lt (cutB_mem 9 ls[i] x hx) hsz⟩
    rw [List.drop_eq_getElem_cons hlt, List.map_cons]
    refine spec_step ls[i] hsz hp out (by omega) ls _ i hlt rfl hl rfl _ (fun hok => ?_) (fun hok => ?_)
    · have : riRead (cutB 9 ls[i] :: (ls.drop (i + 1)).map (cutB 9)) out = riRead ((ls.drop (i + 1)).map (cutB 9)) (out ++ [itemOfW (cutB 9 ls[i])]) := by simp only [riRead]; rw [if_pos hok]
      rw [this]
      refine ih (i + 1) _ (by omega) (by rw [List.length_append, List.length_singleton]; omega) (fun x hx' => ?_)
      rcases List.mem_append.mp hx' with h | h
      · exact hx x h
      · rw [List.mem_singleton.mp h]
        exact ⟨wd_small hp 6 (by omega), wd_small hp 7 (by omega)⟩
    · simp only [riRead]; rw [if_neg (by simp [hok])]
theorem spec_l0 (ls : List ByteArray) (hl : ls.length ≤ 100000) (hs : ∀ p ∈ ls, p.size < 4294967281) (d : Nat) : ∀ (i : Nat), i + d = ls.length → (∀ p ∈ ls.take i, (cutB 9 p).length = 8) →
    Ev (fun k => spec_ReadItems.l0 k ls ls (ls.length : Int) (i : Int)) (if ((ls.drop i).all fun p => decide ((cutB 9 p).length = 8)) = true then riRead (ls.map (cutB 9)) [] else ([], 2, false)) := by
  induction d with
  | zero =>
    intro i hi h8
    rw [List.take_of_length_le (by omega)] at h8
    rw [List.drop_of_length_le (by omega), if_pos (by simp)]
    have h := spec_l1 ls hl hs h8 ls.length 0 [] (by omega) (by simp) (by simp)
    refine Ev.step (f := fun k => spec_ReadItems.l1 k [] ls (ls.length : Int) ((0 : Nat) : Int)) (fun k => ?_) h
    simp only [spec_ReadItems.l0]
    rw [if_neg (by omega)]; rfl
  | succ d ih =>
    intro i hi h8
    have hlt : i < ls.length := by omega
    have hsz := hs ls[i] (List.getElem_mem hlt)
    have hw : wrap64 ((i : Int) + 1) = ((i + 1 : Nat) : Int) := by unfold wrap64; omega
    have hr : rdOf ByteArray.empty ls (i : Int) = ls[i] := by unfold rdOf; simp [List.getD, hlt]
    have hcut := l1Split_ev ls[i] 9 hsz
    change Ev (fun k => spec_l1Split.f k ls[i] 9) (cutB 9 ls[i]) at hcut
    refine Ev.step (f := fun k => (spec_l1Split.f k ls[i] 9).bind fun t => if (t.length : Int) = 8 then spec_ReadItems.l0 k ls ls (ls.length : Int) ((i + 1 : Nat) : Int) else some ([], 2, false)) (fun k => ?_) (Ev.bind hcut ?_)
    · simp only [spec_ReadItems.l0]; rw [if_pos (by omega), if_pos (by omega), if_pos (by omega), hr, hw]
    · rw [List.drop_eq_getElem_cons hlt, List.all_cons]
      by_cases h : (cutB 9 ls[i]).length = 8
      · rw [decide_eq_true h, Bool.true_and]
        refine Ev.congr (fun k => by rw [if_pos (by omega)]) (ih (i + 1) (by omega) (fun p hp => ?_))
        rw [List.take_succ_eq_append_getElem hlt] at hp
        rcases List.mem_append.mp hp with hp | hp
        · exact h8 p hp
        · rw [List.mem_singleton.mp hp]; exact h
      · rw [decide_eq_false h, Bool.false_and, if_neg (by simp)]
        exact Ev.congr (f := fun _ => some ([], 2, false)) (fun k => by rw [if_neg (by omega)]) (Ev.now _)
theorem specRead_ev (s : ByteArray) (hs : s.size < 4294967281) : Ev (fun k => spec_ReadItems.f k s) (riAll s) := by
  unfold spec_ReadItems.f riAll
  have hbad : Ev (fun k => spec_ReadItems.j0 k s true) (([], 1, false) : RiAns) :=
    Ev.step (f := fun _ => some ([], 1, false)) (fun k => by simp only [spec_ReadItems.j0]; rw [if_pos trivial]) (Ev.now _)
  have hnil : s.toList = ([] : List UInt8) ↔ s.size = 0 := toList_nil s
  by_cases h6 : (s.size : Int) > 6000
  · rw [if_neg (by omega)]
    exact Ev.congr (fun k => by rw [if_pos h6]) hbad
  · refine Ev.congr (fun k => by rw [if_neg h6]) ?_
    by_cases h0 : s.toList = ([] : List UInt8)
    · have := hnil.mp h0
      rw [if_neg (by omega)]
      exact Ev.congr (fun k => by rw [if_pos h0]) hbad
    · have hz : s.size ≠ 0 := fun h => h0 (hnil.mpr h)
      have hw : wrap64 ((s.size : Int) - 1) = (s.size : Int) - 1 := by unfold wrap64; omega
      refine Ev.congr (f := fun k => spec_ReadItems.j0 k s (bt s ((s.size : Int) - 1) != 10)) (fun k => by rw [if_neg h0, hw, if_pos (by omega), if_pos (by omega)]) ?_
      by_cases hb : bt s ((s.size : Int) - 1) = 10
      · rw [if_pos ⟨by omega, by omega, hb⟩]
        obtain ⟨t, ht⟩ : ∃ t, t = s.extract 0 (s.size - 1) := ⟨_, rfl⟩
        obtain ⟨h1, h2⟩ := ri_lines s (by omega) t ht
        have hts : t.size < 4294967281 := by rw [ht, ByteArray.size_extract]; omega
        have hcut := l1Split_ev t 10 hts
        change Ev (fun k => spec_l1Split.f k t 10) (cutB 10 t) at hcut
        have h := spec_l0 (cutB 10 t) h1 h2 (cutB 10 t).length 0 (by omega) (by simp)
        rw [← ht]
        refine Ev.step (f := fun k => (spec_l1Split.f k t 10).bind fun ls => spec_ReadItems.l0 k ls ls (ls.length : Int) ((0 : Nat) : Int)) (fun k => ?_) (Ev.bind hcut ?_)
        · simp only [spec_ReadItems.j0]
          rw [if_neg (by simp [hb]), hw, if_pos (by omega), if_pos (by omega), show ((s.size : Int) - 1).toNat = s.size - 1 by omega, ← ht]
          rfl
        · simpa using h
      · rw [if_neg (fun h => hb h.2.2)]
        exact Ev.congr (fun k => by rw [show (bt s ((s.size : Int) - 1) != 10) = true by simpa using hb]) hbad
theorem riRead_len : ∀ (ps : List (List ByteArray)) (out : List It), (riRead ps out).1.length ≤ out.length + ps.length
  | [], out => by
    unfold riRead riEnd
    split <;> simp
  | p :: r, out => by
    unfold riRead
    split
    · have := riRead_len r (out ++ [itemOfW p])
      rw [List.length_append, List.length_singleton] at this
      rw [List.length_cons]; omega
    · simp
theorem riAll_len (s : ByteArray) : (riAll s).1.length ≤ 10000 := by
  unfold riAll
  split
  · rename_i h
    split
    · have h1 := riRead_len ((cutB 10 (s.extract 0 (s.size - 1))).map (cutB 9)) []
      have h2 := cutB_len 10 (s.extract 0 (s.size - 1))
      rw [ByteArray.size_extract] at h2
      rw [List.length_map] at h1
      simp only [List.length_nil] at h1
      omega
    · simp
  · simp
/-- The law over texts alone. -/
theorem pureReadItems (s : ByteArray) (hs : s.size ≤ maxLen) : ∃ k, laws_FnExactReadItems.f k s = some true := by
  refine Ev.rounds ?_
  unfold laws_FnExactReadItems.f
  by_cases hc : (s.size : Int) > 1048576
  · exact Ev.congr (f := fun _ => some true) (fun k => by rw [if_pos hc]) (Ev.now _)
  refine Ev.congr (fun k => by rw [if_neg hc]) ?_
  have hspec := specRead_ev s (by omega)
  have himpl := implRead_ev s (by omega)
  have hlen := riAll_len s
  obtain ⟨⟨g, c, b⟩, hR⟩ : ∃ R, R = riAll s := ⟨_, rfl⟩
  rw [← hR] at hspec himpl hlen
  simp only at hlen
  have he := eqItemS_ev g (by omega)
  have hm := markItemS_ev g (by omega)
  have hh := heldItemS_ev g.length (by omega)
  refine Ev.bind hspec (Ev.bind himpl (Ev.bind he ?_))
  refine Ev.congr (f := fun k => laws_FnExactReadItems.j0 k s g c b g false) (fun k => by rw [if_pos rfl, if_pos rfl]; simp) ?_
  refine Ev.step (f := fun k => (laws_markItemS.f k g 1).bind fun bt482 => ((laws_heldItemS.f k bt482.2 1).bind fun t484 => (if t484 < 0 then (some false) else (if t484 = bt482.1 then ((impl_ReadItems.f k s).bind fun bt485 => ((laws_eqItemS.f k bt485.1 g).bind fun t490 => (if t490 = true then (if bt485.2.1 = c then (laws_FnExactReadItems.j1 k bt482.2 bt482.1 (bt485.2.2 != b)) else (laws_FnExactReadItems.j1 k bt482.2 bt482.1 true)) else (laws_FnExactReadItems.j1 k bt482.2 bt482.1 true)))) else (some false))))) (fun k => ?_) ?_
  · simp only [laws_FnExactReadItems.j0]; rw [if_neg (by simp)]
  refine Ev.bind hm (Ev.bind hh ?_)
  refine Ev.congr (fun k => by rw [if_neg (by omega), if_pos rfl]) (Ev.bind himpl (Ev.bind he ?_))
  refine Ev.congr (f := fun k => laws_FnExactReadItems.j1 k (markIL 1 g.length) (1 + 8 * (g.length : Int)) false) (fun k => by rw [if_pos rfl, if_pos rfl]; simp) ?_
  refine Ev.step (f := fun k => (laws_heldItemS.f k (markIL 1 g.length) 1).bind fun t => if t < 0 then some false else if t = 1 + 8 * (g.length : Int) then some true else some false) (fun k => ?_) (Ev.bind hh ?_)
  · simp only [laws_FnExactReadItems.j1]; rw [if_neg (by simp)]
  · exact Ev.congr (f := fun _ => some true) (fun k => by rw [if_neg (by omega), if_pos rfl]) (Ev.now _)

end Go.Proofs.YthhmkbchdiflcaaGreatDoor.Q
