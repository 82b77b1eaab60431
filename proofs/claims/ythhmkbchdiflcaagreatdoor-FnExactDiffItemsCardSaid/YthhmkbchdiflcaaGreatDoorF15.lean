/- Texts of this claim, merged by a program (wip/tools/merge.py): HItem. -/
import Derived.Test.YthhmkbchdiflcaaGreatDoorF2
import Derived.Test.YthhmkbchdiflcaaGreatDoorF14
import Derived.Test.YthhmkbchdiflcaaGreatDoorF4
import Derived.Test.YthhmkbchdiflcaaGreatDoorF13
/- impl.isItem: what is in an item, by itself. -/
namespace Go.Proofs.YthhmkbchdiflcaaGreatDoor.Q
open Go.RowKit Go.Proofs.YthhmkbchdiflcaaGreatDoorW.PrintWords Go.Proofs.YthhmkbchdiflcaaGreatDoorW.PrintLast Go.Proofs.YthhmkbchdiflcaaGreatDoorW.PrintMore
attribute [local go_sem] max2_int min2_int max_two min_two max_three min_three max_four min_four   -- for this text's walks alone
set_option linter.unusedVariables false
set_option linter.unusedSimpArgs false

/-- A node without entries, that is not free, in no file system. -/
def bareB (k m u g t : Int) (d : ByteArray) : Bool :=
  inB 0 511 m && (inB 0 99 u && (inB 0 99 g && (inB 0 1000000 t && (if k = 1 then decide (d.size ≤ 60) else if k = 3 then goodPathB d else nilB d))))
set_option maxHeartbeats 4000000 in
set_option maxRecDepth 100000 in
theorem isNode_bare (k m u g t : Int) (d : ByteArray) (hk : k = 1 ∨ k = 2 ∨ k = 3) (w : World) :
    Calls Tryz.prog 213 #[.agg #[.slice none 0 0, .int .i64 0], .agg #[.int .i64 k, .int .i64 m, .int .i64 u, .int .i64 g, .int .i64 t, .string d, .slice none 0 0]] w
      fun e w' => e = .returned (.bool (bareB k m u g t d)) ∧ Below w.heap.size w w' := by
  have hu1 := Tryz.underlying139
  have hu2 := Tryz.underlying169
  have hu3 := Tryz.underlying174
  have HM := Aside0.mk (fun W => impl_isMode.calls m _ W (isMode_f m))
  have HU := Aside0.mk (fun W => impl_isId.calls u _ W (isId_f u))
  have HG := Aside0.mk (fun W => impl_isId.calls g _ W (isId_f g))
  have HT := Aside0.mk (fun W => impl_isTime.calls t _ W (isTime_f t))
  have HP := Aside0.mk (fun W => impl_GoodPath.calls d _ W (GoodPath_f d))
  have HD : Aside0 (((d.toList == []) = nilB d) ∧ (d.toList.isEmpty = nilB d)) := ⟨nilB_eq d, by rw [← nilB_eq]; cases d.toList <;> rfl⟩
  have k0 : (k == 0) = false := beq_eq_false_iff_ne.mpr (by omega)
  by_cases h1 : inB 0 511 m = true
  · by_cases h2 : inB 0 99 u = true
    · by_cases h3 : inB 0 99 g = true
      · by_cases h4 : inB 0 1000000 t = true
        · have HF : Aside0 (bareB k m u g t d = if k = 1 then decide (d.size ≤ 60) else if k = 3 then goodPathB d else nilB d) := ⟨by unfold bareB; rw [h1, h2, h3, h4]; rfl⟩
          rw [h1] at HM; rw [h2] at HU; rw [h3] at HG; rw [h4] at HT
          clear h1 h2 h3 h4
          rcases hk with rfl | rfl | rfl
          · rw [HF.out, if_pos rfl]
            clear HF HP HD k0
            go_enter Tryz.func213, Tryz.ntmps213
            go_wp2_with fail
            refine (HM.out _).mono ?_; rintro e w1 ⟨rfl, ⟨n1, rfl⟩⟩
            go_wp2_with fail
            refine (HU.out _).mono ?_; rintro e w1 ⟨rfl, ⟨n2, rfl⟩⟩
            go_wp2_with fail
            refine (HG.out _).mono ?_; rintro e w1 ⟨rfl, ⟨n3, rfl⟩⟩
            go_wp2_with fail
            refine (HT.out _).mono ?_; rintro e w1 ⟨rfl, ⟨n4, rfl⟩⟩
            go_wp2
            go_ret
            exact ⟨by first | rfl | (simp; done) | (simp; omega), by repeat (first | exact Below.refl _ _ | apply below_alloc | apply pw_below_drewN | apply below_drew1)⟩
          · rw [HF.out, if_neg (by decide), if_neg (by decide), ← HD.out.1]
            clear HF HP HD k0
            go_enter Tryz.func213, Tryz.ntmps213
            go_wp2_with fail
            refine (HM.out _).mono ?_; rintro e w1 ⟨rfl, ⟨n1, rfl⟩⟩
            go_wp2_with fail
            refine (HU.out _).mono ?_; rintro e w1 ⟨rfl, ⟨n2, rfl⟩⟩
            go_wp2_with fail
            refine (HG.out _).mono ?_; rintro e w1 ⟨rfl, ⟨n3, rfl⟩⟩
            go_wp2_with fail
            refine (HT.out _).mono ?_; rintro e w1 ⟨rfl, ⟨n4, rfl⟩⟩
            go_wp2
            refine wp_loop_rounds 1 ?_
            rw [rounds_succ]
            go_wp2
            go_ret
            exact ⟨by first | rfl | (simp; done), by repeat (first | exact Below.refl _ _ | apply below_alloc | apply pw_below_drewN | apply below_drew1)⟩
          · rw [HF.out, if_neg (by decide), if_pos rfl]
            clear HF HD k0
            go_enter Tryz.func213, Tryz.ntmps213
            go_wp2_with fail
            refine (HM.out _).mono ?_; rintro e w1 ⟨rfl, ⟨n1, rfl⟩⟩
            go_wp2_with fail
            refine (HU.out _).mono ?_; rintro e w1 ⟨rfl, ⟨n2, rfl⟩⟩
            go_wp2_with fail
            refine (HG.out _).mono ?_; rintro e w1 ⟨rfl, ⟨n3, rfl⟩⟩
            go_wp2_with fail
            refine (HT.out _).mono ?_; rintro e w1 ⟨rfl, ⟨n4, rfl⟩⟩
            go_wp2_with fail
            refine (HP.out _).mono ?_; rintro e w1 ⟨rfl, hd⟩
            go_wp2
            go_ret
            exact ⟨rfl, below_step (by repeat (first | exact Below.refl _ _ | apply below_alloc | apply pw_below_drewN | apply below_drew1)) hd⟩
        · have HF : Aside0 (bareB k m u g t d = false) := ⟨by unfold bareB; simp [h1, h2, h3, h4]⟩
          have h' : inB 0 1000000 t = false := by simpa using h4
          rw [h1] at HM
          rw [h2] at HU
          rw [h3] at HG
          rw [h'] at HT
          rw [HF.out]
          clear  HP HD hk HF h' h1 h2 h3 h4
          go_enter Tryz.func213, Tryz.ntmps213
          go_wp2_with fail
          refine (HM.out _).mono ?_; rintro e w1 ⟨rfl, ⟨n1, rfl⟩⟩
          go_wp2_with fail
          refine (HU.out _).mono ?_; rintro e w1 ⟨rfl, ⟨n2, rfl⟩⟩
          go_wp2_with fail
          refine (HG.out _).mono ?_; rintro e w1 ⟨rfl, ⟨n3, rfl⟩⟩
          go_wp2_with fail
          refine (HT.out _).mono ?_; rintro e w1 ⟨rfl, ⟨n4, rfl⟩⟩
          go_wp2
          go_ret
          exact ⟨rfl, by repeat (first | exact Below.refl _ _ | apply below_alloc | apply pw_below_drewN | apply below_drew1)⟩
      · have HF : Aside0 (bareB k m u g t d = false) := ⟨by unfold bareB; simp [h1, h2, h3]⟩
        have h' : inB 0 99 g = false := by simpa using h3
        rw [h1] at HM
        rw [h2] at HU
        rw [h'] at HG
        rw [HF.out]
        clear HT HP HD hk HF h' h1 h2 h3
        go_enter Tryz.func213, Tryz.ntmps213
        go_wp2_with fail
        refine (HM.out _).mono ?_; rintro e w1 ⟨rfl, ⟨n1, rfl⟩⟩
        go_wp2_with fail
        refine (HU.out _).mono ?_; rintro e w1 ⟨rfl, ⟨n2, rfl⟩⟩
        go_wp2_with fail
        refine (HG.out _).mono ?_; rintro e w1 ⟨rfl, ⟨n3, rfl⟩⟩
        go_wp2
        go_ret
        exact ⟨rfl, by repeat (first | exact Below.refl _ _ | apply below_alloc | apply pw_below_drewN | apply below_drew1)⟩
    · have HF : Aside0 (bareB k m u g t d = false) := ⟨by unfold bareB; simp [h1, h2]⟩
      have h' : inB 0 99 u = false := by simpa using h2
      rw [h1] at HM
      rw [h'] at HU
      rw [HF.out]
      clear HG HT HP HD hk HF h' h1 h2
      go_enter Tryz.func213, Tryz.ntmps213
      go_wp2_with fail
      refine (HM.out _).mono ?_; rintro e w1 ⟨rfl, ⟨n1, rfl⟩⟩
      go_wp2_with fail
      refine (HU.out _).mono ?_; rintro e w1 ⟨rfl, ⟨n2, rfl⟩⟩
      go_wp2
      go_ret
      exact ⟨rfl, by repeat (first | exact Below.refl _ _ | apply below_alloc | apply pw_below_drewN | apply below_drew1)⟩
  · have HF : Aside0 (bareB k m u g t d = false) := ⟨by unfold bareB; simp [h1]⟩
    have h' : inB 0 511 m = false := by simpa using h1
    rw [h'] at HM
    rw [HF.out]
    clear HU HG HT HP HD hk HF h' h1
    go_enter Tryz.func213, Tryz.ntmps213
    go_wp2_with fail
    refine (HM.out _).mono ?_; rintro e w1 ⟨rfl, ⟨n1, rfl⟩⟩
    go_wp2
    go_ret
    exact ⟨rfl, by repeat (first | exact Below.refl _ _ | apply below_alloc | apply pw_below_drewN | apply below_drew1)⟩
def impl_isItem.f (a0_0 : ByteArray) (a0_1 : Int) (a0_2 : Int) (a0_3 : Int) (a0_4 : Int) (a0_5 : Int) (a0_6 : Int) (a0_7 : ByteArray) : Option Bool := some (inB 1 3 a0_1 && bareB a0_1 a0_2 a0_3 a0_4 a0_5 a0_7)
set_option maxHeartbeats 2000000 in
theorem impl_isItem.calls (a0_0 : ByteArray) (a0_1 : Int) (a0_2 : Int) (a0_3 : Int) (a0_4 : Int) (a0_5 : Int) (a0_6 : Int) (a0_7 : ByteArray) (r : Bool) (w : World) (h : impl_isItem.f a0_0 a0_1 a0_2 a0_3 a0_4 a0_5 a0_6 a0_7 = some r) :
    Calls Tryz.prog 151 #[.agg #[.string a0_0, .int .i64 a0_1, .int .i64 a0_2, .int .i64 a0_3, .int .i64 a0_4, .int .i64 a0_5, .int .i64 a0_6, .string a0_7]] w fun e w' => e = .returned (.bool r) ∧ Below w.heap.size w w' := by
  injection h with h
  subst h
  have hu1 := Tryz.underlying139
  have hu2 := Tryz.underlying169
  have hu4 := Tryz.underlying74
  have HW := Aside0.mk (fun W => impl_within.calls a0_1 1 3 _ W (within_f a0_1 1 3))
  by_cases h1 : inB 1 3 a0_1 = true
  · have hk : a0_1 = 1 ∨ a0_1 = 2 ∨ a0_1 = 3 := by unfold inB at h1; simp at h1; omega
    have HN := Aside0.mk (fun W => isNode_bare a0_1 a0_2 a0_3 a0_4 a0_5 a0_7 hk W)
    rw [h1] at HW ⊢
    rw [Bool.true_and]
    clear h1 hk
    generalize bareB a0_1 a0_2 a0_3 a0_4 a0_5 a0_7 = q at HN ⊢
    go_enter Tryz.func151, Tryz.ntmps151
    go_wp2_with fail
    refine (HW.out _).mono ?_; rintro e w1 ⟨rfl, ⟨n1, rfl⟩⟩
    go_wp2_with fail
    refine (HN.out _).mono ?_; rintro e w1 ⟨rfl, hd⟩
    go_wp2
    go_ret
    exact ⟨rfl, below_step (by repeat (first | exact Below.refl _ _ | apply below_alloc | apply pw_below_drewN | apply below_drew1)) hd⟩
  · have h1' : inB 1 3 a0_1 = false := by simpa using h1
    rw [h1'] at HW ⊢
    rw [Bool.false_and]
    clear h1 h1'
    go_enter Tryz.func151, Tryz.ntmps151
    go_wp2_with fail
    refine (HW.out _).mono ?_; rintro e w1 ⟨rfl, ⟨n1, rfl⟩⟩
    go_wp2
    go_ret
    exact ⟨rfl, by repeat (first | exact Below.refl _ _ | apply below_alloc | apply pw_below_drewN | apply below_drew1)⟩

end Go.Proofs.YthhmkbchdiflcaaGreatDoor.Q
