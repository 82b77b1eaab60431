/- Texts of this claim, merged by a program (wip/tools/merge.py): HAlone. -/
import Derived.Test.YtibfocaldcjiiaaDoorA1
import Derived.Test.YtibfocaldcjiiaaDoorA2
import Derived.Test.YtibfocaldcjiiaaDoorA3
import Derived.Test.YtibfocaldcjiiaaDoorA8
import Derived.Test.YtibfocaldcjiiaaDoorA9
import Derived.Test.YtibfocaldcjiiaaDoorA10
/- spec.l17Alone: whether an item is right by itself, as the reference has it. -/
namespace Go.Proofs.YtibfocaldcjiiaaDoor.Q
open Go.RowKit Go.Proofs.YtibfocaldcjiiaaDoorW.PrintWords Go.Proofs.YtibfocaldcjiiaaDoorW.PrintLast Go.Proofs.YtibfocaldcjiiaaDoorW.PrintMore
attribute [local go_sem] max2_int min2_int max_two min_two max_three min_three max_four min_four   -- for this text's walks alone
set_option linter.unusedVariables false
set_option linter.unusedSimpArgs false

theorem bcell {W w1 : World} (hb : Below W.heap.size W w1) : ∀ b o, b < W.heap.size → w1.cell? ⟨b, o, none⟩ = W.cell? ⟨b, o, none⟩ := fun b o h => hb.cell (p := ⟨b, o, none⟩) h
theorem l1Mode_f (n : Int) : spec_l1Mode.f n = some (inB 0 511 n) := by unfold spec_l1Mode.f; rw [l1In_f]; rfl
set_option maxHeartbeats 1000000 in
theorem l3Entries_nil (w : World) : Calls Tryd.prog 107 #[.agg #[.slice none 0 0, .int .i64 0], .slice none 0 0] w fun e w' => e = .returned (.bool true) ∧ Below w.heap.size w w' := by
  have hu1 := Tryd.underlying90
  have hu3 := Tryd.underlying116
  go_enter Tryd.func107, Tryd.ntmps107
  go_wp2
  refine wp_loop_rounds 1 ?_
  rw [rounds_succ]
  go_wp2
  go_ret
  exact ⟨rfl, by repeat (first | exact Below.refl _ _ | apply below_alloc | apply pw_below_drewN | apply below_drew1)⟩
set_option maxHeartbeats 4000000 in
set_option maxRecDepth 100000 in
theorem l3Node_bare (k m u g t : Int) (d : ByteArray) (hk : k = 1 ∨ k = 2 ∨ k = 3) (hd : d.size < 4294967281) (w : World) :
    Calls Tryd.prog 81 #[.agg #[.slice none 0 0, .int .i64 0], .agg #[.int .i64 k, .int .i64 m, .int .i64 u, .int .i64 g, .int .i64 t, .string d, .slice none 0 0]] w
      fun e w' => e = .returned (.bool (bareB k m u g t d)) ∧ Below w.heap.size w w' := by
  have hu1 := Tryd.underlying90
  have hu2 := Tryd.underlying93
  have HM := Aside0.mk (fun W => spec_l1Mode.calls m _ W (l1Mode_f m))
  have HU := Aside0.mk (fun W => spec_l1In.calls u 0 99 _ W (l1In_f u 0 99))
  have HG := Aside0.mk (fun W => spec_l1In.calls g 0 99 _ W (l1In_f g 0 99))
  have HT := Aside0.mk (fun W => spec_l1In.calls t 0 1000000 _ W (l1In_f t 0 1000000))
  obtain ⟨kp, hkp⟩ := Ev.rounds (l2Path_ev d hd)
  have HP := Aside0.mk (fun W => spec_l2Path.calls kp d _ W hkp)
  have HE := Aside0.mk l3Entries_nil
  have HD : Aside0 (((d.toList == []) = nilB d) ∧ (d.toList.isEmpty = nilB d)) := ⟨nilB_eq d, by rw [← nilB_eq]; cases d.toList <;> rfl⟩
  have k0 : (k == 0) = false := beq_eq_false_iff_ne.mpr (by omega)
  clear hkp hd
  by_cases h1 : inB 0 511 m = true
  · by_cases h2 : inB 0 99 u = true
    · by_cases h3 : inB 0 99 g = true
      · by_cases h4 : inB 0 1000000 t = true
        · have HF : Aside0 (bareB k m u g t d = if k = 1 then decide (d.size ≤ 60) else if k = 3 then goodPathB d else nilB d) := ⟨by unfold bareB; rw [h1, h2, h3, h4]; rfl⟩
          rw [h1] at HM; rw [h2] at HU; rw [h3] at HG; rw [h4] at HT
          clear h1 h2 h3 h4
          rcases hk with rfl | rfl | rfl
          · rw [HF.out, if_pos rfl]
            clear HF HP HD HE k0
            by_cases hz : d.size ≤ 60
            · have hz1 : decide ((d.size : Int) ≤ 60) = true := by simp; omega
              have hz2 : decide (d.size ≤ 60) = true := by simp; omega
              rw [hz2]
              clear hz hz2
              go_enter Tryd.func81, Tryd.ntmps81
              go_wp2_with fail
              refine (HM.out _).mono ?_; rintro e w1 ⟨rfl, ⟨n1, rfl⟩⟩
              go_wp2_with fail
              refine (HU.out _).mono ?_; rintro e w1 ⟨rfl, ⟨n2, rfl⟩⟩
              go_wp2_with fail
              refine (HG.out _).mono ?_; rintro e w1 ⟨rfl, ⟨n3, rfl⟩⟩
              go_wp2_with fail
              refine (HT.out _).mono ?_; rintro e w1 ⟨rfl, ⟨n4, rfl⟩⟩
              go_wp2
              go_ret
              exact ⟨by first | rfl | (simp; done) | (simp; omega), by repeat (first | exact Below.refl _ _ | apply below_alloc | apply pw_below_drewN | apply below_drew1)⟩
            · have hz1 : decide ((d.size : Int) ≤ 60) = false := by simp; omega
              have hz2 : decide (d.size ≤ 60) = false := by simp; omega
              rw [hz2]
              clear hz hz2
              go_enter Tryd.func81, Tryd.ntmps81
              go_wp2_with fail
              refine (HM.out _).mono ?_; rintro e w1 ⟨rfl, ⟨n1, rfl⟩⟩
              go_wp2_with fail
              refine (HU.out _).mono ?_; rintro e w1 ⟨rfl, ⟨n2, rfl⟩⟩
              go_wp2_with fail
              refine (HG.out _).mono ?_; rintro e w1 ⟨rfl, ⟨n3, rfl⟩⟩
              go_wp2_with fail
              refine (HT.out _).mono ?_; rintro e w1 ⟨rfl, ⟨n4, rfl⟩⟩
              go_wp2
              go_ret
              exact ⟨by first | rfl | (simp; done) | (simp; omega), by repeat (first | exact Below.refl _ _ | apply below_alloc | apply pw_below_drewN | apply below_drew1)⟩
          · rw [HF.out, if_neg (by decide), if_neg (by decide)]
            by_cases hz : nilB d = true
            · have hz1 : d.toList = [] := by have := HD.out.1; rw [hz] at this; simpa using this
              rw [hz]
              clear HF HP HD k0 hz
              go_enter Tryd.func81, Tryd.ntmps81
              go_wp2_with fail
              refine (HM.out _).mono ?_; rintro e w1 ⟨rfl, ⟨n1, rfl⟩⟩
              go_wp2_with fail
              refine (HU.out _).mono ?_; rintro e w1 ⟨rfl, ⟨n2, rfl⟩⟩
              go_wp2_with fail
              refine (HG.out _).mono ?_; rintro e w1 ⟨rfl, ⟨n3, rfl⟩⟩
              go_wp2_with fail
              refine (HT.out _).mono ?_; rintro e w1 ⟨rfl, ⟨n4, rfl⟩⟩
              go_wp2_with fail
              refine (HE.out _).mono ?_; rintro e w1 ⟨rfl, hd⟩
              go_wp2
              go_ret
              exact ⟨by first | rfl | (simp; done), below_step (by repeat (first | exact Below.refl _ _ | apply below_alloc | apply pw_below_drewN | apply below_drew1)) hd⟩
            · have hz' : nilB d = false := by simpa using hz
              have hz1 : ¬ d.toList = [] := by intro e; have := HD.out.1; rw [hz', e] at this; simp at this
              rw [hz']
              clear HF HP HD HE k0 hz hz'
              go_enter Tryd.func81, Tryd.ntmps81
              go_wp2_with fail
              refine (HM.out _).mono ?_; rintro e w1 ⟨rfl, ⟨n1, rfl⟩⟩
              go_wp2_with fail
              refine (HU.out _).mono ?_; rintro e w1 ⟨rfl, ⟨n2, rfl⟩⟩
              go_wp2_with fail
              refine (HG.out _).mono ?_; rintro e w1 ⟨rfl, ⟨n3, rfl⟩⟩
              go_wp2_with fail
              refine (HT.out _).mono ?_; rintro e w1 ⟨rfl, ⟨n4, rfl⟩⟩
              go_wp2
              go_ret
              exact ⟨by first | rfl | (simp; done), by repeat (first | exact Below.refl _ _ | apply below_alloc | apply pw_below_drewN | apply below_drew1)⟩
          · rw [HF.out, if_neg (by decide), if_pos rfl]
            clear HF HD HE k0
            cases hq : goodPathB d
            all_goals
              rw [hq] at HP
              clear hq
              go_enter Tryd.func81, Tryd.ntmps81
              go_wp2_with fail
              refine (HM.out _).mono ?_; rintro e w1 ⟨rfl, ⟨n1, rfl⟩⟩
              go_wp2_with fail
              refine (HU.out _).mono ?_; rintro e w1 ⟨rfl, ⟨n2, rfl⟩⟩
              go_wp2_with fail
              refine (HG.out _).mono ?_; rintro e w1 ⟨rfl, ⟨n3, rfl⟩⟩
              go_wp2_with fail
              refine (HT.out _).mono ?_; rintro e w1 ⟨rfl, ⟨n4, rfl⟩⟩
              go_wp2_with fail
              refine (HP.out _).mono ?_; rintro e w1 ⟨rfl, hd⟩
              have hc := bcell hd
              go_wp2
              go_ret
              exact ⟨by first | rfl | (simp; done), below_step (by repeat (first | exact Below.refl _ _ | apply below_alloc | apply pw_below_drewN | apply below_drew1)) hd⟩
        · have HF : Aside0 (bareB k m u g t d = false) := ⟨by unfold bareB; simp [h1, h2, h3, h4]⟩
          have h' : inB 0 1000000 t = false := by simpa using h4
          rw [h1] at HM
          rw [h2] at HU
          rw [h3] at HG
          rw [h'] at HT
          rw [HF.out]
          clear  HP HD HE hk HF h' h1 h2 h3 h4
          go_enter Tryd.func81, Tryd.ntmps81
          go_wp2_with fail
          refine (HM.out _).mono ?_; rintro e w1 ⟨rfl, ⟨n1, rfl⟩⟩
          go_wp2_with fail
          refine (HU.out _).mono ?_; rintro e w1 ⟨rfl, ⟨n2, rfl⟩⟩
          go_wp2_with fail
          refine (HG.out _).mono ?_; rintro e w1 ⟨rfl, ⟨n3, rfl⟩⟩
          go_wp2_with fail
          refine (HT.out _).mono ?_; rintro e w1 ⟨rfl, ⟨n4, rfl⟩⟩
          go_wp2
          go_ret
          exact ⟨rfl, by repeat (first | exact Below.refl _ _ | apply below_alloc | apply pw_below_drewN | apply below_drew1)⟩
      · have HF : Aside0 (bareB k m u g t d = false) := ⟨by unfold bareB; simp [h1, h2, h3]⟩
        have h' : inB 0 99 g = false := by simpa using h3
        rw [h1] at HM
        rw [h2] at HU
        rw [h'] at HG
        rw [HF.out]
        clear HT HP HD HE hk HF h' h1 h2 h3
        go_enter Tryd.func81, Tryd.ntmps81
        go_wp2_with fail
        refine (HM.out _).mono ?_; rintro e w1 ⟨rfl, ⟨n1, rfl⟩⟩
        go_wp2_with fail
        refine (HU.out _).mono ?_; rintro e w1 ⟨rfl, ⟨n2, rfl⟩⟩
        go_wp2_with fail
        refine (HG.out _).mono ?_; rintro e w1 ⟨rfl, ⟨n3, rfl⟩⟩
        go_wp2
        go_ret
        exact ⟨rfl, by repeat (first | exact Below.refl _ _ | apply below_alloc | apply pw_below_drewN | apply below_drew1)⟩
    · have HF : Aside0 (bareB k m u g t d = false) := ⟨by unfold bareB; simp [h1, h2]⟩
      have h' : inB 0 99 u = false := by simpa using h2
      rw [h1] at HM
      rw [h'] at HU
      rw [HF.out]
      clear HG HT HP HD HE hk HF h' h1 h2
      go_enter Tryd.func81, Tryd.ntmps81
      go_wp2_with fail
      refine (HM.out _).mono ?_; rintro e w1 ⟨rfl, ⟨n1, rfl⟩⟩
      go_wp2_with fail
      refine (HU.out _).mono ?_; rintro e w1 ⟨rfl, ⟨n2, rfl⟩⟩
      go_wp2
      go_ret
      exact ⟨rfl, by repeat (first | exact Below.refl _ _ | apply below_alloc | apply pw_below_drewN | apply below_drew1)⟩
  · have HF : Aside0 (bareB k m u g t d = false) := ⟨by unfold bareB; simp [h1]⟩
    have h' : inB 0 511 m = false := by simpa using h1
    rw [h'] at HM
    rw [HF.out]
    clear HU HG HT HP HD HE hk HF h' h1
    go_enter Tryd.func81, Tryd.ntmps81
    go_wp2_with fail
    refine (HM.out _).mono ?_; rintro e w1 ⟨rfl, ⟨n1, rfl⟩⟩
    go_wp2
    go_ret
    exact ⟨rfl, by repeat (first | exact Below.refl _ _ | apply below_alloc | apply pw_below_drewN | apply below_drew1)⟩
def spec_l17Alone.f (a0_0 : ByteArray) (a0_1 : Int) (a0_2 : Int) (a0_3 : Int) (a0_4 : Int) (a0_5 : Int) (a0_6 : Int) (a0_7 : ByteArray) (a1 : Int) : Option Bool :=
  if a0_7.size < 4294967281 then some (inB 1 3 a0_1 && (inB 0 a1 a0_6 && (if a0_6 < a1 then a0_1 != 2 && (a0_2 == 0 && (a0_3 == 0 && (a0_4 == 0 && (a0_5 == 0 && nilB a0_7)))) else bareB a0_1 a0_2 a0_3 a0_4 a0_5 a0_7))) else none
set_option maxHeartbeats 4000000 in
set_option maxRecDepth 100000 in
theorem spec_l17Alone.calls (a0_0 : ByteArray) (a0_1 : Int) (a0_2 : Int) (a0_3 : Int) (a0_4 : Int) (a0_5 : Int) (a0_6 : Int) (a0_7 : ByteArray) (a1 : Int) (r : Bool) (w : World) (h : spec_l17Alone.f a0_0 a0_1 a0_2 a0_3 a0_4 a0_5 a0_6 a0_7 a1 = some r) :
    Calls Tryd.prog 59 #[.agg #[.string a0_0, .int .i64 a0_1, .int .i64 a0_2, .int .i64 a0_3, .int .i64 a0_4, .int .i64 a0_5, .int .i64 a0_6, .string a0_7], .int .i64 a1] w fun e w' => e = .returned (.bool r) ∧ Below w.heap.size w w' := by
  unfold spec_l17Alone.f at h
  by_cases hsz : a0_7.size < 4294967281
  case neg => rw [if_neg hsz] at h; cases h
  rw [if_pos hsz] at h
  injection h with h
  subst h
  have hu1 := Tryd.underlying90
  have hu2 := Tryd.underlying93
  have hu4 := Tryd.underlying50
  have HW := Aside0.mk (fun W => spec_l1In.calls a0_1 1 3 _ W (l1In_f a0_1 1 3))
  have HS := Aside0.mk (fun W => spec_l1In.calls a0_6 0 a1 _ W (l1In_f a0_6 0 a1))
  by_cases h1 : inB 1 3 a0_1 = true
  · have hk : a0_1 = 1 ∨ a0_1 = 2 ∨ a0_1 = 3 := by unfold inB at h1; simp at h1; omega
    have HN := Aside0.mk (fun W => l3Node_bare a0_1 a0_2 a0_3 a0_4 a0_5 a0_7 hk hsz W)
    rw [h1] at HW ⊢
    rw [Bool.true_and]
    clear h1 hk hsz
    by_cases h2 : inB 0 a1 a0_6 = true
    · rw [h2] at HS ⊢
      rw [Bool.true_and]
      clear h2
      by_cases h3 : a0_6 < a1
      · rw [if_pos h3]
        have h3' : decide (a0_6 < a1) = true := by simpa using h3
        clear h3 HN
        rw [← nilB_eq]
        generalize hq : (a0_1 != 2 && (a0_2 == 0 && (a0_3 == 0 && (a0_4 == 0 && (a0_5 == 0 && (a0_7.toList == [])))))) = q
        have HQ := Aside0.mk hq
        clear hq
        go_enter Tryd.func59, Tryd.ntmps59
        go_wp2_with fail
        refine (HW.out _).mono ?_; rintro e w1 ⟨rfl, ⟨n1, rfl⟩⟩
        go_wp2_with fail
        refine (HS.out _).mono ?_; rintro e w1 ⟨rfl, ⟨n2, rfl⟩⟩
        go_wp2
        all_goals
          go_ret
          refine ⟨?_, by repeat (first | exact Below.refl _ _ | apply below_alloc | apply pw_below_drewN | apply below_drew1)⟩
          rw [← HQ.out]
          simp_all
      · rw [if_neg h3]
        have h3' : decide (a0_6 < a1) = false := by simpa using h3
        clear h3
        generalize bareB a0_1 a0_2 a0_3 a0_4 a0_5 a0_7 = q at HN ⊢
        go_enter Tryd.func59, Tryd.ntmps59
        go_wp2_with fail
        refine (HW.out _).mono ?_; rintro e w1 ⟨rfl, ⟨n1, rfl⟩⟩
        go_wp2_with fail
        refine (HS.out _).mono ?_; rintro e w1 ⟨rfl, ⟨n2, rfl⟩⟩
        go_wp2_with fail
        refine (HN.out _).mono ?_; rintro e w1 ⟨rfl, hd⟩
        go_wp2
        go_ret
        exact ⟨rfl, below_step (by repeat (first | exact Below.refl _ _ | apply below_alloc | apply pw_below_drewN | apply below_drew1)) hd⟩
    · have h2' : inB 0 a1 a0_6 = false := by simpa using h2
      rw [h2'] at HS ⊢
      rw [Bool.false_and]
      clear h2 h2' HN
      go_enter Tryd.func59, Tryd.ntmps59
      go_wp2_with fail
      refine (HW.out _).mono ?_; rintro e w1 ⟨rfl, ⟨n1, rfl⟩⟩
      go_wp2_with fail
      refine (HS.out _).mono ?_; rintro e w1 ⟨rfl, ⟨n2, rfl⟩⟩
      go_wp2
      go_ret
      exact ⟨rfl, by repeat (first | exact Below.refl _ _ | apply below_alloc | apply pw_below_drewN | apply below_drew1)⟩
  · have h1' : inB 1 3 a0_1 = false := by simpa using h1
    rw [h1'] at HW ⊢
    rw [Bool.false_and]
    clear h1 h1' HS hsz
    go_enter Tryd.func59, Tryd.ntmps59
    go_wp2_with fail
    refine (HW.out _).mono ?_; rintro e w1 ⟨rfl, ⟨n1, rfl⟩⟩
    go_wp2
    go_ret
    exact ⟨rfl, by repeat (first | exact Below.refl _ _ | apply below_alloc | apply pw_below_drewN | apply below_drew1)⟩

end Go.Proofs.YtibfocaldcjiiaaDoor.Q
