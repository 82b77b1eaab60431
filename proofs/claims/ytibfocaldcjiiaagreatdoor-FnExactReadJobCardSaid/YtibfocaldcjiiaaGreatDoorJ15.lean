/- Texts of this claim, merged by a program (wip/tools/merge.py): Q21, Q22, HNames. -/
import Derived.Test.YtibfocaldcjiiaaGreatDoorJ2
import Derived.Test.YtibfocaldcjiiaaGreatDoorJ12
import Derived.Test.YtibfocaldcjiiaaGreatDoorJ5
import Derived.Test.YtibfocaldcjiiaaGreatDoorJ11
import Derived.Test.YtibfocaldcjiiaaGreatDoorJ7
import Derived.Test.YtibfocaldcjiiaaGreatDoorJ10
import Derived.Test.YtibfocaldcjiiaaGreatDoorJ9
-- Printed by a program of this session (wip/tools/myprint.py) that runs the kit's print, hand-proved functions among the others.
namespace Go.Proofs.YtibfocaldcjiiaaGreatDoor.Q
open Go.RowKit Go.Proofs.YtibfocaldcjiiaaGreatDoorW.PrintWords Go.Proofs.YtibfocaldcjiiaaGreatDoorW.PrintLast Go.Proofs.YtibfocaldcjiiaaGreatDoorW.PrintMore
attribute [local go_sem] max2_int min2_int max_two min_two max_three min_three max_four min_four   -- for this text's walks alone
set_option linter.unusedVariables false
set_option linter.unusedSimpArgs false

/-! ### impl_GoodPath: function 217 -/
def impl_GoodPath.f (a0 : ByteArray) : Option (Bool) := if (a0.size : Int) ≤ 60 then ((impl_isLong.f a0).bind fun t103 => (some t103)) else (some false)
set_option maxHeartbeats 8000000 in
set_option maxRecDepth 100000 in
theorem impl_GoodPath.calls (a0 : ByteArray) (r : Bool) (w : World) (h : impl_GoodPath.f a0 = some r) :
  Calls Tryz.prog 217 #[.string a0] w fun e w' => e = .returned (.bool r) ∧ Below w.heap.size w w' := by
 have HB := Aside0.mk (Below.refl w.heap.size w)
 have H : (if (a0.size : Int) ≤ 60 then ((impl_isLong.f a0).bind fun t103 => (some t103)) else (some false)) = some r := h
 clear h
 by_cases c2 : (a0.size : Int) ≤ 60
 ·rw [if_pos c2] at H
  have c2b0 : decide ((a0.size : Int) ≤ 60) = true := decide_eq_true c2
  have c2b1 : decide (a0.size ≤ 60) = true := decide_eq_true (by omega)
  clear c2
  replace H := Option.bind_eq_some_iff.mp H
  obtain ⟨t103, A30, H⟩ := H
  try dsimp only at H
  have A3 := Aside0.mk A30
  clear A30
  obtain rfl := Option.some.inj H
  go_enter Tryz.func217, Tryz.ntmps217
  go_wp2_with (first | (go_at_call 260; (with_reducible refine (impl_isLong.calls a0 t103 _ A3.out).mono ?_); rintro e w4 ⟨rfl, hb⟩; have n0_ := Aside0.mk (below_step (Gtr.bw HB.out) hb); clear HB; have HB := n0_; clear n0_; (try clear hb); (try clear hb2); (try clear hk); (try clear hi)))
  go_ret
  exact ⟨by first | rfl | (simp [errW_none, errW_some] <;> rfl) | (simp [*, errW_none, errW_some] <;> rfl), (Gtr.bw HB.out)⟩
 ·rw [if_neg c2] at H
  have c2b0 : decide ((a0.size : Int) ≤ 60) = false := decide_eq_false c2
  have c2b1 : decide (a0.size ≤ 60) = false := decide_eq_false (by omega)
  clear c2
  obtain rfl := Option.some.inj H
  go_enter Tryz.func217, Tryz.ntmps217
  go_wp2
  go_ret
  exact ⟨by first | rfl | (simp [errW_none, errW_some] <;> rfl) | (simp [*, errW_none, errW_some] <;> rfl), (Gtr.bw HB.out)⟩
end Go.Proofs.YtibfocaldcjiiaaGreatDoor.Q

-- Printed by a program of this session (wip/tools/myprint.py) that runs the kit's print, hand-proved functions among the others.
namespace Go.Proofs.YtibfocaldcjiiaaGreatDoor.Q
open Go.RowKit Go.Proofs.YtibfocaldcjiiaaGreatDoorW.PrintWords Go.Proofs.YtibfocaldcjiiaaGreatDoorW.PrintLast Go.Proofs.YtibfocaldcjiiaaGreatDoorW.PrintMore
attribute [local go_sem] max2_int min2_int max_two min_two max_three min_three max_four min_four   -- for this text's walks alone
set_option linter.unusedVariables false
set_option linter.unusedSimpArgs false

/-! ### impl_isWhole: function 153 -/
def impl_isWhole.f (a0 : ByteArray) : Option (Bool) := (impl_GoodPath.f a0).bind fun t104 => (if t104 = true then (if 0 < (a0.size : Int) then (some ((bt a0 0) == 47)) else (none)) else (some false))
set_option maxHeartbeats 8000000 in
set_option maxRecDepth 100000 in
theorem impl_isWhole.calls (a0 : ByteArray) (r : Bool) (w : World) (h : impl_isWhole.f a0 = some r) :
  Calls Tryz.prog 153 #[.string a0] w fun e w' => e = .returned (.bool r) ∧ Below w.heap.size w w' := by
 have HB := Aside0.mk (Below.refl w.heap.size w)
 have H : ((impl_GoodPath.f a0).bind fun t104 => (if t104 = true then (if 0 < (a0.size : Int) then (some ((bt a0 0) == 47)) else (none)) else (some false))) = some r := h
 clear h
 replace H := Option.bind_eq_some_iff.mp H
 obtain ⟨t104, A20, H⟩ := H
 try dsimp only at H
 have A2 := Aside0.mk A20
 clear A20
 by_cases c3 : t104 = true
 ·subst c3
  have H1 := H
  rw [if_pos rfl] at H1
  clear H
  have H := H1
  clear H1
  by_cases c4 : 0 < (a0.size : Int)
  ·rw [if_pos c4] at H
   have c4b0 : decide (0 < (a0.size : Int)) = true := decide_eq_true c4
   have c4b1 : decide (0 < a0.size) = true := decide_eq_true (by omega)
   clear c4
   obtain rfl := Option.some.inj H
   go_enter Tryz.func153, Tryz.ntmps153
   go_wp2_with (first | ((with_reducible refine gate_callee (f := 217) rfl ?_); refine goesL_ (some 4) rfl rfl Tryz.func217 (by kernel_rfl) rfl #[.string a0] rfl (by (try simp only [List.map_toArray, List.map_cons, List.map_nil]); first | done | rfl | (simp only [List.length_drop, List.length_take]; rfl)) ?_; (with_reducible refine (impl_GoodPath.calls a0 true _ A2.out).mono ?_); rintro e w6 ⟨rfl, hb⟩; refine ⟨_, rfl, ?_⟩; have n0_ := Aside0.mk (below_step (Gtr.bw HB.out) hb); clear HB; have HB := n0_; clear n0_; (try clear hb); (try clear hb2); (try clear hk); (try clear hi); have p5 : 0 ≤ (0 : Int) := (by omega); have q5 : 0 < a0.size := (by have : (0 : Int) < (a0.size : Int) := of_decide_eq_true (by first | (with_reducible assumption) | assumption); omega); have hx5 : ∀ h : 0 < a0.size, ((a0[0]'h).toNat : Int) = bt a0 0 := bt_at a0 0; clear p5; have qi5 : (0 < (a0.size : Int)) = True := eq_true (of_decide_eq_true (by first | (with_reducible assumption) | assumption)); replace q5 := eq_true q5))
   go_ret
   exact ⟨by first | rfl | (simp [errW_none, errW_some] <;> rfl) | (simp [*, errW_none, errW_some] <;> rfl), (Gtr.bw HB.out)⟩
  ·rw [if_neg c4] at H
   exact absurd H (by simp)
 ·replace c3 := Bool.eq_false_iff.mpr c3
  subst c3
  have H1 : (some false) = some r := by rw [if_neg (show ¬ (false = true) by decide)] at H; exact H
  clear H
  have H := H1
  clear H1
  obtain rfl := Option.some.inj H
  go_enter Tryz.func153, Tryz.ntmps153
  go_wp2_with (first | ((with_reducible refine gate_callee (f := 217) rfl ?_); refine goesL_ (some 4) rfl rfl Tryz.func217 (by kernel_rfl) rfl #[.string a0] rfl (by (try simp only [List.map_toArray, List.map_cons, List.map_nil]); first | done | rfl | (simp only [List.length_drop, List.length_take]; rfl)) ?_; (with_reducible refine (impl_GoodPath.calls a0 false _ A2.out).mono ?_); rintro e w7 ⟨rfl, hb⟩; refine ⟨_, rfl, ?_⟩; have n0_ := Aside0.mk (below_step (Gtr.bw HB.out) hb); clear HB; have HB := n0_; clear n0_; (try clear hb); (try clear hb2); (try clear hk); (try clear hi)))
  go_ret
  exact ⟨by first | rfl | (simp [errW_none, errW_some] <;> rfl) | (simp [*, errW_none, errW_some] <;> rfl), (Gtr.bw HB.out)⟩
end Go.Proofs.YtibfocaldcjiiaaGreatDoor.Q

/- impl.namesOf: the names of a way. -/
namespace Go.Proofs.YtibfocaldcjiiaaGreatDoor.Q
open Go.RowKit Go.Proofs.YtibfocaldcjiiaaGreatDoorW.PrintWords Go.Proofs.YtibfocaldcjiiaaGreatDoorW.PrintLast Go.Proofs.YtibfocaldcjiiaaGreatDoorW.PrintMore
attribute [local go_sem] max2_int min2_int max_two min_two max_three min_three max_four min_four   -- for this text's walks alone
set_option linter.unusedVariables false
set_option linter.unusedSimpArgs false

def nameOkB (p : ByteArray) : Bool := partB p && !(p.toList == [46] || p.toList == [46, 46])
theorem GoodName_f (p : ByteArray) : impl_GoodName.f p = some (nameOkB p) := by
  unfold impl_GoodName.f nameOkB impl_isPart.f impl_isDots.f
  simp only [Option.bind_some]
  cases partB p <;> by_cases h1 : p.toList = [46] <;> by_cases h2 : p.toList = [46, 46] <;> simp_all
def impl_namesOf.f (s : ByteArray) : Option (List ByteArray × Bool) :=
  if s.toList = [46] then some ([], true) else if s.size < 4294967281 then some (slashL s, !(slashL s).any (fun p => !nameOkB p)) else none
theorem namesOf_pred (w : World) : PredB 174 #[] Value.string (fun p => !nameOkB p) w := by
  intro W x hb
  have HC := Aside0.mk (impl_GoodName.calls x (nameOkB x) W (GoodName_f x))
  show Calls Tryz.prog 174 #[.string x] W fun e w' => e = .returned (.bool (!nameOkB x)) ∧ Below W.heap.size W w'
  generalize nameOkB x = q at HC ⊢
  go_enter Tryz.func174, Tryz.ntmps174
  go_wp2_with (go_at_call 175; refine HC.out.mono ?_; rintro e w' ⟨rfl, hd⟩)
  go_ret
  exact ⟨rfl, hd⟩
set_option maxHeartbeats 1000000 in
theorem impl_namesOf.calls (a0 : ByteArray) (r1 : List ByteArray) (r2 : Bool) (w : World) (h : impl_namesOf.f a0 = some (r1, r2)) :
    Calls Tryz.prog 127 #[.string a0] w fun e w' => ∃ v0_ : Value, e = .returned (.tuple #[v0_, .bool r2]) ∧ Kd.R Kd.string 9 w' w.heap.size (fun _ => True) v0_ r1 ∧ Below w.heap.size w w' := by
  unfold impl_namesOf.f at h
  split at h
  · rename_i hs
    injection h with h
    injection h with h1 h2
    subst h1 h2
    go_enter Tryz.func127, Tryz.ntmps127
    go_wp2
    go_ret2
    exact ⟨_, rfl, Kd.R_nil _ _ _ _ _, Below.refl _ _⟩
  · rename_i hd
    split at h
    · rename_i hs
      injection h with h
      injection h with h1 h2
      subst h1 h2
      have hle := Lib.countB_le ⟨#[47]⟩ (by decide) a0.size a0 (Nat.le_refl _)
      have hlen := Lib.splitB_all ⟨#[47]⟩ (by decide) 0 _ a0 rfl
      have HS := Aside0.mk (split_world a0 ⟨#[47]⟩ w rfl hs)
      have hn : (slashL a0).length = Lib.countB a0 ⟨#[47]⟩ + 1 := hlen
      have hbound : (slashL a0).length ≤ 4294967282 := by omega
      change Aside0 (Calls _ _ _ _ fun e w' => e = .returned (.slice _ (slashL a0).length (slashL a0).length) ∧ w' = w.alloc (.cells ((slashL a0).map Value.string).toArray _)) at HS
      have eg : ∀ args w, (callFunc 174 args).run Tryz.prog w = .ok (.enter 174 args) w := enters_of Tryz.func174 (by kernel_rfl) rfl
      clear hle hlen hn hs
      generalize slashL a0 = l at *
      have hR := new_strings w l (by unfold maxLen; omega)
      obtain ⟨A, c, e0, hc, hC⟩ := Kd.R_reads hR
      injection e0 with e1 _ e3
      subst e1; subst e3
      have HC := Aside0.mk (containsFuncS eg (fun p => !nameOkB p) _ _ l _ (namesOf_pred _) hC hc)
      have HR := Aside0.mk hR
      have hd1 : (a0.toList == [46]) = false := by simpa using hd
      have hd2 : (a0.toList != [46]) = true := by simpa using hd
      clear eg hR hC hc hbound hd
      generalize l.any (fun p => !nameOkB p) = q at HC ⊢
      go_enter Tryz.func127, Tryz.ntmps127
      go_wp2_with (first | (go_at_call 72; refine HS.out.mono ?_; rintro e w' ⟨rfl, rfl⟩) | (go_at_call 151; refine HC.out.mono ?_; rintro e w2 ⟨rfl, hb2⟩))
      go_ret2
      exact ⟨_, rfl, Kd.R_below HR.out hb2, ((Below.refl _ _).alloc (Nat.le_refl _) _).trans (hb2.mono (by simp))⟩
    · cases h

end Go.Proofs.YtibfocaldcjiiaaGreatDoor.Q
