/- Texts of this claim, merged by a program (wip/tools/merge.py): HPathsEv, HAlone, Q44, Q45. -/
import Derived.Test.YthhmkbchdiflcaaGreatDoorF2
import Derived.Test.YthhmkbchdiflcaaGreatDoorF3
import Derived.Test.YthhmkbchdiflcaaGreatDoorF4
import Derived.Test.YthhmkbchdiflcaaGreatDoorF8
import Derived.Test.YthhmkbchdiflcaaGreatDoorF13
import Derived.Test.YthhmkbchdiflcaaGreatDoorF11
import Derived.Test.YthhmkbchdiflcaaGreatDoorF14
import Derived.Test.YthhmkbchdiflcaaGreatDoorF15
/- The reference's names, parts and paths come to the program's. -/
namespace Go.Proofs.YthhmkbchdiflcaaGreatDoor.Q
open Go.RowKit Go.Proofs.YthhmkbchdiflcaaGreatDoorW.PrintWords Go.Proofs.YthhmkbchdiflcaaGreatDoorW.PrintLast Go.Proofs.YthhmkbchdiflcaaGreatDoorW.PrintMore
attribute [local go_sem] max2_int min2_int max_two min_two max_three min_three max_four min_four   -- for this text's walks alone
set_option linter.unusedVariables false
set_option linter.unusedSimpArgs false

theorem nameB_iff (c : Int) : nameB c = true ↔ (97 ≤ c ∧ c ≤ 122) ∨ (48 ≤ c ∧ c ≤ 57) ∨ c = 46 ∨ c = 95 ∨ c = 45 := by
  unfold nameB; simp
theorem name_step {α : Type} (c : Int) (X F : α) :
    (if c < 97 then (if c < 48 then (if c = 46 then X else (if c = 95 then X else (if c = 45 then X else F))) else (if c > 57 then (if c = 46 then X else (if c = 95 then X else (if c = 45 then X else F))) else X)) else (if c > 122 then (if c < 48 then (if c = 46 then X else (if c = 95 then X else (if c = 45 then X else F))) else (if c > 57 then (if c = 46 then X else (if c = 95 then X else (if c = 45 then X else F))) else X)) else X)) = if nameB c = true then X else F := by
  by_cases h : nameB c = true
  · rw [if_pos h]
    have := (nameB_iff c).mp h
    repeat' split
    all_goals first | rfl | omega
  · rw [if_neg h]
    have := fun q => h ((nameB_iff c).mpr q)
    repeat' split
    all_goals first | rfl | (exfalso; apply this; omega)
theorem l1In_f (n lo hi : Int) : spec_l1In.f n lo hi = some (inB lo hi n) := by
  unfold spec_l1In.f inB
  by_cases h : n ≥ lo
  · rw [if_pos h]; have : lo ≤ n := h; simp [this]
  · rw [if_neg h]; have : ¬ lo ≤ n := h; simp [this]
/-- What the reference's loop over the bytes from place i on ends in. -/
def nameEnd (s : ByteArray) : Bool := inB 1 8 s.size && !(s.toList == [46] || s.toList == [46, 46])
theorem l2Name_loop (s : ByteArray) (hs : s.size < 4294967281) (d : Nat) : ∀ i : Nat, i + d = s.size → Ev (fun k => spec_l2Name.l0 k s (i : Int)) (((bytesOf s).drop i).all nameB && nameEnd s) := by
  induction d with
  | zero =>
    intro i hi
    refine Ev.step (f := fun _ => some (nameEnd s)) (fun k => ?_) ?_
    · simp only [spec_l2Name.l0]
      rw [if_neg (by omega), l1In_f]
      unfold nameEnd
      simp only [Option.bind_some]
      cases inB 1 8 s.size
      · rfl
      · by_cases h1 : s.toList = [46]
        · simp [h1]
        · have e1 : (s.toList == [46]) = false := by simpa using h1
          rw [if_pos rfl, if_neg h1, e1]
          simp [bne]
    · rw [List.drop_of_length_le (by rw [bytesOf_length]; omega)]
      simpa using Ev.now (nameEnd s)
  | succ d ih =>
    intro i hi
    have hlt : i < s.size := by omega
    have hw := step_n (i := i) (n := s.size) hlt (by omega)
    have e : ∀ k, spec_l2Name.l0 (k + 1) s (i : Int) = if nameB (bt s i) = true then spec_l2Name.l0 k s ((i + 1 : Nat) : Int) else some false := fun k => by
      simp only [spec_l2Name.l0]
      rw [if_pos (by omega), if_pos (by omega), hw, name_step]
    have hdrop : (bytesOf s).drop i = bt s i :: (bytesOf s).drop (i + 1) := by
      rw [List.drop_eq_getElem_cons (by rw [bytesOf_length]; exact hlt)]
      congr 1
      have := rd_bytesOf s (i : Int)
      rw [← this]
      simp [rd, rdOf, List.getD, bytesOf_length, hlt]
    rw [hdrop, List.all_cons]
    by_cases hn : nameB (bt s i) = true
    · rw [hn, Bool.true_and]
      exact Ev.step (fun k => by rw [e k, if_pos hn]) (ih (i + 1) (by omega))
    · have hn' : nameB (bt s i) = false := by simpa using hn
      rw [hn', Bool.false_and, Bool.false_and]
      exact Ev.step (f := fun _ => some false) (fun k => by rw [e k, if_neg hn]) (Ev.now _)
theorem inB_nat (lo hi : Nat) (n : Nat) : inB lo hi n = (decide (lo ≤ n) && decide (n ≤ hi)) := by
  unfold inB; simp
theorem nameOk_eq (s : ByteArray) : ((bytesOf s).all nameB && nameEnd s) = nameOkB s := by
  unfold nameOkB partB nameEnd
  rw [show inB 1 8 (s.size : Int) = (decide (1 ≤ s.size) && decide (s.size ≤ 8)) from inB_nat 1 8 s.size]
  have : (bytesOf s).all nameB = !(bytesOf s).any (fun b => !nameB b) := by
    rw [List.all_eq_not_any_not]
  rw [this]
  cases (bytesOf s).any (fun b => !nameB b) <;> cases decide (1 ≤ s.size) <;> cases decide (s.size ≤ 8) <;> simp
theorem l2Name_ev (s : ByteArray) (hs : s.size < 4294967281) : Ev (fun k => spec_l2Name.f k s) (nameOkB s) := by
  rw [← nameOk_eq]
  have h := l2Name_loop s hs s.size 0 (by omega)
  rw [List.drop_zero] at h
  exact h
theorem rdS (xs : List ByteArray) (i : Nat) (h : i < xs.length) : rdOf ByteArray.empty xs (i : Int) = xs[i] := by
  simp [rdOf, List.getD, h]
theorem l2Parts_loop (l : List ByteArray) (hl : l.length ≤ 4294967282) (d : Nat) : ∀ (i : Nat) (out : List ByteArray), i + d = l.length → out.length ≤ i →
    Ev (fun k => spec_l2Parts.l0 k out l (l.length : Int) (i : Int)) (out ++ (l.drop i).filter fun p => !nilB p) := by
  induction d with
  | zero =>
    intro i out hi ho
    refine Ev.step (f := fun _ => some out) (fun k => ?_) ?_
    · simp only [spec_l2Parts.l0]; rw [if_neg (by omega)]
    · rw [List.drop_of_length_le (by omega)]; simpa using Ev.now out
  | succ d ih =>
    intro i out hi ho
    have hlt : i < l.length := by omega
    have hw := step_n (i := i) (n := l.length) hlt (by omega)
    rw [List.drop_eq_getElem_cons hlt, List.filter_cons]
    by_cases hc : l[i].toList = []
    · have hn : nilB l[i] = true := by rw [← nilB_eq]; simpa using hc
      rw [hn, Bool.not_true, if_neg (by simp)]
      refine Ev.step (f := fun k => spec_l2Parts.l0 k out l (l.length : Int) ((i + 1 : Nat) : Int)) (fun k => ?_) (ih (i + 1) out (by omega) (by omega))
      simp only [spec_l2Parts.l0]
      rw [if_pos (by omega), if_pos (by omega), if_pos (by omega), rdS _ _ hlt, if_pos hc, hw]
    · have hn : nilB l[i] = false := by rw [← nilB_eq]; simpa using hc
      rw [hn, Bool.not_false, if_pos rfl]
      have h2 := ih (i + 1) (out ++ [l[i]]) (by omega) (by simp; omega)
      refine Ev.step (f := fun k => spec_l2Parts.l0 k (out ++ [l[i]]) l (l.length : Int) ((i + 1 : Nat) : Int)) (fun k => ?_) (by simpa using h2)
      simp only [spec_l2Parts.l0]
      rw [if_pos (by omega), if_pos (by omega), if_pos (by omega), rdS _ _ hlt, if_neg hc, if_pos (by omega), hw]
theorem slash_len (s : ByteArray) (hs : s.size < 4294967281) : (slashL s).length ≤ 4294967282 := by
  unfold slashL
  rw [← show segs s 47 s.size 0 0 = _ from segs_split s 47]
  have := segs_len s 47 s.size 0 0
  omega
theorem l2Parts_ev (s : ByteArray) (hs : s.size < 4294967281) : Ev (fun k => spec_l2Parts.f k s) (partsL s) := by
  refine Ev.bind (slash_ev s hs) ?_
  have := l2Parts_loop (slashL s) (slash_len s hs) (slashL s).length 0 [] (by omega) (by simp)
  simpa [partsL] using this
theorem parts_mem_size (s : ByteArray) : ∀ p ∈ partsL s, p.size ≤ s.size := by
  intro p hp
  have hm : p ∈ slashL s := (List.mem_filter.mp hp).1
  unfold slashL at hm
  rw [← show segs s 47 s.size 0 0 = _ from segs_split s 47] at hm
  have key : ∀ d fr i, i ≤ s.size → ∀ p ∈ segs s 47 d fr i, p.size ≤ s.size := by
    intro d
    induction d with
    | zero => intro fr i hi p hp; simp only [segs, List.mem_singleton] at hp; subst hp; simp
    | succ d ih =>
      intro fr i hi p hp
      simp only [segs] at hp
      by_cases hi2 : i < s.size
      · split at hp
        · rcases List.mem_cons.mp hp with rfl | h
          · simp; omega
          · exact ih _ _ (by omega) p h
        · exact ih _ _ (by omega) p hp
      · have hb : bt s i = 0 := by unfold bt; rw [dif_neg (by simpa using hi2)]
        rw [if_neg (by rw [hb]; decide)] at hp
        have : ∀ d fr j, s.size ≤ j → ∀ p ∈ segs s 47 d fr j, p.size ≤ s.size := by
          intro d
          induction d with
          | zero => intro fr j hj p hp; simp only [segs, List.mem_singleton] at hp; subst hp; simp
          | succ d ih =>
            intro fr j hj p hp
            simp only [segs] at hp
            have hb : bt s j = 0 := by unfold bt; rw [dif_neg (by simp; omega)]
            rw [if_neg (by rw [hb]; decide)] at hp
            exact ih _ _ (by omega) p hp
        exact this d fr (i + 1) (by omega) p hp
  exact key _ _ _ (by omega) p hm
/-- A part is a name, or dots. -/
def dotsOr (p : ByteArray) : Bool := nameOkB p || (p.toList == [46] || p.toList == [46, 46])
theorem part_of_dots {p : ByteArray} (h : p.toList = [46] ∨ p.toList = [46, 46]) : partB p = true := by
  have hd : p.data.toList = p.toList := (ByteArray.toList_eq p).symm
  have hsz : p.size = p.toList.length := by rw [← hd, data_length]
  unfold partB bytesOf
  rw [hd]
  rcases h with h | h <;> rw [hsz, h] <;> decide
theorem dotsOr_eq (p : ByteArray) : dotsOr p = partB p := by
  unfold dotsOr nameOkB
  by_cases h1 : p.toList = [46]
  · rw [part_of_dots (.inl h1)]; simp [h1]
  · by_cases h2 : p.toList = [46, 46]
    · rw [part_of_dots (.inr h2)]; simp [h2]
    · have e1 : (p.toList == [46]) = false := by simpa using h1
      have e2 : (p.toList == [46, 46]) = false := by simpa using h2
      rw [e1, e2]
      simp
theorem l2Path_loop (s : ByteArray) (l : List ByteArray) (hl : l.length ≤ 4294967282) (hm : ∀ p ∈ l, p.size < 4294967281) (d : Nat) : ∀ i : Nat, i + d = l.length →
    Ev (fun k => spec_l2Path.l0 k s l (l.length : Int) (i : Int)) ((l.drop i).all partB && inB 1 60 s.size) := by
  induction d with
  | zero =>
    intro i hi
    refine Ev.step (f := fun _ => some (inB 1 60 s.size)) (fun k => ?_) ?_
    · simp only [spec_l2Path.l0]; rw [if_neg (by omega), l1In_f]; rfl
    · rw [List.drop_of_length_le (by omega)]; simpa using Ev.now (inB 1 60 s.size)
  | succ d ih =>
    intro i hi
    have hlt : i < l.length := by omega
    have hw := step_n (i := i) (n := l.length) hlt (by omega)
    rw [List.drop_eq_getElem_cons hlt, List.all_cons, ← dotsOr_eq]
    refine Ev.step (f := fun k => (spec_l2Name.f k l[i]).bind fun t122 => (if t122 = true then (spec_l2Path.l0 k s l (l.length : Int) ((i + 1 : Nat) : Int)) else (if l[i].toList = ([46] : List UInt8) then (spec_l2Path.l0 k s l (l.length : Int) ((i + 1 : Nat) : Int)) else (if l[i].toList = ([46, 46] : List UInt8) then (spec_l2Path.l0 k s l (l.length : Int) ((i + 1 : Nat) : Int)) else (some false))))) (fun k => ?_) ?_
    · simp only [spec_l2Path.l0]
      rw [if_pos (by omega), if_pos (by omega), if_pos (by omega), rdS _ _ hlt, hw]
    · refine Ev.bind (l2Name_ev l[i] (hm _ (List.getElem_mem hlt))) ?_
      unfold dotsOr
      cases nameOkB l[i]
      · by_cases h1 : l[i].toList = [46]
        · simp only [h1, if_true, Bool.false_eq_true, if_false]
          simpa using ih (i + 1) (by omega)
        · by_cases h2 : l[i].toList = [46, 46]
          · simp only [h2, if_true, Bool.false_eq_true, if_false]
            simpa using ih (i + 1) (by omega)
          · simp only [h1, h2, Bool.false_eq_true, if_false]
            have e1 : (l[i].toList == [46]) = false := by simpa using h1
            have e2 : (l[i].toList == [46, 46]) = false := by simpa using h2
            rw [e1, e2]
            exact Ev.now _
      · simp only [if_true, Bool.true_or, Bool.true_and]
        exact ih (i + 1) (by omega)
theorem l2Path_ev (s : ByteArray) (hs : s.size < 4294967281) : Ev (fun k => spec_l2Path.f k s) (goodPathB s) := by
  refine Ev.bind (l2Parts_ev s hs) ?_
  have h := l2Path_loop s (partsL s) (Nat.le_trans (List.length_filter_le _ _) (slash_len s hs)) (fun p hp => by have := parts_mem_size s p hp; omega) (partsL s).length 0 (by omega)
  have e : ((partsL s).all partB && inB 1 60 s.size) = goodPathB s := by
    unfold goodPathB longB nilB
    rw [show inB 1 60 (s.size : Int) = (decide (1 ≤ s.size) && decide (s.size ≤ 60)) from inB_nat 1 60 s.size]
    have : (partsL s).all partB = !(partsL s).any (fun b => !partB b) := by rw [List.all_eq_not_any_not]
    rw [this]
    have h0 : decide (1 ≤ s.size) = !decide (s.size = 0) := by
      by_cases hz : s.size = 0 <;> simp [hz]
      omega
    rw [h0]
    cases (partsL s).any (fun b => !partB b) <;> cases decide (s.size = 0) <;> cases decide (s.size ≤ 60) <;> rfl
  rw [← e]
  simpa using h

end Go.Proofs.YthhmkbchdiflcaaGreatDoor.Q

/- spec.l17Alone: whether an item is right by itself, as the reference has it. -/
namespace Go.Proofs.YthhmkbchdiflcaaGreatDoor.Q
open Go.RowKit Go.Proofs.YthhmkbchdiflcaaGreatDoorW.PrintWords Go.Proofs.YthhmkbchdiflcaaGreatDoorW.PrintLast Go.Proofs.YthhmkbchdiflcaaGreatDoorW.PrintMore
attribute [local go_sem] max2_int min2_int max_two min_two max_three min_three max_four min_four   -- for this text's walks alone
set_option linter.unusedVariables false
set_option linter.unusedSimpArgs false

theorem bcell {W w1 : World} (hb : Below W.heap.size W w1) : ∀ b o, b < W.heap.size → w1.cell? ⟨b, o, none⟩ = W.cell? ⟨b, o, none⟩ := fun b o h => hb.cell (p := ⟨b, o, none⟩) h
theorem l1Mode_f (n : Int) : spec_l1Mode.f n = some (inB 0 511 n) := by unfold spec_l1Mode.f; rw [l1In_f]; rfl
set_option maxHeartbeats 1000000 in
theorem l3Entries_nil (w : World) : Calls Tryz.prog 233 #[.agg #[.slice none 0 0, .int .i64 0], .slice none 0 0] w fun e w' => e = .returned (.bool true) ∧ Below w.heap.size w w' := by
  have hu1 := Tryz.underlying139
  have hu3 := Tryz.underlying174
  go_enter Tryz.func233, Tryz.ntmps233
  go_wp2
  refine wp_loop_rounds 1 ?_
  rw [rounds_succ]
  go_wp2
  go_ret
  exact ⟨rfl, by repeat (first | exact Below.refl _ _ | apply below_alloc | apply pw_below_drewN | apply below_drew1)⟩
set_option maxHeartbeats 4000000 in
set_option maxRecDepth 100000 in
theorem l3Node_bare (k m u g t : Int) (d : ByteArray) (hk : k = 1 ∨ k = 2 ∨ k = 3) (hd : d.size < 4294967281) (w : World) :
    Calls Tryz.prog 176 #[.agg #[.slice none 0 0, .int .i64 0], .agg #[.int .i64 k, .int .i64 m, .int .i64 u, .int .i64 g, .int .i64 t, .string d, .slice none 0 0]] w
      fun e w' => e = .returned (.bool (bareB k m u g t d)) ∧ Below w.heap.size w w' := by
  have hu1 := Tryz.underlying139
  have hu2 := Tryz.underlying169
  have HM := Aside0.mk (fun W => spec_l1Mode.calls m _ W (l1Mode_f m))
  have HU := Aside0.mk (fun W => spec_l1In.calls u 0 99 _ W (l1In_f u 0 99))
  have HG := Aside0.mk (fun W => spec_l1In.calls g 0 99 _ W (l1In_f g 0 99))
  have HT := Aside0.mk (fun W => spec_l1In.calls t 0 1000000 _ W (l1In_f t 0 1000000))
  obtain ⟨kp, hkp⟩ := Ev.rounds (l2Path_ev d hd)
  have HP := Aside0.mk (fun W => spec_l2Path.calls kp d _ W hkp)
  have HE := Aside0.mk l3Entries_nil
  have HD : Aside0 (((d.toList == []) = nilB d) ∧ (d.toList.isEmpty = nilB d)) := ⟨nilB_eq d, by rw [← nilB_eq]; cases d.toList <;> rfl⟩
  have k0 : (k == 0) = false := beq_eq_false_iff_ne.mpr (by omega)
  clear hkp hd
  by_cases h1 : inB 0 511 m = true
  · by_cases h2 : inB 0 99 u = true
    · by_cases h3 : inB 0 99 g = true
      · by_cases h4 : inB 0 1000000 t = true
        · have HF : Aside0 (bareB k m u g t d = if k = 1 then decide (d.size ≤ 60) else if k = 3 then goodPathB d else nilB d) := ⟨by unfold bareB; rw [h1, h2, h3, h4]; rfl⟩
          rw [h1] at HM; rw [h2] at HU; rw [h3] at HG; rw [h4] at HT
          clear h1 h2 h3 h4
          rcases hk with rfl | rfl | rfl
          · rw [HF.out, if_pos rfl]
            clear HF HP HD HE k0
            by_cases hz : d.size ≤ 60
            · have hz1 : decide ((d.size : Int) ≤ 60) = true := by simp; omega
              have hz2 : decide (d.size ≤ 60) = true := by simp; omega
              rw [hz2]
              clear hz hz2
              go_enter Tryz.func176, Tryz.ntmps176
              go_wp2_with fail
              refine (HM.out _).mono ?_; rintro e w1 ⟨rfl, ⟨n1, rfl⟩⟩
              go_wp2_with fail
              refine (HU.out _).mono ?_; rintro e w1 ⟨rfl, ⟨n2, rfl⟩⟩
              go_wp2_with fail
              refine (HG.out _).mono ?_; rintro e w1 ⟨rfl, ⟨n3, rfl⟩⟩
              go_wp2_with fail
              refine (HT.out _).mono ?_; rintro e w1 ⟨rfl, ⟨n4, rfl⟩⟩
              go_wp2
              go_ret
              exact ⟨by first | rfl | (simp; done) | (simp; omega), by repeat (first | exact Below.refl _ _ | apply below_alloc | apply pw_below_drewN | apply below_drew1)⟩
            · have hz1 : decide ((d.size : Int) ≤ 60) = false := by simp; omega
              have hz2 : decide (d.size ≤ 60) = false := by simp; omega
              rw [hz2]
              clear hz hz2
              go_enter Tryz.func176, Tryz.ntmps176
              go_wp2_with fail
              refine (HM.out _).mono ?_; rintro e w1 ⟨rfl, ⟨n1, rfl⟩⟩
              go_wp2_with fail
              refine (HU.out _).mono ?_; rintro e w1 ⟨rfl, ⟨n2, rfl⟩⟩
              go_wp2_with fail
              refine (HG.out _).mono ?_; rintro e w1 ⟨rfl, ⟨n3, rfl⟩⟩
              go_wp2_with fail
              refine (HT.out _).mono ?_; rintro e w1 ⟨rfl, ⟨n4, rfl⟩⟩
              go_wp2
              go_ret
              exact ⟨by first | rfl | (simp; done) | (simp; omega), by repeat (first | exact Below.refl _ _ | apply below_alloc | apply pw_below_drewN | apply below_drew1)⟩
          · rw [HF.out, if_neg (by decide), if_neg (by decide)]
            by_cases hz : nilB d = true
            · have hz1 : d.toList = [] := by have := HD.out.1; rw [hz] at this; simpa using this
              rw [hz]
              clear HF HP HD k0 hz
              go_enter Tryz.func176, Tryz.ntmps176
              go_wp2_with fail
              refine (HM.out _).mono ?_; rintro e w1 ⟨rfl, ⟨n1, rfl⟩⟩
              go_wp2_with fail
              refine (HU.out _).mono ?_; rintro e w1 ⟨rfl, ⟨n2, rfl⟩⟩
              go_wp2_with fail
              refine (HG.out _).mono ?_; rintro e w1 ⟨rfl, ⟨n3, rfl⟩⟩
              go_wp2_with fail
              refine (HT.out _).mono ?_; rintro e w1 ⟨rfl, ⟨n4, rfl⟩⟩
              go_wp2_with fail
              refine (HE.out _).mono ?_; rintro e w1 ⟨rfl, hd⟩
              go_wp2
              go_ret
              exact ⟨by first | rfl | (simp; done), below_step (by repeat (first | exact Below.refl _ _ | apply below_alloc | apply pw_below_drewN | apply below_drew1)) hd⟩
            · have hz' : nilB d = false := by simpa using hz
              have hz1 : ¬ d.toList = [] := by intro e; have := HD.out.1; rw [hz', e] at this; simp at this
              rw [hz']
              clear HF HP HD HE k0 hz hz'
              go_enter Tryz.func176, Tryz.ntmps176
              go_wp2_with fail
              refine (HM.out _).mono ?_; rintro e w1 ⟨rfl, ⟨n1, rfl⟩⟩
              go_wp2_with fail
              refine (HU.out _).mono ?_; rintro e w1 ⟨rfl, ⟨n2, rfl⟩⟩
              go_wp2_with fail
              refine (HG.out _).mono ?_; rintro e w1 ⟨rfl, ⟨n3, rfl⟩⟩
              go_wp2_with fail
              refine (HT.out _).mono ?_; rintro e w1 ⟨rfl, ⟨n4, rfl⟩⟩
              go_wp2
              go_ret
              exact ⟨by first | rfl | (simp; done), by repeat (first | exact Below.refl _ _ | apply below_alloc | apply pw_below_drewN | apply below_drew1)⟩
          · rw [HF.out, if_neg (by decide), if_pos rfl]
            clear HF HD HE k0
            cases hq : goodPathB d
            all_goals
              rw [hq] at HP
              clear hq
              go_enter Tryz.func176, Tryz.ntmps176
              go_wp2_with fail
              refine (HM.out _).mono ?_; rintro e w1 ⟨rfl, ⟨n1, rfl⟩⟩
              go_wp2_with fail
              refine (HU.out _).mono ?_; rintro e w1 ⟨rfl, ⟨n2, rfl⟩⟩
              go_wp2_with fail
              refine (HG.out _).mono ?_; rintro e w1 ⟨rfl, ⟨n3, rfl⟩⟩
              go_wp2_with fail
              refine (HT.out _).mono ?_; rintro e w1 ⟨rfl, ⟨n4, rfl⟩⟩
              go_wp2_with fail
              refine (HP.out _).mono ?_; rintro e w1 ⟨rfl, hd⟩
              have hc := bcell hd
              go_wp2
              go_ret
              exact ⟨by first | rfl | (simp; done), below_step (by repeat (first | exact Below.refl _ _ | apply below_alloc | apply pw_below_drewN | apply below_drew1)) hd⟩
        · have HF : Aside0 (bareB k m u g t d = false) := ⟨by unfold bareB; simp [h1, h2, h3, h4]⟩
          have h' : inB 0 1000000 t = false := by simpa using h4
          rw [h1] at HM
          rw [h2] at HU
          rw [h3] at HG
          rw [h'] at HT
          rw [HF.out]
          clear  HP HD HE hk HF h' h1 h2 h3 h4
          go_enter Tryz.func176, Tryz.ntmps176
          go_wp2_with fail
          refine (HM.out _).mono ?_; rintro e w1 ⟨rfl, ⟨n1, rfl⟩⟩
          go_wp2_with fail
          refine (HU.out _).mono ?_; rintro e w1 ⟨rfl, ⟨n2, rfl⟩⟩
          go_wp2_with fail
          refine (HG.out _).mono ?_; rintro e w1 ⟨rfl, ⟨n3, rfl⟩⟩
          go_wp2_with fail
          refine (HT.out _).mono ?_; rintro e w1 ⟨rfl, ⟨n4, rfl⟩⟩
          go_wp2
          go_ret
          exact ⟨rfl, by repeat (first | exact Below.refl _ _ | apply below_alloc | apply pw_below_drewN | apply below_drew1)⟩
      · have HF : Aside0 (bareB k m u g t d = false) := ⟨by unfold bareB; simp [h1, h2, h3]⟩
        have h' : inB 0 99 g = false := by simpa using h3
        rw [h1] at HM
        rw [h2] at HU
        rw [h'] at HG
        rw [HF.out]
        clear HT HP HD HE hk HF h' h1 h2 h3
        go_enter Tryz.func176, Tryz.ntmps176
        go_wp2_with fail
        refine (HM.out _).mono ?_; rintro e w1 ⟨rfl, ⟨n1, rfl⟩⟩
        go_wp2_with fail
        refine (HU.out _).mono ?_; rintro e w1 ⟨rfl, ⟨n2, rfl⟩⟩
        go_wp2_with fail
        refine (HG.out _).mono ?_; rintro e w1 ⟨rfl, ⟨n3, rfl⟩⟩
        go_wp2
        go_ret
        exact ⟨rfl, by repeat (first | exact Below.refl _ _ | apply below_alloc | apply pw_below_drewN | apply below_drew1)⟩
    · have HF : Aside0 (bareB k m u g t d = false) := ⟨by unfold bareB; simp [h1, h2]⟩
      have h' : inB 0 99 u = false := by simpa using h2
      rw [h1] at HM
      rw [h'] at HU
      rw [HF.out]
      clear HG HT HP HD HE hk HF h' h1 h2
      go_enter Tryz.func176, Tryz.ntmps176
      go_wp2_with fail
      refine (HM.out _).mono ?_; rintro e w1 ⟨rfl, ⟨n1, rfl⟩⟩
      go_wp2_with fail
      refine (HU.out _).mono ?_; rintro e w1 ⟨rfl, ⟨n2, rfl⟩⟩
      go_wp2
      go_ret
      exact ⟨rfl, by repeat (first | exact Below.refl _ _ | apply below_alloc | apply pw_below_drewN | apply below_drew1)⟩
  · have HF : Aside0 (bareB k m u g t d = false) := ⟨by unfold bareB; simp [h1]⟩
    have h' : inB 0 511 m = false := by simpa using h1
    rw [h'] at HM
    rw [HF.out]
    clear HU HG HT HP HD HE hk HF h' h1
    go_enter Tryz.func176, Tryz.ntmps176
    go_wp2_with fail
    refine (HM.out _).mono ?_; rintro e w1 ⟨rfl, ⟨n1, rfl⟩⟩
    go_wp2
    go_ret
    exact ⟨rfl, by repeat (first | exact Below.refl _ _ | apply below_alloc | apply pw_below_drewN | apply below_drew1)⟩
def spec_l17Alone.f (a0_0 : ByteArray) (a0_1 : Int) (a0_2 : Int) (a0_3 : Int) (a0_4 : Int) (a0_5 : Int) (a0_6 : Int) (a0_7 : ByteArray) (a1 : Int) : Option Bool :=
  if a0_7.size < 4294967281 then some (inB 1 3 a0_1 && (inB 0 a1 a0_6 && (if a0_6 < a1 then a0_1 != 2 && (a0_2 == 0 && (a0_3 == 0 && (a0_4 == 0 && (a0_5 == 0 && nilB a0_7)))) else bareB a0_1 a0_2 a0_3 a0_4 a0_5 a0_7))) else none
set_option maxHeartbeats 4000000 in
set_option maxRecDepth 100000 in
theorem spec_l17Alone.calls (a0_0 : ByteArray) (a0_1 : Int) (a0_2 : Int) (a0_3 : Int) (a0_4 : Int) (a0_5 : Int) (a0_6 : Int) (a0_7 : ByteArray) (a1 : Int) (r : Bool) (w : World) (h : spec_l17Alone.f a0_0 a0_1 a0_2 a0_3 a0_4 a0_5 a0_6 a0_7 a1 = some r) :
    Calls Tryz.prog 126 #[.agg #[.string a0_0, .int .i64 a0_1, .int .i64 a0_2, .int .i64 a0_3, .int .i64 a0_4, .int .i64 a0_5, .int .i64 a0_6, .string a0_7], .int .i64 a1] w fun e w' => e = .returned (.bool r) ∧ Below w.heap.size w w' := by
  unfold spec_l17Alone.f at h
  by_cases hsz : a0_7.size < 4294967281
  case neg => rw [if_neg hsz] at h; cases h
  rw [if_pos hsz] at h
  injection h with h
  subst h
  have hu1 := Tryz.underlying139
  have hu2 := Tryz.underlying169
  have hu4 := Tryz.underlying74
  have HW := Aside0.mk (fun W => spec_l1In.calls a0_1 1 3 _ W (l1In_f a0_1 1 3))
  have HS := Aside0.mk (fun W => spec_l1In.calls a0_6 0 a1 _ W (l1In_f a0_6 0 a1))
  by_cases h1 : inB 1 3 a0_1 = true
  · have hk : a0_1 = 1 ∨ a0_1 = 2 ∨ a0_1 = 3 := by unfold inB at h1; simp at h1; omega
    have HN := Aside0.mk (fun W => l3Node_bare a0_1 a0_2 a0_3 a0_4 a0_5 a0_7 hk hsz W)
    rw [h1] at HW ⊢
    rw [Bool.true_and]
    clear h1 hk hsz
    by_cases h2 : inB 0 a1 a0_6 = true
    · rw [h2] at HS ⊢
      rw [Bool.true_and]
      clear h2
      by_cases h3 : a0_6 < a1
      · rw [if_pos h3]
        have h3' : decide (a0_6 < a1) = true := by simpa using h3
        clear h3 HN
        rw [← nilB_eq]
        generalize hq : (a0_1 != 2 && (a0_2 == 0 && (a0_3 == 0 && (a0_4 == 0 && (a0_5 == 0 && (a0_7.toList == [])))))) = q
        have HQ := Aside0.mk hq
        clear hq
        go_enter Tryz.func126, Tryz.ntmps126
        go_wp2_with fail
        refine (HW.out _).mono ?_; rintro e w1 ⟨rfl, ⟨n1, rfl⟩⟩
        go_wp2_with fail
        refine (HS.out _).mono ?_; rintro e w1 ⟨rfl, ⟨n2, rfl⟩⟩
        go_wp2
        all_goals
          go_ret
          refine ⟨?_, by repeat (first | exact Below.refl _ _ | apply below_alloc | apply pw_below_drewN | apply below_drew1)⟩
          rw [← HQ.out]
          simp_all
      · rw [if_neg h3]
        have h3' : decide (a0_6 < a1) = false := by simpa using h3
        clear h3
        generalize bareB a0_1 a0_2 a0_3 a0_4 a0_5 a0_7 = q at HN ⊢
        go_enter Tryz.func126, Tryz.ntmps126
        go_wp2_with fail
        refine (HW.out _).mono ?_; rintro e w1 ⟨rfl, ⟨n1, rfl⟩⟩
        go_wp2_with fail
        refine (HS.out _).mono ?_; rintro e w1 ⟨rfl, ⟨n2, rfl⟩⟩
        go_wp2_with fail
        refine (HN.out _).mono ?_; rintro e w1 ⟨rfl, hd⟩
        go_wp2
        go_ret
        exact ⟨rfl, below_step (by repeat (first | exact Below.refl _ _ | apply below_alloc | apply pw_below_drewN | apply below_drew1)) hd⟩
    · have h2' : inB 0 a1 a0_6 = false := by simpa using h2
      rw [h2'] at HS ⊢
      rw [Bool.false_and]
      clear h2 h2' HN
      go_enter Tryz.func126, Tryz.ntmps126
      go_wp2_with fail
      refine (HW.out _).mono ?_; rintro e w1 ⟨rfl, ⟨n1, rfl⟩⟩
      go_wp2_with fail
      refine (HS.out _).mono ?_; rintro e w1 ⟨rfl, ⟨n2, rfl⟩⟩
      go_wp2
      go_ret
      exact ⟨rfl, by repeat (first | exact Below.refl _ _ | apply below_alloc | apply pw_below_drewN | apply below_drew1)⟩
  · have h1' : inB 1 3 a0_1 = false := by simpa using h1
    rw [h1'] at HW ⊢
    rw [Bool.false_and]
    clear h1 h1' HS hsz
    go_enter Tryz.func126, Tryz.ntmps126
    go_wp2_with fail
    refine (HW.out _).mono ?_; rintro e w1 ⟨rfl, ⟨n1, rfl⟩⟩
    go_wp2
    go_ret
    exact ⟨rfl, by repeat (first | exact Below.refl _ _ | apply below_alloc | apply pw_below_drewN | apply below_drew1)⟩

end Go.Proofs.YthhmkbchdiflcaaGreatDoor.Q

-- Printed by a program of this session (wip/tools/myprint.py) that runs the kit's print, hand-proved functions among the others.
namespace Go.Proofs.YthhmkbchdiflcaaGreatDoor.Q
open Go.RowKit Go.Proofs.YthhmkbchdiflcaaGreatDoorW.PrintWords Go.Proofs.YthhmkbchdiflcaaGreatDoorW.PrintLast Go.Proofs.YthhmkbchdiflcaaGreatDoorW.PrintMore
attribute [local go_sem] max2_int min2_int max_two min_two max_three min_three max_four min_four   -- for this text's walks alone
set_option linter.unusedVariables false
set_option linter.unusedSimpArgs false

/-! ### spec_l17Good: function 56 -/
mutual
def spec_l17Good.j0 : Nat → List (S74) → Bool → Option (Bool)
 | 0, _, _ => none
 | k + 1, x0, x28 => if x28 = true then (some false) else (spec_l17Good.l0 k x0 x0 (x0.length : Int) 0)
def spec_l17Good.l0 : Nat → List (S74) → List (S74) → Int → Int → Option (Bool)
 | 0, _, _, _, _ => none
 | k + 1, x0, x29, x30, x31 => if x31 < x30 then (if 0 ≤ x31 then (if x31 < (x29.length : Int) then ((spec_l17Alone.f ((rd_T74 x29 x31).f0) ((rd_T74 x29 x31).f1) ((rd_T74 x29 x31).f2) ((rd_T74 x29 x31).f3) ((rd_T74 x29 x31).f4) ((rd_T74 x29 x31).f5) ((rd_T74 x29 x31).f6) ((rd_T74 x29 x31).f7) x31).bind fun t230 => (if t230 = true then (if x31 > 0 then (if x31 ≤ (x0.length : Int) then ((spec_l17Next.f k (x0.take (x31 : Int).toNat) ((rd_T74 x29 x31).f0) ((rd_T74 x29 x31).f1) ((rd_T74 x29 x31).f2) ((rd_T74 x29 x31).f3) ((rd_T74 x29 x31).f4) ((rd_T74 x29 x31).f5) ((rd_T74 x29 x31).f6) ((rd_T74 x29 x31).f7)).bind fun t235 => (spec_l17Good.j2 k x0 x29 x30 x31 (!t235) ((rd_T74 x29 x31).f0) ((rd_T74 x29 x31).f1) ((rd_T74 x29 x31).f2) ((rd_T74 x29 x31).f3) ((rd_T74 x29 x31).f4) ((rd_T74 x29 x31).f5) ((rd_T74 x29 x31).f6) ((rd_T74 x29 x31).f7))) else (none)) else (spec_l17Good.j2 k x0 x29 x30 x31 false ((rd_T74 x29 x31).f0) ((rd_T74 x29 x31).f1) ((rd_T74 x29 x31).f2) ((rd_T74 x29 x31).f3) ((rd_T74 x29 x31).f4) ((rd_T74 x29 x31).f5) ((rd_T74 x29 x31).f6) ((rd_T74 x29 x31).f7))) else (spec_l17Good.j2 k x0 x29 x30 x31 true ((rd_T74 x29 x31).f0) ((rd_T74 x29 x31).f1) ((rd_T74 x29 x31).f2) ((rd_T74 x29 x31).f3) ((rd_T74 x29 x31).f4) ((rd_T74 x29 x31).f5) ((rd_T74 x29 x31).f6) ((rd_T74 x29 x31).f7)))) else (none)) else (none)) else (some true)
def spec_l17Good.j2 : Nat → List (S74) → List (S74) → Int → Int → Bool → ByteArray → Int → Int → Int → Int → Int → Int → ByteArray → Option (Bool)
 | 0, _, _, _, _, _, _, _, _, _, _, _, _, _ => none
 | k + 1, x0, x29, x30, x31, x51, x230000, x230001, x230002, x230003, x230004, x230005, x230006, x230007 => if x51 = true then (some false) else (if 0 ≤ x230006 then (if x230006 < (x0.length : Int) then (if ((rd_T74 x0 x230006).f6) = x230006 then (if ((rd_T74 x0 x230006).f1) = x230001 then (spec_l17Good.l0 k x0 x29 x30 (wrap64 (x31 + 1))) else (some false)) else (some false)) else (none)) else (none))
end
def spec_l17Good.f (k : Nat) (l0 : List (S74)) : Option (Bool) := (spec_l1In.f (l0.length : Int) 1 40).bind fun t225 => (if t225 = true then (if 0 < (l0.length : Int) then (if ((rd_T74 l0 0).f0).toList = ([46] : List UInt8) then (if ((rd_T74 l0 0).f1) = 2 then (spec_l17Good.j0 k l0 false) else (spec_l17Good.j0 k l0 (decide ((l0.length : Int) > 1)))) else (spec_l17Good.j0 k l0 true)) else (none)) else (spec_l17Good.j0 k l0 true))
def spec_l17Good.T6 : Bool × List (List Nat × List Nat) := (true, [([], []), ([], []), ([0, 1], [0, 1]), ([2], [2]), ([3, 2], [3]), ([4], [4]), ([5, 4], [4, 5]), ([6, 4, 4], [4, 6]), ([7], [7]), ([7], [7]), ([8, 9, 7], [7, 8, 9]), ([7], [7]), ([10, 11, 7, 7], [7, 10, 11]), ([12, 7], [7, 12]), ([7, 13, 4], [4, 7, 13]), ([4, 14], [4, 14])])
def spec_l17Good.B6 : List Nat := [0, 0, 3, 7, 15, 31, 63, 127, 255, 255, 1023, 255, 4095, 8191, 16383, 32767]
theorem spec_l17Good.tab6 : rtab .any (opsOf Tryz.f56 6) = spec_l17Good.T6 := by kernel_rfl
theorem spec_l17Good.bits6 : waitsOk spec_l17Good.T6.2 spec_l17Good.B6 = true := by kernel_rfl
set_option maxHeartbeats 8000000 in
set_option maxRecDepth 100000 in
theorem spec_l17Good.calls (k : Nat) (A0 : Option Addr) (c0 : Nat) (l0 : List (S74)) (r : Bool) (w : World) (hr0 : Kd.C k74 w A0 l0.length l0) (hc0 : l0.length ≤ c0) (h : spec_l17Good.f k l0 = some r) :
  Calls Tryz.prog 56 #[.slice A0 l0.length c0] w fun e w' => e = .returned (.bool r) ∧ Below w.heap.size w w' := by
 have hu74 := Tryz.underlying74
 have HR0 := Aside0.mk hr0
 have HC0 := Aside0.mk hc0
 clear hr0 hc0
 have HB := Aside0.mk (Below.refl w.heap.size w)
 have H : ((spec_l1In.f (l0.length : Int) 1 40).bind fun t225 => (if t225 = true then (if 0 < (l0.length : Int) then (if ((rd_T74 l0 0).f0).toList = ([46] : List UInt8) then (if ((rd_T74 l0 0).f1) = 2 then (spec_l17Good.j0 k l0 false) else (spec_l17Good.j0 k l0 (decide ((l0.length : Int) > 1)))) else (spec_l17Good.j0 k l0 true)) else (none)) else (spec_l17Good.j0 k l0 true))) = some r := h
 clear h
 have HC2 := Aside0.mk H
 clear H
 go_enter Tryz.func56, Tryz.ntmps56
 go_upto_region 1 with (fail)
 go_cut [28] (fun v28 wc => ∃ (kq : Nat) (x28_1 : Bool), v28 = .bool x28_1 ∧ Aside0 (spec_l17Good.j0 kq l0 x28_1 = some r) ∧ Aside0 (kq ≤ k) ∧ Aside0 (Below w.heap.size w wc))
 case first =>
  have H := HC2.out
  clear HC2
  replace H := Option.bind_eq_some_iff.mp H
  obtain ⟨t225, A30, H⟩ := H
  try dsimp only at H
  have A3 := Aside0.mk A30
  clear A30
  by_cases c4 : t225 = true
  ·subst c4
   have H1 := H
   rw [if_pos rfl] at H1
   clear H
   have H := H1
   clear H1
   refine Or.elim (Classical.em (0 < (l0.length : Int))) (fun c5 => ?_) (fun c5 => by rw [if_neg c5] at H; exact absurd H (by simp))
   rw [if_pos c5] at H
   have c5b0 : decide (0 < (l0.length : Int)) = true := decide_eq_true c5
   have c5b1 : decide (0 < l0.length) = true := decide_eq_true (by omega)
   clear c5
   (first | rw [c5b0] | (simp only [i64_w, i32_w]; rw [c5b0]) | skip)
   by_cases c6 : ((rd_T74 l0 0).f0).toList = ([46] : List UInt8)
   ·rw [if_pos c6] at H
    have c6b0 : (((rd_T74 l0 0).f0).toList == ([46] : List UInt8)) = true := beq_iff_eq.mpr c6
    have c6b1 : (((rd_T74 l0 0).f0).toList != ([46] : List UInt8)) = false := bne_eq_false_iff_eq.mpr c6
    clear c6
    by_cases c7 : ((rd_T74 l0 0).f1) = 2
    ·rw [if_pos c7] at H
     have c7b0 : (((rd_T74 l0 0).f1) == 2) = true := beq_iff_eq.mpr c7
     have c7b1 : (((rd_T74 l0 0).f1) != 2) = false := bne_eq_false_iff_eq.mpr c7
     clear c7
     have H' := Aside0.mk H
     clear H
     go_wp2_with (first | ((with_reducible refine gate_callee (f := 108) rfl ?_); refine goesL_ (some 8) rfl rfl Tryz.func108 (by kernel_rfl) rfl #[.int .i64 (l0.length : Int), .int .i64 1, .int .i64 40] rfl (by (try simp only [List.map_toArray, List.map_cons, List.map_nil]); first | done | rfl | (simp only [List.length_drop, List.length_take]; rfl)) ?_; (with_reducible refine (spec_l1In.calls (l0.length : Int) 1 40 true _ A3.out).mono ?_); rintro e w' ⟨rfl, ⟨nd, rfl⟩⟩; refine ⟨_, rfl, ?_⟩; have p226 : 0 ≤ (0 : Int) := (by omega); have q226 : 0 < (l0.length : Int) := of_decide_eq_true (by first | (with_reducible assumption) | assumption); obtain ⟨ad226, e226, hx226_0, hx226_1, hx226_2, hx226_3, hx226_4, hx226_5, hx226_6, hx226_7⟩ := at_T74 HR0.out 0 p226 q226; cases e226; have qi226 : (0 < l0.length) = True := eq_true (by omega); (try rw [show ((0 : Int)).toNat = 0 from rfl] at hx226_0); (try rw [show 0 * 8 = 0 from rfl] at hx226_0); (try rw [Addr.add_zero'] at hx226_0); (try rw [show ((0 : Int)).toNat = 0 from rfl] at hx226_1); (try rw [show 0 * 8 = 0 from rfl] at hx226_1); (try rw [Addr.add_zero'] at hx226_1); (try rw [show ((0 : Int)).toNat = 0 from rfl] at hx226_2); (try rw [show 0 * 8 = 0 from rfl] at hx226_2); (try rw [Addr.add_zero'] at hx226_2); (try rw [show ((0 : Int)).toNat = 0 from rfl] at hx226_3); (try rw [show 0 * 8 = 0 from rfl] at hx226_3); (try rw [Addr.add_zero'] at hx226_3); (try rw [show ((0 : Int)).toNat = 0 from rfl] at hx226_4); (try rw [show 0 * 8 = 0 from rfl] at hx226_4); (try rw [Addr.add_zero'] at hx226_4); (try rw [show ((0 : Int)).toNat = 0 from rfl] at hx226_5); (try rw [show 0 * 8 = 0 from rfl] at hx226_5); (try rw [Addr.add_zero'] at hx226_5); (try rw [show ((0 : Int)).toNat = 0 from rfl] at hx226_6); (try rw [show 0 * 8 = 0 from rfl] at hx226_6); (try rw [Addr.add_zero'] at hx226_6); (try rw [show ((0 : Int)).toNat = 0 from rfl] at hx226_7); (try rw [show 0 * 8 = 0 from rfl] at hx226_7); (try rw [Addr.add_zero'] at hx226_7); replace hx226_0 := (HB.out.cell (World.block_lt_of_cell? w _ hx226_0)).trans hx226_0; replace hx226_1 := (HB.out.cell (World.block_lt_of_cell? w _ hx226_1)).trans hx226_1; replace hx226_2 := (HB.out.cell (World.block_lt_of_cell? w _ hx226_2)).trans hx226_2; replace hx226_3 := (HB.out.cell (World.block_lt_of_cell? w _ hx226_3)).trans hx226_3; replace hx226_4 := (HB.out.cell (World.block_lt_of_cell? w _ hx226_4)).trans hx226_4; replace hx226_5 := (HB.out.cell (World.block_lt_of_cell? w _ hx226_5)).trans hx226_5; replace hx226_6 := (HB.out.cell (World.block_lt_of_cell? w _ hx226_6)).trans hx226_6; replace hx226_7 := (HB.out.cell (World.block_lt_of_cell? w _ hx226_7)).trans hx226_7; replace p226 := eq_true p226; replace q226 := eq_true q226; have p227 : 0 ≤ (0 : Int) := (by omega); have q227 : 0 < (l0.length : Int) := of_decide_eq_true (by first | (with_reducible assumption) | assumption); obtain ⟨ad227, e227, hx227_0, hx227_1, hx227_2, hx227_3, hx227_4, hx227_5, hx227_6, hx227_7⟩ := at_T74 HR0.out 0 p227 q227; obtain rfl : ad226 = ad227 := (by injection e227); have qi227 : (0 < l0.length) = True := eq_true (by omega); (try rw [show ((0 : Int)).toNat = 0 from rfl] at hx227_0); (try rw [show 0 * 8 = 0 from rfl] at hx227_0); (try rw [Addr.add_zero'] at hx227_0); (try rw [show ((0 : Int)).toNat = 0 from rfl] at hx227_1); (try rw [show 0 * 8 = 0 from rfl] at hx227_1); (try rw [Addr.add_zero'] at hx227_1); (try rw [show ((0 : Int)).toNat = 0 from rfl] at hx227_2); (try rw [show 0 * 8 = 0 from rfl] at hx227_2); (try rw [Addr.add_zero'] at hx227_2); (try rw [show ((0 : Int)).toNat = 0 from rfl] at hx227_3); (try rw [show 0 * 8 = 0 from rfl] at hx227_3); (try rw [Addr.add_zero'] at hx227_3); (try rw [show ((0 : Int)).toNat = 0 from rfl] at hx227_4); (try rw [show 0 * 8 = 0 from rfl] at hx227_4); (try rw [Addr.add_zero'] at hx227_4); (try rw [show ((0 : Int)).toNat = 0 from rfl] at hx227_5); (try rw [show 0 * 8 = 0 from rfl] at hx227_5); (try rw [Addr.add_zero'] at hx227_5); (try rw [show ((0 : Int)).toNat = 0 from rfl] at hx227_6); (try rw [show 0 * 8 = 0 from rfl] at hx227_6); (try rw [Addr.add_zero'] at hx227_6); (try rw [show ((0 : Int)).toNat = 0 from rfl] at hx227_7); (try rw [show 0 * 8 = 0 from rfl] at hx227_7); (try rw [Addr.add_zero'] at hx227_7); replace hx227_0 := (HB.out.cell (World.block_lt_of_cell? w _ hx227_0)).trans hx227_0; replace hx227_1 := (HB.out.cell (World.block_lt_of_cell? w _ hx227_1)).trans hx227_1; replace hx227_2 := (HB.out.cell (World.block_lt_of_cell? w _ hx227_2)).trans hx227_2; replace hx227_3 := (HB.out.cell (World.block_lt_of_cell? w _ hx227_3)).trans hx227_3; replace hx227_4 := (HB.out.cell (World.block_lt_of_cell? w _ hx227_4)).trans hx227_4; replace hx227_5 := (HB.out.cell (World.block_lt_of_cell? w _ hx227_5)).trans hx227_5; replace hx227_6 := (HB.out.cell (World.block_lt_of_cell? w _ hx227_6)).trans hx227_6; replace hx227_7 := (HB.out.cell (World.block_lt_of_cell? w _ hx227_7)).trans hx227_7; replace p227 := eq_true p227; replace q227 := eq_true q227))
     go_meet
     case rel => exact ⟨_, (false), (by first | rfl | (simp; done) | (simp [*]; done)), H', ⟨by first | omega | exact Nat.le_refl _⟩, ⟨(Gtr.bw HB.out)⟩⟩
    ·rw [if_neg c7] at H
     have c7b0 : (((rd_T74 l0 0).f1) == 2) = false := beq_eq_false_iff_ne.mpr c7
     have c7b1 : (((rd_T74 l0 0).f1) != 2) = true := bne_iff_ne.mpr c7
     have H' := Aside0.mk H
     clear H
     go_wp2_with (first | ((with_reducible refine gate_callee (f := 108) rfl ?_); refine goesL_ (some 8) rfl rfl Tryz.func108 (by kernel_rfl) rfl #[.int .i64 (l0.length : Int), .int .i64 1, .int .i64 40] rfl (by (try simp only [List.map_toArray, List.map_cons, List.map_nil]); first | done | rfl | (simp only [List.length_drop, List.length_take]; rfl)) ?_; (with_reducible refine (spec_l1In.calls (l0.length : Int) 1 40 true _ A3.out).mono ?_); rintro e w' ⟨rfl, ⟨nd, rfl⟩⟩; refine ⟨_, rfl, ?_⟩; have p226 : 0 ≤ (0 : Int) := (by omega); have q226 : 0 < (l0.length : Int) := of_decide_eq_true (by first | (with_reducible assumption) | assumption); obtain ⟨ad226, e226, hx226_0, hx226_1, hx226_2, hx226_3, hx226_4, hx226_5, hx226_6, hx226_7⟩ := at_T74 HR0.out 0 p226 q226; cases e226; have qi226 : (0 < l0.length) = True := eq_true (by omega); (try rw [show ((0 : Int)).toNat = 0 from rfl] at hx226_0); (try rw [show 0 * 8 = 0 from rfl] at hx226_0); (try rw [Addr.add_zero'] at hx226_0); (try rw [show ((0 : Int)).toNat = 0 from rfl] at hx226_1); (try rw [show 0 * 8 = 0 from rfl] at hx226_1); (try rw [Addr.add_zero'] at hx226_1); (try rw [show ((0 : Int)).toNat = 0 from rfl] at hx226_2); (try rw [show 0 * 8 = 0 from rfl] at hx226_2); (try rw [Addr.add_zero'] at hx226_2); (try rw [show ((0 : Int)).toNat = 0 from rfl] at hx226_3); (try rw [show 0 * 8 = 0 from rfl] at hx226_3); (try rw [Addr.add_zero'] at hx226_3); (try rw [show ((0 : Int)).toNat = 0 from rfl] at hx226_4); (try rw [show 0 * 8 = 0 from rfl] at hx226_4); (try rw [Addr.add_zero'] at hx226_4); (try rw [show ((0 : Int)).toNat = 0 from rfl] at hx226_5); (try rw [show 0 * 8 = 0 from rfl] at hx226_5); (try rw [Addr.add_zero'] at hx226_5); (try rw [show ((0 : Int)).toNat = 0 from rfl] at hx226_6); (try rw [show 0 * 8 = 0 from rfl] at hx226_6); (try rw [Addr.add_zero'] at hx226_6); (try rw [show ((0 : Int)).toNat = 0 from rfl] at hx226_7); (try rw [show 0 * 8 = 0 from rfl] at hx226_7); (try rw [Addr.add_zero'] at hx226_7); replace hx226_0 := (HB.out.cell (World.block_lt_of_cell? w _ hx226_0)).trans hx226_0; replace hx226_1 := (HB.out.cell (World.block_lt_of_cell? w _ hx226_1)).trans hx226_1; replace hx226_2 := (HB.out.cell (World.block_lt_of_cell? w _ hx226_2)).trans hx226_2; replace hx226_3 := (HB.out.cell (World.block_lt_of_cell? w _ hx226_3)).trans hx226_3; replace hx226_4 := (HB.out.cell (World.block_lt_of_cell? w _ hx226_4)).trans hx226_4; replace hx226_5 := (HB.out.cell (World.block_lt_of_cell? w _ hx226_5)).trans hx226_5; replace hx226_6 := (HB.out.cell (World.block_lt_of_cell? w _ hx226_6)).trans hx226_6; replace hx226_7 := (HB.out.cell (World.block_lt_of_cell? w _ hx226_7)).trans hx226_7; replace p226 := eq_true p226; replace q226 := eq_true q226; have p227 : 0 ≤ (0 : Int) := (by omega); have q227 : 0 < (l0.length : Int) := of_decide_eq_true (by first | (with_reducible assumption) | assumption); obtain ⟨ad227, e227, hx227_0, hx227_1, hx227_2, hx227_3, hx227_4, hx227_5, hx227_6, hx227_7⟩ := at_T74 HR0.out 0 p227 q227; obtain rfl : ad226 = ad227 := (by injection e227); have qi227 : (0 < l0.length) = True := eq_true (by omega); (try rw [show ((0 : Int)).toNat = 0 from rfl] at hx227_0); (try rw [show 0 * 8 = 0 from rfl] at hx227_0); (try rw [Addr.add_zero'] at hx227_0); (try rw [show ((0 : Int)).toNat = 0 from rfl] at hx227_1); (try rw [show 0 * 8 = 0 from rfl] at hx227_1); (try rw [Addr.add_zero'] at hx227_1); (try rw [show ((0 : Int)).toNat = 0 from rfl] at hx227_2); (try rw [show 0 * 8 = 0 from rfl] at hx227_2); (try rw [Addr.add_zero'] at hx227_2); (try rw [show ((0 : Int)).toNat = 0 from rfl] at hx227_3); (try rw [show 0 * 8 = 0 from rfl] at hx227_3); (try rw [Addr.add_zero'] at hx227_3); (try rw [show ((0 : Int)).toNat = 0 from rfl] at hx227_4); (try rw [show 0 * 8 = 0 from rfl] at hx227_4); (try rw [Addr.add_zero'] at hx227_4); (try rw [show ((0 : Int)).toNat = 0 from rfl] at hx227_5); (try rw [show 0 * 8 = 0 from rfl] at hx227_5); (try rw [Addr.add_zero'] at hx227_5); (try rw [show ((0 : Int)).toNat = 0 from rfl] at hx227_6); (try rw [show 0 * 8 = 0 from rfl] at hx227_6); (try rw [Addr.add_zero'] at hx227_6); (try rw [show ((0 : Int)).toNat = 0 from rfl] at hx227_7); (try rw [show 0 * 8 = 0 from rfl] at hx227_7); (try rw [Addr.add_zero'] at hx227_7); replace hx227_0 := (HB.out.cell (World.block_lt_of_cell? w _ hx227_0)).trans hx227_0; replace hx227_1 := (HB.out.cell (World.block_lt_of_cell? w _ hx227_1)).trans hx227_1; replace hx227_2 := (HB.out.cell (World.block_lt_of_cell? w _ hx227_2)).trans hx227_2; replace hx227_3 := (HB.out.cell (World.block_lt_of_cell? w _ hx227_3)).trans hx227_3; replace hx227_4 := (HB.out.cell (World.block_lt_of_cell? w _ hx227_4)).trans hx227_4; replace hx227_5 := (HB.out.cell (World.block_lt_of_cell? w _ hx227_5)).trans hx227_5; replace hx227_6 := (HB.out.cell (World.block_lt_of_cell? w _ hx227_6)).trans hx227_6; replace hx227_7 := (HB.out.cell (World.block_lt_of_cell? w _ hx227_7)).trans hx227_7; replace p227 := eq_true p227; replace q227 := eq_true q227))
     go_meet
     case rel => exact ⟨_, (decide ((l0.length : Int) > 1)), (by first | rfl | (simp; done) | (simp [*]; done)), H', ⟨by first | omega | exact Nat.le_refl _⟩, ⟨(Gtr.bw HB.out)⟩⟩
   ·rw [if_neg c6] at H
    have c6b0 : (((rd_T74 l0 0).f0).toList == ([46] : List UInt8)) = false := beq_eq_false_iff_ne.mpr c6
    have c6b1 : (((rd_T74 l0 0).f0).toList != ([46] : List UInt8)) = true := bne_iff_ne.mpr c6
    have H' := Aside0.mk H
    clear H
    go_wp2_with (first | ((with_reducible refine gate_callee (f := 108) rfl ?_); refine goesL_ (some 8) rfl rfl Tryz.func108 (by kernel_rfl) rfl #[.int .i64 (l0.length : Int), .int .i64 1, .int .i64 40] rfl (by (try simp only [List.map_toArray, List.map_cons, List.map_nil]); first | done | rfl | (simp only [List.length_drop, List.length_take]; rfl)) ?_; (with_reducible refine (spec_l1In.calls (l0.length : Int) 1 40 true _ A3.out).mono ?_); rintro e w' ⟨rfl, ⟨nd, rfl⟩⟩; refine ⟨_, rfl, ?_⟩; have p226 : 0 ≤ (0 : Int) := (by omega); have q226 : 0 < (l0.length : Int) := of_decide_eq_true (by first | (with_reducible assumption) | assumption); obtain ⟨ad226, e226, hx226_0, hx226_1, hx226_2, hx226_3, hx226_4, hx226_5, hx226_6, hx226_7⟩ := at_T74 HR0.out 0 p226 q226; cases e226; have qi226 : (0 < l0.length) = True := eq_true (by omega); (try rw [show ((0 : Int)).toNat = 0 from rfl] at hx226_0); (try rw [show 0 * 8 = 0 from rfl] at hx226_0); (try rw [Addr.add_zero'] at hx226_0); (try rw [show ((0 : Int)).toNat = 0 from rfl] at hx226_1); (try rw [show 0 * 8 = 0 from rfl] at hx226_1); (try rw [Addr.add_zero'] at hx226_1); (try rw [show ((0 : Int)).toNat = 0 from rfl] at hx226_2); (try rw [show 0 * 8 = 0 from rfl] at hx226_2); (try rw [Addr.add_zero'] at hx226_2); (try rw [show ((0 : Int)).toNat = 0 from rfl] at hx226_3); (try rw [show 0 * 8 = 0 from rfl] at hx226_3); (try rw [Addr.add_zero'] at hx226_3); (try rw [show ((0 : Int)).toNat = 0 from rfl] at hx226_4); (try rw [show 0 * 8 = 0 from rfl] at hx226_4); (try rw [Addr.add_zero'] at hx226_4); (try rw [show ((0 : Int)).toNat = 0 from rfl] at hx226_5); (try rw [show 0 * 8 = 0 from rfl] at hx226_5); (try rw [Addr.add_zero'] at hx226_5); (try rw [show ((0 : Int)).toNat = 0 from rfl] at hx226_6); (try rw [show 0 * 8 = 0 from rfl] at hx226_6); (try rw [Addr.add_zero'] at hx226_6); (try rw [show ((0 : Int)).toNat = 0 from rfl] at hx226_7); (try rw [show 0 * 8 = 0 from rfl] at hx226_7); (try rw [Addr.add_zero'] at hx226_7); replace hx226_0 := (HB.out.cell (World.block_lt_of_cell? w _ hx226_0)).trans hx226_0; replace hx226_1 := (HB.out.cell (World.block_lt_of_cell? w _ hx226_1)).trans hx226_1; replace hx226_2 := (HB.out.cell (World.block_lt_of_cell? w _ hx226_2)).trans hx226_2; replace hx226_3 := (HB.out.cell (World.block_lt_of_cell? w _ hx226_3)).trans hx226_3; replace hx226_4 := (HB.out.cell (World.block_lt_of_cell? w _ hx226_4)).trans hx226_4; replace hx226_5 := (HB.out.cell (World.block_lt_of_cell? w _ hx226_5)).trans hx226_5; replace hx226_6 := (HB.out.cell (World.block_lt_of_cell? w _ hx226_6)).trans hx226_6; replace hx226_7 := (HB.out.cell (World.block_lt_of_cell? w _ hx226_7)).trans hx226_7; replace p226 := eq_true p226; replace q226 := eq_true q226))
    go_meet
    case rel => exact ⟨_, (true), (by first | rfl | (simp; done) | (simp [*]; done)), H', ⟨by first | omega | exact Nat.le_refl _⟩, ⟨(Gtr.bw HB.out)⟩⟩
  ·replace c4 := Bool.eq_false_iff.mpr c4
   subst c4
   have H1 : (spec_l17Good.j0 k l0 true) = some r := by rw [if_neg (show ¬ (false = true) by decide)] at H; exact H
   clear H
   have H := H1
   clear H1
   have H' := Aside0.mk H
   clear H
   go_wp2_with (first | ((with_reducible refine gate_callee (f := 108) rfl ?_); refine goesL_ (some 8) rfl rfl Tryz.func108 (by kernel_rfl) rfl #[.int .i64 (l0.length : Int), .int .i64 1, .int .i64 40] rfl (by (try simp only [List.map_toArray, List.map_cons, List.map_nil]); first | done | rfl | (simp only [List.length_drop, List.length_take]; rfl)) ?_; (with_reducible refine (spec_l1In.calls (l0.length : Int) 1 40 false _ A3.out).mono ?_); rintro e w' ⟨rfl, ⟨nd, rfl⟩⟩; refine ⟨_, rfl, ?_⟩))
   go_meet
   case rel => exact ⟨_, (true), (by first | rfl | (simp; done) | (simp [*]; done)), H', ⟨by first | omega | exact Nat.le_refl _⟩, ⟨(Gtr.bw HB.out)⟩⟩
 case rest =>
  clear HC2
  (try clear c1);(try clear p2);(try clear q2);(try clear hx2);(try clear qi2);(try clear c4);(try clear c5);(try clear c5b0);(try clear c5b1);(try clear c6);(try clear c6b0);(try clear c6b1);(try clear c7);(try clear c7b0);(try clear c7b1);(try clear hx226_0);(try clear hx226_1);(try clear hx226_2);(try clear hx226_3);(try clear hx226_4);(try clear hx226_5);(try clear hx226_6);(try clear hx226_7);(try clear hx227_0);(try clear hx227_1);(try clear hx227_2);(try clear hx227_3);(try clear hx227_4);(try clear hx227_5);(try clear hx227_6);(try clear hx227_7);(try clear p226);(try clear p227);(try clear q226);(try clear q227)
  obtain ⟨kq, x28_1, rfl, HA, HJ1, HB⟩ := hcut
  cases kq with
  | zero => exact absurd HA.out (by simp [spec_l17Good.j0])
  | succ kj1 =>
   have H := HA.out
   clear HA
   simp only [spec_l17Good.j0] at H
   by_cases c8 : x28_1 = true
   ·subst c8
    have H1 := H
    rw [if_pos rfl] at H1
    clear H
    have H := H1
    clear H1
    obtain rfl := Option.some.inj H
    go_wp2
    go_ret
    exact ⟨by first | rfl | (simp [errW_none, errW_some] <;> rfl) | (simp [*, errW_none, errW_some] <;> rfl), (Gtr.bw HB.out)⟩
   ·replace c8 := Bool.eq_false_iff.mpr c8
    subst c8
    have H1 : (spec_l17Good.l0 kj1 l0 l0 (l0.length : Int) 0) = some r := by rw [if_neg (show ¬ (false = true) by decide)] at H; exact H
    clear H
    have H := H1
    clear H1
    have H' := Aside0.mk H
    clear H
    go_wp2
    go_loopg [31] kj1 (fun kq v31 w' => ∃ (x31_2 : Int), v31 = .int .i64 x31_2 ∧ Aside0 (spec_l17Good.l0 kq l0 l0 (l0.length : Int) x31_2 = some r) ∧ Aside0 (kq ≤ kj1) ∧ Aside0 (Below w.heap.size w w'))
    case atStart => exact ⟨(0), (by first | rfl | (simp; done) | (simp [*]; done)), H', ⟨Nat.le_refl _⟩, ⟨(Gtr.bw HB.out)⟩⟩
    case round =>
     clear H'
     (try clear c1);(try clear p2);(try clear q2);(try clear hx2);(try clear qi2);(try clear c4);(try clear c5);(try clear c5b0);(try clear c5b1);(try clear c6);(try clear c6b0);(try clear c6b1);(try clear c7);(try clear c7b0);(try clear c7b1);(try clear c8);(try clear hx226_0);(try clear hx226_1);(try clear hx226_2);(try clear hx226_3);(try clear hx226_4);(try clear hx226_5);(try clear hx226_6);(try clear hx226_7);(try clear hx227_0);(try clear hx227_1);(try clear hx227_2);(try clear hx227_3);(try clear hx227_4);(try clear hx227_5);(try clear hx227_6);(try clear hx227_7);(try clear p2);(try clear p226);(try clear p227);(try clear q2);(try clear q226);(try clear q227)
     obtain ⟨x31_2, rfl, HA, HK2, HB⟩ := hrel
     cases gk with
     | zero => exact absurd HA.out (by simp [spec_l17Good.l0])
     | succ k2 =>
      have H := HA.out
      clear HA
      simp only [spec_l17Good.l0] at H
      by_cases c9 : x31_2 < (l0.length : Int)
      ·rw [if_pos c9] at H
       have c9b0 : decide (x31_2 < (l0.length : Int)) = true := decide_eq_true c9
       clear c9
       refine Or.elim (Classical.em (0 ≤ x31_2)) (fun c10 => ?_) (fun c10 => by rw [if_neg c10] at H; exact absurd H (by simp))
       rw [if_pos c10] at H
       have c10b0 : decide (0 ≤ x31_2) = true := decide_eq_true c10
       clear c10
       refine Or.elim (Classical.em (x31_2 < (l0.length : Int))) (fun c11 => ?_) (fun c11 => by rw [if_neg c11] at H; exact absurd H (by simp))
       rw [if_pos c11] at H
       have c11b0 : decide (x31_2 < (l0.length : Int)) = true := decide_eq_true c11
       clear c11
       have HC12 := Aside0.mk H
       clear H
       have p228 : 0 ≤ (x31_2 : Int) := of_decide_eq_true (by first | (with_reducible assumption) | assumption)
       have q228 : x31_2 < (l0.length : Int) := of_decide_eq_true (by first | (with_reducible assumption) | assumption)
       obtain ⟨ad228, e228, hx228_0, hx228_1, hx228_2, hx228_3, hx228_4, hx228_5, hx228_6, hx228_7⟩ := at_T74 HR0.out x31_2 p228 q228
       cases e228
       replace hx228_0 := (HB.out.cell (World.block_lt_of_cell? w _ hx228_0)).trans hx228_0
       replace hx228_1 := (HB.out.cell (World.block_lt_of_cell? w _ hx228_1)).trans hx228_1
       replace hx228_2 := (HB.out.cell (World.block_lt_of_cell? w _ hx228_2)).trans hx228_2
       replace hx228_3 := (HB.out.cell (World.block_lt_of_cell? w _ hx228_3)).trans hx228_3
       replace hx228_4 := (HB.out.cell (World.block_lt_of_cell? w _ hx228_4)).trans hx228_4
       replace hx228_5 := (HB.out.cell (World.block_lt_of_cell? w _ hx228_5)).trans hx228_5
       replace hx228_6 := (HB.out.cell (World.block_lt_of_cell? w _ hx228_6)).trans hx228_6
       replace hx228_7 := (HB.out.cell (World.block_lt_of_cell? w _ hx228_7)).trans hx228_7
       replace p228 := eq_true p228
       replace q228 := eq_true q228
       go_upto_region 6 with (first | ((with_reducible refine gate_dst (N := 4) rfl ?_); (try (refine gate_guard (by rfl) ?_; dsimp only)); refine box_event ?hg (N := 4) ?hd (cs := #[.string (⟨#[]⟩ : ByteArray), .int .i64 0, .int .i64 0, .int .i64 0, .int .i64 0, .int .i64 0, .int .i64 0, .string (⟨#[]⟩ : ByteArray)]) (t := 74) ?hr ?_; (case hd => rfl); (case hg => rfl); (case hr => first | (go_simp; done) | (go_simp; rfl)); intro gb229 hg w13 hbox hb; have n0_ := Aside0.mk (below_step (Gtr.bw HB.out) hb); have n1_ := Aside0.mk (hbox); have n2_ := Aside0.mk ((by rw [hg]; exact (below_size (Gtr.bw HB.out)) : w.heap.size ≤ gb229)); have n3_ := Aside0.mk ((by rw [hg]; exact (below_size (Gtr.bw HB.out)) : w.heap.size ≤ gb229)); clear HB; have HB := n0_; have BK229 := n1_; have GW229 := n2_; have GE229 := n3_; clear n0_ n1_ n2_ n3_; clear hb hbox hg; have hcz14_0 : w13.cell? ⟨gb229, 0, none⟩ = some (.string (⟨#[]⟩ : ByteArray)) := (blk_cell BK229.out 0).trans rfl; have hcz14_1 : w13.cell? ⟨gb229, 1, none⟩ = some (.int .i64 0) := (blk_cell BK229.out 1).trans rfl; have hcz14_2 : w13.cell? ⟨gb229, 2, none⟩ = some (.int .i64 0) := (blk_cell BK229.out 2).trans rfl; have hcz14_3 : w13.cell? ⟨gb229, 3, none⟩ = some (.int .i64 0) := (blk_cell BK229.out 3).trans rfl; have hcz14_4 : w13.cell? ⟨gb229, 4, none⟩ = some (.int .i64 0) := (blk_cell BK229.out 4).trans rfl; have hcz14_5 : w13.cell? ⟨gb229, 5, none⟩ = some (.int .i64 0) := (blk_cell BK229.out 5).trans rfl; have hcz14_6 : w13.cell? ⟨gb229, 6, none⟩ = some (.int .i64 0) := (blk_cell BK229.out 6).trans rfl; have hcz14_7 : w13.cell? ⟨gb229, 7, none⟩ = some (.string (⟨#[]⟩ : ByteArray)) := (blk_cell BK229.out 7).trans rfl; have hfz14_0 := blk_frozen BK229.out 0; have hfz14_1 := blk_frozen BK229.out 1; have hfz14_2 := blk_frozen BK229.out 2; have hfz14_3 := blk_frozen BK229.out 3; have hfz14_4 := blk_frozen BK229.out 4; have hfz14_5 := blk_frozen BK229.out 5; have hfz14_6 := blk_frozen BK229.out 6; have hfz14_7 := blk_frozen BK229.out 7))
       (try simp only [Act.put, List.setIfInBounds_toArray, List.set_cons_zero, List.set_cons_succ])
       go_cut [51] (fun v51 wc => ∃ (kq : Nat) (x51_11 : Bool), v51 = .bool x51_11 ∧ Aside0 (spec_l17Good.j2 kq l0 l0 (l0.length : Int) x31_2 x51_11 ((rd_T74 l0 x31_2).f0) ((rd_T74 l0 x31_2).f1) ((rd_T74 l0 x31_2).f2) ((rd_T74 l0 x31_2).f3) ((rd_T74 l0 x31_2).f4) ((rd_T74 l0 x31_2).f5) ((rd_T74 l0 x31_2).f6) ((rd_T74 l0 x31_2).f7) = some r) ∧ Aside0 (kq ≤ k2) ∧ Aside0 (wc.heap[gb229]? = some (.cells #[.string ((rd_T74 l0 x31_2).f0), .int .i64 ((rd_T74 l0 x31_2).f1), .int .i64 ((rd_T74 l0 x31_2).f2), .int .i64 ((rd_T74 l0 x31_2).f3), .int .i64 ((rd_T74 l0 x31_2).f4), .int .i64 ((rd_T74 l0 x31_2).f5), .int .i64 ((rd_T74 l0 x31_2).f6), .string ((rd_T74 l0 x31_2).f7)] 74 (0, 0))) ∧ Aside0 (Below w.heap.size w wc))
       case first =>
        have H := HC12.out
        clear HC12
        replace H := Option.bind_eq_some_iff.mp H
        obtain ⟨t230, A150, H⟩ := H
        try dsimp only at H
        have A15 := Aside0.mk A150
        clear A150
        by_cases c16 : t230 = true
        ·subst c16
         have H1 := H
         rw [if_pos rfl] at H1
         clear H
         have H := H1
         clear H1
         by_cases c17 : x31_2 > 0
         ·rw [if_pos c17] at H
          have c17b0 : decide (0 < x31_2) = true := decide_eq_true c17
          clear c17
          (first | rw [c17b0] | (simp only [i64_w, i32_w]; rw [c17b0]) | skip)
          have c18b0 := eq_true (of_decide_eq_true (by first | (with_reducible assumption) | assumption) : 0 ≤ x31_2)
          refine Or.elim (Classical.em (x31_2 ≤ (l0.length : Int))) (fun c19 => ?_) (fun c19 => by rw [if_neg c19] at H; exact absurd H (by simp))
          rw [if_pos c19] at H
          have c19b0 := eq_true c19
          have c19b1 : decide (x31_2 ≤ (l0.length : Int)) = true := decide_eq_true c19
          clear c19
          obtain ⟨y231, hy231⟩ : ∃ y_ : List (S74), y_ = (l0.take (x31_2 : Int).toNat) := ⟨_, rfl⟩
          replace H : ((spec_l17Next.f k2 y231 ((rd_T74 l0 x31_2).f0) ((rd_T74 l0 x31_2).f1) ((rd_T74 l0 x31_2).f2) ((rd_T74 l0 x31_2).f3) ((rd_T74 l0 x31_2).f4) ((rd_T74 l0 x31_2).f5) ((rd_T74 l0 x31_2).f6) ((rd_T74 l0 x31_2).f7)).bind fun t235 => (spec_l17Good.j2 k2 l0 l0 (l0.length : Int) x31_2 (!t235) ((rd_T74 l0 x31_2).f0) ((rd_T74 l0 x31_2).f1) ((rd_T74 l0 x31_2).f2) ((rd_T74 l0 x31_2).f3) ((rd_T74 l0 x31_2).f4) ((rd_T74 l0 x31_2).f5) ((rd_T74 l0 x31_2).f6) ((rd_T74 l0 x31_2).f7))) = some r := by first | (rw [hy231]; with_reducible exact H) | (have H2_ := (Option.bind_some _ _).symm.trans H; rw [hy231]; with_reducible exact H2_) | (have H2_ := (Option.bind_some _ _).symm.trans H; with_reducible exact H2_) | with_reducible exact H | (rw [hy231]; exact H) | exact H
          have Ny231 := Aside0.mk hy231
          clear hy231
          replace H := Option.bind_eq_some_iff.mp H
          obtain ⟨t235, A200, H⟩ := H
          try dsimp only at H
          have A20 := Aside0.mk A200
          clear A200
          have H' := Aside0.mk H
          clear H
          try go_wp2
          have n0_ : Aside0 (((((((((w13.setCell ⟨gb229, 0, none⟩ (.string ((rd_T74 l0 x31_2).f0))).setCell ⟨gb229, 1, none⟩ (.int .i64 ((rd_T74 l0 x31_2).f1))).setCell ⟨gb229, 2, none⟩ (.int .i64 ((rd_T74 l0 x31_2).f2))).setCell ⟨gb229, 3, none⟩ (.int .i64 ((rd_T74 l0 x31_2).f3))).setCell ⟨gb229, 4, none⟩ (.int .i64 ((rd_T74 l0 x31_2).f4))).setCell ⟨gb229, 5, none⟩ (.int .i64 ((rd_T74 l0 x31_2).f5))).setCell ⟨gb229, 6, none⟩ (.int .i64 ((rd_T74 l0 x31_2).f6))).setCell ⟨gb229, 7, none⟩ (.string ((rd_T74 l0 x31_2).f7))).heap[gb229]? = some (.cells #[.string ((rd_T74 l0 x31_2).f0), .int .i64 ((rd_T74 l0 x31_2).f1), .int .i64 ((rd_T74 l0 x31_2).f2), .int .i64 ((rd_T74 l0 x31_2).f3), .int .i64 ((rd_T74 l0 x31_2).f4), .int .i64 ((rd_T74 l0 x31_2).f5), .int .i64 ((rd_T74 l0 x31_2).f6), .string ((rd_T74 l0 x31_2).f7)] 74 (0, 0))) := ⟨by (with_reducible repeat (first | refine blk_drewN ?_ _ | refine blk_drew ?_ | refine blk_alloc ?_ _)); refine blk_put (cs := #[.string ((rd_T74 l0 x31_2).f0), .int .i64 ((rd_T74 l0 x31_2).f1), .int .i64 ((rd_T74 l0 x31_2).f2), .int .i64 ((rd_T74 l0 x31_2).f3), .int .i64 ((rd_T74 l0 x31_2).f4), .int .i64 ((rd_T74 l0 x31_2).f5), .int .i64 ((rd_T74 l0 x31_2).f6), .string (⟨#[]⟩ : ByteArray)]) ?_ 7 _ rfl; (with_reducible repeat (first | refine blk_drewN ?_ _ | refine blk_drew ?_ | refine blk_alloc ?_ _)); refine blk_put (cs := #[.string ((rd_T74 l0 x31_2).f0), .int .i64 ((rd_T74 l0 x31_2).f1), .int .i64 ((rd_T74 l0 x31_2).f2), .int .i64 ((rd_T74 l0 x31_2).f3), .int .i64 ((rd_T74 l0 x31_2).f4), .int .i64 ((rd_T74 l0 x31_2).f5), .int .i64 0, .string (⟨#[]⟩ : ByteArray)]) ?_ 6 _ rfl; (with_reducible repeat (first | refine blk_drewN ?_ _ | refine blk_drew ?_ | refine blk_alloc ?_ _)); refine blk_put (cs := #[.string ((rd_T74 l0 x31_2).f0), .int .i64 ((rd_T74 l0 x31_2).f1), .int .i64 ((rd_T74 l0 x31_2).f2), .int .i64 ((rd_T74 l0 x31_2).f3), .int .i64 ((rd_T74 l0 x31_2).f4), .int .i64 0, .int .i64 0, .string (⟨#[]⟩ : ByteArray)]) ?_ 5 _ rfl; (with_reducible repeat (first | refine blk_drewN ?_ _ | refine blk_drew ?_ | refine blk_alloc ?_ _)); refine blk_put (cs := #[.string ((rd_T74 l0 x31_2).f0), .int .i64 ((rd_T74 l0 x31_2).f1), .int .i64 ((rd_T74 l0 x31_2).f2), .int .i64 ((rd_T74 l0 x31_2).f3), .int .i64 0, .int .i64 0, .int .i64 0, .string (⟨#[]⟩ : ByteArray)]) ?_ 4 _ rfl; (with_reducible repeat (first | refine blk_drewN ?_ _ | refine blk_drew ?_ | refine blk_alloc ?_ _)); refine blk_put (cs := #[.string ((rd_T74 l0 x31_2).f0), .int .i64 ((rd_T74 l0 x31_2).f1), .int .i64 ((rd_T74 l0 x31_2).f2), .int .i64 0, .int .i64 0, .int .i64 0, .int .i64 0, .string (⟨#[]⟩ : ByteArray)]) ?_ 3 _ rfl; (with_reducible repeat (first | refine blk_drewN ?_ _ | refine blk_drew ?_ | refine blk_alloc ?_ _)); refine blk_put (cs := #[.string ((rd_T74 l0 x31_2).f0), .int .i64 ((rd_T74 l0 x31_2).f1), .int .i64 0, .int .i64 0, .int .i64 0, .int .i64 0, .int .i64 0, .string (⟨#[]⟩ : ByteArray)]) ?_ 2 _ rfl; (with_reducible repeat (first | refine blk_drewN ?_ _ | refine blk_drew ?_ | refine blk_alloc ?_ _)); refine blk_put (cs := #[.string ((rd_T74 l0 x31_2).f0), .int .i64 0, .int .i64 0, .int .i64 0, .int .i64 0, .int .i64 0, .int .i64 0, .string (⟨#[]⟩ : ByteArray)]) ?_ 1 _ rfl; (with_reducible repeat (first | refine blk_drewN ?_ _ | refine blk_drew ?_ | refine blk_alloc ?_ _)); refine blk_put (cs := #[.string (⟨#[]⟩ : ByteArray), .int .i64 0, .int .i64 0, .int .i64 0, .int .i64 0, .int .i64 0, .int .i64 0, .string (⟨#[]⟩ : ByteArray)]) ?_ 0 _ rfl; (with_reducible repeat (first | refine blk_drewN ?_ _ | refine blk_drew ?_ | refine blk_alloc ?_ _)); exact BK229.out⟩
          have n1_ : Aside0 (Below w.heap.size w ((((((((w13.setCell ⟨gb229, 0, none⟩ (.string ((rd_T74 l0 x31_2).f0))).setCell ⟨gb229, 1, none⟩ (.int .i64 ((rd_T74 l0 x31_2).f1))).setCell ⟨gb229, 2, none⟩ (.int .i64 ((rd_T74 l0 x31_2).f2))).setCell ⟨gb229, 3, none⟩ (.int .i64 ((rd_T74 l0 x31_2).f3))).setCell ⟨gb229, 4, none⟩ (.int .i64 ((rd_T74 l0 x31_2).f4))).setCell ⟨gb229, 5, none⟩ (.int .i64 ((rd_T74 l0 x31_2).f5))).setCell ⟨gb229, 6, none⟩ (.int .i64 ((rd_T74 l0 x31_2).f6))).setCell ⟨gb229, 7, none⟩ (.string ((rd_T74 l0 x31_2).f7)))) := ⟨(Gtr.bw HB.out)⟩
          (try clear BK229);(try clear HB)
          generalize ((((((((w13.setCell ⟨gb229, 0, none⟩ (.string ((rd_T74 l0 x31_2).f0))).setCell ⟨gb229, 1, none⟩ (.int .i64 ((rd_T74 l0 x31_2).f1))).setCell ⟨gb229, 2, none⟩ (.int .i64 ((rd_T74 l0 x31_2).f2))).setCell ⟨gb229, 3, none⟩ (.int .i64 ((rd_T74 l0 x31_2).f3))).setCell ⟨gb229, 4, none⟩ (.int .i64 ((rd_T74 l0 x31_2).f4))).setCell ⟨gb229, 5, none⟩ (.int .i64 ((rd_T74 l0 x31_2).f5))).setCell ⟨gb229, 6, none⟩ (.int .i64 ((rd_T74 l0 x31_2).f6))).setCell ⟨gb229, 7, none⟩ (.string ((rd_T74 l0 x31_2).f7))) = w21 at n0_ n1_ ⊢
          have BK229 := n0_
          have HB := n1_
          clear n0_ n1_
          have n0_ := Aside0.mk (blk_drew BK229.out)
          have n1_ := Aside0.mk (below_drew1 HB.out)
          clear BK229
          clear HB
          have BK229 := n0_
          have HB := n1_
          clear n0_ n1_
          refine start_ (n := 16) (S := fun w' => w'.cell? ⟨gb229, 0, none⟩ = some (.string ((rd_T74 l0 x31_2).f0)) ∧ w'.cell? ⟨gb229, 1, none⟩ = some (.int .i64 ((rd_T74 l0 x31_2).f1)) ∧ w'.cell? ⟨gb229, 2, none⟩ = some (.int .i64 ((rd_T74 l0 x31_2).f2)) ∧ w'.cell? ⟨gb229, 3, none⟩ = some (.int .i64 ((rd_T74 l0 x31_2).f3)) ∧ w'.cell? ⟨gb229, 4, none⟩ = some (.int .i64 ((rd_T74 l0 x31_2).f4)) ∧ w'.cell? ⟨gb229, 5, none⟩ = some (.int .i64 ((rd_T74 l0 x31_2).f5)) ∧ w'.cell? ⟨gb229, 6, none⟩ = some (.int .i64 ((rd_T74 l0 x31_2).f6)) ∧ w'.cell? ⟨gb229, 7, none⟩ = some (.string ((rd_T74 l0 x31_2).f7))) (ds := []) (Gtr.bb 16 0) (by kernel_rfl) rfl rfl ⟨(blk_cell BK229.out 0).trans rfl, (blk_cell BK229.out 1).trans rfl, (blk_cell BK229.out 2).trans rfl, (blk_cell BK229.out 3).trans rfl, (blk_cell BK229.out 4).trans rfl, (blk_cell BK229.out 5).trans rfl, (blk_cell BK229.out 6).trans rfl, (blk_cell BK229.out 7).trans rfl⟩ (fun hHeld => ?_); refine with_tabW spec_l17Good.tab6 spec_l17Good.bits6 (fun HT_ HW_ => ?_)
          generalize w21.drew = w22 at BK229 HB hHeld ⊢
          refine pure_ (i := 1) (N := some 37) (v := ?_) (a' := ?_) (Gtr.bb 16 2) rfl rfl (any_of HT_.out (by kernel_rfl)) (fun _ _ _ h => h) (Or.inl ⟨by rfl, ?_⟩) ?_ ?_
          rotate_left
          ·intro w'
           go_simp
           with_reducible rfl
          rotate_left
          ·simp only [Gtr.ps]
           rfl
          refine take_ (i := 0) (N := some 36) (v := ?_) (a' := ?_) (Gtr.bb 16 3) rfl rfl (take_ofW HT_.out HW_.out (by kernel_rfl)) (fun _ _ _ h => h) (Or.inl ⟨by rfl, ?_⟩) hHeld ?_ ?_
          rotate_left
          ·rintro w' ⟨s0, s1, s2, s3, s4, s5, s6, s7⟩
           go_simp
           with_reducible rfl
          rotate_left
          ·simp only [Gtr.ps]
           rfl
          refine one_ (i := 2) (N := some 38) (Gtr.bb 16 7) rfl rfl (one_of HT_.out (by kernel_rfl)) (by decide) (fun K hK => ?_)
          refine goes_ Tryz.func126 (by kernel_rfl) rfl #[.agg #[.string ((rd_T74 l0 x31_2).f0), .int .i64 ((rd_T74 l0 x31_2).f1), .int .i64 ((rd_T74 l0 x31_2).f2), .int .i64 ((rd_T74 l0 x31_2).f3), .int .i64 ((rd_T74 l0 x31_2).f4), .int .i64 ((rd_T74 l0 x31_2).f5), .int .i64 ((rd_T74 l0 x31_2).f6), .string ((rd_T74 l0 x31_2).f7)], .int .i64 x31_2] (by rfl) rfl rfl (by (try simp only [List.map_toArray, List.map_cons, List.map_nil]); first | done | rfl | (simp only [List.length_drop, List.length_take]; rfl)) ?_
          with_reducible refine (spec_l17Alone.calls ((rd_T74 l0 x31_2).f0) ((rd_T74 l0 x31_2).f1) ((rd_T74 l0 x31_2).f2) ((rd_T74 l0 x31_2).f3) ((rd_T74 l0 x31_2).f4) ((rd_T74 l0 x31_2).f5) ((rd_T74 l0 x31_2).f6) ((rd_T74 l0 x31_2).f7) x31_2 true _ A15.out).mono ?_
          rintro e w23 ⟨rfl, hb⟩
          refine ⟨_, rfl, ?_⟩
          have n0_ := Aside0.mk (blk_below (g := gb229) (o := .cells #[.string ((rd_T74 l0 x31_2).f0), .int .i64 ((rd_T74 l0 x31_2).f1), .int .i64 ((rd_T74 l0 x31_2).f2), .int .i64 ((rd_T74 l0 x31_2).f3), .int .i64 ((rd_T74 l0 x31_2).f4), .int .i64 ((rd_T74 l0 x31_2).f5), .int .i64 ((rd_T74 l0 x31_2).f6), .string ((rd_T74 l0 x31_2).f7)] 74 (0, 0)) (by (with_reducible repeat (first | refine blk_drewN ?_ _ | refine blk_drew ?_ | refine blk_alloc ?_ _)); exact BK229.out) hb)
          have n1_ := Aside0.mk (below_step (Gtr.bw HB.out) hb)
          clear BK229
          clear HB
          have BK229 := n0_
          have HB := n1_
          clear n0_ n1_
          (try clear hb);(try clear hb2);(try clear hk);(try clear hi)
          have q24 : (x31_2 : Int) ≤ ((l0.length : Int) : Int) := of_decide_eq_true (by first | (with_reducible assumption) | assumption)
          obtain ⟨i024, hi024, _, hsz24, _⟩ := info_parts info74
          have hroom24 : l0.length ≤ c0 := HC0.out
          have hC24 : Kd.C k74 _ (some ad228) l0.length l0 := HR0.out
          have hcut24 := cut_to (P := Tryz.prog) 26 74 .i64 Tryz.underlying26 hi024 (some ad228) l0.length c0 x31_2 (of_decide_eq_true (by first | (with_reducible assumption) | assumption)) q24 hroom24
          have hr24 := Kd.C_take (m := (x31_2 : Int).toNat) hC24 (by omega)
          have hy24 : y231.length = (x31_2 : Int).toNat := (by rw [Ny231.out, List.length_take]; omega)
          rw [← Ny231.out] at hr24
          rw [← hy24] at hcut24
          have HR234 := Aside0.mk hr24
          have HC234 := Aside0.mk (show y231.length ≤ c0 from by omega)
          clear hr24 hC24 hroom24 hi024 hsz24
          have KY24 := Aside0.mk hy24
          clear hy24
          replace q24 := eq_true q24
          refine hK.out _ _ ⟨(blk_cell BK229.out 0).trans rfl, (blk_cell BK229.out 1).trans rfl, (blk_cell BK229.out 2).trans rfl, (blk_cell BK229.out 3).trans rfl, (blk_cell BK229.out 4).trans rfl, (blk_cell BK229.out 5).trans rfl, (blk_cell BK229.out 6).trans rfl, (blk_cell BK229.out 7).trans rfl⟩ (fun hHeld => ?_)
          clear hK K
          refine norm_ (a' := ?_) ?_ ?_
          rotate_left
          ·show Act.put _ (some 38) _ = _
           simp only [Gtr.ps]
           rfl
          refine pure_ (i := 3) (N := some 39) (v := ?_) (a' := ?_) (Gtr.bb 16 15) rfl rfl (any_of HT_.out (by kernel_rfl)) (fun _ _ _ h => h) (Or.inl ⟨by rfl, ?_⟩) ?_ ?_
          rotate_left
          ·intro w'
           go_simp
           with_reducible rfl
          rotate_left
          ·simp only [Gtr.ps]
           rfl
          refine pure_ (i := 4) (N := some 40) (v := ?_) (a' := ?_) (Gtr.bb 16 31) rfl rfl (any_of HT_.out (by kernel_rfl)) (fun _ _ _ h => h) (Or.inl ⟨by rfl, ?_⟩) ?_ ?_
          rotate_left
          ·intro w'
           go_simp
           with_reducible rfl
          rotate_left
          ·simp only [Gtr.ps]
           rfl
          refine pure_ (i := 5) (N := some 41) (v := ?_) (a' := ?_) (Gtr.bb 16 63) rfl rfl (any_of HT_.out (by kernel_rfl)) (fun _ _ _ h => h) (Or.inl ⟨by rfl, ?_⟩) ?_ ?_
          rotate_left
          ·intro w'
           go_simp
           with_reducible rfl
          rotate_left
          ·simp only [Gtr.ps]
           rfl
          refine pure_ (i := 6) (N := some 42) (v := ?_) (a' := ?_) (Gtr.bb 16 127) rfl rfl (any_of HT_.out (by kernel_rfl)) (fun _ _ _ h => h) (Or.inl ⟨by rfl, ?_⟩) ?_ ?_
          rotate_left
          ·intro w'
           go_simp
           with_reducible rfl
          rotate_left
          ·simp only [Gtr.ps]
           rfl
          refine pure_ (i := 7) (N := some 43) (v := ?_) (a' := ?_) (Gtr.bb 16 255) rfl rfl (any_of HT_.out (by kernel_rfl)) (fun _ _ _ h => h) (Or.inl ⟨by rfl, ?_⟩) ?_ ?_
          rotate_left
          ·intro w'
           go_simp
           with_reducible rfl
          rotate_left
          ·simp only [Gtr.ps]
           rfl
          refine pure_ (i := 8) (N := some 44) (v := ?_) (a' := ?_) (Gtr.bb 16 511) rfl rfl (any_of HT_.out (by kernel_rfl)) (fun _ _ _ h => h) (Or.inl ⟨by rfl, ?_⟩) ?_ ?_
          rotate_left
          ·intro w'
           go_simp
           with_reducible rfl
          rotate_left
          ·simp only [Gtr.ps]
           rfl
          refine pure_ (i := 9) (N := some 45) (v := ?_) (a' := ?_) (Gtr.bb 16 1023) rfl rfl (any_of HT_.out (by kernel_rfl)) (fun _ _ _ h => h) (Or.inl ⟨by rfl, ?_⟩) ?_ ?_
          rotate_left
          ·intro w'
           go_simp
           with_reducible rfl
          rotate_left
          ·simp only [Gtr.ps]
           rfl
          refine pure_ (i := 10) (N := some 46) (v := ?_) (a' := ?_) (Gtr.bb 16 2047) rfl rfl (any_of HT_.out (by kernel_rfl)) (fun _ _ _ h => h) (Or.inl ⟨by rfl, ?_⟩) ?_ ?_
          rotate_left
          ·intro w'
           go_simp
           with_reducible rfl
          rotate_left
          ·simp only [Gtr.ps]
           rfl
          refine take_ (i := 11) (N := some 47) (v := ?_) (a' := ?_) (Gtr.bb 16 4095) rfl rfl (take_ofW HT_.out HW_.out (by kernel_rfl)) (fun _ _ _ h => h) (Or.inl ⟨by rfl, ?_⟩) hHeld ?_ ?_
          rotate_left
          ·rintro w' ⟨s0, s1, s2, s3, s4, s5, s6, s7⟩
           go_simp
           with_reducible rfl
          rotate_left
          ·simp only [Gtr.ps]
           rfl
          refine one_ (i := 12) (N := some 48) (Gtr.bb 16 8191) rfl rfl (one_of HT_.out (by kernel_rfl)) (by decide) (fun K hK => ?_)
          refine goes_ Tryz.func127 (by kernel_rfl) rfl #[.slice (some ad228) y231.length c0, .agg #[.string ((rd_T74 l0 x31_2).f0), .int .i64 ((rd_T74 l0 x31_2).f1), .int .i64 ((rd_T74 l0 x31_2).f2), .int .i64 ((rd_T74 l0 x31_2).f3), .int .i64 ((rd_T74 l0 x31_2).f4), .int .i64 ((rd_T74 l0 x31_2).f5), .int .i64 ((rd_T74 l0 x31_2).f6), .string ((rd_T74 l0 x31_2).f7)]] (by rfl) rfl rfl (by (try simp only [List.map_toArray, List.map_cons, List.map_nil]); first | done | rfl | (simp only [List.length_drop, List.length_take]; rfl)) ?_
          with_reducible refine (spec_l17Next.calls k2 _ _ y231 ((rd_T74 l0 x31_2).f0) ((rd_T74 l0 x31_2).f1) ((rd_T74 l0 x31_2).f2) ((rd_T74 l0 x31_2).f3) ((rd_T74 l0 x31_2).f4) ((rd_T74 l0 x31_2).f5) ((rd_T74 l0 x31_2).f6) ((rd_T74 l0 x31_2).f7) t235 _ ?side1 ?side2 A20.out).mono ?_
          (case side1 => repeat (first | exact (Kd.C_below HR234.out HB.out) | (with_reducible refine Kd.C_alloc ?_ _) | (with_reducible refine Kd.C_drewN ?_ _) | (with_reducible refine Kd.C_drew ?_)))
          (case side2 => exact HC234.out)
          rintro e w25 ⟨rfl, hb⟩
          refine ⟨_, rfl, ?_⟩
          have n0_ := Aside0.mk (blk_below (g := gb229) (o := .cells #[.string ((rd_T74 l0 x31_2).f0), .int .i64 ((rd_T74 l0 x31_2).f1), .int .i64 ((rd_T74 l0 x31_2).f2), .int .i64 ((rd_T74 l0 x31_2).f3), .int .i64 ((rd_T74 l0 x31_2).f4), .int .i64 ((rd_T74 l0 x31_2).f5), .int .i64 ((rd_T74 l0 x31_2).f6), .string ((rd_T74 l0 x31_2).f7)] 74 (0, 0)) (by (with_reducible repeat (first | refine blk_drewN ?_ _ | refine blk_drew ?_ | refine blk_alloc ?_ _)); exact BK229.out) hb)
          have n1_ := Aside0.mk (below_step (Gtr.bw HB.out) hb)
          clear BK229
          clear HB
          have BK229 := n0_
          have HB := n1_
          clear n0_ n1_
          (try clear hb);(try clear hb2);(try clear hk);(try clear hi)
          refine hK.out _ _ ⟨(blk_cell BK229.out 0).trans rfl, (blk_cell BK229.out 1).trans rfl, (blk_cell BK229.out 2).trans rfl, (blk_cell BK229.out 3).trans rfl, (blk_cell BK229.out 4).trans rfl, (blk_cell BK229.out 5).trans rfl, (blk_cell BK229.out 6).trans rfl, (blk_cell BK229.out 7).trans rfl⟩ (fun hHeld => ?_)
          clear hK K
          refine norm_ (a' := ?_) ?_ ?_
          rotate_left
          ·show Act.put _ (some 48) _ = _
           simp only [Gtr.ps]
           rfl
          refine pure_ (i := 13) (N := some 49) (v := ?_) (a' := ?_) (Gtr.bb 16 16383) rfl rfl (any_of HT_.out (by kernel_rfl)) (fun _ _ _ h => h) (Or.inl ⟨by rfl, ?_⟩) ?_ ?_
          rotate_left
          ·intro w'
           go_simp
           with_reducible rfl
          rotate_left
          ·simp only [Gtr.ps]
           rfl
          refine pure_ (i := 14) (N := some 50) (v := ?_) (a' := ?_) (Gtr.bb 16 32767) rfl rfl (any_of HT_.out (by kernel_rfl)) (fun _ _ _ h => h) (Or.inl ⟨by rfl, ?_⟩) ?_ ?_
          rotate_left
          ·intro w'
           go_simp
           with_reducible rfl
          rotate_left
          ·simp only [Gtr.ps]
           rfl
          refine pure_ (i := 15) (N := some 51) (v := ?_) (a' := ?_) (Gtr.bb 16 65535) rfl rfl (any_of HT_.out (by kernel_rfl)) (fun _ _ _ h => h) (Or.inl ⟨by rfl, ?_⟩) ?_ ?_
          rotate_left
          ·intro w'
           go_simp
           with_reducible rfl
          rotate_left
          ·simp only [Gtr.ps]
           rfl
          refine done_ (done_of HT_.out (by kernel_rfl)) ?_
          try go_wp2
          go_meet
          case rel => exact ⟨_, (!t235), (by first | rfl | (simp; done) | (simp [*]; done)), H', ⟨by have := HJ1.out; have := HK2.out; first | omega | exact Nat.le_refl _⟩, ⟨by (with_reducible repeat (first | refine blk_drewN ?_ _ | refine blk_drew ?_ | refine blk_alloc ?_ _)); exact BK229.out⟩, ⟨(Gtr.bw HB.out)⟩⟩
         ·rw [if_neg c17] at H
          have c17b0 : decide (0 < x31_2) = false := decide_eq_false c17
          clear c17
          (first | rw [c17b0] | (simp only [i64_w, i32_w]; rw [c17b0]) | skip)
          have H' := Aside0.mk H
          clear H
          try go_wp2
          have n0_ : Aside0 (((((((((w13.setCell ⟨gb229, 0, none⟩ (.string ((rd_T74 l0 x31_2).f0))).setCell ⟨gb229, 1, none⟩ (.int .i64 ((rd_T74 l0 x31_2).f1))).setCell ⟨gb229, 2, none⟩ (.int .i64 ((rd_T74 l0 x31_2).f2))).setCell ⟨gb229, 3, none⟩ (.int .i64 ((rd_T74 l0 x31_2).f3))).setCell ⟨gb229, 4, none⟩ (.int .i64 ((rd_T74 l0 x31_2).f4))).setCell ⟨gb229, 5, none⟩ (.int .i64 ((rd_T74 l0 x31_2).f5))).setCell ⟨gb229, 6, none⟩ (.int .i64 ((rd_T74 l0 x31_2).f6))).setCell ⟨gb229, 7, none⟩ (.string ((rd_T74 l0 x31_2).f7))).heap[gb229]? = some (.cells #[.string ((rd_T74 l0 x31_2).f0), .int .i64 ((rd_T74 l0 x31_2).f1), .int .i64 ((rd_T74 l0 x31_2).f2), .int .i64 ((rd_T74 l0 x31_2).f3), .int .i64 ((rd_T74 l0 x31_2).f4), .int .i64 ((rd_T74 l0 x31_2).f5), .int .i64 ((rd_T74 l0 x31_2).f6), .string ((rd_T74 l0 x31_2).f7)] 74 (0, 0))) := ⟨by (with_reducible repeat (first | refine blk_drewN ?_ _ | refine blk_drew ?_ | refine blk_alloc ?_ _)); refine blk_put (cs := #[.string ((rd_T74 l0 x31_2).f0), .int .i64 ((rd_T74 l0 x31_2).f1), .int .i64 ((rd_T74 l0 x31_2).f2), .int .i64 ((rd_T74 l0 x31_2).f3), .int .i64 ((rd_T74 l0 x31_2).f4), .int .i64 ((rd_T74 l0 x31_2).f5), .int .i64 ((rd_T74 l0 x31_2).f6), .string (⟨#[]⟩ : ByteArray)]) ?_ 7 _ rfl; (with_reducible repeat (first | refine blk_drewN ?_ _ | refine blk_drew ?_ | refine blk_alloc ?_ _)); refine blk_put (cs := #[.string ((rd_T74 l0 x31_2).f0), .int .i64 ((rd_T74 l0 x31_2).f1), .int .i64 ((rd_T74 l0 x31_2).f2), .int .i64 ((rd_T74 l0 x31_2).f3), .int .i64 ((rd_T74 l0 x31_2).f4), .int .i64 ((rd_T74 l0 x31_2).f5), .int .i64 0, .string (⟨#[]⟩ : ByteArray)]) ?_ 6 _ rfl; (with_reducible repeat (first | refine blk_drewN ?_ _ | refine blk_drew ?_ | refine blk_alloc ?_ _)); refine blk_put (cs := #[.string ((rd_T74 l0 x31_2).f0), .int .i64 ((rd_T74 l0 x31_2).f1), .int .i64 ((rd_T74 l0 x31_2).f2), .int .i64 ((rd_T74 l0 x31_2).f3), .int .i64 ((rd_T74 l0 x31_2).f4), .int .i64 0, .int .i64 0, .string (⟨#[]⟩ : ByteArray)]) ?_ 5 _ rfl; (with_reducible repeat (first | refine blk_drewN ?_ _ | refine blk_drew ?_ | refine blk_alloc ?_ _)); refine blk_put (cs := #[.string ((rd_T74 l0 x31_2).f0), .int .i64 ((rd_T74 l0 x31_2).f1), .int .i64 ((rd_T74 l0 x31_2).f2), .int .i64 ((rd_T74 l0 x31_2).f3), .int .i64 0, .int .i64 0, .int .i64 0, .string (⟨#[]⟩ : ByteArray)]) ?_ 4 _ rfl; (with_reducible repeat (first | refine blk_drewN ?_ _ | refine blk_drew ?_ | refine blk_alloc ?_ _)); refine blk_put (cs := #[.string ((rd_T74 l0 x31_2).f0), .int .i64 ((rd_T74 l0 x31_2).f1), .int .i64 ((rd_T74 l0 x31_2).f2), .int .i64 0, .int .i64 0, .int .i64 0, .int .i64 0, .string (⟨#[]⟩ : ByteArray)]) ?_ 3 _ rfl; (with_reducible repeat (first | refine blk_drewN ?_ _ | refine blk_drew ?_ | refine blk_alloc ?_ _)); refine blk_put (cs := #[.string ((rd_T74 l0 x31_2).f0), .int .i64 ((rd_T74 l0 x31_2).f1), .int .i64 0, .int .i64 0, .int .i64 0, .int .i64 0, .int .i64 0, .string (⟨#[]⟩ : ByteArray)]) ?_ 2 _ rfl; (with_reducible repeat (first | refine blk_drewN ?_ _ | refine blk_drew ?_ | refine blk_alloc ?_ _)); refine blk_put (cs := #[.string ((rd_T74 l0 x31_2).f0), .int .i64 0, .int .i64 0, .int .i64 0, .int .i64 0, .int .i64 0, .int .i64 0, .string (⟨#[]⟩ : ByteArray)]) ?_ 1 _ rfl; (with_reducible repeat (first | refine blk_drewN ?_ _ | refine blk_drew ?_ | refine blk_alloc ?_ _)); refine blk_put (cs := #[.string (⟨#[]⟩ : ByteArray), .int .i64 0, .int .i64 0, .int .i64 0, .int .i64 0, .int .i64 0, .int .i64 0, .string (⟨#[]⟩ : ByteArray)]) ?_ 0 _ rfl; (with_reducible repeat (first | refine blk_drewN ?_ _ | refine blk_drew ?_ | refine blk_alloc ?_ _)); exact BK229.out⟩
          have n1_ : Aside0 (Below w.heap.size w ((((((((w13.setCell ⟨gb229, 0, none⟩ (.string ((rd_T74 l0 x31_2).f0))).setCell ⟨gb229, 1, none⟩ (.int .i64 ((rd_T74 l0 x31_2).f1))).setCell ⟨gb229, 2, none⟩ (.int .i64 ((rd_T74 l0 x31_2).f2))).setCell ⟨gb229, 3, none⟩ (.int .i64 ((rd_T74 l0 x31_2).f3))).setCell ⟨gb229, 4, none⟩ (.int .i64 ((rd_T74 l0 x31_2).f4))).setCell ⟨gb229, 5, none⟩ (.int .i64 ((rd_T74 l0 x31_2).f5))).setCell ⟨gb229, 6, none⟩ (.int .i64 ((rd_T74 l0 x31_2).f6))).setCell ⟨gb229, 7, none⟩ (.string ((rd_T74 l0 x31_2).f7)))) := ⟨(Gtr.bw HB.out)⟩
          (try clear BK229);(try clear HB)
          generalize ((((((((w13.setCell ⟨gb229, 0, none⟩ (.string ((rd_T74 l0 x31_2).f0))).setCell ⟨gb229, 1, none⟩ (.int .i64 ((rd_T74 l0 x31_2).f1))).setCell ⟨gb229, 2, none⟩ (.int .i64 ((rd_T74 l0 x31_2).f2))).setCell ⟨gb229, 3, none⟩ (.int .i64 ((rd_T74 l0 x31_2).f3))).setCell ⟨gb229, 4, none⟩ (.int .i64 ((rd_T74 l0 x31_2).f4))).setCell ⟨gb229, 5, none⟩ (.int .i64 ((rd_T74 l0 x31_2).f5))).setCell ⟨gb229, 6, none⟩ (.int .i64 ((rd_T74 l0 x31_2).f6))).setCell ⟨gb229, 7, none⟩ (.string ((rd_T74 l0 x31_2).f7))) = w26 at n0_ n1_ ⊢
          have BK229 := n0_
          have HB := n1_
          clear n0_ n1_
          have n0_ := Aside0.mk (blk_drew BK229.out)
          have n1_ := Aside0.mk (below_drew1 HB.out)
          clear BK229
          clear HB
          have BK229 := n0_
          have HB := n1_
          clear n0_ n1_
          refine start_ (n := 16) (S := fun w' => w'.cell? ⟨gb229, 0, none⟩ = some (.string ((rd_T74 l0 x31_2).f0)) ∧ w'.cell? ⟨gb229, 1, none⟩ = some (.int .i64 ((rd_T74 l0 x31_2).f1)) ∧ w'.cell? ⟨gb229, 2, none⟩ = some (.int .i64 ((rd_T74 l0 x31_2).f2)) ∧ w'.cell? ⟨gb229, 3, none⟩ = some (.int .i64 ((rd_T74 l0 x31_2).f3)) ∧ w'.cell? ⟨gb229, 4, none⟩ = some (.int .i64 ((rd_T74 l0 x31_2).f4)) ∧ w'.cell? ⟨gb229, 5, none⟩ = some (.int .i64 ((rd_T74 l0 x31_2).f5)) ∧ w'.cell? ⟨gb229, 6, none⟩ = some (.int .i64 ((rd_T74 l0 x31_2).f6)) ∧ w'.cell? ⟨gb229, 7, none⟩ = some (.string ((rd_T74 l0 x31_2).f7))) (ds := []) (Gtr.bb 16 0) (by kernel_rfl) rfl rfl ⟨(blk_cell BK229.out 0).trans rfl, (blk_cell BK229.out 1).trans rfl, (blk_cell BK229.out 2).trans rfl, (blk_cell BK229.out 3).trans rfl, (blk_cell BK229.out 4).trans rfl, (blk_cell BK229.out 5).trans rfl, (blk_cell BK229.out 6).trans rfl, (blk_cell BK229.out 7).trans rfl⟩ (fun hHeld => ?_); refine with_tabW spec_l17Good.tab6 spec_l17Good.bits6 (fun HT_ HW_ => ?_)
          generalize w26.drew = w27 at BK229 HB hHeld ⊢
          refine pure_ (i := 1) (N := some 37) (v := ?_) (a' := ?_) (Gtr.bb 16 2) rfl rfl (any_of HT_.out (by kernel_rfl)) (fun _ _ _ h => h) (Or.inl ⟨by rfl, ?_⟩) ?_ ?_
          rotate_left
          ·intro w'
           go_simp
           with_reducible rfl
          rotate_left
          ·simp only [Gtr.ps]
           rfl
          refine take_ (i := 0) (N := some 36) (v := ?_) (a' := ?_) (Gtr.bb 16 3) rfl rfl (take_ofW HT_.out HW_.out (by kernel_rfl)) (fun _ _ _ h => h) (Or.inl ⟨by rfl, ?_⟩) hHeld ?_ ?_
          rotate_left
          ·rintro w' ⟨s0, s1, s2, s3, s4, s5, s6, s7⟩
           go_simp
           with_reducible rfl
          rotate_left
          ·simp only [Gtr.ps]
           rfl
          refine one_ (i := 2) (N := some 38) (Gtr.bb 16 7) rfl rfl (one_of HT_.out (by kernel_rfl)) (by decide) (fun K hK => ?_)
          refine goes_ Tryz.func126 (by kernel_rfl) rfl #[.agg #[.string ((rd_T74 l0 x31_2).f0), .int .i64 ((rd_T74 l0 x31_2).f1), .int .i64 ((rd_T74 l0 x31_2).f2), .int .i64 ((rd_T74 l0 x31_2).f3), .int .i64 ((rd_T74 l0 x31_2).f4), .int .i64 ((rd_T74 l0 x31_2).f5), .int .i64 ((rd_T74 l0 x31_2).f6), .string ((rd_T74 l0 x31_2).f7)], .int .i64 x31_2] (by rfl) rfl rfl (by (try simp only [List.map_toArray, List.map_cons, List.map_nil]); first | done | rfl | (simp only [List.length_drop, List.length_take]; rfl)) ?_
          with_reducible refine (spec_l17Alone.calls ((rd_T74 l0 x31_2).f0) ((rd_T74 l0 x31_2).f1) ((rd_T74 l0 x31_2).f2) ((rd_T74 l0 x31_2).f3) ((rd_T74 l0 x31_2).f4) ((rd_T74 l0 x31_2).f5) ((rd_T74 l0 x31_2).f6) ((rd_T74 l0 x31_2).f7) x31_2 true _ A15.out).mono ?_
          rintro e w28 ⟨rfl, hb⟩
          refine ⟨_, rfl, ?_⟩
          have n0_ := Aside0.mk (blk_below (g := gb229) (o := .cells #[.string ((rd_T74 l0 x31_2).f0), .int .i64 ((rd_T74 l0 x31_2).f1), .int .i64 ((rd_T74 l0 x31_2).f2), .int .i64 ((rd_T74 l0 x31_2).f3), .int .i64 ((rd_T74 l0 x31_2).f4), .int .i64 ((rd_T74 l0 x31_2).f5), .int .i64 ((rd_T74 l0 x31_2).f6), .string ((rd_T74 l0 x31_2).f7)] 74 (0, 0)) (by (with_reducible repeat (first | refine blk_drewN ?_ _ | refine blk_drew ?_ | refine blk_alloc ?_ _)); exact BK229.out) hb)
          have n1_ := Aside0.mk (below_step (Gtr.bw HB.out) hb)
          clear BK229
          clear HB
          have BK229 := n0_
          have HB := n1_
          clear n0_ n1_
          (try clear hb);(try clear hb2);(try clear hk);(try clear hi)
          refine hK.out _ _ ⟨(blk_cell BK229.out 0).trans rfl, (blk_cell BK229.out 1).trans rfl, (blk_cell BK229.out 2).trans rfl, (blk_cell BK229.out 3).trans rfl, (blk_cell BK229.out 4).trans rfl, (blk_cell BK229.out 5).trans rfl, (blk_cell BK229.out 6).trans rfl, (blk_cell BK229.out 7).trans rfl⟩ (fun hHeld => ?_)
          clear hK K
          refine norm_ (a' := ?_) ?_ ?_
          rotate_left
          ·show Act.put _ (some 38) _ = _
           simp only [Gtr.ps]
           rfl
          refine pure_ (i := 3) (N := some 39) (v := ?_) (a' := ?_) (Gtr.bb 16 15) rfl rfl (any_of HT_.out (by kernel_rfl)) (fun _ _ _ h => h) (Or.inl ⟨by rfl, ?_⟩) ?_ ?_
          rotate_left
          ·intro w'
           go_simp
           with_reducible rfl
          rotate_left
          ·simp only [Gtr.ps]
           rfl
          refine pure_ (i := 4) (N := some 40) (v := ?_) (a' := ?_) (Gtr.bb 16 31) rfl rfl (any_of HT_.out (by kernel_rfl)) (fun _ _ _ h => h) (Or.inl ⟨by rfl, ?_⟩) ?_ ?_
          rotate_left
          ·intro w'
           go_simp
           with_reducible rfl
          rotate_left
          ·simp only [Gtr.ps]
           rfl
          refine pure_ (i := 5) (N := some 41) (v := ?_) (a' := ?_) (Gtr.bb 16 63) rfl rfl (any_of HT_.out (by kernel_rfl)) (fun _ _ _ h => h) (Or.inl ⟨by rfl, ?_⟩) ?_ ?_
          rotate_left
          ·intro w'
           go_simp
           with_reducible rfl
          rotate_left
          ·simp only [Gtr.ps]
           rfl
          refine pure_ (i := 6) (N := some 42) (v := ?_) (a' := ?_) (Gtr.bb 16 127) rfl rfl (any_of HT_.out (by kernel_rfl)) (fun _ _ _ h => h) (Or.inl ⟨by rfl, ?_⟩) ?_ ?_
          rotate_left
          ·intro w'
           go_simp
           with_reducible rfl
          rotate_left
          ·simp only [Gtr.ps]
           rfl
          refine pure_ (i := 7) (N := some 43) (v := ?_) (a' := ?_) (Gtr.bb 16 255) rfl rfl (any_of HT_.out (by kernel_rfl)) (fun _ _ _ h => h) (Or.inl ⟨by rfl, ?_⟩) ?_ ?_
          rotate_left
          ·intro w'
           go_simp
           with_reducible rfl
          rotate_left
          ·simp only [Gtr.ps]
           rfl
          refine pure_ (i := 8) (N := some 44) (v := undef) (a' := ?_) (Gtr.bb 16 511) rfl rfl (any_of HT_.out (by kernel_rfl)) (fun _ _ _ h => h) (Or.inr ⟨by rfl, rfl⟩) ?_ ?_
          rotate_left
          ·simp only [Gtr.ps]
           rfl
          refine pure_ (i := 9) (N := some 45) (v := undef) (a' := ?_) (Gtr.bb 16 1023) rfl rfl (any_of HT_.out (by kernel_rfl)) (fun _ _ _ h => h) (Or.inr ⟨by rfl, rfl⟩) ?_ ?_
          rotate_left
          ·simp only [Gtr.ps]
           rfl
          refine pure_ (i := 10) (N := some 46) (v := undef) (a' := ?_) (Gtr.bb 16 2047) rfl rfl (any_of HT_.out (by kernel_rfl)) (fun _ _ _ h => h) (Or.inr ⟨by rfl, rfl⟩) ?_ ?_
          rotate_left
          ·simp only [Gtr.ps]
           rfl
          refine pure_ (i := 11) (N := some 47) (v := undef) (a' := ?_) (Gtr.bb 16 4095) rfl rfl (any_of HT_.out (by kernel_rfl)) (fun _ _ _ h => h) (Or.inr ⟨by rfl, rfl⟩) ?_ ?_
          rotate_left
          ·simp only [Gtr.ps]
           rfl
          refine pure_ (i := 12) (N := some 48) (v := undef) (a' := ?_) (Gtr.bb 16 8191) rfl rfl (any_of HT_.out (by kernel_rfl)) (fun _ _ _ h => h) (Or.inr ⟨by rfl, rfl⟩) ?_ ?_
          rotate_left
          ·simp only [Gtr.ps]
           rfl
          refine pure_ (i := 13) (N := some 49) (v := undef) (a' := ?_) (Gtr.bb 16 16383) rfl rfl (any_of HT_.out (by kernel_rfl)) (fun _ _ _ h => h) (Or.inr ⟨by rfl, rfl⟩) ?_ ?_
          rotate_left
          ·simp only [Gtr.ps]
           rfl
          refine pure_ (i := 14) (N := some 50) (v := ?_) (a' := ?_) (Gtr.bb 16 32767) rfl rfl (any_of HT_.out (by kernel_rfl)) (fun _ _ _ h => h) (Or.inl ⟨by rfl, ?_⟩) ?_ ?_
          rotate_left
          ·intro w'
           go_simp
           with_reducible rfl
          rotate_left
          ·simp only [Gtr.ps]
           rfl
          refine pure_ (i := 15) (N := some 51) (v := ?_) (a' := ?_) (Gtr.bb 16 65535) rfl rfl (any_of HT_.out (by kernel_rfl)) (fun _ _ _ h => h) (Or.inl ⟨by rfl, ?_⟩) ?_ ?_
          rotate_left
          ·intro w'
           go_simp
           with_reducible rfl
          rotate_left
          ·simp only [Gtr.ps]
           rfl
          refine done_ (done_of HT_.out (by kernel_rfl)) ?_
          try go_wp2
          go_meet
          case rel => exact ⟨_, (false), (by first | rfl | (simp; done) | (simp [*]; done)), H', ⟨by have := HJ1.out; have := HK2.out; first | omega | exact Nat.le_refl _⟩, ⟨by (with_reducible repeat (first | refine blk_drewN ?_ _ | refine blk_drew ?_ | refine blk_alloc ?_ _)); exact BK229.out⟩, ⟨(Gtr.bw HB.out)⟩⟩
        ·replace c16 := Bool.eq_false_iff.mpr c16
         subst c16
         have H1 : (spec_l17Good.j2 k2 l0 l0 (l0.length : Int) x31_2 true ((rd_T74 l0 x31_2).f0) ((rd_T74 l0 x31_2).f1) ((rd_T74 l0 x31_2).f2) ((rd_T74 l0 x31_2).f3) ((rd_T74 l0 x31_2).f4) ((rd_T74 l0 x31_2).f5) ((rd_T74 l0 x31_2).f6) ((rd_T74 l0 x31_2).f7)) = some r := by rw [if_neg (show ¬ (false = true) by decide)] at H; exact H
         clear H
         have H := H1
         clear H1
         have H' := Aside0.mk H
         clear H
         try go_wp2
         have n0_ : Aside0 (((((((((w13.setCell ⟨gb229, 0, none⟩ (.string ((rd_T74 l0 x31_2).f0))).setCell ⟨gb229, 1, none⟩ (.int .i64 ((rd_T74 l0 x31_2).f1))).setCell ⟨gb229, 2, none⟩ (.int .i64 ((rd_T74 l0 x31_2).f2))).setCell ⟨gb229, 3, none⟩ (.int .i64 ((rd_T74 l0 x31_2).f3))).setCell ⟨gb229, 4, none⟩ (.int .i64 ((rd_T74 l0 x31_2).f4))).setCell ⟨gb229, 5, none⟩ (.int .i64 ((rd_T74 l0 x31_2).f5))).setCell ⟨gb229, 6, none⟩ (.int .i64 ((rd_T74 l0 x31_2).f6))).setCell ⟨gb229, 7, none⟩ (.string ((rd_T74 l0 x31_2).f7))).heap[gb229]? = some (.cells #[.string ((rd_T74 l0 x31_2).f0), .int .i64 ((rd_T74 l0 x31_2).f1), .int .i64 ((rd_T74 l0 x31_2).f2), .int .i64 ((rd_T74 l0 x31_2).f3), .int .i64 ((rd_T74 l0 x31_2).f4), .int .i64 ((rd_T74 l0 x31_2).f5), .int .i64 ((rd_T74 l0 x31_2).f6), .string ((rd_T74 l0 x31_2).f7)] 74 (0, 0))) := ⟨by (with_reducible repeat (first | refine blk_drewN ?_ _ | refine blk_drew ?_ | refine blk_alloc ?_ _)); refine blk_put (cs := #[.string ((rd_T74 l0 x31_2).f0), .int .i64 ((rd_T74 l0 x31_2).f1), .int .i64 ((rd_T74 l0 x31_2).f2), .int .i64 ((rd_T74 l0 x31_2).f3), .int .i64 ((rd_T74 l0 x31_2).f4), .int .i64 ((rd_T74 l0 x31_2).f5), .int .i64 ((rd_T74 l0 x31_2).f6), .string (⟨#[]⟩ : ByteArray)]) ?_ 7 _ rfl; (with_reducible repeat (first | refine blk_drewN ?_ _ | refine blk_drew ?_ | refine blk_alloc ?_ _)); refine blk_put (cs := #[.string ((rd_T74 l0 x31_2).f0), .int .i64 ((rd_T74 l0 x31_2).f1), .int .i64 ((rd_T74 l0 x31_2).f2), .int .i64 ((rd_T74 l0 x31_2).f3), .int .i64 ((rd_T74 l0 x31_2).f4), .int .i64 ((rd_T74 l0 x31_2).f5), .int .i64 0, .string (⟨#[]⟩ : ByteArray)]) ?_ 6 _ rfl; (with_reducible repeat (first | refine blk_drewN ?_ _ | refine blk_drew ?_ | refine blk_alloc ?_ _)); refine blk_put (cs := #[.string ((rd_T74 l0 x31_2).f0), .int .i64 ((rd_T74 l0 x31_2).f1), .int .i64 ((rd_T74 l0 x31_2).f2), .int .i64 ((rd_T74 l0 x31_2).f3), .int .i64 ((rd_T74 l0 x31_2).f4), .int .i64 0, .int .i64 0, .string (⟨#[]⟩ : ByteArray)]) ?_ 5 _ rfl; (with_reducible repeat (first | refine blk_drewN ?_ _ | refine blk_drew ?_ | refine blk_alloc ?_ _)); refine blk_put (cs := #[.string ((rd_T74 l0 x31_2).f0), .int .i64 ((rd_T74 l0 x31_2).f1), .int .i64 ((rd_T74 l0 x31_2).f2), .int .i64 ((rd_T74 l0 x31_2).f3), .int .i64 0, .int .i64 0, .int .i64 0, .string (⟨#[]⟩ : ByteArray)]) ?_ 4 _ rfl; (with_reducible repeat (first | refine blk_drewN ?_ _ | refine blk_drew ?_ | refine blk_alloc ?_ _)); refine blk_put (cs := #[.string ((rd_T74 l0 x31_2).f0), .int .i64 ((rd_T74 l0 x31_2).f1), .int .i64 ((rd_T74 l0 x31_2).f2), .int .i64 0, .int .i64 0, .int .i64 0, .int .i64 0, .string (⟨#[]⟩ : ByteArray)]) ?_ 3 _ rfl; (with_reducible repeat (first | refine blk_drewN ?_ _ | refine blk_drew ?_ | refine blk_alloc ?_ _)); refine blk_put (cs := #[.string ((rd_T74 l0 x31_2).f0), .int .i64 ((rd_T74 l0 x31_2).f1), .int .i64 0, .int .i64 0, .int .i64 0, .int .i64 0, .int .i64 0, .string (⟨#[]⟩ : ByteArray)]) ?_ 2 _ rfl; (with_reducible repeat (first | refine blk_drewN ?_ _ | refine blk_drew ?_ | refine blk_alloc ?_ _)); refine blk_put (cs := #[.string ((rd_T74 l0 x31_2).f0), .int .i64 0, .int .i64 0, .int .i64 0, .int .i64 0, .int .i64 0, .int .i64 0, .string (⟨#[]⟩ : ByteArray)]) ?_ 1 _ rfl; (with_reducible repeat (first | refine blk_drewN ?_ _ | refine blk_drew ?_ | refine blk_alloc ?_ _)); refine blk_put (cs := #[.string (⟨#[]⟩ : ByteArray), .int .i64 0, .int .i64 0, .int .i64 0, .int .i64 0, .int .i64 0, .int .i64 0, .string (⟨#[]⟩ : ByteArray)]) ?_ 0 _ rfl; (with_reducible repeat (first | refine blk_drewN ?_ _ | refine blk_drew ?_ | refine blk_alloc ?_ _)); exact BK229.out⟩
         have n1_ : Aside0 (Below w.heap.size w ((((((((w13.setCell ⟨gb229, 0, none⟩ (.string ((rd_T74 l0 x31_2).f0))).setCell ⟨gb229, 1, none⟩ (.int .i64 ((rd_T74 l0 x31_2).f1))).setCell ⟨gb229, 2, none⟩ (.int .i64 ((rd_T74 l0 x31_2).f2))).setCell ⟨gb229, 3, none⟩ (.int .i64 ((rd_T74 l0 x31_2).f3))).setCell ⟨gb229, 4, none⟩ (.int .i64 ((rd_T74 l0 x31_2).f4))).setCell ⟨gb229, 5, none⟩ (.int .i64 ((rd_T74 l0 x31_2).f5))).setCell ⟨gb229, 6, none⟩ (.int .i64 ((rd_T74 l0 x31_2).f6))).setCell ⟨gb229, 7, none⟩ (.string ((rd_T74 l0 x31_2).f7)))) := ⟨(Gtr.bw HB.out)⟩
         (try clear BK229);(try clear HB)
         generalize ((((((((w13.setCell ⟨gb229, 0, none⟩ (.string ((rd_T74 l0 x31_2).f0))).setCell ⟨gb229, 1, none⟩ (.int .i64 ((rd_T74 l0 x31_2).f1))).setCell ⟨gb229, 2, none⟩ (.int .i64 ((rd_T74 l0 x31_2).f2))).setCell ⟨gb229, 3, none⟩ (.int .i64 ((rd_T74 l0 x31_2).f3))).setCell ⟨gb229, 4, none⟩ (.int .i64 ((rd_T74 l0 x31_2).f4))).setCell ⟨gb229, 5, none⟩ (.int .i64 ((rd_T74 l0 x31_2).f5))).setCell ⟨gb229, 6, none⟩ (.int .i64 ((rd_T74 l0 x31_2).f6))).setCell ⟨gb229, 7, none⟩ (.string ((rd_T74 l0 x31_2).f7))) = w29 at n0_ n1_ ⊢
         have BK229 := n0_
         have HB := n1_
         clear n0_ n1_
         have n0_ := Aside0.mk (blk_drew BK229.out)
         have n1_ := Aside0.mk (below_drew1 HB.out)
         clear BK229
         clear HB
         have BK229 := n0_
         have HB := n1_
         clear n0_ n1_
         refine start_ (n := 16) (S := fun w' => w'.cell? ⟨gb229, 0, none⟩ = some (.string ((rd_T74 l0 x31_2).f0)) ∧ w'.cell? ⟨gb229, 1, none⟩ = some (.int .i64 ((rd_T74 l0 x31_2).f1)) ∧ w'.cell? ⟨gb229, 2, none⟩ = some (.int .i64 ((rd_T74 l0 x31_2).f2)) ∧ w'.cell? ⟨gb229, 3, none⟩ = some (.int .i64 ((rd_T74 l0 x31_2).f3)) ∧ w'.cell? ⟨gb229, 4, none⟩ = some (.int .i64 ((rd_T74 l0 x31_2).f4)) ∧ w'.cell? ⟨gb229, 5, none⟩ = some (.int .i64 ((rd_T74 l0 x31_2).f5)) ∧ w'.cell? ⟨gb229, 6, none⟩ = some (.int .i64 ((rd_T74 l0 x31_2).f6)) ∧ w'.cell? ⟨gb229, 7, none⟩ = some (.string ((rd_T74 l0 x31_2).f7))) (ds := []) (Gtr.bb 16 0) (by kernel_rfl) rfl rfl ⟨(blk_cell BK229.out 0).trans rfl, (blk_cell BK229.out 1).trans rfl, (blk_cell BK229.out 2).trans rfl, (blk_cell BK229.out 3).trans rfl, (blk_cell BK229.out 4).trans rfl, (blk_cell BK229.out 5).trans rfl, (blk_cell BK229.out 6).trans rfl, (blk_cell BK229.out 7).trans rfl⟩ (fun hHeld => ?_); refine with_tabW spec_l17Good.tab6 spec_l17Good.bits6 (fun HT_ HW_ => ?_)
         generalize w29.drew = w30 at BK229 HB hHeld ⊢
         refine pure_ (i := 1) (N := some 37) (v := ?_) (a' := ?_) (Gtr.bb 16 2) rfl rfl (any_of HT_.out (by kernel_rfl)) (fun _ _ _ h => h) (Or.inl ⟨by rfl, ?_⟩) ?_ ?_
         rotate_left
         ·intro w'
          go_simp
          with_reducible rfl
         rotate_left
         ·simp only [Gtr.ps]
          rfl
         refine take_ (i := 0) (N := some 36) (v := ?_) (a' := ?_) (Gtr.bb 16 3) rfl rfl (take_ofW HT_.out HW_.out (by kernel_rfl)) (fun _ _ _ h => h) (Or.inl ⟨by rfl, ?_⟩) hHeld ?_ ?_
         rotate_left
         ·rintro w' ⟨s0, s1, s2, s3, s4, s5, s6, s7⟩
          go_simp
          with_reducible rfl
         rotate_left
         ·simp only [Gtr.ps]
          rfl
         refine one_ (i := 2) (N := some 38) (Gtr.bb 16 7) rfl rfl (one_of HT_.out (by kernel_rfl)) (by decide) (fun K hK => ?_)
         refine goes_ Tryz.func126 (by kernel_rfl) rfl #[.agg #[.string ((rd_T74 l0 x31_2).f0), .int .i64 ((rd_T74 l0 x31_2).f1), .int .i64 ((rd_T74 l0 x31_2).f2), .int .i64 ((rd_T74 l0 x31_2).f3), .int .i64 ((rd_T74 l0 x31_2).f4), .int .i64 ((rd_T74 l0 x31_2).f5), .int .i64 ((rd_T74 l0 x31_2).f6), .string ((rd_T74 l0 x31_2).f7)], .int .i64 x31_2] (by rfl) rfl rfl (by (try simp only [List.map_toArray, List.map_cons, List.map_nil]); first | done | rfl | (simp only [List.length_drop, List.length_take]; rfl)) ?_
         with_reducible refine (spec_l17Alone.calls ((rd_T74 l0 x31_2).f0) ((rd_T74 l0 x31_2).f1) ((rd_T74 l0 x31_2).f2) ((rd_T74 l0 x31_2).f3) ((rd_T74 l0 x31_2).f4) ((rd_T74 l0 x31_2).f5) ((rd_T74 l0 x31_2).f6) ((rd_T74 l0 x31_2).f7) x31_2 false _ A15.out).mono ?_
         rintro e w31 ⟨rfl, hb⟩
         refine ⟨_, rfl, ?_⟩
         have n0_ := Aside0.mk (blk_below (g := gb229) (o := .cells #[.string ((rd_T74 l0 x31_2).f0), .int .i64 ((rd_T74 l0 x31_2).f1), .int .i64 ((rd_T74 l0 x31_2).f2), .int .i64 ((rd_T74 l0 x31_2).f3), .int .i64 ((rd_T74 l0 x31_2).f4), .int .i64 ((rd_T74 l0 x31_2).f5), .int .i64 ((rd_T74 l0 x31_2).f6), .string ((rd_T74 l0 x31_2).f7)] 74 (0, 0)) (by (with_reducible repeat (first | refine blk_drewN ?_ _ | refine blk_drew ?_ | refine blk_alloc ?_ _)); exact BK229.out) hb)
         have n1_ := Aside0.mk (below_step (Gtr.bw HB.out) hb)
         clear BK229
         clear HB
         have BK229 := n0_
         have HB := n1_
         clear n0_ n1_
         (try clear hb);(try clear hb2);(try clear hk);(try clear hi)
         refine hK.out _ _ ⟨(blk_cell BK229.out 0).trans rfl, (blk_cell BK229.out 1).trans rfl, (blk_cell BK229.out 2).trans rfl, (blk_cell BK229.out 3).trans rfl, (blk_cell BK229.out 4).trans rfl, (blk_cell BK229.out 5).trans rfl, (blk_cell BK229.out 6).trans rfl, (blk_cell BK229.out 7).trans rfl⟩ (fun hHeld => ?_)
         clear hK K
         refine norm_ (a' := ?_) ?_ ?_
         rotate_left
         ·show Act.put _ (some 38) _ = _
          simp only [Gtr.ps]
          rfl
         refine pure_ (i := 3) (N := some 39) (v := ?_) (a' := ?_) (Gtr.bb 16 15) rfl rfl (any_of HT_.out (by kernel_rfl)) (fun _ _ _ h => h) (Or.inl ⟨by rfl, ?_⟩) ?_ ?_
         rotate_left
         ·intro w'
          go_simp
          with_reducible rfl
         rotate_left
         ·simp only [Gtr.ps]
          rfl
         refine pure_ (i := 4) (N := some 40) (v := ?_) (a' := ?_) (Gtr.bb 16 31) rfl rfl (any_of HT_.out (by kernel_rfl)) (fun _ _ _ h => h) (Or.inl ⟨by rfl, ?_⟩) ?_ ?_
         rotate_left
         ·intro w'
          go_simp
          with_reducible rfl
         rotate_left
         ·simp only [Gtr.ps]
          rfl
         refine pure_ (i := 5) (N := some 41) (v := undef) (a' := ?_) (Gtr.bb 16 63) rfl rfl (any_of HT_.out (by kernel_rfl)) (fun _ _ _ h => h) (Or.inr ⟨by rfl, rfl⟩) ?_ ?_
         rotate_left
         ·simp only [Gtr.ps]
          rfl
         refine pure_ (i := 6) (N := some 42) (v := undef) (a' := ?_) (Gtr.bb 16 127) rfl rfl (any_of HT_.out (by kernel_rfl)) (fun _ _ _ h => h) (Or.inr ⟨by rfl, rfl⟩) ?_ ?_
         rotate_left
         ·simp only [Gtr.ps]
          rfl
         refine pure_ (i := 7) (N := some 43) (v := undef) (a' := ?_) (Gtr.bb 16 255) rfl rfl (any_of HT_.out (by kernel_rfl)) (fun _ _ _ h => h) (Or.inr ⟨by rfl, rfl⟩) ?_ ?_
         rotate_left
         ·simp only [Gtr.ps]
          rfl
         refine pure_ (i := 8) (N := some 44) (v := undef) (a' := ?_) (Gtr.bb 16 511) rfl rfl (any_of HT_.out (by kernel_rfl)) (fun _ _ _ h => h) (Or.inr ⟨by rfl, rfl⟩) ?_ ?_
         rotate_left
         ·simp only [Gtr.ps]
          rfl
         refine pure_ (i := 9) (N := some 45) (v := undef) (a' := ?_) (Gtr.bb 16 1023) rfl rfl (any_of HT_.out (by kernel_rfl)) (fun _ _ _ h => h) (Or.inr ⟨by rfl, rfl⟩) ?_ ?_
         rotate_left
         ·simp only [Gtr.ps]
          rfl
         refine pure_ (i := 10) (N := some 46) (v := undef) (a' := ?_) (Gtr.bb 16 2047) rfl rfl (any_of HT_.out (by kernel_rfl)) (fun _ _ _ h => h) (Or.inr ⟨by rfl, rfl⟩) ?_ ?_
         rotate_left
         ·simp only [Gtr.ps]
          rfl
         refine pure_ (i := 11) (N := some 47) (v := undef) (a' := ?_) (Gtr.bb 16 4095) rfl rfl (any_of HT_.out (by kernel_rfl)) (fun _ _ _ h => h) (Or.inr ⟨by rfl, rfl⟩) ?_ ?_
         rotate_left
         ·simp only [Gtr.ps]
          rfl
         refine pure_ (i := 12) (N := some 48) (v := undef) (a' := ?_) (Gtr.bb 16 8191) rfl rfl (any_of HT_.out (by kernel_rfl)) (fun _ _ _ h => h) (Or.inr ⟨by rfl, rfl⟩) ?_ ?_
         rotate_left
         ·simp only [Gtr.ps]
          rfl
         refine pure_ (i := 13) (N := some 49) (v := undef) (a' := ?_) (Gtr.bb 16 16383) rfl rfl (any_of HT_.out (by kernel_rfl)) (fun _ _ _ h => h) (Or.inr ⟨by rfl, rfl⟩) ?_ ?_
         rotate_left
         ·simp only [Gtr.ps]
          rfl
         refine pure_ (i := 14) (N := some 50) (v := undef) (a' := ?_) (Gtr.bb 16 32767) rfl rfl (any_of HT_.out (by kernel_rfl)) (fun _ _ _ h => h) (Or.inr ⟨by rfl, rfl⟩) ?_ ?_
         rotate_left
         ·simp only [Gtr.ps]
          rfl
         refine pure_ (i := 15) (N := some 51) (v := ?_) (a' := ?_) (Gtr.bb 16 65535) rfl rfl (any_of HT_.out (by kernel_rfl)) (fun _ _ _ h => h) (Or.inl ⟨by rfl, ?_⟩) ?_ ?_
         rotate_left
         ·intro w'
          go_simp
          with_reducible rfl
         rotate_left
         ·simp only [Gtr.ps]
          rfl
         refine done_ (done_of HT_.out (by kernel_rfl)) ?_
         try go_wp2
         go_meet
         case rel => exact ⟨_, (true), (by first | rfl | (simp; done) | (simp [*]; done)), H', ⟨by have := HJ1.out; have := HK2.out; first | omega | exact Nat.le_refl _⟩, ⟨by (with_reducible repeat (first | refine blk_drewN ?_ _ | refine blk_drew ?_ | refine blk_alloc ?_ _)); exact BK229.out⟩, ⟨(Gtr.bw HB.out)⟩⟩
       case rest =>
        clear HC12
        (try clear c1);(try clear p2);(try clear q2);(try clear hx2);(try clear qi2);(try clear c4);(try clear c5);(try clear c5b0);(try clear c5b1);(try clear c6);(try clear c6b0);(try clear c6b1);(try clear c7);(try clear c7b0);(try clear c7b1);(try clear c8);(try clear c9);(try clear c9b0);(try clear c10);(try clear c10b0);(try clear c11);(try clear c11b0);(try clear c12);(try clear c16);(try clear c17);(try clear c17b0);(try clear c18);(try clear c18b0);(try clear c19);(try clear c19b0);(try clear c19b1);(try clear p22);(try clear q22);(try clear hx22);(try clear q24);(try clear hcz14_0);(try clear hcz14_1);(try clear hcz14_2);(try clear hcz14_3);(try clear hcz14_4);(try clear hcz14_5);(try clear hcz14_6);(try clear hcz14_7);(try clear hfz14_0);(try clear hfz14_1);(try clear hfz14_2);(try clear hfz14_3);(try clear hfz14_4);(try clear hfz14_5);(try clear hfz14_6);(try clear hfz14_7);(try clear hx226_0);(try clear hx226_1);(try clear hx226_2);(try clear hx226_3);(try clear hx226_4);(try clear hx226_5);(try clear hx226_6);(try clear hx226_7);(try clear hx227_0);(try clear hx227_1);(try clear hx227_2);(try clear hx227_3);(try clear hx227_4);(try clear hx227_5);(try clear hx227_6);(try clear hx227_7);(try clear hx228_0);(try clear hx228_1);(try clear hx228_2);(try clear hx228_3);(try clear hx228_4);(try clear hx228_5);(try clear hx228_6);(try clear hx228_7);(try clear p2);(try clear p226);(try clear p227);(try clear p228);(try clear q2);(try clear q226);(try clear q227);(try clear q228);(try clear q24)
        obtain ⟨kq, x51_11, rfl, HA, HJ11, BK229, HB⟩ := hcut
        cases kq with
        | zero => exact absurd HA.out (by simp [spec_l17Good.j2])
        | succ kj11 =>
         have H := HA.out
         clear HA
         simp only [spec_l17Good.j2] at H
         by_cases c32 : x51_11 = true
         ·subst c32
          have H1 := H
          rw [if_pos rfl] at H1
          clear H
          have H := H1
          clear H1
          obtain rfl := Option.some.inj H
          go_wp2
          go_ret
          exact ⟨by first | rfl | (simp [errW_none, errW_some] <;> rfl) | (simp [*, errW_none, errW_some] <;> rfl), (Gtr.bw HB.out)⟩
         ·replace c32 := Bool.eq_false_iff.mpr c32
          subst c32
          have H1 : (if 0 ≤ ((rd_T74 l0 x31_2).f6) then (if ((rd_T74 l0 x31_2).f6) < (l0.length : Int) then (if ((rd_T74 l0 ((rd_T74 l0 x31_2).f6)).f6) = ((rd_T74 l0 x31_2).f6) then (if ((rd_T74 l0 ((rd_T74 l0 x31_2).f6)).f1) = ((rd_T74 l0 x31_2).f1) then (spec_l17Good.l0 kj11 l0 l0 (l0.length : Int) (wrap64 (x31_2 + 1))) else (some false)) else (some false)) else (none)) else (none)) = some r := by rw [if_neg (show ¬ (false = true) by decide)] at H; exact H
          clear H
          have H := H1
          clear H1
          refine Or.elim (Classical.em (0 ≤ ((rd_T74 l0 x31_2).f6))) (fun c33 => ?_) (fun c33 => by rw [if_neg c33] at H; exact absurd H (by simp))
          rw [if_pos c33] at H
          have c33b0 : decide (0 ≤ ((rd_T74 l0 x31_2).f6)) = true := decide_eq_true c33
          clear c33
          refine Or.elim (Classical.em (((rd_T74 l0 x31_2).f6) < (l0.length : Int))) (fun c34 => ?_) (fun c34 => by rw [if_neg c34] at H; exact absurd H (by simp))
          rw [if_pos c34] at H
          have c34b0 : decide (((rd_T74 l0 x31_2).f6) < (l0.length : Int)) = true := decide_eq_true c34
          clear c34
          by_cases c35 : ((rd_T74 l0 ((rd_T74 l0 x31_2).f6)).f6) = ((rd_T74 l0 x31_2).f6)
          ·rw [if_pos c35] at H
           have c35b0 : (((rd_T74 l0 ((rd_T74 l0 x31_2).f6)).f6) == ((rd_T74 l0 x31_2).f6)) = true := beq_iff_eq.mpr c35
           have c35b1 : (((rd_T74 l0 ((rd_T74 l0 x31_2).f6)).f6) != ((rd_T74 l0 x31_2).f6)) = false := bne_eq_false_iff_eq.mpr c35
           clear c35
           by_cases c36 : ((rd_T74 l0 ((rd_T74 l0 x31_2).f6)).f1) = ((rd_T74 l0 x31_2).f1)
           ·rw [if_pos c36] at H
            have c36b0 : (((rd_T74 l0 ((rd_T74 l0 x31_2).f6)).f1) == ((rd_T74 l0 x31_2).f1)) = true := beq_iff_eq.mpr c36
            have c36b1 : (((rd_T74 l0 ((rd_T74 l0 x31_2).f6)).f1) != ((rd_T74 l0 x31_2).f1)) = false := bne_eq_false_iff_eq.mpr c36
            clear c36
            have H' := Aside0.mk H
            clear H
            have hcz37_0 : wc.cell? ⟨gb229, 0, none⟩ = some (.string ((rd_T74 l0 x31_2).f0)) := (blk_cell BK229.out 0).trans rfl
            have hcz37_1 : wc.cell? ⟨gb229, 1, none⟩ = some (.int .i64 ((rd_T74 l0 x31_2).f1)) := (blk_cell BK229.out 1).trans rfl
            have hcz37_2 : wc.cell? ⟨gb229, 2, none⟩ = some (.int .i64 ((rd_T74 l0 x31_2).f2)) := (blk_cell BK229.out 2).trans rfl
            have hcz37_3 : wc.cell? ⟨gb229, 3, none⟩ = some (.int .i64 ((rd_T74 l0 x31_2).f3)) := (blk_cell BK229.out 3).trans rfl
            have hcz37_4 : wc.cell? ⟨gb229, 4, none⟩ = some (.int .i64 ((rd_T74 l0 x31_2).f4)) := (blk_cell BK229.out 4).trans rfl
            have hcz37_5 : wc.cell? ⟨gb229, 5, none⟩ = some (.int .i64 ((rd_T74 l0 x31_2).f5)) := (blk_cell BK229.out 5).trans rfl
            have hcz37_6 : wc.cell? ⟨gb229, 6, none⟩ = some (.int .i64 ((rd_T74 l0 x31_2).f6)) := (blk_cell BK229.out 6).trans rfl
            have hcz37_7 : wc.cell? ⟨gb229, 7, none⟩ = some (.string ((rd_T74 l0 x31_2).f7)) := (blk_cell BK229.out 7).trans rfl
            have hfz37_0 := blk_frozen BK229.out 0
            have hfz37_1 := blk_frozen BK229.out 1
            have hfz37_2 := blk_frozen BK229.out 2
            have hfz37_3 := blk_frozen BK229.out 3
            have hfz37_4 := blk_frozen BK229.out 4
            have hfz37_5 := blk_frozen BK229.out 5
            have hfz37_6 := blk_frozen BK229.out 6
            have hfz37_7 := blk_frozen BK229.out 7
            have p236 : 0 ≤ (((rd_T74 l0 x31_2).f6) : Int) := of_decide_eq_true (by first | (with_reducible assumption) | assumption)
            have q236 : ((rd_T74 l0 x31_2).f6) < (l0.length : Int) := of_decide_eq_true (by first | (with_reducible assumption) | assumption)
            obtain ⟨ad236, e236, hx236_0, hx236_1, hx236_2, hx236_3, hx236_4, hx236_5, hx236_6, hx236_7⟩ := at_T74 HR0.out ((rd_T74 l0 x31_2).f6) p236 q236
            obtain rfl : ad228 = ad236 := (by injection e236)
            replace hx236_0 := (HB.out.cell (World.block_lt_of_cell? w _ hx236_0)).trans hx236_0
            replace hx236_1 := (HB.out.cell (World.block_lt_of_cell? w _ hx236_1)).trans hx236_1
            replace hx236_2 := (HB.out.cell (World.block_lt_of_cell? w _ hx236_2)).trans hx236_2
            replace hx236_3 := (HB.out.cell (World.block_lt_of_cell? w _ hx236_3)).trans hx236_3
            replace hx236_4 := (HB.out.cell (World.block_lt_of_cell? w _ hx236_4)).trans hx236_4
            replace hx236_5 := (HB.out.cell (World.block_lt_of_cell? w _ hx236_5)).trans hx236_5
            replace hx236_6 := (HB.out.cell (World.block_lt_of_cell? w _ hx236_6)).trans hx236_6
            replace hx236_7 := (HB.out.cell (World.block_lt_of_cell? w _ hx236_7)).trans hx236_7
            replace p236 := eq_true p236
            replace q236 := eq_true q236
            go_wp2_with (first | ((with_reducible refine gate_dst (N := 5) rfl ?_); (try (refine gate_guard (by rfl) ?_; dsimp only)); refine box_event ?hg (N := 5) ?hd (cs := #[.string (⟨#[]⟩ : ByteArray), .int .i64 0, .int .i64 0, .int .i64 0, .int .i64 0, .int .i64 0, .int .i64 0, .string (⟨#[]⟩ : ByteArray)]) (t := 74) ?hr ?_; (case hd => rfl); (case hg => rfl); (case hr => first | (go_simp; done) | (go_simp; rfl)); intro gb237 hg w38 hbox hb; have n0_ := Aside0.mk (blk_below (g := gb229) (o := .cells #[.string ((rd_T74 l0 x31_2).f0), .int .i64 ((rd_T74 l0 x31_2).f1), .int .i64 ((rd_T74 l0 x31_2).f2), .int .i64 ((rd_T74 l0 x31_2).f3), .int .i64 ((rd_T74 l0 x31_2).f4), .int .i64 ((rd_T74 l0 x31_2).f5), .int .i64 ((rd_T74 l0 x31_2).f6), .string ((rd_T74 l0 x31_2).f7)] 74 (0, 0)) (by (with_reducible repeat (first | refine blk_drewN ?_ _ | refine blk_drew ?_ | refine blk_alloc ?_ _)); exact BK229.out) hb); have n1_ := Aside0.mk (below_step (Gtr.bw HB.out) hb); have n2_ := Aside0.mk (hbox); have n3_ := Aside0.mk ((by rw [hg]; exact (below_size (Gtr.bw HB.out)) : w.heap.size ≤ gb237)); have n4_ := Aside0.mk ((by rw [hg]; exact (below_size (Gtr.bw HB.out)) : w.heap.size ≤ gb237)); have n5_ := Aside0.mk ((by rw [hg]; exact Nat.ne_of_lt (blk_lt (g := gb229) (o := .cells #[.string ((rd_T74 l0 x31_2).f0), .int .i64 ((rd_T74 l0 x31_2).f1), .int .i64 ((rd_T74 l0 x31_2).f2), .int .i64 ((rd_T74 l0 x31_2).f3), .int .i64 ((rd_T74 l0 x31_2).f4), .int .i64 ((rd_T74 l0 x31_2).f5), .int .i64 ((rd_T74 l0 x31_2).f6), .string ((rd_T74 l0 x31_2).f7)] 74 (0, 0)) (by (with_reducible repeat (first | refine blk_drewN ?_ _ | refine blk_drew ?_ | refine blk_alloc ?_ _)); exact BK229.out)) : gb229 ≠ gb237)); have n6_ := Aside0.mk ((by rw [hg]; exact Nat.ne_of_gt (blk_lt (g := gb229) (o := .cells #[.string ((rd_T74 l0 x31_2).f0), .int .i64 ((rd_T74 l0 x31_2).f1), .int .i64 ((rd_T74 l0 x31_2).f2), .int .i64 ((rd_T74 l0 x31_2).f3), .int .i64 ((rd_T74 l0 x31_2).f4), .int .i64 ((rd_T74 l0 x31_2).f5), .int .i64 ((rd_T74 l0 x31_2).f6), .string ((rd_T74 l0 x31_2).f7)] 74 (0, 0)) (by (with_reducible repeat (first | refine blk_drewN ?_ _ | refine blk_drew ?_ | refine blk_alloc ?_ _)); exact BK229.out)) : gb237 ≠ gb229)); clear BK229; clear HB; have BK229 := n0_; have HB := n1_; have BK237 := n2_; have GW237 := n3_; have GE237 := n4_; have NB229_237 := n5_; have NB237_229 := n6_; clear n0_ n1_ n2_ n3_ n4_ n5_ n6_; clear hb hbox hg; have hnb39 := NB237_229.out; have hnc39 := NB229_237.out; have hcz40_0 : w38.cell? ⟨gb237, 0, none⟩ = some (.string (⟨#[]⟩ : ByteArray)) := (blk_cell BK237.out 0).trans rfl; have hcz40_1 : w38.cell? ⟨gb237, 1, none⟩ = some (.int .i64 0) := (blk_cell BK237.out 1).trans rfl; have hcz40_2 : w38.cell? ⟨gb237, 2, none⟩ = some (.int .i64 0) := (blk_cell BK237.out 2).trans rfl; have hcz40_3 : w38.cell? ⟨gb237, 3, none⟩ = some (.int .i64 0) := (blk_cell BK237.out 3).trans rfl; have hcz40_4 : w38.cell? ⟨gb237, 4, none⟩ = some (.int .i64 0) := (blk_cell BK237.out 4).trans rfl; have hcz40_5 : w38.cell? ⟨gb237, 5, none⟩ = some (.int .i64 0) := (blk_cell BK237.out 5).trans rfl; have hcz40_6 : w38.cell? ⟨gb237, 6, none⟩ = some (.int .i64 0) := (blk_cell BK237.out 6).trans rfl; have hcz40_7 : w38.cell? ⟨gb237, 7, none⟩ = some (.string (⟨#[]⟩ : ByteArray)) := (blk_cell BK237.out 7).trans rfl; have hfz40_0 := blk_frozen BK237.out 0; have hfz40_1 := blk_frozen BK237.out 1; have hfz40_2 := blk_frozen BK237.out 2; have hfz40_3 := blk_frozen BK237.out 3; have hfz40_4 := blk_frozen BK237.out 4; have hfz40_5 := blk_frozen BK237.out 5; have hfz40_6 := blk_frozen BK237.out 6; have hfz40_7 := blk_frozen BK237.out 7; have hcz41_0 : w38.cell? ⟨gb229, 0, none⟩ = some (.string ((rd_T74 l0 x31_2).f0)) := (blk_cell BK229.out 0).trans rfl; have hcz41_1 : w38.cell? ⟨gb229, 1, none⟩ = some (.int .i64 ((rd_T74 l0 x31_2).f1)) := (blk_cell BK229.out 1).trans rfl; have hcz41_2 : w38.cell? ⟨gb229, 2, none⟩ = some (.int .i64 ((rd_T74 l0 x31_2).f2)) := (blk_cell BK229.out 2).trans rfl; have hcz41_3 : w38.cell? ⟨gb229, 3, none⟩ = some (.int .i64 ((rd_T74 l0 x31_2).f3)) := (blk_cell BK229.out 3).trans rfl; have hcz41_4 : w38.cell? ⟨gb229, 4, none⟩ = some (.int .i64 ((rd_T74 l0 x31_2).f4)) := (blk_cell BK229.out 4).trans rfl; have hcz41_5 : w38.cell? ⟨gb229, 5, none⟩ = some (.int .i64 ((rd_T74 l0 x31_2).f5)) := (blk_cell BK229.out 5).trans rfl; have hcz41_6 : w38.cell? ⟨gb229, 6, none⟩ = some (.int .i64 ((rd_T74 l0 x31_2).f6)) := (blk_cell BK229.out 6).trans rfl; have hcz41_7 : w38.cell? ⟨gb229, 7, none⟩ = some (.string ((rd_T74 l0 x31_2).f7)) := (blk_cell BK229.out 7).trans rfl; have hfz41_0 := blk_frozen BK229.out 0; have hfz41_1 := blk_frozen BK229.out 1; have hfz41_2 := blk_frozen BK229.out 2; have hfz41_3 := blk_frozen BK229.out 3; have hfz41_4 := blk_frozen BK229.out 4; have hfz41_5 := blk_frozen BK229.out 5; have hfz41_6 := blk_frozen BK229.out 6; have hfz41_7 := blk_frozen BK229.out 7))
            go_roundg kj11
            case measure => have := HJ1.out; have := HK2.out; have := HJ11.out; omega
            case rel => exact ⟨(wrap64 (x31_2 + 1)), (by first | rfl | (simp; done) | (simp [*]; done)), H', ⟨by have := HJ1.out; have := HK2.out; have := HJ11.out; omega⟩, ⟨(Gtr.bw HB.out)⟩⟩
           ·rw [if_neg c36] at H
            have c36b0 : (((rd_T74 l0 ((rd_T74 l0 x31_2).f6)).f1) == ((rd_T74 l0 x31_2).f1)) = false := beq_eq_false_iff_ne.mpr c36
            have c36b1 : (((rd_T74 l0 ((rd_T74 l0 x31_2).f6)).f1) != ((rd_T74 l0 x31_2).f1)) = true := bne_iff_ne.mpr c36
            obtain rfl := Option.some.inj H
            have hcz42_0 : wc.cell? ⟨gb229, 0, none⟩ = some (.string ((rd_T74 l0 x31_2).f0)) := (blk_cell BK229.out 0).trans rfl
            have hcz42_1 : wc.cell? ⟨gb229, 1, none⟩ = some (.int .i64 ((rd_T74 l0 x31_2).f1)) := (blk_cell BK229.out 1).trans rfl
            have hcz42_2 : wc.cell? ⟨gb229, 2, none⟩ = some (.int .i64 ((rd_T74 l0 x31_2).f2)) := (blk_cell BK229.out 2).trans rfl
            have hcz42_3 : wc.cell? ⟨gb229, 3, none⟩ = some (.int .i64 ((rd_T74 l0 x31_2).f3)) := (blk_cell BK229.out 3).trans rfl
            have hcz42_4 : wc.cell? ⟨gb229, 4, none⟩ = some (.int .i64 ((rd_T74 l0 x31_2).f4)) := (blk_cell BK229.out 4).trans rfl
            have hcz42_5 : wc.cell? ⟨gb229, 5, none⟩ = some (.int .i64 ((rd_T74 l0 x31_2).f5)) := (blk_cell BK229.out 5).trans rfl
            have hcz42_6 : wc.cell? ⟨gb229, 6, none⟩ = some (.int .i64 ((rd_T74 l0 x31_2).f6)) := (blk_cell BK229.out 6).trans rfl
            have hcz42_7 : wc.cell? ⟨gb229, 7, none⟩ = some (.string ((rd_T74 l0 x31_2).f7)) := (blk_cell BK229.out 7).trans rfl
            have hfz42_0 := blk_frozen BK229.out 0
            have hfz42_1 := blk_frozen BK229.out 1
            have hfz42_2 := blk_frozen BK229.out 2
            have hfz42_3 := blk_frozen BK229.out 3
            have hfz42_4 := blk_frozen BK229.out 4
            have hfz42_5 := blk_frozen BK229.out 5
            have hfz42_6 := blk_frozen BK229.out 6
            have hfz42_7 := blk_frozen BK229.out 7
            have p236 : 0 ≤ (((rd_T74 l0 x31_2).f6) : Int) := of_decide_eq_true (by first | (with_reducible assumption) | assumption)
            have q236 : ((rd_T74 l0 x31_2).f6) < (l0.length : Int) := of_decide_eq_true (by first | (with_reducible assumption) | assumption)
            obtain ⟨ad236, e236, hx236_0, hx236_1, hx236_2, hx236_3, hx236_4, hx236_5, hx236_6, hx236_7⟩ := at_T74 HR0.out ((rd_T74 l0 x31_2).f6) p236 q236
            obtain rfl : ad228 = ad236 := (by injection e236)
            replace hx236_0 := (HB.out.cell (World.block_lt_of_cell? w _ hx236_0)).trans hx236_0
            replace hx236_1 := (HB.out.cell (World.block_lt_of_cell? w _ hx236_1)).trans hx236_1
            replace hx236_2 := (HB.out.cell (World.block_lt_of_cell? w _ hx236_2)).trans hx236_2
            replace hx236_3 := (HB.out.cell (World.block_lt_of_cell? w _ hx236_3)).trans hx236_3
            replace hx236_4 := (HB.out.cell (World.block_lt_of_cell? w _ hx236_4)).trans hx236_4
            replace hx236_5 := (HB.out.cell (World.block_lt_of_cell? w _ hx236_5)).trans hx236_5
            replace hx236_6 := (HB.out.cell (World.block_lt_of_cell? w _ hx236_6)).trans hx236_6
            replace hx236_7 := (HB.out.cell (World.block_lt_of_cell? w _ hx236_7)).trans hx236_7
            replace p236 := eq_true p236
            replace q236 := eq_true q236
            go_wp2_with (first | ((with_reducible refine gate_dst (N := 5) rfl ?_); (try (refine gate_guard (by rfl) ?_; dsimp only)); refine box_event ?hg (N := 5) ?hd (cs := #[.string (⟨#[]⟩ : ByteArray), .int .i64 0, .int .i64 0, .int .i64 0, .int .i64 0, .int .i64 0, .int .i64 0, .string (⟨#[]⟩ : ByteArray)]) (t := 74) ?hr ?_; (case hd => rfl); (case hg => rfl); (case hr => first | (go_simp; done) | (go_simp; rfl)); intro gb237 hg w43 hbox hb; have n0_ := Aside0.mk (blk_below (g := gb229) (o := .cells #[.string ((rd_T74 l0 x31_2).f0), .int .i64 ((rd_T74 l0 x31_2).f1), .int .i64 ((rd_T74 l0 x31_2).f2), .int .i64 ((rd_T74 l0 x31_2).f3), .int .i64 ((rd_T74 l0 x31_2).f4), .int .i64 ((rd_T74 l0 x31_2).f5), .int .i64 ((rd_T74 l0 x31_2).f6), .string ((rd_T74 l0 x31_2).f7)] 74 (0, 0)) (by (with_reducible repeat (first | refine blk_drewN ?_ _ | refine blk_drew ?_ | refine blk_alloc ?_ _)); exact BK229.out) hb); have n1_ := Aside0.mk (below_step (Gtr.bw HB.out) hb); have n2_ := Aside0.mk (hbox); have n3_ := Aside0.mk ((by rw [hg]; exact (below_size (Gtr.bw HB.out)) : w.heap.size ≤ gb237)); have n4_ := Aside0.mk ((by rw [hg]; exact (below_size (Gtr.bw HB.out)) : w.heap.size ≤ gb237)); have n5_ := Aside0.mk ((by rw [hg]; exact Nat.ne_of_lt (blk_lt (g := gb229) (o := .cells #[.string ((rd_T74 l0 x31_2).f0), .int .i64 ((rd_T74 l0 x31_2).f1), .int .i64 ((rd_T74 l0 x31_2).f2), .int .i64 ((rd_T74 l0 x31_2).f3), .int .i64 ((rd_T74 l0 x31_2).f4), .int .i64 ((rd_T74 l0 x31_2).f5), .int .i64 ((rd_T74 l0 x31_2).f6), .string ((rd_T74 l0 x31_2).f7)] 74 (0, 0)) (by (with_reducible repeat (first | refine blk_drewN ?_ _ | refine blk_drew ?_ | refine blk_alloc ?_ _)); exact BK229.out)) : gb229 ≠ gb237)); have n6_ := Aside0.mk ((by rw [hg]; exact Nat.ne_of_gt (blk_lt (g := gb229) (o := .cells #[.string ((rd_T74 l0 x31_2).f0), .int .i64 ((rd_T74 l0 x31_2).f1), .int .i64 ((rd_T74 l0 x31_2).f2), .int .i64 ((rd_T74 l0 x31_2).f3), .int .i64 ((rd_T74 l0 x31_2).f4), .int .i64 ((rd_T74 l0 x31_2).f5), .int .i64 ((rd_T74 l0 x31_2).f6), .string ((rd_T74 l0 x31_2).f7)] 74 (0, 0)) (by (with_reducible repeat (first | refine blk_drewN ?_ _ | refine blk_drew ?_ | refine blk_alloc ?_ _)); exact BK229.out)) : gb237 ≠ gb229)); clear BK229; clear HB; have BK229 := n0_; have HB := n1_; have BK237 := n2_; have GW237 := n3_; have GE237 := n4_; have NB229_237 := n5_; have NB237_229 := n6_; clear n0_ n1_ n2_ n3_ n4_ n5_ n6_; clear hb hbox hg; have hnb44 := NB237_229.out; have hnc44 := NB229_237.out; have hcz45_0 : w43.cell? ⟨gb237, 0, none⟩ = some (.string (⟨#[]⟩ : ByteArray)) := (blk_cell BK237.out 0).trans rfl; have hcz45_1 : w43.cell? ⟨gb237, 1, none⟩ = some (.int .i64 0) := (blk_cell BK237.out 1).trans rfl; have hcz45_2 : w43.cell? ⟨gb237, 2, none⟩ = some (.int .i64 0) := (blk_cell BK237.out 2).trans rfl; have hcz45_3 : w43.cell? ⟨gb237, 3, none⟩ = some (.int .i64 0) := (blk_cell BK237.out 3).trans rfl; have hcz45_4 : w43.cell? ⟨gb237, 4, none⟩ = some (.int .i64 0) := (blk_cell BK237.out 4).trans rfl; have hcz45_5 : w43.cell? ⟨gb237, 5, none⟩ = some (.int .i64 0) := (blk_cell BK237.out 5).trans rfl; have hcz45_6 : w43.cell? ⟨gb237, 6, none⟩ = some (.int .i64 0) := (blk_cell BK237.out 6).trans rfl; have hcz45_7 : w43.cell? ⟨gb237, 7, none⟩ = some (.string (⟨#[]⟩ : ByteArray)) := (blk_cell BK237.out 7).trans rfl; have hfz45_0 := blk_frozen BK237.out 0; have hfz45_1 := blk_frozen BK237.out 1; have hfz45_2 := blk_frozen BK237.out 2; have hfz45_3 := blk_frozen BK237.out 3; have hfz45_4 := blk_frozen BK237.out 4; have hfz45_5 := blk_frozen BK237.out 5; have hfz45_6 := blk_frozen BK237.out 6; have hfz45_7 := blk_frozen BK237.out 7; have hcz46_0 : w43.cell? ⟨gb229, 0, none⟩ = some (.string ((rd_T74 l0 x31_2).f0)) := (blk_cell BK229.out 0).trans rfl; have hcz46_1 : w43.cell? ⟨gb229, 1, none⟩ = some (.int .i64 ((rd_T74 l0 x31_2).f1)) := (blk_cell BK229.out 1).trans rfl; have hcz46_2 : w43.cell? ⟨gb229, 2, none⟩ = some (.int .i64 ((rd_T74 l0 x31_2).f2)) := (blk_cell BK229.out 2).trans rfl; have hcz46_3 : w43.cell? ⟨gb229, 3, none⟩ = some (.int .i64 ((rd_T74 l0 x31_2).f3)) := (blk_cell BK229.out 3).trans rfl; have hcz46_4 : w43.cell? ⟨gb229, 4, none⟩ = some (.int .i64 ((rd_T74 l0 x31_2).f4)) := (blk_cell BK229.out 4).trans rfl; have hcz46_5 : w43.cell? ⟨gb229, 5, none⟩ = some (.int .i64 ((rd_T74 l0 x31_2).f5)) := (blk_cell BK229.out 5).trans rfl; have hcz46_6 : w43.cell? ⟨gb229, 6, none⟩ = some (.int .i64 ((rd_T74 l0 x31_2).f6)) := (blk_cell BK229.out 6).trans rfl; have hcz46_7 : w43.cell? ⟨gb229, 7, none⟩ = some (.string ((rd_T74 l0 x31_2).f7)) := (blk_cell BK229.out 7).trans rfl; have hfz46_0 := blk_frozen BK229.out 0; have hfz46_1 := blk_frozen BK229.out 1; have hfz46_2 := blk_frozen BK229.out 2; have hfz46_3 := blk_frozen BK229.out 3; have hfz46_4 := blk_frozen BK229.out 4; have hfz46_5 := blk_frozen BK229.out 5; have hfz46_6 := blk_frozen BK229.out 6; have hfz46_7 := blk_frozen BK229.out 7))
            go_ret
            exact ⟨by first | rfl | (simp [errW_none, errW_some] <;> rfl) | (simp [*, errW_none, errW_some] <;> rfl), (Gtr.bw HB.out)⟩
          ·rw [if_neg c35] at H
           have c35b0 : (((rd_T74 l0 ((rd_T74 l0 x31_2).f6)).f6) == ((rd_T74 l0 x31_2).f6)) = false := beq_eq_false_iff_ne.mpr c35
           have c35b1 : (((rd_T74 l0 ((rd_T74 l0 x31_2).f6)).f6) != ((rd_T74 l0 x31_2).f6)) = true := bne_iff_ne.mpr c35
           obtain rfl := Option.some.inj H
           have hcz47_0 : wc.cell? ⟨gb229, 0, none⟩ = some (.string ((rd_T74 l0 x31_2).f0)) := (blk_cell BK229.out 0).trans rfl
           have hcz47_1 : wc.cell? ⟨gb229, 1, none⟩ = some (.int .i64 ((rd_T74 l0 x31_2).f1)) := (blk_cell BK229.out 1).trans rfl
           have hcz47_2 : wc.cell? ⟨gb229, 2, none⟩ = some (.int .i64 ((rd_T74 l0 x31_2).f2)) := (blk_cell BK229.out 2).trans rfl
           have hcz47_3 : wc.cell? ⟨gb229, 3, none⟩ = some (.int .i64 ((rd_T74 l0 x31_2).f3)) := (blk_cell BK229.out 3).trans rfl
           have hcz47_4 : wc.cell? ⟨gb229, 4, none⟩ = some (.int .i64 ((rd_T74 l0 x31_2).f4)) := (blk_cell BK229.out 4).trans rfl
           have hcz47_5 : wc.cell? ⟨gb229, 5, none⟩ = some (.int .i64 ((rd_T74 l0 x31_2).f5)) := (blk_cell BK229.out 5).trans rfl
           have hcz47_6 : wc.cell? ⟨gb229, 6, none⟩ = some (.int .i64 ((rd_T74 l0 x31_2).f6)) := (blk_cell BK229.out 6).trans rfl
           have hcz47_7 : wc.cell? ⟨gb229, 7, none⟩ = some (.string ((rd_T74 l0 x31_2).f7)) := (blk_cell BK229.out 7).trans rfl
           have hfz47_0 := blk_frozen BK229.out 0
           have hfz47_1 := blk_frozen BK229.out 1
           have hfz47_2 := blk_frozen BK229.out 2
           have hfz47_3 := blk_frozen BK229.out 3
           have hfz47_4 := blk_frozen BK229.out 4
           have hfz47_5 := blk_frozen BK229.out 5
           have hfz47_6 := blk_frozen BK229.out 6
           have hfz47_7 := blk_frozen BK229.out 7
           have p236 : 0 ≤ (((rd_T74 l0 x31_2).f6) : Int) := of_decide_eq_true (by first | (with_reducible assumption) | assumption)
           have q236 : ((rd_T74 l0 x31_2).f6) < (l0.length : Int) := of_decide_eq_true (by first | (with_reducible assumption) | assumption)
           obtain ⟨ad236, e236, hx236_0, hx236_1, hx236_2, hx236_3, hx236_4, hx236_5, hx236_6, hx236_7⟩ := at_T74 HR0.out ((rd_T74 l0 x31_2).f6) p236 q236
           obtain rfl : ad228 = ad236 := (by injection e236)
           replace hx236_0 := (HB.out.cell (World.block_lt_of_cell? w _ hx236_0)).trans hx236_0
           replace hx236_1 := (HB.out.cell (World.block_lt_of_cell? w _ hx236_1)).trans hx236_1
           replace hx236_2 := (HB.out.cell (World.block_lt_of_cell? w _ hx236_2)).trans hx236_2
           replace hx236_3 := (HB.out.cell (World.block_lt_of_cell? w _ hx236_3)).trans hx236_3
           replace hx236_4 := (HB.out.cell (World.block_lt_of_cell? w _ hx236_4)).trans hx236_4
           replace hx236_5 := (HB.out.cell (World.block_lt_of_cell? w _ hx236_5)).trans hx236_5
           replace hx236_6 := (HB.out.cell (World.block_lt_of_cell? w _ hx236_6)).trans hx236_6
           replace hx236_7 := (HB.out.cell (World.block_lt_of_cell? w _ hx236_7)).trans hx236_7
           replace p236 := eq_true p236
           replace q236 := eq_true q236
           go_wp2_with (first | ((with_reducible refine gate_dst (N := 5) rfl ?_); (try (refine gate_guard (by rfl) ?_; dsimp only)); refine box_event ?hg (N := 5) ?hd (cs := #[.string (⟨#[]⟩ : ByteArray), .int .i64 0, .int .i64 0, .int .i64 0, .int .i64 0, .int .i64 0, .int .i64 0, .string (⟨#[]⟩ : ByteArray)]) (t := 74) ?hr ?_; (case hd => rfl); (case hg => rfl); (case hr => first | (go_simp; done) | (go_simp; rfl)); intro gb237 hg w48 hbox hb; have n0_ := Aside0.mk (blk_below (g := gb229) (o := .cells #[.string ((rd_T74 l0 x31_2).f0), .int .i64 ((rd_T74 l0 x31_2).f1), .int .i64 ((rd_T74 l0 x31_2).f2), .int .i64 ((rd_T74 l0 x31_2).f3), .int .i64 ((rd_T74 l0 x31_2).f4), .int .i64 ((rd_T74 l0 x31_2).f5), .int .i64 ((rd_T74 l0 x31_2).f6), .string ((rd_T74 l0 x31_2).f7)] 74 (0, 0)) (by (with_reducible repeat (first | refine blk_drewN ?_ _ | refine blk_drew ?_ | refine blk_alloc ?_ _)); exact BK229.out) hb); have n1_ := Aside0.mk (below_step (Gtr.bw HB.out) hb); have n2_ := Aside0.mk (hbox); have n3_ := Aside0.mk ((by rw [hg]; exact (below_size (Gtr.bw HB.out)) : w.heap.size ≤ gb237)); have n4_ := Aside0.mk ((by rw [hg]; exact (below_size (Gtr.bw HB.out)) : w.heap.size ≤ gb237)); have n5_ := Aside0.mk ((by rw [hg]; exact Nat.ne_of_lt (blk_lt (g := gb229) (o := .cells #[.string ((rd_T74 l0 x31_2).f0), .int .i64 ((rd_T74 l0 x31_2).f1), .int .i64 ((rd_T74 l0 x31_2).f2), .int .i64 ((rd_T74 l0 x31_2).f3), .int .i64 ((rd_T74 l0 x31_2).f4), .int .i64 ((rd_T74 l0 x31_2).f5), .int .i64 ((rd_T74 l0 x31_2).f6), .string ((rd_T74 l0 x31_2).f7)] 74 (0, 0)) (by (with_reducible repeat (first | refine blk_drewN ?_ _ | refine blk_drew ?_ | refine blk_alloc ?_ _)); exact BK229.out)) : gb229 ≠ gb237)); have n6_ := Aside0.mk ((by rw [hg]; exact Nat.ne_of_gt (blk_lt (g := gb229) (o := .cells #[.string ((rd_T74 l0 x31_2).f0), .int .i64 ((rd_T74 l0 x31_2).f1), .int .i64 ((rd_T74 l0 x31_2).f2), .int .i64 ((rd_T74 l0 x31_2).f3), .int .i64 ((rd_T74 l0 x31_2).f4), .int .i64 ((rd_T74 l0 x31_2).f5), .int .i64 ((rd_T74 l0 x31_2).f6), .string ((rd_T74 l0 x31_2).f7)] 74 (0, 0)) (by (with_reducible repeat (first | refine blk_drewN ?_ _ | refine blk_drew ?_ | refine blk_alloc ?_ _)); exact BK229.out)) : gb237 ≠ gb229)); clear BK229; clear HB; have BK229 := n0_; have HB := n1_; have BK237 := n2_; have GW237 := n3_; have GE237 := n4_; have NB229_237 := n5_; have NB237_229 := n6_; clear n0_ n1_ n2_ n3_ n4_ n5_ n6_; clear hb hbox hg; have hnb49 := NB237_229.out; have hnc49 := NB229_237.out; have hcz50_0 : w48.cell? ⟨gb237, 0, none⟩ = some (.string (⟨#[]⟩ : ByteArray)) := (blk_cell BK237.out 0).trans rfl; have hcz50_1 : w48.cell? ⟨gb237, 1, none⟩ = some (.int .i64 0) := (blk_cell BK237.out 1).trans rfl; have hcz50_2 : w48.cell? ⟨gb237, 2, none⟩ = some (.int .i64 0) := (blk_cell BK237.out 2).trans rfl; have hcz50_3 : w48.cell? ⟨gb237, 3, none⟩ = some (.int .i64 0) := (blk_cell BK237.out 3).trans rfl; have hcz50_4 : w48.cell? ⟨gb237, 4, none⟩ = some (.int .i64 0) := (blk_cell BK237.out 4).trans rfl; have hcz50_5 : w48.cell? ⟨gb237, 5, none⟩ = some (.int .i64 0) := (blk_cell BK237.out 5).trans rfl; have hcz50_6 : w48.cell? ⟨gb237, 6, none⟩ = some (.int .i64 0) := (blk_cell BK237.out 6).trans rfl; have hcz50_7 : w48.cell? ⟨gb237, 7, none⟩ = some (.string (⟨#[]⟩ : ByteArray)) := (blk_cell BK237.out 7).trans rfl; have hfz50_0 := blk_frozen BK237.out 0; have hfz50_1 := blk_frozen BK237.out 1; have hfz50_2 := blk_frozen BK237.out 2; have hfz50_3 := blk_frozen BK237.out 3; have hfz50_4 := blk_frozen BK237.out 4; have hfz50_5 := blk_frozen BK237.out 5; have hfz50_6 := blk_frozen BK237.out 6; have hfz50_7 := blk_frozen BK237.out 7; have hcz51_0 : w48.cell? ⟨gb229, 0, none⟩ = some (.string ((rd_T74 l0 x31_2).f0)) := (blk_cell BK229.out 0).trans rfl; have hcz51_1 : w48.cell? ⟨gb229, 1, none⟩ = some (.int .i64 ((rd_T74 l0 x31_2).f1)) := (blk_cell BK229.out 1).trans rfl; have hcz51_2 : w48.cell? ⟨gb229, 2, none⟩ = some (.int .i64 ((rd_T74 l0 x31_2).f2)) := (blk_cell BK229.out 2).trans rfl; have hcz51_3 : w48.cell? ⟨gb229, 3, none⟩ = some (.int .i64 ((rd_T74 l0 x31_2).f3)) := (blk_cell BK229.out 3).trans rfl; have hcz51_4 : w48.cell? ⟨gb229, 4, none⟩ = some (.int .i64 ((rd_T74 l0 x31_2).f4)) := (blk_cell BK229.out 4).trans rfl; have hcz51_5 : w48.cell? ⟨gb229, 5, none⟩ = some (.int .i64 ((rd_T74 l0 x31_2).f5)) := (blk_cell BK229.out 5).trans rfl; have hcz51_6 : w48.cell? ⟨gb229, 6, none⟩ = some (.int .i64 ((rd_T74 l0 x31_2).f6)) := (blk_cell BK229.out 6).trans rfl; have hcz51_7 : w48.cell? ⟨gb229, 7, none⟩ = some (.string ((rd_T74 l0 x31_2).f7)) := (blk_cell BK229.out 7).trans rfl; have hfz51_0 := blk_frozen BK229.out 0; have hfz51_1 := blk_frozen BK229.out 1; have hfz51_2 := blk_frozen BK229.out 2; have hfz51_3 := blk_frozen BK229.out 3; have hfz51_4 := blk_frozen BK229.out 4; have hfz51_5 := blk_frozen BK229.out 5; have hfz51_6 := blk_frozen BK229.out 6; have hfz51_7 := blk_frozen BK229.out 7))
           go_ret
           exact ⟨by first | rfl | (simp [errW_none, errW_some] <;> rfl) | (simp [*, errW_none, errW_some] <;> rfl), (Gtr.bw HB.out)⟩
      ·rw [if_neg c9] at H
       have c9b0 : decide (x31_2 < (l0.length : Int)) = false := decide_eq_false c9
       clear c9
       obtain rfl := Option.some.inj H
       go_wp2
       go_ret
       exact ⟨by first | rfl | (simp [errW_none, errW_some] <;> rfl) | (simp [*, errW_none, errW_some] <;> rfl), (Gtr.bw HB.out)⟩
end Go.Proofs.YthhmkbchdiflcaaGreatDoor.Q

-- Printed by a program of this session (wip/tools/myprint.py) that runs the kit's print, hand-proved functions among the others.
namespace Go.Proofs.YthhmkbchdiflcaaGreatDoor.Q
open Go.RowKit Go.Proofs.YthhmkbchdiflcaaGreatDoorW.PrintWords Go.Proofs.YthhmkbchdiflcaaGreatDoorW.PrintLast Go.Proofs.YthhmkbchdiflcaaGreatDoorW.PrintMore
attribute [local go_sem] max2_int min2_int max_two min_two max_three min_three max_four min_four   -- for this text's walks alone
set_option linter.unusedVariables false
set_option linter.unusedSimpArgs false

/-! ### spec_l18Lone: function 75 -/
def spec_l18Lone.l0 : Nat → List (S74) → Int → Int → Option (Bool)
 | 0, _, _, _ => none
 | k + 1, x8, x9, x10 => if x10 < x9 then (if 0 ≤ x10 then (if x10 < (x8.length : Int) then (if ((rd_T74 x8 x10).f6) = x10 then (spec_l18Lone.l0 k x8 x9 (wrap64 (x10 + 1))) else (some false)) else (none)) else (none)) else (some true)
def spec_l18Lone.f (k : Nat) (l0 : List (S74)) : Option (Bool) := (spec_l17Good.f k l0).bind fun t238 => (if t238 = true then (spec_l18Lone.l0 k l0 (l0.length : Int) 0) else (some false))
set_option maxHeartbeats 8000000 in
set_option maxRecDepth 100000 in
theorem spec_l18Lone.calls (k : Nat) (A0 : Option Addr) (c0 : Nat) (l0 : List (S74)) (r : Bool) (w : World) (hr0 : Kd.C k74 w A0 l0.length l0) (hc0 : l0.length ≤ c0) (h : spec_l18Lone.f k l0 = some r) :
  Calls Tryz.prog 75 #[.slice A0 l0.length c0] w fun e w' => e = .returned (.bool r) ∧ Below w.heap.size w w' := by
 have hu74 := Tryz.underlying74
 have HR0 := Aside0.mk hr0
 have HC0 := Aside0.mk hc0
 clear hr0 hc0
 have HB := Aside0.mk (Below.refl w.heap.size w)
 have H : ((spec_l17Good.f k l0).bind fun t238 => (if t238 = true then (spec_l18Lone.l0 k l0 (l0.length : Int) 0) else (some false))) = some r := h
 clear h
 replace H := Option.bind_eq_some_iff.mp H
 obtain ⟨t238, A20, H⟩ := H
 try dsimp only at H
 have A2 := Aside0.mk A20
 clear A20
 by_cases c3 : t238 = true
 ·subst c3
  have H1 := H
  rw [if_pos rfl] at H1
  clear H
  have H := H1
  clear H1
  have H' := Aside0.mk H
  clear H
  go_enter Tryz.func75, Tryz.ntmps75
  go_wp2_with (first | ((with_reducible refine gate_callee (f := 56) rfl ?_); refine goesL_ (some 6) rfl rfl Tryz.func56 (by kernel_rfl) rfl #[.slice A0 l0.length c0] rfl (by (try simp only [List.map_toArray, List.map_cons, List.map_nil]); first | done | rfl | (simp only [List.length_drop, List.length_take]; rfl)) ?_; (with_reducible refine (spec_l17Good.calls k _ _ l0 true _ ?side1 ?side2 A2.out).mono ?_); (case side1 => repeat (first | exact HR0.out | (with_reducible refine Kd.C_alloc ?_ _) | (with_reducible refine Kd.C_drewN ?_ _) | (with_reducible refine Kd.C_drew ?_))); (case side2 => exact HC0.out); rintro e w4 ⟨rfl, hb⟩; refine ⟨_, rfl, ?_⟩; have n0_ := Aside0.mk (below_step (Gtr.bw HB.out) hb); clear HB; have HB := n0_; clear n0_; (try clear hb); (try clear hb2); (try clear hk); (try clear hi)))
  go_loopg [10] k (fun kq v10 w' => ∃ (x10_1 : Int), v10 = .int .i64 x10_1 ∧ Aside0 (spec_l18Lone.l0 kq l0 (l0.length : Int) x10_1 = some r) ∧ Aside0 (kq ≤ k) ∧ Aside0 (Below w.heap.size w w'))
  case atStart => exact ⟨(0), (by first | rfl | (simp; done) | (simp [*]; done)), H', ⟨Nat.le_refl _⟩, ⟨(Gtr.bw HB.out)⟩⟩
  case round =>
   clear H'
   (try clear p2);(try clear c3)
   obtain ⟨x10_1, rfl, HA, HK1, HB⟩ := hrel
   cases gk with
   | zero => exact absurd HA.out (by simp [spec_l18Lone.l0])
   | succ k1 =>
    have H := HA.out
    clear HA
    simp only [spec_l18Lone.l0] at H
    by_cases c5 : x10_1 < (l0.length : Int)
    ·rw [if_pos c5] at H
     have c5b0 : decide (x10_1 < (l0.length : Int)) = true := decide_eq_true c5
     clear c5
     refine Or.elim (Classical.em (0 ≤ x10_1)) (fun c6 => ?_) (fun c6 => by rw [if_neg c6] at H; exact absurd H (by simp))
     rw [if_pos c6] at H
     have c6b0 : decide (0 ≤ x10_1) = true := decide_eq_true c6
     clear c6
     refine Or.elim (Classical.em (x10_1 < (l0.length : Int))) (fun c7 => ?_) (fun c7 => by rw [if_neg c7] at H; exact absurd H (by simp))
     rw [if_pos c7] at H
     have c7b0 : decide (x10_1 < (l0.length : Int)) = true := decide_eq_true c7
     clear c7
     by_cases c8 : ((rd_T74 l0 x10_1).f6) = x10_1
     ·rw [if_pos c8] at H
      have c8b0 : (((rd_T74 l0 x10_1).f6) == x10_1) = true := beq_iff_eq.mpr c8
      have c8b1 : (((rd_T74 l0 x10_1).f6) != x10_1) = false := bne_eq_false_iff_eq.mpr c8
      clear c8
      have H' := Aside0.mk H
      clear H
      have p239 : 0 ≤ (x10_1 : Int) := of_decide_eq_true (by first | (with_reducible assumption) | assumption)
      have q239 : x10_1 < (l0.length : Int) := of_decide_eq_true (by first | (with_reducible assumption) | assumption)
      obtain ⟨ad239, e239, hx239_0, hx239_1, hx239_2, hx239_3, hx239_4, hx239_5, hx239_6, hx239_7⟩ := at_T74 HR0.out x10_1 p239 q239
      cases e239
      replace hx239_0 := (HB.out.cell (World.block_lt_of_cell? w _ hx239_0)).trans hx239_0
      replace hx239_1 := (HB.out.cell (World.block_lt_of_cell? w _ hx239_1)).trans hx239_1
      replace hx239_2 := (HB.out.cell (World.block_lt_of_cell? w _ hx239_2)).trans hx239_2
      replace hx239_3 := (HB.out.cell (World.block_lt_of_cell? w _ hx239_3)).trans hx239_3
      replace hx239_4 := (HB.out.cell (World.block_lt_of_cell? w _ hx239_4)).trans hx239_4
      replace hx239_5 := (HB.out.cell (World.block_lt_of_cell? w _ hx239_5)).trans hx239_5
      replace hx239_6 := (HB.out.cell (World.block_lt_of_cell? w _ hx239_6)).trans hx239_6
      replace hx239_7 := (HB.out.cell (World.block_lt_of_cell? w _ hx239_7)).trans hx239_7
      replace p239 := eq_true p239
      replace q239 := eq_true q239
      go_wp2_with (first | ((with_reducible refine gate_dst (N := 4) rfl ?_); refine box_event ?hg (N := 4) ?hd (cs := #[.string (⟨#[]⟩ : ByteArray), .int .i64 0, .int .i64 0, .int .i64 0, .int .i64 0, .int .i64 0, .int .i64 0, .string (⟨#[]⟩ : ByteArray)]) (t := 74) ?hr ?_; (case hd => rfl); (case hg => rfl); (case hr => first | (go_simp; done) | (go_simp; rfl)); intro gb240 hg w9 hbox hb; have n0_ := Aside0.mk (below_step (Gtr.bw HB.out) hb); have n1_ := Aside0.mk (hbox); have n2_ := Aside0.mk ((by rw [hg]; exact (below_size (Gtr.bw HB.out)) : w.heap.size ≤ gb240)); have n3_ := Aside0.mk ((by rw [hg]; exact (below_size (Gtr.bw HB.out)) : w.heap.size ≤ gb240)); clear HB; have HB := n0_; have BK240 := n1_; have GW240 := n2_; have GE240 := n3_; clear n0_ n1_ n2_ n3_; clear hb hbox hg; have hcz10_0 : w9.cell? ⟨gb240, 0, none⟩ = some (.string (⟨#[]⟩ : ByteArray)) := (blk_cell BK240.out 0).trans rfl; have hcz10_1 : w9.cell? ⟨gb240, 1, none⟩ = some (.int .i64 0) := (blk_cell BK240.out 1).trans rfl; have hcz10_2 : w9.cell? ⟨gb240, 2, none⟩ = some (.int .i64 0) := (blk_cell BK240.out 2).trans rfl; have hcz10_3 : w9.cell? ⟨gb240, 3, none⟩ = some (.int .i64 0) := (blk_cell BK240.out 3).trans rfl; have hcz10_4 : w9.cell? ⟨gb240, 4, none⟩ = some (.int .i64 0) := (blk_cell BK240.out 4).trans rfl; have hcz10_5 : w9.cell? ⟨gb240, 5, none⟩ = some (.int .i64 0) := (blk_cell BK240.out 5).trans rfl; have hcz10_6 : w9.cell? ⟨gb240, 6, none⟩ = some (.int .i64 0) := (blk_cell BK240.out 6).trans rfl; have hcz10_7 : w9.cell? ⟨gb240, 7, none⟩ = some (.string (⟨#[]⟩ : ByteArray)) := (blk_cell BK240.out 7).trans rfl; have hfz10_0 := blk_frozen BK240.out 0; have hfz10_1 := blk_frozen BK240.out 1; have hfz10_2 := blk_frozen BK240.out 2; have hfz10_3 := blk_frozen BK240.out 3; have hfz10_4 := blk_frozen BK240.out 4; have hfz10_5 := blk_frozen BK240.out 5; have hfz10_6 := blk_frozen BK240.out 6; have hfz10_7 := blk_frozen BK240.out 7))
      go_roundg k1
      case measure => have := HK1.out; omega
      case rel => exact ⟨(wrap64 (x10_1 + 1)), (by first | rfl | (simp; done) | (simp [*]; done)), H', ⟨by have := HK1.out; omega⟩, ⟨(Gtr.bw HB.out)⟩⟩
     ·rw [if_neg c8] at H
      have c8b0 : (((rd_T74 l0 x10_1).f6) == x10_1) = false := beq_eq_false_iff_ne.mpr c8
      have c8b1 : (((rd_T74 l0 x10_1).f6) != x10_1) = true := bne_iff_ne.mpr c8
      obtain rfl := Option.some.inj H
      have p239 : 0 ≤ (x10_1 : Int) := of_decide_eq_true (by first | (with_reducible assumption) | assumption)
      have q239 : x10_1 < (l0.length : Int) := of_decide_eq_true (by first | (with_reducible assumption) | assumption)
      obtain ⟨ad239, e239, hx239_0, hx239_1, hx239_2, hx239_3, hx239_4, hx239_5, hx239_6, hx239_7⟩ := at_T74 HR0.out x10_1 p239 q239
      cases e239
      replace hx239_0 := (HB.out.cell (World.block_lt_of_cell? w _ hx239_0)).trans hx239_0
      replace hx239_1 := (HB.out.cell (World.block_lt_of_cell? w _ hx239_1)).trans hx239_1
      replace hx239_2 := (HB.out.cell (World.block_lt_of_cell? w _ hx239_2)).trans hx239_2
      replace hx239_3 := (HB.out.cell (World.block_lt_of_cell? w _ hx239_3)).trans hx239_3
      replace hx239_4 := (HB.out.cell (World.block_lt_of_cell? w _ hx239_4)).trans hx239_4
      replace hx239_5 := (HB.out.cell (World.block_lt_of_cell? w _ hx239_5)).trans hx239_5
      replace hx239_6 := (HB.out.cell (World.block_lt_of_cell? w _ hx239_6)).trans hx239_6
      replace hx239_7 := (HB.out.cell (World.block_lt_of_cell? w _ hx239_7)).trans hx239_7
      replace p239 := eq_true p239
      replace q239 := eq_true q239
      go_wp2_with (first | ((with_reducible refine gate_dst (N := 4) rfl ?_); refine box_event ?hg (N := 4) ?hd (cs := #[.string (⟨#[]⟩ : ByteArray), .int .i64 0, .int .i64 0, .int .i64 0, .int .i64 0, .int .i64 0, .int .i64 0, .string (⟨#[]⟩ : ByteArray)]) (t := 74) ?hr ?_; (case hd => rfl); (case hg => rfl); (case hr => first | (go_simp; done) | (go_simp; rfl)); intro gb240 hg w11 hbox hb; have n0_ := Aside0.mk (below_step (Gtr.bw HB.out) hb); have n1_ := Aside0.mk (hbox); have n2_ := Aside0.mk ((by rw [hg]; exact (below_size (Gtr.bw HB.out)) : w.heap.size ≤ gb240)); have n3_ := Aside0.mk ((by rw [hg]; exact (below_size (Gtr.bw HB.out)) : w.heap.size ≤ gb240)); clear HB; have HB := n0_; have BK240 := n1_; have GW240 := n2_; have GE240 := n3_; clear n0_ n1_ n2_ n3_; clear hb hbox hg; have hcz12_0 : w11.cell? ⟨gb240, 0, none⟩ = some (.string (⟨#[]⟩ : ByteArray)) := (blk_cell BK240.out 0).trans rfl; have hcz12_1 : w11.cell? ⟨gb240, 1, none⟩ = some (.int .i64 0) := (blk_cell BK240.out 1).trans rfl; have hcz12_2 : w11.cell? ⟨gb240, 2, none⟩ = some (.int .i64 0) := (blk_cell BK240.out 2).trans rfl; have hcz12_3 : w11.cell? ⟨gb240, 3, none⟩ = some (.int .i64 0) := (blk_cell BK240.out 3).trans rfl; have hcz12_4 : w11.cell? ⟨gb240, 4, none⟩ = some (.int .i64 0) := (blk_cell BK240.out 4).trans rfl; have hcz12_5 : w11.cell? ⟨gb240, 5, none⟩ = some (.int .i64 0) := (blk_cell BK240.out 5).trans rfl; have hcz12_6 : w11.cell? ⟨gb240, 6, none⟩ = some (.int .i64 0) := (blk_cell BK240.out 6).trans rfl; have hcz12_7 : w11.cell? ⟨gb240, 7, none⟩ = some (.string (⟨#[]⟩ : ByteArray)) := (blk_cell BK240.out 7).trans rfl; have hfz12_0 := blk_frozen BK240.out 0; have hfz12_1 := blk_frozen BK240.out 1; have hfz12_2 := blk_frozen BK240.out 2; have hfz12_3 := blk_frozen BK240.out 3; have hfz12_4 := blk_frozen BK240.out 4; have hfz12_5 := blk_frozen BK240.out 5; have hfz12_6 := blk_frozen BK240.out 6; have hfz12_7 := blk_frozen BK240.out 7))
      go_ret
      exact ⟨by first | rfl | (simp [errW_none, errW_some] <;> rfl) | (simp [*, errW_none, errW_some] <;> rfl), (Gtr.bw HB.out)⟩
    ·rw [if_neg c5] at H
     have c5b0 : decide (x10_1 < (l0.length : Int)) = false := decide_eq_false c5
     clear c5
     obtain rfl := Option.some.inj H
     go_wp2
     go_ret
     exact ⟨by first | rfl | (simp [errW_none, errW_some] <;> rfl) | (simp [*, errW_none, errW_some] <;> rfl), (Gtr.bw HB.out)⟩
 ·replace c3 := Bool.eq_false_iff.mpr c3
  subst c3
  have H1 : (some false) = some r := by rw [if_neg (show ¬ (false = true) by decide)] at H; exact H
  clear H
  have H := H1
  clear H1
  obtain rfl := Option.some.inj H
  go_enter Tryz.func75, Tryz.ntmps75
  go_wp2_with (first | ((with_reducible refine gate_callee (f := 56) rfl ?_); refine goesL_ (some 6) rfl rfl Tryz.func56 (by kernel_rfl) rfl #[.slice A0 l0.length c0] rfl (by (try simp only [List.map_toArray, List.map_cons, List.map_nil]); first | done | rfl | (simp only [List.length_drop, List.length_take]; rfl)) ?_; (with_reducible refine (spec_l17Good.calls k _ _ l0 false _ ?side1 ?side2 A2.out).mono ?_); (case side1 => repeat (first | exact HR0.out | (with_reducible refine Kd.C_alloc ?_ _) | (with_reducible refine Kd.C_drewN ?_ _) | (with_reducible refine Kd.C_drew ?_))); (case side2 => exact HC0.out); rintro e w13 ⟨rfl, hb⟩; refine ⟨_, rfl, ?_⟩; have n0_ := Aside0.mk (below_step (Gtr.bw HB.out) hb); clear HB; have HB := n0_; clear n0_; (try clear hb); (try clear hb2); (try clear hk); (try clear hi)))
  go_ret
  exact ⟨by first | rfl | (simp [errW_none, errW_some] <;> rfl) | (simp [*, errW_none, errW_some] <;> rfl), (Gtr.bw HB.out)⟩
end Go.Proofs.YthhmkbchdiflcaaGreatDoor.Q
