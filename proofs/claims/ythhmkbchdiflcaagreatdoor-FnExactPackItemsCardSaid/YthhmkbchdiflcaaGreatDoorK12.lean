/- Texts of this claim, merged by a program (wip/tools/merge.py): HPathsEv, HAlone, Q37, Q42. -/
import Derived.Test.YthhmkbchdiflcaaGreatDoorK1
import Derived.Test.YthhmkbchdiflcaaGreatDoorK2
import Derived.Test.YthhmkbchdiflcaaGreatDoorK5
import Derived.Test.YthhmkbchdiflcaaGreatDoorK9
import Derived.Test.YthhmkbchdiflcaaGreatDoorK7
import Derived.Test.YthhmkbchdiflcaaGreatDoorK10
import Derived.Test.YthhmkbchdiflcaaGreatDoorK11
/- The reference's names, parts and paths come to the program's. -/
namespace Go.Proofs.YthhmkbchdiflcaaGreatDoor.Q
open Go.RowKit Go.Proofs.YthhmkbchdiflcaaGreatDoorW.PrintWords Go.Proofs.YthhmkbchdiflcaaGreatDoorW.PrintLast Go.Proofs.YthhmkbchdiflcaaGreatDoorW.PrintMore
attribute [local go_sem] max2_int min2_int max_two min_two max_three min_three max_four min_four   -- for this text's walks alone
set_option linter.unusedVariables false
set_option linter.unusedSimpArgs false

theorem nameB_iff (c : Int) : nameB c = true ↔ (97 ≤ c ∧ c ≤ 122) ∨ (48 ≤ c ∧ c ≤ 57) ∨ c = 46 ∨ c = 95 ∨ c = 45 := by
  unfold nameB; simp
theorem name_step {α : Type} (c : Int) (X F : α) :
    (if c < 97 then (if c < 48 then (if c = 46 then X else (if c = 95 then X else (if c = 45 then X else F))) else (if c > 57 then (if c = 46 then X else (if c = 95 then X else (if c = 45 then X else F))) else X)) else (if c > 122 then (if c < 48 then (if c = 46 then X else (if c = 95 then X else (if c = 45 then X else F))) else (if c > 57 then (if c = 46 then X else (if c = 95 then X else (if c = 45 then X else F))) else X)) else X)) = if nameB c = true then X else F := by
  by_cases h : nameB c = true
  · rw [if_pos h]
    have := (nameB_iff c).mp h
    repeat' split
    all_goals first | rfl | omega
  · rw [if_neg h]
    have := fun q => h ((nameB_iff c).mpr q)
    repeat' split
    all_goals first | rfl | (exfalso; apply this; omega)
theorem l1In_f (n lo hi : Int) : spec_l1In.f n lo hi = some (inB lo hi n) := by
  unfold spec_l1In.f inB
  by_cases h : n ≥ lo
  · rw [if_pos h]; have : lo ≤ n := h; simp [this]
  · rw [if_neg h]; have : ¬ lo ≤ n := h; simp [this]
/-- What the reference's loop over the bytes from place i on ends in. -/
def nameEnd (s : ByteArray) : Bool := inB 1 8 s.size && !(s.toList == [46] || s.toList == [46, 46])
theorem l2Name_loop (s : ByteArray) (hs : s.size < 4294967281) (d : Nat) : ∀ i : Nat, i + d = s.size → Ev (fun k => spec_l2Name.l0 k s (i : Int)) (((bytesOf s).drop i).all nameB && nameEnd s) := by
  induction d with
  | zero =>
    intro i hi
    refine Ev.step (f := fun _ => some (nameEnd s)) (fun k => ?_) ?_
    · simp only [spec_l2Name.l0]
      rw [if_neg (by omega), l1In_f]
      unfold nameEnd
      simp only [Option.bind_some]
      cases inB 1 8 s.size
      · rfl
      · by_cases h1 : s.toList = [46]
        · simp [h1]
        · have e1 : (s.toList == [46]) = false := by simpa using h1
          rw [if_pos rfl, if_neg h1, e1]
          simp [bne]
    · rw [List.drop_of_length_le (by rw [bytesOf_length]; omega)]
      simpa using Ev.now (nameEnd s)
  | succ d ih =>
    intro i hi
    have hlt : i < s.size := by omega
    have hw := step_n (i := i) (n := s.size) hlt (by omega)
    have e : ∀ k, spec_l2Name.l0 (k + 1) s (i : Int) = if nameB (bt s i) = true then spec_l2Name.l0 k s ((i + 1 : Nat) : Int) else some false := fun k => by
      simp only [spec_l2Name.l0]
      rw [if_pos (by omega), if_pos (by omega), hw, name_step]
    have hdrop : (bytesOf s).drop i = bt s i :: (bytesOf s).drop (i + 1) := by
      rw [List.drop_eq_getElem_cons (by rw [bytesOf_length]; exact hlt)]
      congr 1
      have := rd_bytesOf s (i : Int)
      rw [← this]
      simp [rd, rdOf, List.getD, bytesOf_length, hlt]
    rw [hdrop, List.all_cons]
    by_cases hn : nameB (bt s i) = true
    · rw [hn, Bool.true_and]
      exact Ev.step (fun k => by rw [e k, if_pos hn]) (ih (i + 1) (by omega))
    · have hn' : nameB (bt s i) = false := by simpa using hn
      rw [hn', Bool.false_and, Bool.false_and]
      exact Ev.step (f := fun _ => some false) (fun k => by rw [e k, if_neg hn]) (Ev.now _)
theorem inB_nat (lo hi : Nat) (n : Nat) : inB lo hi n = (decide (lo ≤ n) && decide (n ≤ hi)) := by
  unfold inB; simp
theorem nameOk_eq (s : ByteArray) : ((bytesOf s).all nameB && nameEnd s) = nameOkB s := by
  unfold nameOkB partB nameEnd
  rw [show inB 1 8 (s.size : Int) = (decide (1 ≤ s.size) && decide (s.size ≤ 8)) from inB_nat 1 8 s.size]
  have : (bytesOf s).all nameB = !(bytesOf s).any (fun b => !nameB b) := by
    rw [List.all_eq_not_any_not]
  rw [this]
  cases (bytesOf s).any (fun b => !nameB b) <;> cases decide (1 ≤ s.size) <;> cases decide (s.size ≤ 8) <;> simp
theorem l2Name_ev (s : ByteArray) (hs : s.size < 4294967281) : Ev (fun k => spec_l2Name.f k s) (nameOkB s) := by
  rw [← nameOk_eq]
  have h := l2Name_loop s hs s.size 0 (by omega)
  rw [List.drop_zero] at h
  exact h
theorem rdS (xs : List ByteArray) (i : Nat) (h : i < xs.length) : rdOf ByteArray.empty xs (i : Int) = xs[i] := by
  simp [rdOf, List.getD, h]
theorem l2Parts_loop (l : List ByteArray) (hl : l.length ≤ 4294967282) (d : Nat) : ∀ (i : Nat) (out : List ByteArray), i + d = l.length → out.length ≤ i →
    Ev (fun k => spec_l2Parts.l0 k out l (l.length : Int) (i : Int)) (out ++ (l.drop i).filter fun p => !nilB p) := by
  induction d with
  | zero =>
    intro i out hi ho
    refine Ev.step (f := fun _ => some out) (fun k => ?_) ?_
    · simp only [spec_l2Parts.l0]; rw [if_neg (by omega)]
    · rw [List.drop_of_length_le (by omega)]; simpa using Ev.now out
  | succ d ih =>
    intro i out hi ho
    have hlt : i < l.length := by omega
    have hw := step_n (i := i) (n := l.length) hlt (by omega)
    rw [List.drop_eq_getElem_cons hlt, List.filter_cons]
    by_cases hc : l[i].toList = []
    · have hn : nilB l[i] = true := by rw [← nilB_eq]; simpa using hc
      rw [hn, Bool.not_true, if_neg (by simp)]
      refine Ev.step (f := fun k => spec_l2Parts.l0 k out l (l.length : Int) ((i + 1 : Nat) : Int)) (fun k => ?_) (ih (i + 1) out (by omega) (by omega))
      simp only [spec_l2Parts.l0]
      rw [if_pos (by omega), if_pos (by omega), if_pos (by omega), rdS _ _ hlt, if_pos hc, hw]
    · have hn : nilB l[i] = false := by rw [← nilB_eq]; simpa using hc
      rw [hn, Bool.not_false, if_pos rfl]
      have h2 := ih (i + 1) (out ++ [l[i]]) (by omega) (by simp; omega)
      refine Ev.step (f := fun k => spec_l2Parts.l0 k (out ++ [l[i]]) l (l.length : Int) ((i + 1 : Nat) : Int)) (fun k => ?_) (by simpa using h2)
      simp only [spec_l2Parts.l0]
      rw [if_pos (by omega), if_pos (by omega), if_pos (by omega), rdS _ _ hlt, if_neg hc, if_pos (by omega), hw]
theorem slash_len (s : ByteArray) (hs : s.size < 4294967281) : (slashL s).length ≤ 4294967282 := by
  unfold slashL
  rw [← show segs s 47 s.size 0 0 = _ from segs_split s 47]
  have := segs_len s 47 s.size 0 0
  omega
theorem l2Parts_ev (s : ByteArray) (hs : s.size < 4294967281) : Ev (fun k => spec_l2Parts.f k s) (partsL s) := by
  refine Ev.bind (slash_ev s hs) ?_
  have := l2Parts_loop (slashL s) (slash_len s hs) (slashL s).length 0 [] (by omega) (by simp)
  simpa [partsL] using this
theorem parts_mem_size (s : ByteArray) : ∀ p ∈ partsL s, p.size ≤ s.size := by
  intro p hp
  have hm : p ∈ slashL s := (List.mem_filter.mp hp).1
  unfold slashL at hm
  rw [← show segs s 47 s.size 0 0 = _ from segs_split s 47] at hm
  have key : ∀ d fr i, i ≤ s.size → ∀ p ∈ segs s 47 d fr i, p.size ≤ s.size := by
    intro d
    induction d with
    | zero => intro fr i hi p hp; simp only [segs, List.mem_singleton] at hp; subst hp; simp
    | succ d ih =>
      intro fr i hi p hp
      simp only [segs] at hp
      by_cases hi2 : i < s.size
      · split at hp
        · rcases List.mem_cons.mp hp with rfl | h
          · simp; omega
          · exact ih _ _ (by omega) p h
        · exact ih _ _ (by omega) p hp
      · have hb : bt s i = 0 := by unfold bt; rw [dif_neg (by simpa using hi2)]
        rw [if_neg (by rw [hb]; decide)] at hp
        have : ∀ d fr j, s.size ≤ j → ∀ p ∈ segs s 47 d fr j, p.size ≤ s.size := by
          intro d
          induction d with
          | zero => intro fr j hj p hp; simp only [segs, List.mem_singleton] at hp; subst hp; simp
          | succ d ih =>
            intro fr j hj p hp
            simp only [segs] at hp
            have hb : bt s j = 0 := by unfold bt; rw [dif_neg (by simp; omega)]
            rw [if_neg (by rw [hb]; decide)] at hp
            exact ih _ _ (by omega) p hp
        exact this d fr (i + 1) (by omega) p hp
  exact key _ _ _ (by omega) p hm
/-- A part is a name, or dots. -/
def dotsOr (p : ByteArray) : Bool := nameOkB p || (p.toList == [46] || p.toList == [46, 46])
theorem part_of_dots {p : ByteArray} (h : p.toList = [46] ∨ p.toList = [46, 46]) : partB p = true := by
  have hd : p.data.toList = p.toList := (ByteArray.toList_eq p).symm
  have hsz : p.size = p.toList.length := by rw [← hd, data_length]
  unfold partB bytesOf
  rw [hd]
  rcases h with h | h <;> rw [hsz, h] <;> decide
theorem dotsOr_eq (p : ByteArray) : dotsOr p = partB p := by
  unfold dotsOr nameOkB
  by_cases h1 : p.toList = [46]
  · rw [part_of_dots (.inl h1)]; simp [h1]
  · by_cases h2 : p.toList = [46, 46]
    · rw [part_of_dots (.inr h2)]; simp [h2]
    · have e1 : (p.toList == [46]) = false := by simpa using h1
      have e2 : (p.toList == [46, 46]) = false := by simpa using h2
      rw [e1, e2]
      simp
theorem l2Path_loop (s : ByteArray) (l : List ByteArray) (hl : l.length ≤ 4294967282) (hm : ∀ p ∈ l, p.size < 4294967281) (d : Nat) : ∀ i : Nat, i + d = l.length →
    Ev (fun k => spec_l2Path.l0 k s l (l.length : Int) (i : Int)) ((l.drop i).all partB && inB 1 60 s.size) := by
  induction d with
  | zero =>
    intro i hi
    refine Ev.step (f := fun _ => some (inB 1 60 s.size)) (fun k => ?_) ?_
    · simp only [spec_l2Path.l0]; rw [if_neg (by omega), l1In_f]; rfl
    · rw [List.drop_of_length_le (by omega)]; simpa using Ev.now (inB 1 60 s.size)
  | succ d ih =>
    intro i hi
    have hlt : i < l.length := by omega
    have hw := step_n (i := i) (n := l.length) hlt (by omega)
    rw [List.drop_eq_getElem_cons hlt, List.all_cons, ← dotsOr_eq]
    refine Ev.step (f := fun k => (spec_l2Name.f k l[i]).bind fun t122 => (if t122 = true then (spec_l2Path.l0 k s l (l.length : Int) ((i + 1 : Nat) : Int)) else (if l[i].toList = ([46] : List UInt8) then (spec_l2Path.l0 k s l (l.length : Int) ((i + 1 : Nat) : Int)) else (if l[i].toList = ([46, 46] : List UInt8) then (spec_l2Path.l0 k s l (l.length : Int) ((i + 1 : Nat) : Int)) else (some false))))) (fun k => ?_) ?_
    · simp only [spec_l2Path.l0]
      rw [if_pos (by omega), if_pos (by omega), if_pos (by omega), rdS _ _ hlt, hw]
    · refine Ev.bind (l2Name_ev l[i] (hm _ (List.getElem_mem hlt))) ?_
      unfold dotsOr
      cases nameOkB l[i]
      · by_cases h1 : l[i].toList = [46]
        · simp only [h1, if_true, Bool.false_eq_true, if_false]
          simpa using ih (i + 1) (by omega)
        · by_cases h2 : l[i].toList = [46, 46]
          · simp only [h2, if_true, Bool.false_eq_true, if_false]
            simpa using ih (i + 1) (by omega)
          · simp only [h1, h2, Bool.false_eq_true, if_false]
            have e1 : (l[i].toList == [46]) = false := by simpa using h1
            have e2 : (l[i].toList == [46, 46]) = false := by simpa using h2
            rw [e1, e2]
            exact Ev.now _
      · simp only [if_true, Bool.true_or, Bool.true_and]
        exact ih (i + 1) (by omega)
theorem l2Path_ev (s : ByteArray) (hs : s.size < 4294967281) : Ev (fun k => spec_l2Path.f k s) (goodPathB s) := by
  refine Ev.bind (l2Parts_ev s hs) ?_
  have h := l2Path_loop s (partsL s) (Nat.le_trans (List.length_filter_le _ _) (slash_len s hs)) (fun p hp => by have := parts_mem_size s p hp; omega) (partsL s).length 0 (by omega)
  have e : ((partsL s).all partB && inB 1 60 s.size) = goodPathB s := by
    unfold goodPathB longB nilB
    rw [show inB 1 60 (s.size : Int) = (decide (1 ≤ s.size) && decide (s.size ≤ 60)) from inB_nat 1 60 s.size]
    have : (partsL s).all partB = !(partsL s).any (fun b => !partB b) := by rw [List.all_eq_not_any_not]
    rw [this]
    have h0 : decide (1 ≤ s.size) = !decide (s.size = 0) := by
      by_cases hz : s.size = 0 <;> simp [hz]
      omega
    rw [h0]
    cases (partsL s).any (fun b => !partB b) <;> cases decide (s.size = 0) <;> cases decide (s.size ≤ 60) <;> rfl
  rw [← e]
  simpa using h

end Go.Proofs.YthhmkbchdiflcaaGreatDoor.Q

/- spec.l17Alone: whether an item is right by itself, as the reference has it. -/
namespace Go.Proofs.YthhmkbchdiflcaaGreatDoor.Q
open Go.RowKit Go.Proofs.YthhmkbchdiflcaaGreatDoorW.PrintWords Go.Proofs.YthhmkbchdiflcaaGreatDoorW.PrintLast Go.Proofs.YthhmkbchdiflcaaGreatDoorW.PrintMore
attribute [local go_sem] max2_int min2_int max_two min_two max_three min_three max_four min_four   -- for this text's walks alone
set_option linter.unusedVariables false
set_option linter.unusedSimpArgs false

theorem bcell {W w1 : World} (hb : Below W.heap.size W w1) : ∀ b o, b < W.heap.size → w1.cell? ⟨b, o, none⟩ = W.cell? ⟨b, o, none⟩ := fun b o h => hb.cell (p := ⟨b, o, none⟩) h
theorem l1Mode_f (n : Int) : spec_l1Mode.f n = some (inB 0 511 n) := by unfold spec_l1Mode.f; rw [l1In_f]; rfl
set_option maxHeartbeats 1000000 in
theorem l3Entries_nil (w : World) : Calls Tryz.prog 233 #[.agg #[.slice none 0 0, .int .i64 0], .slice none 0 0] w fun e w' => e = .returned (.bool true) ∧ Below w.heap.size w w' := by
  have hu1 := Tryz.underlying139
  have hu3 := Tryz.underlying174
  go_enter Tryz.func233, Tryz.ntmps233
  go_wp2
  refine wp_loop_rounds 1 ?_
  rw [rounds_succ]
  go_wp2
  go_ret
  exact ⟨rfl, by repeat (first | exact Below.refl _ _ | apply below_alloc | apply pw_below_drewN | apply below_drew1)⟩
set_option maxHeartbeats 4000000 in
set_option maxRecDepth 100000 in
theorem l3Node_bare (k m u g t : Int) (d : ByteArray) (hk : k = 1 ∨ k = 2 ∨ k = 3) (hd : d.size < 4294967281) (w : World) :
    Calls Tryz.prog 176 #[.agg #[.slice none 0 0, .int .i64 0], .agg #[.int .i64 k, .int .i64 m, .int .i64 u, .int .i64 g, .int .i64 t, .string d, .slice none 0 0]] w
      fun e w' => e = .returned (.bool (bareB k m u g t d)) ∧ Below w.heap.size w w' := by
  have hu1 := Tryz.underlying139
  have hu2 := Tryz.underlying169
  have HM := Aside0.mk (fun W => spec_l1Mode.calls m _ W (l1Mode_f m))
  have HU := Aside0.mk (fun W => spec_l1In.calls u 0 99 _ W (l1In_f u 0 99))
  have HG := Aside0.mk (fun W => spec_l1In.calls g 0 99 _ W (l1In_f g 0 99))
  have HT := Aside0.mk (fun W => spec_l1In.calls t 0 1000000 _ W (l1In_f t 0 1000000))
  obtain ⟨kp, hkp⟩ := Ev.rounds (l2Path_ev d hd)
  have HP := Aside0.mk (fun W => spec_l2Path.calls kp d _ W hkp)
  have HE := Aside0.mk l3Entries_nil
  have HD : Aside0 (((d.toList == []) = nilB d) ∧ (d.toList.isEmpty = nilB d)) := ⟨nilB_eq d, by rw [← nilB_eq]; cases d.toList <;> rfl⟩
  have k0 : (k == 0) = false := beq_eq_false_iff_ne.mpr (by omega)
  clear hkp hd
  by_cases h1 : inB 0 511 m = true
  · by_cases h2 : inB 0 99 u = true
    · by_cases h3 : inB 0 99 g = true
      · by_cases h4 : inB 0 1000000 t = true
        · have HF : Aside0 (bareB k m u g t d = if k = 1 then decide (d.size ≤ 60) else if k = 3 then goodPathB d else nilB d) := ⟨by unfold bareB; rw [h1, h2, h3, h4]; rfl⟩
          rw [h1] at HM; rw [h2] at HU; rw [h3] at HG; rw [h4] at HT
          clear h1 h2 h3 h4
          rcases hk with rfl | rfl | rfl
          · rw [HF.out, if_pos rfl]
            clear HF HP HD HE k0
            by_cases hz : d.size ≤ 60
            · have hz1 : decide ((d.size : Int) ≤ 60) = true := by simp; omega
              have hz2 : decide (d.size ≤ 60) = true := by simp; omega
              rw [hz2]
              clear hz hz2
              go_enter Tryz.func176, Tryz.ntmps176
              go_wp2_with fail
              refine (HM.out _).mono ?_; rintro e w1 ⟨rfl, ⟨n1, rfl⟩⟩
              go_wp2_with fail
              refine (HU.out _).mono ?_; rintro e w1 ⟨rfl, ⟨n2, rfl⟩⟩
              go_wp2_with fail
              refine (HG.out _).mono ?_; rintro e w1 ⟨rfl, ⟨n3, rfl⟩⟩
              go_wp2_with fail
              refine (HT.out _).mono ?_; rintro e w1 ⟨rfl, ⟨n4, rfl⟩⟩
              go_wp2
              go_ret
              exact ⟨by first | rfl | (simp; done) | (simp; omega), by repeat (first | exact Below.refl _ _ | apply below_alloc | apply pw_below_drewN | apply below_drew1)⟩
            · have hz1 : decide ((d.size : Int) ≤ 60) = false := by simp; omega
              have hz2 : decide (d.size ≤ 60) = false := by simp; omega
              rw [hz2]
              clear hz hz2
              go_enter Tryz.func176, Tryz.ntmps176
              go_wp2_with fail
              refine (HM.out _).mono ?_; rintro e w1 ⟨rfl, ⟨n1, rfl⟩⟩
              go_wp2_with fail
              refine (HU.out _).mono ?_; rintro e w1 ⟨rfl, ⟨n2, rfl⟩⟩
              go_wp2_with fail
              refine (HG.out _).mono ?_; rintro e w1 ⟨rfl, ⟨n3, rfl⟩⟩
              go_wp2_with fail
              refine (HT.out _).mono ?_; rintro e w1 ⟨rfl, ⟨n4, rfl⟩⟩
              go_wp2
              go_ret
              exact ⟨by first | rfl | (simp; done) | (simp; omega), by repeat (first | exact Below.refl _ _ | apply below_alloc | apply pw_below_drewN | apply below_drew1)⟩
          · rw [HF.out, if_neg (by decide), if_neg (by decide)]
            by_cases hz : nilB d = true
            · have hz1 : d.toList = [] := by have := HD.out.1; rw [hz] at this; simpa using this
              rw [hz]
              clear HF HP HD k0 hz
              go_enter Tryz.func176, Tryz.ntmps176
              go_wp2_with fail
              refine (HM.out _).mono ?_; rintro e w1 ⟨rfl, ⟨n1, rfl⟩⟩
              go_wp2_with fail
              refine (HU.out _).mono ?_; rintro e w1 ⟨rfl, ⟨n2, rfl⟩⟩
              go_wp2_with fail
              refine (HG.out _).mono ?_; rintro e w1 ⟨rfl, ⟨n3, rfl⟩⟩
              go_wp2_with fail
              refine (HT.out _).mono ?_; rintro e w1 ⟨rfl, ⟨n4, rfl⟩⟩
              go_wp2_with fail
              refine (HE.out _).mono ?_; rintro e w1 ⟨rfl, hd⟩
              go_wp2
              go_ret
              exact ⟨by first | rfl | (simp; done), below_step (by repeat (first | exact Below.refl _ _ | apply below_alloc | apply pw_below_drewN | apply below_drew1)) hd⟩
            · have hz' : nilB d = false := by simpa using hz
              have hz1 : ¬ d.toList = [] := by intro e; have := HD.out.1; rw [hz', e] at this; simp at this
              rw [hz']
              clear HF HP HD HE k0 hz hz'
              go_enter Tryz.func176, Tryz.ntmps176
              go_wp2_with fail
              refine (HM.out _).mono ?_; rintro e w1 ⟨rfl, ⟨n1, rfl⟩⟩
              go_wp2_with fail
              refine (HU.out _).mono ?_; rintro e w1 ⟨rfl, ⟨n2, rfl⟩⟩
              go_wp2_with fail
              refine (HG.out _).mono ?_; rintro e w1 ⟨rfl, ⟨n3, rfl⟩⟩
              go_wp2_with fail
              refine (HT.out _).mono ?_; rintro e w1 ⟨rfl, ⟨n4, rfl⟩⟩
              go_wp2
              go_ret
              exact ⟨by first | rfl | (simp; done), by repeat (first | exact Below.refl _ _ | apply below_alloc | apply pw_below_drewN | apply below_drew1)⟩
          · rw [HF.out, if_neg (by decide), if_pos rfl]
            clear HF HD HE k0
            cases hq : goodPathB d
            all_goals
              rw [hq] at HP
              clear hq
              go_enter Tryz.func176, Tryz.ntmps176
              go_wp2_with fail
              refine (HM.out _).mono ?_; rintro e w1 ⟨rfl, ⟨n1, rfl⟩⟩
              go_wp2_with fail
              refine (HU.out _).mono ?_; rintro e w1 ⟨rfl, ⟨n2, rfl⟩⟩
              go_wp2_with fail
              refine (HG.out _).mono ?_; rintro e w1 ⟨rfl, ⟨n3, rfl⟩⟩
              go_wp2_with fail
              refine (HT.out _).mono ?_; rintro e w1 ⟨rfl, ⟨n4, rfl⟩⟩
              go_wp2_with fail
              refine (HP.out _).mono ?_; rintro e w1 ⟨rfl, hd⟩
              have hc := bcell hd
              go_wp2
              go_ret
              exact ⟨by first | rfl | (simp; done), below_step (by repeat (first | exact Below.refl _ _ | apply below_alloc | apply pw_below_drewN | apply below_drew1)) hd⟩
        · have HF : Aside0 (bareB k m u g t d = false) := ⟨by unfold bareB; simp [h1, h2, h3, h4]⟩
          have h' : inB 0 1000000 t = false := by simpa using h4
          rw [h1] at HM
          rw [h2] at HU
          rw [h3] at HG
          rw [h'] at HT
          rw [HF.out]
          clear  HP HD HE hk HF h' h1 h2 h3 h4
          go_enter Tryz.func176, Tryz.ntmps176
          go_wp2_with fail
          refine (HM.out _).mono ?_; rintro e w1 ⟨rfl, ⟨n1, rfl⟩⟩
          go_wp2_with fail
          refine (HU.out _).mono ?_; rintro e w1 ⟨rfl, ⟨n2, rfl⟩⟩
          go_wp2_with fail
          refine (HG.out _).mono ?_; rintro e w1 ⟨rfl, ⟨n3, rfl⟩⟩
          go_wp2_with fail
          refine (HT.out _).mono ?_; rintro e w1 ⟨rfl, ⟨n4, rfl⟩⟩
          go_wp2
          go_ret
          exact ⟨rfl, by repeat (first | exact Below.refl _ _ | apply below_alloc | apply pw_below_drewN | apply below_drew1)⟩
      · have HF : Aside0 (bareB k m u g t d = false) := ⟨by unfold bareB; simp [h1, h2, h3]⟩
        have h' : inB 0 99 g = false := by simpa using h3
        rw [h1] at HM
        rw [h2] at HU
        rw [h'] at HG
        rw [HF.out]
        clear HT HP HD HE hk HF h' h1 h2 h3
        go_enter Tryz.func176, Tryz.ntmps176
        go_wp2_with fail
        refine (HM.out _).mono ?_; rintro e w1 ⟨rfl, ⟨n1, rfl⟩⟩
        go_wp2_with fail
        refine (HU.out _).mono ?_; rintro e w1 ⟨rfl, ⟨n2, rfl⟩⟩
        go_wp2_with fail
        refine (HG.out _).mono ?_; rintro e w1 ⟨rfl, ⟨n3, rfl⟩⟩
        go_wp2
        go_ret
        exact ⟨rfl, by repeat (first | exact Below.refl _ _ | apply below_alloc | apply pw_below_drewN | apply below_drew1)⟩
    · have HF : Aside0 (bareB k m u g t d = false) := ⟨by unfold bareB; simp [h1, h2]⟩
      have h' : inB 0 99 u = false := by simpa using h2
      rw [h1] at HM
      rw [h'] at HU
      rw [HF.out]
      clear HG HT HP HD HE hk HF h' h1 h2
      go_enter Tryz.func176, Tryz.ntmps176
      go_wp2_with fail
      refine (HM.out _).mono ?_; rintro e w1 ⟨rfl, ⟨n1, rfl⟩⟩
      go_wp2_with fail
      refine (HU.out _).mono ?_; rintro e w1 ⟨rfl, ⟨n2, rfl⟩⟩
      go_wp2
      go_ret
      exact ⟨rfl, by repeat (first | exact Below.refl _ _ | apply below_alloc | apply pw_below_drewN | apply below_drew1)⟩
  · have HF : Aside0 (bareB k m u g t d = false) := ⟨by unfold bareB; simp [h1]⟩
    have h' : inB 0 511 m = false := by simpa using h1
    rw [h'] at HM
    rw [HF.out]
    clear HU HG HT HP HD HE hk HF h' h1
    go_enter Tryz.func176, Tryz.ntmps176
    go_wp2_with fail
    refine (HM.out _).mono ?_; rintro e w1 ⟨rfl, ⟨n1, rfl⟩⟩
    go_wp2
    go_ret
    exact ⟨rfl, by repeat (first | exact Below.refl _ _ | apply below_alloc | apply pw_below_drewN | apply below_drew1)⟩
def spec_l17Alone.f (a0_0 : ByteArray) (a0_1 : Int) (a0_2 : Int) (a0_3 : Int) (a0_4 : Int) (a0_5 : Int) (a0_6 : Int) (a0_7 : ByteArray) (a1 : Int) : Option Bool :=
  if a0_7.size < 4294967281 then some (inB 1 3 a0_1 && (inB 0 a1 a0_6 && (if a0_6 < a1 then a0_1 != 2 && (a0_2 == 0 && (a0_3 == 0 && (a0_4 == 0 && (a0_5 == 0 && nilB a0_7)))) else bareB a0_1 a0_2 a0_3 a0_4 a0_5 a0_7))) else none
set_option maxHeartbeats 4000000 in
set_option maxRecDepth 100000 in
theorem spec_l17Alone.calls (a0_0 : ByteArray) (a0_1 : Int) (a0_2 : Int) (a0_3 : Int) (a0_4 : Int) (a0_5 : Int) (a0_6 : Int) (a0_7 : ByteArray) (a1 : Int) (r : Bool) (w : World) (h : spec_l17Alone.f a0_0 a0_1 a0_2 a0_3 a0_4 a0_5 a0_6 a0_7 a1 = some r) :
    Calls Tryz.prog 126 #[.agg #[.string a0_0, .int .i64 a0_1, .int .i64 a0_2, .int .i64 a0_3, .int .i64 a0_4, .int .i64 a0_5, .int .i64 a0_6, .string a0_7], .int .i64 a1] w fun e w' => e = .returned (.bool r) ∧ Below w.heap.size w w' := by
  unfold spec_l17Alone.f at h
  by_cases hsz : a0_7.size < 4294967281
  case neg => rw [if_neg hsz] at h; cases h
  rw [if_pos hsz] at h
  injection h with h
  subst h
  have hu1 := Tryz.underlying139
  have hu2 := Tryz.underlying169
  have hu4 := Tryz.underlying74
  have HW := Aside0.mk (fun W => spec_l1In.calls a0_1 1 3 _ W (l1In_f a0_1 1 3))
  have HS := Aside0.mk (fun W => spec_l1In.calls a0_6 0 a1 _ W (l1In_f a0_6 0 a1))
  by_cases h1 : inB 1 3 a0_1 = true
  · have hk : a0_1 = 1 ∨ a0_1 = 2 ∨ a0_1 = 3 := by unfold inB at h1; simp at h1; omega
    have HN := Aside0.mk (fun W => l3Node_bare a0_1 a0_2 a0_3 a0_4 a0_5 a0_7 hk hsz W)
    rw [h1] at HW ⊢
    rw [Bool.true_and]
    clear h1 hk hsz
    by_cases h2 : inB 0 a1 a0_6 = true
    · rw [h2] at HS ⊢
      rw [Bool.true_and]
      clear h2
      by_cases h3 : a0_6 < a1
      · rw [if_pos h3]
        have h3' : decide (a0_6 < a1) = true := by simpa using h3
        clear h3 HN
        rw [← nilB_eq]
        generalize hq : (a0_1 != 2 && (a0_2 == 0 && (a0_3 == 0 && (a0_4 == 0 && (a0_5 == 0 && (a0_7.toList == [])))))) = q
        have HQ := Aside0.mk hq
        clear hq
        go_enter Tryz.func126, Tryz.ntmps126
        go_wp2_with fail
        refine (HW.out _).mono ?_; rintro e w1 ⟨rfl, ⟨n1, rfl⟩⟩
        go_wp2_with fail
        refine (HS.out _).mono ?_; rintro e w1 ⟨rfl, ⟨n2, rfl⟩⟩
        go_wp2
        all_goals
          go_ret
          refine ⟨?_, by repeat (first | exact Below.refl _ _ | apply below_alloc | apply pw_below_drewN | apply below_drew1)⟩
          rw [← HQ.out]
          simp_all
      · rw [if_neg h3]
        have h3' : decide (a0_6 < a1) = false := by simpa using h3
        clear h3
        generalize bareB a0_1 a0_2 a0_3 a0_4 a0_5 a0_7 = q at HN ⊢
        go_enter Tryz.func126, Tryz.ntmps126
        go_wp2_with fail
        refine (HW.out _).mono ?_; rintro e w1 ⟨rfl, ⟨n1, rfl⟩⟩
        go_wp2_with fail
        refine (HS.out _).mono ?_; rintro e w1 ⟨rfl, ⟨n2, rfl⟩⟩
        go_wp2_with fail
        refine (HN.out _).mono ?_; rintro e w1 ⟨rfl, hd⟩
        go_wp2
        go_ret
        exact ⟨rfl, below_step (by repeat (first | exact Below.refl _ _ | apply below_alloc | apply pw_below_drewN | apply below_drew1)) hd⟩
    · have h2' : inB 0 a1 a0_6 = false := by simpa using h2
      rw [h2'] at HS ⊢
      rw [Bool.false_and]
      clear h2 h2' HN
      go_enter Tryz.func126, Tryz.ntmps126
      go_wp2_with fail
      refine (HW.out _).mono ?_; rintro e w1 ⟨rfl, ⟨n1, rfl⟩⟩
      go_wp2_with fail
      refine (HS.out _).mono ?_; rintro e w1 ⟨rfl, ⟨n2, rfl⟩⟩
      go_wp2
      go_ret
      exact ⟨rfl, by repeat (first | exact Below.refl _ _ | apply below_alloc | apply pw_below_drewN | apply below_drew1)⟩
  · have h1' : inB 1 3 a0_1 = false := by simpa using h1
    rw [h1'] at HW ⊢
    rw [Bool.false_and]
    clear h1 h1' HS hsz
    go_enter Tryz.func126, Tryz.ntmps126
    go_wp2_with fail
    refine (HW.out _).mono ?_; rintro e w1 ⟨rfl, ⟨n1, rfl⟩⟩
    go_wp2
    go_ret
    exact ⟨rfl, by repeat (first | exact Below.refl _ _ | apply below_alloc | apply pw_below_drewN | apply below_drew1)⟩

end Go.Proofs.YthhmkbchdiflcaaGreatDoor.Q

-- Printed by a program of this session (wip/tools/myprint.py) that runs the kit's print, hand-proved functions among the others.
namespace Go.Proofs.YthhmkbchdiflcaaGreatDoor.Q
open Go.RowKit Go.Proofs.YthhmkbchdiflcaaGreatDoorW.PrintWords Go.Proofs.YthhmkbchdiflcaaGreatDoorW.PrintLast Go.Proofs.YthhmkbchdiflcaaGreatDoorW.PrintMore
attribute [local go_sem] max2_int min2_int max_two min_two max_three min_three max_four min_four   -- for this text's walks alone
set_option linter.unusedVariables false
set_option linter.unusedSimpArgs false

/-! ### spec_l17Good: function 56 -/
mutual
def spec_l17Good.j0 : Nat → List (S74) → Bool → Option (Bool)
  | 0, _, _ => none
  | k + 1, x0, x28 => if x28 = true then (some false) else (spec_l17Good.l0 k x0 x0 (x0.length : Int) 0)
def spec_l17Good.l0 : Nat → List (S74) → List (S74) → Int → Int → Option (Bool)
  | 0, _, _, _, _ => none
  | k + 1, x0, x29, x30, x31 => if x31 < x30 then (if 0 ≤ x31 then (if x31 < (x29.length : Int) then ((spec_l17Alone.f ((rd_T74 x29 x31).f0) ((rd_T74 x29 x31).f1) ((rd_T74 x29 x31).f2) ((rd_T74 x29 x31).f3) ((rd_T74 x29 x31).f4) ((rd_T74 x29 x31).f5) ((rd_T74 x29 x31).f6) ((rd_T74 x29 x31).f7) x31).bind fun t194 => (if t194 = true then (if x31 > 0 then (if x31 ≤ (x0.length : Int) then ((spec_l17Next.f k (x0.take (x31 : Int).toNat) ((rd_T74 x29 x31).f0) ((rd_T74 x29 x31).f1) ((rd_T74 x29 x31).f2) ((rd_T74 x29 x31).f3) ((rd_T74 x29 x31).f4) ((rd_T74 x29 x31).f5) ((rd_T74 x29 x31).f6) ((rd_T74 x29 x31).f7)).bind fun t199 => (spec_l17Good.j2 k x0 x29 x30 x31 (!t199) ((rd_T74 x29 x31).f0) ((rd_T74 x29 x31).f1) ((rd_T74 x29 x31).f2) ((rd_T74 x29 x31).f3) ((rd_T74 x29 x31).f4) ((rd_T74 x29 x31).f5) ((rd_T74 x29 x31).f6) ((rd_T74 x29 x31).f7))) else (none)) else (spec_l17Good.j2 k x0 x29 x30 x31 false ((rd_T74 x29 x31).f0) ((rd_T74 x29 x31).f1) ((rd_T74 x29 x31).f2) ((rd_T74 x29 x31).f3) ((rd_T74 x29 x31).f4) ((rd_T74 x29 x31).f5) ((rd_T74 x29 x31).f6) ((rd_T74 x29 x31).f7))) else (spec_l17Good.j2 k x0 x29 x30 x31 true ((rd_T74 x29 x31).f0) ((rd_T74 x29 x31).f1) ((rd_T74 x29 x31).f2) ((rd_T74 x29 x31).f3) ((rd_T74 x29 x31).f4) ((rd_T74 x29 x31).f5) ((rd_T74 x29 x31).f6) ((rd_T74 x29 x31).f7)))) else (none)) else (none)) else (some true)
def spec_l17Good.j2 : Nat → List (S74) → List (S74) → Int → Int → Bool → ByteArray → Int → Int → Int → Int → Int → Int → ByteArray → Option (Bool)
  | 0, _, _, _, _, _, _, _, _, _, _, _, _, _ => none
  | k + 1, x0, x29, x30, x31, x51, x194000, x194001, x194002, x194003, x194004, x194005, x194006, x194007 => if x51 = true then (some false) else (if 0 ≤ x194006 then (if x194006 < (x0.length : Int) then (if ((rd_T74 x0 x194006).f6) = x194006 then (if ((rd_T74 x0 x194006).f1) = x194001 then (spec_l17Good.l0 k x0 x29 x30 (wrap64 (x31 + 1))) else (some false)) else (some false)) else (none)) else (none))
end
def spec_l17Good.f (k : Nat) (l0 : List (S74)) : Option (Bool) := (spec_l1In.f (l0.length : Int) 1 40).bind fun t189 => (if t189 = true then (if 0 < (l0.length : Int) then (if ((rd_T74 l0 0).f0).toList = ([46] : List UInt8) then (if ((rd_T74 l0 0).f1) = 2 then (spec_l17Good.j0 k l0 false) else (spec_l17Good.j0 k l0 (decide ((l0.length : Int) > 1)))) else (spec_l17Good.j0 k l0 true)) else (none)) else (spec_l17Good.j0 k l0 true))
theorem spec_l17Good.mono_l : ∀ k, (∀ y0 y1, LeO (spec_l17Good.j0 k y0 y1) (spec_l17Good.j0 (k + 1) y0 y1)) ∧ (∀ y0 y1 y2 y3, LeO (spec_l17Good.l0 k y0 y1 y2 y3) (spec_l17Good.l0 (k + 1) y0 y1 y2 y3)) ∧ (∀ y0 y1 y2 y3 y4 y5 y6 y7 y8 y9 y10 y11 y12, LeO (spec_l17Good.j2 k y0 y1 y2 y3 y4 y5 y6 y7 y8 y9 y10 y11 y12) (spec_l17Good.j2 (k + 1) y0 y1 y2 y3 y4 y5 y6 y7 y8 y9 y10 y11 y12))
  | 0 => ⟨fun _ _ r h => by simp [spec_l17Good.j0] at h, fun _ _ _ _ r h => by simp [spec_l17Good.l0] at h, fun _ _ _ _ _ _ _ _ _ _ _ _ _ r h => by simp [spec_l17Good.j2] at h⟩
  | k + 1 => by
    obtain ⟨ih0, ih1, ih2⟩ := spec_l17Good.mono_l k
    refine ⟨?_, ?_, ?_⟩
    · intro y0 y1
      unfold spec_l17Good.j0
      repeat' first
      | (with_reducible exact ih0 _ _)
      | (with_reducible exact ih1 _ _ _ _)
      | (with_reducible exact ih2 _ _ _ _ _ _ _ _ _ _ _ _ _)
      | (with_reducible exact spec_l17Next.mono _ _ _ _ _ _ _ _ _ _)
      | (with_reducible exact LeO.refl _)
      | (with_reducible exact LeO.none _)
      | (with_reducible refine LeO.ite ?_ ?_)
      | (with_reducible refine LeO.bind ?_ (fun _ => ?_))
      | exact ih0 _ _
      | exact ih1 _ _ _ _
      | exact ih2 _ _ _ _ _ _ _ _ _ _ _ _ _
      | exact spec_l17Next.mono _ _ _ _ _ _ _ _ _ _
      | exact LeO.none _
      | refine LeO.ite ?_ ?_
      | refine LeO.bind ?_ (fun _ => ?_)
    · intro y0 y1 y2 y3
      unfold spec_l17Good.l0
      repeat' first
      | (with_reducible exact ih0 _ _)
      | (with_reducible exact ih1 _ _ _ _)
      | (with_reducible exact ih2 _ _ _ _ _ _ _ _ _ _ _ _ _)
      | (with_reducible exact spec_l17Next.mono _ _ _ _ _ _ _ _ _ _)
      | (with_reducible exact LeO.refl _)
      | (with_reducible exact LeO.none _)
      | (with_reducible refine LeO.ite ?_ ?_)
      | (with_reducible refine LeO.bind ?_ (fun _ => ?_))
      | exact ih0 _ _
      | exact ih1 _ _ _ _
      | exact ih2 _ _ _ _ _ _ _ _ _ _ _ _ _
      | exact spec_l17Next.mono _ _ _ _ _ _ _ _ _ _
      | exact LeO.none _
      | refine LeO.ite ?_ ?_
      | refine LeO.bind ?_ (fun _ => ?_)
    · intro y0 y1 y2 y3 y4 y5 y6 y7 y8 y9 y10 y11 y12
      unfold spec_l17Good.j2
      repeat' first
      | (with_reducible exact ih0 _ _)
      | (with_reducible exact ih1 _ _ _ _)
      | (with_reducible exact ih2 _ _ _ _ _ _ _ _ _ _ _ _ _)
      | (with_reducible exact spec_l17Next.mono _ _ _ _ _ _ _ _ _ _)
      | (with_reducible exact LeO.refl _)
      | (with_reducible exact LeO.none _)
      | (with_reducible refine LeO.ite ?_ ?_)
      | (with_reducible refine LeO.bind ?_ (fun _ => ?_))
      | exact ih0 _ _
      | exact ih1 _ _ _ _
      | exact ih2 _ _ _ _ _ _ _ _ _ _ _ _ _
      | exact spec_l17Next.mono _ _ _ _ _ _ _ _ _ _
      | exact LeO.none _
      | refine LeO.ite ?_ ?_
      | refine LeO.bind ?_ (fun _ => ?_)
theorem spec_l17Good.mono : ∀ a0 k, LeO (spec_l17Good.f k a0) (spec_l17Good.f (k + 1) a0) := by
  intro a0 k
  obtain ⟨ih0, ih1, ih2⟩ := spec_l17Good.mono_l k
  unfold spec_l17Good.f
  repeat' first
      | (with_reducible exact ih0 _ _)
      | (with_reducible exact ih1 _ _ _ _)
      | (with_reducible exact ih2 _ _ _ _ _ _ _ _ _ _ _ _ _)
      | (with_reducible exact spec_l17Next.mono _ _ _ _ _ _ _ _ _ _)
      | (with_reducible exact LeO.refl _)
      | (with_reducible exact LeO.none _)
      | (with_reducible refine LeO.ite ?_ ?_)
      | (with_reducible refine LeO.bind ?_ (fun _ => ?_))
      | exact ih0 _ _
      | exact ih1 _ _ _ _
      | exact ih2 _ _ _ _ _ _ _ _ _ _ _ _ _
      | exact spec_l17Next.mono _ _ _ _ _ _ _ _ _ _
      | exact LeO.none _
      | refine LeO.ite ?_ ?_
      | refine LeO.bind ?_ (fun _ => ?_)
def spec_l17Good.T6 : Bool × List (List Nat × List Nat) := (true, [([], []), ([], []), ([0, 1], [0, 1]), ([2], [2]), ([3, 2], [3]), ([4], [4]), ([5, 4], [4, 5]), ([6, 4, 4], [4, 6]), ([7], [7]), ([7], [7]), ([8, 9, 7], [7, 8, 9]), ([7], [7]), ([10, 11, 7, 7], [7, 10, 11]), ([12, 7], [7, 12]), ([7, 13, 4], [4, 7, 13]), ([4, 14], [4, 14])])
def spec_l17Good.B6 : List Nat := [0, 0, 3, 7, 15, 31, 63, 127, 255, 255, 1023, 255, 4095, 8191, 16383, 32767]
theorem spec_l17Good.tab6 : rtab .any (opsOf Tryz.f56 6) = spec_l17Good.T6 := by kernel_rfl
theorem spec_l17Good.bits6 : waitsOk spec_l17Good.T6.2 spec_l17Good.B6 = true := by kernel_rfl
set_option maxHeartbeats 8000000 in
set_option maxRecDepth 100000 in
theorem spec_l17Good.calls (k : Nat) (A0 : Option Addr) (c0 : Nat) (l0 : List (S74)) (r : Bool) (w : World) (hr0 : Kd.C k74 w A0 l0.length l0) (hc0 : l0.length ≤ c0) (h : spec_l17Good.f k l0 = some r) :
    Calls Tryz.prog 56 #[.slice A0 l0.length c0] w fun e w' => e = .returned (.bool r) ∧ Below w.heap.size w w' := by
  have hu74 := Tryz.underlying74
  have HR0 := Aside0.mk hr0
  have HC0 := Aside0.mk hc0
  clear hr0 hc0
  have HB := Aside0.mk (Below.refl w.heap.size w)
  have H : ((spec_l1In.f (l0.length : Int) 1 40).bind fun t189 => (if t189 = true then (if 0 < (l0.length : Int) then (if ((rd_T74 l0 0).f0).toList = ([46] : List UInt8) then (if ((rd_T74 l0 0).f1) = 2 then (spec_l17Good.j0 k l0 false) else (spec_l17Good.j0 k l0 (decide ((l0.length : Int) > 1)))) else (spec_l17Good.j0 k l0 true)) else (none)) else (spec_l17Good.j0 k l0 true))) = some r := h
  clear h
  have HC2 := Aside0.mk H
  clear H
  go_enter Tryz.func56, Tryz.ntmps56
  go_upto_region 1 with (fail)
  go_cut [28] (fun v28 wc => ∃ (kq : Nat) (x28_1 : Bool), v28 = .bool x28_1 ∧ Aside0 (spec_l17Good.j0 kq l0 x28_1 = some r) ∧ Aside0 (kq ≤ k) ∧ Aside0 (Below w.heap.size w wc))
  case first =>
    have H := HC2.out
    clear HC2
    replace H := Option.bind_eq_some_iff.mp H
    obtain ⟨t189, A30, H⟩ := H
    replace H : (if t189 = true then (if 0 < (l0.length : Int) then (if ((rd_T74 l0 0).f0).toList = ([46] : List UInt8) then (if ((rd_T74 l0 0).f1) = 2 then (spec_l17Good.j0 k l0 false) else (spec_l17Good.j0 k l0 (decide ((l0.length : Int) > 1)))) else (spec_l17Good.j0 k l0 true)) else (none)) else (spec_l17Good.j0 k l0 true)) = some r := H
    have A3 := Aside0.mk A30
    clear A30
    by_cases c4 : t189 = true
    · subst c4
      have H1 : (if 0 < (l0.length : Int) then (if ((rd_T74 l0 0).f0).toList = ([46] : List UInt8) then (if ((rd_T74 l0 0).f1) = 2 then (spec_l17Good.j0 k l0 false) else (spec_l17Good.j0 k l0 (decide ((l0.length : Int) > 1)))) else (spec_l17Good.j0 k l0 true)) else (none)) = some r := by rw [if_pos rfl] at H; exact H
      clear H
      have H := H1
      clear H1
      by_cases c5 : 0 < (l0.length : Int)
      · rw [if_pos c5] at H
        have c5b0 : decide (0 < (l0.length : Int)) = true := decide_eq_true c5
        have c5b1 : decide (0 < l0.length) = true := decide_eq_true (by omega)
        clear c5
        (first | rw [c5b0] | (simp only [i64_w, i32_w]; rw [c5b0]) | skip)
        by_cases c6 : ((rd_T74 l0 0).f0).toList = ([46] : List UInt8)
        · rw [if_pos c6] at H
          have c6b0 : (((rd_T74 l0 0).f0).toList == ([46] : List UInt8)) = true := beq_iff_eq.mpr c6
          have c6b1 : (((rd_T74 l0 0).f0).toList != ([46] : List UInt8)) = false := bne_eq_false_iff_eq.mpr c6
          clear c6
          by_cases c7 : ((rd_T74 l0 0).f1) = 2
          · rw [if_pos c7] at H
            have c7b0 : (((rd_T74 l0 0).f1) == 2) = true := beq_iff_eq.mpr c7
            have c7b1 : (((rd_T74 l0 0).f1) != 2) = false := bne_eq_false_iff_eq.mpr c7
            clear c7
            have H' := Aside0.mk H
            clear H
            go_wp2_with (first | ((with_reducible refine gate_callee (f := 108) rfl ?_); refine goesL_ (some 8) rfl rfl Tryz.func108 (by kernel_rfl) rfl #[.int .i64 (l0.length : Int), .int .i64 1, .int .i64 40] rfl (by (try simp only [List.map_toArray, List.map_cons, List.map_nil]); first | done | rfl | (simp only [List.length_drop, List.length_take]; rfl)) ?_; (with_reducible refine (spec_l1In.calls (l0.length : Int) 1 40 true _ A3.out).mono ?_); rintro e w' ⟨rfl, ⟨nd, rfl⟩⟩; refine ⟨_, rfl, ?_⟩; have p190 : 0 ≤ (0 : Int) := (by omega); have q190 : 0 < (l0.length : Int) := of_decide_eq_true (by first | (with_reducible assumption) | assumption); obtain ⟨ad190, e190, hx190_0, hx190_1, hx190_2, hx190_3, hx190_4, hx190_5, hx190_6, hx190_7⟩ := at_T74 HR0.out 0 p190 q190; cases e190; have qi190 : (0 < l0.length) = True := eq_true (by omega); (try rw [show ((0 : Int)).toNat = 0 from rfl] at hx190_0); (try rw [show 0 * 8 = 0 from rfl] at hx190_0); (try rw [Addr.add_zero'] at hx190_0); (try rw [show ((0 : Int)).toNat = 0 from rfl] at hx190_1); (try rw [show 0 * 8 = 0 from rfl] at hx190_1); (try rw [Addr.add_zero'] at hx190_1); (try rw [show ((0 : Int)).toNat = 0 from rfl] at hx190_2); (try rw [show 0 * 8 = 0 from rfl] at hx190_2); (try rw [Addr.add_zero'] at hx190_2); (try rw [show ((0 : Int)).toNat = 0 from rfl] at hx190_3); (try rw [show 0 * 8 = 0 from rfl] at hx190_3); (try rw [Addr.add_zero'] at hx190_3); (try rw [show ((0 : Int)).toNat = 0 from rfl] at hx190_4); (try rw [show 0 * 8 = 0 from rfl] at hx190_4); (try rw [Addr.add_zero'] at hx190_4); (try rw [show ((0 : Int)).toNat = 0 from rfl] at hx190_5); (try rw [show 0 * 8 = 0 from rfl] at hx190_5); (try rw [Addr.add_zero'] at hx190_5); (try rw [show ((0 : Int)).toNat = 0 from rfl] at hx190_6); (try rw [show 0 * 8 = 0 from rfl] at hx190_6); (try rw [Addr.add_zero'] at hx190_6); (try rw [show ((0 : Int)).toNat = 0 from rfl] at hx190_7); (try rw [show 0 * 8 = 0 from rfl] at hx190_7); (try rw [Addr.add_zero'] at hx190_7); replace hx190_0 := (HB.out.cell (World.block_lt_of_cell? w _ hx190_0)).trans hx190_0; replace hx190_1 := (HB.out.cell (World.block_lt_of_cell? w _ hx190_1)).trans hx190_1; replace hx190_2 := (HB.out.cell (World.block_lt_of_cell? w _ hx190_2)).trans hx190_2; replace hx190_3 := (HB.out.cell (World.block_lt_of_cell? w _ hx190_3)).trans hx190_3; replace hx190_4 := (HB.out.cell (World.block_lt_of_cell? w _ hx190_4)).trans hx190_4; replace hx190_5 := (HB.out.cell (World.block_lt_of_cell? w _ hx190_5)).trans hx190_5; replace hx190_6 := (HB.out.cell (World.block_lt_of_cell? w _ hx190_6)).trans hx190_6; replace hx190_7 := (HB.out.cell (World.block_lt_of_cell? w _ hx190_7)).trans hx190_7; replace p190 := eq_true p190; replace q190 := eq_true q190; have p191 : 0 ≤ (0 : Int) := (by omega); have q191 : 0 < (l0.length : Int) := of_decide_eq_true (by first | (with_reducible assumption) | assumption); obtain ⟨ad191, e191, hx191_0, hx191_1, hx191_2, hx191_3, hx191_4, hx191_5, hx191_6, hx191_7⟩ := at_T74 HR0.out 0 p191 q191; obtain rfl : ad190 = ad191 := (by injection e191); have qi191 : (0 < l0.length) = True := eq_true (by omega); (try rw [show ((0 : Int)).toNat = 0 from rfl] at hx191_0); (try rw [show 0 * 8 = 0 from rfl] at hx191_0); (try rw [Addr.add_zero'] at hx191_0); (try rw [show ((0 : Int)).toNat = 0 from rfl] at hx191_1); (try rw [show 0 * 8 = 0 from rfl] at hx191_1); (try rw [Addr.add_zero'] at hx191_1); (try rw [show ((0 : Int)).toNat = 0 from rfl] at hx191_2); (try rw [show 0 * 8 = 0 from rfl] at hx191_2); (try rw [Addr.add_zero'] at hx191_2); (try rw [show ((0 : Int)).toNat = 0 from rfl] at hx191_3); (try rw [show 0 * 8 = 0 from rfl] at hx191_3); (try rw [Addr.add_zero'] at hx191_3); (try rw [show ((0 : Int)).toNat = 0 from rfl] at hx191_4); (try rw [show 0 * 8 = 0 from rfl] at hx191_4); (try rw [Addr.add_zero'] at hx191_4); (try rw [show ((0 : Int)).toNat = 0 from rfl] at hx191_5); (try rw [show 0 * 8 = 0 from rfl] at hx191_5); (try rw [Addr.add_zero'] at hx191_5); (try rw [show ((0 : Int)).toNat = 0 from rfl] at hx191_6); (try rw [show 0 * 8 = 0 from rfl] at hx191_6); (try rw [Addr.add_zero'] at hx191_6); (try rw [show ((0 : Int)).toNat = 0 from rfl] at hx191_7); (try rw [show 0 * 8 = 0 from rfl] at hx191_7); (try rw [Addr.add_zero'] at hx191_7); replace hx191_0 := (HB.out.cell (World.block_lt_of_cell? w _ hx191_0)).trans hx191_0; replace hx191_1 := (HB.out.cell (World.block_lt_of_cell? w _ hx191_1)).trans hx191_1; replace hx191_2 := (HB.out.cell (World.block_lt_of_cell? w _ hx191_2)).trans hx191_2; replace hx191_3 := (HB.out.cell (World.block_lt_of_cell? w _ hx191_3)).trans hx191_3; replace hx191_4 := (HB.out.cell (World.block_lt_of_cell? w _ hx191_4)).trans hx191_4; replace hx191_5 := (HB.out.cell (World.block_lt_of_cell? w _ hx191_5)).trans hx191_5; replace hx191_6 := (HB.out.cell (World.block_lt_of_cell? w _ hx191_6)).trans hx191_6; replace hx191_7 := (HB.out.cell (World.block_lt_of_cell? w _ hx191_7)).trans hx191_7; replace p191 := eq_true p191; replace q191 := eq_true q191))
            go_meet
            case rel => exact ⟨_, (false), (by first | rfl | (simp; done) | (simp [*]; done)), H', ⟨by first | omega | exact Nat.le_refl _⟩, ⟨by repeat (first | (with_reducible first | exact HB.out | apply below_alloc | apply pw_below_drewN | apply below_drew1) | exact HB.out)⟩⟩
          · rw [if_neg c7] at H
            have c7b0 : (((rd_T74 l0 0).f1) == 2) = false := beq_eq_false_iff_ne.mpr c7
            have c7b1 : (((rd_T74 l0 0).f1) != 2) = true := bne_iff_ne.mpr c7
            have H' := Aside0.mk H
            clear H
            go_wp2_with (first | ((with_reducible refine gate_callee (f := 108) rfl ?_); refine goesL_ (some 8) rfl rfl Tryz.func108 (by kernel_rfl) rfl #[.int .i64 (l0.length : Int), .int .i64 1, .int .i64 40] rfl (by (try simp only [List.map_toArray, List.map_cons, List.map_nil]); first | done | rfl | (simp only [List.length_drop, List.length_take]; rfl)) ?_; (with_reducible refine (spec_l1In.calls (l0.length : Int) 1 40 true _ A3.out).mono ?_); rintro e w' ⟨rfl, ⟨nd, rfl⟩⟩; refine ⟨_, rfl, ?_⟩; have p190 : 0 ≤ (0 : Int) := (by omega); have q190 : 0 < (l0.length : Int) := of_decide_eq_true (by first | (with_reducible assumption) | assumption); obtain ⟨ad190, e190, hx190_0, hx190_1, hx190_2, hx190_3, hx190_4, hx190_5, hx190_6, hx190_7⟩ := at_T74 HR0.out 0 p190 q190; cases e190; have qi190 : (0 < l0.length) = True := eq_true (by omega); (try rw [show ((0 : Int)).toNat = 0 from rfl] at hx190_0); (try rw [show 0 * 8 = 0 from rfl] at hx190_0); (try rw [Addr.add_zero'] at hx190_0); (try rw [show ((0 : Int)).toNat = 0 from rfl] at hx190_1); (try rw [show 0 * 8 = 0 from rfl] at hx190_1); (try rw [Addr.add_zero'] at hx190_1); (try rw [show ((0 : Int)).toNat = 0 from rfl] at hx190_2); (try rw [show 0 * 8 = 0 from rfl] at hx190_2); (try rw [Addr.add_zero'] at hx190_2); (try rw [show ((0 : Int)).toNat = 0 from rfl] at hx190_3); (try rw [show 0 * 8 = 0 from rfl] at hx190_3); (try rw [Addr.add_zero'] at hx190_3); (try rw [show ((0 : Int)).toNat = 0 from rfl] at hx190_4); (try rw [show 0 * 8 = 0 from rfl] at hx190_4); (try rw [Addr.add_zero'] at hx190_4); (try rw [show ((0 : Int)).toNat = 0 from rfl] at hx190_5); (try rw [show 0 * 8 = 0 from rfl] at hx190_5); (try rw [Addr.add_zero'] at hx190_5); (try rw [show ((0 : Int)).toNat = 0 from rfl] at hx190_6); (try rw [show 0 * 8 = 0 from rfl] at hx190_6); (try rw [Addr.add_zero'] at hx190_6); (try rw [show ((0 : Int)).toNat = 0 from rfl] at hx190_7); (try rw [show 0 * 8 = 0 from rfl] at hx190_7); (try rw [Addr.add_zero'] at hx190_7); replace hx190_0 := (HB.out.cell (World.block_lt_of_cell? w _ hx190_0)).trans hx190_0; replace hx190_1 := (HB.out.cell (World.block_lt_of_cell? w _ hx190_1)).trans hx190_1; replace hx190_2 := (HB.out.cell (World.block_lt_of_cell? w _ hx190_2)).trans hx190_2; replace hx190_3 := (HB.out.cell (World.block_lt_of_cell? w _ hx190_3)).trans hx190_3; replace hx190_4 := (HB.out.cell (World.block_lt_of_cell? w _ hx190_4)).trans hx190_4; replace hx190_5 := (HB.out.cell (World.block_lt_of_cell? w _ hx190_5)).trans hx190_5; replace hx190_6 := (HB.out.cell (World.block_lt_of_cell? w _ hx190_6)).trans hx190_6; replace hx190_7 := (HB.out.cell (World.block_lt_of_cell? w _ hx190_7)).trans hx190_7; replace p190 := eq_true p190; replace q190 := eq_true q190; have p191 : 0 ≤ (0 : Int) := (by omega); have q191 : 0 < (l0.length : Int) := of_decide_eq_true (by first | (with_reducible assumption) | assumption); obtain ⟨ad191, e191, hx191_0, hx191_1, hx191_2, hx191_3, hx191_4, hx191_5, hx191_6, hx191_7⟩ := at_T74 HR0.out 0 p191 q191; obtain rfl : ad190 = ad191 := (by injection e191); have qi191 : (0 < l0.length) = True := eq_true (by omega); (try rw [show ((0 : Int)).toNat = 0 from rfl] at hx191_0); (try rw [show 0 * 8 = 0 from rfl] at hx191_0); (try rw [Addr.add_zero'] at hx191_0); (try rw [show ((0 : Int)).toNat = 0 from rfl] at hx191_1); (try rw [show 0 * 8 = 0 from rfl] at hx191_1); (try rw [Addr.add_zero'] at hx191_1); (try rw [show ((0 : Int)).toNat = 0 from rfl] at hx191_2); (try rw [show 0 * 8 = 0 from rfl] at hx191_2); (try rw [Addr.add_zero'] at hx191_2); (try rw [show ((0 : Int)).toNat = 0 from rfl] at hx191_3); (try rw [show 0 * 8 = 0 from rfl] at hx191_3); (try rw [Addr.add_zero'] at hx191_3); (try rw [show ((0 : Int)).toNat = 0 from rfl] at hx191_4); (try rw [show 0 * 8 = 0 from rfl] at hx191_4); (try rw [Addr.add_zero'] at hx191_4); (try rw [show ((0 : Int)).toNat = 0 from rfl] at hx191_5); (try rw [show 0 * 8 = 0 from rfl] at hx191_5); (try rw [Addr.add_zero'] at hx191_5); (try rw [show ((0 : Int)).toNat = 0 from rfl] at hx191_6); (try rw [show 0 * 8 = 0 from rfl] at hx191_6); (try rw [Addr.add_zero'] at hx191_6); (try rw [show ((0 : Int)).toNat = 0 from rfl] at hx191_7); (try rw [show 0 * 8 = 0 from rfl] at hx191_7); (try rw [Addr.add_zero'] at hx191_7); replace hx191_0 := (HB.out.cell (World.block_lt_of_cell? w _ hx191_0)).trans hx191_0; replace hx191_1 := (HB.out.cell (World.block_lt_of_cell? w _ hx191_1)).trans hx191_1; replace hx191_2 := (HB.out.cell (World.block_lt_of_cell? w _ hx191_2)).trans hx191_2; replace hx191_3 := (HB.out.cell (World.block_lt_of_cell? w _ hx191_3)).trans hx191_3; replace hx191_4 := (HB.out.cell (World.block_lt_of_cell? w _ hx191_4)).trans hx191_4; replace hx191_5 := (HB.out.cell (World.block_lt_of_cell? w _ hx191_5)).trans hx191_5; replace hx191_6 := (HB.out.cell (World.block_lt_of_cell? w _ hx191_6)).trans hx191_6; replace hx191_7 := (HB.out.cell (World.block_lt_of_cell? w _ hx191_7)).trans hx191_7; replace p191 := eq_true p191; replace q191 := eq_true q191))
            go_meet
            case rel => exact ⟨_, (decide ((l0.length : Int) > 1)), (by first | rfl | (simp; done) | (simp [*]; done)), H', ⟨by first | omega | exact Nat.le_refl _⟩, ⟨by repeat (first | (with_reducible first | exact HB.out | apply below_alloc | apply pw_below_drewN | apply below_drew1) | exact HB.out)⟩⟩
        · rw [if_neg c6] at H
          have c6b0 : (((rd_T74 l0 0).f0).toList == ([46] : List UInt8)) = false := beq_eq_false_iff_ne.mpr c6
          have c6b1 : (((rd_T74 l0 0).f0).toList != ([46] : List UInt8)) = true := bne_iff_ne.mpr c6
          have H' := Aside0.mk H
          clear H
          go_wp2_with (first | ((with_reducible refine gate_callee (f := 108) rfl ?_); refine goesL_ (some 8) rfl rfl Tryz.func108 (by kernel_rfl) rfl #[.int .i64 (l0.length : Int), .int .i64 1, .int .i64 40] rfl (by (try simp only [List.map_toArray, List.map_cons, List.map_nil]); first | done | rfl | (simp only [List.length_drop, List.length_take]; rfl)) ?_; (with_reducible refine (spec_l1In.calls (l0.length : Int) 1 40 true _ A3.out).mono ?_); rintro e w' ⟨rfl, ⟨nd, rfl⟩⟩; refine ⟨_, rfl, ?_⟩; have p190 : 0 ≤ (0 : Int) := (by omega); have q190 : 0 < (l0.length : Int) := of_decide_eq_true (by first | (with_reducible assumption) | assumption); obtain ⟨ad190, e190, hx190_0, hx190_1, hx190_2, hx190_3, hx190_4, hx190_5, hx190_6, hx190_7⟩ := at_T74 HR0.out 0 p190 q190; cases e190; have qi190 : (0 < l0.length) = True := eq_true (by omega); (try rw [show ((0 : Int)).toNat = 0 from rfl] at hx190_0); (try rw [show 0 * 8 = 0 from rfl] at hx190_0); (try rw [Addr.add_zero'] at hx190_0); (try rw [show ((0 : Int)).toNat = 0 from rfl] at hx190_1); (try rw [show 0 * 8 = 0 from rfl] at hx190_1); (try rw [Addr.add_zero'] at hx190_1); (try rw [show ((0 : Int)).toNat = 0 from rfl] at hx190_2); (try rw [show 0 * 8 = 0 from rfl] at hx190_2); (try rw [Addr.add_zero'] at hx190_2); (try rw [show ((0 : Int)).toNat = 0 from rfl] at hx190_3); (try rw [show 0 * 8 = 0 from rfl] at hx190_3); (try rw [Addr.add_zero'] at hx190_3); (try rw [show ((0 : Int)).toNat = 0 from rfl] at hx190_4); (try rw [show 0 * 8 = 0 from rfl] at hx190_4); (try rw [Addr.add_zero'] at hx190_4); (try rw [show ((0 : Int)).toNat = 0 from rfl] at hx190_5); (try rw [show 0 * 8 = 0 from rfl] at hx190_5); (try rw [Addr.add_zero'] at hx190_5); (try rw [show ((0 : Int)).toNat = 0 from rfl] at hx190_6); (try rw [show 0 * 8 = 0 from rfl] at hx190_6); (try rw [Addr.add_zero'] at hx190_6); (try rw [show ((0 : Int)).toNat = 0 from rfl] at hx190_7); (try rw [show 0 * 8 = 0 from rfl] at hx190_7); (try rw [Addr.add_zero'] at hx190_7); replace hx190_0 := (HB.out.cell (World.block_lt_of_cell? w _ hx190_0)).trans hx190_0; replace hx190_1 := (HB.out.cell (World.block_lt_of_cell? w _ hx190_1)).trans hx190_1; replace hx190_2 := (HB.out.cell (World.block_lt_of_cell? w _ hx190_2)).trans hx190_2; replace hx190_3 := (HB.out.cell (World.block_lt_of_cell? w _ hx190_3)).trans hx190_3; replace hx190_4 := (HB.out.cell (World.block_lt_of_cell? w _ hx190_4)).trans hx190_4; replace hx190_5 := (HB.out.cell (World.block_lt_of_cell? w _ hx190_5)).trans hx190_5; replace hx190_6 := (HB.out.cell (World.block_lt_of_cell? w _ hx190_6)).trans hx190_6; replace hx190_7 := (HB.out.cell (World.block_lt_of_cell? w _ hx190_7)).trans hx190_7; replace p190 := eq_true p190; replace q190 := eq_true q190))
          go_meet
          case rel => exact ⟨_, (true), (by first | rfl | (simp; done) | (simp [*]; done)), H', ⟨by first | omega | exact Nat.le_refl _⟩, ⟨by repeat (first | (with_reducible first | exact HB.out | apply below_alloc | apply pw_below_drewN | apply below_drew1) | exact HB.out)⟩⟩
      · rw [if_neg c5] at H
        exact absurd H (by simp)
    · replace c4 := Bool.eq_false_iff.mpr c4
      subst c4
      have H1 : (spec_l17Good.j0 k l0 true) = some r := by rw [if_neg (show ¬ (false = true) by decide)] at H; exact H
      clear H
      have H := H1
      clear H1
      have H' := Aside0.mk H
      clear H
      go_wp2_with (first | ((with_reducible refine gate_callee (f := 108) rfl ?_); refine goesL_ (some 8) rfl rfl Tryz.func108 (by kernel_rfl) rfl #[.int .i64 (l0.length : Int), .int .i64 1, .int .i64 40] rfl (by (try simp only [List.map_toArray, List.map_cons, List.map_nil]); first | done | rfl | (simp only [List.length_drop, List.length_take]; rfl)) ?_; (with_reducible refine (spec_l1In.calls (l0.length : Int) 1 40 false _ A3.out).mono ?_); rintro e w' ⟨rfl, ⟨nd, rfl⟩⟩; refine ⟨_, rfl, ?_⟩))
      go_meet
      case rel => exact ⟨_, (true), (by first | rfl | (simp; done) | (simp [*]; done)), H', ⟨by first | omega | exact Nat.le_refl _⟩, ⟨by repeat (first | (with_reducible first | exact HB.out | apply below_alloc | apply pw_below_drewN | apply below_drew1) | exact HB.out)⟩⟩
  case rest =>
    clear HC2
    try clear c1
    try clear p1
    try clear q1
    try clear hx1
    try clear qi1
    try clear p2
    try clear c4
    try clear c5
    try clear c5b0
    try clear c5b1
    try clear c6
    try clear c6b0
    try clear c6b1
    try clear c7
    try clear c7b0
    try clear c7b1
    try clear hx190_0
    try clear hx190_1
    try clear hx190_2
    try clear hx190_3
    try clear hx190_4
    try clear hx190_5
    try clear hx190_6
    try clear hx190_7
    try clear hx191_0
    try clear hx191_1
    try clear hx191_2
    try clear hx191_3
    try clear hx191_4
    try clear hx191_5
    try clear hx191_6
    try clear hx191_7
    try clear p190
    try clear p191
    try clear q190
    try clear q191
    obtain ⟨kq, x28_1, rfl, HA, HJ1, HB⟩ := hcut
    cases kq with
    | zero => exact absurd HA.out (by simp [spec_l17Good.j0])
    | succ kj1 =>
      have H := HA.out
      clear HA
      simp only [spec_l17Good.j0] at H
      by_cases c8 : x28_1 = true
      · subst c8
        have H1 : (some false) = some r := by rw [if_pos rfl] at H; exact H
        clear H
        have H := H1
        clear H1
        obtain rfl := Option.some.inj H
        go_wp2
        go_ret
        exact ⟨by first | rfl | (simp [errW_none, errW_some] <;> rfl) | (simp [*, errW_none, errW_some] <;> rfl), by repeat (first | (with_reducible first | exact HB.out | apply below_alloc | apply pw_below_drewN | apply below_drew1) | exact HB.out)⟩
      · replace c8 := Bool.eq_false_iff.mpr c8
        subst c8
        have H1 : (spec_l17Good.l0 kj1 l0 l0 (l0.length : Int) 0) = some r := by rw [if_neg (show ¬ (false = true) by decide)] at H; exact H
        clear H
        have H := H1
        clear H1
        have H' := Aside0.mk H
        clear H
        go_wp2
        go_loopg [31] kj1 (fun kq v31 w' => ∃ (x31_2 : Int), v31 = .int .i64 x31_2 ∧ Aside0 (spec_l17Good.l0 kq l0 l0 (l0.length : Int) x31_2 = some r) ∧ Aside0 (kq ≤ kj1) ∧ Aside0 (Below w.heap.size w w'))
        case atStart => exact ⟨(0), (by first | rfl | (simp; done) | (simp [*]; done)), H', ⟨Nat.le_refl _⟩, ⟨by repeat (first | (with_reducible first | exact HB.out | apply below_alloc | apply pw_below_drewN | apply below_drew1) | exact HB.out)⟩⟩
        case round =>
          clear H'
          try clear c1
          try clear p1
          try clear q1
          try clear hx1
          try clear qi1
          try clear p2
          try clear c4
          try clear c5
          try clear c5b0
          try clear c5b1
          try clear c6
          try clear c6b0
          try clear c6b1
          try clear c7
          try clear c7b0
          try clear c7b1
          try clear c8
          try clear hx190_0
          try clear hx190_1
          try clear hx190_2
          try clear hx190_3
          try clear hx190_4
          try clear hx190_5
          try clear hx190_6
          try clear hx190_7
          try clear hx191_0
          try clear hx191_1
          try clear hx191_2
          try clear hx191_3
          try clear hx191_4
          try clear hx191_5
          try clear hx191_6
          try clear hx191_7
          try clear p1
          try clear p190
          try clear p191
          try clear p2
          try clear q1
          try clear q190
          try clear q191
          obtain ⟨x31_2, rfl, HA, HK2, HB⟩ := hrel
          cases gk with
          | zero => exact absurd HA.out (by simp [spec_l17Good.l0])
          | succ k2 =>
            have H := HA.out
            clear HA
            simp only [spec_l17Good.l0] at H
            by_cases c9 : x31_2 < (l0.length : Int)
            · rw [if_pos c9] at H
              have c9b0 : decide (x31_2 < (l0.length : Int)) = true := decide_eq_true c9
              clear c9
              by_cases c10 : 0 ≤ x31_2
              · rw [if_pos c10] at H
                have c10b0 : decide (0 ≤ x31_2) = true := decide_eq_true c10
                clear c10
                by_cases c11 : x31_2 < (l0.length : Int)
                · rw [if_pos c11] at H
                  have c11b0 : decide (x31_2 < (l0.length : Int)) = true := decide_eq_true c11
                  clear c11
                  have HC12 := Aside0.mk H
                  clear H
                  have p192 : 0 ≤ (x31_2 : Int) := of_decide_eq_true (by first | (with_reducible assumption) | assumption)
                  have q192 : x31_2 < (l0.length : Int) := of_decide_eq_true (by first | (with_reducible assumption) | assumption)
                  obtain ⟨ad192, e192, hx192_0, hx192_1, hx192_2, hx192_3, hx192_4, hx192_5, hx192_6, hx192_7⟩ := at_T74 HR0.out x31_2 p192 q192
                  cases e192
                  replace hx192_0 := (HB.out.cell (World.block_lt_of_cell? w _ hx192_0)).trans hx192_0
                  replace hx192_1 := (HB.out.cell (World.block_lt_of_cell? w _ hx192_1)).trans hx192_1
                  replace hx192_2 := (HB.out.cell (World.block_lt_of_cell? w _ hx192_2)).trans hx192_2
                  replace hx192_3 := (HB.out.cell (World.block_lt_of_cell? w _ hx192_3)).trans hx192_3
                  replace hx192_4 := (HB.out.cell (World.block_lt_of_cell? w _ hx192_4)).trans hx192_4
                  replace hx192_5 := (HB.out.cell (World.block_lt_of_cell? w _ hx192_5)).trans hx192_5
                  replace hx192_6 := (HB.out.cell (World.block_lt_of_cell? w _ hx192_6)).trans hx192_6
                  replace hx192_7 := (HB.out.cell (World.block_lt_of_cell? w _ hx192_7)).trans hx192_7
                  replace p192 := eq_true p192
                  replace q192 := eq_true q192
                  go_upto_region 6 with (first | ((with_reducible refine gate_dst (N := 4) rfl ?_); (try (refine gate_guard (by rfl) ?_; dsimp only)); refine box_event ?hg (N := 4) ?hd (cs := #[.string (⟨#[]⟩ : ByteArray), .int .i64 0, .int .i64 0, .int .i64 0, .int .i64 0, .int .i64 0, .int .i64 0, .string (⟨#[]⟩ : ByteArray)]) (t := 74) ?hr ?_; (case hd => rfl); (case hg => rfl); (case hr => first | (go_simp; done) | (go_simp; rfl)); intro gb193 hg w13 hbox hb; have n0_ := Aside0.mk (below_step (by repeat (first | (with_reducible first | exact HB.out | apply below_alloc | apply pw_below_drewN | apply below_drew1) | exact HB.out)) hb); have n1_ := Aside0.mk (hbox); have n2_ := Aside0.mk ((by rw [hg]; exact (below_size (by repeat (first | (with_reducible first | exact HB.out | apply below_alloc | apply pw_below_drewN | apply below_drew1) | exact HB.out))) : w.heap.size ≤ gb193)); have n3_ := Aside0.mk ((by rw [hg]; exact (below_size (by repeat (first | (with_reducible first | exact HB.out | apply below_alloc | apply pw_below_drewN | apply below_drew1) | exact HB.out))) : w.heap.size ≤ gb193)); clear HB; have HB := n0_; have BK193 := n1_; have GW193 := n2_; have GE193 := n3_; clear n0_ n1_ n2_ n3_; clear hb hbox hg; have hcz14_0 : w13.cell? ⟨gb193, 0, none⟩ = some (.string (⟨#[]⟩ : ByteArray)) := (blk_cell BK193.out 0).trans rfl; have hcz14_1 : w13.cell? ⟨gb193, 1, none⟩ = some (.int .i64 0) := (blk_cell BK193.out 1).trans rfl; have hcz14_2 : w13.cell? ⟨gb193, 2, none⟩ = some (.int .i64 0) := (blk_cell BK193.out 2).trans rfl; have hcz14_3 : w13.cell? ⟨gb193, 3, none⟩ = some (.int .i64 0) := (blk_cell BK193.out 3).trans rfl; have hcz14_4 : w13.cell? ⟨gb193, 4, none⟩ = some (.int .i64 0) := (blk_cell BK193.out 4).trans rfl; have hcz14_5 : w13.cell? ⟨gb193, 5, none⟩ = some (.int .i64 0) := (blk_cell BK193.out 5).trans rfl; have hcz14_6 : w13.cell? ⟨gb193, 6, none⟩ = some (.int .i64 0) := (blk_cell BK193.out 6).trans rfl; have hcz14_7 : w13.cell? ⟨gb193, 7, none⟩ = some (.string (⟨#[]⟩ : ByteArray)) := (blk_cell BK193.out 7).trans rfl; have hfz14_0 := blk_frozen BK193.out 0; have hfz14_1 := blk_frozen BK193.out 1; have hfz14_2 := blk_frozen BK193.out 2; have hfz14_3 := blk_frozen BK193.out 3; have hfz14_4 := blk_frozen BK193.out 4; have hfz14_5 := blk_frozen BK193.out 5; have hfz14_6 := blk_frozen BK193.out 6; have hfz14_7 := blk_frozen BK193.out 7))
                  (try simp only [Act.put, List.setIfInBounds_toArray, List.set_cons_zero, List.set_cons_succ])
                  go_cut [51] (fun v51 wc => ∃ (kq : Nat) (x51_11 : Bool), v51 = .bool x51_11 ∧ Aside0 (spec_l17Good.j2 kq l0 l0 (l0.length : Int) x31_2 x51_11 ((rd_T74 l0 x31_2).f0) ((rd_T74 l0 x31_2).f1) ((rd_T74 l0 x31_2).f2) ((rd_T74 l0 x31_2).f3) ((rd_T74 l0 x31_2).f4) ((rd_T74 l0 x31_2).f5) ((rd_T74 l0 x31_2).f6) ((rd_T74 l0 x31_2).f7) = some r) ∧ Aside0 (kq ≤ k2) ∧ Aside0 (wc.heap[gb193]? = some (.cells #[.string ((rd_T74 l0 x31_2).f0), .int .i64 ((rd_T74 l0 x31_2).f1), .int .i64 ((rd_T74 l0 x31_2).f2), .int .i64 ((rd_T74 l0 x31_2).f3), .int .i64 ((rd_T74 l0 x31_2).f4), .int .i64 ((rd_T74 l0 x31_2).f5), .int .i64 ((rd_T74 l0 x31_2).f6), .string ((rd_T74 l0 x31_2).f7)] 74 (0, 0))) ∧ Aside0 (Below w.heap.size w wc))
                  case first =>
                    have H := HC12.out
                    clear HC12
                    replace H := Option.bind_eq_some_iff.mp H
                    obtain ⟨t194, A150, H⟩ := H
                    replace H : (if t194 = true then (if x31_2 > 0 then (if x31_2 ≤ (l0.length : Int) then ((spec_l17Next.f k2 (l0.take (x31_2 : Int).toNat) ((rd_T74 l0 x31_2).f0) ((rd_T74 l0 x31_2).f1) ((rd_T74 l0 x31_2).f2) ((rd_T74 l0 x31_2).f3) ((rd_T74 l0 x31_2).f4) ((rd_T74 l0 x31_2).f5) ((rd_T74 l0 x31_2).f6) ((rd_T74 l0 x31_2).f7)).bind fun t199 => (spec_l17Good.j2 k2 l0 l0 (l0.length : Int) x31_2 (!t199) ((rd_T74 l0 x31_2).f0) ((rd_T74 l0 x31_2).f1) ((rd_T74 l0 x31_2).f2) ((rd_T74 l0 x31_2).f3) ((rd_T74 l0 x31_2).f4) ((rd_T74 l0 x31_2).f5) ((rd_T74 l0 x31_2).f6) ((rd_T74 l0 x31_2).f7))) else (none)) else (spec_l17Good.j2 k2 l0 l0 (l0.length : Int) x31_2 false ((rd_T74 l0 x31_2).f0) ((rd_T74 l0 x31_2).f1) ((rd_T74 l0 x31_2).f2) ((rd_T74 l0 x31_2).f3) ((rd_T74 l0 x31_2).f4) ((rd_T74 l0 x31_2).f5) ((rd_T74 l0 x31_2).f6) ((rd_T74 l0 x31_2).f7))) else (spec_l17Good.j2 k2 l0 l0 (l0.length : Int) x31_2 true ((rd_T74 l0 x31_2).f0) ((rd_T74 l0 x31_2).f1) ((rd_T74 l0 x31_2).f2) ((rd_T74 l0 x31_2).f3) ((rd_T74 l0 x31_2).f4) ((rd_T74 l0 x31_2).f5) ((rd_T74 l0 x31_2).f6) ((rd_T74 l0 x31_2).f7))) = some r := H
                    have A15 := Aside0.mk A150
                    clear A150
                    by_cases c16 : t194 = true
                    · subst c16
                      have H1 : (if x31_2 > 0 then (if x31_2 ≤ (l0.length : Int) then ((spec_l17Next.f k2 (l0.take (x31_2 : Int).toNat) ((rd_T74 l0 x31_2).f0) ((rd_T74 l0 x31_2).f1) ((rd_T74 l0 x31_2).f2) ((rd_T74 l0 x31_2).f3) ((rd_T74 l0 x31_2).f4) ((rd_T74 l0 x31_2).f5) ((rd_T74 l0 x31_2).f6) ((rd_T74 l0 x31_2).f7)).bind fun t199 => (spec_l17Good.j2 k2 l0 l0 (l0.length : Int) x31_2 (!t199) ((rd_T74 l0 x31_2).f0) ((rd_T74 l0 x31_2).f1) ((rd_T74 l0 x31_2).f2) ((rd_T74 l0 x31_2).f3) ((rd_T74 l0 x31_2).f4) ((rd_T74 l0 x31_2).f5) ((rd_T74 l0 x31_2).f6) ((rd_T74 l0 x31_2).f7))) else (none)) else (spec_l17Good.j2 k2 l0 l0 (l0.length : Int) x31_2 false ((rd_T74 l0 x31_2).f0) ((rd_T74 l0 x31_2).f1) ((rd_T74 l0 x31_2).f2) ((rd_T74 l0 x31_2).f3) ((rd_T74 l0 x31_2).f4) ((rd_T74 l0 x31_2).f5) ((rd_T74 l0 x31_2).f6) ((rd_T74 l0 x31_2).f7))) = some r := by rw [if_pos rfl] at H; exact H
                      clear H
                      have H := H1
                      clear H1
                      by_cases c17 : x31_2 > 0
                      · rw [if_pos c17] at H
                        have c17b0 : decide (0 < x31_2) = true := decide_eq_true c17
                        clear c17
                        (first | rw [c17b0] | (simp only [i64_w, i32_w]; rw [c17b0]) | skip)
                        have c18b0 := eq_true (of_decide_eq_true (by first | (with_reducible assumption) | assumption) : 0 ≤ x31_2)
                        by_cases c19 : x31_2 ≤ (l0.length : Int)
                        · rw [if_pos c19] at H
                          have c19b0 := eq_true c19
                          have c19b1 : decide (x31_2 ≤ (l0.length : Int)) = true := decide_eq_true c19
                          clear c19
                          obtain ⟨y195, hy195⟩ : ∃ y_ : List (S74), y_ = (l0.take (x31_2 : Int).toNat) := ⟨_, rfl⟩
                          replace H : ((spec_l17Next.f k2 y195 ((rd_T74 l0 x31_2).f0) ((rd_T74 l0 x31_2).f1) ((rd_T74 l0 x31_2).f2) ((rd_T74 l0 x31_2).f3) ((rd_T74 l0 x31_2).f4) ((rd_T74 l0 x31_2).f5) ((rd_T74 l0 x31_2).f6) ((rd_T74 l0 x31_2).f7)).bind fun t199 => (spec_l17Good.j2 k2 l0 l0 (l0.length : Int) x31_2 (!t199) ((rd_T74 l0 x31_2).f0) ((rd_T74 l0 x31_2).f1) ((rd_T74 l0 x31_2).f2) ((rd_T74 l0 x31_2).f3) ((rd_T74 l0 x31_2).f4) ((rd_T74 l0 x31_2).f5) ((rd_T74 l0 x31_2).f6) ((rd_T74 l0 x31_2).f7))) = some r := by first | (rw [hy195]; with_reducible exact H) | (have H2_ := (Option.bind_some _ _).symm.trans H; rw [hy195]; with_reducible exact H2_) | (have H2_ := (Option.bind_some _ _).symm.trans H; with_reducible exact H2_) | with_reducible exact H | (rw [hy195]; exact H) | exact H
                          have Ny195 := Aside0.mk hy195
                          clear hy195
                          replace H := Option.bind_eq_some_iff.mp H
                          obtain ⟨t199, A200, H⟩ := H
                          replace H : (spec_l17Good.j2 k2 l0 l0 (l0.length : Int) x31_2 (!t199) ((rd_T74 l0 x31_2).f0) ((rd_T74 l0 x31_2).f1) ((rd_T74 l0 x31_2).f2) ((rd_T74 l0 x31_2).f3) ((rd_T74 l0 x31_2).f4) ((rd_T74 l0 x31_2).f5) ((rd_T74 l0 x31_2).f6) ((rd_T74 l0 x31_2).f7)) = some r := H
                          have A20 := Aside0.mk A200
                          clear A200
                          have H' := Aside0.mk H
                          clear H
                          try go_wp2
                          have n0_ : Aside0 (((((((((w13.setCell ⟨gb193, 0, none⟩ (.string ((rd_T74 l0 x31_2).f0))).setCell ⟨gb193, 1, none⟩ (.int .i64 ((rd_T74 l0 x31_2).f1))).setCell ⟨gb193, 2, none⟩ (.int .i64 ((rd_T74 l0 x31_2).f2))).setCell ⟨gb193, 3, none⟩ (.int .i64 ((rd_T74 l0 x31_2).f3))).setCell ⟨gb193, 4, none⟩ (.int .i64 ((rd_T74 l0 x31_2).f4))).setCell ⟨gb193, 5, none⟩ (.int .i64 ((rd_T74 l0 x31_2).f5))).setCell ⟨gb193, 6, none⟩ (.int .i64 ((rd_T74 l0 x31_2).f6))).setCell ⟨gb193, 7, none⟩ (.string ((rd_T74 l0 x31_2).f7))).heap[gb193]? = some (.cells #[.string ((rd_T74 l0 x31_2).f0), .int .i64 ((rd_T74 l0 x31_2).f1), .int .i64 ((rd_T74 l0 x31_2).f2), .int .i64 ((rd_T74 l0 x31_2).f3), .int .i64 ((rd_T74 l0 x31_2).f4), .int .i64 ((rd_T74 l0 x31_2).f5), .int .i64 ((rd_T74 l0 x31_2).f6), .string ((rd_T74 l0 x31_2).f7)] 74 (0, 0))) := ⟨by (with_reducible repeat (first | refine blk_drewN ?_ _ | refine blk_drew ?_ | refine blk_alloc ?_ _)); refine blk_put (cs := #[.string ((rd_T74 l0 x31_2).f0), .int .i64 ((rd_T74 l0 x31_2).f1), .int .i64 ((rd_T74 l0 x31_2).f2), .int .i64 ((rd_T74 l0 x31_2).f3), .int .i64 ((rd_T74 l0 x31_2).f4), .int .i64 ((rd_T74 l0 x31_2).f5), .int .i64 ((rd_T74 l0 x31_2).f6), .string (⟨#[]⟩ : ByteArray)]) ?_ 7 _ rfl; (with_reducible repeat (first | refine blk_drewN ?_ _ | refine blk_drew ?_ | refine blk_alloc ?_ _)); refine blk_put (cs := #[.string ((rd_T74 l0 x31_2).f0), .int .i64 ((rd_T74 l0 x31_2).f1), .int .i64 ((rd_T74 l0 x31_2).f2), .int .i64 ((rd_T74 l0 x31_2).f3), .int .i64 ((rd_T74 l0 x31_2).f4), .int .i64 ((rd_T74 l0 x31_2).f5), .int .i64 0, .string (⟨#[]⟩ : ByteArray)]) ?_ 6 _ rfl; (with_reducible repeat (first | refine blk_drewN ?_ _ | refine blk_drew ?_ | refine blk_alloc ?_ _)); refine blk_put (cs := #[.string ((rd_T74 l0 x31_2).f0), .int .i64 ((rd_T74 l0 x31_2).f1), .int .i64 ((rd_T74 l0 x31_2).f2), .int .i64 ((rd_T74 l0 x31_2).f3), .int .i64 ((rd_T74 l0 x31_2).f4), .int .i64 0, .int .i64 0, .string (⟨#[]⟩ : ByteArray)]) ?_ 5 _ rfl; (with_reducible repeat (first | refine blk_drewN ?_ _ | refine blk_drew ?_ | refine blk_alloc ?_ _)); refine blk_put (cs := #[.string ((rd_T74 l0 x31_2).f0), .int .i64 ((rd_T74 l0 x31_2).f1), .int .i64 ((rd_T74 l0 x31_2).f2), .int .i64 ((rd_T74 l0 x31_2).f3), .int .i64 0, .int .i64 0, .int .i64 0, .string (⟨#[]⟩ : ByteArray)]) ?_ 4 _ rfl; (with_reducible repeat (first | refine blk_drewN ?_ _ | refine blk_drew ?_ | refine blk_alloc ?_ _)); refine blk_put (cs := #[.string ((rd_T74 l0 x31_2).f0), .int .i64 ((rd_T74 l0 x31_2).f1), .int .i64 ((rd_T74 l0 x31_2).f2), .int .i64 0, .int .i64 0, .int .i64 0, .int .i64 0, .string (⟨#[]⟩ : ByteArray)]) ?_ 3 _ rfl; (with_reducible repeat (first | refine blk_drewN ?_ _ | refine blk_drew ?_ | refine blk_alloc ?_ _)); refine blk_put (cs := #[.string ((rd_T74 l0 x31_2).f0), .int .i64 ((rd_T74 l0 x31_2).f1), .int .i64 0, .int .i64 0, .int .i64 0, .int .i64 0, .int .i64 0, .string (⟨#[]⟩ : ByteArray)]) ?_ 2 _ rfl; (with_reducible repeat (first | refine blk_drewN ?_ _ | refine blk_drew ?_ | refine blk_alloc ?_ _)); refine blk_put (cs := #[.string ((rd_T74 l0 x31_2).f0), .int .i64 0, .int .i64 0, .int .i64 0, .int .i64 0, .int .i64 0, .int .i64 0, .string (⟨#[]⟩ : ByteArray)]) ?_ 1 _ rfl; (with_reducible repeat (first | refine blk_drewN ?_ _ | refine blk_drew ?_ | refine blk_alloc ?_ _)); refine blk_put (cs := #[.string (⟨#[]⟩ : ByteArray), .int .i64 0, .int .i64 0, .int .i64 0, .int .i64 0, .int .i64 0, .int .i64 0, .string (⟨#[]⟩ : ByteArray)]) ?_ 0 _ rfl; (with_reducible repeat (first | refine blk_drewN ?_ _ | refine blk_drew ?_ | refine blk_alloc ?_ _)); exact BK193.out⟩
                          have n1_ : Aside0 (Below w.heap.size w ((((((((w13.setCell ⟨gb193, 0, none⟩ (.string ((rd_T74 l0 x31_2).f0))).setCell ⟨gb193, 1, none⟩ (.int .i64 ((rd_T74 l0 x31_2).f1))).setCell ⟨gb193, 2, none⟩ (.int .i64 ((rd_T74 l0 x31_2).f2))).setCell ⟨gb193, 3, none⟩ (.int .i64 ((rd_T74 l0 x31_2).f3))).setCell ⟨gb193, 4, none⟩ (.int .i64 ((rd_T74 l0 x31_2).f4))).setCell ⟨gb193, 5, none⟩ (.int .i64 ((rd_T74 l0 x31_2).f5))).setCell ⟨gb193, 6, none⟩ (.int .i64 ((rd_T74 l0 x31_2).f6))).setCell ⟨gb193, 7, none⟩ (.string ((rd_T74 l0 x31_2).f7)))) := ⟨by repeat (first | (with_reducible first | exact HB.out | apply below_alloc | apply pw_below_drewN | apply below_drew1 | refine below_set ?_ GE193.out) | exact HB.out)⟩
                          (try clear BK193)
                          (try clear HB)
                          generalize ((((((((w13.setCell ⟨gb193, 0, none⟩ (.string ((rd_T74 l0 x31_2).f0))).setCell ⟨gb193, 1, none⟩ (.int .i64 ((rd_T74 l0 x31_2).f1))).setCell ⟨gb193, 2, none⟩ (.int .i64 ((rd_T74 l0 x31_2).f2))).setCell ⟨gb193, 3, none⟩ (.int .i64 ((rd_T74 l0 x31_2).f3))).setCell ⟨gb193, 4, none⟩ (.int .i64 ((rd_T74 l0 x31_2).f4))).setCell ⟨gb193, 5, none⟩ (.int .i64 ((rd_T74 l0 x31_2).f5))).setCell ⟨gb193, 6, none⟩ (.int .i64 ((rd_T74 l0 x31_2).f6))).setCell ⟨gb193, 7, none⟩ (.string ((rd_T74 l0 x31_2).f7))) = w21 at n0_ n1_ ⊢
                          have BK193 := n0_
                          have HB := n1_
                          clear n0_ n1_
                          have n0_ := Aside0.mk (blk_drew BK193.out)
                          have n1_ := Aside0.mk (below_drew1 HB.out)
                          clear BK193
                          clear HB
                          have BK193 := n0_
                          have HB := n1_
                          clear n0_ n1_
                          refine start_ (n := 16) (S := fun w' => w'.cell? ⟨gb193, 0, none⟩ = some (.string ((rd_T74 l0 x31_2).f0)) ∧ w'.cell? ⟨gb193, 1, none⟩ = some (.int .i64 ((rd_T74 l0 x31_2).f1)) ∧ w'.cell? ⟨gb193, 2, none⟩ = some (.int .i64 ((rd_T74 l0 x31_2).f2)) ∧ w'.cell? ⟨gb193, 3, none⟩ = some (.int .i64 ((rd_T74 l0 x31_2).f3)) ∧ w'.cell? ⟨gb193, 4, none⟩ = some (.int .i64 ((rd_T74 l0 x31_2).f4)) ∧ w'.cell? ⟨gb193, 5, none⟩ = some (.int .i64 ((rd_T74 l0 x31_2).f5)) ∧ w'.cell? ⟨gb193, 6, none⟩ = some (.int .i64 ((rd_T74 l0 x31_2).f6)) ∧ w'.cell? ⟨gb193, 7, none⟩ = some (.string ((rd_T74 l0 x31_2).f7))) (ds := []) #[false, false, false, false, false, false, false, false, false, false, false, false, false, false, false, false] (by kernel_rfl) rfl rfl ⟨(blk_cell BK193.out 0).trans rfl, (blk_cell BK193.out 1).trans rfl, (blk_cell BK193.out 2).trans rfl, (blk_cell BK193.out 3).trans rfl, (blk_cell BK193.out 4).trans rfl, (blk_cell BK193.out 5).trans rfl, (blk_cell BK193.out 6).trans rfl, (blk_cell BK193.out 7).trans rfl⟩ (fun hHeld => ?_); refine with_tabW spec_l17Good.tab6 spec_l17Good.bits6 (fun HT_ HW_ => ?_)
                          generalize w21.drew = w22 at BK193 HB hHeld ⊢
                          refine pure_ (i := 1) (N := some 37) (v := ?_) (a' := ?_) #[false, true, false, false, false, false, false, false, false, false, false, false, false, false, false, false] rfl rfl (any_of HT_.out (by kernel_rfl)) (fun _ _ _ h => h) (Or.inl ⟨by rfl, ?_⟩) ?_ ?_
                          rotate_left
                          · intro w'
                            go_simp
                            with_reducible rfl
                          rotate_left
                          · simp only [Act.put, List.setIfInBounds_toArray, List.set_cons_zero, List.set_cons_succ, i64_w, i32_w]
                            rfl
                          refine take_ (i := 0) (N := some 36) (v := ?_) (a' := ?_) #[true, true, false, false, false, false, false, false, false, false, false, false, false, false, false, false] rfl rfl (take_ofW HT_.out HW_.out (by kernel_rfl)) (fun _ _ _ h => h) (Or.inl ⟨by rfl, ?_⟩) hHeld ?_ ?_
                          rotate_left
                          · rintro w' ⟨s0, s1, s2, s3, s4, s5, s6, s7⟩
                            go_simp
                            with_reducible rfl
                          rotate_left
                          · simp only [Act.put, List.setIfInBounds_toArray, List.set_cons_zero, List.set_cons_succ, i64_w, i32_w]
                            rfl
                          refine one_ (i := 2) (N := some 38) #[true, true, true, false, false, false, false, false, false, false, false, false, false, false, false, false] rfl rfl (one_of HT_.out (by kernel_rfl)) (by decide) (fun K hK => ?_)
                          refine goes_ Tryz.func126 (by kernel_rfl) rfl #[.agg #[.string ((rd_T74 l0 x31_2).f0), .int .i64 ((rd_T74 l0 x31_2).f1), .int .i64 ((rd_T74 l0 x31_2).f2), .int .i64 ((rd_T74 l0 x31_2).f3), .int .i64 ((rd_T74 l0 x31_2).f4), .int .i64 ((rd_T74 l0 x31_2).f5), .int .i64 ((rd_T74 l0 x31_2).f6), .string ((rd_T74 l0 x31_2).f7)], .int .i64 x31_2] (by rfl) rfl rfl (by (try simp only [List.map_toArray, List.map_cons, List.map_nil]); first | done | rfl | (simp only [List.length_drop, List.length_take]; rfl)) ?_
                          with_reducible refine (spec_l17Alone.calls ((rd_T74 l0 x31_2).f0) ((rd_T74 l0 x31_2).f1) ((rd_T74 l0 x31_2).f2) ((rd_T74 l0 x31_2).f3) ((rd_T74 l0 x31_2).f4) ((rd_T74 l0 x31_2).f5) ((rd_T74 l0 x31_2).f6) ((rd_T74 l0 x31_2).f7) x31_2 true _ A15.out).mono ?_
                          rintro e w23 ⟨rfl, hb⟩
                          refine ⟨_, rfl, ?_⟩
                          have n0_ := Aside0.mk (blk_below (g := gb193) (o := .cells #[.string ((rd_T74 l0 x31_2).f0), .int .i64 ((rd_T74 l0 x31_2).f1), .int .i64 ((rd_T74 l0 x31_2).f2), .int .i64 ((rd_T74 l0 x31_2).f3), .int .i64 ((rd_T74 l0 x31_2).f4), .int .i64 ((rd_T74 l0 x31_2).f5), .int .i64 ((rd_T74 l0 x31_2).f6), .string ((rd_T74 l0 x31_2).f7)] 74 (0, 0)) (by (with_reducible repeat (first | refine blk_drewN ?_ _ | refine blk_drew ?_ | refine blk_alloc ?_ _)); exact BK193.out) hb)
                          have n1_ := Aside0.mk (below_step (by repeat (first | (with_reducible first | exact HB.out | apply below_alloc | apply pw_below_drewN | apply below_drew1 | refine below_set ?_ GE193.out) | exact HB.out)) hb)
                          clear BK193
                          clear HB
                          have BK193 := n0_
                          have HB := n1_
                          clear n0_ n1_
                          (try clear hb)
                          (try clear hb2)
                          (try clear hk)
                          (try clear hi)
                          have q24 : (x31_2 : Int) ≤ ((l0.length : Int) : Int) := of_decide_eq_true (by first | (with_reducible assumption) | assumption)
                          obtain ⟨i024, hi024, _, hsz24, _⟩ := info_parts info74
                          have hroom24 : l0.length ≤ c0 := HC0.out
                          have hC24 : Kd.C k74 _ (some ad192) l0.length l0 := HR0.out
                          have hcut24 := cut_to (P := Tryz.prog) 26 74 .i64 Tryz.underlying26 hi024 (some ad192) l0.length c0 x31_2 (of_decide_eq_true (by first | (with_reducible assumption) | assumption)) q24 hroom24
                          have hr24 := Kd.C_take (m := (x31_2 : Int).toNat) hC24 (by omega)
                          have hy24 : y195.length = (x31_2 : Int).toNat := (by rw [Ny195.out, List.length_take]; omega)
                          rw [← Ny195.out] at hr24
                          rw [← hy24] at hcut24
                          have HR198 := Aside0.mk hr24
                          have HC198 := Aside0.mk (show y195.length ≤ c0 from by omega)
                          clear hr24 hC24 hroom24 hi024 hsz24
                          have KY24 := Aside0.mk hy24
                          clear hy24
                          replace q24 := eq_true q24
                          refine hK.out _ _ ⟨(blk_cell BK193.out 0).trans rfl, (blk_cell BK193.out 1).trans rfl, (blk_cell BK193.out 2).trans rfl, (blk_cell BK193.out 3).trans rfl, (blk_cell BK193.out 4).trans rfl, (blk_cell BK193.out 5).trans rfl, (blk_cell BK193.out 6).trans rfl, (blk_cell BK193.out 7).trans rfl⟩ (fun hHeld => ?_)
                          clear hK K
                          refine norm_ (a' := ?_) ?_ ?_
                          rotate_left
                          · show Act.put _ (some 38) _ = _
                            simp only [Act.put, List.setIfInBounds_toArray, List.set_cons_zero, List.set_cons_succ, i64_w, i32_w]
                            rfl
                          refine pure_ (i := 3) (N := some 39) (v := ?_) (a' := ?_) #[true, true, true, true, false, false, false, false, false, false, false, false, false, false, false, false] rfl rfl (any_of HT_.out (by kernel_rfl)) (fun _ _ _ h => h) (Or.inl ⟨by rfl, ?_⟩) ?_ ?_
                          rotate_left
                          · intro w'
                            go_simp
                            with_reducible rfl
                          rotate_left
                          · simp only [Act.put, List.setIfInBounds_toArray, List.set_cons_zero, List.set_cons_succ, i64_w, i32_w]
                            rfl
                          refine pure_ (i := 4) (N := some 40) (v := ?_) (a' := ?_) #[true, true, true, true, true, false, false, false, false, false, false, false, false, false, false, false] rfl rfl (any_of HT_.out (by kernel_rfl)) (fun _ _ _ h => h) (Or.inl ⟨by rfl, ?_⟩) ?_ ?_
                          rotate_left
                          · intro w'
                            go_simp
                            with_reducible rfl
                          rotate_left
                          · simp only [Act.put, List.setIfInBounds_toArray, List.set_cons_zero, List.set_cons_succ, i64_w, i32_w]
                            rfl
                          refine pure_ (i := 5) (N := some 41) (v := ?_) (a' := ?_) #[true, true, true, true, true, true, false, false, false, false, false, false, false, false, false, false] rfl rfl (any_of HT_.out (by kernel_rfl)) (fun _ _ _ h => h) (Or.inl ⟨by rfl, ?_⟩) ?_ ?_
                          rotate_left
                          · intro w'
                            go_simp
                            with_reducible rfl
                          rotate_left
                          · simp only [Act.put, List.setIfInBounds_toArray, List.set_cons_zero, List.set_cons_succ, i64_w, i32_w]
                            rfl
                          refine pure_ (i := 6) (N := some 42) (v := ?_) (a' := ?_) #[true, true, true, true, true, true, true, false, false, false, false, false, false, false, false, false] rfl rfl (any_of HT_.out (by kernel_rfl)) (fun _ _ _ h => h) (Or.inl ⟨by rfl, ?_⟩) ?_ ?_
                          rotate_left
                          · intro w'
                            go_simp
                            with_reducible rfl
                          rotate_left
                          · simp only [Act.put, List.setIfInBounds_toArray, List.set_cons_zero, List.set_cons_succ, i64_w, i32_w]
                            rfl
                          refine pure_ (i := 7) (N := some 43) (v := ?_) (a' := ?_) #[true, true, true, true, true, true, true, true, false, false, false, false, false, false, false, false] rfl rfl (any_of HT_.out (by kernel_rfl)) (fun _ _ _ h => h) (Or.inl ⟨by rfl, ?_⟩) ?_ ?_
                          rotate_left
                          · intro w'
                            go_simp
                            with_reducible rfl
                          rotate_left
                          · simp only [Act.put, List.setIfInBounds_toArray, List.set_cons_zero, List.set_cons_succ, i64_w, i32_w]
                            rfl
                          refine pure_ (i := 8) (N := some 44) (v := ?_) (a' := ?_) #[true, true, true, true, true, true, true, true, true, false, false, false, false, false, false, false] rfl rfl (any_of HT_.out (by kernel_rfl)) (fun _ _ _ h => h) (Or.inl ⟨by rfl, ?_⟩) ?_ ?_
                          rotate_left
                          · intro w'
                            go_simp
                            with_reducible rfl
                          rotate_left
                          · simp only [Act.put, List.setIfInBounds_toArray, List.set_cons_zero, List.set_cons_succ, i64_w, i32_w]
                            rfl
                          refine pure_ (i := 9) (N := some 45) (v := ?_) (a' := ?_) #[true, true, true, true, true, true, true, true, true, true, false, false, false, false, false, false] rfl rfl (any_of HT_.out (by kernel_rfl)) (fun _ _ _ h => h) (Or.inl ⟨by rfl, ?_⟩) ?_ ?_
                          rotate_left
                          · intro w'
                            go_simp
                            with_reducible rfl
                          rotate_left
                          · simp only [Act.put, List.setIfInBounds_toArray, List.set_cons_zero, List.set_cons_succ, i64_w, i32_w]
                            rfl
                          refine pure_ (i := 10) (N := some 46) (v := ?_) (a' := ?_) #[true, true, true, true, true, true, true, true, true, true, true, false, false, false, false, false] rfl rfl (any_of HT_.out (by kernel_rfl)) (fun _ _ _ h => h) (Or.inl ⟨by rfl, ?_⟩) ?_ ?_
                          rotate_left
                          · intro w'
                            go_simp
                            with_reducible rfl
                          rotate_left
                          · simp only [Act.put, List.setIfInBounds_toArray, List.set_cons_zero, List.set_cons_succ, i64_w, i32_w]
                            rfl
                          refine take_ (i := 11) (N := some 47) (v := ?_) (a' := ?_) #[true, true, true, true, true, true, true, true, true, true, true, true, false, false, false, false] rfl rfl (take_ofW HT_.out HW_.out (by kernel_rfl)) (fun _ _ _ h => h) (Or.inl ⟨by rfl, ?_⟩) hHeld ?_ ?_
                          rotate_left
                          · rintro w' ⟨s0, s1, s2, s3, s4, s5, s6, s7⟩
                            go_simp
                            with_reducible rfl
                          rotate_left
                          · simp only [Act.put, List.setIfInBounds_toArray, List.set_cons_zero, List.set_cons_succ, i64_w, i32_w]
                            rfl
                          refine one_ (i := 12) (N := some 48) #[true, true, true, true, true, true, true, true, true, true, true, true, true, false, false, false] rfl rfl (one_of HT_.out (by kernel_rfl)) (by decide) (fun K hK => ?_)
                          refine goes_ Tryz.func127 (by kernel_rfl) rfl #[.slice (some ad192) y195.length c0, .agg #[.string ((rd_T74 l0 x31_2).f0), .int .i64 ((rd_T74 l0 x31_2).f1), .int .i64 ((rd_T74 l0 x31_2).f2), .int .i64 ((rd_T74 l0 x31_2).f3), .int .i64 ((rd_T74 l0 x31_2).f4), .int .i64 ((rd_T74 l0 x31_2).f5), .int .i64 ((rd_T74 l0 x31_2).f6), .string ((rd_T74 l0 x31_2).f7)]] (by rfl) rfl rfl (by (try simp only [List.map_toArray, List.map_cons, List.map_nil]); first | done | rfl | (simp only [List.length_drop, List.length_take]; rfl)) ?_
                          with_reducible refine (spec_l17Next.calls k2 _ _ y195 ((rd_T74 l0 x31_2).f0) ((rd_T74 l0 x31_2).f1) ((rd_T74 l0 x31_2).f2) ((rd_T74 l0 x31_2).f3) ((rd_T74 l0 x31_2).f4) ((rd_T74 l0 x31_2).f5) ((rd_T74 l0 x31_2).f6) ((rd_T74 l0 x31_2).f7) t199 _ ?side1 ?side2 A20.out).mono ?_
                          (case side1 => repeat (first | exact (Kd.C_below HR198.out HB.out) | (with_reducible refine Kd.C_alloc ?_ _) | (with_reducible refine Kd.C_drewN ?_ _) | (with_reducible refine Kd.C_drew ?_)))
                          (case side2 => exact HC198.out)
                          rintro e w25 ⟨rfl, hb⟩
                          refine ⟨_, rfl, ?_⟩
                          have n0_ := Aside0.mk (blk_below (g := gb193) (o := .cells #[.string ((rd_T74 l0 x31_2).f0), .int .i64 ((rd_T74 l0 x31_2).f1), .int .i64 ((rd_T74 l0 x31_2).f2), .int .i64 ((rd_T74 l0 x31_2).f3), .int .i64 ((rd_T74 l0 x31_2).f4), .int .i64 ((rd_T74 l0 x31_2).f5), .int .i64 ((rd_T74 l0 x31_2).f6), .string ((rd_T74 l0 x31_2).f7)] 74 (0, 0)) (by (with_reducible repeat (first | refine blk_drewN ?_ _ | refine blk_drew ?_ | refine blk_alloc ?_ _)); exact BK193.out) hb)
                          have n1_ := Aside0.mk (below_step (by repeat (first | (with_reducible first | exact HB.out | apply below_alloc | apply pw_below_drewN | apply below_drew1 | refine below_set ?_ GE193.out) | exact HB.out)) hb)
                          clear BK193
                          clear HB
                          have BK193 := n0_
                          have HB := n1_
                          clear n0_ n1_
                          (try clear hb)
                          (try clear hb2)
                          (try clear hk)
                          (try clear hi)
                          refine hK.out _ _ ⟨(blk_cell BK193.out 0).trans rfl, (blk_cell BK193.out 1).trans rfl, (blk_cell BK193.out 2).trans rfl, (blk_cell BK193.out 3).trans rfl, (blk_cell BK193.out 4).trans rfl, (blk_cell BK193.out 5).trans rfl, (blk_cell BK193.out 6).trans rfl, (blk_cell BK193.out 7).trans rfl⟩ (fun hHeld => ?_)
                          clear hK K
                          refine norm_ (a' := ?_) ?_ ?_
                          rotate_left
                          · show Act.put _ (some 48) _ = _
                            simp only [Act.put, List.setIfInBounds_toArray, List.set_cons_zero, List.set_cons_succ, i64_w, i32_w]
                            rfl
                          refine pure_ (i := 13) (N := some 49) (v := ?_) (a' := ?_) #[true, true, true, true, true, true, true, true, true, true, true, true, true, true, false, false] rfl rfl (any_of HT_.out (by kernel_rfl)) (fun _ _ _ h => h) (Or.inl ⟨by rfl, ?_⟩) ?_ ?_
                          rotate_left
                          · intro w'
                            go_simp
                            with_reducible rfl
                          rotate_left
                          · simp only [Act.put, List.setIfInBounds_toArray, List.set_cons_zero, List.set_cons_succ, i64_w, i32_w]
                            rfl
                          refine pure_ (i := 14) (N := some 50) (v := ?_) (a' := ?_) #[true, true, true, true, true, true, true, true, true, true, true, true, true, true, true, false] rfl rfl (any_of HT_.out (by kernel_rfl)) (fun _ _ _ h => h) (Or.inl ⟨by rfl, ?_⟩) ?_ ?_
                          rotate_left
                          · intro w'
                            go_simp
                            with_reducible rfl
                          rotate_left
                          · simp only [Act.put, List.setIfInBounds_toArray, List.set_cons_zero, List.set_cons_succ, i64_w, i32_w]
                            rfl
                          refine pure_ (i := 15) (N := some 51) (v := ?_) (a' := ?_) #[true, true, true, true, true, true, true, true, true, true, true, true, true, true, true, true] rfl rfl (any_of HT_.out (by kernel_rfl)) (fun _ _ _ h => h) (Or.inl ⟨by rfl, ?_⟩) ?_ ?_
                          rotate_left
                          · intro w'
                            go_simp
                            with_reducible rfl
                          rotate_left
                          · simp only [Act.put, List.setIfInBounds_toArray, List.set_cons_zero, List.set_cons_succ, i64_w, i32_w]
                            rfl
                          refine done_ (done_of HT_.out (by kernel_rfl)) ?_
                          try go_wp2
                          go_meet
                          case rel => exact ⟨_, (!t199), (by first | rfl | (simp; done) | (simp [*]; done)), H', ⟨by have := HJ1.out; have := HK2.out; first | omega | exact Nat.le_refl _⟩, ⟨by (with_reducible repeat (first | refine blk_drewN ?_ _ | refine blk_drew ?_ | refine blk_alloc ?_ _)); exact BK193.out⟩, ⟨by repeat (first | (with_reducible first | exact HB.out | apply below_alloc | apply pw_below_drewN | apply below_drew1 | refine below_set ?_ GE193.out) | exact HB.out)⟩⟩
                        · rw [if_neg c19] at H
                          exact absurd H (by simp)
                      · rw [if_neg c17] at H
                        have c17b0 : decide (0 < x31_2) = false := decide_eq_false c17
                        clear c17
                        (first | rw [c17b0] | (simp only [i64_w, i32_w]; rw [c17b0]) | skip)
                        have H' := Aside0.mk H
                        clear H
                        try go_wp2
                        have n0_ : Aside0 (((((((((w13.setCell ⟨gb193, 0, none⟩ (.string ((rd_T74 l0 x31_2).f0))).setCell ⟨gb193, 1, none⟩ (.int .i64 ((rd_T74 l0 x31_2).f1))).setCell ⟨gb193, 2, none⟩ (.int .i64 ((rd_T74 l0 x31_2).f2))).setCell ⟨gb193, 3, none⟩ (.int .i64 ((rd_T74 l0 x31_2).f3))).setCell ⟨gb193, 4, none⟩ (.int .i64 ((rd_T74 l0 x31_2).f4))).setCell ⟨gb193, 5, none⟩ (.int .i64 ((rd_T74 l0 x31_2).f5))).setCell ⟨gb193, 6, none⟩ (.int .i64 ((rd_T74 l0 x31_2).f6))).setCell ⟨gb193, 7, none⟩ (.string ((rd_T74 l0 x31_2).f7))).heap[gb193]? = some (.cells #[.string ((rd_T74 l0 x31_2).f0), .int .i64 ((rd_T74 l0 x31_2).f1), .int .i64 ((rd_T74 l0 x31_2).f2), .int .i64 ((rd_T74 l0 x31_2).f3), .int .i64 ((rd_T74 l0 x31_2).f4), .int .i64 ((rd_T74 l0 x31_2).f5), .int .i64 ((rd_T74 l0 x31_2).f6), .string ((rd_T74 l0 x31_2).f7)] 74 (0, 0))) := ⟨by (with_reducible repeat (first | refine blk_drewN ?_ _ | refine blk_drew ?_ | refine blk_alloc ?_ _)); refine blk_put (cs := #[.string ((rd_T74 l0 x31_2).f0), .int .i64 ((rd_T74 l0 x31_2).f1), .int .i64 ((rd_T74 l0 x31_2).f2), .int .i64 ((rd_T74 l0 x31_2).f3), .int .i64 ((rd_T74 l0 x31_2).f4), .int .i64 ((rd_T74 l0 x31_2).f5), .int .i64 ((rd_T74 l0 x31_2).f6), .string (⟨#[]⟩ : ByteArray)]) ?_ 7 _ rfl; (with_reducible repeat (first | refine blk_drewN ?_ _ | refine blk_drew ?_ | refine blk_alloc ?_ _)); refine blk_put (cs := #[.string ((rd_T74 l0 x31_2).f0), .int .i64 ((rd_T74 l0 x31_2).f1), .int .i64 ((rd_T74 l0 x31_2).f2), .int .i64 ((rd_T74 l0 x31_2).f3), .int .i64 ((rd_T74 l0 x31_2).f4), .int .i64 ((rd_T74 l0 x31_2).f5), .int .i64 0, .string (⟨#[]⟩ : ByteArray)]) ?_ 6 _ rfl; (with_reducible repeat (first | refine blk_drewN ?_ _ | refine blk_drew ?_ | refine blk_alloc ?_ _)); refine blk_put (cs := #[.string ((rd_T74 l0 x31_2).f0), .int .i64 ((rd_T74 l0 x31_2).f1), .int .i64 ((rd_T74 l0 x31_2).f2), .int .i64 ((rd_T74 l0 x31_2).f3), .int .i64 ((rd_T74 l0 x31_2).f4), .int .i64 0, .int .i64 0, .string (⟨#[]⟩ : ByteArray)]) ?_ 5 _ rfl; (with_reducible repeat (first | refine blk_drewN ?_ _ | refine blk_drew ?_ | refine blk_alloc ?_ _)); refine blk_put (cs := #[.string ((rd_T74 l0 x31_2).f0), .int .i64 ((rd_T74 l0 x31_2).f1), .int .i64 ((rd_T74 l0 x31_2).f2), .int .i64 ((rd_T74 l0 x31_2).f3), .int .i64 0, .int .i64 0, .int .i64 0, .string (⟨#[]⟩ : ByteArray)]) ?_ 4 _ rfl; (with_reducible repeat (first | refine blk_drewN ?_ _ | refine blk_drew ?_ | refine blk_alloc ?_ _)); refine blk_put (cs := #[.string ((rd_T74 l0 x31_2).f0), .int .i64 ((rd_T74 l0 x31_2).f1), .int .i64 ((rd_T74 l0 x31_2).f2), .int .i64 0, .int .i64 0, .int .i64 0, .int .i64 0, .string (⟨#[]⟩ : ByteArray)]) ?_ 3 _ rfl; (with_reducible repeat (first | refine blk_drewN ?_ _ | refine blk_drew ?_ | refine blk_alloc ?_ _)); refine blk_put (cs := #[.string ((rd_T74 l0 x31_2).f0), .int .i64 ((rd_T74 l0 x31_2).f1), .int .i64 0, .int .i64 0, .int .i64 0, .int .i64 0, .int .i64 0, .string (⟨#[]⟩ : ByteArray)]) ?_ 2 _ rfl; (with_reducible repeat (first | refine blk_drewN ?_ _ | refine blk_drew ?_ | refine blk_alloc ?_ _)); refine blk_put (cs := #[.string ((rd_T74 l0 x31_2).f0), .int .i64 0, .int .i64 0, .int .i64 0, .int .i64 0, .int .i64 0, .int .i64 0, .string (⟨#[]⟩ : ByteArray)]) ?_ 1 _ rfl; (with_reducible repeat (first | refine blk_drewN ?_ _ | refine blk_drew ?_ | refine blk_alloc ?_ _)); refine blk_put (cs := #[.string (⟨#[]⟩ : ByteArray), .int .i64 0, .int .i64 0, .int .i64 0, .int .i64 0, .int .i64 0, .int .i64 0, .string (⟨#[]⟩ : ByteArray)]) ?_ 0 _ rfl; (with_reducible repeat (first | refine blk_drewN ?_ _ | refine blk_drew ?_ | refine blk_alloc ?_ _)); exact BK193.out⟩
                        have n1_ : Aside0 (Below w.heap.size w ((((((((w13.setCell ⟨gb193, 0, none⟩ (.string ((rd_T74 l0 x31_2).f0))).setCell ⟨gb193, 1, none⟩ (.int .i64 ((rd_T74 l0 x31_2).f1))).setCell ⟨gb193, 2, none⟩ (.int .i64 ((rd_T74 l0 x31_2).f2))).setCell ⟨gb193, 3, none⟩ (.int .i64 ((rd_T74 l0 x31_2).f3))).setCell ⟨gb193, 4, none⟩ (.int .i64 ((rd_T74 l0 x31_2).f4))).setCell ⟨gb193, 5, none⟩ (.int .i64 ((rd_T74 l0 x31_2).f5))).setCell ⟨gb193, 6, none⟩ (.int .i64 ((rd_T74 l0 x31_2).f6))).setCell ⟨gb193, 7, none⟩ (.string ((rd_T74 l0 x31_2).f7)))) := ⟨by repeat (first | (with_reducible first | exact HB.out | apply below_alloc | apply pw_below_drewN | apply below_drew1 | refine below_set ?_ GE193.out) | exact HB.out)⟩
                        (try clear BK193)
                        (try clear HB)
                        generalize ((((((((w13.setCell ⟨gb193, 0, none⟩ (.string ((rd_T74 l0 x31_2).f0))).setCell ⟨gb193, 1, none⟩ (.int .i64 ((rd_T74 l0 x31_2).f1))).setCell ⟨gb193, 2, none⟩ (.int .i64 ((rd_T74 l0 x31_2).f2))).setCell ⟨gb193, 3, none⟩ (.int .i64 ((rd_T74 l0 x31_2).f3))).setCell ⟨gb193, 4, none⟩ (.int .i64 ((rd_T74 l0 x31_2).f4))).setCell ⟨gb193, 5, none⟩ (.int .i64 ((rd_T74 l0 x31_2).f5))).setCell ⟨gb193, 6, none⟩ (.int .i64 ((rd_T74 l0 x31_2).f6))).setCell ⟨gb193, 7, none⟩ (.string ((rd_T74 l0 x31_2).f7))) = w26 at n0_ n1_ ⊢
                        have BK193 := n0_
                        have HB := n1_
                        clear n0_ n1_
                        have n0_ := Aside0.mk (blk_drew BK193.out)
                        have n1_ := Aside0.mk (below_drew1 HB.out)
                        clear BK193
                        clear HB
                        have BK193 := n0_
                        have HB := n1_
                        clear n0_ n1_
                        refine start_ (n := 16) (S := fun w' => w'.cell? ⟨gb193, 0, none⟩ = some (.string ((rd_T74 l0 x31_2).f0)) ∧ w'.cell? ⟨gb193, 1, none⟩ = some (.int .i64 ((rd_T74 l0 x31_2).f1)) ∧ w'.cell? ⟨gb193, 2, none⟩ = some (.int .i64 ((rd_T74 l0 x31_2).f2)) ∧ w'.cell? ⟨gb193, 3, none⟩ = some (.int .i64 ((rd_T74 l0 x31_2).f3)) ∧ w'.cell? ⟨gb193, 4, none⟩ = some (.int .i64 ((rd_T74 l0 x31_2).f4)) ∧ w'.cell? ⟨gb193, 5, none⟩ = some (.int .i64 ((rd_T74 l0 x31_2).f5)) ∧ w'.cell? ⟨gb193, 6, none⟩ = some (.int .i64 ((rd_T74 l0 x31_2).f6)) ∧ w'.cell? ⟨gb193, 7, none⟩ = some (.string ((rd_T74 l0 x31_2).f7))) (ds := []) #[false, false, false, false, false, false, false, false, false, false, false, false, false, false, false, false] (by kernel_rfl) rfl rfl ⟨(blk_cell BK193.out 0).trans rfl, (blk_cell BK193.out 1).trans rfl, (blk_cell BK193.out 2).trans rfl, (blk_cell BK193.out 3).trans rfl, (blk_cell BK193.out 4).trans rfl, (blk_cell BK193.out 5).trans rfl, (blk_cell BK193.out 6).trans rfl, (blk_cell BK193.out 7).trans rfl⟩ (fun hHeld => ?_); refine with_tabW spec_l17Good.tab6 spec_l17Good.bits6 (fun HT_ HW_ => ?_)
                        generalize w26.drew = w27 at BK193 HB hHeld ⊢
                        refine pure_ (i := 1) (N := some 37) (v := ?_) (a' := ?_) #[false, true, false, false, false, false, false, false, false, false, false, false, false, false, false, false] rfl rfl (any_of HT_.out (by kernel_rfl)) (fun _ _ _ h => h) (Or.inl ⟨by rfl, ?_⟩) ?_ ?_
                        rotate_left
                        · intro w'
                          go_simp
                          with_reducible rfl
                        rotate_left
                        · simp only [Act.put, List.setIfInBounds_toArray, List.set_cons_zero, List.set_cons_succ, i64_w, i32_w]
                          rfl
                        refine take_ (i := 0) (N := some 36) (v := ?_) (a' := ?_) #[true, true, false, false, false, false, false, false, false, false, false, false, false, false, false, false] rfl rfl (take_ofW HT_.out HW_.out (by kernel_rfl)) (fun _ _ _ h => h) (Or.inl ⟨by rfl, ?_⟩) hHeld ?_ ?_
                        rotate_left
                        · rintro w' ⟨s0, s1, s2, s3, s4, s5, s6, s7⟩
                          go_simp
                          with_reducible rfl
                        rotate_left
                        · simp only [Act.put, List.setIfInBounds_toArray, List.set_cons_zero, List.set_cons_succ, i64_w, i32_w]
                          rfl
                        refine one_ (i := 2) (N := some 38) #[true, true, true, false, false, false, false, false, false, false, false, false, false, false, false, false] rfl rfl (one_of HT_.out (by kernel_rfl)) (by decide) (fun K hK => ?_)
                        refine goes_ Tryz.func126 (by kernel_rfl) rfl #[.agg #[.string ((rd_T74 l0 x31_2).f0), .int .i64 ((rd_T74 l0 x31_2).f1), .int .i64 ((rd_T74 l0 x31_2).f2), .int .i64 ((rd_T74 l0 x31_2).f3), .int .i64 ((rd_T74 l0 x31_2).f4), .int .i64 ((rd_T74 l0 x31_2).f5), .int .i64 ((rd_T74 l0 x31_2).f6), .string ((rd_T74 l0 x31_2).f7)], .int .i64 x31_2] (by rfl) rfl rfl (by (try simp only [List.map_toArray, List.map_cons, List.map_nil]); first | done | rfl | (simp only [List.length_drop, List.length_take]; rfl)) ?_
                        with_reducible refine (spec_l17Alone.calls ((rd_T74 l0 x31_2).f0) ((rd_T74 l0 x31_2).f1) ((rd_T74 l0 x31_2).f2) ((rd_T74 l0 x31_2).f3) ((rd_T74 l0 x31_2).f4) ((rd_T74 l0 x31_2).f5) ((rd_T74 l0 x31_2).f6) ((rd_T74 l0 x31_2).f7) x31_2 true _ A15.out).mono ?_
                        rintro e w28 ⟨rfl, hb⟩
                        refine ⟨_, rfl, ?_⟩
                        have n0_ := Aside0.mk (blk_below (g := gb193) (o := .cells #[.string ((rd_T74 l0 x31_2).f0), .int .i64 ((rd_T74 l0 x31_2).f1), .int .i64 ((rd_T74 l0 x31_2).f2), .int .i64 ((rd_T74 l0 x31_2).f3), .int .i64 ((rd_T74 l0 x31_2).f4), .int .i64 ((rd_T74 l0 x31_2).f5), .int .i64 ((rd_T74 l0 x31_2).f6), .string ((rd_T74 l0 x31_2).f7)] 74 (0, 0)) (by (with_reducible repeat (first | refine blk_drewN ?_ _ | refine blk_drew ?_ | refine blk_alloc ?_ _)); exact BK193.out) hb)
                        have n1_ := Aside0.mk (below_step (by repeat (first | (with_reducible first | exact HB.out | apply below_alloc | apply pw_below_drewN | apply below_drew1 | refine below_set ?_ GE193.out) | exact HB.out)) hb)
                        clear BK193
                        clear HB
                        have BK193 := n0_
                        have HB := n1_
                        clear n0_ n1_
                        (try clear hb)
                        (try clear hb2)
                        (try clear hk)
                        (try clear hi)
                        refine hK.out _ _ ⟨(blk_cell BK193.out 0).trans rfl, (blk_cell BK193.out 1).trans rfl, (blk_cell BK193.out 2).trans rfl, (blk_cell BK193.out 3).trans rfl, (blk_cell BK193.out 4).trans rfl, (blk_cell BK193.out 5).trans rfl, (blk_cell BK193.out 6).trans rfl, (blk_cell BK193.out 7).trans rfl⟩ (fun hHeld => ?_)
                        clear hK K
                        refine norm_ (a' := ?_) ?_ ?_
                        rotate_left
                        · show Act.put _ (some 38) _ = _
                          simp only [Act.put, List.setIfInBounds_toArray, List.set_cons_zero, List.set_cons_succ, i64_w, i32_w]
                          rfl
                        refine pure_ (i := 3) (N := some 39) (v := ?_) (a' := ?_) #[true, true, true, true, false, false, false, false, false, false, false, false, false, false, false, false] rfl rfl (any_of HT_.out (by kernel_rfl)) (fun _ _ _ h => h) (Or.inl ⟨by rfl, ?_⟩) ?_ ?_
                        rotate_left
                        · intro w'
                          go_simp
                          with_reducible rfl
                        rotate_left
                        · simp only [Act.put, List.setIfInBounds_toArray, List.set_cons_zero, List.set_cons_succ, i64_w, i32_w]
                          rfl
                        refine pure_ (i := 4) (N := some 40) (v := ?_) (a' := ?_) #[true, true, true, true, true, false, false, false, false, false, false, false, false, false, false, false] rfl rfl (any_of HT_.out (by kernel_rfl)) (fun _ _ _ h => h) (Or.inl ⟨by rfl, ?_⟩) ?_ ?_
                        rotate_left
                        · intro w'
                          go_simp
                          with_reducible rfl
                        rotate_left
                        · simp only [Act.put, List.setIfInBounds_toArray, List.set_cons_zero, List.set_cons_succ, i64_w, i32_w]
                          rfl
                        refine pure_ (i := 5) (N := some 41) (v := ?_) (a' := ?_) #[true, true, true, true, true, true, false, false, false, false, false, false, false, false, false, false] rfl rfl (any_of HT_.out (by kernel_rfl)) (fun _ _ _ h => h) (Or.inl ⟨by rfl, ?_⟩) ?_ ?_
                        rotate_left
                        · intro w'
                          go_simp
                          with_reducible rfl
                        rotate_left
                        · simp only [Act.put, List.setIfInBounds_toArray, List.set_cons_zero, List.set_cons_succ, i64_w, i32_w]
                          rfl
                        refine pure_ (i := 6) (N := some 42) (v := ?_) (a' := ?_) #[true, true, true, true, true, true, true, false, false, false, false, false, false, false, false, false] rfl rfl (any_of HT_.out (by kernel_rfl)) (fun _ _ _ h => h) (Or.inl ⟨by rfl, ?_⟩) ?_ ?_
                        rotate_left
                        · intro w'
                          go_simp
                          with_reducible rfl
                        rotate_left
                        · simp only [Act.put, List.setIfInBounds_toArray, List.set_cons_zero, List.set_cons_succ, i64_w, i32_w]
                          rfl
                        refine pure_ (i := 7) (N := some 43) (v := ?_) (a' := ?_) #[true, true, true, true, true, true, true, true, false, false, false, false, false, false, false, false] rfl rfl (any_of HT_.out (by kernel_rfl)) (fun _ _ _ h => h) (Or.inl ⟨by rfl, ?_⟩) ?_ ?_
                        rotate_left
                        · intro w'
                          go_simp
                          with_reducible rfl
                        rotate_left
                        · simp only [Act.put, List.setIfInBounds_toArray, List.set_cons_zero, List.set_cons_succ, i64_w, i32_w]
                          rfl
                        refine pure_ (i := 8) (N := some 44) (v := undef) (a' := ?_) #[true, true, true, true, true, true, true, true, true, false, false, false, false, false, false, false] rfl rfl (any_of HT_.out (by kernel_rfl)) (fun _ _ _ h => h) (Or.inr ⟨by rfl, rfl⟩) ?_ ?_
                        rotate_left
                        · simp only [Act.put, List.setIfInBounds_toArray, List.set_cons_zero, List.set_cons_succ, i64_w, i32_w]
                          rfl
                        refine pure_ (i := 9) (N := some 45) (v := undef) (a' := ?_) #[true, true, true, true, true, true, true, true, true, true, false, false, false, false, false, false] rfl rfl (any_of HT_.out (by kernel_rfl)) (fun _ _ _ h => h) (Or.inr ⟨by rfl, rfl⟩) ?_ ?_
                        rotate_left
                        · simp only [Act.put, List.setIfInBounds_toArray, List.set_cons_zero, List.set_cons_succ, i64_w, i32_w]
                          rfl
                        refine pure_ (i := 10) (N := some 46) (v := undef) (a' := ?_) #[true, true, true, true, true, true, true, true, true, true, true, false, false, false, false, false] rfl rfl (any_of HT_.out (by kernel_rfl)) (fun _ _ _ h => h) (Or.inr ⟨by rfl, rfl⟩) ?_ ?_
                        rotate_left
                        · simp only [Act.put, List.setIfInBounds_toArray, List.set_cons_zero, List.set_cons_succ, i64_w, i32_w]
                          rfl
                        refine pure_ (i := 11) (N := some 47) (v := undef) (a' := ?_) #[true, true, true, true, true, true, true, true, true, true, true, true, false, false, false, false] rfl rfl (any_of HT_.out (by kernel_rfl)) (fun _ _ _ h => h) (Or.inr ⟨by rfl, rfl⟩) ?_ ?_
                        rotate_left
                        · simp only [Act.put, List.setIfInBounds_toArray, List.set_cons_zero, List.set_cons_succ, i64_w, i32_w]
                          rfl
                        refine pure_ (i := 12) (N := some 48) (v := undef) (a' := ?_) #[true, true, true, true, true, true, true, true, true, true, true, true, true, false, false, false] rfl rfl (any_of HT_.out (by kernel_rfl)) (fun _ _ _ h => h) (Or.inr ⟨by rfl, rfl⟩) ?_ ?_
                        rotate_left
                        · simp only [Act.put, List.setIfInBounds_toArray, List.set_cons_zero, List.set_cons_succ, i64_w, i32_w]
                          rfl
                        refine pure_ (i := 13) (N := some 49) (v := undef) (a' := ?_) #[true, true, true, true, true, true, true, true, true, true, true, true, true, true, false, false] rfl rfl (any_of HT_.out (by kernel_rfl)) (fun _ _ _ h => h) (Or.inr ⟨by rfl, rfl⟩) ?_ ?_
                        rotate_left
                        · simp only [Act.put, List.setIfInBounds_toArray, List.set_cons_zero, List.set_cons_succ, i64_w, i32_w]
                          rfl
                        refine pure_ (i := 14) (N := some 50) (v := ?_) (a' := ?_) #[true, true, true, true, true, true, true, true, true, true, true, true, true, true, true, false] rfl rfl (any_of HT_.out (by kernel_rfl)) (fun _ _ _ h => h) (Or.inl ⟨by rfl, ?_⟩) ?_ ?_
                        rotate_left
                        · intro w'
                          go_simp
                          with_reducible rfl
                        rotate_left
                        · simp only [Act.put, List.setIfInBounds_toArray, List.set_cons_zero, List.set_cons_succ, i64_w, i32_w]
                          rfl
                        refine pure_ (i := 15) (N := some 51) (v := ?_) (a' := ?_) #[true, true, true, true, true, true, true, true, true, true, true, true, true, true, true, true] rfl rfl (any_of HT_.out (by kernel_rfl)) (fun _ _ _ h => h) (Or.inl ⟨by rfl, ?_⟩) ?_ ?_
                        rotate_left
                        · intro w'
                          go_simp
                          with_reducible rfl
                        rotate_left
                        · simp only [Act.put, List.setIfInBounds_toArray, List.set_cons_zero, List.set_cons_succ, i64_w, i32_w]
                          rfl
                        refine done_ (done_of HT_.out (by kernel_rfl)) ?_
                        try go_wp2
                        go_meet
                        case rel => exact ⟨_, (false), (by first | rfl | (simp; done) | (simp [*]; done)), H', ⟨by have := HJ1.out; have := HK2.out; first | omega | exact Nat.le_refl _⟩, ⟨by (with_reducible repeat (first | refine blk_drewN ?_ _ | refine blk_drew ?_ | refine blk_alloc ?_ _)); exact BK193.out⟩, ⟨by repeat (first | (with_reducible first | exact HB.out | apply below_alloc | apply pw_below_drewN | apply below_drew1 | refine below_set ?_ GE193.out) | exact HB.out)⟩⟩
                    · replace c16 := Bool.eq_false_iff.mpr c16
                      subst c16
                      have H1 : (spec_l17Good.j2 k2 l0 l0 (l0.length : Int) x31_2 true ((rd_T74 l0 x31_2).f0) ((rd_T74 l0 x31_2).f1) ((rd_T74 l0 x31_2).f2) ((rd_T74 l0 x31_2).f3) ((rd_T74 l0 x31_2).f4) ((rd_T74 l0 x31_2).f5) ((rd_T74 l0 x31_2).f6) ((rd_T74 l0 x31_2).f7)) = some r := by rw [if_neg (show ¬ (false = true) by decide)] at H; exact H
                      clear H
                      have H := H1
                      clear H1
                      have H' := Aside0.mk H
                      clear H
                      try go_wp2
                      have n0_ : Aside0 (((((((((w13.setCell ⟨gb193, 0, none⟩ (.string ((rd_T74 l0 x31_2).f0))).setCell ⟨gb193, 1, none⟩ (.int .i64 ((rd_T74 l0 x31_2).f1))).setCell ⟨gb193, 2, none⟩ (.int .i64 ((rd_T74 l0 x31_2).f2))).setCell ⟨gb193, 3, none⟩ (.int .i64 ((rd_T74 l0 x31_2).f3))).setCell ⟨gb193, 4, none⟩ (.int .i64 ((rd_T74 l0 x31_2).f4))).setCell ⟨gb193, 5, none⟩ (.int .i64 ((rd_T74 l0 x31_2).f5))).setCell ⟨gb193, 6, none⟩ (.int .i64 ((rd_T74 l0 x31_2).f6))).setCell ⟨gb193, 7, none⟩ (.string ((rd_T74 l0 x31_2).f7))).heap[gb193]? = some (.cells #[.string ((rd_T74 l0 x31_2).f0), .int .i64 ((rd_T74 l0 x31_2).f1), .int .i64 ((rd_T74 l0 x31_2).f2), .int .i64 ((rd_T74 l0 x31_2).f3), .int .i64 ((rd_T74 l0 x31_2).f4), .int .i64 ((rd_T74 l0 x31_2).f5), .int .i64 ((rd_T74 l0 x31_2).f6), .string ((rd_T74 l0 x31_2).f7)] 74 (0, 0))) := ⟨by (with_reducible repeat (first | refine blk_drewN ?_ _ | refine blk_drew ?_ | refine blk_alloc ?_ _)); refine blk_put (cs := #[.string ((rd_T74 l0 x31_2).f0), .int .i64 ((rd_T74 l0 x31_2).f1), .int .i64 ((rd_T74 l0 x31_2).f2), .int .i64 ((rd_T74 l0 x31_2).f3), .int .i64 ((rd_T74 l0 x31_2).f4), .int .i64 ((rd_T74 l0 x31_2).f5), .int .i64 ((rd_T74 l0 x31_2).f6), .string (⟨#[]⟩ : ByteArray)]) ?_ 7 _ rfl; (with_reducible repeat (first | refine blk_drewN ?_ _ | refine blk_drew ?_ | refine blk_alloc ?_ _)); refine blk_put (cs := #[.string ((rd_T74 l0 x31_2).f0), .int .i64 ((rd_T74 l0 x31_2).f1), .int .i64 ((rd_T74 l0 x31_2).f2), .int .i64 ((rd_T74 l0 x31_2).f3), .int .i64 ((rd_T74 l0 x31_2).f4), .int .i64 ((rd_T74 l0 x31_2).f5), .int .i64 0, .string (⟨#[]⟩ : ByteArray)]) ?_ 6 _ rfl; (with_reducible repeat (first | refine blk_drewN ?_ _ | refine blk_drew ?_ | refine blk_alloc ?_ _)); refine blk_put (cs := #[.string ((rd_T74 l0 x31_2).f0), .int .i64 ((rd_T74 l0 x31_2).f1), .int .i64 ((rd_T74 l0 x31_2).f2), .int .i64 ((rd_T74 l0 x31_2).f3), .int .i64 ((rd_T74 l0 x31_2).f4), .int .i64 0, .int .i64 0, .string (⟨#[]⟩ : ByteArray)]) ?_ 5 _ rfl; (with_reducible repeat (first | refine blk_drewN ?_ _ | refine blk_drew ?_ | refine blk_alloc ?_ _)); refine blk_put (cs := #[.string ((rd_T74 l0 x31_2).f0), .int .i64 ((rd_T74 l0 x31_2).f1), .int .i64 ((rd_T74 l0 x31_2).f2), .int .i64 ((rd_T74 l0 x31_2).f3), .int .i64 0, .int .i64 0, .int .i64 0, .string (⟨#[]⟩ : ByteArray)]) ?_ 4 _ rfl; (with_reducible repeat (first | refine blk_drewN ?_ _ | refine blk_drew ?_ | refine blk_alloc ?_ _)); refine blk_put (cs := #[.string ((rd_T74 l0 x31_2).f0), .int .i64 ((rd_T74 l0 x31_2).f1), .int .i64 ((rd_T74 l0 x31_2).f2), .int .i64 0, .int .i64 0, .int .i64 0, .int .i64 0, .string (⟨#[]⟩ : ByteArray)]) ?_ 3 _ rfl; (with_reducible repeat (first | refine blk_drewN ?_ _ | refine blk_drew ?_ | refine blk_alloc ?_ _)); refine blk_put (cs := #[.string ((rd_T74 l0 x31_2).f0), .int .i64 ((rd_T74 l0 x31_2).f1), .int .i64 0, .int .i64 0, .int .i64 0, .int .i64 0, .int .i64 0, .string (⟨#[]⟩ : ByteArray)]) ?_ 2 _ rfl; (with_reducible repeat (first | refine blk_drewN ?_ _ | refine blk_drew ?_ | refine blk_alloc ?_ _)); refine blk_put (cs := #[.string ((rd_T74 l0 x31_2).f0), .int .i64 0, .int .i64 0, .int .i64 0, .int .i64 0, .int .i64 0, .int .i64 0, .string (⟨#[]⟩ : ByteArray)]) ?_ 1 _ rfl; (with_reducible repeat (first | refine blk_drewN ?_ _ | refine blk_drew ?_ | refine blk_alloc ?_ _)); refine blk_put (cs := #[.string (⟨#[]⟩ : ByteArray), .int .i64 0, .int .i64 0, .int .i64 0, .int .i64 0, .int .i64 0, .int .i64 0, .string (⟨#[]⟩ : ByteArray)]) ?_ 0 _ rfl; (with_reducible repeat (first | refine blk_drewN ?_ _ | refine blk_drew ?_ | refine blk_alloc ?_ _)); exact BK193.out⟩
                      have n1_ : Aside0 (Below w.heap.size w ((((((((w13.setCell ⟨gb193, 0, none⟩ (.string ((rd_T74 l0 x31_2).f0))).setCell ⟨gb193, 1, none⟩ (.int .i64 ((rd_T74 l0 x31_2).f1))).setCell ⟨gb193, 2, none⟩ (.int .i64 ((rd_T74 l0 x31_2).f2))).setCell ⟨gb193, 3, none⟩ (.int .i64 ((rd_T74 l0 x31_2).f3))).setCell ⟨gb193, 4, none⟩ (.int .i64 ((rd_T74 l0 x31_2).f4))).setCell ⟨gb193, 5, none⟩ (.int .i64 ((rd_T74 l0 x31_2).f5))).setCell ⟨gb193, 6, none⟩ (.int .i64 ((rd_T74 l0 x31_2).f6))).setCell ⟨gb193, 7, none⟩ (.string ((rd_T74 l0 x31_2).f7)))) := ⟨by repeat (first | (with_reducible first | exact HB.out | apply below_alloc | apply pw_below_drewN | apply below_drew1 | refine below_set ?_ GE193.out) | exact HB.out)⟩
                      (try clear BK193)
                      (try clear HB)
                      generalize ((((((((w13.setCell ⟨gb193, 0, none⟩ (.string ((rd_T74 l0 x31_2).f0))).setCell ⟨gb193, 1, none⟩ (.int .i64 ((rd_T74 l0 x31_2).f1))).setCell ⟨gb193, 2, none⟩ (.int .i64 ((rd_T74 l0 x31_2).f2))).setCell ⟨gb193, 3, none⟩ (.int .i64 ((rd_T74 l0 x31_2).f3))).setCell ⟨gb193, 4, none⟩ (.int .i64 ((rd_T74 l0 x31_2).f4))).setCell ⟨gb193, 5, none⟩ (.int .i64 ((rd_T74 l0 x31_2).f5))).setCell ⟨gb193, 6, none⟩ (.int .i64 ((rd_T74 l0 x31_2).f6))).setCell ⟨gb193, 7, none⟩ (.string ((rd_T74 l0 x31_2).f7))) = w29 at n0_ n1_ ⊢
                      have BK193 := n0_
                      have HB := n1_
                      clear n0_ n1_
                      have n0_ := Aside0.mk (blk_drew BK193.out)
                      have n1_ := Aside0.mk (below_drew1 HB.out)
                      clear BK193
                      clear HB
                      have BK193 := n0_
                      have HB := n1_
                      clear n0_ n1_
                      refine start_ (n := 16) (S := fun w' => w'.cell? ⟨gb193, 0, none⟩ = some (.string ((rd_T74 l0 x31_2).f0)) ∧ w'.cell? ⟨gb193, 1, none⟩ = some (.int .i64 ((rd_T74 l0 x31_2).f1)) ∧ w'.cell? ⟨gb193, 2, none⟩ = some (.int .i64 ((rd_T74 l0 x31_2).f2)) ∧ w'.cell? ⟨gb193, 3, none⟩ = some (.int .i64 ((rd_T74 l0 x31_2).f3)) ∧ w'.cell? ⟨gb193, 4, none⟩ = some (.int .i64 ((rd_T74 l0 x31_2).f4)) ∧ w'.cell? ⟨gb193, 5, none⟩ = some (.int .i64 ((rd_T74 l0 x31_2).f5)) ∧ w'.cell? ⟨gb193, 6, none⟩ = some (.int .i64 ((rd_T74 l0 x31_2).f6)) ∧ w'.cell? ⟨gb193, 7, none⟩ = some (.string ((rd_T74 l0 x31_2).f7))) (ds := []) #[false, false, false, false, false, false, false, false, false, false, false, false, false, false, false, false] (by kernel_rfl) rfl rfl ⟨(blk_cell BK193.out 0).trans rfl, (blk_cell BK193.out 1).trans rfl, (blk_cell BK193.out 2).trans rfl, (blk_cell BK193.out 3).trans rfl, (blk_cell BK193.out 4).trans rfl, (blk_cell BK193.out 5).trans rfl, (blk_cell BK193.out 6).trans rfl, (blk_cell BK193.out 7).trans rfl⟩ (fun hHeld => ?_); refine with_tabW spec_l17Good.tab6 spec_l17Good.bits6 (fun HT_ HW_ => ?_)
                      generalize w29.drew = w30 at BK193 HB hHeld ⊢
                      refine pure_ (i := 1) (N := some 37) (v := ?_) (a' := ?_) #[false, true, false, false, false, false, false, false, false, false, false, false, false, false, false, false] rfl rfl (any_of HT_.out (by kernel_rfl)) (fun _ _ _ h => h) (Or.inl ⟨by rfl, ?_⟩) ?_ ?_
                      rotate_left
                      · intro w'
                        go_simp
                        with_reducible rfl
                      rotate_left
                      · simp only [Act.put, List.setIfInBounds_toArray, List.set_cons_zero, List.set_cons_succ, i64_w, i32_w]
                        rfl
                      refine take_ (i := 0) (N := some 36) (v := ?_) (a' := ?_) #[true, true, false, false, false, false, false, false, false, false, false, false, false, false, false, false] rfl rfl (take_ofW HT_.out HW_.out (by kernel_rfl)) (fun _ _ _ h => h) (Or.inl ⟨by rfl, ?_⟩) hHeld ?_ ?_
                      rotate_left
                      · rintro w' ⟨s0, s1, s2, s3, s4, s5, s6, s7⟩
                        go_simp
                        with_reducible rfl
                      rotate_left
                      · simp only [Act.put, List.setIfInBounds_toArray, List.set_cons_zero, List.set_cons_succ, i64_w, i32_w]
                        rfl
                      refine one_ (i := 2) (N := some 38) #[true, true, true, false, false, false, false, false, false, false, false, false, false, false, false, false] rfl rfl (one_of HT_.out (by kernel_rfl)) (by decide) (fun K hK => ?_)
                      refine goes_ Tryz.func126 (by kernel_rfl) rfl #[.agg #[.string ((rd_T74 l0 x31_2).f0), .int .i64 ((rd_T74 l0 x31_2).f1), .int .i64 ((rd_T74 l0 x31_2).f2), .int .i64 ((rd_T74 l0 x31_2).f3), .int .i64 ((rd_T74 l0 x31_2).f4), .int .i64 ((rd_T74 l0 x31_2).f5), .int .i64 ((rd_T74 l0 x31_2).f6), .string ((rd_T74 l0 x31_2).f7)], .int .i64 x31_2] (by rfl) rfl rfl (by (try simp only [List.map_toArray, List.map_cons, List.map_nil]); first | done | rfl | (simp only [List.length_drop, List.length_take]; rfl)) ?_
                      with_reducible refine (spec_l17Alone.calls ((rd_T74 l0 x31_2).f0) ((rd_T74 l0 x31_2).f1) ((rd_T74 l0 x31_2).f2) ((rd_T74 l0 x31_2).f3) ((rd_T74 l0 x31_2).f4) ((rd_T74 l0 x31_2).f5) ((rd_T74 l0 x31_2).f6) ((rd_T74 l0 x31_2).f7) x31_2 false _ A15.out).mono ?_
                      rintro e w31 ⟨rfl, hb⟩
                      refine ⟨_, rfl, ?_⟩
                      have n0_ := Aside0.mk (blk_below (g := gb193) (o := .cells #[.string ((rd_T74 l0 x31_2).f0), .int .i64 ((rd_T74 l0 x31_2).f1), .int .i64 ((rd_T74 l0 x31_2).f2), .int .i64 ((rd_T74 l0 x31_2).f3), .int .i64 ((rd_T74 l0 x31_2).f4), .int .i64 ((rd_T74 l0 x31_2).f5), .int .i64 ((rd_T74 l0 x31_2).f6), .string ((rd_T74 l0 x31_2).f7)] 74 (0, 0)) (by (with_reducible repeat (first | refine blk_drewN ?_ _ | refine blk_drew ?_ | refine blk_alloc ?_ _)); exact BK193.out) hb)
                      have n1_ := Aside0.mk (below_step (by repeat (first | (with_reducible first | exact HB.out | apply below_alloc | apply pw_below_drewN | apply below_drew1 | refine below_set ?_ GE193.out) | exact HB.out)) hb)
                      clear BK193
                      clear HB
                      have BK193 := n0_
                      have HB := n1_
                      clear n0_ n1_
                      (try clear hb)
                      (try clear hb2)
                      (try clear hk)
                      (try clear hi)
                      refine hK.out _ _ ⟨(blk_cell BK193.out 0).trans rfl, (blk_cell BK193.out 1).trans rfl, (blk_cell BK193.out 2).trans rfl, (blk_cell BK193.out 3).trans rfl, (blk_cell BK193.out 4).trans rfl, (blk_cell BK193.out 5).trans rfl, (blk_cell BK193.out 6).trans rfl, (blk_cell BK193.out 7).trans rfl⟩ (fun hHeld => ?_)
                      clear hK K
                      refine norm_ (a' := ?_) ?_ ?_
                      rotate_left
                      · show Act.put _ (some 38) _ = _
                        simp only [Act.put, List.setIfInBounds_toArray, List.set_cons_zero, List.set_cons_succ, i64_w, i32_w]
                        rfl
                      refine pure_ (i := 3) (N := some 39) (v := ?_) (a' := ?_) #[true, true, true, true, false, false, false, false, false, false, false, false, false, false, false, false] rfl rfl (any_of HT_.out (by kernel_rfl)) (fun _ _ _ h => h) (Or.inl ⟨by rfl, ?_⟩) ?_ ?_
                      rotate_left
                      · intro w'
                        go_simp
                        with_reducible rfl
                      rotate_left
                      · simp only [Act.put, List.setIfInBounds_toArray, List.set_cons_zero, List.set_cons_succ, i64_w, i32_w]
                        rfl
                      refine pure_ (i := 4) (N := some 40) (v := ?_) (a' := ?_) #[true, true, true, true, true, false, false, false, false, false, false, false, false, false, false, false] rfl rfl (any_of HT_.out (by kernel_rfl)) (fun _ _ _ h => h) (Or.inl ⟨by rfl, ?_⟩) ?_ ?_
                      rotate_left
                      · intro w'
                        go_simp
                        with_reducible rfl
                      rotate_left
                      · simp only [Act.put, List.setIfInBounds_toArray, List.set_cons_zero, List.set_cons_succ, i64_w, i32_w]
                        rfl
                      refine pure_ (i := 5) (N := some 41) (v := undef) (a' := ?_) #[true, true, true, true, true, true, false, false, false, false, false, false, false, false, false, false] rfl rfl (any_of HT_.out (by kernel_rfl)) (fun _ _ _ h => h) (Or.inr ⟨by rfl, rfl⟩) ?_ ?_
                      rotate_left
                      · simp only [Act.put, List.setIfInBounds_toArray, List.set_cons_zero, List.set_cons_succ, i64_w, i32_w]
                        rfl
                      refine pure_ (i := 6) (N := some 42) (v := undef) (a' := ?_) #[true, true, true, true, true, true, true, false, false, false, false, false, false, false, false, false] rfl rfl (any_of HT_.out (by kernel_rfl)) (fun _ _ _ h => h) (Or.inr ⟨by rfl, rfl⟩) ?_ ?_
                      rotate_left
                      · simp only [Act.put, List.setIfInBounds_toArray, List.set_cons_zero, List.set_cons_succ, i64_w, i32_w]
                        rfl
                      refine pure_ (i := 7) (N := some 43) (v := undef) (a' := ?_) #[true, true, true, true, true, true, true, true, false, false, false, false, false, false, false, false] rfl rfl (any_of HT_.out (by kernel_rfl)) (fun _ _ _ h => h) (Or.inr ⟨by rfl, rfl⟩) ?_ ?_
                      rotate_left
                      · simp only [Act.put, List.setIfInBounds_toArray, List.set_cons_zero, List.set_cons_succ, i64_w, i32_w]
                        rfl
                      refine pure_ (i := 8) (N := some 44) (v := undef) (a' := ?_) #[true, true, true, true, true, true, true, true, true, false, false, false, false, false, false, false] rfl rfl (any_of HT_.out (by kernel_rfl)) (fun _ _ _ h => h) (Or.inr ⟨by rfl, rfl⟩) ?_ ?_
                      rotate_left
                      · simp only [Act.put, List.setIfInBounds_toArray, List.set_cons_zero, List.set_cons_succ, i64_w, i32_w]
                        rfl
                      refine pure_ (i := 9) (N := some 45) (v := undef) (a' := ?_) #[true, true, true, true, true, true, true, true, true, true, false, false, false, false, false, false] rfl rfl (any_of HT_.out (by kernel_rfl)) (fun _ _ _ h => h) (Or.inr ⟨by rfl, rfl⟩) ?_ ?_
                      rotate_left
                      · simp only [Act.put, List.setIfInBounds_toArray, List.set_cons_zero, List.set_cons_succ, i64_w, i32_w]
                        rfl
                      refine pure_ (i := 10) (N := some 46) (v := undef) (a' := ?_) #[true, true, true, true, true, true, true, true, true, true, true, false, false, false, false, false] rfl rfl (any_of HT_.out (by kernel_rfl)) (fun _ _ _ h => h) (Or.inr ⟨by rfl, rfl⟩) ?_ ?_
                      rotate_left
                      · simp only [Act.put, List.setIfInBounds_toArray, List.set_cons_zero, List.set_cons_succ, i64_w, i32_w]
                        rfl
                      refine pure_ (i := 11) (N := some 47) (v := undef) (a' := ?_) #[true, true, true, true, true, true, true, true, true, true, true, true, false, false, false, false] rfl rfl (any_of HT_.out (by kernel_rfl)) (fun _ _ _ h => h) (Or.inr ⟨by rfl, rfl⟩) ?_ ?_
                      rotate_left
                      · simp only [Act.put, List.setIfInBounds_toArray, List.set_cons_zero, List.set_cons_succ, i64_w, i32_w]
                        rfl
                      refine pure_ (i := 12) (N := some 48) (v := undef) (a' := ?_) #[true, true, true, true, true, true, true, true, true, true, true, true, true, false, false, false] rfl rfl (any_of HT_.out (by kernel_rfl)) (fun _ _ _ h => h) (Or.inr ⟨by rfl, rfl⟩) ?_ ?_
                      rotate_left
                      · simp only [Act.put, List.setIfInBounds_toArray, List.set_cons_zero, List.set_cons_succ, i64_w, i32_w]
                        rfl
                      refine pure_ (i := 13) (N := some 49) (v := undef) (a' := ?_) #[true, true, true, true, true, true, true, true, true, true, true, true, true, true, false, false] rfl rfl (any_of HT_.out (by kernel_rfl)) (fun _ _ _ h => h) (Or.inr ⟨by rfl, rfl⟩) ?_ ?_
                      rotate_left
                      · simp only [Act.put, List.setIfInBounds_toArray, List.set_cons_zero, List.set_cons_succ, i64_w, i32_w]
                        rfl
                      refine pure_ (i := 14) (N := some 50) (v := undef) (a' := ?_) #[true, true, true, true, true, true, true, true, true, true, true, true, true, true, true, false] rfl rfl (any_of HT_.out (by kernel_rfl)) (fun _ _ _ h => h) (Or.inr ⟨by rfl, rfl⟩) ?_ ?_
                      rotate_left
                      · simp only [Act.put, List.setIfInBounds_toArray, List.set_cons_zero, List.set_cons_succ, i64_w, i32_w]
                        rfl
                      refine pure_ (i := 15) (N := some 51) (v := ?_) (a' := ?_) #[true, true, true, true, true, true, true, true, true, true, true, true, true, true, true, true] rfl rfl (any_of HT_.out (by kernel_rfl)) (fun _ _ _ h => h) (Or.inl ⟨by rfl, ?_⟩) ?_ ?_
                      rotate_left
                      · intro w'
                        go_simp
                        with_reducible rfl
                      rotate_left
                      · simp only [Act.put, List.setIfInBounds_toArray, List.set_cons_zero, List.set_cons_succ, i64_w, i32_w]
                        rfl
                      refine done_ (done_of HT_.out (by kernel_rfl)) ?_
                      try go_wp2
                      go_meet
                      case rel => exact ⟨_, (true), (by first | rfl | (simp; done) | (simp [*]; done)), H', ⟨by have := HJ1.out; have := HK2.out; first | omega | exact Nat.le_refl _⟩, ⟨by (with_reducible repeat (first | refine blk_drewN ?_ _ | refine blk_drew ?_ | refine blk_alloc ?_ _)); exact BK193.out⟩, ⟨by repeat (first | (with_reducible first | exact HB.out | apply below_alloc | apply pw_below_drewN | apply below_drew1 | refine below_set ?_ GE193.out) | exact HB.out)⟩⟩
                  case rest =>
                    clear HC12
                    try clear c1
                    try clear p1
                    try clear q1
                    try clear hx1
                    try clear qi1
                    try clear p2
                    try clear q2
                    try clear c4
                    try clear c5
                    try clear c5b0
                    try clear c5b1
                    try clear c6
                    try clear c6b0
                    try clear c6b1
                    try clear c7
                    try clear c7b0
                    try clear c7b1
                    try clear c8
                    try clear c9
                    try clear c9b0
                    try clear c10
                    try clear c10b0
                    try clear c11
                    try clear c11b0
                    try clear c12
                    try clear c16
                    try clear c17
                    try clear c17b0
                    try clear c18
                    try clear c18b0
                    try clear c19
                    try clear c19b0
                    try clear c19b1
                    try clear p19
                    try clear q19
                    try clear hx19
                    try clear q24
                    try clear hcz14_0
                    try clear hcz14_1
                    try clear hcz14_2
                    try clear hcz14_3
                    try clear hcz14_4
                    try clear hcz14_5
                    try clear hcz14_6
                    try clear hcz14_7
                    try clear hfz14_0
                    try clear hfz14_1
                    try clear hfz14_2
                    try clear hfz14_3
                    try clear hfz14_4
                    try clear hfz14_5
                    try clear hfz14_6
                    try clear hfz14_7
                    try clear hx190_0
                    try clear hx190_1
                    try clear hx190_2
                    try clear hx190_3
                    try clear hx190_4
                    try clear hx190_5
                    try clear hx190_6
                    try clear hx190_7
                    try clear hx191_0
                    try clear hx191_1
                    try clear hx191_2
                    try clear hx191_3
                    try clear hx191_4
                    try clear hx191_5
                    try clear hx191_6
                    try clear hx191_7
                    try clear hx192_0
                    try clear hx192_1
                    try clear hx192_2
                    try clear hx192_3
                    try clear hx192_4
                    try clear hx192_5
                    try clear hx192_6
                    try clear hx192_7
                    try clear p1
                    try clear p190
                    try clear p191
                    try clear p192
                    try clear p2
                    try clear q1
                    try clear q190
                    try clear q191
                    try clear q192
                    try clear q24
                    obtain ⟨kq, x51_11, rfl, HA, HJ11, BK193, HB⟩ := hcut
                    cases kq with
                    | zero => exact absurd HA.out (by simp [spec_l17Good.j2])
                    | succ kj11 =>
                      have H := HA.out
                      clear HA
                      simp only [spec_l17Good.j2] at H
                      by_cases c32 : x51_11 = true
                      · subst c32
                        have H1 : (some false) = some r := by rw [if_pos rfl] at H; exact H
                        clear H
                        have H := H1
                        clear H1
                        obtain rfl := Option.some.inj H
                        go_wp2
                        go_ret
                        exact ⟨by first | rfl | (simp [errW_none, errW_some] <;> rfl) | (simp [*, errW_none, errW_some] <;> rfl), by repeat (first | (with_reducible first | exact HB.out | apply below_alloc | apply pw_below_drewN | apply below_drew1 | refine below_set ?_ GE193.out) | exact HB.out)⟩
                      · replace c32 := Bool.eq_false_iff.mpr c32
                        subst c32
                        have H1 : (if 0 ≤ ((rd_T74 l0 x31_2).f6) then (if ((rd_T74 l0 x31_2).f6) < (l0.length : Int) then (if ((rd_T74 l0 ((rd_T74 l0 x31_2).f6)).f6) = ((rd_T74 l0 x31_2).f6) then (if ((rd_T74 l0 ((rd_T74 l0 x31_2).f6)).f1) = ((rd_T74 l0 x31_2).f1) then (spec_l17Good.l0 kj11 l0 l0 (l0.length : Int) (wrap64 (x31_2 + 1))) else (some false)) else (some false)) else (none)) else (none)) = some r := by rw [if_neg (show ¬ (false = true) by decide)] at H; exact H
                        clear H
                        have H := H1
                        clear H1
                        by_cases c33 : 0 ≤ ((rd_T74 l0 x31_2).f6)
                        · rw [if_pos c33] at H
                          have c33b0 : decide (0 ≤ ((rd_T74 l0 x31_2).f6)) = true := decide_eq_true c33
                          clear c33
                          by_cases c34 : ((rd_T74 l0 x31_2).f6) < (l0.length : Int)
                          · rw [if_pos c34] at H
                            have c34b0 : decide (((rd_T74 l0 x31_2).f6) < (l0.length : Int)) = true := decide_eq_true c34
                            clear c34
                            by_cases c35 : ((rd_T74 l0 ((rd_T74 l0 x31_2).f6)).f6) = ((rd_T74 l0 x31_2).f6)
                            · rw [if_pos c35] at H
                              have c35b0 : (((rd_T74 l0 ((rd_T74 l0 x31_2).f6)).f6) == ((rd_T74 l0 x31_2).f6)) = true := beq_iff_eq.mpr c35
                              have c35b1 : (((rd_T74 l0 ((rd_T74 l0 x31_2).f6)).f6) != ((rd_T74 l0 x31_2).f6)) = false := bne_eq_false_iff_eq.mpr c35
                              clear c35
                              by_cases c36 : ((rd_T74 l0 ((rd_T74 l0 x31_2).f6)).f1) = ((rd_T74 l0 x31_2).f1)
                              · rw [if_pos c36] at H
                                have c36b0 : (((rd_T74 l0 ((rd_T74 l0 x31_2).f6)).f1) == ((rd_T74 l0 x31_2).f1)) = true := beq_iff_eq.mpr c36
                                have c36b1 : (((rd_T74 l0 ((rd_T74 l0 x31_2).f6)).f1) != ((rd_T74 l0 x31_2).f1)) = false := bne_eq_false_iff_eq.mpr c36
                                clear c36
                                have H' := Aside0.mk H
                                clear H
                                have hcz37_0 : wc.cell? ⟨gb193, 0, none⟩ = some (.string ((rd_T74 l0 x31_2).f0)) := (blk_cell BK193.out 0).trans rfl
                                have hcz37_1 : wc.cell? ⟨gb193, 1, none⟩ = some (.int .i64 ((rd_T74 l0 x31_2).f1)) := (blk_cell BK193.out 1).trans rfl
                                have hcz37_2 : wc.cell? ⟨gb193, 2, none⟩ = some (.int .i64 ((rd_T74 l0 x31_2).f2)) := (blk_cell BK193.out 2).trans rfl
                                have hcz37_3 : wc.cell? ⟨gb193, 3, none⟩ = some (.int .i64 ((rd_T74 l0 x31_2).f3)) := (blk_cell BK193.out 3).trans rfl
                                have hcz37_4 : wc.cell? ⟨gb193, 4, none⟩ = some (.int .i64 ((rd_T74 l0 x31_2).f4)) := (blk_cell BK193.out 4).trans rfl
                                have hcz37_5 : wc.cell? ⟨gb193, 5, none⟩ = some (.int .i64 ((rd_T74 l0 x31_2).f5)) := (blk_cell BK193.out 5).trans rfl
                                have hcz37_6 : wc.cell? ⟨gb193, 6, none⟩ = some (.int .i64 ((rd_T74 l0 x31_2).f6)) := (blk_cell BK193.out 6).trans rfl
                                have hcz37_7 : wc.cell? ⟨gb193, 7, none⟩ = some (.string ((rd_T74 l0 x31_2).f7)) := (blk_cell BK193.out 7).trans rfl
                                have hfz37_0 := blk_frozen BK193.out 0
                                have hfz37_1 := blk_frozen BK193.out 1
                                have hfz37_2 := blk_frozen BK193.out 2
                                have hfz37_3 := blk_frozen BK193.out 3
                                have hfz37_4 := blk_frozen BK193.out 4
                                have hfz37_5 := blk_frozen BK193.out 5
                                have hfz37_6 := blk_frozen BK193.out 6
                                have hfz37_7 := blk_frozen BK193.out 7
                                have p200 : 0 ≤ (((rd_T74 l0 x31_2).f6) : Int) := of_decide_eq_true (by first | (with_reducible assumption) | assumption)
                                have q200 : ((rd_T74 l0 x31_2).f6) < (l0.length : Int) := of_decide_eq_true (by first | (with_reducible assumption) | assumption)
                                obtain ⟨ad200, e200, hx200_0, hx200_1, hx200_2, hx200_3, hx200_4, hx200_5, hx200_6, hx200_7⟩ := at_T74 HR0.out ((rd_T74 l0 x31_2).f6) p200 q200
                                obtain rfl : ad192 = ad200 := (by injection e200)
                                replace hx200_0 := (HB.out.cell (World.block_lt_of_cell? w _ hx200_0)).trans hx200_0
                                replace hx200_1 := (HB.out.cell (World.block_lt_of_cell? w _ hx200_1)).trans hx200_1
                                replace hx200_2 := (HB.out.cell (World.block_lt_of_cell? w _ hx200_2)).trans hx200_2
                                replace hx200_3 := (HB.out.cell (World.block_lt_of_cell? w _ hx200_3)).trans hx200_3
                                replace hx200_4 := (HB.out.cell (World.block_lt_of_cell? w _ hx200_4)).trans hx200_4
                                replace hx200_5 := (HB.out.cell (World.block_lt_of_cell? w _ hx200_5)).trans hx200_5
                                replace hx200_6 := (HB.out.cell (World.block_lt_of_cell? w _ hx200_6)).trans hx200_6
                                replace hx200_7 := (HB.out.cell (World.block_lt_of_cell? w _ hx200_7)).trans hx200_7
                                replace p200 := eq_true p200
                                replace q200 := eq_true q200
                                go_wp2_with (first | ((with_reducible refine gate_dst (N := 5) rfl ?_); (try (refine gate_guard (by rfl) ?_; dsimp only)); refine box_event ?hg (N := 5) ?hd (cs := #[.string (⟨#[]⟩ : ByteArray), .int .i64 0, .int .i64 0, .int .i64 0, .int .i64 0, .int .i64 0, .int .i64 0, .string (⟨#[]⟩ : ByteArray)]) (t := 74) ?hr ?_; (case hd => rfl); (case hg => rfl); (case hr => first | (go_simp; done) | (go_simp; rfl)); intro gb201 hg w38 hbox hb; have n0_ := Aside0.mk (blk_below (g := gb193) (o := .cells #[.string ((rd_T74 l0 x31_2).f0), .int .i64 ((rd_T74 l0 x31_2).f1), .int .i64 ((rd_T74 l0 x31_2).f2), .int .i64 ((rd_T74 l0 x31_2).f3), .int .i64 ((rd_T74 l0 x31_2).f4), .int .i64 ((rd_T74 l0 x31_2).f5), .int .i64 ((rd_T74 l0 x31_2).f6), .string ((rd_T74 l0 x31_2).f7)] 74 (0, 0)) (by (with_reducible repeat (first | refine blk_drewN ?_ _ | refine blk_drew ?_ | refine blk_alloc ?_ _)); exact BK193.out) hb); have n1_ := Aside0.mk (below_step (by repeat (first | (with_reducible first | exact HB.out | apply below_alloc | apply pw_below_drewN | apply below_drew1 | refine below_set ?_ GE193.out) | exact HB.out)) hb); have n2_ := Aside0.mk (hbox); have n3_ := Aside0.mk ((by rw [hg]; exact (below_size (by repeat (first | (with_reducible first | exact HB.out | apply below_alloc | apply pw_below_drewN | apply below_drew1 | refine below_set ?_ GE193.out) | exact HB.out))) : w.heap.size ≤ gb201)); have n4_ := Aside0.mk ((by rw [hg]; exact (below_size (by repeat (first | (with_reducible first | exact HB.out | apply below_alloc | apply pw_below_drewN | apply below_drew1 | refine below_set ?_ GE193.out) | exact HB.out))) : w.heap.size ≤ gb201)); have n5_ := Aside0.mk ((by rw [hg]; exact Nat.ne_of_lt (blk_lt (g := gb193) (o := .cells #[.string ((rd_T74 l0 x31_2).f0), .int .i64 ((rd_T74 l0 x31_2).f1), .int .i64 ((rd_T74 l0 x31_2).f2), .int .i64 ((rd_T74 l0 x31_2).f3), .int .i64 ((rd_T74 l0 x31_2).f4), .int .i64 ((rd_T74 l0 x31_2).f5), .int .i64 ((rd_T74 l0 x31_2).f6), .string ((rd_T74 l0 x31_2).f7)] 74 (0, 0)) (by (with_reducible repeat (first | refine blk_drewN ?_ _ | refine blk_drew ?_ | refine blk_alloc ?_ _)); exact BK193.out)) : gb193 ≠ gb201)); have n6_ := Aside0.mk ((by rw [hg]; exact Nat.ne_of_gt (blk_lt (g := gb193) (o := .cells #[.string ((rd_T74 l0 x31_2).f0), .int .i64 ((rd_T74 l0 x31_2).f1), .int .i64 ((rd_T74 l0 x31_2).f2), .int .i64 ((rd_T74 l0 x31_2).f3), .int .i64 ((rd_T74 l0 x31_2).f4), .int .i64 ((rd_T74 l0 x31_2).f5), .int .i64 ((rd_T74 l0 x31_2).f6), .string ((rd_T74 l0 x31_2).f7)] 74 (0, 0)) (by (with_reducible repeat (first | refine blk_drewN ?_ _ | refine blk_drew ?_ | refine blk_alloc ?_ _)); exact BK193.out)) : gb201 ≠ gb193)); clear BK193; clear HB; have BK193 := n0_; have HB := n1_; have BK201 := n2_; have GW201 := n3_; have GE201 := n4_; have NB193_201 := n5_; have NB201_193 := n6_; clear n0_ n1_ n2_ n3_ n4_ n5_ n6_; clear hb hbox hg; have hnb39 := NB201_193.out; have hnc39 := NB193_201.out; have hcz40_0 : w38.cell? ⟨gb201, 0, none⟩ = some (.string (⟨#[]⟩ : ByteArray)) := (blk_cell BK201.out 0).trans rfl; have hcz40_1 : w38.cell? ⟨gb201, 1, none⟩ = some (.int .i64 0) := (blk_cell BK201.out 1).trans rfl; have hcz40_2 : w38.cell? ⟨gb201, 2, none⟩ = some (.int .i64 0) := (blk_cell BK201.out 2).trans rfl; have hcz40_3 : w38.cell? ⟨gb201, 3, none⟩ = some (.int .i64 0) := (blk_cell BK201.out 3).trans rfl; have hcz40_4 : w38.cell? ⟨gb201, 4, none⟩ = some (.int .i64 0) := (blk_cell BK201.out 4).trans rfl; have hcz40_5 : w38.cell? ⟨gb201, 5, none⟩ = some (.int .i64 0) := (blk_cell BK201.out 5).trans rfl; have hcz40_6 : w38.cell? ⟨gb201, 6, none⟩ = some (.int .i64 0) := (blk_cell BK201.out 6).trans rfl; have hcz40_7 : w38.cell? ⟨gb201, 7, none⟩ = some (.string (⟨#[]⟩ : ByteArray)) := (blk_cell BK201.out 7).trans rfl; have hfz40_0 := blk_frozen BK201.out 0; have hfz40_1 := blk_frozen BK201.out 1; have hfz40_2 := blk_frozen BK201.out 2; have hfz40_3 := blk_frozen BK201.out 3; have hfz40_4 := blk_frozen BK201.out 4; have hfz40_5 := blk_frozen BK201.out 5; have hfz40_6 := blk_frozen BK201.out 6; have hfz40_7 := blk_frozen BK201.out 7; have hcz41_0 : w38.cell? ⟨gb193, 0, none⟩ = some (.string ((rd_T74 l0 x31_2).f0)) := (blk_cell BK193.out 0).trans rfl; have hcz41_1 : w38.cell? ⟨gb193, 1, none⟩ = some (.int .i64 ((rd_T74 l0 x31_2).f1)) := (blk_cell BK193.out 1).trans rfl; have hcz41_2 : w38.cell? ⟨gb193, 2, none⟩ = some (.int .i64 ((rd_T74 l0 x31_2).f2)) := (blk_cell BK193.out 2).trans rfl; have hcz41_3 : w38.cell? ⟨gb193, 3, none⟩ = some (.int .i64 ((rd_T74 l0 x31_2).f3)) := (blk_cell BK193.out 3).trans rfl; have hcz41_4 : w38.cell? ⟨gb193, 4, none⟩ = some (.int .i64 ((rd_T74 l0 x31_2).f4)) := (blk_cell BK193.out 4).trans rfl; have hcz41_5 : w38.cell? ⟨gb193, 5, none⟩ = some (.int .i64 ((rd_T74 l0 x31_2).f5)) := (blk_cell BK193.out 5).trans rfl; have hcz41_6 : w38.cell? ⟨gb193, 6, none⟩ = some (.int .i64 ((rd_T74 l0 x31_2).f6)) := (blk_cell BK193.out 6).trans rfl; have hcz41_7 : w38.cell? ⟨gb193, 7, none⟩ = some (.string ((rd_T74 l0 x31_2).f7)) := (blk_cell BK193.out 7).trans rfl; have hfz41_0 := blk_frozen BK193.out 0; have hfz41_1 := blk_frozen BK193.out 1; have hfz41_2 := blk_frozen BK193.out 2; have hfz41_3 := blk_frozen BK193.out 3; have hfz41_4 := blk_frozen BK193.out 4; have hfz41_5 := blk_frozen BK193.out 5; have hfz41_6 := blk_frozen BK193.out 6; have hfz41_7 := blk_frozen BK193.out 7))
                                go_roundg kj11
                                case measure => have := HJ1.out; have := HK2.out; have := HJ11.out; omega
                                case rel => exact ⟨(wrap64 (x31_2 + 1)), (by first | rfl | (simp; done) | (simp [*]; done)), H', ⟨by have := HJ1.out; have := HK2.out; have := HJ11.out; omega⟩, ⟨by repeat (first | (with_reducible first | exact HB.out | apply below_alloc | apply pw_below_drewN | apply below_drew1 | refine below_set ?_ GE193.out | refine below_set ?_ GE201.out) | exact HB.out)⟩⟩
                              · rw [if_neg c36] at H
                                have c36b0 : (((rd_T74 l0 ((rd_T74 l0 x31_2).f6)).f1) == ((rd_T74 l0 x31_2).f1)) = false := beq_eq_false_iff_ne.mpr c36
                                have c36b1 : (((rd_T74 l0 ((rd_T74 l0 x31_2).f6)).f1) != ((rd_T74 l0 x31_2).f1)) = true := bne_iff_ne.mpr c36
                                obtain rfl := Option.some.inj H
                                have hcz42_0 : wc.cell? ⟨gb193, 0, none⟩ = some (.string ((rd_T74 l0 x31_2).f0)) := (blk_cell BK193.out 0).trans rfl
                                have hcz42_1 : wc.cell? ⟨gb193, 1, none⟩ = some (.int .i64 ((rd_T74 l0 x31_2).f1)) := (blk_cell BK193.out 1).trans rfl
                                have hcz42_2 : wc.cell? ⟨gb193, 2, none⟩ = some (.int .i64 ((rd_T74 l0 x31_2).f2)) := (blk_cell BK193.out 2).trans rfl
                                have hcz42_3 : wc.cell? ⟨gb193, 3, none⟩ = some (.int .i64 ((rd_T74 l0 x31_2).f3)) := (blk_cell BK193.out 3).trans rfl
                                have hcz42_4 : wc.cell? ⟨gb193, 4, none⟩ = some (.int .i64 ((rd_T74 l0 x31_2).f4)) := (blk_cell BK193.out 4).trans rfl
                                have hcz42_5 : wc.cell? ⟨gb193, 5, none⟩ = some (.int .i64 ((rd_T74 l0 x31_2).f5)) := (blk_cell BK193.out 5).trans rfl
                                have hcz42_6 : wc.cell? ⟨gb193, 6, none⟩ = some (.int .i64 ((rd_T74 l0 x31_2).f6)) := (blk_cell BK193.out 6).trans rfl
                                have hcz42_7 : wc.cell? ⟨gb193, 7, none⟩ = some (.string ((rd_T74 l0 x31_2).f7)) := (blk_cell BK193.out 7).trans rfl
                                have hfz42_0 := blk_frozen BK193.out 0
                                have hfz42_1 := blk_frozen BK193.out 1
                                have hfz42_2 := blk_frozen BK193.out 2
                                have hfz42_3 := blk_frozen BK193.out 3
                                have hfz42_4 := blk_frozen BK193.out 4
                                have hfz42_5 := blk_frozen BK193.out 5
                                have hfz42_6 := blk_frozen BK193.out 6
                                have hfz42_7 := blk_frozen BK193.out 7
                                have p200 : 0 ≤ (((rd_T74 l0 x31_2).f6) : Int) := of_decide_eq_true (by first | (with_reducible assumption) | assumption)
                                have q200 : ((rd_T74 l0 x31_2).f6) < (l0.length : Int) := of_decide_eq_true (by first | (with_reducible assumption) | assumption)
                                obtain ⟨ad200, e200, hx200_0, hx200_1, hx200_2, hx200_3, hx200_4, hx200_5, hx200_6, hx200_7⟩ := at_T74 HR0.out ((rd_T74 l0 x31_2).f6) p200 q200
                                obtain rfl : ad192 = ad200 := (by injection e200)
                                replace hx200_0 := (HB.out.cell (World.block_lt_of_cell? w _ hx200_0)).trans hx200_0
                                replace hx200_1 := (HB.out.cell (World.block_lt_of_cell? w _ hx200_1)).trans hx200_1
                                replace hx200_2 := (HB.out.cell (World.block_lt_of_cell? w _ hx200_2)).trans hx200_2
                                replace hx200_3 := (HB.out.cell (World.block_lt_of_cell? w _ hx200_3)).trans hx200_3
                                replace hx200_4 := (HB.out.cell (World.block_lt_of_cell? w _ hx200_4)).trans hx200_4
                                replace hx200_5 := (HB.out.cell (World.block_lt_of_cell? w _ hx200_5)).trans hx200_5
                                replace hx200_6 := (HB.out.cell (World.block_lt_of_cell? w _ hx200_6)).trans hx200_6
                                replace hx200_7 := (HB.out.cell (World.block_lt_of_cell? w _ hx200_7)).trans hx200_7
                                replace p200 := eq_true p200
                                replace q200 := eq_true q200
                                go_wp2_with (first | ((with_reducible refine gate_dst (N := 5) rfl ?_); (try (refine gate_guard (by rfl) ?_; dsimp only)); refine box_event ?hg (N := 5) ?hd (cs := #[.string (⟨#[]⟩ : ByteArray), .int .i64 0, .int .i64 0, .int .i64 0, .int .i64 0, .int .i64 0, .int .i64 0, .string (⟨#[]⟩ : ByteArray)]) (t := 74) ?hr ?_; (case hd => rfl); (case hg => rfl); (case hr => first | (go_simp; done) | (go_simp; rfl)); intro gb201 hg w43 hbox hb; have n0_ := Aside0.mk (blk_below (g := gb193) (o := .cells #[.string ((rd_T74 l0 x31_2).f0), .int .i64 ((rd_T74 l0 x31_2).f1), .int .i64 ((rd_T74 l0 x31_2).f2), .int .i64 ((rd_T74 l0 x31_2).f3), .int .i64 ((rd_T74 l0 x31_2).f4), .int .i64 ((rd_T74 l0 x31_2).f5), .int .i64 ((rd_T74 l0 x31_2).f6), .string ((rd_T74 l0 x31_2).f7)] 74 (0, 0)) (by (with_reducible repeat (first | refine blk_drewN ?_ _ | refine blk_drew ?_ | refine blk_alloc ?_ _)); exact BK193.out) hb); have n1_ := Aside0.mk (below_step (by repeat (first | (with_reducible first | exact HB.out | apply below_alloc | apply pw_below_drewN | apply below_drew1 | refine below_set ?_ GE193.out) | exact HB.out)) hb); have n2_ := Aside0.mk (hbox); have n3_ := Aside0.mk ((by rw [hg]; exact (below_size (by repeat (first | (with_reducible first | exact HB.out | apply below_alloc | apply pw_below_drewN | apply below_drew1 | refine below_set ?_ GE193.out) | exact HB.out))) : w.heap.size ≤ gb201)); have n4_ := Aside0.mk ((by rw [hg]; exact (below_size (by repeat (first | (with_reducible first | exact HB.out | apply below_alloc | apply pw_below_drewN | apply below_drew1 | refine below_set ?_ GE193.out) | exact HB.out))) : w.heap.size ≤ gb201)); have n5_ := Aside0.mk ((by rw [hg]; exact Nat.ne_of_lt (blk_lt (g := gb193) (o := .cells #[.string ((rd_T74 l0 x31_2).f0), .int .i64 ((rd_T74 l0 x31_2).f1), .int .i64 ((rd_T74 l0 x31_2).f2), .int .i64 ((rd_T74 l0 x31_2).f3), .int .i64 ((rd_T74 l0 x31_2).f4), .int .i64 ((rd_T74 l0 x31_2).f5), .int .i64 ((rd_T74 l0 x31_2).f6), .string ((rd_T74 l0 x31_2).f7)] 74 (0, 0)) (by (with_reducible repeat (first | refine blk_drewN ?_ _ | refine blk_drew ?_ | refine blk_alloc ?_ _)); exact BK193.out)) : gb193 ≠ gb201)); have n6_ := Aside0.mk ((by rw [hg]; exact Nat.ne_of_gt (blk_lt (g := gb193) (o := .cells #[.string ((rd_T74 l0 x31_2).f0), .int .i64 ((rd_T74 l0 x31_2).f1), .int .i64 ((rd_T74 l0 x31_2).f2), .int .i64 ((rd_T74 l0 x31_2).f3), .int .i64 ((rd_T74 l0 x31_2).f4), .int .i64 ((rd_T74 l0 x31_2).f5), .int .i64 ((rd_T74 l0 x31_2).f6), .string ((rd_T74 l0 x31_2).f7)] 74 (0, 0)) (by (with_reducible repeat (first | refine blk_drewN ?_ _ | refine blk_drew ?_ | refine blk_alloc ?_ _)); exact BK193.out)) : gb201 ≠ gb193)); clear BK193; clear HB; have BK193 := n0_; have HB := n1_; have BK201 := n2_; have GW201 := n3_; have GE201 := n4_; have NB193_201 := n5_; have NB201_193 := n6_; clear n0_ n1_ n2_ n3_ n4_ n5_ n6_; clear hb hbox hg; have hnb44 := NB201_193.out; have hnc44 := NB193_201.out; have hcz45_0 : w43.cell? ⟨gb201, 0, none⟩ = some (.string (⟨#[]⟩ : ByteArray)) := (blk_cell BK201.out 0).trans rfl; have hcz45_1 : w43.cell? ⟨gb201, 1, none⟩ = some (.int .i64 0) := (blk_cell BK201.out 1).trans rfl; have hcz45_2 : w43.cell? ⟨gb201, 2, none⟩ = some (.int .i64 0) := (blk_cell BK201.out 2).trans rfl; have hcz45_3 : w43.cell? ⟨gb201, 3, none⟩ = some (.int .i64 0) := (blk_cell BK201.out 3).trans rfl; have hcz45_4 : w43.cell? ⟨gb201, 4, none⟩ = some (.int .i64 0) := (blk_cell BK201.out 4).trans rfl; have hcz45_5 : w43.cell? ⟨gb201, 5, none⟩ = some (.int .i64 0) := (blk_cell BK201.out 5).trans rfl; have hcz45_6 : w43.cell? ⟨gb201, 6, none⟩ = some (.int .i64 0) := (blk_cell BK201.out 6).trans rfl; have hcz45_7 : w43.cell? ⟨gb201, 7, none⟩ = some (.string (⟨#[]⟩ : ByteArray)) := (blk_cell BK201.out 7).trans rfl; have hfz45_0 := blk_frozen BK201.out 0; have hfz45_1 := blk_frozen BK201.out 1; have hfz45_2 := blk_frozen BK201.out 2; have hfz45_3 := blk_frozen BK201.out 3; have hfz45_4 := blk_frozen BK201.out 4; have hfz45_5 := blk_frozen BK201.out 5; have hfz45_6 := blk_frozen BK201.out 6; have hfz45_7 := blk_frozen BK201.out 7; have hcz46_0 : w43.cell? ⟨gb193, 0, none⟩ = some (.string ((rd_T74 l0 x31_2).f0)) := (blk_cell BK193.out 0).trans rfl; have hcz46_1 : w43.cell? ⟨gb193, 1, none⟩ = some (.int .i64 ((rd_T74 l0 x31_2).f1)) := (blk_cell BK193.out 1).trans rfl; have hcz46_2 : w43.cell? ⟨gb193, 2, none⟩ = some (.int .i64 ((rd_T74 l0 x31_2).f2)) := (blk_cell BK193.out 2).trans rfl; have hcz46_3 : w43.cell? ⟨gb193, 3, none⟩ = some (.int .i64 ((rd_T74 l0 x31_2).f3)) := (blk_cell BK193.out 3).trans rfl; have hcz46_4 : w43.cell? ⟨gb193, 4, none⟩ = some (.int .i64 ((rd_T74 l0 x31_2).f4)) := (blk_cell BK193.out 4).trans rfl; have hcz46_5 : w43.cell? ⟨gb193, 5, none⟩ = some (.int .i64 ((rd_T74 l0 x31_2).f5)) := (blk_cell BK193.out 5).trans rfl; have hcz46_6 : w43.cell? ⟨gb193, 6, none⟩ = some (.int .i64 ((rd_T74 l0 x31_2).f6)) := (blk_cell BK193.out 6).trans rfl; have hcz46_7 : w43.cell? ⟨gb193, 7, none⟩ = some (.string ((rd_T74 l0 x31_2).f7)) := (blk_cell BK193.out 7).trans rfl; have hfz46_0 := blk_frozen BK193.out 0; have hfz46_1 := blk_frozen BK193.out 1; have hfz46_2 := blk_frozen BK193.out 2; have hfz46_3 := blk_frozen BK193.out 3; have hfz46_4 := blk_frozen BK193.out 4; have hfz46_5 := blk_frozen BK193.out 5; have hfz46_6 := blk_frozen BK193.out 6; have hfz46_7 := blk_frozen BK193.out 7))
                                go_ret
                                exact ⟨by first | rfl | (simp [errW_none, errW_some] <;> rfl) | (simp [*, errW_none, errW_some] <;> rfl), by repeat (first | (with_reducible first | exact HB.out | apply below_alloc | apply pw_below_drewN | apply below_drew1 | refine below_set ?_ GE193.out | refine below_set ?_ GE201.out) | exact HB.out)⟩
                            · rw [if_neg c35] at H
                              have c35b0 : (((rd_T74 l0 ((rd_T74 l0 x31_2).f6)).f6) == ((rd_T74 l0 x31_2).f6)) = false := beq_eq_false_iff_ne.mpr c35
                              have c35b1 : (((rd_T74 l0 ((rd_T74 l0 x31_2).f6)).f6) != ((rd_T74 l0 x31_2).f6)) = true := bne_iff_ne.mpr c35
                              obtain rfl := Option.some.inj H
                              have hcz47_0 : wc.cell? ⟨gb193, 0, none⟩ = some (.string ((rd_T74 l0 x31_2).f0)) := (blk_cell BK193.out 0).trans rfl
                              have hcz47_1 : wc.cell? ⟨gb193, 1, none⟩ = some (.int .i64 ((rd_T74 l0 x31_2).f1)) := (blk_cell BK193.out 1).trans rfl
                              have hcz47_2 : wc.cell? ⟨gb193, 2, none⟩ = some (.int .i64 ((rd_T74 l0 x31_2).f2)) := (blk_cell BK193.out 2).trans rfl
                              have hcz47_3 : wc.cell? ⟨gb193, 3, none⟩ = some (.int .i64 ((rd_T74 l0 x31_2).f3)) := (blk_cell BK193.out 3).trans rfl
                              have hcz47_4 : wc.cell? ⟨gb193, 4, none⟩ = some (.int .i64 ((rd_T74 l0 x31_2).f4)) := (blk_cell BK193.out 4).trans rfl
                              have hcz47_5 : wc.cell? ⟨gb193, 5, none⟩ = some (.int .i64 ((rd_T74 l0 x31_2).f5)) := (blk_cell BK193.out 5).trans rfl
                              have hcz47_6 : wc.cell? ⟨gb193, 6, none⟩ = some (.int .i64 ((rd_T74 l0 x31_2).f6)) := (blk_cell BK193.out 6).trans rfl
                              have hcz47_7 : wc.cell? ⟨gb193, 7, none⟩ = some (.string ((rd_T74 l0 x31_2).f7)) := (blk_cell BK193.out 7).trans rfl
                              have hfz47_0 := blk_frozen BK193.out 0
                              have hfz47_1 := blk_frozen BK193.out 1
                              have hfz47_2 := blk_frozen BK193.out 2
                              have hfz47_3 := blk_frozen BK193.out 3
                              have hfz47_4 := blk_frozen BK193.out 4
                              have hfz47_5 := blk_frozen BK193.out 5
                              have hfz47_6 := blk_frozen BK193.out 6
                              have hfz47_7 := blk_frozen BK193.out 7
                              have p200 : 0 ≤ (((rd_T74 l0 x31_2).f6) : Int) := of_decide_eq_true (by first | (with_reducible assumption) | assumption)
                              have q200 : ((rd_T74 l0 x31_2).f6) < (l0.length : Int) := of_decide_eq_true (by first | (with_reducible assumption) | assumption)
                              obtain ⟨ad200, e200, hx200_0, hx200_1, hx200_2, hx200_3, hx200_4, hx200_5, hx200_6, hx200_7⟩ := at_T74 HR0.out ((rd_T74 l0 x31_2).f6) p200 q200
                              obtain rfl : ad192 = ad200 := (by injection e200)
                              replace hx200_0 := (HB.out.cell (World.block_lt_of_cell? w _ hx200_0)).trans hx200_0
                              replace hx200_1 := (HB.out.cell (World.block_lt_of_cell? w _ hx200_1)).trans hx200_1
                              replace hx200_2 := (HB.out.cell (World.block_lt_of_cell? w _ hx200_2)).trans hx200_2
                              replace hx200_3 := (HB.out.cell (World.block_lt_of_cell? w _ hx200_3)).trans hx200_3
                              replace hx200_4 := (HB.out.cell (World.block_lt_of_cell? w _ hx200_4)).trans hx200_4
                              replace hx200_5 := (HB.out.cell (World.block_lt_of_cell? w _ hx200_5)).trans hx200_5
                              replace hx200_6 := (HB.out.cell (World.block_lt_of_cell? w _ hx200_6)).trans hx200_6
                              replace hx200_7 := (HB.out.cell (World.block_lt_of_cell? w _ hx200_7)).trans hx200_7
                              replace p200 := eq_true p200
                              replace q200 := eq_true q200
                              go_wp2_with (first | ((with_reducible refine gate_dst (N := 5) rfl ?_); (try (refine gate_guard (by rfl) ?_; dsimp only)); refine box_event ?hg (N := 5) ?hd (cs := #[.string (⟨#[]⟩ : ByteArray), .int .i64 0, .int .i64 0, .int .i64 0, .int .i64 0, .int .i64 0, .int .i64 0, .string (⟨#[]⟩ : ByteArray)]) (t := 74) ?hr ?_; (case hd => rfl); (case hg => rfl); (case hr => first | (go_simp; done) | (go_simp; rfl)); intro gb201 hg w48 hbox hb; have n0_ := Aside0.mk (blk_below (g := gb193) (o := .cells #[.string ((rd_T74 l0 x31_2).f0), .int .i64 ((rd_T74 l0 x31_2).f1), .int .i64 ((rd_T74 l0 x31_2).f2), .int .i64 ((rd_T74 l0 x31_2).f3), .int .i64 ((rd_T74 l0 x31_2).f4), .int .i64 ((rd_T74 l0 x31_2).f5), .int .i64 ((rd_T74 l0 x31_2).f6), .string ((rd_T74 l0 x31_2).f7)] 74 (0, 0)) (by (with_reducible repeat (first | refine blk_drewN ?_ _ | refine blk_drew ?_ | refine blk_alloc ?_ _)); exact BK193.out) hb); have n1_ := Aside0.mk (below_step (by repeat (first | (with_reducible first | exact HB.out | apply below_alloc | apply pw_below_drewN | apply below_drew1 | refine below_set ?_ GE193.out) | exact HB.out)) hb); have n2_ := Aside0.mk (hbox); have n3_ := Aside0.mk ((by rw [hg]; exact (below_size (by repeat (first | (with_reducible first | exact HB.out | apply below_alloc | apply pw_below_drewN | apply below_drew1 | refine below_set ?_ GE193.out) | exact HB.out))) : w.heap.size ≤ gb201)); have n4_ := Aside0.mk ((by rw [hg]; exact (below_size (by repeat (first | (with_reducible first | exact HB.out | apply below_alloc | apply pw_below_drewN | apply below_drew1 | refine below_set ?_ GE193.out) | exact HB.out))) : w.heap.size ≤ gb201)); have n5_ := Aside0.mk ((by rw [hg]; exact Nat.ne_of_lt (blk_lt (g := gb193) (o := .cells #[.string ((rd_T74 l0 x31_2).f0), .int .i64 ((rd_T74 l0 x31_2).f1), .int .i64 ((rd_T74 l0 x31_2).f2), .int .i64 ((rd_T74 l0 x31_2).f3), .int .i64 ((rd_T74 l0 x31_2).f4), .int .i64 ((rd_T74 l0 x31_2).f5), .int .i64 ((rd_T74 l0 x31_2).f6), .string ((rd_T74 l0 x31_2).f7)] 74 (0, 0)) (by (with_reducible repeat (first | refine blk_drewN ?_ _ | refine blk_drew ?_ | refine blk_alloc ?_ _)); exact BK193.out)) : gb193 ≠ gb201)); have n6_ := Aside0.mk ((by rw [hg]; exact Nat.ne_of_gt (blk_lt (g := gb193) (o := .cells #[.string ((rd_T74 l0 x31_2).f0), .int .i64 ((rd_T74 l0 x31_2).f1), .int .i64 ((rd_T74 l0 x31_2).f2), .int .i64 ((rd_T74 l0 x31_2).f3), .int .i64 ((rd_T74 l0 x31_2).f4), .int .i64 ((rd_T74 l0 x31_2).f5), .int .i64 ((rd_T74 l0 x31_2).f6), .string ((rd_T74 l0 x31_2).f7)] 74 (0, 0)) (by (with_reducible repeat (first | refine blk_drewN ?_ _ | refine blk_drew ?_ | refine blk_alloc ?_ _)); exact BK193.out)) : gb201 ≠ gb193)); clear BK193; clear HB; have BK193 := n0_; have HB := n1_; have BK201 := n2_; have GW201 := n3_; have GE201 := n4_; have NB193_201 := n5_; have NB201_193 := n6_; clear n0_ n1_ n2_ n3_ n4_ n5_ n6_; clear hb hbox hg; have hnb49 := NB201_193.out; have hnc49 := NB193_201.out; have hcz50_0 : w48.cell? ⟨gb201, 0, none⟩ = some (.string (⟨#[]⟩ : ByteArray)) := (blk_cell BK201.out 0).trans rfl; have hcz50_1 : w48.cell? ⟨gb201, 1, none⟩ = some (.int .i64 0) := (blk_cell BK201.out 1).trans rfl; have hcz50_2 : w48.cell? ⟨gb201, 2, none⟩ = some (.int .i64 0) := (blk_cell BK201.out 2).trans rfl; have hcz50_3 : w48.cell? ⟨gb201, 3, none⟩ = some (.int .i64 0) := (blk_cell BK201.out 3).trans rfl; have hcz50_4 : w48.cell? ⟨gb201, 4, none⟩ = some (.int .i64 0) := (blk_cell BK201.out 4).trans rfl; have hcz50_5 : w48.cell? ⟨gb201, 5, none⟩ = some (.int .i64 0) := (blk_cell BK201.out 5).trans rfl; have hcz50_6 : w48.cell? ⟨gb201, 6, none⟩ = some (.int .i64 0) := (blk_cell BK201.out 6).trans rfl; have hcz50_7 : w48.cell? ⟨gb201, 7, none⟩ = some (.string (⟨#[]⟩ : ByteArray)) := (blk_cell BK201.out 7).trans rfl; have hfz50_0 := blk_frozen BK201.out 0; have hfz50_1 := blk_frozen BK201.out 1; have hfz50_2 := blk_frozen BK201.out 2; have hfz50_3 := blk_frozen BK201.out 3; have hfz50_4 := blk_frozen BK201.out 4; have hfz50_5 := blk_frozen BK201.out 5; have hfz50_6 := blk_frozen BK201.out 6; have hfz50_7 := blk_frozen BK201.out 7; have hcz51_0 : w48.cell? ⟨gb193, 0, none⟩ = some (.string ((rd_T74 l0 x31_2).f0)) := (blk_cell BK193.out 0).trans rfl; have hcz51_1 : w48.cell? ⟨gb193, 1, none⟩ = some (.int .i64 ((rd_T74 l0 x31_2).f1)) := (blk_cell BK193.out 1).trans rfl; have hcz51_2 : w48.cell? ⟨gb193, 2, none⟩ = some (.int .i64 ((rd_T74 l0 x31_2).f2)) := (blk_cell BK193.out 2).trans rfl; have hcz51_3 : w48.cell? ⟨gb193, 3, none⟩ = some (.int .i64 ((rd_T74 l0 x31_2).f3)) := (blk_cell BK193.out 3).trans rfl; have hcz51_4 : w48.cell? ⟨gb193, 4, none⟩ = some (.int .i64 ((rd_T74 l0 x31_2).f4)) := (blk_cell BK193.out 4).trans rfl; have hcz51_5 : w48.cell? ⟨gb193, 5, none⟩ = some (.int .i64 ((rd_T74 l0 x31_2).f5)) := (blk_cell BK193.out 5).trans rfl; have hcz51_6 : w48.cell? ⟨gb193, 6, none⟩ = some (.int .i64 ((rd_T74 l0 x31_2).f6)) := (blk_cell BK193.out 6).trans rfl; have hcz51_7 : w48.cell? ⟨gb193, 7, none⟩ = some (.string ((rd_T74 l0 x31_2).f7)) := (blk_cell BK193.out 7).trans rfl; have hfz51_0 := blk_frozen BK193.out 0; have hfz51_1 := blk_frozen BK193.out 1; have hfz51_2 := blk_frozen BK193.out 2; have hfz51_3 := blk_frozen BK193.out 3; have hfz51_4 := blk_frozen BK193.out 4; have hfz51_5 := blk_frozen BK193.out 5; have hfz51_6 := blk_frozen BK193.out 6; have hfz51_7 := blk_frozen BK193.out 7))
                              go_ret
                              exact ⟨by first | rfl | (simp [errW_none, errW_some] <;> rfl) | (simp [*, errW_none, errW_some] <;> rfl), by repeat (first | (with_reducible first | exact HB.out | apply below_alloc | apply pw_below_drewN | apply below_drew1 | refine below_set ?_ GE193.out | refine below_set ?_ GE201.out) | exact HB.out)⟩
                          · rw [if_neg c34] at H
                            exact absurd H (by simp)
                        · rw [if_neg c33] at H
                          exact absurd H (by simp)
                · rw [if_neg c11] at H
                  exact absurd H (by simp)
              · rw [if_neg c10] at H
                exact absurd H (by simp)
            · rw [if_neg c9] at H
              have c9b0 : decide (x31_2 < (l0.length : Int)) = false := decide_eq_false c9
              clear c9
              obtain rfl := Option.some.inj H
              go_wp2
              go_ret
              exact ⟨by first | rfl | (simp [errW_none, errW_some] <;> rfl) | (simp [*, errW_none, errW_some] <;> rfl), by repeat (first | (with_reducible first | exact HB.out | apply below_alloc | apply pw_below_drewN | apply below_drew1) | exact HB.out)⟩

end Go.Proofs.YthhmkbchdiflcaaGreatDoor.Q

-- Printed by a program of this session (wip/tools/myprint.py) that runs the kit's print, hand-proved functions among the others.
namespace Go.Proofs.YthhmkbchdiflcaaGreatDoor.Q
open Go.RowKit Go.Proofs.YthhmkbchdiflcaaGreatDoorW.PrintWords Go.Proofs.YthhmkbchdiflcaaGreatDoorW.PrintLast Go.Proofs.YthhmkbchdiflcaaGreatDoorW.PrintMore
attribute [local go_sem] max2_int min2_int max_two min_two max_three min_three max_four min_four   -- for this text's walks alone
set_option linter.unusedVariables false
set_option linter.unusedSimpArgs false

/-! ### spec_PackItems: function 11 -/
def spec_PackItems.l0 : Nat → List (S74) → List (S74) → Int → Int → Option (ByteArray × Bool)
  | 0, _, _, _, _ => none
  | k + 1, x0, x9, x10, x11 => if x11 < x10 then (if 0 ≤ x11 then (if x11 < (x9.length : Int) then ((spec_l17Plain.f k ((rd_T74 x9 x11).f7)).bind fun t224 => (if t224 = true then (spec_PackItems.l0 k x0 x9 x10 (wrap64 (x11 + 1))) else (some ((⟨#[]⟩ : ByteArray), false)))) else (none)) else (none)) else ((spec_l17Text.f k x0).bind fun t225 => (some (t225, true)))
def spec_PackItems.f (k : Nat) (l0 : List (S74)) : Option (ByteArray × Bool) := (spec_l17Good.f k l0).bind fun t221 => (if t221 = true then (spec_PackItems.l0 k l0 l0 (l0.length : Int) 0) else (some ((⟨#[]⟩ : ByteArray), false)))
theorem spec_PackItems.mono_l : ∀ k, (∀ y0 y1 y2 y3, LeO (spec_PackItems.l0 k y0 y1 y2 y3) (spec_PackItems.l0 (k + 1) y0 y1 y2 y3))
  | 0 => fun _ _ _ _ r h => by simp [spec_PackItems.l0] at h
  | k + 1 => by
    have ih0 := spec_PackItems.mono_l k
    · intro y0 y1 y2 y3
      unfold spec_PackItems.l0
      repeat' first
      | (with_reducible exact ih0 _ _ _ _)
      | (with_reducible exact spec_l17Good.mono _ _)
      | (with_reducible exact spec_l17Plain.mono _ _)
      | (with_reducible exact spec_l17Text.mono _ _)
      | (with_reducible exact LeO.refl _)
      | (with_reducible exact LeO.none _)
      | (with_reducible refine LeO.ite ?_ ?_)
      | (with_reducible refine LeO.bind ?_ (fun _ => ?_))
      | exact ih0 _ _ _ _
      | exact spec_l17Good.mono _ _
      | exact spec_l17Plain.mono _ _
      | exact spec_l17Text.mono _ _
      | exact LeO.none _
      | refine LeO.ite ?_ ?_
      | refine LeO.bind ?_ (fun _ => ?_)
theorem spec_PackItems.mono : ∀ a0 k, LeO (spec_PackItems.f k a0) (spec_PackItems.f (k + 1) a0) := by
  intro a0 k
  have ih0 := spec_PackItems.mono_l k
  unfold spec_PackItems.f
  repeat' first
      | (with_reducible exact ih0 _ _ _ _)
      | (with_reducible exact spec_l17Good.mono _ _)
      | (with_reducible exact spec_l17Plain.mono _ _)
      | (with_reducible exact spec_l17Text.mono _ _)
      | (with_reducible exact LeO.refl _)
      | (with_reducible exact LeO.none _)
      | (with_reducible refine LeO.ite ?_ ?_)
      | (with_reducible refine LeO.bind ?_ (fun _ => ?_))
      | exact ih0 _ _ _ _
      | exact spec_l17Good.mono _ _
      | exact spec_l17Plain.mono _ _
      | exact spec_l17Text.mono _ _
      | exact LeO.none _
      | refine LeO.ite ?_ ?_
      | refine LeO.bind ?_ (fun _ => ?_)
set_option maxHeartbeats 8000000 in
set_option maxRecDepth 100000 in
theorem spec_PackItems.calls (k : Nat) (A0 : Option Addr) (c0 : Nat) (l0 : List (S74)) (r1 : ByteArray) (r2 : Bool) (w : World) (hr0 : Kd.C k74 w A0 l0.length l0) (hc0 : l0.length ≤ c0) (h : spec_PackItems.f k l0 = some (r1, r2)) :
    Calls Tryz.prog 11 #[.slice A0 l0.length c0] w fun e w' => e = .returned (.tuple #[.string r1, .bool r2]) ∧ Below w.heap.size w w' := by
  have hu74 := Tryz.underlying74
  have HR0 := Aside0.mk hr0
  have HC0 := Aside0.mk hc0
  clear hr0 hc0
  have HB := Aside0.mk (Below.refl w.heap.size w)
  have H : ((spec_l17Good.f k l0).bind fun t221 => (if t221 = true then (spec_PackItems.l0 k l0 l0 (l0.length : Int) 0) else (some ((⟨#[]⟩ : ByteArray), false)))) = some (r1, r2) := h
  clear h
  replace H := Option.bind_eq_some_iff.mp H
  obtain ⟨t221, A20, H⟩ := H
  replace H : (if t221 = true then (spec_PackItems.l0 k l0 l0 (l0.length : Int) 0) else (some ((⟨#[]⟩ : ByteArray), false))) = some (r1, r2) := H
  have A2 := Aside0.mk A20
  clear A20
  by_cases c3 : t221 = true
  · subst c3
    have H1 : (spec_PackItems.l0 k l0 l0 (l0.length : Int) 0) = some (r1, r2) := by rw [if_pos rfl] at H; exact H
    clear H
    have H := H1
    clear H1
    have H' := Aside0.mk H
    clear H
    go_enter Tryz.func11, Tryz.ntmps11
    go_wp2_with (first | ((with_reducible refine gate_callee (f := 56) rfl ?_); refine goesL_ (some 7) rfl rfl Tryz.func56 (by kernel_rfl) rfl #[.slice A0 l0.length c0] rfl (by (try simp only [List.map_toArray, List.map_cons, List.map_nil]); first | done | rfl | (simp only [List.length_drop, List.length_take]; rfl)) ?_; (with_reducible refine (spec_l17Good.calls k _ _ l0 true _ ?side1 ?side2 A2.out).mono ?_); (case side1 => repeat (first | exact HR0.out | (with_reducible refine Kd.C_alloc ?_ _) | (with_reducible refine Kd.C_drewN ?_ _) | (with_reducible refine Kd.C_drew ?_))); (case side2 => exact HC0.out); rintro e w4 ⟨rfl, hb⟩; refine ⟨_, rfl, ?_⟩; have n0_ := Aside0.mk (below_step (by repeat (first | (with_reducible first | exact HB.out | apply below_alloc | apply pw_below_drewN | apply below_drew1) | exact HB.out)) hb); clear HB; have HB := n0_; clear n0_; (try clear hb); (try clear hb2); (try clear hk); (try clear hi)))
    go_loopg [11] k (fun kq v11 w' => ∃ (x11_1 : Int), v11 = .int .i64 x11_1 ∧ Aside0 (spec_PackItems.l0 kq l0 l0 (l0.length : Int) x11_1 = some (r1, r2)) ∧ Aside0 (kq ≤ k) ∧ Aside0 (Below w.heap.size w w'))
    case atStart => exact ⟨(0), (by first | rfl | (simp; done) | (simp [*]; done)), H', ⟨Nat.le_refl _⟩, ⟨by repeat (first | (with_reducible first | exact HB.out | apply below_alloc | apply pw_below_drewN | apply below_drew1) | exact HB.out)⟩⟩
    case round =>
      clear H'
      try clear c1
      try clear p2
      try clear c3
      obtain ⟨x11_1, rfl, HA, HK1, HB⟩ := hrel
      cases gk with
      | zero => exact absurd HA.out (by simp [spec_PackItems.l0])
      | succ k1 =>
        have H := HA.out
        clear HA
        simp only [spec_PackItems.l0] at H
        by_cases c5 : x11_1 < (l0.length : Int)
        · rw [if_pos c5] at H
          have c5b0 : decide (x11_1 < (l0.length : Int)) = true := decide_eq_true c5
          clear c5
          by_cases c6 : 0 ≤ x11_1
          · rw [if_pos c6] at H
            have c6b0 : decide (0 ≤ x11_1) = true := decide_eq_true c6
            clear c6
            by_cases c7 : x11_1 < (l0.length : Int)
            · rw [if_pos c7] at H
              have c7b0 : decide (x11_1 < (l0.length : Int)) = true := decide_eq_true c7
              clear c7
              replace H := Option.bind_eq_some_iff.mp H
              obtain ⟨t224, A80, H⟩ := H
              replace H : (if t224 = true then (spec_PackItems.l0 k1 l0 l0 (l0.length : Int) (wrap64 (x11_1 + 1))) else (some ((⟨#[]⟩ : ByteArray), false))) = some (r1, r2) := H
              have A8 := Aside0.mk A80
              clear A80
              by_cases c9 : t224 = true
              · subst c9
                have H1 : (spec_PackItems.l0 k1 l0 l0 (l0.length : Int) (wrap64 (x11_1 + 1))) = some (r1, r2) := by rw [if_pos rfl] at H; exact H
                clear H
                have H := H1
                clear H1
                have H' := Aside0.mk H
                clear H
                have p222 : 0 ≤ (x11_1 : Int) := of_decide_eq_true (by first | (with_reducible assumption) | assumption)
                have q222 : x11_1 < (l0.length : Int) := of_decide_eq_true (by first | (with_reducible assumption) | assumption)
                obtain ⟨ad222, e222, hx222_0, hx222_1, hx222_2, hx222_3, hx222_4, hx222_5, hx222_6, hx222_7⟩ := at_T74 HR0.out x11_1 p222 q222
                cases e222
                replace hx222_0 := (HB.out.cell (World.block_lt_of_cell? w _ hx222_0)).trans hx222_0
                replace hx222_1 := (HB.out.cell (World.block_lt_of_cell? w _ hx222_1)).trans hx222_1
                replace hx222_2 := (HB.out.cell (World.block_lt_of_cell? w _ hx222_2)).trans hx222_2
                replace hx222_3 := (HB.out.cell (World.block_lt_of_cell? w _ hx222_3)).trans hx222_3
                replace hx222_4 := (HB.out.cell (World.block_lt_of_cell? w _ hx222_4)).trans hx222_4
                replace hx222_5 := (HB.out.cell (World.block_lt_of_cell? w _ hx222_5)).trans hx222_5
                replace hx222_6 := (HB.out.cell (World.block_lt_of_cell? w _ hx222_6)).trans hx222_6
                replace hx222_7 := (HB.out.cell (World.block_lt_of_cell? w _ hx222_7)).trans hx222_7
                replace p222 := eq_true p222
                replace q222 := eq_true q222
                go_wp2_with (first | ((with_reducible refine gate_dst (N := 5) rfl ?_); refine box_event ?hg (N := 5) ?hd (cs := #[.string (⟨#[]⟩ : ByteArray), .int .i64 0, .int .i64 0, .int .i64 0, .int .i64 0, .int .i64 0, .int .i64 0, .string (⟨#[]⟩ : ByteArray)]) (t := 74) ?hr ?_; (case hd => rfl); (case hg => rfl); (case hr => first | (go_simp; done) | (go_simp; rfl)); intro gb223 hg w10 hbox hb; have n0_ := Aside0.mk (below_step (by repeat (first | (with_reducible first | exact HB.out | apply below_alloc | apply pw_below_drewN | apply below_drew1) | exact HB.out)) hb); have n1_ := Aside0.mk (hbox); have n2_ := Aside0.mk ((by rw [hg]; exact (below_size (by repeat (first | (with_reducible first | exact HB.out | apply below_alloc | apply pw_below_drewN | apply below_drew1) | exact HB.out))) : w.heap.size ≤ gb223)); have n3_ := Aside0.mk ((by rw [hg]; exact (below_size (by repeat (first | (with_reducible first | exact HB.out | apply below_alloc | apply pw_below_drewN | apply below_drew1) | exact HB.out))) : w.heap.size ≤ gb223)); clear HB; have HB := n0_; have BK223 := n1_; have GW223 := n2_; have GE223 := n3_; clear n0_ n1_ n2_ n3_; clear hb hbox hg; have hcz11_0 : w10.cell? ⟨gb223, 0, none⟩ = some (.string (⟨#[]⟩ : ByteArray)) := (blk_cell BK223.out 0).trans rfl; have hcz11_1 : w10.cell? ⟨gb223, 1, none⟩ = some (.int .i64 0) := (blk_cell BK223.out 1).trans rfl; have hcz11_2 : w10.cell? ⟨gb223, 2, none⟩ = some (.int .i64 0) := (blk_cell BK223.out 2).trans rfl; have hcz11_3 : w10.cell? ⟨gb223, 3, none⟩ = some (.int .i64 0) := (blk_cell BK223.out 3).trans rfl; have hcz11_4 : w10.cell? ⟨gb223, 4, none⟩ = some (.int .i64 0) := (blk_cell BK223.out 4).trans rfl; have hcz11_5 : w10.cell? ⟨gb223, 5, none⟩ = some (.int .i64 0) := (blk_cell BK223.out 5).trans rfl; have hcz11_6 : w10.cell? ⟨gb223, 6, none⟩ = some (.int .i64 0) := (blk_cell BK223.out 6).trans rfl; have hcz11_7 : w10.cell? ⟨gb223, 7, none⟩ = some (.string (⟨#[]⟩ : ByteArray)) := (blk_cell BK223.out 7).trans rfl; have hfz11_0 := blk_frozen BK223.out 0; have hfz11_1 := blk_frozen BK223.out 1; have hfz11_2 := blk_frozen BK223.out 2; have hfz11_3 := blk_frozen BK223.out 3; have hfz11_4 := blk_frozen BK223.out 4; have hfz11_5 := blk_frozen BK223.out 5; have hfz11_6 := blk_frozen BK223.out 6; have hfz11_7 := blk_frozen BK223.out 7) | ((with_reducible refine gate_callee (f := 57) rfl ?_); refine goesL_ (some 17) rfl rfl Tryz.func57 (by kernel_rfl) rfl #[.string ((rd_T74 l0 x11_1).f7)] rfl (by (try simp only [List.map_toArray, List.map_cons, List.map_nil]); first | done | rfl | (simp only [List.length_drop, List.length_take]; rfl)) ?_; (with_reducible refine (spec_l17Plain.calls k1 ((rd_T74 l0 x11_1).f7) true _ A8.out).mono ?_); rintro e w' ⟨rfl, ⟨nd, rfl⟩⟩; refine ⟨_, rfl, ?_⟩))
                go_roundg k1
                case measure => have := HK1.out; omega
                case rel => exact ⟨(wrap64 (x11_1 + 1)), (by first | rfl | (simp; done) | (simp [*]; done)), H', ⟨by have := HK1.out; omega⟩, ⟨by repeat (first | (with_reducible first | exact HB.out | apply below_alloc | apply pw_below_drewN | apply below_drew1 | refine below_set ?_ GE223.out) | exact HB.out)⟩⟩
              · replace c9 := Bool.eq_false_iff.mpr c9
                subst c9
                have H1 : (some ((⟨#[]⟩ : ByteArray), false)) = some (r1, r2) := by rw [if_neg (show ¬ (false = true) by decide)] at H; exact H
                clear H
                have H := H1
                clear H1
                simp only [Option.some.injEq, Prod.mk.injEq] at H
                obtain ⟨rfl, rfl⟩ := H
                have p222 : 0 ≤ (x11_1 : Int) := of_decide_eq_true (by first | (with_reducible assumption) | assumption)
                have q222 : x11_1 < (l0.length : Int) := of_decide_eq_true (by first | (with_reducible assumption) | assumption)
                obtain ⟨ad222, e222, hx222_0, hx222_1, hx222_2, hx222_3, hx222_4, hx222_5, hx222_6, hx222_7⟩ := at_T74 HR0.out x11_1 p222 q222
                cases e222
                replace hx222_0 := (HB.out.cell (World.block_lt_of_cell? w _ hx222_0)).trans hx222_0
                replace hx222_1 := (HB.out.cell (World.block_lt_of_cell? w _ hx222_1)).trans hx222_1
                replace hx222_2 := (HB.out.cell (World.block_lt_of_cell? w _ hx222_2)).trans hx222_2
                replace hx222_3 := (HB.out.cell (World.block_lt_of_cell? w _ hx222_3)).trans hx222_3
                replace hx222_4 := (HB.out.cell (World.block_lt_of_cell? w _ hx222_4)).trans hx222_4
                replace hx222_5 := (HB.out.cell (World.block_lt_of_cell? w _ hx222_5)).trans hx222_5
                replace hx222_6 := (HB.out.cell (World.block_lt_of_cell? w _ hx222_6)).trans hx222_6
                replace hx222_7 := (HB.out.cell (World.block_lt_of_cell? w _ hx222_7)).trans hx222_7
                replace p222 := eq_true p222
                replace q222 := eq_true q222
                go_wp2_with (first | ((with_reducible refine gate_dst (N := 5) rfl ?_); refine box_event ?hg (N := 5) ?hd (cs := #[.string (⟨#[]⟩ : ByteArray), .int .i64 0, .int .i64 0, .int .i64 0, .int .i64 0, .int .i64 0, .int .i64 0, .string (⟨#[]⟩ : ByteArray)]) (t := 74) ?hr ?_; (case hd => rfl); (case hg => rfl); (case hr => first | (go_simp; done) | (go_simp; rfl)); intro gb223 hg w12 hbox hb; have n0_ := Aside0.mk (below_step (by repeat (first | (with_reducible first | exact HB.out | apply below_alloc | apply pw_below_drewN | apply below_drew1) | exact HB.out)) hb); have n1_ := Aside0.mk (hbox); have n2_ := Aside0.mk ((by rw [hg]; exact (below_size (by repeat (first | (with_reducible first | exact HB.out | apply below_alloc | apply pw_below_drewN | apply below_drew1) | exact HB.out))) : w.heap.size ≤ gb223)); have n3_ := Aside0.mk ((by rw [hg]; exact (below_size (by repeat (first | (with_reducible first | exact HB.out | apply below_alloc | apply pw_below_drewN | apply below_drew1) | exact HB.out))) : w.heap.size ≤ gb223)); clear HB; have HB := n0_; have BK223 := n1_; have GW223 := n2_; have GE223 := n3_; clear n0_ n1_ n2_ n3_; clear hb hbox hg; have hcz13_0 : w12.cell? ⟨gb223, 0, none⟩ = some (.string (⟨#[]⟩ : ByteArray)) := (blk_cell BK223.out 0).trans rfl; have hcz13_1 : w12.cell? ⟨gb223, 1, none⟩ = some (.int .i64 0) := (blk_cell BK223.out 1).trans rfl; have hcz13_2 : w12.cell? ⟨gb223, 2, none⟩ = some (.int .i64 0) := (blk_cell BK223.out 2).trans rfl; have hcz13_3 : w12.cell? ⟨gb223, 3, none⟩ = some (.int .i64 0) := (blk_cell BK223.out 3).trans rfl; have hcz13_4 : w12.cell? ⟨gb223, 4, none⟩ = some (.int .i64 0) := (blk_cell BK223.out 4).trans rfl; have hcz13_5 : w12.cell? ⟨gb223, 5, none⟩ = some (.int .i64 0) := (blk_cell BK223.out 5).trans rfl; have hcz13_6 : w12.cell? ⟨gb223, 6, none⟩ = some (.int .i64 0) := (blk_cell BK223.out 6).trans rfl; have hcz13_7 : w12.cell? ⟨gb223, 7, none⟩ = some (.string (⟨#[]⟩ : ByteArray)) := (blk_cell BK223.out 7).trans rfl; have hfz13_0 := blk_frozen BK223.out 0; have hfz13_1 := blk_frozen BK223.out 1; have hfz13_2 := blk_frozen BK223.out 2; have hfz13_3 := blk_frozen BK223.out 3; have hfz13_4 := blk_frozen BK223.out 4; have hfz13_5 := blk_frozen BK223.out 5; have hfz13_6 := blk_frozen BK223.out 6; have hfz13_7 := blk_frozen BK223.out 7) | ((with_reducible refine gate_callee (f := 57) rfl ?_); refine goesL_ (some 17) rfl rfl Tryz.func57 (by kernel_rfl) rfl #[.string ((rd_T74 l0 x11_1).f7)] rfl (by (try simp only [List.map_toArray, List.map_cons, List.map_nil]); first | done | rfl | (simp only [List.length_drop, List.length_take]; rfl)) ?_; (with_reducible refine (spec_l17Plain.calls k1 ((rd_T74 l0 x11_1).f7) false _ A8.out).mono ?_); rintro e w' ⟨rfl, ⟨nd, rfl⟩⟩; refine ⟨_, rfl, ?_⟩))
                go_ret2
                exact ⟨by first | rfl | (simp [errW_none, errW_some] <;> rfl) | (simp [*, errW_none, errW_some] <;> rfl), by repeat (first | (with_reducible first | exact HB.out | apply below_alloc | apply pw_below_drewN | apply below_drew1 | refine below_set ?_ GE223.out) | exact HB.out)⟩
            · rw [if_neg c7] at H
              exact absurd H (by simp)
          · rw [if_neg c6] at H
            exact absurd H (by simp)
        · rw [if_neg c5] at H
          have c5b0 : decide (x11_1 < (l0.length : Int)) = false := decide_eq_false c5
          clear c5
          replace H := Option.bind_eq_some_iff.mp H
          obtain ⟨t225, A140, H⟩ := H
          replace H : (some (t225, true)) = some (r1, r2) := H
          have A14 := Aside0.mk A140
          clear A140
          simp only [Option.some.injEq, Prod.mk.injEq] at H
          obtain ⟨rfl, rfl⟩ := H
          go_wp2_with (first | ((with_reducible refine gate_callee (f := 58) rfl ?_); refine goesL_ (some 21) rfl rfl Tryz.func58 (by kernel_rfl) rfl #[.slice A0 l0.length c0] rfl (by (try simp only [List.map_toArray, List.map_cons, List.map_nil]); first | done | rfl | (simp only [List.length_drop, List.length_take]; rfl)) ?_; (with_reducible refine (spec_l17Text.calls k1 _ _ l0 t225 _ ?side1 ?side2 A14.out).mono ?_); (case side1 => repeat (first | exact (Kd.C_below HR0.out HB.out) | (with_reducible refine Kd.C_alloc ?_ _) | (with_reducible refine Kd.C_drewN ?_ _) | (with_reducible refine Kd.C_drew ?_))); (case side2 => exact HC0.out); rintro e w15 ⟨rfl, hb⟩; refine ⟨_, rfl, ?_⟩; have n0_ := Aside0.mk (below_step (by repeat (first | (with_reducible first | exact HB.out | apply below_alloc | apply pw_below_drewN | apply below_drew1) | exact HB.out)) hb); clear HB; have HB := n0_; clear n0_; (try clear hb); (try clear hb2); (try clear hk); (try clear hi)))
          go_ret2
          exact ⟨by first | rfl | (simp [errW_none, errW_some] <;> rfl) | (simp [*, errW_none, errW_some] <;> rfl), by repeat (first | (with_reducible first | exact HB.out | apply below_alloc | apply pw_below_drewN | apply below_drew1) | exact HB.out)⟩
  · replace c3 := Bool.eq_false_iff.mpr c3
    subst c3
    have H1 : (some ((⟨#[]⟩ : ByteArray), false)) = some (r1, r2) := by rw [if_neg (show ¬ (false = true) by decide)] at H; exact H
    clear H
    have H := H1
    clear H1
    simp only [Option.some.injEq, Prod.mk.injEq] at H
    obtain ⟨rfl, rfl⟩ := H
    go_enter Tryz.func11, Tryz.ntmps11
    go_wp2_with (first | ((with_reducible refine gate_callee (f := 56) rfl ?_); refine goesL_ (some 7) rfl rfl Tryz.func56 (by kernel_rfl) rfl #[.slice A0 l0.length c0] rfl (by (try simp only [List.map_toArray, List.map_cons, List.map_nil]); first | done | rfl | (simp only [List.length_drop, List.length_take]; rfl)) ?_; (with_reducible refine (spec_l17Good.calls k _ _ l0 false _ ?side1 ?side2 A2.out).mono ?_); (case side1 => repeat (first | exact HR0.out | (with_reducible refine Kd.C_alloc ?_ _) | (with_reducible refine Kd.C_drewN ?_ _) | (with_reducible refine Kd.C_drew ?_))); (case side2 => exact HC0.out); rintro e w16 ⟨rfl, hb⟩; refine ⟨_, rfl, ?_⟩; have n0_ := Aside0.mk (below_step (by repeat (first | (with_reducible first | exact HB.out | apply below_alloc | apply pw_below_drewN | apply below_drew1) | exact HB.out)) hb); clear HB; have HB := n0_; clear n0_; (try clear hb); (try clear hb2); (try clear hk); (try clear hi)))
    go_ret2
    exact ⟨by first | rfl | (simp [errW_none, errW_some] <;> rfl) | (simp [*, errW_none, errW_some] <;> rfl), by repeat (first | (with_reducible first | exact HB.out | apply below_alloc | apply pw_below_drewN | apply below_drew1) | exact HB.out)⟩

end Go.Proofs.YthhmkbchdiflcaaGreatDoor.Q
