/- Texts of this claim, merged by a program (wip/tools/merge.py): HJobBase, HReadJobDef, HRoEq, HReadOwner, HReadWord, HReadJob, HPureReadJob, HWalkReadJob. -/
import Derived.Test.YtibfocaldcjiiaaGreatDoorJ2
import Derived.Test.YtibfocaldcjiiaaGreatDoorJ3
import Derived.Test.YtibfocaldcjiiaaGreatDoorJ4
import Derived.Test.YtibfocaldcjiiaaGreatDoorJ5
import Derived.Test.YtibfocaldcjiiaaGreatDoorJ21
import Derived.Test.YtibfocaldcjiiaaGreatDoorJ23
import Derived.Test.YtibfocaldcjiiaaGreatDoorJ25
import Derived.Test.YtibfocaldcjiiaaGreatDoorJ20
import Derived.Test.YtibfocaldcjiiaaGreatDoorJ28
import Derived.Test.YtibfocaldcjiiaaGreatDoorJ13
import Derived.Test.YtibfocaldcjiiaaGreatDoorJ27
import Derived.StillTailTactics
import Derived.Test.YtibfocaldcjiiaaGreatDoorJ8
import Derived.Outline
import Derived.Deep.RegionHeld3
import Derived.Deep.DeepCutAuto
import Derived.Test.YtibfocaldcjiiaaGreatDoorJ14
import Derived.Test.YtibfocaldcjiiaaGreatDoorJ24
/- GoodJob, the program's and the reference's: both come to jobB. -/
namespace Go.Proofs.YtibfocaldcjiiaaGreatDoor.Q
open Go.RowKit Go.Proofs.YtibfocaldcjiiaaGreatDoorW.PrintWords Go.Proofs.YtibfocaldcjiiaaGreatDoorW.PrintLast Go.Proofs.YtibfocaldcjiiaaGreatDoorW.PrintMore
attribute [local go_sem] max2_int min2_int max_two min_two max_three min_three max_four min_four   -- for this text's walks alone
set_option linter.unusedVariables false
set_option linter.unusedSimpArgs false

def ownedB (k u g : Int) : Bool := if k = 4 then (inB (-1) 99 u && inB (-1) 99 g) && !(decide (u = -1) && decide (g = -1)) else decide (u = 0) && decide (g = 0)
def wordB (k : Int) (w : ByteArray) : Bool := if k = 5 then (changeB 0 w.data.toList).2 else if k = 6 then patB w && (bt w 0 != 45) else (w.toList == [])
def flagL (k : Int) : ByteArray := rdOf ByteArray.empty [(⟨#[]⟩ : ByteArray), (⟨#[112]⟩ : ByteArray), (⟨#[102]⟩ : ByteArray), (⟨#[97]⟩ : ByteArray), (⟨#[]⟩ : ByteArray), (⟨#[]⟩ : ByteArray), (⟨#[]⟩ : ByteArray)] k
def jobB (k : Int) (fl w : ByteArray) (u g : Int) (l : List ByteArray) : Bool :=
  inB 1 6 k && ((fl.toList == [] || fl.toList == (flagL k).toList) && (wordB k w && (pathsB k l && ownedB k u g)))
theorem patB_pos (w : ByteArray) (h : patB w = true) : 0 < w.size := by
  unfold patB at h
  simp only [Bool.and_eq_true, decide_eq_true_eq] at h
  omega
theorem isWord_ev (k : Int) (w : ByteArray) (hw : w.size < 4294967281) : Ev (fun n => impl_isWord.f n k w) (wordB k w) := by
  unfold impl_isWord.f wordB
  by_cases h5 : k = 5
  · rw [if_pos h5]
    refine Ev.congr (fun n => by rw [if_pos h5]; rfl) (Ev.bind (f := fun _ t => some t) (Ev.bind (f := fun _ (t : Int × Bool) => some t.2) (implChange_ev 0 w hw) (Ev.now _)) (Ev.now _))
  · rw [if_neg h5]
    refine Ev.congr (fun n => by rw [if_neg h5]) ?_
    by_cases h6 : k = 6
    · rw [show (if k = 6 then patB w && (bt w 0 != 45) else (w.toList == [])) = (patB w && (bt w 0 != 45)) from if_pos h6]
      refine Ev.congr (f := fun _ => some (patB w && (bt w 0 != 45))) (fun n => ?_) (Ev.now _)
      rw [if_pos h6]
      unfold impl_isPattern.f
      simp only [Option.bind_some]
      cases hp : patB w
      · rfl
      · rw [if_pos rfl, if_pos (by have := patB_pos w hp; omega)]; rfl
    · rw [if_neg h6]
      exact Ev.congr (fun n => by rw [if_neg h6]) (Ev.now _)
theorem flagOf_f (k : Int) (h : inB 1 6 k = true) : impl_flagOf.f k = some (flagL k) := by
  unfold inB at h
  simp only [Bool.and_eq_true, decide_eq_true_eq] at h
  unfold impl_flagOf.f flagL
  simp only [Option.bind_some]
  rw [if_pos (by omega), if_pos (by simp; omega)]
theorem flagS_f (k : Int) (h : inB 1 6 k = true) : spec_l15Flag.f k = some (flagL k) := by
  unfold inB at h
  simp only [Bool.and_eq_true, decide_eq_true_eq] at h
  unfold spec_l15Flag.f flagL
  simp only [Option.bind_some]
  rw [if_pos (by omega), if_pos (by simp; omega)]
theorem implJob_j0 (x : Bool) (k : Int) (fl w : ByteArray) (u g : Int) (l : List ByteArray) : Ev (fun n => impl_GoodJob.j0 n x k fl w u g l) (!x && ownedB k u g) := by
  cases x
  · refine Ev.step (f := fun _ => some (ownedB k u g)) (fun n => ?_) (Ev.now _)
    simp only [impl_GoodJob.j0]
    rw [if_neg (by simp)]
    unfold ownedB
    by_cases h4 : k = 4
    · rw [if_pos h4, if_pos h4, areOwners_f]
      simp only [Option.bind_some]
      cases inB (-1) 99 u && inB (-1) 99 g
      · rfl
      · rw [if_pos rfl, Bool.true_and]
        by_cases h1 : u = -1
        · rw [if_pos h1, decide_eq_true h1, Bool.true_and]; rfl
        · rw [if_neg h1, decide_eq_false h1]; rfl
    · rw [if_neg h4, if_neg h4]
      by_cases h1 : u = 0
      · rw [if_pos h1, decide_eq_true h1, Bool.true_and]; rfl
      · rw [if_neg h1, decide_eq_false h1]; rfl
  · refine Ev.step (f := fun _ => some false) (fun n => ?_) (Ev.now _)
    simp only [impl_GoodJob.j0]
    rw [if_pos trivial]
theorem implJob_ev (k : Int) (fl w : ByteArray) (u g : Int) (l : List ByteArray) (hw : w.size < 4294967281) : Ev (fun n => impl_GoodJob.f n k fl w u g l) (jobB k fl w u g l) := by
  unfold impl_GoodJob.f jobB
  rw [within_f]
  simp only [Option.bind_some]
  cases hk : inB 1 6 k
  · exact Ev.congr (fun n => by rw [if_neg (by simp)]) (implJob_j0 true k fl w u g l)
  · refine Ev.congr (fun n => by rw [if_pos rfl]) ?_
    have tail : Ev (fun n => (impl_isWord.f n k w).bind fun t418 => (if t418 = true then ((impl_arePaths.f k l).bind fun t419 => (impl_GoodJob.j0 n (!t419) k fl w u g l)) else (impl_GoodJob.j0 n true k fl w u g l))) (wordB k w && (pathsB k l && ownedB k u g)) := by
      refine Ev.bind (isWord_ev k w hw) ?_
      cases wordB k w
      · exact Ev.congr (fun n => by rw [if_neg (by simp)]) (implJob_j0 true k fl w u g l)
      · refine Ev.congr (f := fun n => impl_GoodJob.j0 n (!pathsB k l) k fl w u g l) (fun n => by rw [if_pos rfl]; rfl) ?_
        have := implJob_j0 (!pathsB k l) k fl w u g l
        rwa [Bool.not_not] at this
    by_cases h1 : fl.toList = []
    · have e : (fl.toList == []) = true := by simpa using h1
      rw [e, Bool.true_or, Bool.true_and, Bool.true_and]
      exact Ev.congr (fun n => by rw [if_pos h1]) tail
    · have e : (fl.toList == []) = false := by simpa using h1
      rw [e, Bool.false_or, Bool.true_and]
      refine Ev.congr (fun n => by rw [if_neg h1, flagOf_f k hk]) ?_
      by_cases h2 : fl.toList = (flagL k).toList
      · have e2 : (fl.toList == (flagL k).toList) = true := by simpa using h2
        rw [e2, Bool.true_and]
        exact Ev.congr (fun n => by simp only [Option.bind_some]; rw [if_pos h2]) tail
      · have e2 : (fl.toList == (flagL k).toList) = false := by simpa using h2
        rw [e2, Bool.false_and]
        exact Ev.congr (fun n => by simp only [Option.bind_some]; rw [if_neg h2]) (implJob_j0 true k fl w u g l)
/-! the reference -/
theorem one_name (c : Int) (hc : 0 ≤ c ∧ c ≤ 255) (p : ByteArray) (hp : p.size = 2) (h0 : bt p 0 = 97) (h1 : bt p 1 = c) : nameOkB p = nameB c := by
  have hl := data_length p
  have hb : bytesOf p = [97, c] := by
    apply List.ext_getElem
    · rw [bytesOf_length, hp]; rfl
    · intro i hi hi2
      have h3 := rd_bytesOf p (i : Int)
      have : (bytesOf p)[i] = rd (bytesOf p) (i : Int) := by simp [rd, List.getD, List.getElem?_eq_getElem hi]
      rw [this, h3]
      have hi3 : i = 0 ∨ i = 1 := by simp at hi2; omega
      rcases hi3 with rfl | rfl
      · exact h0
      · exact h1
  unfold nameOkB partB
  rw [hb, hp]
  have e1 : ¬ p.toList = [46] := fun e => by
    rw [ByteArray.toList_eq] at e
    have := congrArg List.length e
    rw [hl, hp] at this
    simp at this
  have e2 : ¬ p.toList = [46, 46] := fun e => by
    rw [ByteArray.toList_eq] at e
    have h3 := getD_bt p 0 (by omega)
    rw [e] at h3
    have : bt p 0 = 46 := h3
    omega
  have f1 : (p.toList == [46]) = false := by simpa using e1
  have f2 : (p.toList == [46, 46]) = false := by simpa using e2
  rw [f1, f2]
  have h97 : nameB 97 = true := by decide
  simp [h97]
theorem l11Form_loop (s : ByteArray) (hs : s.size < 4294967281) (d : Nat) : ∀ i : Nat, i + d = s.size → Ev (fun k => spec_l11Form.l0 k s (i : Int)) (((bytesOf s).drop i).all patSign && inB 1 20 s.size) := by
  induction d with
  | zero =>
    intro i hi
    refine Ev.step (f := fun _ => some (inB 1 20 s.size)) (fun k => ?_) ?_
    · simp only [spec_l11Form.l0]
      rw [if_neg (by omega), l1In_f]
      rfl
    · rw [List.drop_of_length_le (by rw [bytesOf_length]; omega)]
      simpa using Ev.now (inB 1 20 (s.size : Int))
  | succ d ih =>
    intro i hi
    have hlt : i < s.size := by omega
    have hw := step_n (i := i) (n := s.size) hlt (by omega)
    have hdrop : (bytesOf s).drop i = bt s i :: (bytesOf s).drop (i + 1) := by
      rw [List.drop_eq_getElem_cons (by rw [bytesOf_length]; exact hlt)]
      congr 1
      have := rd_bytesOf s (i : Int)
      rw [← this]
      simp [rd, rdOf, List.getD, bytesOf_length, hlt]
    have hsz : (s.extract i (i + 1)).size = 1 := by simp; omega
    have hp : ((⟨#[97]⟩ : ByteArray) ++ (s.extract i (i + 1))).size = 2 := by rw [ByteArray.size_append, hsz]; rfl
    have hd : ((⟨#[97]⟩ : ByteArray) ++ (s.extract i (i + 1))).data.toList = [97, s.data.toList[i]'(by rw [data_length]; exact hlt)] := by
      rw [ByteArray.data_append, Array.toList_append, extract_list]
      have : (s.data.toList.take (i + 1)).drop i = [s.data.toList[i]'(by rw [data_length]; exact hlt)] := by
        rw [List.take_succ_eq_append_getElem (by rw [data_length]; exact hlt), List.drop_append_of_le_length (by rw [List.length_take, data_length]; omega), List.drop_of_length_le (by rw [List.length_take, data_length]; omega)]
        rfl
      rw [this]; rfl
    have hname := one_name (bt s i) (bt_range s i) _ hp (by rw [show (0 : Int) = ((0 : Nat) : Int) from rfl, getD_bt _ 0 (by omega), hd]; rfl) (by rw [show (1 : Int) = ((1 : Nat) : Int) from rfl, getD_bt _ 1 (by omega), hd, bt_data s i hlt]; rfl)
    have e : ∀ k, spec_l11Form.l0 (k + 1) s (i : Int) = if (bt s i = 42 ∨ bt s i = 63) then spec_l11Form.l0 k s ((i + 1 : Nat) : Int) else (spec_l2Name.f k ((⟨#[97]⟩ : ByteArray) ++ (s.extract i (i + 1)))).bind fun t361 => (if t361 = true then (spec_l11Form.l0 k s ((i + 1 : Nat) : Int)) else (some false)) := fun k => by
      simp only [spec_l11Form.l0]
      rw [if_pos (by omega), if_pos (by omega)]
      by_cases h1 : bt s i = 42
      · rw [if_pos h1, if_pos (.inl h1), hw]
      · rw [if_neg h1]
        by_cases h2 : bt s i = 63
        · rw [if_pos h2, if_pos (.inr h2), hw]
        · rw [if_neg h2, hw, if_pos (by omega), if_pos (by omega), Int.toNat_natCast, Int.toNat_natCast, if_pos (by omega), if_neg (show ¬ (bt s i = 42 ∨ bt s i = 63) from fun h => h.elim h1 h2)]
    rw [hdrop, List.all_cons]
    by_cases h12 : bt s i = 42 ∨ bt s i = 63
    · have hq : patSign (bt s i) = true := by
        unfold patSign
        rcases h12 with h | h <;> rw [h] <;> decide
      rw [hq, Bool.true_and]
      exact Ev.step (fun k => by rw [e k, if_pos h12]) (ih (i + 1) (by omega))
    · refine Ev.step (fun k => by rw [e k, if_neg h12]) ?_
      refine Ev.bind (l2Name_ev _ (by omega)) ?_
      rw [hname]
      have hq : patSign (bt s i) = nameB (bt s i) := by
        unfold patSign
        have h1 : (bt s i == 42) = false := by simpa using fun h => h12 (.inl h)
        have h2 : (bt s i == 63) = false := by simpa using fun h => h12 (.inr h)
        rw [h1, h2]; simp
      rw [hq]
      cases nameB (bt s i)
      · exact Ev.now _
      · rw [Bool.true_and]
        exact Ev.congr (fun k => by rw [if_pos rfl]) (ih (i + 1) (by omega))
theorem l11Form_ev (s : ByteArray) (hs : s.size < 4294967281) : Ev (fun k => spec_l11Form.f k s) (patB s) := by
  have h := l11Form_loop s hs s.size 0 (by omega)
  have e : (((bytesOf s).drop 0).all patSign && inB 1 20 s.size) = patB s := by
    unfold patB
    rw [List.drop_zero, List.all_eq_not_any_not, show inB 1 20 (s.size : Int) = (decide (1 ≤ s.size) && decide (s.size ≤ 20)) from inB_nat 1 20 s.size]
    cases (bytesOf s).any (fun b => !patSign b) <;> cases decide (1 ≤ s.size) <;> cases decide (s.size ≤ 20) <;> rfl
  rw [← e]; exact h
theorem l15Word_ev (k : Int) (fl w : ByteArray) (u g : Int) (l : List ByteArray) (hw : w.size < 4294967281) : Ev (fun n => spec_l15Word.f n k fl w u g l) (wordB k w) := by
  unfold spec_l15Word.f wordB
  by_cases h5 : k = 5
  · rw [if_pos h5]
    refine Ev.congr (fun n => by rw [if_pos h5]) (Ev.bind (f := fun _ (t : Int × Bool) => some t.2) (specChange_ev 0 w hw) (Ev.now _))
  · rw [if_neg h5]
    refine Ev.congr (fun n => by rw [if_neg h5]) ?_
    by_cases h6 : k = 6
    · rw [if_pos h6]
      refine Ev.congr (fun n => by rw [if_pos h6]) (Ev.bind (l11Form_ev w hw) ?_)
      cases hp : patB w
      · exact Ev.now _
      · have h0 := patB_pos w hp
        exact Ev.congr (f := fun _ => some (bt w 0 != 45)) (fun n => by rw [if_pos rfl, if_pos (by omega)]) (Ev.now _)
    · rw [if_neg h6]
      exact Ev.congr (fun n => by rw [if_neg h6]) (Ev.now _)
theorem l15Owned_f (k : Int) (fl w : ByteArray) (u g : Int) (l : List ByteArray) : spec_l15Owned.f k fl w u g l = some (ownedB k u g) := by
  unfold spec_l15Owned.f ownedB
  rw [l1In_f, l1In_f]
  by_cases h4 : k = 4
  · rw [if_pos h4, if_pos h4]
    simp only [Option.bind_some]
    cases hu : inB (-1) 99 u
    · rfl
    · cases hg : inB (-1) 99 g
      · rfl
      · unfold inB at hu hg
        simp only [Bool.and_eq_true, decide_eq_true_eq] at hu hg
        have e : wrap64 (u + g) = u + g := by unfold wrap64; omega
        rw [e]
        simp only [if_true, Bool.true_and, Bool.and_self]
        congr 1
        rw [Bool.eq_iff_iff]
        simp
        omega
  · rw [if_neg h4, if_neg h4]
    by_cases h1 : u = 0
    · rw [if_pos h1, decide_eq_true h1, Bool.true_and]; rfl
    · rw [if_neg h1, decide_eq_false h1]; rfl
theorem l2Whole_ev (s : ByteArray) (hs : s.size < 4294967281) : Ev (fun k => spec_l2Whole.f k s) (wholeB s) := by
  refine Ev.bind (l2Path_ev s hs) ?_
  unfold wholeB
  cases h : goodPathB s
  · exact Ev.now _
  · have h0 : 0 < s.size := by
      rcases Nat.eq_zero_or_pos s.size with h0 | h0
      · have e : nilB s = true := decide_eq_true h0
        unfold goodPathB longB at h
        rw [e] at h
        simp at h
      · exact h0
    exact Ev.congr (f := fun _ => some (bt s 0 == 47)) (fun k => by rw [if_pos rfl, if_pos (by omega)]) (Ev.now _)
def countB' (k : Int) (l : List ByteArray) : Bool := if k = 1 then l.length == 2 else if k = 6 then l.length == 1 else inB 1 10 l.length
theorem specJob_l0 (k : Int) (fl w : ByteArray) (u g : Int) (l : List ByteArray) (hl : l.length ≤ 4294967282) (hs : ∀ x ∈ l, x.size < 4294967281) (d : Nat) : ∀ i : Nat, i + d = l.length →
    Ev (fun n => spec_GoodJob.l0 n l (l.length : Int) (i : Int) k fl w u g l) ((l.drop i).all wholeB && countB' k l) := by
  induction d with
  | zero =>
    intro i hi
    refine Ev.step (f := fun _ => some (countB' k l)) (fun n => ?_) ?_
    · simp only [spec_GoodJob.l0]
      rw [if_neg (by omega), l1In_f]
      unfold countB'
      by_cases h1 : k = 1
      · rw [if_pos h1, if_pos h1]
        congr 1
        rw [Bool.eq_iff_iff]; simp; omega
      · rw [if_neg h1, if_neg h1]
        by_cases h6 : k = 6
        · rw [if_pos h6, if_pos h6]
          congr 1
          rw [Bool.eq_iff_iff]; simp; omega
        · rw [if_neg h6, if_neg h6]; rfl
    · rw [List.drop_of_length_le (by omega)]; simpa using Ev.now (countB' k l)
  | succ d ih =>
    intro i hi
    have hlt : i < l.length := by omega
    have hw := step_n (i := i) (n := l.length) hlt (by omega)
    rw [List.drop_eq_getElem_cons hlt, List.all_cons]
    refine Ev.step (f := fun n => (spec_l2Whole.f n l[i]).bind fun t379 => (if t379 = true then (spec_GoodJob.l0 n l (l.length : Int) ((i + 1 : Nat) : Int) k fl w u g l) else (some false))) (fun n => ?_) ?_
    · simp only [spec_GoodJob.l0]
      rw [if_pos (by omega), if_pos (by omega), if_pos (by omega), rdS _ _ hlt, hw]
    · refine Ev.bind (l2Whole_ev l[i] (hs _ (List.getElem_mem hlt))) ?_
      cases wholeB l[i]
      · exact Ev.now _
      · rw [Bool.true_and]
        exact Ev.congr (fun n => by rw [if_pos rfl]) (ih (i + 1) (by omega))
theorem specJob_j0 (x : Bool) (k : Int) (fl w : ByteArray) (u g : Int) (l : List ByteArray) (hl : l.length ≤ 4294967282) (hs : ∀ x ∈ l, x.size < 4294967281) : Ev (fun n => spec_GoodJob.j0 n x k fl w u g l) (!x && pathsB k l) := by
  cases x
  · refine Ev.step (f := fun n => spec_GoodJob.l0 n l (l.length : Int) ((0 : Nat) : Int) k fl w u g l) (fun n => ?_) ?_
    · simp only [spec_GoodJob.j0]; rw [if_neg (by simp)]; rfl
    · have h := specJob_l0 k fl w u g l hl hs l.length 0 (by omega)
      have e : ((l.drop 0).all wholeB && countB' k l) = (!false && pathsB k l) := by
        unfold pathsB
        rw [List.drop_zero, List.all_eq_not_any_not]
        show _ = (countB' k l && _)
        cases countB' k l <;> cases l.any (fun s => !wholeB s) <;> rfl
      rw [← e]; exact h
  · refine Ev.step (f := fun _ => some false) (fun n => ?_) (Ev.now _)
    simp only [spec_GoodJob.j0]
    rw [if_pos trivial]
theorem specJob_ev (k : Int) (fl w : ByteArray) (u g : Int) (l : List ByteArray) (hw : w.size < 4294967281) (hl : l.length ≤ 4294967282) (hs : ∀ x ∈ l, x.size < 4294967281) : Ev (fun n => spec_GoodJob.f n k fl w u g l) (jobB k fl w u g l) := by
  unfold spec_GoodJob.f jobB
  rw [l1In_f]
  simp only [Option.bind_some]
  cases hk : inB 1 6 k
  · exact Ev.congr (fun n => by rw [if_neg (by simp)]) (specJob_j0 true k fl w u g l hl hs)
  · refine Ev.congr (fun n => by rw [if_pos rfl]) ?_
    have tail : Ev (fun n => (spec_l15Word.f n k fl w u g l).bind fun t373 => (if t373 = true then ((spec_l15Owned.f k fl w u g l).bind fun t374 => (spec_GoodJob.j0 n (!t374) k fl w u g l)) else (spec_GoodJob.j0 n true k fl w u g l))) (wordB k w && (pathsB k l && ownedB k u g)) := by
      refine Ev.bind (l15Word_ev k fl w u g l hw) ?_
      cases wordB k w
      · exact Ev.congr (fun n => by rw [if_neg (by simp)]) (specJob_j0 true k fl w u g l hl hs)
      · refine Ev.congr (f := fun n => spec_GoodJob.j0 n (!ownedB k u g) k fl w u g l) (fun n => by rw [if_pos rfl, l15Owned_f]; rfl) ?_
        have := specJob_j0 (!ownedB k u g) k fl w u g l hl hs
        rw [Bool.not_not] at this
        rw [Bool.true_and, Bool.and_comm]; exact this
    by_cases h1 : fl.toList = []
    · have e : (fl.toList == []) = true := by simpa using h1
      rw [e, Bool.true_or, Bool.true_and, Bool.true_and]
      exact Ev.congr (fun n => by rw [if_pos h1]) tail
    · have e : (fl.toList == []) = false := by simpa using h1
      rw [e, Bool.false_or, Bool.true_and]
      refine Ev.congr (fun n => by rw [if_neg h1, flagS_f k hk]) ?_
      by_cases h2 : fl.toList = (flagL k).toList
      · have e2 : (fl.toList == (flagL k).toList) = true := by simpa using h2
        rw [e2, Bool.true_and]
        exact Ev.congr (fun n => by simp only [Option.bind_some]; rw [if_pos h2]) tail
      · have e2 : (fl.toList == (flagL k).toList) = false := by simpa using h2
        rw [e2, Bool.false_and]
        exact Ev.congr (fun n => by simp only [Option.bind_some]; rw [if_neg h2]) (specJob_j0 true k fl w u g l hl hs)

end Go.Proofs.YtibfocaldcjiiaaGreatDoor.Q

/- What the words of a job come to: the pure answer of ReadJob, for both sides. -/
namespace Go.Proofs.YtibfocaldcjiiaaGreatDoor.Q
open Go.RowKit Go.Proofs.YtibfocaldcjiiaaGreatDoorW.PrintWords Go.Proofs.YtibfocaldcjiiaaGreatDoorW.PrintLast Go.Proofs.YtibfocaldcjiiaaGreatDoorW.PrintMore
attribute [local go_sem] max2_int min2_int max_two min_two max_three min_three max_four min_four   -- for this text's walks alone
set_option linter.unusedVariables false
set_option linter.unusedSimpArgs false

abbrev JobAns := Int × ByteArray × ByteArray × Int × Int × List ByteArray × Int × Bool
def badJob (c : Int) : JobAns := (0, ⟨#[]⟩, ⟨#[]⟩, 0, 0, [], c, false)
def wordL (k : Int) : ByteArray := rdOf ByteArray.empty [(⟨#[]⟩ : ByteArray), (⟨#[99, 112]⟩ : ByteArray), (⟨#[114, 109]⟩ : ByteArray), (⟨#[100, 117]⟩ : ByteArray), (⟨#[99, 104, 111, 119, 110]⟩ : ByteArray), (⟨#[99, 104, 109, 111, 100]⟩ : ByteArray), (⟨#[102, 105, 110, 100]⟩ : ByteArray)] k
/-- The kind after `n` of the six words were looked at. -/
def kindUp (w : ByteArray) : Nat → Int
  | 0 => 0
  | n + 1 => if w.toList = (wordL ((n : Int) + 1)).toList then (n : Int) + 1 else kindUp w n
def rjEnd (k : Int) (fl w : ByteArray) (u g : Int) (l : List ByteArray) : JobAns :=
  if jobB k fl w u g l = true then (k, fl, w, u, g, l, 0, true) else badJob 4
def rjWord (k : Int) (fl : ByteArray) (l : List ByteArray) : JobAns :=
  if 4 ≤ k then
    match l with
    | [] => badJob 3
    | x :: r =>
      if k = 4 then
        (if (ownP (spl 58 x.data.toList)).2.2 = true then rjEnd k fl ⟨#[]⟩ (ownP (spl 58 x.data.toList)).1 (ownP (spl 58 x.data.toList)).2.1 r else badJob 3)
      else if wordB k x = true then rjEnd k fl x 0 0 r else badJob 3
  else rjEnd k fl ⟨#[]⟩ 0 0 l
def rjFlag (k : Int) (l : List ByteArray) : JobAns :=
  match l with
  | [] => rjWord k ⟨#[]⟩ []
  | x :: r =>
    if 0 < x.size ∧ bt x 0 = 45 then
      (if (x.extract 1 x.size).toList = [] ∨ (x.extract 1 x.size).toList ≠ (flagL k).toList then badJob 2 else rjWord k (x.extract 1 x.size) r)
    else rjWord k ⟨#[]⟩ l
def rjAll (l : List ByteArray) : JobAns :=
  match l with
  | [] => badJob 1
  | x :: r => if l.length ≤ 20 then (if kindUp x 6 = 0 then badJob 1 else rjFlag (kindUp x 6) r) else badJob 1
theorem wordL_f (k : Int) (h : inB 1 6 k = true) : impl_jobWord.f k = some (wordL k) := by
  unfold inB at h
  simp only [Bool.and_eq_true, decide_eq_true_eq] at h
  unfold impl_jobWord.f
  simp only [Option.bind_some]
  rw [if_pos (by omega), if_pos (by simp only [List.length_cons, List.length_nil]; omega)]
  rfl

end Go.Proofs.YtibfocaldcjiiaaGreatDoor.Q

/- The program's ReadOwner comes to the parts' answer. -/
namespace Go.Proofs.YtibfocaldcjiiaaGreatDoor.Q
open Go.RowKit Go.Proofs.YtibfocaldcjiiaaGreatDoorW.PrintWords Go.Proofs.YtibfocaldcjiiaaGreatDoorW.PrintLast Go.Proofs.YtibfocaldcjiiaaGreatDoorW.PrintMore
attribute [local go_sem] max2_int min2_int max_two min_two max_three min_three max_four min_four   -- for this text's walks alone
set_option linter.unusedVariables false
set_option linter.unusedSimpArgs false

theorem digB_list (n : Int) : (digB n).toList = digs n := by rw [ByteArray.toList_eq]; rfl
theorem ownB_list (u g : Int) : (ownB u g).toList = ownL u g := by
  unfold ownB ownL
  have e0 : (⟨#[]⟩ : ByteArray).toList = [] := by rw [ByteArray.toList_eq]
  have ea : ∀ a b : ByteArray, (a ++ b).toList = a.toList ++ b.toList := fun a b => by
    rw [ByteArray.toList_eq, ByteArray.toList_eq, ByteArray.toList_eq, ByteArray.data_append, Array.toList_append]
  have e1 : (⟨#[58]⟩ : ByteArray).toList = [58] := by rw [ByteArray.toList_eq]
  by_cases h : g = -1
  · rw [if_pos h, if_pos h]
    by_cases h2 : u = -1
    · rw [if_pos h2, if_pos h2, e0]
    · rw [if_neg h2, if_neg h2, digB_list]
  · rw [if_neg h, if_neg h, ea, ea, e1, digB_list]
    by_cases h2 : u = -1
    · rw [if_pos h2, if_pos h2, e0]; rfl
    · rw [if_neg h2, if_neg h2, digB_list]; rfl
theorem roB_eq (s : ByteArray) : roB s = ownP (spl 58 s.data.toList) := by
  rw [← roL_eq]
  unfold roB roL roV roVL cutL
  have e : ∀ l : List UInt8, atoiV ⟨l.toArray⟩ = atoiL l := fun l => by unfold atoiV atoiL; rfl
  rw [e, e, ByteArray.toList_eq]
  generalize (if (Lib.cut s.data.toList [58]).1 = [] then (-1 : Int) else atoiL (Lib.cut s.data.toList [58]).1) = u
  generalize (if (Lib.cut s.data.toList [58]).2.2 = true then atoiL (Lib.cut s.data.toList [58]).2.1 else (-1 : Int)) = g
  rw [ownB_list]
  rfl
theorem cut_lens (s : List UInt8) : (Lib.cut s [58]).1.length ≤ s.length ∧ (Lib.cut s [58]).2.1.length ≤ s.length := by
  unfold Lib.cut
  split
  · constructor
    · simp only [List.length_take]; omega
    · simp only [List.length_drop]; omega
  · simp

end Go.Proofs.YtibfocaldcjiiaaGreatDoor.Q

/- impl.ReadOwner, for printed callers. -/
namespace Go.Proofs.YtibfocaldcjiiaaGreatDoor.Q
open Go.RowKit Go.Proofs.YtibfocaldcjiiaaGreatDoorW.PrintWords Go.Proofs.YtibfocaldcjiiaaGreatDoorW.PrintLast Go.Proofs.YtibfocaldcjiiaaGreatDoorW.PrintMore
attribute [local go_sem] max2_int min2_int max_two min_two max_three min_three max_four min_four   -- for this text's walks alone
set_option linter.unusedVariables false
set_option linter.unusedSimpArgs false

def impl_ReadOwner.f (s : ByteArray) : Option (Int × Int × Bool) := if s.size < 4294967281 then some (ownP (spl 58 s.data.toList)) else none
theorem impl_ReadOwner.calls (a0 : ByteArray) (r1 : Int) (r2 : Int) (r3 : Bool) (w : World) (h : impl_ReadOwner.f a0 = some (r1, r2, r3)) (hE : Env w) :
    Calls Tryz.prog 47 #[.string a0] w fun e w' => e = .returned (.tuple #[.int .i64 r1, .int .i64 r2, .bool r3]) ∧ Below w.heap.size w w' := by
  unfold impl_ReadOwner.f at h
  split at h
  case isFalse => cases h
  rename_i hs
  injection h with h
  have hc := cut_lens a0.data.toList
  have hl := data_length a0
  have e1 : r1 = (roB a0).1 := by rw [roB_eq, h]
  have e2 : r2 = (roB a0).2.1 := by rw [roB_eq, h]
  have e3 : r3 = (roB a0).2.2 := by rw [roB_eq, h]
  rw [e1, e2, e3]
  exact impl_ReadOwner_walk a0 hs (by unfold cutL; omega) (by unfold cutL; omega) w hE

end Go.Proofs.YtibfocaldcjiiaaGreatDoor.Q

/- (*Job).readWord: the word that a kind must have. -/
namespace Go.Proofs.YtibfocaldcjiiaaGreatDoor.Q
open Go.RowKit Go.Proofs.YtibfocaldcjiiaaGreatDoorW.PrintWords Go.Proofs.YtibfocaldcjiiaaGreatDoorW.PrintLast Go.Proofs.YtibfocaldcjiiaaGreatDoorW.PrintMore
attribute [local go_sem] max2_int min2_int max_two min_two max_three min_three max_four min_four   -- for this text's walks alone
set_option linter.unusedVariables false
set_option linter.unusedSimpArgs false

/-- The six cells of a job. -/
structure JobAt (w : World) (B : Nat) (k : Int) (fl wd : ByteArray) (u g : Int) (v : Value) : Prop where
  h0 : w.cell? ⟨B, 0, none⟩ = some (.int .i64 k)
  h1 : w.cell? ⟨B, 1, none⟩ = some (.string fl)
  h2 : w.cell? ⟨B, 2, none⟩ = some (.string wd)
  h3 : w.cell? ⟨B, 3, none⟩ = some (.int .i64 u)
  h4 : w.cell? ⟨B, 4, none⟩ = some (.int .i64 g)
  h5 : w.cell? ⟨B, 5, none⟩ = some v
  fz : ∀ o, w.frozen? ⟨B, o, none⟩ = false
theorem JobAt.below {w w' : World} {B : Nat} {k : Int} {fl wd : ByteArray} {u g : Int} {v : Value} (h : JobAt w B k fl wd u g v) (hb : Below w.heap.size w w') : JobAt w' B k fl wd u g v := by
  have hl := World.block_lt_of_cell? _ _ h.h0
  exact ⟨(hb.cell (p := ⟨B, 0, none⟩) hl).trans h.h0, (hb.cell (p := ⟨B, 1, none⟩) hl).trans h.h1, (hb.cell (p := ⟨B, 2, none⟩) hl).trans h.h2, (hb.cell (p := ⟨B, 3, none⟩) hl).trans h.h3, (hb.cell (p := ⟨B, 4, none⟩) hl).trans h.h4, (hb.cell (p := ⟨B, 5, none⟩) hl).trans h.h5, fun o => (hb.frozen (p := ⟨B, o, none⟩) hl).trans (h.fz o)⟩
theorem JobAt.set3 {w : World} {B : Nat} {k : Int} {fl wd : ByteArray} {u g : Int} {v : Value} (h : JobAt w B k fl wd u g v) (y : Int) : JobAt (w.setCell ⟨B, 3, none⟩ (.int .i64 y)) B k fl wd y g v := by
  have key : ∀ o : Nat, o ≠ 3 → (w.setCell ⟨B, 3, none⟩ (.int .i64 y)).cell? ⟨B, o, none⟩ = w.cell? ⟨B, o, none⟩ := fun o ho => World.cell?_setCell_other (w := w) (v := (.int .i64 y)) (a := ⟨B, 3, none⟩) (b := ⟨B, o, none⟩) (by intro e; injection e with _ e2; exact ho e2.symm)
  exact ⟨(key 0 (by decide)).trans h.h0, (key 1 (by decide)).trans h.h1, (key 2 (by decide)).trans h.h2, World.cell?_setCell_same _ _ _ h.h3, (key 4 (by decide)).trans h.h4, (key 5 (by decide)).trans h.h5, fun o => (World.frozen?_setCell _ _ _ _).trans (h.fz o)⟩
theorem JobAt.set4 {w : World} {B : Nat} {k : Int} {fl wd : ByteArray} {u g : Int} {v : Value} (h : JobAt w B k fl wd u g v) (y : Int) : JobAt (w.setCell ⟨B, 4, none⟩ (.int .i64 y)) B k fl wd u y v := by
  have key : ∀ o : Nat, o ≠ 4 → (w.setCell ⟨B, 4, none⟩ (.int .i64 y)).cell? ⟨B, o, none⟩ = w.cell? ⟨B, o, none⟩ := fun o ho => World.cell?_setCell_other (w := w) (v := (.int .i64 y)) (a := ⟨B, 4, none⟩) (b := ⟨B, o, none⟩) (by intro e; injection e with _ e2; exact ho e2.symm)
  exact ⟨(key 0 (by decide)).trans h.h0, (key 1 (by decide)).trans h.h1, (key 2 (by decide)).trans h.h2, (key 3 (by decide)).trans h.h3, World.cell?_setCell_same _ _ _ h.h4, (key 5 (by decide)).trans h.h5, fun o => (World.frozen?_setCell _ _ _ _).trans (h.fz o)⟩
set_option maxHeartbeats 4000000 in
set_option maxRecDepth 100000 in
theorem readWord_none (w : World) (B : Nat) (A0 : Option Addr) (c0 : Nat) :
    Calls Tryz.prog 99 #[.pointer (some ⟨B, 0, none⟩), .slice A0 0 c0] w fun e w' => e = .returned (.bool false) ∧ Below w.heap.size w w' := by
  go_enter Tryz.func99, Tryz.ntmps99
  go_wp2_with fail
  go_ret
  exact ⟨by first | rfl | (simp; done), by repeat (first | exact Below.refl _ _ | apply below_alloc | apply pw_below_drewN | apply below_drew1)⟩
set_option maxHeartbeats 4000000 in
set_option maxRecDepth 100000 in
theorem readWord_word (w : World) (B : Nat) (ad : Addr) (n c0 : Nat) (hn : 0 < n) (x : ByteArray) (hx : w.cell? ad = some (.string x)) (k : Int) (fl wd : ByteArray) (u g : Int) (v : Value) (hj : JobAt w B k fl wd u g v)
    (hk : k ≠ 4) (r : Bool) (kf : Nat) (hr : impl_isWord.f kf k x = some r) (hb : ad.block < B) :
    Calls Tryz.prog 99 #[.pointer (some ⟨B, 0, none⟩), .slice (some ad) n c0] w fun e w' => e = .returned (.bool r) ∧ Below B w w' ∧ JobAt w' B k fl x u g v := by
  have hu1 := Tryz.underlying49
  have HI := Aside0.mk (fun W => impl_isWord.calls kf k x r W hr)
  have HJ := Aside0.mk hj
  obtain ⟨h0, h1, h2, h3, h4, h5, hz⟩ := hj
  have hz2 := hz 2
  have p1 : ((n : Int) = 0) = False := eq_false (by omega)
  have p1b : decide ((n : Int) = 0) = false := by simp; omega
  have p2 : (k = 4) = False := eq_false hk
  have p2b : decide (k = 4) = false := by simp [hk]
  have p3 : ((0 : Int) < (n : Int)) = True := eq_true (by omega)
  go_enter Tryz.func99, Tryz.ntmps99
  go_wp2_with fail
  have g0 : (w.setCell ⟨B, 2, none⟩ (.string x)).cell? ⟨B, 0, none⟩ = some (.int .i64 k) := by
    first | exact (World.cell?_setCell_other (w := w) (v := .string x) (a := ⟨B, 2, none⟩) (b := ⟨B, 0, none⟩) (by intro e; injection e with _ e2; cases e2)).trans h0 | (go_simp; exact h0) | go_simp
  have g2 : (w.setCell ⟨B, 2, none⟩ (.string x)).cell? ⟨B, 2, none⟩ = some (.string x) := by
    exact World.cell?_setCell_same _ _ _ h2
  generalize hW : w.setCell ⟨B, 2, none⟩ (.string x) = W at g0 g2 ⊢
  have g0' : W.drew.cell? ⟨B, 0, none⟩ = some (.int .i64 k) := g0
  have g2' : W.drew.cell? ⟨B, 2, none⟩ = some (.string x) := g2
  go_still_tail 8, (by kernel_rfl)
  change wpList _ _ _ _ _ W.drew
  have hBW : Below B w W.drew := by rw [← hW]; exact below_drew1 ((Below.refl B w).setCell (Nat.le_refl _) _)
  have hJW : JobAt W.drew B k fl x u g v := by
    have key : ∀ o : Nat, o ≠ 2 → W.cell? ⟨B, o, none⟩ = w.cell? ⟨B, o, none⟩ := fun o ho => by
      rw [← hW]; exact World.cell?_setCell_other (w := w) (v := .string x) (a := ⟨B, 2, none⟩) (b := ⟨B, o, none⟩) (by intro e; injection e with _ e2; exact ho e2.symm)
    exact ⟨g0', (key 1 (by decide)).trans h1, g2', (key 3 (by decide)).trans h3, (key 4 (by decide)).trans h4, (key 5 (by decide)).trans h5, fun o => by
      have e : W.frozen? ⟨B, o, none⟩ = w.frozen? ⟨B, o, none⟩ := by rw [← hW]; exact World.frozen?_setCell _ _ _ _
      exact e.trans (hz o)⟩
  generalize W.drew = W2 at g0' g2' hBW hJW ⊢
  clear hW g0 g2
  go_wp2_with fail
  refine (HI.out _).mono ?_; rintro e w1 ⟨rfl, hd⟩
  go_wp2
  go_ret
  have hBs : B ≤ W2.heap.size := Nat.le_of_lt (World.block_lt_of_cell? _ _ g0')
  exact ⟨by first | rfl | (simp; done), below_then hBW hBs hd, hJW.below hd⟩
set_option maxHeartbeats 4000000 in
set_option maxRecDepth 100000 in
theorem readWord_own (w : World) (B : Nat) (ad : Addr) (n c0 : Nat) (hn : 0 < n) (x : ByteArray) (hx : w.cell? ad = some (.string x)) (fl wd : ByteArray) (u g : Int) (v : Value) (hj : JobAt w B 4 fl wd u g v)
    (u' g' : Int) (r : Bool) (hr : impl_ReadOwner.f x = some (u', g', r)) (hE : Env w) :
    Calls Tryz.prog 99 #[.pointer (some ⟨B, 0, none⟩), .slice (some ad) n c0] w fun e w' => e = .returned (.bool r) ∧ Below B w w' ∧ JobAt w' B 4 fl wd u' g' v := by
  have hu1 := Tryz.underlying49
  have HI := Aside0.mk (fun W => impl_ReadOwner.calls x u' g' r W hr)
  have hjl := World.block_lt_of_cell? _ _ hj.h0
  have HJ := Aside0.mk hj
  obtain ⟨h0, h1, h2, h3, h4, h5, hz⟩ := hj
  have p1 : ((n : Int) = 0) = False := eq_false (by omega)
  have p1b : decide ((n : Int) = 0) = false := by simp; omega
  have p3 : ((0 : Int) < (n : Int)) = True := eq_true (by omega)
  go_enter Tryz.func99, Tryz.ntmps99
  go_wp2_with fail
  refine (HI.out _ hE).mono ?_; rintro e w1 ⟨rfl, hd⟩
  have hJ1 := HJ.out.below hd
  have z3 := hJ1.fz 3
  have z4 := hJ1.fz 4
  have c3 := hJ1.h3
  have c4 := hJ1.h4
  go_wp2
  go_ret
  have hBs : B ≤ w1.heap.size := Nat.le_of_lt (World.block_lt_of_cell? _ _ c3)
  have hb1 : Below B w w1 := ⟨hd.os, hd.tape, hd.output, hd.size, fun i hi => hd.block i (Nat.lt_trans hi hjl)⟩
  exact ⟨by first | rfl | (simp; done), (hb1.setCell (Nat.le_refl _) _).setCell (Nat.le_refl _) _, (hJ1.set3 u').set4 g'⟩

end Go.Proofs.YtibfocaldcjiiaaGreatDoor.Q

/- impl.ReadJob: the walk. -/
namespace Go.Proofs.YtibfocaldcjiiaaGreatDoor.Q
open Go.RowKit Go.Proofs.YtibfocaldcjiiaaGreatDoorW.PrintWords Go.Proofs.YtibfocaldcjiiaaGreatDoorW.PrintLast Go.Proofs.YtibfocaldcjiiaaGreatDoorW.PrintMore
attribute [local go_sem] max2_int min2_int max_two min_two max_three min_three max_four min_four   -- for this text's walks alone
set_option linter.unusedVariables false
set_option linter.unusedSimpArgs false

abbrev zeroJob : Array Value := #[.int .i64 0, .string (⟨#[]⟩ : ByteArray), .string (⟨#[]⟩ : ByteArray), .int .i64 0, .int .i64 0, .slice none 0 0]
def ansJob (a : JobAns) (v : Value) : Value := .tuple #[.agg #[.int .i64 a.1, .string a.2.1, .string a.2.2.1, .int .i64 a.2.2.2.1, .int .i64 a.2.2.2.2.1, v], .int .i64 a.2.2.2.2.2.2.1, .bool a.2.2.2.2.2.2.2]
set_option maxHeartbeats 4000000 in
set_option maxRecDepth 100000 in
/-- No words, or more than twenty. -/
theorem readJob_long (A0 : Option Addr) (c0 n : Nat) (hn : ¬ (1 ≤ n ∧ n ≤ 20)) (w : World) :
    Calls Tryz.prog 31 #[.slice A0 n c0] w fun e w' => e = .returned (.tuple #[.agg #[.int .i64 0, .string ⟨#[]⟩, .string ⟨#[]⟩, .int .i64 0, .int .i64 0, .slice none 0 0], .int .i64 1, .bool false]) ∧ Below w.heap.size w w' := by
  have hu1 := Tryz.underlying49
  have HW := Aside0.mk (fun W => impl_within.calls (n : Int) 1 20 false W (by
    unfold impl_within.f
    by_cases h : (n : Int) ≥ 1
    · rw [if_pos h, decide_eq_false (by omega)]
    · rw [if_neg h]))
  go_enter Tryz.func31, Tryz.ntmps31
  go_wp2_with fail
  refine (HW.out _).mono ?_; rintro e w1 ⟨rfl, ⟨n1, rfl⟩⟩
  go_wp2
  refine bodyPost_ret (results_ctt rfl _ _ w.heap.size 49 zeroJob (0, 0) _ rfl (by
    iterate 6 refine blk_put (cs := zeroJob) ?_ _ _ rfl
    (with_reducible refine blk_drewN ?_ _)
    exact blk_new _ _) Tryz.underlying49 rfl (by kernel_rfl)) rfl ?_
  exact ⟨by first | rfl | (simp; done), by
    iterate 6 refine Below.setCell (p := ⟨w.heap.size, _, none⟩) ?_ (Nat.le_refl w.heap.size) _
    refine pw_below_drewN ?_ _
    exact below_alloc (Below.refl _ _) _⟩
theorem head_cell {w : World} {A : Option Addr} {x : ByteArray} {l : List ByteArray} (h : Kd.C Kd.string w A (x :: l).length (x :: l)) : ∃ ad, A = some ad ∧ w.cell? ad = some (.string x) := by
  obtain ⟨ad, e, h⟩ := Kd.at_string h 0 (by omega) (by simp)
  exact ⟨ad, e, by simpa [Addr.add, rdOf] using h⟩
theorem JobAt.set5 {w : World} {B : Nat} {k : Int} {fl wd : ByteArray} {u g : Int} {v : Value} (h : JobAt w B k fl wd u g v) (y : Value) (hy : y.oneCell' = true) : JobAt (w.setCell ⟨B, 5, none⟩ y) B k fl wd u g y := by
  have key : ∀ o : Nat, o ≠ 5 → (w.setCell ⟨B, 5, none⟩ y).cell? ⟨B, o, none⟩ = w.cell? ⟨B, o, none⟩ := fun o ho => World.cell?_setCell_other (w := w) (v := y) (a := ⟨B, 5, none⟩) (b := ⟨B, o, none⟩) (by intro e; injection e with _ e2; exact ho e2.symm)
  exact ⟨(key 0 (by decide)).trans h.h0, (key 1 (by decide)).trans h.h1, (key 2 (by decide)).trans h.h2, (key 3 (by decide)).trans h.h3, (key 4 (by decide)).trans h.h4, World.cell?_setCell_same _ _ _ h.h5, fun o => (World.frozen?_setCell _ _ _ _).trans (h.fz o)⟩
theorem one_byte (s : ByteArray) (i : Nat) (h : i < s.size) : (s.extract i (i + 1)).toList = [s[i]] := by
  rw [ByteArray.toList_eq, extract_list]
  have hl : i < s.data.toList.length := by rw [data_length]; exact h
  rw [List.take_succ_eq_append_getElem hl, List.drop_append_of_le_length (by rw [List.length_take]; omega), List.drop_of_length_le (by rw [List.length_take]; omega)]
  rfl
def dashB (y : ByteArray) : Bool := decide (0 < y.size ∧ bt y 0 = 45)
def needB : List ByteArray → Bool
  | [] => false
  | y :: _ => dashB y
theorem hasDash_calls (y : ByteArray) (W : World) : Calls Tryz.prog 97 #[.string y, .string ⟨#[45]⟩] W fun e w' => e = .returned (.bool (dashB y)) ∧ Drawn0 W w' := by
  refine strings_HasPrefix.calls y ⟨#[45]⟩ (dashB y) W ?_
  unfold strings_HasPrefix.f stringslite_HasPrefix.f dashB
  have e1 : ((⟨#[45]⟩ : ByteArray).size : Int) = 1 := rfl
  rw [e1]
  by_cases h : (y.size : Int) ≥ 1
  · rw [if_pos h, if_pos (by omega), if_pos (by omega)]
    simp only [Option.bind_some, Option.some.injEq]
    have h0 : 0 < y.size := by omega
    have e2 : (y.extract 0 (1 : Int).toNat).toList = [y[0]] := by
      rw [show (1 : Int).toNat = 0 + 1 from rfl]
      exact one_byte y 0 h0
    rw [e2, Bool.eq_iff_iff, ByteArray.toList_eq]
    simp only [decide_eq_true_eq, beq_iff_eq]
    unfold bt
    rw [dif_pos (show (0 : Int).toNat < y.size from h0)]
    constructor
    · intro h
      have h : y[0] = (45 : UInt8) := by simpa using h
      exact ⟨h0, by rw [show y[(0 : Int).toNat] = y[0] from rfl, h]; rfl⟩
    · intro h; obtain ⟨_, h⟩ := h
      have : y[0] = (45 : UInt8) := UInt8.toNat_inj.mp (by have h' : (y[0].toNat : Int) = 45 := h; have : (45 : UInt8).toNat = 45 := rfl; omega)
      rw [this]
  · rw [if_neg h]
    simp only [Option.bind_some, Option.some.injEq]
    symm
    simp only [decide_eq_false_iff_not]
    omega
abbrev zero6 (g : Nat) (W : World) : World := (((((W.setCell ⟨g, 0, none⟩ (.int .i64 0)).setCell ⟨g, 1, none⟩ (.string ⟨#[]⟩)).setCell ⟨g, 2, none⟩ (.string ⟨#[]⟩)).setCell ⟨g, 3, none⟩ (.int .i64 0)).setCell ⟨g, 4, none⟩ (.int .i64 0)).setCell ⟨g, 5, none⟩ (.slice none 0 0)
def JobPost (w : World) (l : List ByteArray) (e : Ending) (w' : World) : Prop :=
  ∃ v5_ : Value, e = .returned (ansJob (rjAll l) v5_) ∧ Kd.R Kd.string 9 w' w.heap.size (fun k_ => w.heap.size ≤ k_) v5_ (rjAll l).2.2.2.2.2.1 ∧ Below w.heap.size w w'
theorem bad_ret (l : List ByteArray) (c : Int) {w W : World} (tmps : Array Value) (h2 : tmps.getD 2 undef = .pointer (some ⟨w.heap.size, 0, none⟩)) (h3 : tmps.getD 3 undef = .int .i64 c) (h4 : tmps.getD 4 undef = .bool false)
    (hr : rjAll l = badJob c) (HB : Below w.heap.size w W) (HZ : W.heap[w.heap.size]? = some (.cells zeroJob 49 (0, 0))) :
    bodyPost Tryz.prog Tryz.f31 (JobPost w l) Exit.ret { tmps := tmps, defers := [] } (zero6 w.heap.size W) := by
  refine bodyPost_ret (results_ctt rfl _ _ w.heap.size 49 zeroJob (0, 0) _ h2 (by
    iterate 6 refine blk_put (cs := zeroJob) ?_ _ _ rfl
    exact HZ) Tryz.underlying49 rfl (by kernel_rfl)) rfl ?_
  unfold JobPost
  rw [hr]
  exact ⟨.slice none 0 0, by rw [h3, h4]; rfl, Kd.R_nil _ _ _ _ _, by
    iterate 6 refine Below.setCell (p := ⟨w.heap.size, _, none⟩) ?_ (Nat.le_refl w.heap.size) _
    exact HB⟩
abbrev put6 (g : Nat) (k : Int) (fl wd : ByteArray) (u gg : Int) (v : Value) (W : World) : World := (((((W.setCell ⟨g, 0, none⟩ (.int .i64 k)).setCell ⟨g, 1, none⟩ (.string fl)).setCell ⟨g, 2, none⟩ (.string wd)).setCell ⟨g, 3, none⟩ (.int .i64 u)).setCell ⟨g, 4, none⟩ (.int .i64 gg)).setCell ⟨g, 5, none⟩ v
theorem good_ret (l q : List ByteArray) (k : Int) (fl wd : ByteArray) (u g : Int) (A : Option Addr) (c base : Nat) {w W : World} (tmps : Array Value) (h2 : tmps.getD 2 undef = .pointer (some ⟨w.heap.size, 0, none⟩)) (h3 : tmps.getD 3 undef = .int .i64 0) (h4 : tmps.getD 4 undef = .bool true)
    (hr : rjAll l = (k, fl, wd, u, g, q, 0, true)) (HB : Below w.heap.size w W) (HZ : W.heap[w.heap.size]? = some (.cells zeroJob 49 (0, 0)))
    (hlt : w.heap.size < base) (HR : Kd.R Kd.string 9 W base (fun k => base ≤ k) (.slice A q.length c) q) :
    bodyPost Tryz.prog Tryz.f31 (JobPost w l) Exit.ret { tmps := tmps, defers := [] } (put6 w.heap.size k fl wd u g (.slice A q.length c) W) := by
  refine bodyPost_ret (results_ctt rfl _ _ w.heap.size 49 #[.int .i64 k, .string fl, .string wd, .int .i64 u, .int .i64 g, .slice A q.length c] (0, 0) _ h2 (by
    refine blk_put (cs := #[.int .i64 k, .string fl, .string wd, .int .i64 u, .int .i64 g, .slice none 0 0]) ?_ _ _ rfl
    refine blk_put (cs := #[.int .i64 k, .string fl, .string wd, .int .i64 u, .int .i64 0, .slice none 0 0]) ?_ _ _ rfl
    refine blk_put (cs := #[.int .i64 k, .string fl, .string wd, .int .i64 0, .int .i64 0, .slice none 0 0]) ?_ _ _ rfl
    refine blk_put (cs := #[.int .i64 k, .string fl, .string ⟨#[]⟩, .int .i64 0, .int .i64 0, .slice none 0 0]) ?_ _ _ rfl
    refine blk_put (cs := #[.int .i64 k, .string ⟨#[]⟩, .string ⟨#[]⟩, .int .i64 0, .int .i64 0, .slice none 0 0]) ?_ _ _ rfl
    refine blk_put (cs := zeroJob) ?_ _ _ rfl
    exact HZ) Tryz.underlying49 rfl (by kernel_rfl)) rfl ?_
  unfold JobPost
  rw [hr]
  refine ⟨.slice A q.length c, by rw [h3, h4]; rfl, ?_, by
    iterate 6 refine Below.setCell (p := ⟨w.heap.size, _, none⟩) ?_ (Nat.le_refl w.heap.size) _
    exact HB⟩
  refine Kd.R_mono (Kd.R_lower ?_ (Nat.le_of_lt hlt)) (fun k hk => Nat.le_trans (Nat.le_of_lt hlt) hk)
  have far : ∀ k, base ≤ k → k ≠ w.heap.size := fun k hk => by omega
  iterate 6 refine Kd.R_far (p := ⟨w.heap.size, _, none⟩) ?_ far _
  exact HR
theorem kindUp_range (x : ByteArray) : ∀ n : Nat, 0 ≤ kindUp x n ∧ kindUp x n ≤ n
  | 0 => ⟨by unfold kindUp; omega, by unfold kindUp; omega⟩
  | n + 1 => by
    have h := kindUp_range x n
    unfold kindUp
    by_cases c : x.toList = (wordL ((n : Int) + 1)).toList
    · rw [if_pos c]; omega
    · rw [if_neg c]; omega
set_option maxHeartbeats 8000000 in
set_option maxRecDepth 100000 in
theorem readJob_main (ad : Addr) (c0 : Nat) (x : ByteArray) (tl : List ByteArray) (w : World) (hr : Kd.C Kd.string w (some ad) (x :: tl).length (x :: tl)) (hc : (x :: tl).length ≤ c0) (hn : tl.length ≤ 19)
    (hs : ∀ y ∈ x :: tl, y.size < 4294967281) (hE : Env w) :
    Calls Tryz.prog 31 #[.slice (some ad) (tl.length + 1) c0] w (JobPost w (x :: tl)) := by
  have hu1 := Tryz.underlying49
  have HW := Aside0.mk (fun W => impl_within.calls ((tl.length + 1 : Nat) : Int) 1 20 true W (by
    unfold impl_within.f
    rw [if_pos (by omega), decide_eq_true (by omega)]))
  obtain ⟨n, hnn⟩ : ∃ n, n = tl.length + 1 := ⟨_, rfl⟩
  rw [← hnn] at HW ⊢
  have HR := Aside0.mk hr
  have HC := Aside0.mk hc
  have HS := Aside0.mk hs
  have HE := Aside0.mk hE
  have HN := Aside0.mk hnn
  have HT := Aside0.mk hn
  have hx : w.cell? ad = some (.string x) := by
    obtain ⟨ad', e, h⟩ := Kd.at_string hr 0 (by omega) (by simp)
    injection e with e
    subst e
    simpa [Addr.add, rdOf] using h
  have hxl := World.block_lt_of_cell? _ _ hx
  have HX := Aside0.mk hx
  have HXL := Aside0.mk hxl
  clear hr hc hs hE hnn hn hx hxl
  go_enter Tryz.func31, Tryz.ntmps31
  go_wp2_with fail
  refine (HW.out _).mono ?_; rintro e w1 ⟨rfl, ⟨n1, rfl⟩⟩
  go_wp2
  go_loopw [5, 6] (fun kv iv wr => ∃ n : Nat, n ≤ 6 ∧ iv = .int .i64 ((n : Int) + 1) ∧ kv = .int .i64 (kindUp x n) ∧ Aside0 (Below w.heap.size w wr) ∧ Aside0 (wr.heap[w.heap.size]? = some (.cells zeroJob 49 (0, 0)))) (fun _ iv _ => 7 - (intOf iv).toNat)
  case atStart => exact ⟨0, by omega, rfl, rfl, ⟨pw_below_drewN (below_alloc (Below.refl _ _) _) _⟩, ⟨blk_drewN (blk_new _ _) _⟩⟩
  case round =>
    obtain ⟨i, hi, rfl, rfl, HB, HZ⟩ := hrel
    by_cases h6 : i < 6
    case pos =>
      have HJ := Aside0.mk (fun W => impl_jobWord.calls ((i : Int) + 1) (wordL ((i : Int) + 1)) W (wordL_f ((i : Int) + 1) (by unfold inB; simp; omega)))
      have p1 : ((i : Int) + 1 ≤ 6) = True := eq_true (by omega)
      have p2 : ((0 : Int) < (n : Int)) = True := eq_true (by have := HN.out; omega)
      have p2b : 0 < n := by have := HN.out; omega
      have hx : wr.cell? ad = some (.string x) := (HB.out.cell HXL.out).trans HX.out
      have hxl := World.block_lt_of_cell? _ _ hx
      by_cases hq : x.toList = (wordL ((i : Int) + 1)).toList
      case pos =>
        have hq1 : (x.toList == (wordL ((i : Int) + 1)).toList) = true := beq_iff_eq.mpr hq
        have hk : kindUp x (i + 1) = (i : Int) + 1 := by unfold kindUp; rw [if_pos hq]
        have HK := Aside0.mk hk
        clear hq hk
        generalize wordL ((i : Int) + 1) = wl at HJ hq1
        go_wp2_with fail
        go_region_held3 (fun w' => w'.cell? ad = some (.string x)) (first | exact hx | exact (hd.cell hxl).trans hx)
          (first | (go_at_call 96; refine (HJ.out _).mono ?_; rintro e w2 ⟨rfl, hd⟩))
        go_wp2
        go_roundw
        case rel => exact ⟨i + 1, by omega, by go_num, by rw [HK.out], ⟨below_step (below_drew1 HB.out) hd⟩, ⟨(hd.block _ (blk_lt (w := wr.drew) HZ.out)).trans HZ.out⟩⟩
        case measure => simp [intOf]; omega
      case neg =>
        have hq1 : (x.toList == (wordL ((i : Int) + 1)).toList) = false := by simpa using hq
        have hk : kindUp x (i + 1) = kindUp x i := by conv => lhs; unfold kindUp
                                                      rw [if_neg hq]
        have HK := Aside0.mk hk
        clear hq hk
        generalize wordL ((i : Int) + 1) = wl at HJ hq1
        go_wp2_with fail
        go_region_held3 (fun w' => w'.cell? ad = some (.string x)) (first | exact hx | exact (hd.cell hxl).trans hx)
          (first | (go_at_call 96; refine (HJ.out _).mono ?_; rintro e w2 ⟨rfl, hd⟩))
        go_wp2
        go_roundw
        case rel => exact ⟨i + 1, by omega, by go_num, by rw [HK.out], ⟨below_step (below_drew1 HB.out) hd⟩, ⟨(hd.block _ (blk_lt (w := wr.drew) HZ.out)).trans HZ.out⟩⟩
        case measure => simp [intOf]; omega
    case neg =>
      have p1 : ((i : Int) + 1 ≤ 6) = False := eq_false (by omega)
      have hi6 : i = 6 := by omega
      have HKd : ∃ kd, kd = kindUp x i ∧ kd = kindUp x 6 ∧ 0 ≤ kd ∧ kd ≤ 6 := by subst hi6; exact ⟨_, rfl, rfl, kindUp_range x 6⟩
      clear hi h6 hi6
      obtain ⟨kd, hkd1, hkd, k0, k6⟩ := HKd
      rw [← hkd1]
      have HKd := Aside0.mk hkd
      clear hkd hkd1
      by_cases hz : kd = 0
      case pos =>
        have q1 : (kd == 0) = true := by simp [hz]
        clear hz k0 k6
        have cz := fun o => blk_cell HZ.out o
        have fz := fun o => blk_frozen HZ.out o
        go_wp2
        have hr : rjAll (x :: tl) = badJob 1 := by
          unfold rjAll; simp only [List.length_cons]; rw [if_pos (by have := HT.out; omega), if_pos (by have := HKd.out; simp at q1; omega)]
        exact bad_ret _ 1 _ rfl rfl rfl hr HB.out HZ.out
      case neg =>
        have q1 : (kd == 0) = false := by simpa using hz
        have hk : 1 ≤ kd := by omega
        have hall : rjAll (x :: tl) = rjFlag kd tl := by
          unfold rjAll; simp only [List.length_cons]; rw [if_pos (by have := HT.out; omega), ← HKd.out, if_neg hz]
        have HALL := Aside0.mk hall
        clear hz k0 hall HKd
        obtain ⟨ie, hie, hie0, hie1, hie2⟩ := info_parts (show (Tryz.prog.info? 9).map (fun i => (i.zero, i.size, i.bytes)) = some (some (.string ⟨#[]⟩), 1, 16) by kernel_rfl)
        obtain ⟨A1, hcut, hA1, hc1⟩ := print_drop_of (P := Tryz.prog) Value.string ByteArray.empty 46 9 .i64 Tryz.underlying46 hie hie1 (some ad) c0 (x :: tl) 1 (by omega) (by simp only [List.length_cons]; omega) HC.out
        have hlen : ((x :: tl).length) = n := by rw [HN.out]; rfl
        rw [hlen] at hcut
        simp only [Int.toNat_one, List.drop_succ_cons, List.drop_zero] at hcut hA1 hc1
        have HA := Aside0.mk (Kd.C_of_reads (h1 := fun _ => rfl) (hA1 w (Kd.reads_of_C HR.out)))
        have HC1 := Aside0.mk hc1
        clear hA1 hc1 hlen hie hie0 hie1 hie2
        go_wp2_with fail
        go_region
        go_upto_region 11 with (fail)
        have BK := Aside0.mk (blk_drew (blk_new wr (.cells #[.int .i64 kd, .string ⟨#[]⟩, .string ⟨#[]⟩, .int .i64 0, .int .i64 0, .slice none 0 0] 49 (0, 0))))
        have HLT := Aside0.mk (blk_lt HZ.out)
        have hZ2 := blk_drew (blk_alloc HZ.out (.cells #[.int .i64 kd, .string ⟨#[]⟩, .string ⟨#[]⟩, .int .i64 0, .int .i64 0, .slice none 0 0] 49 (0, 0)))
        have hB2 : Below w.heap.size w (wr.alloc (.cells #[.int .i64 kd, .string ⟨#[]⟩, .string ⟨#[]⟩, .int .i64 0, .int .i64 0, .slice none 0 0] 49 (0, 0))).drew := below_drew1 (below_alloc HB.out _)
        obtain ⟨gb, hgb⟩ : ∃ gb, gb = wr.heap.size := ⟨_, rfl⟩
        rw [← hgb] at BK HLT
        rw [← hgb]
        generalize (wr.alloc (.cells #[.int .i64 kd, .string ⟨#[]⟩, .string ⟨#[]⟩, .int .i64 0, .int .i64 0, .slice none 0 0] 49 (0, 0))).drew = W at BK hZ2 hB2 ⊢
        clear HB HZ
        have HZ := Aside0.mk hZ2
        have HB := Aside0.mk hB2
        clear hZ2 hB2 hgb
        have HSS := Aside0.mk (show ∀ y ∈ tl, y.size < 4294967281 from fun y hy => HS.out y (List.mem_cons_of_mem _ hy))
        clear HS HR HC HX HXL HW hcut HN
        go_cut [38] (fun v38 wc => v38 = .bool (needB tl) ∧ ∃ n2, wc = W.drewN n2)
        case first =>
          cases tl with
          | nil =>
            go_wp2_with fail
            go_meet
            case rel => exact ⟨rfl, 0, rfl⟩
          | cons y r =>
            obtain ⟨ay, hay, hy0⟩ := head_cell HA.out
            subst hay
            have hy : W.cell? ay = some (.string y) := (HB.out.cell (World.block_lt_of_cell? _ _ hy0)).trans hy0
            clear hy0
            have HY := Aside0.mk (fun W => hasDash_calls y W)
            go_wp2_with (first | (refine (HY.out _).mono ?_; rintro e w2 ⟨rfl, ⟨n2, rfl⟩⟩))
            go_meet
            case rel => exact ⟨rfl, n2, rfl⟩
        case rest =>
          obtain ⟨rfl, n2, rfl⟩ := hcut
          go_upto_if 38 with (fail)
          go_cut [8] (fun v8 wc => ∃ (r : List ByteArray) (A8 : Option Addr) (c8 : Nat) (fl : ByteArray), v8 = .slice A8 r.length c8 ∧ Aside0 (r.length ≤ c8) ∧ Aside0 (Kd.C Kd.string w A8 r.length r) ∧ Aside0 (rjFlag kd tl = rjWord kd fl r) ∧ Aside0 (r.length ≤ 20 ∧ ∀ y ∈ r, y.size < 4294967281) ∧
            Aside0 (wc.heap[gb]? = some (.cells #[.int .i64 kd, .string fl, .string ⟨#[]⟩, .int .i64 0, .int .i64 0, .slice none 0 0] 49 (0, 0))) ∧ Aside0 (wc.heap[w.heap.size]? = some (.cells zeroJob 49 (0, 0))) ∧ Aside0 (Below w.heap.size w wc))
          case first =>
            cases hb : needB tl with
            | false =>
              have HR2 : Aside0 (rjFlag kd tl = rjWord kd ⟨#[]⟩ tl) := ⟨by
                cases tl with
                | nil => rfl
                | cons y r =>
                  unfold rjFlag; simp only
                  rw [if_neg (by unfold needB dashB at hb; simp at hb; omega)]⟩
              go_wp2_with fail
              go_meet
              case rel => exact ⟨tl, A1, c0 - 1, ⟨#[]⟩, rfl, HC1, HA, HR2, ⟨by have := HT.out; omega, HSS.out⟩, ⟨blk_drewN BK.out n2⟩, ⟨blk_drewN HZ.out n2⟩, ⟨pw_below_drewN HB.out n2⟩⟩
            | true =>
              cases tl with
              | nil => cases hb
              | cons y r =>
              obtain ⟨ay, hay, hy0⟩ := head_cell HA.out
              subst hay
              have hy : W.cell? ay = some (.string y) := (HB.out.cell (World.block_lt_of_cell? _ _ hy0)).trans hy0
              have hys : 0 < y.size ∧ bt y 0 = 45 := of_decide_eq_true hb
              have p2 : ((1 : Int) ≤ (y.size : Int)) = True := eq_true (by omega)
              have p3 : (1 ≤ y.size) = True := eq_true (by omega)
              have cz := fun o => blk_cell BK.out o
              have fz := fun o => blk_frozen BK.out o
              clear hy0 hb
              go_upto_region 13 with (fail)
              have BK2 := Aside0.mk (blk_put (cs' := #[.int .i64 kd, .string (y.extract 1 y.size), .string ⟨#[]⟩, .int .i64 0, .int .i64 0, .slice none 0 0]) (blk_drewN BK.out n2) 1 (.string (y.extract 1 y.size)) rfl)
              have HZ2 := Aside0.mk (blk_far (blk_drewN HZ.out n2) (p := ⟨gb, 1, none⟩) (show w.heap.size ≠ gb from Nat.ne_of_lt HLT.out) (.string (y.extract 1 y.size)))
              have HB2 := Aside0.mk ((pw_below_drewN HB.out n2).setCell (p := ⟨gb, 1, none⟩) (Nat.le_of_lt HLT.out) (.string (y.extract 1 y.size)))
              generalize (W.drewN n2).setCell ⟨gb, 1, none⟩ (.string (y.extract 1 y.size)) = W2 at BK2 HZ2 HB2 ⊢
              have HFLs : Aside0 ((y.extract 1 y.size).size < 4294967281) := ⟨by have := HSS.out y (List.mem_cons_self ..); rw [ByteArray.size_extract]; omega⟩
              have HR2 : Aside0 (rjFlag kd (y :: r) = if (y.extract 1 y.size).toList = [] ∨ (y.extract 1 y.size).toList ≠ (flagL kd).toList then badJob 2 else rjWord kd (y.extract 1 y.size) r) := ⟨by unfold rjFlag; simp only; rw [if_pos hys]⟩
              generalize y.extract 1 y.size = fl at BK2 HR2 HFLs ⊢
              clear BK HZ HB cz fz hy hys p2 p3
              have cz := fun o => blk_cell BK2.out o
              have fz := fun o => blk_frozen BK2.out o
              by_cases hf : fl.toList = []
              case pos =>
                have hf2 : fl.toList.isEmpty = true := by rw [hf]; rfl
                have cz2 := fun o => blk_cell HZ2.out o
                have fz2 := fun o => blk_frozen HZ2.out o
                go_wp2_with fail
                go_quiet (fail)
                go_wp2
                exact bad_ret _ 2 _ rfl rfl rfl (by rw [HALL.out, HR2.out, if_pos (.inl hf)]) (pw_below_drewN HB2.out _) (blk_drewN HZ2.out _)
              case neg =>
                have hf2 : fl.toList.isEmpty = false := by simpa using hf
                have hf3 : (fl.toList == []) = false := by simpa using hf
                have HG := Aside0.mk (fun W => impl_flagOf.calls kd (flagL kd) W (flagOf_f kd (by unfold inB; simp; omega)))
                have c1 : W2.cell? ⟨gb, 1, none⟩ = some (.string fl) := (blk_cell BK2.out 1).trans rfl
                have cl := World.block_lt_of_cell? _ _ c1
                clear cz fz
                by_cases hq : fl.toList = (flagL kd).toList
                case pos =>
                  have hq1 : (fl.toList == (flagL kd).toList) = true := by simpa using hq
                  have hq2 : (fl.toList != (flagL kd).toList) = false := by simpa using hq
                  have HR3 : Aside0 (rjFlag kd (y :: r) = rjWord kd fl r) := ⟨by rw [HR2.out, if_neg (by rintro (h | h); exact hf h; exact h hq)]⟩
                  obtain ⟨ie, hie, hie0, hie1, hie2⟩ := info_parts (show (Tryz.prog.info? 9).map (fun i => (i.zero, i.size, i.bytes)) = some (some (.string ⟨#[]⟩), 1, 16) by kernel_rfl)
                  obtain ⟨A2, hcut, hA2, hc2⟩ := print_drop_of (P := Tryz.prog) Value.string ByteArray.empty 46 9 .i64 Tryz.underlying46 hie hie1 (some ay) (c0 - 1) (y :: r) 1 (by omega) (by simp only [List.length_cons]; omega) HC1.out
                  simp only [Int.toNat_one, List.drop_succ_cons, List.drop_zero, List.length_cons] at hcut hA2 hc2
                  have HA2 := Aside0.mk (Kd.C_of_reads (h1 := fun _ => rfl) (hA2 w (Kd.reads_of_C HA.out)))
                  have HC2 := Aside0.mk hc2
                  clear hA2 hc2 hie hie0 hie1 hie2 hq HR2
                  generalize flagL kd = fk at HG hq1 hq2
                  go_wp2_with fail
                  go_region_held3 (fun w' => w'.cell? ⟨gb, 1, none⟩ = some (.string fl)) (first | exact c1 | exact (hd.cell (p := ⟨gb, 1, none⟩) cl).trans c1)
                    (first | (go_at_call 98; refine (HG.out _).mono ?_; rintro e w3 ⟨rfl, hd⟩))
                  have BK3 := Aside0.mk ((hd.block _ (blk_lt (w := W2.drew) BK2.out)).trans BK2.out)
                  have HZ3 := Aside0.mk ((hd.block _ (blk_lt (w := W2.drew) HZ2.out)).trans HZ2.out)
                  have HB3 := Aside0.mk (below_step (below_drew1 HB2.out) hd)
                  clear BK2 HZ2 HB2 hd c1 cl
                  go_wp2_with fail
                  go_meet
                  case rel => exact ⟨r, A2, c0 - 1 - 1, fl, rfl, HC2, HA2, HR3, ⟨by have := HT.out; simp only [List.length_cons] at this; omega, fun y hy => HSS.out y (List.mem_cons_of_mem _ hy)⟩, BK3, HZ3, HB3⟩
                case neg =>
                  have hq1 : (fl.toList == (flagL kd).toList) = false := by simpa using hq
                  have hq2 : (fl.toList != (flagL kd).toList) = true := by simpa using hq
                  have HR3 : Aside0 (rjFlag kd (y :: r) = badJob 2) := ⟨by rw [HR2.out, if_pos (.inr hq)]⟩
                  clear hq HR2
                  generalize flagL kd = fk at HG hq1 hq2
                  go_wp2_with fail
                  go_region_held3 (fun w' => w'.cell? ⟨gb, 1, none⟩ = some (.string fl)) (first | exact c1 | exact (hd.cell (p := ⟨gb, 1, none⟩) cl).trans c1)
                    (first | (go_at_call 98; refine (HG.out _).mono ?_; rintro e w3 ⟨rfl, hd⟩))
                  have HZ3 := Aside0.mk ((hd.block _ (blk_lt (w := W2.drew) HZ2.out)).trans HZ2.out)
                  have HB3 := Aside0.mk (below_step (below_drew1 HB2.out) hd)
                  have cz2 := fun o => blk_cell HZ3.out o
                  have fz2 := fun o => blk_frozen HZ3.out o
                  clear BK2 HZ2 HB2 hd c1 cl
                  go_wp2
                  exact bad_ret _ 2 _ rfl rfl rfl (by rw [HALL.out, HR3.out]) HB3.out HZ3.out
          case rest =>
          clear HA HC1 HT HSS BK HZ HB
          obtain ⟨r, A8, c8, fl, rfl, HC8, HA8, HR3, HS8, BK8, HZ8, HB8⟩ := hcut
          have HJ8 : JobAt wc gb kd fl ⟨#[]⟩ 0 0 (.slice none 0 0) := ⟨(blk_cell BK8.out 0).trans rfl, (blk_cell BK8.out 1).trans rfl, (blk_cell BK8.out 2).trans rfl, (blk_cell BK8.out 3).trans rfl, (blk_cell BK8.out 4).trans rfl, (blk_cell BK8.out 5).trans rfl, fun o => blk_frozen BK8.out o⟩
          have HJ := Aside0.mk HJ8
          have HG8 := Aside0.mk (blk_lt BK8.out)
          clear HJ8 BK8
          obtain ⟨wo, rfl⟩ : ∃ wo : World, wo = wc := ⟨_, rfl⟩
          go_upto_if 58 with (fail)
          go_cut [8] (fun v8 wc => ∃ (q : List ByteArray) (A9 : Option Addr) (c9 : Nat) (wd : ByteArray) (u g : Int), v8 = .slice A9 q.length c9 ∧ Aside0 (q.length ≤ c9) ∧ Aside0 (Kd.C Kd.string w A9 q.length q) ∧ Aside0 (rjWord kd fl r = rjEnd kd fl wd u g q) ∧ Aside0 (q.length ≤ 20 ∧ (∀ y ∈ q, y.size < 4294967281) ∧ wd.size < 4294967281) ∧
            Aside0 (JobAt wc gb kd fl wd u g (.slice none 0 0)) ∧ Aside0 (wc.heap[w.heap.size]? = some (.cells zeroJob 49 (0, 0))) ∧ Aside0 (Below w.heap.size w wc))
          case first =>
            by_cases h4 : 4 ≤ kd
            case neg =>
              have HW3 : Aside0 (rjWord kd fl r = rjEnd kd fl ⟨#[]⟩ 0 0 r) := ⟨by unfold rjWord; rw [if_neg h4]⟩
              have p4 : decide (4 ≤ kd) = false := by simpa using h4
              go_wp2_with fail
              go_meet
              case rel => exact ⟨r, A8, c8, ⟨#[]⟩, 0, 0, rfl, HC8, HA8, HW3, ⟨HS8.out.1, HS8.out.2, by decide⟩, HJ, HZ8, HB8⟩
            case pos =>
              have p4 : decide (4 ≤ kd) = true := by simpa using h4
              cases r with
              | nil =>
                have HW3 : Aside0 (rjAll (x :: tl) = badJob 3) := ⟨by rw [HALL.out, HR3.out]; unfold rjWord; rw [if_pos h4]⟩
                have HN := Aside0.mk (fun W => readWord_none W gb A8 c8)
                go_wp2_with fail
                refine (HN.out _).mono ?_; rintro e w3 ⟨rfl, hd⟩
                have HZ3 := Aside0.mk ((hd.block _ (blk_lt HZ8.out)).trans HZ8.out)
                have HB3 := Aside0.mk (below_step HB8.out hd)
                have cz2 := fun o => blk_cell HZ3.out o
                have fz2 := fun o => blk_frozen HZ3.out o
                clear hd
                go_wp2
                exact bad_ret _ 3 _ rfl rfl rfl HW3.out HB3.out HZ3.out
              | cons z r =>
                obtain ⟨az, haz, hz0⟩ := head_cell HA8.out
                subst haz
                have hzl := World.block_lt_of_cell? _ _ hz0
                have HZC := Aside0.mk ((HB8.out.cell hzl).trans hz0)
                have HZL := Aside0.mk (show az.block < gb from Nat.lt_trans hzl HLT.out)
                have HZS : Aside0 (z.size < 4294967281) := ⟨HS8.out.2 z (List.mem_cons_self ..)⟩
                obtain ⟨ie, hie, hie0, hie1, hie2⟩ := info_parts (show (Tryz.prog.info? 9).map (fun i => (i.zero, i.size, i.bytes)) = some (some (.string ⟨#[]⟩), 1, 16) by kernel_rfl)
                obtain ⟨A2, hcut, hA2, hc2⟩ := print_drop_of (P := Tryz.prog) Value.string ByteArray.empty 46 9 .i64 Tryz.underlying46 hie hie1 (some az) c8 (z :: r) 1 (by omega) (by simp only [List.length_cons]; omega) HC8.out
                simp only [Int.toNat_one, List.drop_succ_cons, List.drop_zero, List.length_cons] at hcut hA2 hc2
                have HA2 := Aside0.mk (Kd.C_of_reads (h1 := fun _ => rfl) (hA2 w (Kd.reads_of_C HA8.out)))
                have HC2 := Aside0.mk hc2
                have HS2 : Aside0 (r.length ≤ 20 ∧ ∀ y ∈ r, y.size < 4294967281) := ⟨by have := HS8.out.1; simp only [List.length_cons] at this; omega, fun y hy => HS8.out.2 y (List.mem_cons_of_mem _ hy)⟩
                have HEo := Aside0.mk (HE.out.below HB8.out)
                obtain ⟨ok, wd, u, g, HCALL, HT3, HF3, HWD⟩ : ∃ (ok : Bool) (wd : ByteArray) (u g : Int),
                    Aside0 (Calls Tryz.prog 99 #[.pointer (some ⟨gb, 0, none⟩), .slice (some az) (r.length + 1) c8] wo fun e w' => e = .returned (.bool ok) ∧ Below gb wo w' ∧ JobAt w' gb kd fl wd u g (.slice none 0 0)) ∧
                    Aside0 (ok = true → rjWord kd fl (z :: r) = rjEnd kd fl wd u g r) ∧ Aside0 (ok = false → rjWord kd fl (z :: r) = badJob 3) ∧ Aside0 (wd.size < 4294967281) := by
                  by_cases hk4 : kd = 4
                  · obtain ⟨u, g, ok, hown⟩ : ∃ u g ok, ownP (spl 58 z.data.toList) = (u, g, ok) := ⟨_, _, _, rfl⟩
                    refine ⟨ok, ⟨#[]⟩, u, g, ⟨?_⟩, ⟨fun h => ?_⟩, ⟨fun h => ?_⟩, ⟨by decide⟩⟩
                    · subst hk4
                      exact readWord_own wo gb az (r.length + 1) c8 (by omega) z HZC.out fl ⟨#[]⟩ 0 0 _ HJ.out u g ok (by unfold impl_ReadOwner.f; rw [if_pos HZS.out, hown]) HEo.out
                    · unfold rjWord; rw [if_pos h4]; simp only; rw [if_pos hk4, hown]; simp only; rw [if_pos h]
                    · unfold rjWord; rw [if_pos h4]; simp only; rw [if_pos hk4, hown]; simp only; rw [if_neg (by rw [h]; decide)]
                  · refine ⟨wordB kd z, z, 0, 0, ⟨?_⟩, ⟨fun h => ?_⟩, ⟨fun h => ?_⟩, HZS⟩
                    · obtain ⟨K, hK⟩ := isWord_ev kd z HZS.out
                      refine (readWord_word wo gb az (r.length + 1) c8 (by omega) z HZC.out kd fl ⟨#[]⟩ 0 0 _ HJ.out hk4 (wordB kd z) K (hK K (Nat.le_refl _)) HZL.out).mono ?_
                      rintro e w' ⟨a, b, c⟩
                      exact ⟨a, b, c⟩
                    · unfold rjWord; rw [if_pos h4]; simp only; rw [if_neg hk4, if_pos h]
                    · unfold rjWord; rw [if_pos h4]; simp only; rw [if_neg hk4, if_neg (by rw [h]; decide)]
                clear hz0 hzl HZC HZL HZS hie hie0 hie1 hie2 hA2 hc2 HEo HA8
                go_wp2_with fail
                refine HCALL.out.mono ?_; rintro e w3 ⟨rfl, hd, hj⟩
                have HZ3 := Aside0.mk ((hd.block _ HLT.out).trans HZ8.out)
                have HB3 : Aside0 (Below w.heap.size w w3) := ⟨HB8.out.trans (hd.mono (Nat.le_of_lt HLT.out))⟩
                have HJ3 := Aside0.mk hj
                clear HCALL hd hj
                cases ok with
                | false =>
                  have cz2 := fun o => blk_cell HZ3.out o
                  have fz2 := fun o => blk_frozen HZ3.out o
                  have HW3 : Aside0 (rjAll (x :: tl) = badJob 3) := ⟨by rw [HALL.out, HR3.out, HF3.out rfl]⟩
                  go_wp2
                  exact bad_ret _ 3 _ rfl rfl rfl HW3.out HB3.out HZ3.out
                | true =>
                  go_wp2_with fail
                  go_meet
                  case rel => exact ⟨r, A2, c8 - 1, wd, u, g, rfl, HC2, HA2, ⟨by first | exact HT3.out rfl | exact HT3.out trivial⟩, ⟨HS2.out.1, HS2.out.2, HWD.out⟩, HJ3, HZ3, HB3⟩
          case rest =>
            obtain ⟨q, A9, c9, wd, u, g, rfl, HC9, HA9, HR9, HS9, HJ9, HZ9, HB9⟩ := hcut
            obtain ⟨w2, rfl⟩ : ∃ w2 : World, w2 = wc := ⟨_, rfl⟩
            have hrs : slices_Clone_string_string.f q = some q := if_pos (by have := HS9.out.1; omega)
            have HCl := Aside0.mk (slices_Clone_string_string.calls A9 c9 q q w2 (Kd.C_below HA9.out HB9.out) HC9.out hrs)
            have HALL2 : Aside0 (rjAll (x :: tl) = rjEnd kd fl wd u g q) := ⟨by rw [HALL.out, HR3.out, HR9.out]⟩
            clear hrs HALL HR3 HR9 HC8 HS8 HJ HZ8 HB8 HG8 HA9 HC9
            go_wp2_with fail
            refine HCl.out.mono ?_; rintro e w3 ⟨v0, rfl, hR, hd⟩
            have HJ3 := HJ9.out.below hd
            have HZ3 := (hd.block _ (blk_lt HZ9.out)).trans HZ9.out
            have HB3 := below_step HB9.out hd
            have HGL : gb < w2.heap.size := World.block_lt_of_cell? _ _ HJ9.out.h0
            have HR3 : Kd.R Kd.string 9 w3 w2.heap.size (fun k => w2.heap.size ≤ k) v0 q := Kd.R_mono (Kd.R_bound hR) (fun k hk => hk.2.1)
            obtain ⟨Av, cv, rfl, hcv, hCv⟩ := Kd.R_reads HR3
            have c5 := HJ3.h5
            have f5 := HJ3.fz 5
            have HJ4 := Aside0.mk (HJ3.set5 (.slice Av q.length cv) rfl)
            have HZ4 := Aside0.mk (blk_far HZ3 (p := ⟨gb, 5, none⟩) (show w.heap.size ≠ gb from Nat.ne_of_lt HLT.out) (.slice Av q.length cv))
            have HB4 := Aside0.mk (HB3.setCell (p := ⟨gb, 5, none⟩) (Nat.le_of_lt HLT.out) (.slice Av q.length cv))
            have HR4 := Aside0.mk (Kd.R_far HR3 (p := ⟨gb, 5, none⟩) (fun k hk => Nat.ne_of_gt (Nat.lt_of_lt_of_le HGL hk)) (.slice Av q.length cv))
            have HCV := Aside0.mk hcv
            clear HJ9 HZ9 HB9 HJ3 HZ3 HB3 HR3 hR hd hCv hcv HCl
            go_upto_region 21 with (fail)
            generalize w3.setCell ⟨gb, 5, none⟩ (.slice Av q.length cv) = W4 at HJ4 HZ4 HB4 HR4 ⊢
            clear c5 f5
            obtain ⟨j0, j1, j2, j3, j4, j5, jf⟩ := HJ4.out
            obtain ⟨Av', cv', hvv, hcv', hCv'⟩ := Kd.R_reads HR4.out
            obtain ⟨rfl, -, rfl⟩ : Av = Av' ∧ True ∧ cv = cv' := by injection hvv with a b c; exact ⟨a, trivial, c⟩
            obtain ⟨K, hK⟩ := implJob_ev kd fl wd u g q HS9.out.2.2
            have HGJ := Aside0.mk (impl_GoodJob.calls K kd fl wd u g Av cv q (jobB kd fl wd u g q) W4 hCv' hcv' (hK K (Nat.le_refl _)))
            clear hvv hcv' hCv' hK
            cases hjb : jobB kd fl wd u g q with
            | false =>
              rw [hjb] at HGJ
              have HW5 : Aside0 (rjAll (x :: tl) = badJob 4) := ⟨by rw [HALL2.out]; unfold rjEnd; rw [if_neg (by rw [hjb]; decide)]⟩
              clear hjb
              go_wp2_with fail
              refine HGJ.out.mono ?_; rintro e w5 ⟨rfl, hd⟩
              have HZ5 := Aside0.mk ((hd.block _ (blk_lt HZ4.out)).trans HZ4.out)
              have HB5 := Aside0.mk (below_step HB4.out hd)
              have cz2 := fun o => blk_cell HZ5.out o
              have fz2 := fun o => blk_frozen HZ5.out o
              clear hd j0 j1 j2 j3 j4 j5 jf
              go_wp2
              exact bad_ret _ 4 _ rfl rfl rfl HW5.out HB5.out HZ5.out
            | true =>
              rw [hjb] at HGJ
              have HW5 : Aside0 (rjAll (x :: tl) = (kd, fl, wd, u, g, q, 0, true)) := ⟨by rw [HALL2.out]; unfold rjEnd; rw [if_pos hjb]⟩
              clear hjb
              go_wp2_with fail
              refine HGJ.out.mono ?_; rintro e w5 ⟨rfl, hd⟩
              have HZ5 := Aside0.mk ((hd.block _ (blk_lt HZ4.out)).trans HZ4.out)
              have HB5 := Aside0.mk (below_step HB4.out hd)
              have HR5 := Aside0.mk (Kd.R_below HR4.out hd)
              have hJ5 := HJ4.out.below hd
              clear j0 j1 j2 j3 j4 j5 jf
              obtain ⟨j0, j1, j2, j3, j4, j5, jf⟩ := hJ5
              have cz2 := fun o => blk_cell HZ5.out o
              have fz2 := fun o => blk_frozen HZ5.out o
              clear hd
              go_wp2
              exact good_ret _ q kd fl wd u g Av cv w2.heap.size _ rfl rfl rfl HW5.out HB5.out HZ5.out (Nat.lt_trans HLT.out HGL) HR5.out
def impl_ReadJob.f (l0 : List ByteArray) : Option (Int × ByteArray × ByteArray × Int × Int × List ByteArray × Int × Bool) := if ∀ y ∈ l0, y.size < 4294967281 then some (rjAll l0) else none
theorem impl_ReadJob.calls (A0 : Option Addr) (c0 : Nat) (l0 : List ByteArray) (r1 : Int) (r2 : ByteArray) (r3 : ByteArray) (r4 : Int) (r5 : Int) (r6 : List ByteArray) (r7 : Int) (r8 : Bool) (w : World) (hr0 : Kd.C Kd.string w A0 l0.length l0) (hc0 : l0.length ≤ c0) (h : impl_ReadJob.f l0 = some (r1, r2, r3, r4, r5, r6, r7, r8)) (hE : Env w) :
    Calls Tryz.prog 31 #[.slice A0 l0.length c0] w fun e w' => ∃ v5_ : Value, e = .returned (.tuple #[.agg #[.int .i64 r1, .string r2, .string r3, .int .i64 r4, .int .i64 r5, v5_], .int .i64 r7, .bool r8]) ∧ Kd.R Kd.string 9 w' w.heap.size (fun _ => True) v5_ r6 ∧ Below w.heap.size w w' := by
  unfold impl_ReadJob.f at h
  split at h
  case isFalse => cases h
  rename_i hs
  injection h with h
  by_cases hn : 1 ≤ l0.length ∧ l0.length ≤ 20
  · cases l0 with
    | nil => simp at hn
    | cons x tl =>
      obtain ⟨ad, hA, _⟩ := head_cell hr0
      subst hA
      refine (readJob_main ad c0 x tl w hr0 hc0 (by have := hn.2; simp only [List.length_cons] at this; omega) hs hE).mono ?_
      rintro e w' ⟨v, he, hR, hb⟩
      rw [h] at he hR
      exact ⟨v, he, Kd.R_mono hR (fun _ _ => trivial), hb⟩
  · have h1 : rjAll l0 = badJob 1 := by
      cases l0 with
      | nil => rfl
      | cons x tl => unfold rjAll; simp only; rw [if_neg (fun h2 => hn ⟨by simp, h2⟩)]
    rw [h1] at h
    injection h with e1 h; injection h with e2 h; injection h with e3 h; injection h with e4 h; injection h with e5 h; injection h with e6 h; injection h with e7 e8
    subst e1 e2 e3 e4 e5 e6 e7 e8
    refine (readJob_long A0 c0 l0.length hn w).mono ?_
    rintro e w' ⟨he, hb⟩
    exact ⟨.slice none 0 0, he, Kd.R_nil _ _ _ _ _, hb⟩

end Go.Proofs.YtibfocaldcjiiaaGreatDoor.Q

/- The law FnExactReadJob over lists alone: the reference's function answers rjAll, the printed law true. -/
namespace Go.Proofs.YtibfocaldcjiiaaGreatDoor.Q
open Go.RowKit Go.Proofs.YtibfocaldcjiiaaGreatDoorW.PrintWords Go.Proofs.YtibfocaldcjiiaaGreatDoorW.PrintLast Go.Proofs.YtibfocaldcjiiaaGreatDoorW.PrintMore
attribute [local go_sem] max2_int min2_int max_two min_two max_three min_three max_four min_four   -- for this text's walks alone
set_option linter.unusedVariables false
set_option linter.unusedSimpArgs false

theorem cons_byte (f : ByteArray) : (⟨#[45]⟩ ++ f : ByteArray).toList = 45 :: f.toList := by
  rw [ByteArray.toList_eq, ByteArray.toList_eq]
  simp [ByteArray.data_append]
theorem head_byte (y : ByteArray) (h : 0 < y.size) : y.toList = y[0] :: (y.extract 1 y.size).toList := by
  rw [ByteArray.toList_eq, ByteArray.toList_eq, extract_list]
  have hl : 0 < y.data.toList.length := by rw [data_length]; exact h
  have hs : y.data.toList.take y.size = y.data.toList := List.take_of_length_le (by rw [data_length]; exact Nat.le_refl _)
  rw [hs]
  cases hh : y.data.toList with
  | nil => rw [hh] at hl; simp at hl
  | cons a b =>
    have : y[0] = a := by
      have e : y.data.toList[0] = a := by simp [hh]
      exact e
    rw [this]; simp
theorem nil_byte (y : ByteArray) : y.toList = [] ↔ y.size = 0 := by
  rw [ByteArray.toList_eq, ← List.length_eq_zero_iff, data_length]
theorem bt_head (y : ByteArray) (h : 0 < y.size) : (bt y 0 = 45) ↔ y[0] = 45 := by
  unfold bt
  rw [dif_pos (show (0 : Int).toNat < y.size from h)]
  constructor
  · intro e
    exact UInt8.toNat_inj.mp (by have h' : (y[0].toNat : Int) = 45 := e; have : (45 : UInt8).toNat = 45 := rfl; omega)
  · intro e
    show ((y[0]).toNat : Int) = 45
    rw [e]; rfl
theorem flag_eq (y f : ByteArray) (hy : 0 < y.size) (hb : bt y 0 = 45) : (y.toList = (⟨#[45]⟩ ++ f : ByteArray).toList) ↔ ((y.extract 1 y.size).toList = f.toList) := by
  rw [cons_byte, head_byte y hy, (bt_head y hy).mp hb]
  simp
theorem kinds_up (w : ByteArray) : kindUp w 6 = kindUp w 6 := rfl
abbrev KL : List ByteArray := [(⟨#[]⟩ : ByteArray), (⟨#[99, 112]⟩ : ByteArray), (⟨#[114, 109]⟩ : ByteArray), (⟨#[100, 117]⟩ : ByteArray), (⟨#[99, 104, 111, 119, 110]⟩ : ByteArray), (⟨#[99, 104, 109, 111, 100]⟩ : ByteArray), (⟨#[102, 105, 110, 100]⟩ : ByteArray)]
/-- The loop over the kinds. -/
theorem srj_loop (x : ByteArray) (tl : List ByteArray) (r : JobAns) (h : Ev (fun k => if kindUp x 6 = 0 then spec_ReadJob.j1 k (x :: tl) true (kindUp x 6) ⟨#[]⟩ ⟨#[]⟩ 0 0 else spec_ReadJob.j1 k (x :: tl) (decide (((x :: tl).length : Int) > 20)) (kindUp x 6) ⟨#[]⟩ ⟨#[]⟩ 0 0) r) (d : Nat) :
    ∀ n : Nat, n + d = 6 → Ev (fun k => spec_ReadJob.l0 k (x :: tl) KL 7 ((n : Int) + 1) (kindUp x n) ⟨#[]⟩ ⟨#[]⟩ 0 0) r := by
  induction d with
  | zero =>
    intro n hn
    obtain rfl : n = 6 := by omega
    refine Ev.step (fun k => ?_) h
    simp only [spec_ReadJob.l0]
    rw [if_neg (by decide)]
  | succ d ih =>
    intro n hn
    have hr := ih (n + 1) (by omega)
    have e1 : wrap64 ((n : Int) + 1 + 1) = ((n + 1 : Nat) : Int) + 1 := by unfold wrap64; omega
    refine Ev.step (fun k => ?_) hr
    simp only [spec_ReadJob.l0]
    have hl : (KL.length : Int) = 7 := rfl
    rw [if_pos (by omega), if_pos (by omega), if_pos (by omega), if_pos (by omega), if_pos (by simp only [List.length_cons]; omega), if_pos (by simp only [List.length_cons]; omega), e1]
    have hx : rdOf ByteArray.empty (x :: tl) 0 = x := rfl
    have hk : rdOf ByteArray.empty KL ((n : Int) + 1) = wordL ((n : Int) + 1) := rfl
    rw [hx, hk]
    by_cases c : x.toList = (wordL ((n : Int) + 1)).toList
    · rw [if_pos c]
      have : kindUp x (n + 1) = (n : Int) + 1 := by unfold kindUp; rw [if_pos c]
      rw [this]
    · rw [if_neg c]
      have : kindUp x (n + 1) = kindUp x n := by
        conv => lhs; unfold kindUp
        rw [if_neg c]
      rw [this]
theorem srj_end (k fl w u g) (l : List ByteArray) (hw : w.size < 4294967281) (hl : l.length ≤ 4294967282) (hs : ∀ x ∈ l, x.size < 4294967281) :
    Ev (fun n => (spec_GoodJob.f n k fl w u g l).bind fun t => if t = true then (some (k, fl, w, u, g, l, 0, true)) else (some (0, (⟨#[]⟩ : ByteArray), (⟨#[]⟩ : ByteArray), 0, 0, ([] : List ByteArray), 4, false))) (rjEnd k fl w u g l) := by
  refine Ev.bind (specJob_ev k fl w u g l hw hl hs) ?_
  unfold rjEnd
  by_cases h : jobB k fl w u g l = true
  · rw [if_pos h]; exact Ev.congr (f := fun _ => some _) (fun n => by rw [if_pos h]) (Ev.now _)
  · refine Ev.congr (f := fun _ => some (badJob 4)) (fun n => by rw [if_neg h]; rfl) ?_
    rw [if_neg h]; exact Ev.now _
theorem srj_word (k : Int) (fl : ByteArray) (l : List ByteArray) (hl : l.length ≤ 1048576) (hs : ∀ x ∈ l, x.size ≤ 1048576) (hk : inB 1 6 k = true) :
    Ev (fun n => spec_ReadJob.j3 n l k fl ⟨#[]⟩ 0 0) (rjWord k fl l) := by
  have hs' : ∀ x ∈ l, x.size < 4294967281 := fun x hx => by have := hs x hx; omega
  by_cases h4 : 4 ≤ k
  · cases l with
    | nil =>
      refine Ev.step (f := fun _ => some (badJob 3)) (fun n => ?_) ?_
      · simp only [spec_ReadJob.j3]
        rw [if_pos h4, if_pos (by simp)]; rfl
      · unfold rjWord; rw [if_pos h4]; exact Ev.now _
    | cons x r =>
      have hx : rdOf ByteArray.empty (x :: r) 0 = x := rfl
      have hxs : x.size < 4294967281 := hs' x (List.mem_cons_self ..)
      have hr : ∀ z ∈ r, z.size < 4294967281 := fun z hz => hs' z (List.mem_cons_of_mem _ hz)
      have hrl : r.length ≤ 1048576 := by simp only [List.length_cons] at hl; omega
      have j4 : ∀ (q : Bool) (wd : ByteArray) (u g : Int), wd.size < 4294967281 → Ev (fun n => spec_ReadJob.j4 n (x :: r) q k fl wd u g) (if q = true then rjEnd k fl wd u g r else badJob 3) := by
        intro q wd u g hwd
        by_cases hq : q = true
        · rw [if_pos hq]
          refine Ev.step (fun n => ?_) (srj_end k fl wd u g r hwd (by omega) hr)
          simp only [spec_ReadJob.j4]
          rw [if_pos hq, if_pos (by simp only [List.length_cons]; omega)]
          simp only [Option.bind_some, List.drop_succ_cons, List.drop_zero, List.nil_append, List.length_nil, Nat.zero_add]
          rw [if_pos (by omega)]
        · rw [if_neg hq]
          refine Ev.step (f := fun _ => some (badJob 3)) (fun n => ?_) (Ev.now _)
          simp only [spec_ReadJob.j4]
          rw [if_neg hq]; rfl
      unfold rjWord
      rw [if_pos h4]
      simp only
      by_cases h44 : k = 4
      · rw [if_pos h44]
        have h := j4 (ownP (spl 58 x.data.toList)).2.2 ⟨#[]⟩ (ownP (spl 58 x.data.toList)).1 (ownP (spl 58 x.data.toList)).2.1 (by decide)
        refine Ev.step (fun n => ?_) h
        simp only [spec_ReadJob.j3]
        rw [if_pos h4, if_neg (by simp only [List.length_cons]; omega), if_pos h44, if_pos (by simp only [List.length_cons]; omega), hx]
        unfold spec_ReadOwner.f
        rw [if_pos hxs]
        simp only [Option.bind_some]
      · rw [if_neg h44]
        have h := j4 (wordB k x) x 0 0 hxs
        have hw := l15Word_ev k fl x 0 0 [] hxs
        refine Ev.step (fun n => ?_) (Ev.bind (f := fun n q => spec_ReadJob.j4 n (x :: r) q k fl x 0 0) hw h)
        simp only [spec_ReadJob.j3]
        rw [if_pos h4, if_neg (by simp only [List.length_cons]; omega), if_neg h44, if_pos (by simp only [List.length_cons]; omega), hx]
  · unfold rjWord
    rw [if_neg h4]
    refine Ev.step (fun n => ?_) (srj_end k fl ⟨#[]⟩ 0 0 l (by decide) (by omega) hs')
    simp only [spec_ReadJob.j3]
    rw [if_neg h4]
    simp only [Option.bind_some, List.nil_append, List.length_nil, Nat.zero_add]
    rw [if_pos (by omega)]
theorem srj_flag (k : Int) (x : ByteArray) (l : List ByteArray) (hl : l.length ≤ 1048576) (hs : ∀ x ∈ l, x.size ≤ 1048576) (hk : inB 1 6 k = true) :
    Ev (fun n => spec_ReadJob.j1 n (x :: l) false k ⟨#[]⟩ ⟨#[]⟩ 0 0) (rjFlag k l) := by
  have hf := flagS_f k hk
  have hfs : (flagL k).size ≤ 1 := by
    unfold inB at hk
    simp only [Bool.and_eq_true, decide_eq_true_eq] at hk
    obtain ⟨i, rfl⟩ : ∃ i : Fin 7, k = (i.val : Int) := ⟨⟨k.toNat, by omega⟩, by simp; omega⟩
    revert i
    decide +kernel
  cases l with
  | nil =>
    refine Ev.step (f := fun n => spec_ReadJob.j2 n [] false k ⟨#[]⟩ ⟨#[]⟩ 0 0) (fun n => ?_) ?_
    · simp only [spec_ReadJob.j1]
      rw [if_neg (by decide), if_pos (by simp)]
      rfl
    · refine Ev.step (fun n => ?_) (srj_word k ⟨#[]⟩ [] (by simp) (fun x hx => by cases hx) hk)
      simp only [spec_ReadJob.j2]
      rw [if_neg (by decide)]
  | cons y r =>
    have hys : y.size ≤ 1048576 := hs y (List.mem_cons_self ..)
    have hr : ∀ z ∈ r, z.size ≤ 1048576 := fun z hz => hs z (List.mem_cons_of_mem _ hz)
    have hrl : r.length ≤ 1048576 := by simp only [List.length_cons] at hl; omega
    refine Ev.step (f := fun n => spec_ReadJob.j2 n (y :: r) (dashB y) k ⟨#[]⟩ ⟨#[]⟩ 0 0) (fun n => ?_) ?_
    · simp only [spec_ReadJob.j1]
      rw [if_neg (by decide), if_pos (by simp only [List.length_cons]; omega)]
      simp only [Option.bind_some, List.drop_succ_cons, List.drop_zero]
      rw [if_pos (by simp only [List.length_cons]; omega), if_pos (by simp only [List.length_cons]; omega)]
      have hx : rdOf ByteArray.empty (y :: r) 0 = y := rfl
      rw [hx]
      unfold dashB
      by_cases h0 : y.toList = []
      · rw [if_pos h0]
        have := (nil_byte y).mp h0
        rw [decide_eq_false (by omega)]
      · rw [if_neg h0]
        have h1 : 0 < y.size := by exact Nat.pos_of_ne_zero (fun h => h0 ((nil_byte y).mpr h))
        rw [if_pos (by omega)]
        congr 1
        rw [Bool.eq_iff_iff]; simp [h1]
    · unfold rjFlag
      simp only
      by_cases hd : 0 < y.size ∧ bt y 0 = 45
      · rw [if_pos hd, show dashB y = true from decide_eq_true hd]
        have hfe := flag_eq y (flagL k) hd.1 hd.2
        have hx : rdOf ByteArray.empty (y :: r) 0 = y := rfl
        by_cases h0 : (flagL k).toList = []
        · rw [if_pos (by by_cases c : (y.extract 1 y.size).toList = []
                         · exact .inl c
                         · exact .inr (by rw [h0]; exact c))]
          refine Ev.step (f := fun _ => some (badJob 2)) (fun n => ?_) (Ev.now _)
          simp only [spec_ReadJob.j2]
          rw [if_pos trivial, hf]
          simp only [Option.bind_some]
          rw [if_pos h0]; rfl
        · by_cases h1 : (y.extract 1 y.size).toList = (flagL k).toList
          · rw [if_neg (by rintro (c | c); exact h0 (h1 ▸ c); exact c h1)]
            have hes : (y.extract 1 y.size).size ≤ 1048576 := by rw [ByteArray.size_extract]; omega
            refine Ev.step (fun n => ?_) (srj_word k (y.extract 1 y.size) r hrl hr hk)
            simp only [spec_ReadJob.j2]
            rw [if_pos trivial, hf]
            simp only [Option.bind_some]
            rw [if_neg h0, if_pos (by simp only [List.length_cons]; omega), if_pos (by omega), hx, if_pos (hfe.mpr h1), if_pos (by omega), if_pos (by simp only [List.length_cons]; omega)]
            rfl
          · rw [if_pos (.inr h1)]
            refine Ev.step (f := fun _ => some (badJob 2)) (fun n => ?_) (Ev.now _)
            simp only [spec_ReadJob.j2]
            rw [if_pos trivial, hf]
            simp only [Option.bind_some]
            rw [if_neg h0, if_pos (by simp only [List.length_cons]; omega), if_pos (by omega), hx, if_neg (fun c => h1 (hfe.mp c))]; rfl
      · rw [if_neg hd, show dashB y = false from decide_eq_false hd]
        refine Ev.step (fun n => ?_) (srj_word k ⟨#[]⟩ (y :: r) hl hs hk)
        simp only [spec_ReadJob.j2]
        rw [if_neg (by decide)]
theorem specReadJob_ev (l : List ByteArray) (hl : l.length ≤ 1048576) (hs : ∀ x ∈ l, x.size ≤ 1048576) : Ev (fun k => spec_ReadJob.f k l) (rjAll l) := by
  unfold spec_ReadJob.f
  refine Ev.congr (f := fun k => spec_ReadJob.l0 k l KL 7 0 0 ⟨#[]⟩ ⟨#[]⟩ 0 0) (fun k => rfl) ?_
  have bad1 : ∀ (m : List ByteArray) (kk : Int), Ev (fun k => spec_ReadJob.j1 k m true kk ⟨#[]⟩ ⟨#[]⟩ 0 0) (badJob 1) := fun m kk => by
    refine Ev.step (f := fun _ => some (badJob 1)) (fun n => ?_) (Ev.now _)
    simp only [spec_ReadJob.j1]
    rw [if_pos trivial]; rfl
  have e0 : wrap64 (0 + 1) = 1 := by unfold wrap64; omega
  have hK : (KL.length : Int) = 7 := rfl
  cases l with
  | nil =>
    have step : ∀ (d n : Nat), n + d = 7 → Ev (fun k => spec_ReadJob.l0 k [] KL 7 (n : Int) 0 ⟨#[]⟩ ⟨#[]⟩ 0 0) (badJob 1) := by
      intro d
      induction d with
      | zero =>
        intro n hn
        obtain rfl : n = 7 := by omega
        refine Ev.step (fun k => ?_) (bad1 [] 0)
        simp only [spec_ReadJob.l0]
        rw [if_neg (by decide), if_pos trivial]
      | succ d ih =>
        intro n hn
        have e1 : wrap64 ((n : Int) + 1) = ((n + 1 : Nat) : Int) := by unfold wrap64; omega
        refine Ev.step (fun k => ?_) (ih (n + 1) (by omega))
        simp only [spec_ReadJob.l0]
        rw [if_pos (by omega), if_pos (by omega), if_pos (by omega), e1]
        by_cases c : (n : Int) > 0
        · rw [if_pos c, if_neg (by simp)]
        · rw [if_neg c]
    exact step 7 0 rfl
  | cons x tl =>
    refine Ev.step (f := fun k => spec_ReadJob.l0 k (x :: tl) KL 7 1 0 ⟨#[]⟩ ⟨#[]⟩ 0 0) (fun k => ?_) ?_
    · simp only [spec_ReadJob.l0]
      rw [if_pos (by decide), if_pos (by decide), if_pos (by decide), if_neg (by decide), e0]
    · have hr := kindUp_range x 6
      have key := srj_loop x tl (rjAll (x :: tl)) ?_ 6 0 rfl
      · exact key
      · unfold rjAll
        simp only
        by_cases c20 : (x :: tl).length ≤ 20
        · rw [if_pos c20]
          by_cases ck : kindUp x 6 = 0
          · rw [if_pos ck]
            exact Ev.congr (fun k => by rw [if_pos ck]) (bad1 _ _)
          · rw [if_neg ck]
            refine Ev.congr (fun k => by rw [if_neg ck, show (decide (((x :: tl).length : Int) > 20)) = false from decide_eq_false (by omega)]) ?_
            exact srj_flag (kindUp x 6) x tl (by simp only [List.length_cons] at hl; omega) (fun z hz => hs z (List.mem_cons_of_mem _ hz)) (by unfold inB; simp; omega)
        · rw [if_neg c20]
          by_cases ck : kindUp x 6 = 0
          · exact Ev.congr (fun k => by rw [if_pos ck]) (bad1 _ _)
          · exact Ev.congr (fun k => by rw [if_neg ck, show (decide (((x :: tl).length : Int) > 20)) = true from decide_eq_true (by omega)]) (bad1 _ _)
theorem rjAll_len (l : List ByteArray) (hl : l.length ≤ 1048576) : (rjAll l).2.2.2.2.2.1.length ≤ 1048576 := by
  have e : ∀ k fl w u g (q : List ByteArray), q.length ≤ 1048576 → (rjEnd k fl w u g q).2.2.2.2.2.1.length ≤ 1048576 := by
    intro k fl w u g q hq
    unfold rjEnd
    split
    · exact hq
    · exact Nat.zero_le _
  have ww : ∀ k fl (q : List ByteArray), q.length ≤ 1048576 → (rjWord k fl q).2.2.2.2.2.1.length ≤ 1048576 := by
    intro k fl q hq
    unfold rjWord
    split
    · cases q with
      | nil => exact Nat.zero_le _
      | cons x r =>
        have hr : r.length ≤ 1048576 := by simp only [List.length_cons] at hq; omega
        simp only
        split
        · split
          · exact e _ _ _ _ _ _ hr
          · exact Nat.zero_le _
        · split
          · exact e _ _ _ _ _ _ hr
          · exact Nat.zero_le _
    · exact e _ _ _ _ _ _ hq
  unfold rjAll
  cases l with
  | nil => exact Nat.zero_le _
  | cons x r =>
    have hr : r.length ≤ 1048576 := by simp only [List.length_cons] at hl; omega
    simp only
    split
    · split
      · exact Nat.zero_le _
      · unfold rjFlag
        cases r with
        | nil => exact ww _ _ _ hr
        | cons y r =>
          have hr2 : r.length ≤ 1048576 := by simp only [List.length_cons] at hr; omega
          simp only
          split
          · split
            · exact Nat.zero_le _
            · exact ww _ _ _ hr2
          · exact ww _ _ _ hr
    · exact Nat.zero_le _
theorem eqJob_ev2 (a : Int) (b c : ByteArray) (d e : Int) (l : List ByteArray) (hl : l.length ≤ 4294967282) : Ev (fun k => laws_eqJob.f k a b c d e l a b c d e l) true := by
  unfold laws_eqJob.f
  refine Ev.congr (fun k => by rw [if_pos rfl, if_pos rfl, if_pos rfl, if_pos rfl, if_pos rfl]) (Ev.bind (eqStringS_ev l hl) ?_)
  exact Ev.congr (f := fun _ => some true) (fun k => by rw [if_pos rfl]) (Ev.now _)

end Go.Proofs.YtibfocaldcjiiaaGreatDoor.Q

/- The law FnExactReadJob, walked by hand: one way alone, the answers being known. -/
namespace Go.Proofs.YtibfocaldcjiiaaGreatDoor.Q
open Go.RowKit Go.Proofs.YtibfocaldcjiiaaGreatDoorW.PrintWords Go.Proofs.YtibfocaldcjiiaaGreatDoorW.PrintLast Go.Proofs.YtibfocaldcjiiaaGreatDoorW.PrintMore
attribute [local go_sem] max2_int min2_int max_two min_two max_three min_three max_four min_four   -- for this text's walks alone
set_option linter.unusedVariables false
set_option linter.unusedSimpArgs false

theorem R_kept {α : Type} {d : Kd α} {e base : Nat} {ok S : Nat → Prop} {W W2 : World} {v : Value} {xs : List α} (h : d.R e W base ok v xs) (hk : Kept W W2 S) (hd : ∀ k, ok k → ¬ S k) : d.R e W2 base ok v xs :=
  Kd.R_step h (fun k ho hlt => hk.2 k hlt (hd k ho))
theorem R_iv {α : Type} {d : Kd α} {e base : Nat} {ok : Nat → Prop} {W : World} {v : Value} {xs : List α} (h : d.R e W base ok v xs) : d.R e W base (fun k => base ≤ k ∧ k < W.heap.size) v xs :=
  Kd.R_mono (Kd.R_bound h) (fun _ hk => ⟨hk.2.1, hk.2.2.1⟩)
abbrev jobC (a : JobAns) (v : Value) : Array Value := #[.int .i64 a.1, .string a.2.1, .string a.2.2.1, .int .i64 a.2.2.2.1, .int .i64 a.2.2.2.2.1, v]
set_option maxHeartbeats 8000000 in
set_option maxRecDepth 100000 in
theorem lawReadJob_walk (A0 : Option Addr) (c0 : Nat) (l0 : List ByteArray) (w : World) (hr0 : Kd.C Kd.string w A0 l0.length l0) (hc0 : l0.length ≤ c0) (hl : l0.length ≤ maxLen) (hs : ∀ x ∈ l0, x.size ≤ maxLen) (hE : Env w) :
    Calls Tryz.prog 7 #[.slice A0 l0.length c0] w fun e w' => e = .returned (.bool true) ∧ Below w.heap.size w w' := by
  have hu1 := Tryz.underlying49
  obtain ⟨r, ⟨K0, hr⟩, hr1, hr2⟩ := szStringS_ev l0 hl hs 1048576 (by omega) (by omega)
  have HSZ := Aside0.mk (laws_szStringS.calls K0 A0 c0 l0 1048576 r w hr0 hc0 (hr K0 (Nat.le_refl _)))
  have HR0 := Aside0.mk hr0
  have HC0 := Aside0.mk hc0
  have HE := Aside0.mk hE
  clear hr0 hc0 hE hr
  by_cases h : r < 0
  · clear hr1 hr2 hl hs
    have h1 : decide (r < 0) = true := decide_eq_true h
    go_enter Tryz.func7, Tryz.ntmps7
    go_wp2_with fail
    refine HSZ.out.mono ?_; rintro e w1 ⟨rfl, ⟨n1, rfl⟩⟩
    go_wp2
    go_ret
    exact ⟨rfl, pw_below_drewN (Below.refl _ _) _⟩
  have h1 : decide (r < 0) = false := decide_eq_false h
  obtain ⟨z3, z4⟩ := hr2 (by omega)
  obtain ⟨K1, t0⟩ := toStringS_ev l0 (by omega)
  obtain ⟨K2, e1⟩ := specReadJob_ev l0 (by omega) (fun x hx => by have := z4 x hx; omega)
  have e2 : impl_ReadJob.f l0 = some (rjAll l0) := if_pos (fun y hy => by have := z4 y hy; omega)
  have hlen := rjAll_len l0 (by omega)
  obtain ⟨⟨k, fl, wd, u, g, q, c, b⟩, hR⟩ : ∃ R, R = rjAll l0 := ⟨_, rfl⟩
  rw [← hR] at e1 e2 hlen
  simp only at hlen
  obtain ⟨K3, eqJ⟩ := eqJob_ev2 k fl wd u g q (by omega)
  obtain ⟨K4, eqL⟩ := eqStringS_ev l0 (by omega)
  obtain ⟨K5, mk⟩ := markStringS_ev l0 1 (by omega) (by omega) (by omega)
  obtain ⟨K6, mkJ⟩ : Ev (fun n => laws_markJob.f n k fl wd u g q 1) (1 + (q.length : Int), markL 1 q.length) := by
    unfold laws_markJob.f
    exact Ev.bind (f := fun _ (bt950 : Int × List ByteArray) => some (bt950.1, bt950.2)) (markStringS_ev q 1 (by omega) (by omega) (by omega)) (Ev.now _)
  obtain ⟨K7, held⟩ : Ev (fun n => laws_heldJob.f n k fl wd u g (markL 1 q.length) 1) (1 + (q.length : Int)) := by
    unfold laws_heldJob.f
    refine Ev.bind (heldStringS_ev q.length 1 (by omega) (by omega) (by omega)) ?_
    exact Ev.congr (f := fun _ => some (1 + (q.length : Int))) (fun n => by rw [if_neg (by omega)]) (Ev.now _)
  have CTO := Aside0.mk (fun W (hb : Below w.heap.size w W) => laws_toStringS.calls K1 A0 c0 l0 l0 W (Kd.C_below HR0.out hb) HC0.out (t0 K1 (Nat.le_refl _)))
  have CSP := Aside0.mk (fun W P A c1 hv => spec_ReadJob.calls K2 P A c1 l0 k fl wd u g q c b W hv (e1 K2 (Nat.le_refl _)))
  have CIM := Aside0.mk (fun W A c1 hr hc (hE : Env W) => impl_ReadJob.calls A c1 l0 k fl wd u g q c b W hr hc e2 hE)
  have CEJ := Aside0.mk (fun W A c1 A' c1' hr hc hr' hc' => laws_eqJob.calls K3 k fl wd u g A c1 q k fl wd u g A' c1' q true W hr hc hr' hc' (eqJ K3 (Nat.le_refl _)))
  have CEL := Aside0.mk (fun W A c1 A' c1' hr hc hr' hc' => laws_eqStringS.calls K4 A c1 l0 A' c1' l0 true W hr hc hr' hc' (eqL K4 (Nat.le_refl _)))
  have CMK := Aside0.mk (fun W P v hB ho => laws_markStringS.calls K5 P v l0 1 _ _ w W hB ho (mk K5 (Nat.le_refl _)))
  have CMJ := Aside0.mk (fun W P v hB ho => laws_markJob.calls K6 k fl wd u g P v q 1 _ _ w W hB ho (mkJ K6 (Nat.le_refl _)))
  have hml : (markL 1 q.length).length = q.length := markL_length _ _
  have CHJ : Aside0 (∀ (W : World) (A : Option Addr) (c1 : Nat), Kd.C Kd.string W A q.length (markL 1 q.length) → q.length ≤ c1 →
      Calls Tryz.prog 36 #[.agg #[.int .i64 k, .string fl, .string wd, .int .i64 u, .int .i64 g, .slice A q.length c1], .int .i64 1] W fun e w' => e = .returned (.int .i64 (1 + (q.length : Int))) ∧ Below W.heap.size W w') := ⟨fun W A c1 hr hc => by
    have h := laws_heldJob.calls K7 k fl wd u g A c1 (markL 1 q.length) 1 _ W (by rw [hml]; exact hr) (by rw [hml]; exact hc) (held K7 (Nat.le_refl _))
    rw [hml] at h
    exact h⟩
  have q1 : decide (1 + (l0.length : Int) < 0) = false := decide_eq_false (by omega)
  have q2 : decide (1 + (q.length : Int) < 0) = false := decide_eq_false (by omega)
  clear hr1 hr2 hl hs h t0 e1 e2 eqJ eqL mk mkJ held hR z3 z4
  have HLEN := Aside0.mk hlen
  have HML := Aside0.mk hml
  clear hlen hml
  go_enter Tryz.func7, Tryz.ntmps7
  go_wp2_with fail
  refine HSZ.out.mono ?_; rintro e w1 ⟨rfl, ⟨n1, rfl⟩⟩
  clear HSZ
  have D1 : Below w.heap.size w (w.drewN n1) := pw_below_drewN (Below.refl _ _) _
  have DD1 := Aside0.mk D1
  clear D1
  go_wp2_with fail
  refine (CTO.out _ DD1.out).mono ?_; rintro e w2 ⟨v1, rfl, hR1, hd1⟩
  have D2 := Aside0.mk (below_step DD1.out hd1)
  obtain ⟨A1, c1, rfl⟩ := Kd.R_slice hR1
  have HR1 := Aside0.mk hR1
  clear hd1 hR1
  go_wp2_with fail
  refine (CSP.out _ _ _ _ (Kd.R_V (Kd.R_tight rfl HR1.out))).mono ?_; rintro e w3 ⟨v2, rfl, hR2, hd2⟩
  have D3 := Aside0.mk (below_step D2.out hd2)
  have R2 := Aside0.mk (R_iv hR2)
  obtain ⟨A2, c2, rfl⟩ := Kd.R_slice hR2
  clear hd2 hR2 HR1
  go_upto_region 6 with (fail)
  obtain ⟨g4, hg4⟩ : ∃ x, x = w3.heap.size := ⟨_, rfl⟩
  obtain ⟨w4, hw4⟩ : ∃ W, W = w3.alloc (.cells #[.int .i64 k, .string fl, .string wd, .int .i64 u, .int .i64 g, .slice A2 q.length c2] 49 (0, 0)) := ⟨_, rfl⟩
  have BB := Aside0.mk (show Below w3.heap.size w3 w4 from by rw [hw4]; exact below_alloc (Below.refl _ _) _)
  have BKg4 : Aside0 (w4.heap[g4]? = some (.cells #[.int .i64 k, .string fl, .string wd, .int .i64 u, .int .i64 g, .slice A2 q.length c2] 49 (0, 0))) := ⟨by rw [hw4, hg4]; exact blk_new _ _⟩
  rw [← hw4, ← hg4]
  have Gg4 := Aside0.mk hg4
  clear hg4 hw4
  have D4 := Aside0.mk (below_step D3.out BB.out)
  have L34 := Aside0.mk (show g4 < w4.heap.size from blk_lt BKg4.out)
  replace R2 := Aside0.mk (Kd.R_below R2.out BB.out)
  clear BB D3
  go_wp2_with fail
  refine (CTO.out _ D4.out).mono ?_; rintro e w5 ⟨v3, rfl, hR3, hd⟩
  have D5 := Aside0.mk (below_step D4.out hd)
  have L45 := Aside0.mk hd.size
  replace R2 := Aside0.mk (Kd.R_below R2.out hd)
  replace BKg4 := Aside0.mk (((hd).block _ (blk_lt BKg4.out)).trans BKg4.out)
  have R3 := Aside0.mk (R_iv hR3)
  obtain ⟨A3, c3, rfl⟩ := Kd.R_slice hR3
  clear hd hR3
  go_wp2_with fail
  refine (CIM.out _ _ _ (Kd.R_reads' R3.out).2.2 (Kd.R_reads' R3.out).2.1 (HE.out.below D5.out)).mono ?_; rintro e w6 ⟨v4, rfl, hR4, hd⟩
  have D6 := Aside0.mk (below_step D5.out hd)
  replace R2 := Aside0.mk (Kd.R_below R2.out hd)
  replace R3 := Aside0.mk (Kd.R_below R3.out hd)
  replace BKg4 := Aside0.mk (((hd).block _ (blk_lt BKg4.out)).trans BKg4.out)
  have R4 := Aside0.mk (R_iv hR4)
  obtain ⟨A4, c4, rfl⟩ := Kd.R_slice hR4
  have S56 := Aside0.mk hd.size
  clear hd hR4
  go_upto_region 8 with (fail)
  obtain ⟨g8, hg8⟩ : ∃ x, x = w6.heap.size := ⟨_, rfl⟩
  obtain ⟨w7, hw7⟩ : ∃ W, W = w6.alloc (.cells #[.int .i64 k, .string fl, .string wd, .int .i64 u, .int .i64 g, .slice A4 q.length c4] 49 (0, 0)) := ⟨_, rfl⟩
  have BB := Aside0.mk (show Below w6.heap.size w6 w7 from by rw [hw7]; exact below_alloc (Below.refl _ _) _)
  have BKg8 : Aside0 (w7.heap[g8]? = some (.cells #[.int .i64 k, .string fl, .string wd, .int .i64 u, .int .i64 g, .slice A4 q.length c4] 49 (0, 0))) := ⟨by rw [hw7, hg8]; exact blk_new _ _⟩
  rw [← hw7, ← hg8]
  have Gg8 := Aside0.mk hg8
  clear hg8 hw7
  have D7 := Aside0.mk (below_step D6.out BB.out)
  replace R2 := Aside0.mk (Kd.R_below R2.out BB.out)
  replace R3 := Aside0.mk (Kd.R_below R3.out BB.out)
  replace R4 := Aside0.mk (Kd.R_below R4.out BB.out)
  replace BKg4 := Aside0.mk (((BB.out).block _ (blk_lt BKg4.out)).trans BKg4.out)
  have S67 := Aside0.mk BB.out.size
  clear BB
  have czg4 := fun o => blk_cell BKg4.out o
  have czg8 := fun o => blk_cell BKg8.out o
  go_wp2_with fail
  refine (CEJ.out _ _ _ _ _ (Kd.R_reads' R4.out).2.2 (Kd.R_reads' R4.out).2.1 (Kd.R_reads' R2.out).2.2 (Kd.R_reads' R2.out).2.1).mono ?_; rintro e w8 ⟨rfl, hd⟩
  have D8 := Aside0.mk (below_step D7.out hd)
  replace R2 := Aside0.mk (Kd.R_below R2.out hd)
  replace R3 := Aside0.mk (Kd.R_below R3.out hd)
  replace R4 := Aside0.mk (Kd.R_below R4.out hd)
  replace BKg4 := Aside0.mk (((hd).block _ (blk_lt BKg4.out)).trans BKg4.out)
  replace BKg8 := Aside0.mk (((hd).block _ (blk_lt BKg8.out)).trans BKg8.out)
  clear czg4 czg8
  clear hd
  go_wp2_with fail
  refine (CTO.out _ D8.out).mono ?_; rintro e w9 ⟨v5, rfl, hR5, hd⟩
  have D9 := Aside0.mk (below_step D8.out hd)
  replace R2 := Aside0.mk (Kd.R_below R2.out hd)
  replace R3 := Aside0.mk (Kd.R_below R3.out hd)
  replace R4 := Aside0.mk (Kd.R_below R4.out hd)
  replace BKg4 := Aside0.mk (((hd).block _ (blk_lt BKg4.out)).trans BKg4.out)
  replace BKg8 := Aside0.mk (((hd).block _ (blk_lt BKg8.out)).trans BKg8.out)
  have R5 := Aside0.mk (R_iv hR5)
  obtain ⟨A5, c5, rfl⟩ := Kd.R_slice hR5
  clear hd hR5
  go_wp2_with fail
  refine (CEL.out _ _ _ _ _ (Kd.R_reads' R3.out).2.2 (Kd.R_reads' R3.out).2.1 (Kd.R_reads' R5.out).2.2 (Kd.R_reads' R5.out).2.1).mono ?_; rintro e w10 ⟨rfl, hd0⟩
  have hd := Drawn0.below hd0
  have D10 := Aside0.mk (below_step D9.out hd)
  replace R2 := Aside0.mk (Kd.R_below R2.out hd)
  replace R3 := Aside0.mk (Kd.R_below R3.out hd)
  replace R4 := Aside0.mk (Kd.R_below R4.out hd)
  replace BKg4 := Aside0.mk (((hd).block _ (blk_lt BKg4.out)).trans BKg4.out)
  replace BKg8 := Aside0.mk (((hd).block _ (blk_lt BKg8.out)).trans BKg8.out)
  clear hd hd0 R5
  go_wp2_with fail
  refine (CMK.out _ (fun k => w4.heap.size ≤ k ∧ k < w5.heap.size) _ D10.out (Kd.R_lower R3.out D4.out.size)).mono ?_; rintro e w11 ⟨rfl, hm, hD, hk⟩
  have D11 := Aside0.mk hD
  have HK := Aside0.mk hk
  replace R2 := Aside0.mk (R_kept R2.out HK.out (fun k hk h => by have := Gg4.out; have := D4.out.size; have := hk.2; have := h.1; have := L34.out; omega))
  replace R4 := Aside0.mk (R_kept R4.out HK.out (fun k hk h => by have := hk.1; have := h.2; omega))
  replace BKg4 := Aside0.mk ((HK.out.2 _ (blk_lt BKg4.out) (fun h => by have := Gg4.out; have := h.1; have := L34.out; omega)).trans BKg4.out)
  replace BKg8 := Aside0.mk ((HK.out.2 _ (blk_lt BKg8.out) (fun h => by have := Gg8.out; have := h.2; have := S56.out; omega)).trans BKg8.out)
  clear hm hD hk HK R3
  have czg4 := fun o => blk_cell BKg4.out o
  have czg8 := fun o => blk_cell BKg8.out o
  go_wp2_with fail
  refine (CEJ.out _ _ _ _ _ (Kd.R_reads' R4.out).2.2 (Kd.R_reads' R4.out).2.1 (Kd.R_reads' R2.out).2.2 (Kd.R_reads' R2.out).2.1).mono ?_; rintro e w12 ⟨rfl, hd⟩
  have D12 := Aside0.mk (below_step D11.out hd)
  replace R2 := Aside0.mk (Kd.R_below R2.out hd)
  replace R4 := Aside0.mk (Kd.R_below R4.out hd)
  replace BKg4 := Aside0.mk (((hd).block _ (blk_lt BKg4.out)).trans BKg4.out)
  replace BKg8 := Aside0.mk (((hd).block _ (blk_lt BKg8.out)).trans BKg8.out)
  clear czg4 czg8
  clear hd
  have czg8 := fun o => blk_cell BKg8.out o
  go_wp2_with fail
  refine (CMJ.out _ (fun k => w5.heap.size ≤ k ∧ k < w6.heap.size) _ D12.out (Kd.R_lower R4.out D5.out.size)).mono ?_; rintro e w13 ⟨rfl, hm, hD, hk⟩
  have D13 := Aside0.mk hD
  have HK := Aside0.mk hk
  have R4m := Aside0.mk hm
  replace R2 := Aside0.mk (R_kept R2.out HK.out (fun k hk h => by have := Gg4.out; have := hk.2; have := h.1; have := L34.out; have := L45.out; omega))
  replace BKg4 := Aside0.mk ((HK.out.2 _ (blk_lt BKg4.out) (fun h => by have := Gg4.out; have := h.1; have := L34.out; have := L45.out; omega)).trans BKg4.out)
  replace BKg8 := Aside0.mk ((HK.out.2 _ (blk_lt BKg8.out) (fun h => by have := Gg8.out; have := h.2; omega)).trans BKg8.out)
  clear hm hD hk HK czg8 R4
  have HC4 : Aside0 (Kd.C Kd.string w13 A4 q.length (markL 1 q.length) ∧ q.length ≤ c4) := ⟨by have h := Kd.R_reads' R4m.out; have e := HML.out; refine ⟨by have := h.2.2; rw [e] at this; exact this, by have := h.2.1; exact this⟩⟩
  have czg8 := fun o => blk_cell BKg8.out o
  go_wp2_with fail
  refine (CHJ.out _ A4 c4 HC4.out.1 HC4.out.2).mono ?_; rintro e w14 ⟨rfl, hd⟩
  have D14 := Aside0.mk (below_step D13.out hd)
  replace R2 := Aside0.mk (Kd.R_below R2.out hd)
  replace R4m := Aside0.mk (Kd.R_below R4m.out hd)
  replace BKg4 := Aside0.mk (((hd).block _ (blk_lt BKg4.out)).trans BKg4.out)
  replace BKg8 := Aside0.mk (((hd).block _ (blk_lt BKg8.out)).trans BKg8.out)
  clear hd czg8
  go_wp2_with fail
  refine (CTO.out _ D14.out).mono ?_; rintro e w15 ⟨v6, rfl, hR6, hd⟩
  have D15 := Aside0.mk (below_step D14.out hd)
  replace R2 := Aside0.mk (Kd.R_below R2.out hd)
  replace R4m := Aside0.mk (Kd.R_below R4m.out hd)
  replace BKg4 := Aside0.mk (((hd).block _ (blk_lt BKg4.out)).trans BKg4.out)
  replace BKg8 := Aside0.mk (((hd).block _ (blk_lt BKg8.out)).trans BKg8.out)
  have R6 := Aside0.mk (R_iv hR6)
  obtain ⟨A6, c6, rfl⟩ := Kd.R_slice hR6
  clear hd hR6
  go_wp2_with fail
  refine (CIM.out _ _ _ (Kd.R_reads' R6.out).2.2 (Kd.R_reads' R6.out).2.1 (HE.out.below D15.out)).mono ?_; rintro e w16 ⟨v7, rfl, hR7, hd⟩
  have D16 := Aside0.mk (below_step D15.out hd)
  replace R2 := Aside0.mk (Kd.R_below R2.out hd)
  replace R4m := Aside0.mk (Kd.R_below R4m.out hd)
  replace BKg4 := Aside0.mk (((hd).block _ (blk_lt BKg4.out)).trans BKg4.out)
  replace BKg8 := Aside0.mk (((hd).block _ (blk_lt BKg8.out)).trans BKg8.out)
  have R7 := Aside0.mk (R_iv hR7)
  obtain ⟨A7, c7, rfl⟩ := Kd.R_slice hR7
  clear hd hR7 R6
  go_upto_region 25 with (fail)
  obtain ⟨g14, hg14⟩ : ∃ x, x = w16.heap.size := ⟨_, rfl⟩
  obtain ⟨w17, hw17⟩ : ∃ W, W = w16.alloc (.cells #[.int .i64 k, .string fl, .string wd, .int .i64 u, .int .i64 g, .slice A7 q.length c7] 49 (0, 0)) := ⟨_, rfl⟩
  have BB := Aside0.mk (show Below w16.heap.size w16 w17 from by rw [hw17]; exact below_alloc (Below.refl _ _) _)
  have BKg14 : Aside0 (w17.heap[g14]? = some (.cells #[.int .i64 k, .string fl, .string wd, .int .i64 u, .int .i64 g, .slice A7 q.length c7] 49 (0, 0))) := ⟨by rw [hw17, hg14]; exact blk_new _ _⟩
  rw [← hw17, ← hg14]
  have Gg14 := Aside0.mk hg14
  clear hg14 hw17
  have D17 := Aside0.mk (below_step D16.out BB.out)
  replace R2 := Aside0.mk (Kd.R_below R2.out BB.out)
  replace R4m := Aside0.mk (Kd.R_below R4m.out BB.out)
  replace R7 := Aside0.mk (Kd.R_below R7.out BB.out)
  replace BKg4 := Aside0.mk (((BB.out).block _ (blk_lt BKg4.out)).trans BKg4.out)
  replace BKg8 := Aside0.mk (((BB.out).block _ (blk_lt BKg8.out)).trans BKg8.out)
  clear BB
  have czg4 := fun o => blk_cell BKg4.out o
  have czg14 := fun o => blk_cell BKg14.out o
  go_wp2_with fail
  refine (CEJ.out _ _ _ _ _ (Kd.R_reads' R7.out).2.2 (Kd.R_reads' R7.out).2.1 (Kd.R_reads' R2.out).2.2 (Kd.R_reads' R2.out).2.1).mono ?_; rintro e w18 ⟨rfl, hd⟩
  have D18 := Aside0.mk (below_step D17.out hd)
  replace R2 := Aside0.mk (Kd.R_below R2.out hd)
  replace R4m := Aside0.mk (Kd.R_below R4m.out hd)
  replace BKg4 := Aside0.mk (((hd).block _ (blk_lt BKg4.out)).trans BKg4.out)
  replace BKg8 := Aside0.mk (((hd).block _ (blk_lt BKg8.out)).trans BKg8.out)
  clear czg4 czg14
  clear hd
  clear HC4
  have HC4 : Aside0 (Kd.C Kd.string w18 A4 q.length (markL 1 q.length) ∧ q.length ≤ c4) := ⟨by have h := Kd.R_reads' R4m.out; have e := HML.out; refine ⟨by have := h.2.2; rw [e] at this; exact this, by have := h.2.1; exact this⟩⟩
  have czg8 := fun o => blk_cell BKg8.out o
  go_wp2_with fail
  refine (CHJ.out _ A4 c4 HC4.out.1 HC4.out.2).mono ?_; rintro e w19 ⟨rfl, hd⟩
  have D19 := Aside0.mk (below_step D18.out hd)
  clear hd czg8
  go_wp2
  go_ret
  exact ⟨rfl, D19.out⟩

end Go.Proofs.YtibfocaldcjiiaaGreatDoor.Q
