/- Texts of this claim, merged by a program (wip/tools/merge.py): HJobBase, HJobLaw, HPureJobWords. -/
import Derived.Test.YtibfocaldcjiiaaDoorK1
import Derived.Test.YtibfocaldcjiiaaDoorK2
import Derived.Test.YtibfocaldcjiiaaDoorK3
import Derived.Test.YtibfocaldcjiiaaDoorK4
import Derived.Test.YtibfocaldcjiiaaDoorK14
import Derived.Test.YtibfocaldcjiiaaDoorK20
import Derived.Test.YtibfocaldcjiiaaDoorK25
import Derived.Test.YtibfocaldcjiiaaDoorK13
import Derived.Test.YtibfocaldcjiiaaDoorK26
import Derived.Test.YtibfocaldcjiiaaDoorK5
import Derived.Test.YtibfocaldcjiiaaDoorK23
import Derived.Test.YtibfocaldcjiiaaDoorK24
import Derived.Test.YtibfocaldcjiiaaDoorK18
import Derived.Test.YtibfocaldcjiiaaDoorK21
namespace Go.Proofs.YtibfocaldcjiiaaDoor.Q
open Go.RowKit Go.Proofs.YtibfocaldcjiiaaDoorW.PrintWords Go.Proofs.YtibfocaldcjiiaaDoorW.PrintLast Go.Proofs.YtibfocaldcjiiaaDoorW.PrintMore
attribute [local go_sem] max2_int min2_int max_two min_two max_three min_three max_four min_four   -- for this text's walks alone
set_option linter.unusedVariables false
set_option linter.unusedSimpArgs false
def ownedB (k u g : Int) : Bool := if k = 4 then (inB (-1) 99 u && inB (-1) 99 g) && !(decide (u = -1) && decide (g = -1)) else decide (u = 0) && decide (g = 0)
def wordB (k : Int) (w : ByteArray) : Bool := if k = 5 then (changeB 0 w.data.toList).2 else if k = 6 then patB w && (bt w 0 != 45) else (w.toList == [])
def flagL (k : Int) : ByteArray := rdOf ByteArray.empty [(⟨#[]⟩ : ByteArray), (⟨#[112]⟩ : ByteArray), (⟨#[102]⟩ : ByteArray), (⟨#[97]⟩ : ByteArray), (⟨#[]⟩ : ByteArray), (⟨#[]⟩ : ByteArray), (⟨#[]⟩ : ByteArray)] k
def jobB (k : Int) (fl w : ByteArray) (u g : Int) (l : List ByteArray) : Bool :=
  inB 1 6 k && ((fl.toList == [] || fl.toList == (flagL k).toList) && (wordB k w && (pathsB k l && ownedB k u g)))
theorem patB_pos (w : ByteArray) (h : patB w = true) : 0 < w.size := by
  unfold patB at h
  simp only [Bool.and_eq_true, decide_eq_true_eq] at h
  omega
theorem isWord_ev (k : Int) (w : ByteArray) (hw : w.size < 4294967281) : Ev (fun n => impl_isWord.f n k w) (wordB k w) := by
  unfold impl_isWord.f wordB
  by_cases h5 : k = 5
  · rw [if_pos h5]
    refine Ev.congr (fun n => by rw [if_pos h5]; rfl) (Ev.bind (f := fun _ t => some t) (Ev.bind (f := fun _ (t : Int × Bool) => some t.2) (implChange_ev 0 w hw) (Ev.now _)) (Ev.now _))
  · rw [if_neg h5]
    refine Ev.congr (fun n => by rw [if_neg h5]) ?_
    by_cases h6 : k = 6
    · rw [show (if k = 6 then patB w && (bt w 0 != 45) else (w.toList == [])) = (patB w && (bt w 0 != 45)) from if_pos h6]
      refine Ev.congr (f := fun _ => some (patB w && (bt w 0 != 45))) (fun n => ?_) (Ev.now _)
      rw [if_pos h6]
      unfold impl_isPattern.f
      simp only [Option.bind_some]
      cases hp : patB w
      · rfl
      · rw [if_pos rfl, if_pos (by have := patB_pos w hp; omega)]; rfl
    · rw [if_neg h6]
      exact Ev.congr (fun n => by rw [if_neg h6]) (Ev.now _)
theorem flagOf_f (k : Int) (h : inB 1 6 k = true) : impl_flagOf.f k = some (flagL k) := by
  unfold inB at h
  simp only [Bool.and_eq_true, decide_eq_true_eq] at h
  unfold impl_flagOf.f flagL
  simp only [Option.bind_some]
  rw [if_pos (by omega), if_pos (by simp; omega)]
theorem flagS_f (k : Int) (h : inB 1 6 k = true) : spec_l15Flag.f k = some (flagL k) := by
  unfold inB at h
  simp only [Bool.and_eq_true, decide_eq_true_eq] at h
  unfold spec_l15Flag.f flagL
  simp only [Option.bind_some]
  rw [if_pos (by omega), if_pos (by simp; omega)]
theorem implJob_j0 (x : Bool) (k : Int) (fl w : ByteArray) (u g : Int) (l : List ByteArray) : Ev (fun n => impl_GoodJob.j0 n x k fl w u g l) (!x && ownedB k u g) := by
  cases x
  · refine Ev.step (f := fun _ => some (ownedB k u g)) (fun n => ?_) (Ev.now _)
    simp only [impl_GoodJob.j0]
    rw [if_neg (by simp)]
    unfold ownedB
    by_cases h4 : k = 4
    · rw [if_pos h4, if_pos h4, areOwners_f]
      simp only [Option.bind_some]
      cases inB (-1) 99 u && inB (-1) 99 g
      · rfl
      · rw [if_pos rfl, Bool.true_and]
        by_cases h1 : u = -1
        · rw [if_pos h1, decide_eq_true h1, Bool.true_and]; rfl
        · rw [if_neg h1, decide_eq_false h1]; rfl
    · rw [if_neg h4, if_neg h4]
      by_cases h1 : u = 0
      · rw [if_pos h1, decide_eq_true h1, Bool.true_and]; rfl
      · rw [if_neg h1, decide_eq_false h1]; rfl
  · refine Ev.step (f := fun _ => some false) (fun n => ?_) (Ev.now _)
    simp only [impl_GoodJob.j0]
    rw [if_pos trivial]
theorem implJob_ev (k : Int) (fl w : ByteArray) (u g : Int) (l : List ByteArray) (hw : w.size < 4294967281) : Ev (fun n => impl_GoodJob.f n k fl w u g l) (jobB k fl w u g l) := by
  unfold impl_GoodJob.f jobB
  rw [within_f]
  simp only [Option.bind_some]
  cases hk : inB 1 6 k
  · exact Ev.congr (fun n => by rw [if_neg (by simp)]) (implJob_j0 true k fl w u g l)
  · refine Ev.congr (fun n => by rw [if_pos rfl]) ?_
    have tail : Ev (fun n => (impl_isWord.f n k w).bind fun t418 => (if t418 = true then ((impl_arePaths.f k l).bind fun t419 => (impl_GoodJob.j0 n (!t419) k fl w u g l)) else (impl_GoodJob.j0 n true k fl w u g l))) (wordB k w && (pathsB k l && ownedB k u g)) := by
      refine Ev.bind (isWord_ev k w hw) ?_
      cases wordB k w
      · exact Ev.congr (fun n => by rw [if_neg (by simp)]) (implJob_j0 true k fl w u g l)
      · refine Ev.congr (f := fun n => impl_GoodJob.j0 n (!pathsB k l) k fl w u g l) (fun n => by rw [if_pos rfl]; rfl) ?_
        have := implJob_j0 (!pathsB k l) k fl w u g l
        rwa [Bool.not_not] at this
    by_cases h1 : fl.toList = []
    · have e : (fl.toList == []) = true := by simpa using h1
      rw [e, Bool.true_or, Bool.true_and, Bool.true_and]
      exact Ev.congr (fun n => by rw [if_pos h1]) tail
    · have e : (fl.toList == []) = false := by simpa using h1
      rw [e, Bool.false_or, Bool.true_and]
      refine Ev.congr (fun n => by rw [if_neg h1, flagOf_f k hk]) ?_
      by_cases h2 : fl.toList = (flagL k).toList
      · have e2 : (fl.toList == (flagL k).toList) = true := by simpa using h2
        rw [e2, Bool.true_and]
        exact Ev.congr (fun n => by simp only [Option.bind_some]; rw [if_pos h2]) tail
      · have e2 : (fl.toList == (flagL k).toList) = false := by simpa using h2
        rw [e2, Bool.false_and]
        exact Ev.congr (fun n => by simp only [Option.bind_some]; rw [if_neg h2]) (implJob_j0 true k fl w u g l)
theorem one_name (c : Int) (hc : 0 ≤ c ∧ c ≤ 255) (p : ByteArray) (hp : p.size = 2) (h0 : bt p 0 = 97) (h1 : bt p 1 = c) : nameOkB p = nameB c := by
  have hl := data_length p
  have hb : bytesOf p = [97, c] := by
    apply List.ext_getElem
    · rw [bytesOf_length, hp]; rfl
    · intro i hi hi2
      have h3 := rd_bytesOf p (i : Int)
      have : (bytesOf p)[i] = rd (bytesOf p) (i : Int) := by simp [rd, List.getD, List.getElem?_eq_getElem hi]
      rw [this, h3]
      have hi3 : i = 0 ∨ i = 1 := by simp at hi2; omega
      rcases hi3 with rfl | rfl
      · exact h0
      · exact h1
  unfold nameOkB partB
  rw [hb, hp]
  have e1 : ¬ p.toList = [46] := fun e => by
    rw [ByteArray.toList_eq] at e
    have := congrArg List.length e
    rw [hl, hp] at this
    simp at this
  have e2 : ¬ p.toList = [46, 46] := fun e => by
    rw [ByteArray.toList_eq] at e
    have h3 := getD_bt p 0 (by omega)
    rw [e] at h3
    have : bt p 0 = 46 := h3
    omega
  have f1 : (p.toList == [46]) = false := by simpa using e1
  have f2 : (p.toList == [46, 46]) = false := by simpa using e2
  rw [f1, f2]
  have h97 : nameB 97 = true := by decide
  simp [h97]
theorem l11Form_loop (s : ByteArray) (hs : s.size < 4294967281) (d : Nat) : ∀ i : Nat, i + d = s.size → Ev (fun k => spec_l11Form.l0 k s (i : Int)) (((bytesOf s).drop i).all patSign && inB 1 20 s.size) := by
  induction d with
  | zero =>
    intro i hi
    refine Ev.step (f := fun _ => some (inB 1 20 s.size)) (fun k => ?_) ?_
    · simp only [spec_l11Form.l0]
      rw [if_neg (by omega), l1In_f]
      rfl
    · rw [List.drop_of_length_le (by rw [bytesOf_length]; omega)]
      simpa using Ev.now (inB 1 20 (s.size : Int))
  | succ d ih =>
    intro i hi
    have hlt : i < s.size := by omega
    have hw := step_n (i := i) (n := s.size) hlt (by omega)
    have hdrop : (bytesOf s).drop i = bt s i :: (bytesOf s).drop (i + 1) := by
      rw [List.drop_eq_getElem_cons (by rw [bytesOf_length]; exact hlt)]
      congr 1
      have := rd_bytesOf s (i : Int)
      rw [← this]
      simp [rd, rdOf, List.getD, bytesOf_length, hlt]
    have hsz : (s.extract i (i + 1)).size = 1 := by simp; omega
    have hp : ((⟨#[97]⟩ : ByteArray) ++ (s.extract i (i + 1))).size = 2 := by rw [ByteArray.size_append, hsz]; rfl
    have hd : ((⟨#[97]⟩ : ByteArray) ++ (s.extract i (i + 1))).data.toList = [97, s.data.toList[i]'(by rw [data_length]; exact hlt)] := by
      rw [ByteArray.data_append, Array.toList_append, extract_list]
      have : (s.data.toList.take (i + 1)).drop i = [s.data.toList[i]'(by rw [data_length]; exact hlt)] := by
        rw [List.take_succ_eq_append_getElem (by rw [data_length]; exact hlt), List.drop_append_of_le_length (by rw [List.length_take, data_length]; omega), List.drop_of_length_le (by rw [List.length_take, data_length]; omega)]
        rfl
      rw [this]; rfl
    have hname := one_name (bt s i) (bt_range s i) _ hp (by rw [show (0 : Int) = ((0 : Nat) : Int) from rfl, getD_bt _ 0 (by omega), hd]; rfl) (by rw [show (1 : Int) = ((1 : Nat) : Int) from rfl, getD_bt _ 1 (by omega), hd, bt_data s i hlt]; rfl)
    have e : ∀ k, spec_l11Form.l0 (k + 1) s (i : Int) = if (bt s i = 42 ∨ bt s i = 63) then spec_l11Form.l0 k s ((i + 1 : Nat) : Int) else (spec_l2Name.f k ((⟨#[97]⟩ : ByteArray) ++ (s.extract i (i + 1)))).bind fun t361 => (if t361 = true then (spec_l11Form.l0 k s ((i + 1 : Nat) : Int)) else (some false)) := fun k => by
      simp only [spec_l11Form.l0]
      rw [if_pos (by omega), if_pos (by omega)]
      by_cases h1 : bt s i = 42
      · rw [if_pos h1, if_pos (.inl h1), hw]
      · rw [if_neg h1]
        by_cases h2 : bt s i = 63
        · rw [if_pos h2, if_pos (.inr h2), hw]
        · rw [if_neg h2, hw, if_pos (by omega), if_pos (by omega), Int.toNat_natCast, Int.toNat_natCast, if_pos (by omega), if_neg (show ¬ (bt s i = 42 ∨ bt s i = 63) from fun h => h.elim h1 h2)]
    rw [hdrop, List.all_cons]
    by_cases h12 : bt s i = 42 ∨ bt s i = 63
    · have hq : patSign (bt s i) = true := by
        unfold patSign
        rcases h12 with h | h <;> rw [h] <;> decide
      rw [hq, Bool.true_and]
      exact Ev.step (fun k => by rw [e k, if_pos h12]) (ih (i + 1) (by omega))
    · refine Ev.step (fun k => by rw [e k, if_neg h12]) ?_
      refine Ev.bind (l2Name_ev _ (by omega)) ?_
      rw [hname]
      have hq : patSign (bt s i) = nameB (bt s i) := by
        unfold patSign
        have h1 : (bt s i == 42) = false := by simpa using fun h => h12 (.inl h)
        have h2 : (bt s i == 63) = false := by simpa using fun h => h12 (.inr h)
        rw [h1, h2]; simp
      rw [hq]
      cases nameB (bt s i)
      · exact Ev.now _
      · rw [Bool.true_and]
        exact Ev.congr (fun k => by rw [if_pos rfl]) (ih (i + 1) (by omega))
theorem l11Form_ev (s : ByteArray) (hs : s.size < 4294967281) : Ev (fun k => spec_l11Form.f k s) (patB s) := by
  have h := l11Form_loop s hs s.size 0 (by omega)
  have e : (((bytesOf s).drop 0).all patSign && inB 1 20 s.size) = patB s := by
    unfold patB
    rw [List.drop_zero, List.all_eq_not_any_not, show inB 1 20 (s.size : Int) = (decide (1 ≤ s.size) && decide (s.size ≤ 20)) from inB_nat 1 20 s.size]
    cases (bytesOf s).any (fun b => !patSign b) <;> cases decide (1 ≤ s.size) <;> cases decide (s.size ≤ 20) <;> rfl
  rw [← e]; exact h
theorem l15Word_ev (k : Int) (fl w : ByteArray) (u g : Int) (l : List ByteArray) (hw : w.size < 4294967281) : Ev (fun n => spec_l15Word.f n k fl w u g l) (wordB k w) := by
  unfold spec_l15Word.f wordB
  by_cases h5 : k = 5
  · rw [if_pos h5]
    refine Ev.congr (fun n => by rw [if_pos h5]) (Ev.bind (f := fun _ (t : Int × Bool) => some t.2) (specChange_ev 0 w hw) (Ev.now _))
  · rw [if_neg h5]
    refine Ev.congr (fun n => by rw [if_neg h5]) ?_
    by_cases h6 : k = 6
    · rw [if_pos h6]
      refine Ev.congr (fun n => by rw [if_pos h6]) (Ev.bind (l11Form_ev w hw) ?_)
      cases hp : patB w
      · exact Ev.now _
      · have h0 := patB_pos w hp
        exact Ev.congr (f := fun _ => some (bt w 0 != 45)) (fun n => by rw [if_pos rfl, if_pos (by omega)]) (Ev.now _)
    · rw [if_neg h6]
      exact Ev.congr (fun n => by rw [if_neg h6]) (Ev.now _)
theorem l15Owned_f (k : Int) (fl w : ByteArray) (u g : Int) (l : List ByteArray) : spec_l15Owned.f k fl w u g l = some (ownedB k u g) := by
  unfold spec_l15Owned.f ownedB
  rw [l1In_f, l1In_f]
  by_cases h4 : k = 4
  · rw [if_pos h4, if_pos h4]
    simp only [Option.bind_some]
    cases hu : inB (-1) 99 u
    · rfl
    · cases hg : inB (-1) 99 g
      · rfl
      · unfold inB at hu hg
        simp only [Bool.and_eq_true, decide_eq_true_eq] at hu hg
        have e : wrap64 (u + g) = u + g := by unfold wrap64; omega
        rw [e]
        simp only [if_true, Bool.true_and, Bool.and_self]
        congr 1
        rw [Bool.eq_iff_iff]
        simp
        omega
  · rw [if_neg h4, if_neg h4]
    by_cases h1 : u = 0
    · rw [if_pos h1, decide_eq_true h1, Bool.true_and]; rfl
    · rw [if_neg h1, decide_eq_false h1]; rfl
theorem l2Whole_ev (s : ByteArray) (hs : s.size < 4294967281) : Ev (fun k => spec_l2Whole.f k s) (wholeB s) := by
  refine Ev.bind (l2Path_ev s hs) ?_
  unfold wholeB
  cases h : goodPathB s
  · exact Ev.now _
  · have h0 : 0 < s.size := by
      rcases Nat.eq_zero_or_pos s.size with h0 | h0
      · have e : nilB s = true := decide_eq_true h0
        unfold goodPathB longB at h
        rw [e] at h
        simp at h
      · exact h0
    exact Ev.congr (f := fun _ => some (bt s 0 == 47)) (fun k => by rw [if_pos rfl, if_pos (by omega)]) (Ev.now _)
def countB' (k : Int) (l : List ByteArray) : Bool := if k = 1 then l.length == 2 else if k = 6 then l.length == 1 else inB 1 10 l.length
theorem specJob_l0 (k : Int) (fl w : ByteArray) (u g : Int) (l : List ByteArray) (hl : l.length ≤ 4294967282) (hs : ∀ x ∈ l, x.size < 4294967281) (d : Nat) : ∀ i : Nat, i + d = l.length →
    Ev (fun n => spec_GoodJob.l0 n l (l.length : Int) (i : Int) k fl w u g l) ((l.drop i).all wholeB && countB' k l) := by
  induction d with
  | zero =>
    intro i hi
    refine Ev.step (f := fun _ => some (countB' k l)) (fun n => ?_) ?_
    · simp only [spec_GoodJob.l0]
      rw [if_neg (by omega), l1In_f]
      unfold countB'
      by_cases h1 : k = 1
      · rw [if_pos h1, if_pos h1]
        congr 1
        rw [Bool.eq_iff_iff]; simp; omega
      · rw [if_neg h1, if_neg h1]
        by_cases h6 : k = 6
        · rw [if_pos h6, if_pos h6]
          congr 1
          rw [Bool.eq_iff_iff]; simp; omega
        · rw [if_neg h6, if_neg h6]; rfl
    · rw [List.drop_of_length_le (by omega)]; simpa using Ev.now (countB' k l)
  | succ d ih =>
    intro i hi
    have hlt : i < l.length := by omega
    have hw := step_n (i := i) (n := l.length) hlt (by omega)
    rw [List.drop_eq_getElem_cons hlt, List.all_cons]
    refine Ev.step (f := fun n => (spec_l2Whole.f n l[i]).bind fun t379 => (if t379 = true then (spec_GoodJob.l0 n l (l.length : Int) ((i + 1 : Nat) : Int) k fl w u g l) else (some false))) (fun n => ?_) ?_
    · simp only [spec_GoodJob.l0]
      rw [if_pos (by omega), if_pos (by omega), if_pos (by omega), rdS _ _ hlt, hw]
    · refine Ev.bind (l2Whole_ev l[i] (hs _ (List.getElem_mem hlt))) ?_
      cases wholeB l[i]
      · exact Ev.now _
      · rw [Bool.true_and]
        exact Ev.congr (fun n => by rw [if_pos rfl]) (ih (i + 1) (by omega))
theorem specJob_j0 (x : Bool) (k : Int) (fl w : ByteArray) (u g : Int) (l : List ByteArray) (hl : l.length ≤ 4294967282) (hs : ∀ x ∈ l, x.size < 4294967281) : Ev (fun n => spec_GoodJob.j0 n x k fl w u g l) (!x && pathsB k l) := by
  cases x
  · refine Ev.step (f := fun n => spec_GoodJob.l0 n l (l.length : Int) ((0 : Nat) : Int) k fl w u g l) (fun n => ?_) ?_
    · simp only [spec_GoodJob.j0]; rw [if_neg (by simp)]; rfl
    · have h := specJob_l0 k fl w u g l hl hs l.length 0 (by omega)
      have e : ((l.drop 0).all wholeB && countB' k l) = (!false && pathsB k l) := by
        unfold pathsB
        rw [List.drop_zero, List.all_eq_not_any_not]
        show _ = (countB' k l && _)
        cases countB' k l <;> cases l.any (fun s => !wholeB s) <;> rfl
      rw [← e]; exact h
  · refine Ev.step (f := fun _ => some false) (fun n => ?_) (Ev.now _)
    simp only [spec_GoodJob.j0]
    rw [if_pos trivial]
theorem specJob_ev (k : Int) (fl w : ByteArray) (u g : Int) (l : List ByteArray) (hw : w.size < 4294967281) (hl : l.length ≤ 4294967282) (hs : ∀ x ∈ l, x.size < 4294967281) : Ev (fun n => spec_GoodJob.f n k fl w u g l) (jobB k fl w u g l) := by
  unfold spec_GoodJob.f jobB
  rw [l1In_f]
  simp only [Option.bind_some]
  cases hk : inB 1 6 k
  · exact Ev.congr (fun n => by rw [if_neg (by simp)]) (specJob_j0 true k fl w u g l hl hs)
  · refine Ev.congr (fun n => by rw [if_pos rfl]) ?_
    have tail : Ev (fun n => (spec_l15Word.f n k fl w u g l).bind fun t373 => (if t373 = true then ((spec_l15Owned.f k fl w u g l).bind fun t374 => (spec_GoodJob.j0 n (!t374) k fl w u g l)) else (spec_GoodJob.j0 n true k fl w u g l))) (wordB k w && (pathsB k l && ownedB k u g)) := by
      refine Ev.bind (l15Word_ev k fl w u g l hw) ?_
      cases wordB k w
      · exact Ev.congr (fun n => by rw [if_neg (by simp)]) (specJob_j0 true k fl w u g l hl hs)
      · refine Ev.congr (f := fun n => spec_GoodJob.j0 n (!ownedB k u g) k fl w u g l) (fun n => by rw [if_pos rfl, l15Owned_f]; rfl) ?_
        have := specJob_j0 (!ownedB k u g) k fl w u g l hl hs
        rw [Bool.not_not] at this
        rw [Bool.true_and, Bool.and_comm]; exact this
    by_cases h1 : fl.toList = []
    · have e : (fl.toList == []) = true := by simpa using h1
      rw [e, Bool.true_or, Bool.true_and, Bool.true_and]
      exact Ev.congr (fun n => by rw [if_pos h1]) tail
    · have e : (fl.toList == []) = false := by simpa using h1
      rw [e, Bool.false_or, Bool.true_and]
      refine Ev.congr (fun n => by rw [if_neg h1, flagS_f k hk]) ?_
      by_cases h2 : fl.toList = (flagL k).toList
      · have e2 : (fl.toList == (flagL k).toList) = true := by simpa using h2
        rw [e2, Bool.true_and]
        exact Ev.congr (fun n => by simp only [Option.bind_some]; rw [if_pos h2]) tail
      · have e2 : (fl.toList == (flagL k).toList) = false := by simpa using h2
        rw [e2, Bool.false_and]
        exact Ev.congr (fun n => by simp only [Option.bind_some]; rw [if_neg h2]) (specJob_j0 true k fl w u g l hl hs)
end Go.Proofs.YtibfocaldcjiiaaDoor.Q
namespace Go.Proofs.YtibfocaldcjiiaaDoor.Q
open Go.RowKit Go.Proofs.YtibfocaldcjiiaaDoorW.PrintWords Go.Proofs.YtibfocaldcjiiaaDoorW.PrintLast Go.Proofs.YtibfocaldcjiiaaDoorW.PrintMore
attribute [local go_sem] max2_int min2_int max_two min_two max_three min_three max_four min_four   -- for this text's walks alone
set_option linter.unusedVariables false
set_option linter.unusedSimpArgs false
theorem szJob_ev (a : Int) (b c : ByteArray) (d e : Int) (l : List ByteArray) (hb : b.size ≤ maxLen) (hc : c.size ≤ maxLen) (hl : l.length ≤ maxLen) (hs : ∀ x ∈ l, x.size ≤ maxLen) :
    ∃ r, Ev (fun k => laws_szJob.f k a b c d e l 1048576) r ∧ (0 ≤ r → b.size ≤ 1048576 ∧ c.size ≤ 1048576 ∧ l.length ≤ 1048576 ∧ ∀ x ∈ l, x.size ≤ 1048576) := by
  unfold maxLen at hb hc
  have e1 : wrap64 (1048576 - (b.size : Int)) = 1048576 - (b.size : Int) := by unfold wrap64; omega
  unfold laws_szJob.f
  rw [e1]
  by_cases h1 : 1048576 - (b.size : Int) < 0
  · exact ⟨-1, Ev.congr (f := fun _ => some (-1)) (fun k => by rw [if_pos h1]) (Ev.now _), fun h => absurd h (by omega)⟩
  · have e2 : wrap64 (1048576 - (b.size : Int) - (c.size : Int)) = 1048576 - (b.size : Int) - (c.size : Int) := by unfold wrap64; omega
    rw [e2]
    by_cases h2 : 1048576 - (b.size : Int) - (c.size : Int) < 0
    · exact ⟨-1, Ev.congr (f := fun _ => some (-1)) (fun k => by rw [if_neg h1, if_pos h2]) (Ev.now _), fun h => absurd h (by omega)⟩
    · obtain ⟨r, hr, _, hr2⟩ := szStringS_ev l hl hs (1048576 - (b.size : Int) - (c.size : Int)) (by omega) (by omega)
      by_cases h3 : r < 0
      · exact ⟨-1, Ev.congr (fun k => by rw [if_neg h1, if_neg h2]) (Ev.bind hr (Ev.congr (f := fun _ => some (-1)) (fun k => by rw [if_pos h3]) (Ev.now _))), fun h => absurd h (by omega)⟩
      · exact ⟨r, Ev.congr (fun k => by rw [if_neg h1, if_neg h2]) (Ev.bind hr (Ev.congr (f := fun _ => some r) (fun k => by rw [if_neg h3]) (Ev.now _))), fun h => ⟨by omega, by omega, (hr2 h).1, (hr2 h).2⟩⟩
theorem toJob_ev (a : Int) (b c : ByteArray) (d e : Int) (l : List ByteArray) (hl : l.length ≤ 4294967282) : Ev (fun k => laws_toJob.f k a b c d e l) (a, b, c, d, e, l) :=
  Ev.bind (toStringS_ev l hl) (Ev.now _)
theorem eqJob_ev (a : Int) (b c : ByteArray) (d e : Int) (l : List ByteArray) (hl : l.length ≤ 4294967282) : Ev (fun k => laws_eqJob.f k a b c d e l a b c d e l) true := by
  unfold laws_eqJob.f
  refine Ev.congr (fun k => by rw [if_pos rfl, if_pos rfl, if_pos rfl, if_pos rfl, if_pos rfl]) (Ev.bind (eqStringS_ev l hl) ?_)
  exact Ev.congr (f := fun _ => some true) (fun k => by rw [if_pos rfl]) (Ev.now _)
end Go.Proofs.YtibfocaldcjiiaaDoor.Q
namespace Go.Proofs.YtibfocaldcjiiaaDoor.Q
open Go.RowKit Go.Proofs.YtibfocaldcjiiaaDoorW.PrintWords Go.Proofs.YtibfocaldcjiiaaDoorW.PrintLast Go.Proofs.YtibfocaldcjiiaaDoorW.PrintMore
attribute [local go_sem] max2_int min2_int max_two min_two max_three min_three max_four min_four   -- for this text's walks alone
set_option linter.unusedVariables false
set_option linter.unusedSimpArgs false
def kindsL : List ByteArray := [(⟨#[]⟩ : ByteArray), (⟨#[99, 112]⟩ : ByteArray), (⟨#[114, 109]⟩ : ByteArray), (⟨#[100, 117]⟩ : ByteArray), (⟨#[99, 104, 111, 119, 110]⟩ : ByteArray), (⟨#[99, 104, 109, 111, 100]⟩ : ByteArray), (⟨#[102, 105, 110, 100]⟩ : ByteArray)]
def midL (k : Int) (w : ByteArray) (u g : Int) : List ByteArray := if k = 4 then [ownB u g] else if k = 5 then [w] else if k = 6 then [w] else []
def wordsL (k : Int) (fl w : ByteArray) (u g : Int) (l : List ByteArray) : List ByteArray :=
  (rdOf ByteArray.empty kindsL k :: (if fl.toList = [] then [] else [(⟨#[45]⟩ : ByteArray) ++ fl])) ++ midL k w u g ++ l
theorem small_num (n : Int) (h0 : 0 ≤ n) (h1 : n ≤ 99) : Ev (fun k => spec_l1Num.f k n) (digB n) ∧ (digB n).size ≤ 2 := by
  have h := l1Num_ev n.toNat (by omega)
  rw [Int.toNat_of_nonneg h0] at h
  exact ⟨h, (digB_size n h0 h1).2⟩
theorem ownS_ev (u g : Int) (hu : -1 ≤ u ∧ u ≤ 99) (hg : -1 ≤ g ∧ g ≤ 99) : Ev (fun k => spec_l15Owner.f k u g) (ownB u g) := by
  unfold spec_l15Owner.f ownB
  have e58 : ∀ x : ByteArray, ((⟨#[58]⟩ : ByteArray) ++ x).size = 1 + x.size := fun x => by rw [ByteArray.size_append]; rfl
  by_cases h1 : u ≥ 0
  · refine Ev.congr (fun k => by rw [if_pos h1]) ?_
    obtain ⟨a, b⟩ := small_num u h1 hu.2
    refine Ev.bind a ?_
    rw [if_neg (show ¬ u = -1 by omega)]
    by_cases h2 : g ≥ 0
    · rw [if_neg (show ¬ g = -1 by omega)]
      obtain ⟨c, d⟩ := small_num g h2 hg.2
      refine Ev.congr (fun k => by rw [if_pos h2]) (Ev.bind c ?_)
      exact Ev.congr (f := fun _ => some (digB u ++ ((⟨#[58]⟩ : ByteArray) ++ digB g))) (fun k => by rw [if_pos (by omega), if_pos (by rw [e58]; omega)]) (Ev.now _)
    · rw [if_pos (show g = -1 by omega)]
      exact Ev.congr (f := fun _ => some (digB u)) (fun k => by rw [if_neg h2]) (Ev.now _)
  · refine Ev.congr (fun k => by rw [if_neg h1]) ?_
    rw [if_pos (show u = -1 by omega)]
    by_cases h2 : g ≥ 0
    · rw [if_neg (show ¬ g = -1 by omega)]
      obtain ⟨c, d⟩ := small_num g h2 hg.2
      refine Ev.congr (fun k => by rw [if_pos h2]) (Ev.bind c ?_)
      exact Ev.congr (f := fun _ => some ((⟨#[]⟩ : ByteArray) ++ ((⟨#[58]⟩ : ByteArray) ++ digB g))) (fun k => by rw [if_pos (by omega), if_pos (by rw [e58]; omega)]) (Ev.now _)
    · rw [if_pos (show g = -1 by omega)]
      exact Ev.congr (f := fun _ => some (⟨#[]⟩ : ByteArray)) (fun k => by rw [if_neg h2]) (Ev.now _)
theorem implWords_j0 (x : List ByteArray) (k : Int) (fl w : ByteArray) (u g : Int) (l : List ByteArray) (hx : x.length ≤ 10) (hl : l.length ≤ 1048576) (h4 : k = 4 → (-1 ≤ u ∧ u ≤ 99) ∧ (-1 ≤ g ∧ g ≤ 99)) :
    Ev (fun n => impl_JobWords.j0 n x k fl w u g l) (x ++ midL k w u g ++ l, true) := by
  refine Ev.step (f := fun _ => some (x ++ midL k w u g ++ l, true)) (fun n => ?_) (Ev.now _)
  simp only [impl_JobWords.j0]
  unfold midL
  by_cases c4 : k = 4
  · rw [if_pos c4, if_pos c4]
    unfold impl_ownerText.f
    rw [if_pos (h4 c4)]
    simp only [Option.bind_some]
    rw [if_pos (by omega), if_pos (by simp; omega)]
  · rw [if_neg c4, if_neg c4]
    by_cases c5 : k = 5
    · rw [if_pos c5, if_pos c5, if_pos (by omega)]
      simp only [Option.bind_some]
      rw [if_pos (by simp; omega)]
    · rw [if_neg c5, if_neg c5]
      by_cases c6 : k = 6
      · rw [if_pos c6, if_pos c6, if_pos (by omega)]
        simp only [Option.bind_some]
        rw [if_pos (by simp; omega)]
      · rw [if_neg c6, if_neg c6, if_pos (by omega), List.append_nil]
theorem specWords_j0 (x : List ByteArray) (k : Int) (fl w : ByteArray) (u g : Int) (l : List ByteArray) (hx : x.length ≤ 10) (hl : l.length ≤ 1048576) (h4 : k = 4 → (-1 ≤ u ∧ u ≤ 99) ∧ (-1 ≤ g ∧ g ≤ 99)) :
    Ev (fun n => spec_JobWords.j0 n x k fl w u g l) (x ++ midL k w u g ++ l, true) := by
  unfold midL
  by_cases c4 : k = 4
  · rw [if_pos c4]
    refine Ev.step (fun n => by simp only [spec_JobWords.j0]; rw [if_pos c4]) (Ev.bind (ownS_ev u g (h4 c4).1 (h4 c4).2) ?_)
    refine Ev.congr (f := fun _ => some (x ++ [ownB u g] ++ l, true)) (fun n => ?_) (Ev.now _)
    rw [if_pos (by omega)]
    simp only [Option.bind_some]
    rw [if_pos (by simp; omega)]
  · rw [if_neg c4]
    by_cases c5 : k = 5
    · rw [if_pos c5]
      refine Ev.step (f := fun _ => some (x ++ [w] ++ l, true)) (fun n => ?_) (Ev.now _)
      simp only [spec_JobWords.j0]
      rw [if_neg c4, if_pos c5, if_pos (by omega)]
      simp only [Option.bind_some]
      rw [if_pos (by simp; omega)]
    · rw [if_neg c5]
      by_cases c6 : k = 6
      · rw [if_pos c6]
        refine Ev.step (f := fun _ => some (x ++ [w] ++ l, true)) (fun n => ?_) (Ev.now _)
        simp only [spec_JobWords.j0]
        rw [if_neg c4, if_neg c5, if_pos c6, if_pos (by omega)]
        simp only [Option.bind_some]
        rw [if_pos (by simp; omega)]
      · rw [if_neg c6, List.append_nil]
        refine Ev.step (f := fun _ => some (x ++ l, true)) (fun n => ?_) (Ev.now _)
        simp only [spec_JobWords.j0]
        rw [if_neg c4, if_neg c5, if_neg c6, if_pos (by omega)]
theorem job_facts (k : Int) (fl w : ByteArray) (u g : Int) (l : List ByteArray) (h : jobB k fl w u g l = true) : (1 ≤ k ∧ k ≤ 6) ∧ (k = 4 → (-1 ≤ u ∧ u ≤ 99) ∧ (-1 ≤ g ∧ g ≤ 99)) ∧ l.length ≤ 10 := by
  unfold jobB at h
  simp only [Bool.and_eq_true] at h
  obtain ⟨h1, _, _, h2, h3⟩ := h
  refine ⟨by unfold inB at h1; simpa using h1, fun h4 => ?_, ?_⟩
  · unfold ownedB at h3
    rw [if_pos h4] at h3
    simp only [Bool.and_eq_true] at h3
    unfold inB at h3
    simp only [Bool.and_eq_true, decide_eq_true_eq] at h3
    exact h3.1
  · unfold pathsB at h2
    simp only [Bool.and_eq_true] at h2
    have h2 := h2.1
    by_cases c1 : k = 1
    · rw [if_pos c1] at h2; simp at h2; omega
    · rw [if_neg c1] at h2
      by_cases c6 : k = 6
      · rw [if_pos c6] at h2; simp at h2; omega
      · rw [if_neg c6] at h2; unfold inB at h2; simp at h2; omega
def wordsR (k : Int) (fl w : ByteArray) (u g : Int) (l : List ByteArray) : List ByteArray × Bool := if jobB k fl w u g l = true then (wordsL k fl w u g l, true) else ([], false)
theorem implWords_ev (k : Int) (fl w : ByteArray) (u g : Int) (l : List ByteArray) (hw : w.size < 4294967281) (hf : fl.size ≤ 1048576) : Ev (fun n => impl_JobWords.f n k fl w u g l) (wordsR k fl w u g l) := by
  refine Ev.bind (implJob_ev k fl w u g l hw) ?_
  unfold wordsR
  by_cases h : jobB k fl w u g l = true
  · obtain ⟨h1, h2, h3⟩ := job_facts k fl w u g l h
    rw [if_pos h]
    refine Ev.congr (fun n => by rw [if_pos h]) ?_
    have hk : impl_jobWord.f k = some (rdOf ByteArray.empty kindsL k) := by
      unfold impl_jobWord.f kindsL
      simp only [Option.bind_some]
      rw [if_pos (by omega), if_pos (by simp; omega)]
    unfold wordsL
    by_cases hn : fl.toList = []
    · rw [if_pos hn]
      refine Ev.congr (f := fun n => impl_JobWords.j0 n [rdOf ByteArray.empty kindsL k] k fl w u g l) (fun n => ?_) (implWords_j0 _ k fl w u g l (by simp) (by omega) h2)
      rw [hk]; simp only [Option.bind_some]; rw [if_pos hn]
    · rw [if_neg hn]
      refine Ev.congr (f := fun n => impl_JobWords.j0 n ([rdOf ByteArray.empty kindsL k] ++ [(⟨#[45]⟩ : ByteArray) ++ fl]) k fl w u g l) (fun n => ?_) (implWords_j0 _ k fl w u g l (by simp) (by omega) h2)
      rw [hk]; simp only [Option.bind_some]; rw [if_neg hn, if_pos (by omega), if_pos (by simp)]
  · rw [if_neg h]
    exact Ev.congr (f := fun _ => some ([], false)) (fun n => by rw [if_neg h]) (Ev.now _)
theorem specWords_ev (k : Int) (fl w : ByteArray) (u g : Int) (l : List ByteArray) (hw : w.size < 4294967281) (hf : fl.size ≤ 1048576) (hl : l.length ≤ 1048576) (hs : ∀ x ∈ l, x.size < 4294967281) : Ev (fun n => spec_JobWords.f n k fl w u g l) (wordsR k fl w u g l) := by
  refine Ev.bind (specJob_ev k fl w u g l hw (by omega) hs) ?_
  unfold wordsR
  by_cases h : jobB k fl w u g l = true
  · obtain ⟨h1, h2, h3⟩ := job_facts k fl w u g l h
    rw [if_pos h]
    refine Ev.congr (fun n => by rw [if_pos h]) ?_
    have hlen : (kindsL.length : Int) = 7 := rfl
    unfold wordsL
    by_cases hn : fl.toList = []
    · rw [if_pos hn]
      refine Ev.congr (f := fun n => spec_JobWords.j0 n [rdOf ByteArray.empty kindsL k] k fl w u g l) (fun n => ?_) (specWords_j0 _ k fl w u g l (by simp) (by omega) h2)
      show ((some kindsL).bind _) = _
      simp only [Option.bind_some]
      rw [if_pos (by omega), if_pos (by omega), if_pos hn]
    · rw [if_neg hn]
      refine Ev.congr (f := fun n => spec_JobWords.j0 n ([rdOf ByteArray.empty kindsL k] ++ [(⟨#[45]⟩ : ByteArray) ++ fl]) k fl w u g l) (fun n => ?_) (specWords_j0 _ k fl w u g l (by simp) (by omega) h2)
      show ((some kindsL).bind _) = _
      simp only [Option.bind_some]
      rw [if_pos (by omega), if_pos (by omega), if_neg hn, if_pos (by omega), if_pos (by simp)]
  · rw [if_neg h]
    exact Ev.congr (f := fun _ => some ([], false)) (fun n => by rw [if_neg h]) (Ev.now _)
theorem wordsR_len (k : Int) (fl w : ByteArray) (u g : Int) (l : List ByteArray) : (wordsR k fl w u g l).1.length ≤ 1000 := by
  unfold wordsR
  by_cases h : jobB k fl w u g l = true
  · obtain ⟨h1, h2, h3⟩ := job_facts k fl w u g l h
    rw [if_pos h]
    unfold wordsL midL
    simp only [List.length_append, List.length_cons]
    have a1 : (if fl.toList = [] then [] else [(⟨#[45]⟩ : ByteArray) ++ fl] : List ByteArray).length ≤ 1 := by split <;> simp
    have a2 : (if k = 4 then [ownB u g] else if k = 5 then [w] else if k = 6 then [w] else [] : List ByteArray).length ≤ 1 := by
      by_cases c4 : k = 4
      · rw [if_pos c4]; simp
      · rw [if_neg c4]; by_cases c5 : k = 5
        · rw [if_pos c5]; simp
        · rw [if_neg c5]; by_cases c6 : k = 6
          · rw [if_pos c6]; simp
          · rw [if_neg c6]; simp
    omega
  · rw [if_neg h]; simp
theorem pureJobWords (a : Int) (b c : ByteArray) (d e : Int) (l : List ByteArray) (hb : b.size ≤ maxLen) (hc : c.size ≤ maxLen) (hl : l.length ≤ maxLen) (hs : ∀ x ∈ l, x.size ≤ maxLen) :
    ∃ k, laws_FnExactJobWords.f k a b c d e l = some true := by
  refine Ev.rounds ?_
  unfold laws_FnExactJobWords.f
  obtain ⟨r, hr, hr2⟩ := szJob_ev a b c d e l hb hc hl hs
  refine Ev.bind hr ?_
  by_cases h : r < 0
  · exact Ev.congr (f := fun _ => some true) (fun k => by rw [if_pos h]) (Ev.now _)
  refine Ev.congr (fun k => by rw [if_neg h]) ?_
  obtain ⟨z1, z2, z3, z4⟩ := hr2 (by omega)
  have t0 := toJob_ev a b c d e l (by omega)
  have h1 := specWords_ev a b c d e l (by omega) z1 z3 (fun x hx => by have := z4 x hx; omega)
  have h2 := implWords_ev a b c d e l (by omega) z1
  have hlen := wordsR_len a b c d e l
  generalize hR : wordsR a b c d e l = R at h1 h2 hlen
  obtain ⟨W, q⟩ := R
  simp only at hlen
  have eqW := eqStringS_ev W (by omega)
  have qq : (q != q) = false := by simp
  refine Ev.bind t0 (Ev.bind h1 (Ev.bind t0 (Ev.bind h2 (Ev.bind eqW ?_))))
  refine Ev.congr (f := fun k => laws_FnExactJobWords.j0 k W q W q false a b c d e l a b c d e l) (fun k => by rw [if_pos rfl, qq]) ?_
  refine Ev.step (fun k => by simp only [laws_FnExactJobWords.j0]; rw [if_neg (by simp)]) ?_
  refine Ev.bind t0 (Ev.bind (eqJob_ev a b c d e l (by omega)) ?_)
  refine Ev.congr (fun k => by rw [if_pos rfl]) ?_
  refine Ev.bind (Ev.bind (f := fun _ (bt547 : Int × List ByteArray) => some (bt547.1, bt547.2)) (markStringS_ev l 1 (by omega) (by omega) (by omega)) (Ev.now _)) ?_
  refine Ev.congr (fun k => by rw [if_neg (by show ¬ (1 + (l.length : Int)) < 0; omega)]) (Ev.bind eqW ?_)
  refine Ev.congr (f := fun k => laws_FnExactJobWords.j1 k W q W false a b c d e l) (fun k => by rw [if_pos rfl, qq]) ?_
  refine Ev.step (fun k => by simp only [laws_FnExactJobWords.j1]; rw [if_neg (by simp)]) ?_
  refine Ev.bind (markStringS_ev W 1 (by omega) (by omega) (by omega)) ?_
  have held := heldStringS_ev W.length 1 (by omega) (by omega) (by omega)
  refine Ev.bind held ?_
  refine Ev.congr (fun k => by rw [if_neg (by omega), if_pos rfl]) ?_
  refine Ev.bind t0 (Ev.bind h2 (Ev.bind eqW ?_))
  refine Ev.congr (f := fun k => laws_FnExactJobWords.j2 k (markL 1 W.length) (1 + (W.length : Int)) false) (fun k => by rw [if_pos rfl, qq]) ?_
  refine Ev.step (fun k => by simp only [laws_FnExactJobWords.j2]; rw [if_neg (by simp)]) ?_
  refine Ev.bind held ?_
  exact Ev.congr (f := fun _ => some true) (fun k => by rw [if_neg (by omega), if_pos rfl]) (Ev.now _)
end Go.Proofs.YtibfocaldcjiiaaDoor.Q
