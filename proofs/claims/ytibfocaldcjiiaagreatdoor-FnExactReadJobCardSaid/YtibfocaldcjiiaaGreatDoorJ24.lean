/- Texts of this claim, merged by a program (wip/tools/merge.py): HMark. -/
import Derived.Test.YtibfocaldcjiiaaGreatDoorJ2
import Derived.Test.YtibfocaldcjiiaaGreatDoorJ5
import Derived.Test.YtibfocaldcjiiaaGreatDoorJ13
import Derived.Test.YtibfocaldcjiiaaGreatDoorJ23
/- The marks that the laws write into what they were given, and read again. -/
namespace Go.Proofs.YtibfocaldcjiiaaGreatDoor.Q
open Go.RowKit Go.Proofs.YtibfocaldcjiiaaGreatDoorW.PrintWords Go.Proofs.YtibfocaldcjiiaaGreatDoorW.PrintLast Go.Proofs.YtibfocaldcjiiaaGreatDoorW.PrintMore
attribute [local go_sem] max2_int min2_int max_two min_two max_three min_three max_four min_four   -- for this text's walks alone
set_option linter.unusedVariables false
set_option linter.unusedSimpArgs false

theorem mark_one (n : Int) (h0 : 0 ≤ n) (h1 : n < 10) : (strOfNums ([(wrap64 (48 + n)) % 256] : List Int)).size = 1 := by
  obtain ⟨i, rfl⟩ : ∃ i : Fin 10, n = (i.val : Int) := ⟨⟨n.toNat, by omega⟩, by simp; omega⟩
  revert i
  decide +kernel
theorem markText_loop : ∀ (u : Nat) (x : ByteArray), u + x.size ≤ 4611686018427387904 → ∃ r, Ev (fun k => laws_markText.l0 k (u : Int) x) r := by
  intro u
  induction u using Nat.strongRecOn with
  | _ u ih =>
    intro x hx
    by_cases h : u = 0
    · refine ⟨(⟨#[109]⟩ : ByteArray) ++ x, Ev.step (f := fun _ => some ((⟨#[109]⟩ : ByteArray) ++ x)) (fun k => ?_) (Ev.now _)⟩
      simp only [laws_markText.l0]
      rw [if_neg (by omega), if_pos (by omega)]
    · have e1 : wrap64 (Int.tdiv (u : Int) 10) = ((u / 10 : Nat) : Int) := by
        rw [Int.tdiv_eq_ediv_of_nonneg (by omega)]; unfold wrap64; omega
      have e2 : Int.tmod (u : Int) 10 = ((u % 10 : Nat) : Int) := by
        rw [Int.tmod_eq_emod_of_nonneg (by omega)]; omega
      have e3 := mark_one ((u % 10 : Nat) : Int) (by omega) (by omega)
      obtain ⟨r, hr⟩ := ih (u / 10) (by omega) (strOfNums ([(wrap64 (48 + ((u % 10 : Nat) : Int))) % 256] : List Int) ++ x) (by rw [ByteArray.size_append, e3]; omega)
      refine ⟨r, Ev.step (fun k => ?_) hr⟩
      simp only [laws_markText.l0]
      rw [if_pos (by omega), e1, e2]
      simp only [Option.bind_some]
      rw [if_pos (by omega)]
theorem markText_ev (n : Int) (h0 : 0 ≤ n) (h1 : n ≤ 4611686018427387904) : ∃ r, Ev (fun k => laws_markText.f k n) r := by
  unfold laws_markText.f
  by_cases h : n ≤ 0
  · exact ⟨_, Ev.congr (fun k => by rw [if_pos h]) (Ev.now _)⟩
  · obtain ⟨r, hr⟩ := markText_loop n.toNat ⟨#[]⟩ (by show n.toNat + 0 ≤ _; omega)
    rw [Int.toNat_of_nonneg h0] at hr
    exact ⟨r, Ev.congr (fun k => by rw [if_neg h]) hr⟩
open Classical in
/-- The mark of a number. -/
noncomputable def markB (n : Int) : ByteArray := if h : ∃ r, Ev (fun k => laws_markText.f k n) r then Classical.choose h else ⟨#[]⟩
theorem markB_ev (n : Int) (h0 : 0 ≤ n) (h1 : n ≤ 4611686018427387904) : Ev (fun k => laws_markText.f k n) (markB n) := by
  have h := markText_ev n h0 h1
  unfold markB
  rw [dif_pos h]
  exact Classical.choose_spec h
noncomputable def markL (n : Int) : Nat → List ByteArray
  | 0 => []
  | d + 1 => markB n :: markL (n + 1) d
theorem markL_length (d : Nat) : ∀ n, (markL n d).length = d := by
  induction d with
  | zero => intro n; rfl
  | succ d ih => intro n; simp [markL, ih]
theorem wrap_k (n : Int) (h0 : 0 ≤ n) (h1 : n ≤ 4611686018427387904) : wrap64 (n + 1) = n + 1 := by unfold wrap64; omega
theorem markStringS_loop (d : Nat) : ∀ (i : Nat) (l : List ByteArray) (n : Int), i + d = l.length → l.length ≤ 8796093022208 → 0 ≤ n → n + d ≤ 4611686018427387904 →
    Ev (fun k => laws_markStringS.l0 k l n (i : Int)) (n + d, l.take i ++ markL n d) := by
  induction d with
  | zero =>
    intro i l n hi hl h0 h1
    refine Ev.step (f := fun _ => some (n, l)) (fun k => ?_) ?_
    · simp only [laws_markStringS.l0]; rw [if_neg (by omega)]
    · have : (n + ((0 : Nat) : Int), l.take i ++ markL n 0) = (n, l) := by
        rw [List.take_of_length_le (by omega)]; simp [markL]
      rw [this]; exact Ev.now _
  | succ d ih =>
    intro i l n hi hl h0 h1
    have hw := step_n (i := i) (n := l.length) (by omega) (by omega)
    have h := ih (i + 1) (l.set i (markB n)) (n + 1) (by simp; omega) (by simpa using hl) (by omega) (by omega)
    refine Ev.step (f := fun k => (laws_markText.f k n).bind fun t544 => laws_markStringS.l0 k (l.set i t544) (n + 1) ((i + 1 : Nat) : Int)) (fun k => ?_) ?_
    · simp only [laws_markStringS.l0]
      rw [if_pos (by omega), hw, wrap_k n h0 (by omega)]
      have p : (0 : Int) ≤ (i : Int) := by omega
      simp only [p, if_true, Int.toNat_natCast]
    · refine Ev.bind (markB_ev n h0 (by omega)) ?_
      have e : (n + ((d + 1 : Nat) : Int), l.take i ++ markL n (d + 1)) = (n + 1 + (d : Int), (l.set i (markB n)).take (i + 1) ++ markL (n + 1) d) := by
        rw [List.take_succ_eq_append_getElem (by simp; omega), List.take_set_of_le (by omega), List.getElem_set_self, List.append_assoc]
        simp only [markL]
        congr 1
        omega
      rw [e]; exact h
theorem markStringS_ev (l : List ByteArray) (n : Int) (hl : l.length ≤ 8796093022208) (h0 : 0 ≤ n) (h1 : n ≤ 1048576) : Ev (fun k => laws_markStringS.f k l n) (n + l.length, markL n l.length) := by
  have h := markStringS_loop l.length 0 l n (by omega) hl h0 (by omega)
  rw [List.take_zero, List.nil_append] at h
  exact h
theorem heldStringS_loop (d : Nat) : ∀ (i : Nat) (l : List ByteArray) (n : Int), i + d = l.length → l.length ≤ 8796093022208 → l.drop i = markL n d → 0 ≤ n → n + d ≤ 4611686018427387904 →
    Ev (fun k => laws_heldStringS.l0 k l n (i : Int)) (n + d) := by
  induction d with
  | zero =>
    intro i l n hi hl hd h0 h1
    refine Ev.step (f := fun _ => some n) (fun k => ?_) (by simpa using Ev.now n)
    simp only [laws_heldStringS.l0]; rw [if_neg (by omega)]
  | succ d ih =>
    intro i l n hi hl hd h0 h1
    have hlt : i < l.length := by omega
    have hw := step_n (i := i) (n := l.length) hlt (by omega)
    rw [List.drop_eq_getElem_cons hlt] at hd
    simp only [markL, List.cons.injEq] at hd
    have h := ih (i + 1) l (n + 1) (by omega) hl hd.2 (by omega) (by omega)
    refine Ev.step (f := fun k => (laws_markText.f k n).bind fun t550 => if (l[i]).toList = t550.toList then laws_heldStringS.l0 k l (n + 1) ((i + 1 : Nat) : Int) else some (-1)) (fun k => ?_) ?_
    · simp only [laws_heldStringS.l0]
      rw [if_pos (by omega), if_pos (by omega), hw, wrap_k n h0 (by omega), rdS _ _ hlt]
    · refine Ev.bind (markB_ev n h0 (by omega)) ?_
      have e : n + ((d + 1 : Nat) : Int) = n + 1 + (d : Int) := by omega
      rw [e]
      exact Ev.congr (fun k => by rw [if_pos (by rw [hd.1])]) h
theorem heldStringS_ev (d : Nat) (n : Int) (hd : d ≤ 8796093022208) (h0 : 0 ≤ n) (h1 : n ≤ 1048576) : Ev (fun k => laws_heldStringS.f k (markL n d) n) (n + d) :=
  heldStringS_loop d 0 (markL n d) n (by rw [markL_length]; omega) (by rw [markL_length]; exact hd) (by simp) h0 (by omega)

end Go.Proofs.YtibfocaldcjiiaaGreatDoor.Q
