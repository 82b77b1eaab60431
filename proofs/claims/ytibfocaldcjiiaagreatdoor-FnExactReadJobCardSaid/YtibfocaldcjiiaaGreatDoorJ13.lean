/- Texts of this claim, merged by a program (wip/tools/merge.py): HSpl, HRead, HOwnerNum, HSpecOwner. -/
import Derived.Test.YtibfocaldcjiiaaGreatDoorJ2
import Derived.Test.YtibfocaldcjiiaaGreatDoorJ3
import Derived.Test.YtibfocaldcjiiaaGreatDoorJ7
import Derived.Test.YtibfocaldcjiiaaGreatDoorJ12
import Derived.Lib.SplitLaws
import Derived.WideShapes
import Derived.Test.YtibfocaldcjiiaaGreatDoorJ4
import Derived.Lib.AtoiAll
import Derived.Lib.ItoaNum
import Derived.Lib.IndexMore
import Derived.Lib.IndexBytes
import Derived.Lib.IndexLaws
/- Splitting at a byte, over lists: what strings.Split and the reference's own loop both come to. -/
namespace Go.Proofs.YtibfocaldcjiiaaGreatDoor.Q
open Go.RowKit Go.Proofs.YtibfocaldcjiiaaGreatDoorW.PrintWords Go.Proofs.YtibfocaldcjiiaaGreatDoorW.PrintLast Go.Proofs.YtibfocaldcjiiaaGreatDoorW.PrintMore
attribute [local go_sem] max2_int min2_int max_two min_two max_three min_three max_four min_four   -- for this text's walks alone
set_option linter.unusedVariables false
set_option linter.unusedSimpArgs false

theorem step_n {i n : Nat} (h : i < n) (hn : n ≤ 4611686018427387904) : wrap64 ((i : Int) + 1) = ((i + 1 : Nat) : Int) := by
  unfold wrap64; omega
/-- A list cut at each c. -/
def spl (c : UInt8) : List UInt8 → List (List UInt8)
  | [] => [[]]
  | b :: l => if b = c then [] :: spl c l else match spl c l with
    | [] => [[b]]
    | h :: t => (b :: h) :: t
def glue (p : List UInt8) : List (List UInt8) → List (List UInt8)
  | [] => [p]
  | h :: t => (p ++ h) :: t
theorem spl_ne (c : UInt8) (l : List UInt8) : spl c l ≠ [] := by
  cases l with
  | nil => simp [spl]
  | cons b l =>
    simp only [spl]
    split
    · simp
    · split <;> simp
theorem glue_nil (c : UInt8) (l : List UInt8) : glue [] (spl c l) = spl c l := by
  cases h : spl c l with
  | nil => exact absurd h (spl_ne c l)
  | cons a t => rfl
theorem glue_eq (c : UInt8) (p l : List UInt8) : glue p (spl c (c :: l)) = p :: spl c l := by simp [spl, glue]
theorem glue_cons (c b : UInt8) (p l : List UInt8) (h : b ≠ c) : glue p (spl c (b :: l)) = glue (p ++ [b]) (spl c l) := by
  simp only [spl, if_neg h]
  cases h2 : spl c l with
  | nil => exact absurd h2 (spl_ne c l)
  | cons a t => simp [glue]
theorem splitK_cons_ne (b c : UInt8) (h : b ≠ c) : ∀ (k : Nat) (l : List UInt8), Lib.splitK [c] 0 k (b :: l) = glue [b] (Lib.splitK [c] 0 k l)
  | 0, l => rfl
  | k + 1, l => by
    have hix : Lib.index (b :: l) [c] = if Lib.index l [c] == -1 then -1 else Lib.index l [c] + 1 := by
      rw [Lib.index_one, Lib.index_one, Lib.indexByte, if_neg (by simpa using h)]
    by_cases hm : Lib.index l [c] = -1
    · have h1 : Lib.index (b :: l) [c] = -1 := by rw [hix, if_pos (by simp [hm])]
      simp only [Lib.splitK, h1, hm]
      rfl
    · have hge := Lib.indexByte_ge l c
      rw [← Lib.index_one] at hge
      have h1 : Lib.index (b :: l) [c] = Lib.index l [c] + 1 := by rw [hix, if_neg (by simpa using hm)]
      have n1 : (Lib.index (b :: l) [c] == -1) = false := by rw [h1]; simp; omega
      have n2 : (Lib.index l [c] == -1) = false := by simpa using hm
      simp only [Lib.splitK, n1, n2, Bool.false_eq_true, if_false, glue, Nat.add_zero]
      have e : (Lib.index (b :: l) [c]).toNat = (Lib.index l [c]).toNat + 1 := by rw [h1]; omega
      rw [e]
      have e2 : (Lib.index l [c]).toNat + 1 + [c].length = ((Lib.index l [c]).toNat + [c].length) + 1 := by omega
      rw [e2, List.take_succ_cons, List.drop_succ_cons]
      rfl
theorem splitK_spl (c : UInt8) : ∀ l : List UInt8, Lib.splitK [c] 0 (Lib.count l [c]) l = spl c l
  | [] => by rw [Lib.count_one]; rfl
  | b :: l => by
    by_cases h : b = c
    · subst h
      rw [Lib.count_cons_eq, Nat.add_comm, Lib.splitK]
      have h0 : Lib.index (b :: l) [b] = 0 := by rw [Lib.index_one, Lib.indexByte, if_pos (by simp)]
      rw [h0]
      simp only [spl, if_true]
      rw [if_neg (by decide)]
      simp only [Int.toNat_zero, Nat.add_zero, List.take_zero, Nat.zero_add]
      rw [show (b :: l).drop [b].length = l from rfl, splitK_spl b l]
    · rw [Lib.count_cons_ne b c l h, splitK_cons_ne b c h, splitK_spl c l]
      simp only [spl, if_neg h]
      cases spl c l <;> rfl
theorem splitB_spl (c : UInt8) (s : ByteArray) : (Lib.splitB ⟨#[c]⟩ 0 (Lib.countB s ⟨#[c]⟩) s).map (·.data.toList) = spl c s.data.toList := by
  rw [Lib.splitB_data]
  exact splitK_spl c s.data.toList
theorem map_data_inj : ∀ {a b : List ByteArray}, a.map (·.data.toList) = b.map (·.data.toList) → a = b
  | [], [], _ => rfl
  | [], _ :: _, h => by simp at h
  | _ :: _, [], h => by simp at h
  | x :: a, y :: b, h => by
    simp only [List.map_cons, List.cons.injEq] at h
    rw [Go.WideShapes.bytes_inj h.1, map_data_inj h.2]
/-- The reference's loop. -/
def segs (s : ByteArray) (c : Int) : Nat → Nat → Nat → List ByteArray
  | 0, fr, _ => [s.extract fr s.size]
  | d + 1, fr, i => if bt s i = c then s.extract fr i :: segs s c d (i + 1) (i + 1) else segs s c d fr (i + 1)
theorem segs_len (s : ByteArray) (c : Int) : ∀ d fr i, (segs s c d fr i).length ≤ d + 1
  | 0, _, _ => by simp [segs]
  | d + 1, fr, i => by
    simp only [segs]
    split
    · have := segs_len s c d (i + 1) (i + 1); simp; omega
    · have := segs_len s c d fr (i + 1); omega
theorem bt_data (s : ByteArray) (i : Nat) (h : i < s.size) : bt s (i : Int) = ((s.data.toList[i]'(by rw [data_length]; exact h)).toNat : Int) := by
  unfold bt
  rw [dif_pos (by simpa using h)]
  rfl
theorem extract_list (s : ByteArray) (a b : Nat) : (s.extract a b).data.toList = (s.data.toList.take b).drop a := by
  rw [Lib.extract_data]
  simp [List.drop_take]
theorem segs_spl (s : ByteArray) (c : UInt8) : ∀ d fr i, i + d = s.size → fr ≤ i → (segs s (c.toNat : Int) d fr i).map (·.data.toList) = glue ((s.data.toList.take i).drop fr) (spl c (s.data.toList.drop i))
  | 0, fr, i, h, hf => by
    have hl := data_length s
    have e1 : s.data.toList.drop i = [] := List.drop_of_length_le (by omega)
    have e2 : s.data.toList.take i = s.data.toList := List.take_of_length_le (by omega)
    rw [e1, e2]
    simp only [segs, List.map_cons, List.map_nil, spl, glue, List.append_nil]
    rw [extract_list, List.take_of_length_le (by omega)]
  | d + 1, fr, i, h, hf => by
    have hl := data_length s
    have hlt : i < s.data.toList.length := by omega
    rw [List.drop_eq_getElem_cons hlt]
    simp only [segs]
    rw [bt_data s i (by omega)]
    by_cases hc : s.data.toList[i] = c
    · rw [if_pos (by rw [hc]), hc, glue_eq, List.map_cons, segs_spl s c d (i + 1) (i + 1) (by omega) (Nat.le_refl _), extract_list]
      have : (s.data.toList.take (i + 1)).drop (i + 1) = [] := List.drop_of_length_le (by rw [List.length_take]; omega)
      rw [this, glue_nil]
    · rw [if_neg (fun e => hc (UInt8.toNat_inj.mp (by omega))), glue_cons c _ _ _ hc, segs_spl s c d fr (i + 1) (by omega) (by omega)]
      have : (s.data.toList.take (i + 1)).drop fr = (s.data.toList.take i).drop fr ++ [s.data.toList[i]] := by
        rw [List.take_succ_eq_append_getElem hlt, List.drop_append_of_le_length (by rw [List.length_take]; omega)]
      rw [this]
theorem segs_split (s : ByteArray) (c : UInt8) : segs s (c.toNat : Int) s.size 0 0 = Lib.splitB ⟨#[c]⟩ 0 (Lib.countB s ⟨#[c]⟩) s := by
  apply map_data_inj
  rw [splitB_spl, segs_spl s c s.size 0 0 (by omega) (Nat.le_refl _)]
  simp [glue_nil]
theorem l1Split_loop (s : ByteArray) (c : Int) (hs : s.size < 4294967281) (d : Nat) : ∀ (fr i : Nat) (out : List ByteArray), i + d = s.size → fr ≤ i → out.length ≤ i →
    Ev (fun k => spec_l1Split.l0 k s c out (fr : Int) (i : Int)) (out ++ segs s c d fr i) := by
  induction d with
  | zero =>
    intro fr i out hi hf ho
    refine Ev.step (f := fun _ => some (out ++ [s.extract fr s.size])) (fun k => ?_) (Ev.now _)
    simp only [spec_l1Split.l0]
    rw [if_neg (by omega), if_pos (by omega), if_pos (by omega), if_pos (by omega)]
    rfl
  | succ d ih =>
    intro fr i out hi hf ho
    have hw := step_n (i := i) (n := s.size) (by omega) (by omega)
    by_cases hc : bt s i = c
    · have := ih (i + 1) (i + 1) (out ++ [s.extract fr i]) (by omega) (Nat.le_refl _) (by simp; omega)
      refine Ev.step (f := fun k => spec_l1Split.l0 k s c (out ++ [s.extract fr i]) ((i + 1 : Nat) : Int) ((i + 1 : Nat) : Int)) (fun k => ?_) ?_
      · simp only [spec_l1Split.l0]
        rw [if_pos (by omega), if_pos (by omega), if_pos hc, if_pos (by omega), if_pos (by omega), if_pos (by omega), if_pos (by omega), hw]
        rfl
      · simp only [segs]
        rw [if_pos hc]
        simpa using this
    · have := ih fr (i + 1) out (by omega) (by omega) (by omega)
      refine Ev.step (f := fun k => spec_l1Split.l0 k s c out (fr : Int) ((i + 1 : Nat) : Int)) (fun k => ?_) ?_
      · simp only [spec_l1Split.l0]
        rw [if_pos (by omega), if_pos (by omega), if_neg hc, hw]
      · simp only [segs]
        rw [if_neg hc]
        exact this
theorem l1Split_ev (s : ByteArray) (c : UInt8) (hs : s.size < 4294967281) : Ev (fun k => spec_l1Split.f k s (c.toNat : Int)) (Lib.splitB ⟨#[c]⟩ 0 (Lib.countB s ⟨#[c]⟩) s) := by
  rw [← segs_split]
  exact l1Split_loop s (c.toNat : Int) hs s.size 0 0 [] (by omega) (Nat.le_refl _) (by simp)
theorem slash_ev (s : ByteArray) (hs : s.size < 4294967281) : Ev (fun k => spec_l1Split.f k s 47) (slashL s) := l1Split_ev s 47 hs

end Go.Proofs.YtibfocaldcjiiaaGreatDoor.Q

/- The reference's reading of a number of at most six digits, over lists of bytes. -/
namespace Go.Proofs.YtibfocaldcjiiaaGreatDoor.Q
open Go.RowKit Go.Proofs.YtibfocaldcjiiaaGreatDoorW.PrintWords Go.Proofs.YtibfocaldcjiiaaGreatDoorW.PrintLast Go.Proofs.YtibfocaldcjiiaaGreatDoorW.PrintMore
attribute [local go_sem] max2_int min2_int max_two min_two max_three min_three max_four min_four   -- for this text's walks alone
set_option linter.unusedVariables false
set_option linter.unusedSimpArgs false

def digV (n : Int) : List UInt8 → Int
  | [] => n
  | c :: l => if 48 ≤ c.toNat ∧ c.toNat ≤ 57 then digV (10 * n + ((c.toNat : Int) - 48)) l else -1
def read6 (l : List UInt8) : Int := if 1 ≤ l.length ∧ l.length ≤ 6 ∧ ¬ (l.head? = some 48 ∧ 1 < l.length) then digV 0 l else -1
theorem l1Read_loop (s : ByteArray) (hs : s.size ≤ 6) (d : Nat) : ∀ (i : Nat) (n : Int), i + d = s.size → 0 ≤ n → n < 10 ^ i → Ev (fun k => spec_l1Read.l0 k s n (i : Int)) (digV n (s.data.toList.drop i)) := by
  have hl := data_length s
  induction d with
  | zero =>
    intro i n hi h0 h1
    rw [List.drop_of_length_le (by omega)]
    refine Ev.step (f := fun _ => some n) (fun k => ?_) (Ev.now n)
    simp only [spec_l1Read.l0]; rw [if_neg (by omega)]
  | succ d ih =>
    intro i n hi h0 h1
    have hlt : i < s.data.toList.length := by omega
    have hw := step_n (i := i) (n := s.size) (by omega) (by omega)
    rw [List.drop_eq_getElem_cons hlt]
    have hb := bt_data s i (by omega)
    have hr := bt_range s i
    have hp : (10 : Int) ^ i ≤ 1000000 := by
      have h6 : i ≤ 6 := by omega
      have : ∀ j : Fin 7, (10 : Int) ^ j.val ≤ 1000000 := by decide
      exact this ⟨i, by omega⟩
    simp only [digV]
    by_cases hc : 48 ≤ (s.data.toList[i]).toNat ∧ (s.data.toList[i]).toNat ≤ 57
    · rw [if_pos hc]
      have e : wrap64 ((wrap64 (10 * n)) + (((bt s i) - 48) % 256)) = 10 * n + ((s.data.toList[i].toNat : Int) - 48) := by
        rw [hb]; unfold wrap64; omega
      refine Ev.step (fun k => ?_) (ih (i + 1) (10 * n + ((s.data.toList[i].toNat : Int) - 48)) (by omega) (by omega) (by rw [Int.pow_succ]; omega))
      simp only [spec_l1Read.l0]
      rw [if_pos (by omega), if_pos (by omega), if_neg (by omega), if_neg (by omega), e, hw]
    · rw [if_neg hc]
      refine Ev.step (f := fun _ => some (-1)) (fun k => ?_) (Ev.now _)
      simp only [spec_l1Read.l0]
      rw [if_pos (by omega), if_pos (by omega)]
      by_cases h2 : bt s i < 48
      · rw [if_pos h2]
      · rw [if_neg h2, if_pos (by omega)]
theorem l1In_r (n lo hi : Int) : spec_l1In.f n lo hi = some (decide (lo ≤ n) && decide (n ≤ hi)) := by
  unfold spec_l1In.f
  by_cases h : n ≥ lo
  · rw [if_pos h]; have : lo ≤ n := h; simp [this]
  · rw [if_neg h]; have : ¬ lo ≤ n := h; simp [this]
theorem l1Read_ev (s : ByteArray) (hs : s.size < 4294967281) : Ev (fun k => spec_l1Read.f k s) (read6 s.data.toList) := by
  have hl := data_length s
  refine Ev.congr (f := fun k => if (decide ((1 : Int) ≤ s.size) && decide ((s.size : Int) ≤ 6)) = true then (if 0 < (s.size : Int) then (if (bt s 0) = 48 then (spec_l1Read.j0 k s (decide ((s.size : Int) > 1))) else (spec_l1Read.j0 k s false)) else (none)) else (spec_l1Read.j0 k s true)) (fun k => by simp only [spec_l1Read.f]; rw [l1In_r]; rfl) ?_
  have stop : ∀ x, x = true → Ev (fun k => spec_l1Read.j0 k s x) (-1) := fun x hx =>
    Ev.step (f := fun _ => some (-1)) (fun k => by simp only [spec_l1Read.j0]; rw [if_pos hx]) (Ev.now _)
  unfold read6
  by_cases h1 : 1 ≤ s.size ∧ s.size ≤ 6
  · have hd : (decide ((1 : Int) ≤ s.size) && decide ((s.size : Int) ≤ 6)) = true := by simp; omega
    have go : Ev (fun k => spec_l1Read.j0 k s false) (digV 0 s.data.toList) := by
      refine Ev.step (f := fun k => spec_l1Read.l0 k s 0 ((0 : Nat) : Int)) (fun k => by simp only [spec_l1Read.j0]; rw [if_neg (by simp)]; rfl) ?_
      simpa using l1Read_loop s h1.2 s.size 0 0 (by omega) (by omega) (by simp)
    have hb := bt_data s 0 (by omega)
    have hh : s.data.toList.head? = some (s.data.toList[0]'(by omega)) := by rw [List.head?_eq_getElem?, List.getElem?_eq_getElem (by omega)]
    rw [hh]
    by_cases h2 : s.data.toList[0]'(by omega) = 48
    · have hb2 : bt s 0 = 48 := by
        have : bt s 0 = bt s ((0 : Nat) : Int) := rfl
        rw [this, hb, h2]; rfl
      by_cases h3 : 1 < s.size
      · rw [if_neg (by rw [h2, hl]; simp; omega)]
        refine Ev.congr (fun k => ?_) (stop (decide ((s.size : Int) > 1)) (by simp; omega))
        rw [if_pos hd, if_pos (by omega), if_pos hb2]
      · rw [if_pos ⟨by omega, by omega, by omega⟩]
        have e : decide ((s.size : Int) > 1) = false := by simp; omega
        refine Ev.congr (fun k => ?_) go
        rw [if_pos hd, if_pos (by omega), if_pos hb2, e]
    · have hb2 : ¬ bt s 0 = 48 := by
        have : bt s 0 = bt s ((0 : Nat) : Int) := rfl
        rw [this, hb]
        intro e
        exact h2 (UInt8.toNat_inj.mp (by simpa using Int.ofNat.inj e))
      rw [if_pos ⟨by omega, by omega, fun hx => h2 (Option.some.inj hx.1)⟩]
      refine Ev.congr (fun k => ?_) go
      rw [if_pos hd, if_pos (by omega), if_neg hb2]
  · rw [if_neg (by rw [hl]; omega)]
    have hd : ¬ (decide ((1 : Int) ≤ s.size) && decide ((s.size : Int) ≤ 6)) = true := by simp; omega
    refine Ev.congr (fun k => ?_) (stop true rfl)
    rw [if_neg hd]
theorem spl_len (c : UInt8) : ∀ l : List UInt8, ∀ p ∈ spl c l, p.length ≤ l.length
  | [], p, hp => by simp [spl] at hp; subst hp; simp
  | b :: l, p, hp => by
    have ih := spl_len c l
    simp only [spl] at hp
    split at hp
    · rcases List.mem_cons.mp hp with rfl | hp
      · simp
      · have := ih p hp; simp; omega
    · cases h : spl c l with
      | nil => rw [h] at hp; simp at hp; subst hp; simp
      | cons q t =>
        rw [h] at hp ih
        rcases List.mem_cons.mp hp with rfl | hp
        · have := ih q (by simp); simp; omega
        · have := ih p (by simp [hp]); simp; omega
theorem split_size (s : ByteArray) (c : UInt8) : ∀ p ∈ Lib.splitB ⟨#[c]⟩ 0 (Lib.countB s ⟨#[c]⟩) s, p.size ≤ s.size := fun p hp => by
  have h := spl_len c s.data.toList p.data.toList (by rw [← splitB_spl]; exact List.mem_map_of_mem hp)
  rwa [data_length, data_length] at h

end Go.Proofs.YtibfocaldcjiiaaGreatDoor.Q

/- ReadOwner over lists of bytes: what the program and the reference come to. -/
namespace Go.Proofs.YtibfocaldcjiiaaGreatDoor.Q
open Go.RowKit Go.Proofs.YtibfocaldcjiiaaGreatDoorW.PrintWords Go.Proofs.YtibfocaldcjiiaaGreatDoorW.PrintLast Go.Proofs.YtibfocaldcjiiaaGreatDoorW.PrintMore
attribute [local go_sem] max2_int min2_int max_two min_two max_three min_three max_four min_four   -- for this text's walks alone
set_option linter.unusedVariables false
set_option linter.unusedSimpArgs false

/-- The number of a word of one or two digits in its one form, -1 of any other. -/
def num2 : List UInt8 → Int
  | [a] => if 48 ≤ a.toNat ∧ a.toNat ≤ 57 then (a.toNat : Int) - 48 else -1
  | [a, b] => if 49 ≤ a.toNat ∧ a.toNat ≤ 57 ∧ 48 ≤ b.toNat ∧ b.toNat ≤ 57 then 10 * ((a.toNat : Int) - 48) + ((b.toNat : Int) - 48) else -1
  | _ => -1
theorem num2_dig : ∀ n : Fin 100, num2 (Lib.decDigits n.val) = n.val ∧ Lib.atoiAll (Lib.decDigits n.val) = .ok (n.val : Int) ∧ (58 : UInt8) ∉ Lib.decDigits n.val ∧ Lib.decDigits n.val ≠ [] := by decide +kernel
theorem num2_inv (l : List UInt8) (h : 0 ≤ num2 l) : num2 l ≤ 99 ∧ l = Lib.decDigits (num2 l).toNat := by
  match l with
  | [] => simp [num2] at h
  | [a] =>
    simp only [num2] at h ⊢
    by_cases hc : 48 ≤ a.toNat ∧ a.toNat ≤ 57
    · rw [if_pos hc] at h ⊢
      refine ⟨by omega, ?_⟩
      obtain ⟨i, hi⟩ : ∃ i : Fin 10, a.toNat = 48 + i.val := ⟨⟨a.toNat - 48, by omega⟩, by simp; omega⟩
      have ha : a = UInt8.ofNat (48 + i.val) := by rw [← hi]; simp
      have e : ((a.toNat : Int) - 48).toNat = i.val := by omega
      rw [e, ha]
      have : ∀ i : Fin 10, [UInt8.ofNat (48 + i.val)] = Lib.decDigits i.val := by decide +kernel
      exact this i
    · rw [if_neg hc] at h; omega
  | [a, b] =>
    simp only [num2] at h ⊢
    by_cases hc : 49 ≤ a.toNat ∧ a.toNat ≤ 57 ∧ 48 ≤ b.toNat ∧ b.toNat ≤ 57
    · rw [if_pos hc] at h ⊢
      refine ⟨by omega, ?_⟩
      obtain ⟨i, hi⟩ : ∃ i : Fin 9, a.toNat = 49 + i.val := ⟨⟨a.toNat - 49, by omega⟩, by simp; omega⟩
      obtain ⟨j, hj⟩ : ∃ j : Fin 10, b.toNat = 48 + j.val := ⟨⟨b.toNat - 48, by omega⟩, by simp; omega⟩
      have ha : a = UInt8.ofNat (49 + i.val) := by rw [← hi]; simp
      have hb : b = UInt8.ofNat (48 + j.val) := by rw [← hj]; simp
      have e : (10 * ((a.toNat : Int) - 48) + ((b.toNat : Int) - 48)).toNat = 10 * (i.val + 1) + j.val := by omega
      rw [e, ha, hb]
      have : ∀ (i : Fin 9) (j : Fin 10), [UInt8.ofNat (49 + i.val), UInt8.ofNat (48 + j.val)] = Lib.decDigits (10 * (i.val + 1) + j.val) := by decide +kernel
      exact this i j
    · rw [if_neg hc] at h; omega
  | a :: b :: c :: l => simp [num2] at h
theorem dig_num (n : Int) (h0 : 0 ≤ n) (h1 : n ≤ 99) : num2 (Lib.decDigits n.toNat) = n ∧ Lib.atoiAll (Lib.decDigits n.toNat) = .ok n ∧ (58 : UInt8) ∉ Lib.decDigits n.toNat ∧ Lib.decDigits n.toNat ≠ [] := by
  have h := num2_dig ⟨n.toNat, by omega⟩
  have e : ((n.toNat : Nat) : Int) = n := by omega
  simp only [e] at h
  exact h
theorem spl_none (c : UInt8) : ∀ l : List UInt8, c ∉ l → spl c l = [l]
  | [], _ => rfl
  | b :: l, h => by
    have hb : b ≠ c := fun e => h (by simp [e])
    have := spl_none c l (fun hm => h (List.mem_cons_of_mem _ hm))
    simp only [spl, if_neg hb, this]
theorem spl_app (c : UInt8) : ∀ (a l : List UInt8), c ∉ a → spl c (a ++ c :: l) = a :: spl c l
  | [], l, _ => by simp [spl]
  | b :: a, l, h => by
    have hb : b ≠ c := fun e => h (by simp [e])
    have := spl_app c a l (fun hm => h (List.mem_cons_of_mem _ hm))
    simp only [List.cons_append, spl, if_neg hb, this]
/-- The answer, over the parts. -/
def ownP : List (List UInt8) → Int × Int × Bool
  | [one] => if 0 ≤ num2 one then (num2 one, -1, true) else (0, 0, false)
  | [one, two] => if two = [] then (0, 0, false) else if one = [] then (if 0 ≤ num2 two then (-1, num2 two, true) else (0, 0, false)) else if 0 ≤ num2 one then (if 0 ≤ num2 two then (num2 one, num2 two, true) else (0, 0, false)) else (0, 0, false)
  | _ => (0, 0, false)
def digs (n : Int) : List UInt8 := Lib.decDigits n.toNat
def ownL (u g : Int) : List UInt8 := if g = -1 then (if u = -1 then [] else digs u) else (if u = -1 then [] else digs u) ++ (58 :: digs g)
/-- The text of good owners, not empty, is read back. -/
theorem ownP_of (u g : Int) (hu : -1 ≤ u ∧ u ≤ 99) (hg : -1 ≤ g ∧ g ≤ 99) (hne : ownL u g ≠ []) : ownP (spl 58 (ownL u g)) = (u, g, true) := by
  unfold ownL digs at *
  by_cases h1 : g = -1
  · rw [if_pos h1] at hne ⊢
    by_cases h2 : u = -1
    · rw [if_pos h2] at hne; exact absurd rfl hne
    · rw [if_neg h2]
      obtain ⟨a, b, c, d⟩ := dig_num u (by omega) hu.2
      rw [spl_none _ _ c]
      simp only [ownP]
      rw [a, if_pos (by omega), h1]
  · rw [if_neg h1]
    obtain ⟨a, b, c, d⟩ := dig_num g (by omega) hg.2
    by_cases h2 : u = -1
    · rw [if_pos h2, spl_app _ _ _ (by simp), spl_none _ _ c]
      simp only [ownP]
      rw [if_neg d, if_pos trivial, a, if_pos (by omega), h2]
    · rw [if_neg h2]
      obtain ⟨a', b', c', d'⟩ := dig_num u (by omega) hu.2
      rw [spl_app _ _ _ c', spl_none _ _ c]
      simp only [ownP]
      rw [if_neg d, if_neg d', a', a, if_pos (by omega), if_pos (by omega)]
theorem cut_spl (s : List UInt8) : ((Lib.cut s [58]).2.2 = false ∧ (Lib.cut s [58]).1 = s ∧ (58 : UInt8) ∉ s) ∨ ((Lib.cut s [58]).2.2 = true ∧ s = (Lib.cut s [58]).1 ++ 58 :: (Lib.cut s [58]).2.1 ∧ (58 : UInt8) ∉ (Lib.cut s [58]).1) := by
  unfold Lib.cut
  rw [Lib.index_one]
  have hge := Lib.indexByte_ge s 58
  by_cases h : 0 ≤ Lib.indexByte s 58
  · rw [if_pos h]
    right
    obtain ⟨o, ho⟩ : ∃ o : Nat, Lib.indexByte s 58 = o := ⟨(Lib.indexByte s 58).toNat, by omega⟩
    obtain ⟨h1, h2⟩ := Lib.indexByte_some ho
    have e : (Lib.indexByte s 58).toNat = o := by omega
    simp only [e]
    refine ⟨trivial, ?_, ?_⟩
    · have hlt : o < s.length := by
        rcases Nat.lt_or_ge o s.length with h | h
        · exact h
        · rw [List.getElem?_eq_none h] at h1; cases h1
      have hx : s[o] = 58 := by rw [List.getElem?_eq_getElem hlt] at h1; injection h1
      have : s.drop o = 58 :: s.drop (o + 1) := by rw [List.drop_eq_getElem_cons hlt, hx]
      calc s = s.take o ++ s.drop o := (List.take_append_drop o s).symm
        _ = _ := by rw [this]; rfl
    · intro hm
      obtain ⟨i, hi, hx⟩ := List.getElem_of_mem hm
      rw [List.length_take] at hi
      rw [List.getElem_take] at hx
      exact h2 i (by omega) (by rw [List.getElem?_eq_getElem (by omega), hx])
  · rw [if_neg h]
    left
    refine ⟨rfl, rfl, fun hm => ?_⟩
    obtain ⟨i, hi, hx⟩ := List.getElem_of_mem hm
    exact Lib.indexByte_none (by omega : Lib.indexByte s 58 = -1) i (by rw [List.getElem?_eq_getElem hi, hx])

theorem app_inj {c : UInt8} : ∀ {a b x y : List UInt8}, c ∉ a → c ∉ b → a ++ c :: x = b ++ c :: y → a = b ∧ x = y
  | [], [], x, y, _, _, h => by simp at h; exact ⟨rfl, h⟩
  | [], d :: b, x, y, _, hb, h => by simp at h; exact absurd (by simp [h.1]) hb
  | d :: a, [], x, y, ha, _, h => by simp at h; exact absurd (by simp [h.1]) ha
  | d :: a, e :: b, x, y, ha, hb, h => by
    simp only [List.cons_append, List.cons.injEq] at h
    obtain ⟨h1, h2⟩ := app_inj (fun hm => ha (List.mem_cons_of_mem _ hm)) (fun hm => hb (List.mem_cons_of_mem _ hm)) h.2
    exact ⟨by rw [h.1, h1], h2⟩
theorem ownP_inv (s : List UInt8) : ownP (spl 58 s) = (0, 0, false) ∨ ∃ u g : Int, (-1 ≤ u ∧ u ≤ 99) ∧ (-1 ≤ g ∧ g ≤ 99) ∧ s = ownL u g ∧ s ≠ [] := by
  rcases cut_spl s with ⟨_, _, hn⟩ | ⟨_, hs, h1⟩
  · rw [spl_none _ _ hn]
    simp only [ownP]
    by_cases h : 0 ≤ num2 s
    · obtain ⟨a, b⟩ := num2_inv s h
      refine .inr ⟨num2 s, -1, by omega, by omega, ?_, ?_⟩
      · unfold ownL digs; rw [if_pos rfl, if_neg (by omega)]; exact b
      · rintro rfl; simp [num2] at h
    · rw [if_neg h]; exact .inl rfl
  · generalize (Lib.cut s [58]).1 = one at hs h1
    generalize (Lib.cut s [58]).2.1 = two at hs
    rw [hs, spl_app _ _ _ h1]
    cases h2 : spl 58 two with
    | nil => exact absurd h2 (spl_ne _ _)
    | cons a t =>
      cases t with
      | cons b t => left; rfl
      | nil =>
        have ha : a = two := by
          rcases cut_spl two with ⟨_, _, hn⟩ | ⟨_, hs2, h3⟩
          · rw [spl_none _ _ hn] at h2; injection h2 with h2; exact h2.symm
          · rw [hs2, spl_app _ _ _ h3] at h2
            injection h2 with _ h2
            exact absurd h2 (spl_ne _ _)
        subst ha
        simp only [ownP]
        by_cases h3 : a = []
        · rw [if_pos h3]; exact .inl rfl
        · rw [if_neg h3]
          by_cases h4 : 0 ≤ num2 a
          · obtain ⟨p, q⟩ := num2_inv a h4
            by_cases h5 : one = []
            · rw [if_pos h5, if_pos h4]
              refine .inr ⟨-1, num2 a, by omega, by omega, ?_, by simp⟩
              unfold ownL digs; rw [if_neg (by omega), if_pos rfl, h5, ← q]
            · rw [if_neg h5]
              by_cases h6 : 0 ≤ num2 one
              · obtain ⟨p', q'⟩ := num2_inv one h6
                refine .inr ⟨num2 one, num2 a, by omega, by omega, ?_, by simp⟩
                unfold ownL digs; rw [if_neg (by omega), if_neg (by omega), ← q, ← q']
              · rw [if_neg h6]; exact .inl rfl
          · rw [if_neg h4, if_neg h4]
            left
            by_cases h5 : one = []
            · rw [if_pos h5]
            · rw [if_neg h5]; split <;> rfl
def atoiL (l : List UInt8) : Int := match Lib.atoiAll l with
  | .ok v => v
  | .range => Lib.atoiSat l
  | _ => 0
def inR (u g : Int) : Bool := (decide (-1 ≤ u) && decide (u ≤ 99)) && (decide (-1 ≤ g) && decide (g ≤ 99))
def roVL (s : List UInt8) (u g : Int) : Int × Int × Bool :=
  if s = [] then (0, 0, false) else if inR u g = true then (if ownL u g = s then (u, g, true) else (0, 0, false)) else (0, 0, false)
def roL (s : List UInt8) : Int × Int × Bool :=
  roVL s (if (Lib.cut s [58]).1 = [] then -1 else atoiL (Lib.cut s [58]).1) (if (Lib.cut s [58]).2.2 = true then atoiL (Lib.cut s [58]).2.1 else -1)
theorem atoiL_dig (n : Int) (h0 : 0 ≤ n) (h1 : n ≤ 99) : atoiL (digs n) = n := by
  unfold atoiL digs; rw [(dig_num n h0 h1).2.1]
theorem roL_eq (s : List UInt8) : roL s = ownP (spl 58 s) := by
  rcases ownP_inv s with h | ⟨u, g, hu, hg, hs, hne⟩
  · rw [h]
    unfold roL
    generalize (if (Lib.cut s [58]).1 = [] then (-1 : Int) else atoiL (Lib.cut s [58]).1) = u
    generalize (if (Lib.cut s [58]).2.2 = true then atoiL (Lib.cut s [58]).2.1 else (-1 : Int)) = g
    unfold roVL
    by_cases h1 : s = []
    · rw [if_pos h1]
    · rw [if_neg h1]
      by_cases h2 : inR u g = true
      · rw [if_pos h2]
        by_cases h3 : ownL u g = s
        · exfalso
          unfold inR at h2
          simp only [Bool.and_eq_true, decide_eq_true_eq] at h2
          have := ownP_of u g (by omega) (by omega) (by rw [h3]; exact h1)
          rw [h3, h] at this
          simp at this
        · rw [if_neg h3]
      · rw [if_neg h2]
  · have hok := ownP_of u g hu hg (by rw [← hs]; exact hne)
    rw [← hs] at hok
    rw [hok]
    have e1 : (if (Lib.cut s [58]).1 = [] then (-1 : Int) else atoiL (Lib.cut s [58]).1) = u ∧ (if (Lib.cut s [58]).2.2 = true then atoiL (Lib.cut s [58]).2.1 else (-1 : Int)) = g := by
      by_cases h1 : g = -1
      · have hs' : s = if u = -1 then [] else digs u := by rw [hs]; unfold ownL; rw [if_pos h1]
        have hu1 : u ≠ -1 := by intro e; rw [if_pos e] at hs'; exact hne hs'
        rw [if_neg hu1] at hs'
        have hd := dig_num u (by omega) hu.2
        rcases cut_spl s with ⟨c1, c2, c3⟩ | ⟨c1, c2, c3⟩
        · rw [c1, c2, if_neg hne, hs', atoiL_dig u (by omega) hu.2, h1]; exact ⟨rfl, rfl⟩
        · exfalso
          apply hd.2.2.1
          show (58 : UInt8) ∈ digs u
          rw [← hs', c2]; simp
      · have hs' : s = (if u = -1 then [] else digs u) ++ (58 :: digs g) := by rw [hs]; unfold ownL; rw [if_neg h1]
        have hA : (58 : UInt8) ∉ (if u = -1 then [] else digs u) := by
          split
          · simp
          · exact (dig_num u (by omega) hu.2).2.2.1
        rcases cut_spl s with ⟨c1, c2, c3⟩ | ⟨c1, c2, c3⟩
        · exfalso; apply c3; rw [hs']; simp
        · obtain ⟨p, q⟩ := app_inj c3 hA (c2.symm.trans hs')
          rw [c1, p, q, if_pos rfl, atoiL_dig g (by omega) hg.2]
          refine ⟨?_, rfl⟩
          by_cases h2 : u = -1
          · rw [if_pos h2, if_pos rfl, h2]
          · rw [if_neg h2, if_neg (show digs u ≠ [] from (dig_num u (by omega) hu.2).2.2.2), atoiL_dig u (by omega) hu.2]
    unfold roL
    rw [e1.1, e1.2]
    unfold roVL
    rw [if_neg hne, if_pos, if_pos hs.symm]
    unfold inR
    simp only [Bool.and_eq_true, decide_eq_true_eq]
    omega


theorem read6_1 (a : UInt8) : read6 [a] = digV 0 [a] := by
  unfold read6; rw [if_pos ⟨by simp, by simp, by simp⟩]
theorem read6_2 (a b : UInt8) (h : a ≠ 48) : read6 [a, b] = digV 0 [a, b] := by
  unfold read6; rw [if_pos ⟨by simp, by simp, by simp [h]⟩]
theorem read6_20 (b : UInt8) : read6 [48, b] = -1 := by
  unfold read6; rw [if_neg (by simp)]
theorem num2_read (l : List UInt8) : (if l.length > 2 then (-1 : Int) else if read6 l > 99 then -1 else read6 l) = num2 l := by
  match l with
  | [] => rfl
  | [a] =>
    rw [if_neg (by simp), read6_1]
    by_cases h : 48 ≤ a.toNat ∧ a.toNat ≤ 57
    · have hv : digV 0 [a] = (a.toNat : Int) - 48 := by simp only [digV]; rw [if_pos h]; omega
      rw [hv, if_neg (by omega)]; simp only [num2]; rw [if_pos h]
    · have hv : digV 0 [a] = -1 := by simp only [digV]; rw [if_neg h]
      rw [hv, if_neg (by omega)]; simp only [num2]; rw [if_neg h]
  | [a, b] =>
    rw [if_neg (by simp)]
    by_cases h0 : a = 48
    · subst h0
      rw [read6_20, if_neg (by omega)]
      have : ¬ (49 ≤ (48 : UInt8).toNat ∧ (48 : UInt8).toNat ≤ 57 ∧ 48 ≤ b.toNat ∧ b.toNat ≤ 57) := fun h => absurd h.1 (by decide)
      simp only [num2]
      rw [if_neg this]
    · have h0' : a.toNat ≠ 48 := fun e => h0 (UInt8.toNat_inj.mp e)
      rw [read6_2 a b h0]
      by_cases h : 48 ≤ a.toNat ∧ a.toNat ≤ 57
      · by_cases h2 : 48 ≤ b.toNat ∧ b.toNat ≤ 57
        · have hv : digV 0 [a, b] = 10 * ((a.toNat : Int) - 48) + ((b.toNat : Int) - 48) := by simp only [digV]; rw [if_pos h, if_pos h2]; omega
          rw [hv, if_neg (by omega)]; simp only [num2]; rw [if_pos (by omega)]
        · have hv : digV 0 [a, b] = -1 := by simp only [digV]; rw [if_pos h, if_neg h2]
          rw [hv, if_neg (by omega)]; simp only [num2]; rw [if_neg (by omega)]
      · have hv : digV 0 [a, b] = -1 := by simp only [digV]; rw [if_neg h]
        rw [hv, if_neg (by omega)]; simp only [num2]; rw [if_neg (by omega)]
  | a :: b :: c :: l =>
    rw [if_pos (by simp)]; rfl
theorem l15Num_ev (s : ByteArray) (hs : s.size < 4294967281) : Ev (fun k => spec_l15Num.f k s) (num2 s.data.toList) := by
  refine Ev.bind (l1Read_ev s hs) ?_
  rw [← num2_read]
  have hl := data_length s
  refine Ev.congr (f := fun _ => some (if s.data.toList.length > 2 then (-1 : Int) else if read6 s.data.toList > 99 then -1 else read6 s.data.toList)) (fun k => ?_) (Ev.now _)
  by_cases h : s.data.toList.length > 2
  · rw [if_pos h, if_pos (by omega)]
  · rw [if_neg h, if_neg (by omega)]
    by_cases h2 : read6 s.data.toList > 99
    · rw [if_pos h2, if_pos h2]
    · rw [if_neg h2, if_neg h2]

end Go.Proofs.YtibfocaldcjiiaaGreatDoor.Q

/- spec.ReadOwner, by hand: the parts, and the numbers of one or two of them. -/
namespace Go.Proofs.YtibfocaldcjiiaaGreatDoor.Q
open Go.RowKit Go.Proofs.YtibfocaldcjiiaaGreatDoorW.PrintWords Go.Proofs.YtibfocaldcjiiaaGreatDoorW.PrintLast Go.Proofs.YtibfocaldcjiiaaGreatDoorW.PrintMore
attribute [local go_sem] max2_int min2_int max_two min_two max_three min_three max_four min_four   -- for this text's walks alone
set_option linter.unusedVariables false
set_option linter.unusedSimpArgs false

def spec_ReadOwner.f (s : ByteArray) : Option (Int × Int × Bool) := if s.size < 4294967281 then some (ownP (spl 58 s.data.toList)) else none
theorem l15Num_any (s : ByteArray) (hs : s.size < 4294967281) (w : World) : Calls Tryz.prog 117 #[.string s] w fun e w' => e = .returned (.int .i64 (num2 s.data.toList)) ∧ Drawn0 w w' := by
  obtain ⟨k, hk⟩ := Ev.rounds (l15Num_ev s hs)
  exact spec_l15Num.calls k s _ w hk
abbrev SplitAt (s : ByteArray) (L : List ByteArray) (W : World) : Prop :=
  Calls Tryz.prog 67 #[.string s, .int .u8 58] W fun e w' => ∃ v0_ : Value, e = .returned (v0_) ∧ Kd.R Kd.string 9 w' W.heap.size (fun _ => True) v0_ L ∧ Below W.heap.size W w'
abbrev OwnEnd (W : World) (r : Int × Int × Bool) : Ending → World → Prop := fun e w' => e = .returned (.tuple #[.int .i64 r.1, .int .i64 r.2.1, .bool r.2.2]) ∧ Below W.heap.size W w'
set_option maxHeartbeats 2000000 in
set_option maxRecDepth 100000 in
theorem so_many (s a   b   c  : ByteArray) (M : List ByteArray) (W : World) (HC : Aside0 (SplitAt s (a :: b :: c :: M) W)) :
    Calls Tryz.prog 48 #[.string s] W (OwnEnd W (0, 0, false)) := by
  go_enter Tryz.func48, Tryz.ntmps48
  go_wp2_with fail
  refine HC.out.mono ?_; rintro e w1 ⟨v, rfl, hR, hd⟩
  have hb1 : Below W.heap.size W w1 := hd
  clear hd HC
  obtain ⟨A1, c1, rfl⟩ := Kd.R_slice hR
  have hrd := (Kd.R_reads' hR).2.2
  clear hR
  have g1 : decide (2 < ((a :: b :: c :: M).length : Int)) = true := by simp; omega
  have g2 : decide (2 < (a :: b :: c :: M).length) = true := by simp
  have g3 : decide (2 < M.length + 1 + 1 + 1) = true := by simp
  have g4 : decide (2 < ((M.length : Int) + 1 + 1 + 1)) = true := by simp; omega
  go_wp2
  go_ret3
  exact ⟨rfl, by repeat (first | exact hb1 | apply pw_below_drewN | apply below_drew1)⟩
set_option maxHeartbeats 2000000 in
set_option maxRecDepth 100000 in
theorem so_nil (s a : ByteArray) (W : World) (HC : Aside0 (SplitAt s ([a]) W)) (n1 : (s.toList == []) = true) :
    Calls Tryz.prog 48 #[.string s] W (OwnEnd W (0, 0, false)) := by
  go_enter Tryz.func48, Tryz.ntmps48
  go_wp2_with fail
  refine HC.out.mono ?_; rintro e w1 ⟨v, rfl, hR, hd⟩
  have hb1 : Below W.heap.size W w1 := hd
  clear hd HC
  obtain ⟨A1, c1, rfl⟩ := Kd.R_slice hR
  have hrd := (Kd.R_reads' hR).2.2
  clear hR
  go_wp2
  go_ret3
  exact ⟨rfl, by repeat (first | exact hb1 | apply pw_below_drewN | apply below_drew1)⟩
set_option maxHeartbeats 2000000 in
set_option maxRecDepth 100000 in
theorem so_colon (s a  b : ByteArray) (W : World) (HC : Aside0 (SplitAt s ([a, b]) W)) (n1 : (s.toList == []) = false) (n2 : (s.toList == [58]) = true) :
    Calls Tryz.prog 48 #[.string s] W (OwnEnd W (0, 0, false)) := by
  go_enter Tryz.func48, Tryz.ntmps48
  go_wp2_with fail
  refine HC.out.mono ?_; rintro e w1 ⟨v, rfl, hR, hd⟩
  have hb1 : Below W.heap.size W w1 := hd
  clear hd HC
  obtain ⟨A1, c1, rfl⟩ := Kd.R_slice hR
  have hrd := (Kd.R_reads' hR).2.2
  clear hR
  go_wp2
  go_ret3
  exact ⟨rfl, by repeat (first | exact hb1 | apply pw_below_drewN | apply below_drew1)⟩
set_option maxHeartbeats 2000000 in
set_option maxRecDepth 100000 in
theorem so_one_no (s a : ByteArray) (W : World) (HC : Aside0 (SplitAt s ([a]) W)) (n1 : (s.toList == []) = false) (n2 : (s.toList == [58]) = false) (n3 : (a.toList == []) = false) (n4 : (a.toList != []) = true) (u : Int) (HA : Aside0 (∀ X, Calls Tryz.prog 117 #[.string a] X fun e w' => e = .returned (.int .i64 u) ∧ Drawn0 X w')) (hu : decide (u < 0) = true) :
    Calls Tryz.prog 48 #[.string s] W (OwnEnd W (0, 0, false)) := by
  go_enter Tryz.func48, Tryz.ntmps48
  go_wp2_with fail
  refine HC.out.mono ?_; rintro e w1 ⟨v, rfl, hR, hd⟩
  have hb1 : Below W.heap.size W w1 := hd
  clear hd HC
  obtain ⟨A1, c1, rfl⟩ := Kd.R_slice hR
  have hrd := (Kd.R_reads' hR).2.2
  clear hR
  obtain ⟨ad0, ea0, hx0⟩ := Kd.at_string hrd 0 (by decide) (by simp)
  cases ea0
  rw [show rdOf ByteArray.empty [a] 0 = a from rfl] at hx0
  (try simp only [show (0 : Int).toNat = 0 from rfl, show (1 : Int).toNat = 1 from rfl, Addr.add_zero', Go.Addr.add, Nat.reduceEqDiff, ↓reduceIte] at hx0)
  go_wp2_with fail
  refine (HA.out _).mono ?_; rintro e w2 ⟨rfl, ⟨n_, rfl⟩⟩
  go_wp2
  go_ret3
  exact ⟨rfl, by repeat (first | exact hb1 | apply pw_below_drewN | apply below_drew1)⟩
set_option maxHeartbeats 2000000 in
set_option maxRecDepth 100000 in
theorem so_one_yes (s a : ByteArray) (W : World) (HC : Aside0 (SplitAt s ([a]) W)) (n1 : (s.toList == []) = false) (n2 : (s.toList == [58]) = false) (n3 : (a.toList == []) = false) (n4 : (a.toList != []) = true) (u : Int) (HA : Aside0 (∀ X, Calls Tryz.prog 117 #[.string a] X fun e w' => e = .returned (.int .i64 u) ∧ Drawn0 X w')) (hu : decide (u < 0) = false) :
    Calls Tryz.prog 48 #[.string s] W (OwnEnd W (u, -1, true)) := by
  go_enter Tryz.func48, Tryz.ntmps48
  go_wp2_with fail
  refine HC.out.mono ?_; rintro e w1 ⟨v, rfl, hR, hd⟩
  have hb1 : Below W.heap.size W w1 := hd
  clear hd HC
  obtain ⟨A1, c1, rfl⟩ := Kd.R_slice hR
  have hrd := (Kd.R_reads' hR).2.2
  clear hR
  obtain ⟨ad0, ea0, hx0⟩ := Kd.at_string hrd 0 (by decide) (by simp)
  cases ea0
  rw [show rdOf ByteArray.empty [a] 0 = a from rfl] at hx0
  (try simp only [show (0 : Int).toNat = 0 from rfl, show (1 : Int).toNat = 1 from rfl, Addr.add_zero', Go.Addr.add, Nat.reduceEqDiff, ↓reduceIte] at hx0)
  go_wp2_with fail
  refine (HA.out _).mono ?_; rintro e w2 ⟨rfl, ⟨n_, rfl⟩⟩
  go_wp2
  go_ret3
  exact ⟨rfl, by repeat (first | exact hb1 | apply pw_below_drewN | apply below_drew1)⟩
set_option maxHeartbeats 2000000 in
set_option maxRecDepth 100000 in
theorem so_two_nil (s a  b : ByteArray) (W : World) (HC : Aside0 (SplitAt s ([a, b]) W)) (n1 : (s.toList == []) = false) (n2 : (s.toList == [58]) = false) (n5 : (b.toList == []) = true) :
    Calls Tryz.prog 48 #[.string s] W (OwnEnd W (0, 0, false)) := by
  go_enter Tryz.func48, Tryz.ntmps48
  go_wp2_with fail
  refine HC.out.mono ?_; rintro e w1 ⟨v, rfl, hR, hd⟩
  have hb1 : Below W.heap.size W w1 := hd
  clear hd HC
  obtain ⟨A1, c1, rfl⟩ := Kd.R_slice hR
  have hrd := (Kd.R_reads' hR).2.2
  clear hR
  obtain ⟨ad0, ea0, hx0⟩ := Kd.at_string hrd 0 (by decide) (by simp)
  cases ea0
  rw [show rdOf ByteArray.empty [a, b] 0 = a from rfl] at hx0
  (try simp only [show (0 : Int).toNat = 0 from rfl, show (1 : Int).toNat = 1 from rfl, Addr.add_zero', Go.Addr.add, Nat.reduceEqDiff, ↓reduceIte] at hx0)
  obtain ⟨ad1, ea1, hx1⟩ := Kd.at_string hrd 1 (by decide) (by simp)
  obtain rfl : ad0 = ad1 := (by injection ea1)
  rw [show rdOf ByteArray.empty [a, b] 1 = b from rfl] at hx1
  (try simp only [show (0 : Int).toNat = 0 from rfl, show (1 : Int).toNat = 1 from rfl, Addr.add_zero', Go.Addr.add, Nat.reduceEqDiff, ↓reduceIte] at hx1)
  clear ea1
  go_wp2
  go_ret3
  exact ⟨rfl, by repeat (first | exact hb1 | apply pw_below_drewN | apply below_drew1)⟩
set_option maxHeartbeats 2000000 in
set_option maxRecDepth 100000 in
theorem so_eb_no (s a  b : ByteArray) (W : World) (HC : Aside0 (SplitAt s ([a, b]) W)) (n1 : (s.toList == []) = false) (n2 : (s.toList == [58]) = false) (n5 : (b.toList == []) = false) (n3 : (a.toList == []) = true) (n4 : (a.toList != []) = false) (g : Int) (HB : Aside0 (∀ X, Calls Tryz.prog 117 #[.string b] X fun e w' => e = .returned (.int .i64 g) ∧ Drawn0 X w')) (hg : decide (g < 0) = true) :
    Calls Tryz.prog 48 #[.string s] W (OwnEnd W (0, 0, false)) := by
  go_enter Tryz.func48, Tryz.ntmps48
  go_wp2_with fail
  refine HC.out.mono ?_; rintro e w1 ⟨v, rfl, hR, hd⟩
  have hb1 : Below W.heap.size W w1 := hd
  clear hd HC
  obtain ⟨A1, c1, rfl⟩ := Kd.R_slice hR
  have hrd := (Kd.R_reads' hR).2.2
  clear hR
  obtain ⟨ad0, ea0, hx0⟩ := Kd.at_string hrd 0 (by decide) (by simp)
  cases ea0
  rw [show rdOf ByteArray.empty [a, b] 0 = a from rfl] at hx0
  (try simp only [show (0 : Int).toNat = 0 from rfl, show (1 : Int).toNat = 1 from rfl, Addr.add_zero', Go.Addr.add, Nat.reduceEqDiff, ↓reduceIte] at hx0)
  obtain ⟨ad1, ea1, hx1⟩ := Kd.at_string hrd 1 (by decide) (by simp)
  obtain rfl : ad0 = ad1 := (by injection ea1)
  rw [show rdOf ByteArray.empty [a, b] 1 = b from rfl] at hx1
  (try simp only [show (0 : Int).toNat = 0 from rfl, show (1 : Int).toNat = 1 from rfl, Addr.add_zero', Go.Addr.add, Nat.reduceEqDiff, ↓reduceIte] at hx1)
  clear ea1
  go_wp2_with fail
  refine (HB.out _).mono ?_; rintro e w2 ⟨rfl, ⟨n_, rfl⟩⟩
  go_wp2
  go_ret3
  exact ⟨rfl, by repeat (first | exact hb1 | apply pw_below_drewN | apply below_drew1)⟩
set_option maxHeartbeats 2000000 in
set_option maxRecDepth 100000 in
theorem so_eb_yes (s a  b : ByteArray) (W : World) (HC : Aside0 (SplitAt s ([a, b]) W)) (n1 : (s.toList == []) = false) (n2 : (s.toList == [58]) = false) (n5 : (b.toList == []) = false) (n3 : (a.toList == []) = true) (n4 : (a.toList != []) = false) (g : Int) (HB : Aside0 (∀ X, Calls Tryz.prog 117 #[.string b] X fun e w' => e = .returned (.int .i64 g) ∧ Drawn0 X w')) (hg : decide (g < 0) = false) :
    Calls Tryz.prog 48 #[.string s] W (OwnEnd W (-1, g, true)) := by
  go_enter Tryz.func48, Tryz.ntmps48
  go_wp2_with fail
  refine HC.out.mono ?_; rintro e w1 ⟨v, rfl, hR, hd⟩
  have hb1 : Below W.heap.size W w1 := hd
  clear hd HC
  obtain ⟨A1, c1, rfl⟩ := Kd.R_slice hR
  have hrd := (Kd.R_reads' hR).2.2
  clear hR
  obtain ⟨ad0, ea0, hx0⟩ := Kd.at_string hrd 0 (by decide) (by simp)
  cases ea0
  rw [show rdOf ByteArray.empty [a, b] 0 = a from rfl] at hx0
  (try simp only [show (0 : Int).toNat = 0 from rfl, show (1 : Int).toNat = 1 from rfl, Addr.add_zero', Go.Addr.add, Nat.reduceEqDiff, ↓reduceIte] at hx0)
  obtain ⟨ad1, ea1, hx1⟩ := Kd.at_string hrd 1 (by decide) (by simp)
  obtain rfl : ad0 = ad1 := (by injection ea1)
  rw [show rdOf ByteArray.empty [a, b] 1 = b from rfl] at hx1
  (try simp only [show (0 : Int).toNat = 0 from rfl, show (1 : Int).toNat = 1 from rfl, Addr.add_zero', Go.Addr.add, Nat.reduceEqDiff, ↓reduceIte] at hx1)
  clear ea1
  go_wp2_with fail
  refine (HB.out _).mono ?_; rintro e w2 ⟨rfl, ⟨n_, rfl⟩⟩
  go_wp2
  go_ret3
  exact ⟨rfl, by repeat (first | exact hb1 | apply pw_below_drewN | apply below_drew1)⟩
set_option maxHeartbeats 2000000 in
set_option maxRecDepth 100000 in
theorem so_ab_n (s a  b : ByteArray) (W : World) (HC : Aside0 (SplitAt s ([a, b]) W)) (n1 : (s.toList == []) = false) (n2 : (s.toList == [58]) = false) (n5 : (b.toList == []) = false) (n3 : (a.toList == []) = false) (n4 : (a.toList != []) = true) (u : Int) (HA : Aside0 (∀ X, Calls Tryz.prog 117 #[.string a] X fun e w' => e = .returned (.int .i64 u) ∧ Drawn0 X w')) (hu : decide (u < 0) = true) :
    Calls Tryz.prog 48 #[.string s] W (OwnEnd W (0, 0, false)) := by
  go_enter Tryz.func48, Tryz.ntmps48
  go_wp2_with fail
  refine HC.out.mono ?_; rintro e w1 ⟨v, rfl, hR, hd⟩
  have hb1 : Below W.heap.size W w1 := hd
  clear hd HC
  obtain ⟨A1, c1, rfl⟩ := Kd.R_slice hR
  have hrd := (Kd.R_reads' hR).2.2
  clear hR
  obtain ⟨ad0, ea0, hx0⟩ := Kd.at_string hrd 0 (by decide) (by simp)
  cases ea0
  rw [show rdOf ByteArray.empty [a, b] 0 = a from rfl] at hx0
  (try simp only [show (0 : Int).toNat = 0 from rfl, show (1 : Int).toNat = 1 from rfl, Addr.add_zero', Go.Addr.add, Nat.reduceEqDiff, ↓reduceIte] at hx0)
  obtain ⟨ad1, ea1, hx1⟩ := Kd.at_string hrd 1 (by decide) (by simp)
  obtain rfl : ad0 = ad1 := (by injection ea1)
  rw [show rdOf ByteArray.empty [a, b] 1 = b from rfl] at hx1
  (try simp only [show (0 : Int).toNat = 0 from rfl, show (1 : Int).toNat = 1 from rfl, Addr.add_zero', Go.Addr.add, Nat.reduceEqDiff, ↓reduceIte] at hx1)
  clear ea1
  go_wp2_with fail
  refine (HA.out _).mono ?_; rintro e w2 ⟨rfl, ⟨n_, rfl⟩⟩
  go_wp2
  go_ret3
  exact ⟨rfl, by repeat (first | exact hb1 | apply pw_below_drewN | apply below_drew1)⟩
set_option maxHeartbeats 2000000 in
set_option maxRecDepth 100000 in
theorem so_ab_yn (s a  b : ByteArray) (W : World) (HC : Aside0 (SplitAt s ([a, b]) W)) (n1 : (s.toList == []) = false) (n2 : (s.toList == [58]) = false) (n5 : (b.toList == []) = false) (n3 : (a.toList == []) = false) (n4 : (a.toList != []) = true) (u : Int) (HA : Aside0 (∀ X, Calls Tryz.prog 117 #[.string a] X fun e w' => e = .returned (.int .i64 u) ∧ Drawn0 X w')) (hu : decide (u < 0) = false) (g : Int) (HB : Aside0 (∀ X, Calls Tryz.prog 117 #[.string b] X fun e w' => e = .returned (.int .i64 g) ∧ Drawn0 X w')) (hg : decide (g < 0) = true) :
    Calls Tryz.prog 48 #[.string s] W (OwnEnd W (0, 0, false)) := by
  go_enter Tryz.func48, Tryz.ntmps48
  go_wp2_with fail
  refine HC.out.mono ?_; rintro e w1 ⟨v, rfl, hR, hd⟩
  have hb1 : Below W.heap.size W w1 := hd
  clear hd HC
  obtain ⟨A1, c1, rfl⟩ := Kd.R_slice hR
  have hrd := (Kd.R_reads' hR).2.2
  clear hR
  obtain ⟨ad0, ea0, hx0⟩ := Kd.at_string hrd 0 (by decide) (by simp)
  cases ea0
  rw [show rdOf ByteArray.empty [a, b] 0 = a from rfl] at hx0
  (try simp only [show (0 : Int).toNat = 0 from rfl, show (1 : Int).toNat = 1 from rfl, Addr.add_zero', Go.Addr.add, Nat.reduceEqDiff, ↓reduceIte] at hx0)
  obtain ⟨ad1, ea1, hx1⟩ := Kd.at_string hrd 1 (by decide) (by simp)
  obtain rfl : ad0 = ad1 := (by injection ea1)
  rw [show rdOf ByteArray.empty [a, b] 1 = b from rfl] at hx1
  (try simp only [show (0 : Int).toNat = 0 from rfl, show (1 : Int).toNat = 1 from rfl, Addr.add_zero', Go.Addr.add, Nat.reduceEqDiff, ↓reduceIte] at hx1)
  clear ea1
  go_wp2_with fail
  refine (HA.out _).mono ?_; rintro e w2 ⟨rfl, ⟨n_, rfl⟩⟩
  go_wp2_with fail
  refine (HB.out _).mono ?_; rintro e w2 ⟨rfl, ⟨n_, rfl⟩⟩
  go_wp2
  go_ret3
  exact ⟨rfl, by repeat (first | exact hb1 | apply pw_below_drewN | apply below_drew1)⟩
set_option maxHeartbeats 2000000 in
set_option maxRecDepth 100000 in
theorem so_ab_yy (s a  b : ByteArray) (W : World) (HC : Aside0 (SplitAt s ([a, b]) W)) (n1 : (s.toList == []) = false) (n2 : (s.toList == [58]) = false) (n5 : (b.toList == []) = false) (n3 : (a.toList == []) = false) (n4 : (a.toList != []) = true) (u : Int) (HA : Aside0 (∀ X, Calls Tryz.prog 117 #[.string a] X fun e w' => e = .returned (.int .i64 u) ∧ Drawn0 X w')) (hu : decide (u < 0) = false) (g : Int) (HB : Aside0 (∀ X, Calls Tryz.prog 117 #[.string b] X fun e w' => e = .returned (.int .i64 g) ∧ Drawn0 X w')) (hg : decide (g < 0) = false) :
    Calls Tryz.prog 48 #[.string s] W (OwnEnd W (u, g, true)) := by
  go_enter Tryz.func48, Tryz.ntmps48
  go_wp2_with fail
  refine HC.out.mono ?_; rintro e w1 ⟨v, rfl, hR, hd⟩
  have hb1 : Below W.heap.size W w1 := hd
  clear hd HC
  obtain ⟨A1, c1, rfl⟩ := Kd.R_slice hR
  have hrd := (Kd.R_reads' hR).2.2
  clear hR
  obtain ⟨ad0, ea0, hx0⟩ := Kd.at_string hrd 0 (by decide) (by simp)
  cases ea0
  rw [show rdOf ByteArray.empty [a, b] 0 = a from rfl] at hx0
  (try simp only [show (0 : Int).toNat = 0 from rfl, show (1 : Int).toNat = 1 from rfl, Addr.add_zero', Go.Addr.add, Nat.reduceEqDiff, ↓reduceIte] at hx0)
  obtain ⟨ad1, ea1, hx1⟩ := Kd.at_string hrd 1 (by decide) (by simp)
  obtain rfl : ad0 = ad1 := (by injection ea1)
  rw [show rdOf ByteArray.empty [a, b] 1 = b from rfl] at hx1
  (try simp only [show (0 : Int).toNat = 0 from rfl, show (1 : Int).toNat = 1 from rfl, Addr.add_zero', Go.Addr.add, Nat.reduceEqDiff, ↓reduceIte] at hx1)
  clear ea1
  go_wp2_with fail
  refine (HA.out _).mono ?_; rintro e w2 ⟨rfl, ⟨n_, rfl⟩⟩
  go_wp2_with fail
  refine (HB.out _).mono ?_; rintro e w2 ⟨rfl, ⟨n_, rfl⟩⟩
  go_wp2
  go_ret3
  exact ⟨rfl, by repeat (first | exact hb1 | apply pw_below_drewN | apply below_drew1)⟩
theorem spec_ReadOwner.calls (a0 : ByteArray) (r1 : Int) (r2 : Int) (r3 : Bool) (w : World) (h : spec_ReadOwner.f a0 = some (r1, r2, r3)) :
    Calls Tryz.prog 48 #[.string a0] w fun e w' => e = .returned (.tuple #[.int .i64 r1, .int .i64 r2, .bool r3]) ∧ Below w.heap.size w w' := by
  unfold spec_ReadOwner.f at h
  split at h
  case isFalse => cases h
  rename_i hs
  injection h with h
  show Calls _ _ _ w (OwnEnd w (r1, r2, r3))
  rw [← h]
  clear h r1 r2 r3
  have hsp := splitB_spl 58 a0
  have hsz : ∀ p ∈ Lib.splitB ⟨#[58]⟩ 0 (Lib.countB a0 ⟨#[58]⟩) a0, p.size < 4294967281 := by
    intro p hp
    have := split_size a0 58 p hp
    omega
  obtain ⟨k, hk⟩ := Ev.rounds (l1Split_ev a0 58 hs)
  have HC := Aside0.mk (spec_l1Split.calls k a0 58 _ w hk)
  clear hk
  generalize Lib.splitB ⟨#[58]⟩ 0 (Lib.countB a0 ⟨#[58]⟩) a0 = L at hsp hsz HC
  have hne : L ≠ [] := by rintro rfl; exact spl_ne 58 a0.data.toList hsp.symm
  rw [← hsp]
  have tl : ∀ p : ByteArray, p.toList = p.data.toList := fun p => ByteArray.toList_eq p
  have hcat : a0.data.toList = [58] → L.map (·.data.toList) = [[], []] := fun h => by rw [hsp, h]; rfl
  have hnil : a0.data.toList = [] → L.map (·.data.toList) = [[]] := fun h => by rw [hsp, h]; rfl
  have bt_ : ∀ (p : ByteArray) (l : List UInt8), p.toList = l → (p.toList == l) = true := fun p l h => by simpa using h
  have bf_ : ∀ (p : ByteArray) (l : List UInt8), ¬ p.toList = l → (p.toList == l) = false := fun p l h => by simpa using h
  have bn_ : ∀ (p : ByteArray) (l : List UInt8), ¬ p.toList = l → (p.toList != l) = true := fun p l h => by simpa using h
  have be_ : ∀ (p : ByteArray) (l : List UInt8), p.toList = l → (p.toList != l) = false := fun p l h => by simpa using h
  have dt_ : ∀ u : Int, ¬ 0 ≤ u → decide (u < 0) = true := fun u h => by simpa using h
  have df_ : ∀ u : Int, 0 ≤ u → decide (u < 0) = false := fun u h => by simpa using h
  have hn_ : ∀ (p : ByteArray), p.size < 4294967281 → Aside0 (∀ X, Calls Tryz.prog 117 #[.string p] X fun e w' => e = .returned (.int .i64 (num2 p.data.toList)) ∧ Drawn0 X w') := fun p hp => ⟨fun X => l15Num_any p hp X⟩
  match L, hne, hsp, hsz, hcat, hnil, HC with
  | [a], _, hsp, hsz, hcat, hnil, HC =>
    have ha := hsz a (by simp)
    simp only [List.map_cons, List.map_nil, ownP]
    by_cases h1 : a0.toList = []
    · have := hnil (by rw [← tl]; exact h1)
      simp only [List.map_cons, List.map_nil, List.cons.injEq, and_true] at this
      rw [this]
      exact so_nil a0 a w HC (bt_ _ _ h1)
    · have h2 : ¬ a0.toList = [58] := fun h2 => by
        have := hcat (by rw [← tl]; exact h2)
        simp at this
      have hane : ¬ a.toList = [] := by
        intro h
        apply h1
        rw [tl] at h ⊢
        have e := hsp
        simp only [List.map_cons, List.map_nil, h] at e
        cases hd : a0.data.toList with
        | nil => rfl
        | cons b l =>
          rw [hd] at e
          simp only [spl] at e
          split at e
          · simp at e; exact absurd (Eq.symm (a := spl 58 l) (by first | exact e | exact e.symm)) (by first | exact spl_ne 58 l | exact fun h => spl_ne 58 l h.symm)
          · split at e <;> simp at e
      by_cases h3 : 0 ≤ num2 a.data.toList
      · rw [if_pos h3]
        exact so_one_yes a0 a w HC (bf_ _ _ h1) (bf_ _ _ h2) (bf_ _ _ hane) (bn_ _ _ hane) _ (hn_ a ha) (df_ _ h3)
      · rw [if_neg h3]
        exact so_one_no a0 a w HC (bf_ _ _ h1) (bf_ _ _ h2) (bf_ _ _ hane) (bn_ _ _ hane) _ (hn_ a ha) (dt_ _ h3)
  | [a, b], _, hsp, hsz, hcat, hnil, HC =>
    have ha := hsz a (by simp)
    have hb := hsz b (by simp)
    simp only [List.map_cons, List.map_nil, ownP]
    have h1 : ¬ a0.toList = [] := fun h1 => by
      have := hnil (by rw [← tl]; exact h1)
      simp at this
    by_cases h2 : a0.toList = [58]
    · have := hcat (by rw [← tl]; exact h2)
      simp only [List.map_cons, List.map_nil, List.cons.injEq, and_true] at this
      rw [if_pos this.2]
      exact so_colon a0 a b w HC (bf_ _ _ h1) (bt_ _ _ h2)
    · by_cases h3 : b.toList = []
      · rw [if_pos (by rw [← tl]; exact h3)]
        exact so_two_nil a0 a b w HC (bf_ _ _ h1) (bf_ _ _ h2) (bt_ _ _ h3)
      · rw [if_neg (by rw [← tl]; exact h3)]
        by_cases h4 : a.toList = []
        · rw [if_pos (by rw [← tl]; exact h4)]
          by_cases h5 : 0 ≤ num2 b.data.toList
          · rw [if_pos h5]
            exact so_eb_yes a0 a b w HC (bf_ _ _ h1) (bf_ _ _ h2) (bf_ _ _ h3) (bt_ _ _ h4) (be_ _ _ h4) _ (hn_ b hb) (df_ _ h5)
          · rw [if_neg h5]
            exact so_eb_no a0 a b w HC (bf_ _ _ h1) (bf_ _ _ h2) (bf_ _ _ h3) (bt_ _ _ h4) (be_ _ _ h4) _ (hn_ b hb) (dt_ _ h5)
        · rw [if_neg (by rw [← tl]; exact h4)]
          by_cases h6 : 0 ≤ num2 a.data.toList
          · rw [if_pos h6]
            by_cases h5 : 0 ≤ num2 b.data.toList
            · rw [if_pos h5]
              exact so_ab_yy a0 a b w HC (bf_ _ _ h1) (bf_ _ _ h2) (bf_ _ _ h3) (bf_ _ _ h4) (bn_ _ _ h4) _ (hn_ a ha) (df_ _ h6) _ (hn_ b hb) (df_ _ h5)
            · rw [if_neg h5]
              exact so_ab_yn a0 a b w HC (bf_ _ _ h1) (bf_ _ _ h2) (bf_ _ _ h3) (bf_ _ _ h4) (bn_ _ _ h4) _ (hn_ a ha) (df_ _ h6) _ (hn_ b hb) (dt_ _ h5)
          · rw [if_neg h6]
            exact so_ab_n a0 a b w HC (bf_ _ _ h1) (bf_ _ _ h2) (bf_ _ _ h3) (bf_ _ _ h4) (bn_ _ _ h4) _ (hn_ a ha) (dt_ _ h6)
  | a :: b :: c :: L, _, _, _, _, _, HC =>
    simp only [List.map_cons, ownP]
    exact so_many a0 a b c L w HC

end Go.Proofs.YtibfocaldcjiiaaGreatDoor.Q
