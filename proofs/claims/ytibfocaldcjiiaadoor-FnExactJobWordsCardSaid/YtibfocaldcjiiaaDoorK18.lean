/- Texts of this claim, merged by a program (wip/tools/merge.py): Q20, Q21, HSpl, HNames, HNum. -/
import Derived.Test.YtibfocaldcjiiaaDoorK1
import Derived.Test.YtibfocaldcjiiaaDoorK17
import Derived.Test.YtibfocaldcjiiaaDoorK2
import Derived.Test.YtibfocaldcjiiaaDoorK16
import Derived.Lib.SplitLaws
import Derived.WideShapes
import Derived.Test.YtibfocaldcjiiaaDoorK4
import Derived.Test.YtibfocaldcjiiaaDoorK12
import Derived.Test.YtibfocaldcjiiaaDoorK11
import Derived.Test.YtibfocaldcjiiaaDoorK8
import Derived.Lib.ItoaNum
namespace Go.Proofs.YtibfocaldcjiiaaDoor.Q
open Go.RowKit Go.Proofs.YtibfocaldcjiiaaDoorW.PrintWords Go.Proofs.YtibfocaldcjiiaaDoorW.PrintLast Go.Proofs.YtibfocaldcjiiaaDoorW.PrintMore
attribute [local go_sem] max2_int min2_int max_two min_two max_three min_three max_four min_four   -- for this text's walks alone
set_option linter.unusedVariables false
set_option linter.unusedSimpArgs false
def impl_GoodPath.f (a0 : ByteArray) : Option (Bool) := if (a0.size : Int) ≤ 60 then ((impl_isLong.f a0).bind fun t103 => (some t103)) else (some false)
set_option maxHeartbeats 8000000 in
set_option maxRecDepth 100000 in
theorem impl_GoodPath.calls (a0 : ByteArray) (r : Bool) (w : World) (h : impl_GoodPath.f a0 = some r) :
    Calls Tryd.prog 106 #[.string a0] w fun e w' => e = .returned (.bool r) ∧ Below w.heap.size w w' := by
  have HB := Aside0.mk (Below.refl w.heap.size w)
  have H : (if (a0.size : Int) ≤ 60 then ((impl_isLong.f a0).bind fun t103 => (some t103)) else (some false)) = some r := h
  clear h
  by_cases c2 : (a0.size : Int) ≤ 60
  · rw [if_pos c2] at H
    have c2b0 : decide ((a0.size : Int) ≤ 60) = true := decide_eq_true c2
    have c2b1 : decide (a0.size ≤ 60) = true := decide_eq_true (by omega)
    clear c2
    replace H := Option.bind_eq_some_iff.mp H
    obtain ⟨t103, A30, H⟩ := H
    replace H : (some t103) = some r := H
    have A3 := Aside0.mk A30
    clear A30
    obtain rfl := Option.some.inj H
    go_enter Tryd.func106, Tryd.ntmps106
    go_wp2_with (first | (go_at_call 130; (with_reducible refine (impl_isLong.calls a0 t103 _ A3.out).mono ?_); rintro e w4 ⟨rfl, hb⟩; have n0_ := Aside0.mk (below_step (by repeat (first | (with_reducible first | exact HB.out | apply below_alloc | apply pw_below_drewN | apply below_drew1) | exact HB.out)) hb); clear HB; have HB := n0_; clear n0_; (try clear hb); (try clear hb2); (try clear hk); (try clear hi)))
    go_ret
    exact ⟨by first | rfl | (simp [errW_none, errW_some] <;> rfl) | (simp [*, errW_none, errW_some] <;> rfl), by repeat (first | (with_reducible first | exact HB.out | apply below_alloc | apply pw_below_drewN | apply below_drew1) | exact HB.out)⟩
  · rw [if_neg c2] at H
    have c2b0 : decide ((a0.size : Int) ≤ 60) = false := decide_eq_false c2
    have c2b1 : decide (a0.size ≤ 60) = false := decide_eq_false (by omega)
    clear c2
    obtain rfl := Option.some.inj H
    go_enter Tryd.func106, Tryd.ntmps106
    go_wp2
    go_ret
    exact ⟨by first | rfl | (simp [errW_none, errW_some] <;> rfl) | (simp [*, errW_none, errW_some] <;> rfl), by repeat (first | (with_reducible first | exact HB.out | apply below_alloc | apply pw_below_drewN | apply below_drew1) | exact HB.out)⟩
end Go.Proofs.YtibfocaldcjiiaaDoor.Q
namespace Go.Proofs.YtibfocaldcjiiaaDoor.Q
open Go.RowKit Go.Proofs.YtibfocaldcjiiaaDoorW.PrintWords Go.Proofs.YtibfocaldcjiiaaDoorW.PrintLast Go.Proofs.YtibfocaldcjiiaaDoorW.PrintMore
attribute [local go_sem] max2_int min2_int max_two min_two max_three min_three max_four min_four   -- for this text's walks alone
set_option linter.unusedVariables false
set_option linter.unusedSimpArgs false
def impl_isWhole.f (a0 : ByteArray) : Option (Bool) := (impl_GoodPath.f a0).bind fun t104 => (if t104 = true then (if 0 < (a0.size : Int) then (some ((bt a0 0) == 47)) else (none)) else (some false))
set_option maxHeartbeats 8000000 in
set_option maxRecDepth 100000 in
theorem impl_isWhole.calls (a0 : ByteArray) (r : Bool) (w : World) (h : impl_isWhole.f a0 = some r) :
    Calls Tryd.prog 79 #[.string a0] w fun e w' => e = .returned (.bool r) ∧ Below w.heap.size w w' := by
  have HB := Aside0.mk (Below.refl w.heap.size w)
  have H : ((impl_GoodPath.f a0).bind fun t104 => (if t104 = true then (if 0 < (a0.size : Int) then (some ((bt a0 0) == 47)) else (none)) else (some false))) = some r := h
  clear h
  replace H := Option.bind_eq_some_iff.mp H
  obtain ⟨t104, A20, H⟩ := H
  replace H : (if t104 = true then (if 0 < (a0.size : Int) then (some ((bt a0 0) == 47)) else (none)) else (some false)) = some r := H
  have A2 := Aside0.mk A20
  clear A20
  by_cases c3 : t104 = true
  · subst c3
    have H1 : (if 0 < (a0.size : Int) then (some ((bt a0 0) == 47)) else (none)) = some r := by rw [if_pos rfl] at H; exact H
    clear H
    have H := H1
    clear H1
    by_cases c4 : 0 < (a0.size : Int)
    · rw [if_pos c4] at H
      have c4b0 : decide (0 < (a0.size : Int)) = true := decide_eq_true c4
      have c4b1 : decide (0 < a0.size) = true := decide_eq_true (by omega)
      clear c4
      obtain rfl := Option.some.inj H
      go_enter Tryd.func79, Tryd.ntmps79
      go_wp2_with (first | ((with_reducible refine gate_callee (f := 106) rfl ?_); refine goesL_ (some 4) rfl rfl Tryd.func106 (by kernel_rfl) rfl #[.string a0] rfl (by (try simp only [List.map_toArray, List.map_cons, List.map_nil]); first | done | rfl | (simp only [List.length_drop, List.length_take]; rfl)) ?_; (with_reducible refine (impl_GoodPath.calls a0 true _ A2.out).mono ?_); rintro e w6 ⟨rfl, hb⟩; refine ⟨_, rfl, ?_⟩; have n0_ := Aside0.mk (below_step (by repeat (first | (with_reducible first | exact HB.out | apply below_alloc | apply pw_below_drewN | apply below_drew1) | exact HB.out)) hb); clear HB; have HB := n0_; clear n0_; (try clear hb); (try clear hb2); (try clear hk); (try clear hi); have p5 : 0 ≤ (0 : Int) := (by omega); have q5 : 0 < a0.size := (by have : (0 : Int) < (a0.size : Int) := of_decide_eq_true (by first | (with_reducible assumption) | assumption); omega); have hx5 : ∀ h : 0 < a0.size, ((a0[0]'h).toNat : Int) = bt a0 0 := bt_at a0 0; clear p5; have qi5 : (0 < (a0.size : Int)) = True := eq_true (of_decide_eq_true (by first | (with_reducible assumption) | assumption)); replace q5 := eq_true q5))
      go_ret
      exact ⟨by first | rfl | (simp [errW_none, errW_some] <;> rfl) | (simp [*, errW_none, errW_some] <;> rfl), by repeat (first | (with_reducible first | exact HB.out | apply below_alloc | apply pw_below_drewN | apply below_drew1) | exact HB.out)⟩
    · rw [if_neg c4] at H
      exact absurd H (by simp)
  · replace c3 := Bool.eq_false_iff.mpr c3
    subst c3
    have H1 : (some false) = some r := by rw [if_neg (show ¬ (false = true) by decide)] at H; exact H
    clear H
    have H := H1
    clear H1
    obtain rfl := Option.some.inj H
    go_enter Tryd.func79, Tryd.ntmps79
    go_wp2_with (first | ((with_reducible refine gate_callee (f := 106) rfl ?_); refine goesL_ (some 4) rfl rfl Tryd.func106 (by kernel_rfl) rfl #[.string a0] rfl (by (try simp only [List.map_toArray, List.map_cons, List.map_nil]); first | done | rfl | (simp only [List.length_drop, List.length_take]; rfl)) ?_; (with_reducible refine (impl_GoodPath.calls a0 false _ A2.out).mono ?_); rintro e w7 ⟨rfl, hb⟩; refine ⟨_, rfl, ?_⟩; have n0_ := Aside0.mk (below_step (by repeat (first | (with_reducible first | exact HB.out | apply below_alloc | apply pw_below_drewN | apply below_drew1) | exact HB.out)) hb); clear HB; have HB := n0_; clear n0_; (try clear hb); (try clear hb2); (try clear hk); (try clear hi)))
    go_ret
    exact ⟨by first | rfl | (simp [errW_none, errW_some] <;> rfl) | (simp [*, errW_none, errW_some] <;> rfl), by repeat (first | (with_reducible first | exact HB.out | apply below_alloc | apply pw_below_drewN | apply below_drew1) | exact HB.out)⟩
end Go.Proofs.YtibfocaldcjiiaaDoor.Q
namespace Go.Proofs.YtibfocaldcjiiaaDoor.Q
open Go.RowKit Go.Proofs.YtibfocaldcjiiaaDoorW.PrintWords Go.Proofs.YtibfocaldcjiiaaDoorW.PrintLast Go.Proofs.YtibfocaldcjiiaaDoorW.PrintMore
attribute [local go_sem] max2_int min2_int max_two min_two max_three min_three max_four min_four   -- for this text's walks alone
set_option linter.unusedVariables false
set_option linter.unusedSimpArgs false
theorem step_n {i n : Nat} (h : i < n) (hn : n ≤ 4611686018427387904) : wrap64 ((i : Int) + 1) = ((i + 1 : Nat) : Int) := by
  unfold wrap64; omega
def spl (c : UInt8) : List UInt8 → List (List UInt8)
  | [] => [[]]
  | b :: l => if b = c then [] :: spl c l else match spl c l with
    | [] => [[b]]
    | h :: t => (b :: h) :: t
def glue (p : List UInt8) : List (List UInt8) → List (List UInt8)
  | [] => [p]
  | h :: t => (p ++ h) :: t
theorem spl_ne (c : UInt8) (l : List UInt8) : spl c l ≠ [] := by
  cases l with
  | nil => simp [spl]
  | cons b l =>
    simp only [spl]
    split
    · simp
    · split <;> simp
theorem glue_nil (c : UInt8) (l : List UInt8) : glue [] (spl c l) = spl c l := by
  cases h : spl c l with
  | nil => exact absurd h (spl_ne c l)
  | cons a t => rfl
theorem glue_eq (c : UInt8) (p l : List UInt8) : glue p (spl c (c :: l)) = p :: spl c l := by simp [spl, glue]
theorem glue_cons (c b : UInt8) (p l : List UInt8) (h : b ≠ c) : glue p (spl c (b :: l)) = glue (p ++ [b]) (spl c l) := by
  simp only [spl, if_neg h]
  cases h2 : spl c l with
  | nil => exact absurd h2 (spl_ne c l)
  | cons a t => simp [glue]
theorem splitK_cons_ne (b c : UInt8) (h : b ≠ c) : ∀ (k : Nat) (l : List UInt8), Lib.splitK [c] 0 k (b :: l) = glue [b] (Lib.splitK [c] 0 k l)
  | 0, l => rfl
  | k + 1, l => by
    have hix : Lib.index (b :: l) [c] = if Lib.index l [c] == -1 then -1 else Lib.index l [c] + 1 := by
      rw [Lib.index_one, Lib.index_one, Lib.indexByte, if_neg (by simpa using h)]
    by_cases hm : Lib.index l [c] = -1
    · have h1 : Lib.index (b :: l) [c] = -1 := by rw [hix, if_pos (by simp [hm])]
      simp only [Lib.splitK, h1, hm]
      rfl
    · have hge := Lib.indexByte_ge l c
      rw [← Lib.index_one] at hge
      have h1 : Lib.index (b :: l) [c] = Lib.index l [c] + 1 := by rw [hix, if_neg (by simpa using hm)]
      have n1 : (Lib.index (b :: l) [c] == -1) = false := by rw [h1]; simp; omega
      have n2 : (Lib.index l [c] == -1) = false := by simpa using hm
      simp only [Lib.splitK, n1, n2, Bool.false_eq_true, if_false, glue, Nat.add_zero]
      have e : (Lib.index (b :: l) [c]).toNat = (Lib.index l [c]).toNat + 1 := by rw [h1]; omega
      rw [e]
      have e2 : (Lib.index l [c]).toNat + 1 + [c].length = ((Lib.index l [c]).toNat + [c].length) + 1 := by omega
      rw [e2, List.take_succ_cons, List.drop_succ_cons]
      rfl
theorem splitK_spl (c : UInt8) : ∀ l : List UInt8, Lib.splitK [c] 0 (Lib.count l [c]) l = spl c l
  | [] => by rw [Lib.count_one]; rfl
  | b :: l => by
    by_cases h : b = c
    · subst h
      rw [Lib.count_cons_eq, Nat.add_comm, Lib.splitK]
      have h0 : Lib.index (b :: l) [b] = 0 := by rw [Lib.index_one, Lib.indexByte, if_pos (by simp)]
      rw [h0]
      simp only [spl, if_true]
      rw [if_neg (by decide)]
      simp only [Int.toNat_zero, Nat.add_zero, List.take_zero, Nat.zero_add]
      rw [show (b :: l).drop [b].length = l from rfl, splitK_spl b l]
    · rw [Lib.count_cons_ne b c l h, splitK_cons_ne b c h, splitK_spl c l]
      simp only [spl, if_neg h]
      cases spl c l <;> rfl
theorem splitB_spl (c : UInt8) (s : ByteArray) : (Lib.splitB ⟨#[c]⟩ 0 (Lib.countB s ⟨#[c]⟩) s).map (·.data.toList) = spl c s.data.toList := by
  rw [Lib.splitB_data]
  exact splitK_spl c s.data.toList
theorem map_data_inj : ∀ {a b : List ByteArray}, a.map (·.data.toList) = b.map (·.data.toList) → a = b
  | [], [], _ => rfl
  | [], _ :: _, h => by simp at h
  | _ :: _, [], h => by simp at h
  | x :: a, y :: b, h => by
    simp only [List.map_cons, List.cons.injEq] at h
    rw [Go.WideShapes.bytes_inj h.1, map_data_inj h.2]
def segs (s : ByteArray) (c : Int) : Nat → Nat → Nat → List ByteArray
  | 0, fr, _ => [s.extract fr s.size]
  | d + 1, fr, i => if bt s i = c then s.extract fr i :: segs s c d (i + 1) (i + 1) else segs s c d fr (i + 1)
theorem segs_len (s : ByteArray) (c : Int) : ∀ d fr i, (segs s c d fr i).length ≤ d + 1
  | 0, _, _ => by simp [segs]
  | d + 1, fr, i => by
    simp only [segs]
    split
    · have := segs_len s c d (i + 1) (i + 1); simp; omega
    · have := segs_len s c d fr (i + 1); omega
theorem bt_data (s : ByteArray) (i : Nat) (h : i < s.size) : bt s (i : Int) = ((s.data.toList[i]'(by rw [data_length]; exact h)).toNat : Int) := by
  unfold bt
  rw [dif_pos (by simpa using h)]
  rfl
theorem extract_list (s : ByteArray) (a b : Nat) : (s.extract a b).data.toList = (s.data.toList.take b).drop a := by
  rw [Lib.extract_data]
  simp [List.drop_take]
theorem segs_spl (s : ByteArray) (c : UInt8) : ∀ d fr i, i + d = s.size → fr ≤ i → (segs s (c.toNat : Int) d fr i).map (·.data.toList) = glue ((s.data.toList.take i).drop fr) (spl c (s.data.toList.drop i))
  | 0, fr, i, h, hf => by
    have hl := data_length s
    have e1 : s.data.toList.drop i = [] := List.drop_of_length_le (by omega)
    have e2 : s.data.toList.take i = s.data.toList := List.take_of_length_le (by omega)
    rw [e1, e2]
    simp only [segs, List.map_cons, List.map_nil, spl, glue, List.append_nil]
    rw [extract_list, List.take_of_length_le (by omega)]
  | d + 1, fr, i, h, hf => by
    have hl := data_length s
    have hlt : i < s.data.toList.length := by omega
    rw [List.drop_eq_getElem_cons hlt]
    simp only [segs]
    rw [bt_data s i (by omega)]
    by_cases hc : s.data.toList[i] = c
    · rw [if_pos (by rw [hc]), hc, glue_eq, List.map_cons, segs_spl s c d (i + 1) (i + 1) (by omega) (Nat.le_refl _), extract_list]
      have : (s.data.toList.take (i + 1)).drop (i + 1) = [] := List.drop_of_length_le (by rw [List.length_take]; omega)
      rw [this, glue_nil]
    · rw [if_neg (fun e => hc (UInt8.toNat_inj.mp (by omega))), glue_cons c _ _ _ hc, segs_spl s c d fr (i + 1) (by omega) (by omega)]
      have : (s.data.toList.take (i + 1)).drop fr = (s.data.toList.take i).drop fr ++ [s.data.toList[i]] := by
        rw [List.take_succ_eq_append_getElem hlt, List.drop_append_of_le_length (by rw [List.length_take]; omega)]
      rw [this]
theorem segs_split (s : ByteArray) (c : UInt8) : segs s (c.toNat : Int) s.size 0 0 = Lib.splitB ⟨#[c]⟩ 0 (Lib.countB s ⟨#[c]⟩) s := by
  apply map_data_inj
  rw [splitB_spl, segs_spl s c s.size 0 0 (by omega) (Nat.le_refl _)]
  simp [glue_nil]
theorem l1Split_loop (s : ByteArray) (c : Int) (hs : s.size < 4294967281) (d : Nat) : ∀ (fr i : Nat) (out : List ByteArray), i + d = s.size → fr ≤ i → out.length ≤ i →
    Ev (fun k => spec_l1Split.l0 k s c out (fr : Int) (i : Int)) (out ++ segs s c d fr i) := by
  induction d with
  | zero =>
    intro fr i out hi hf ho
    refine Ev.step (f := fun _ => some (out ++ [s.extract fr s.size])) (fun k => ?_) (Ev.now _)
    simp only [spec_l1Split.l0]
    rw [if_neg (by omega), if_pos (by omega), if_pos (by omega), if_pos (by omega)]
    rfl
  | succ d ih =>
    intro fr i out hi hf ho
    have hw := step_n (i := i) (n := s.size) (by omega) (by omega)
    by_cases hc : bt s i = c
    · have := ih (i + 1) (i + 1) (out ++ [s.extract fr i]) (by omega) (Nat.le_refl _) (by simp; omega)
      refine Ev.step (f := fun k => spec_l1Split.l0 k s c (out ++ [s.extract fr i]) ((i + 1 : Nat) : Int) ((i + 1 : Nat) : Int)) (fun k => ?_) ?_
      · simp only [spec_l1Split.l0]
        rw [if_pos (by omega), if_pos (by omega), if_pos hc, if_pos (by omega), if_pos (by omega), if_pos (by omega), if_pos (by omega), hw]
        rfl
      · simp only [segs]
        rw [if_pos hc]
        simpa using this
    · have := ih fr (i + 1) out (by omega) (by omega) (by omega)
      refine Ev.step (f := fun k => spec_l1Split.l0 k s c out (fr : Int) ((i + 1 : Nat) : Int)) (fun k => ?_) ?_
      · simp only [spec_l1Split.l0]
        rw [if_pos (by omega), if_pos (by omega), if_neg hc, hw]
      · simp only [segs]
        rw [if_neg hc]
        exact this
theorem l1Split_ev (s : ByteArray) (c : UInt8) (hs : s.size < 4294967281) : Ev (fun k => spec_l1Split.f k s (c.toNat : Int)) (Lib.splitB ⟨#[c]⟩ 0 (Lib.countB s ⟨#[c]⟩) s) := by
  rw [← segs_split]
  exact l1Split_loop s (c.toNat : Int) hs s.size 0 0 [] (by omega) (Nat.le_refl _) (by simp)
theorem slash_ev (s : ByteArray) (hs : s.size < 4294967281) : Ev (fun k => spec_l1Split.f k s 47) (slashL s) := l1Split_ev s 47 hs
end Go.Proofs.YtibfocaldcjiiaaDoor.Q
namespace Go.Proofs.YtibfocaldcjiiaaDoor.Q
open Go.RowKit Go.Proofs.YtibfocaldcjiiaaDoorW.PrintWords Go.Proofs.YtibfocaldcjiiaaDoorW.PrintLast Go.Proofs.YtibfocaldcjiiaaDoorW.PrintMore
attribute [local go_sem] max2_int min2_int max_two min_two max_three min_three max_four min_four   -- for this text's walks alone
set_option linter.unusedVariables false
set_option linter.unusedSimpArgs false
def nameOkB (p : ByteArray) : Bool := partB p && !(p.toList == [46] || p.toList == [46, 46])
end Go.Proofs.YtibfocaldcjiiaaDoor.Q
namespace Go.Proofs.YtibfocaldcjiiaaDoor.Q
open Go.RowKit Go.Proofs.YtibfocaldcjiiaaDoorW.PrintWords Go.Proofs.YtibfocaldcjiiaaDoorW.PrintLast Go.Proofs.YtibfocaldcjiiaaDoorW.PrintMore
attribute [local go_sem] max2_int min2_int max_two min_two max_three min_three max_four min_four   -- for this text's walks alone
set_option linter.unusedVariables false
set_option linter.unusedSimpArgs false
def numB (n : Int) : ByteArray := ⟨(Lib.decDigits n.toNat).toArray⟩
theorem numB_size (n : Int) : (numB n).size = (Lib.decDigits n.toNat).length := by
  rw [← data_length]; simp [numB]
theorem dec_le : ∀ u : Nat, (Lib.decDigits u).length ≤ u + 1 := by
  intro u
  induction u using Nat.strongRecOn with
  | _ u ih =>
    rw [Lib.decDigits]
    split
    · simp
    · have := ih (u / 10) (by omega)
      simp; omega
theorem strOf_one (n : Int) (h0 : 0 ≤ n) (h1 : n < 10) : strOfNums ([(wrap64 (48 + n)) % 256] : List Int) = ⟨#[UInt8.ofNat (48 + n.toNat)]⟩ := by
  obtain ⟨i, rfl⟩ : ∃ i : Fin 10, n = (i.val : Int) := ⟨⟨n.toNat, by omega⟩, by simp; omega⟩
  revert i
  decide +kernel
theorem l1Num_ev : ∀ (u : Nat), u < 4611686018427387904 → Ev (fun k => spec_l1Num.f k (u : Int)) (numB (u : Int)) := by
  intro u
  induction u using Nat.strongRecOn with
  | _ u ih =>
    intro hu
    by_cases h : u < 10
    · refine Ev.step (f := fun _ => some (numB (u : Int))) (fun k => ?_) (Ev.now _)
      simp only [spec_l1Num.f]
      rw [if_pos (by omega), strOf_one (u : Int) (by omega) (by omega)]
      congr 1
      unfold numB
      rw [Int.toNat_natCast, Lib.decDigits, dif_pos h]
    · have ih2 := ih (u / 10) (by omega) (by omega)
      have e1 : wrap64 (Int.tdiv (u : Int) 10) = ((u / 10 : Nat) : Int) := by
        rw [Int.tdiv_eq_ediv_of_nonneg (by omega)]; unfold wrap64; omega
      have e2 : Int.tmod (u : Int) 10 = ((u % 10 : Nat) : Int) := by
        rw [Int.tmod_eq_emod_of_nonneg (by omega)]; omega
      have e3 := strOf_one ((u % 10 : Nat) : Int) (by omega) (by omega)
      rw [Int.toNat_natCast] at e3
      have hsz : (numB ((u / 10 : Nat) : Int)).size ≤ u / 10 + 1 := by rw [numB_size, Int.toNat_natCast]; exact dec_le _
      refine Ev.step (f := fun k => (spec_l1Num.f k ((u / 10 : Nat) : Int)).bind fun t465 => if t465.size + (⟨#[UInt8.ofNat (48 + u % 10)]⟩ : ByteArray).size ≤ 9223372036854775807 then some (t465 ++ ⟨#[UInt8.ofNat (48 + u % 10)]⟩) else none) (fun k => ?_) ?_
      · simp only [spec_l1Num.f]
        rw [if_neg (by omega), e1, e2]
        simp only [Option.bind_some]
        rw [e3]
      · refine Ev.bind ih2 (Ev.congr (f := fun _ => some (numB (u : Int))) (fun k => ?_) (Ev.now _))
        have : (⟨#[UInt8.ofNat (48 + u % 10)]⟩ : ByteArray).size = 1 := rfl
        rw [this, if_pos (by omega)]
        congr 1
        unfold numB
        rw [Int.toNat_natCast, Int.toNat_natCast]
        conv => rhs; rw [Lib.decDigits, dif_neg h]
        apply ByteArray.ext
        simp [ByteArray.data_append]
end Go.Proofs.YtibfocaldcjiiaaDoor.Q
