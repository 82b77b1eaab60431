/- Texts of this claim, merged by a program (wip/tools/merge.py): Q21, HIn, HNames, HSpl, Q53. -/
import Derived.Test.YthhmkbchdiflcaaGreatDoorF2
import Derived.Test.YthhmkbchdiflcaaGreatDoorF13
import Derived.Test.YthhmkbchdiflcaaGreatDoorF4
import Derived.Test.YthhmkbchdiflcaaGreatDoorF12
import Derived.Test.YthhmkbchdiflcaaGreatDoorF8
import Derived.Test.YthhmkbchdiflcaaGreatDoorF11
import Derived.Test.YthhmkbchdiflcaaGreatDoorF9
import Derived.Test.YthhmkbchdiflcaaGreatDoorF3
import Derived.Lib.SplitLaws
import Derived.WideShapes
-- Printed by a program of this session (wip/tools/myprint.py) that runs the kit's print, hand-proved functions among the others.
namespace Go.Proofs.YthhmkbchdiflcaaGreatDoor.Q
open Go.RowKit Go.Proofs.YthhmkbchdiflcaaGreatDoorW.PrintWords Go.Proofs.YthhmkbchdiflcaaGreatDoorW.PrintLast Go.Proofs.YthhmkbchdiflcaaGreatDoorW.PrintMore
attribute [local go_sem] max2_int min2_int max_two min_two max_three min_three max_four min_four   -- for this text's walks alone
set_option linter.unusedVariables false
set_option linter.unusedSimpArgs false

/-! ### impl_GoodPath: function 219 -/
def impl_GoodPath.f (a0 : ByteArray) : Option (Bool) := if (a0.size : Int) ≤ 60 then ((impl_isLong.f a0).bind fun t103 => (some t103)) else (some false)
set_option maxHeartbeats 8000000 in
set_option maxRecDepth 100000 in
theorem impl_GoodPath.calls (a0 : ByteArray) (r : Bool) (w : World) (h : impl_GoodPath.f a0 = some r) :
  Calls Tryz.prog 219 #[.string a0] w fun e w' => e = .returned (.bool r) ∧ Below w.heap.size w w' := by
 have HB := Aside0.mk (Below.refl w.heap.size w)
 have H : (if (a0.size : Int) ≤ 60 then ((impl_isLong.f a0).bind fun t103 => (some t103)) else (some false)) = some r := h
 clear h
 by_cases c2 : (a0.size : Int) ≤ 60
 ·rw [if_pos c2] at H
  have c2b0 : decide ((a0.size : Int) ≤ 60) = true := decide_eq_true c2
  have c2b1 : decide (a0.size ≤ 60) = true := decide_eq_true (by omega)
  clear c2
  replace H := Option.bind_eq_some_iff.mp H
  obtain ⟨t103, A30, H⟩ := H
  try dsimp only at H
  have A3 := Aside0.mk A30
  clear A30
  obtain rfl := Option.some.inj H
  go_enter Tryz.func219, Tryz.ntmps219
  go_wp2_with (first | (go_at_call 264; (with_reducible refine (impl_isLong.calls a0 t103 _ A3.out).mono ?_); rintro e w4 ⟨rfl, hb⟩; have n0_ := Aside0.mk (below_step (Gtr.bw HB.out) hb); clear HB; have HB := n0_; clear n0_; (try clear hb); (try clear hb2); (try clear hk); (try clear hi)))
  go_ret
  exact ⟨by first | rfl | (simp [errW_none, errW_some] <;> rfl) | (simp [*, errW_none, errW_some] <;> rfl), (Gtr.bw HB.out)⟩
 ·rw [if_neg c2] at H
  have c2b0 : decide ((a0.size : Int) ≤ 60) = false := decide_eq_false c2
  have c2b1 : decide (a0.size ≤ 60) = false := decide_eq_false (by omega)
  clear c2
  obtain rfl := Option.some.inj H
  go_enter Tryz.func219, Tryz.ntmps219
  go_wp2
  go_ret
  exact ⟨by first | rfl | (simp [errW_none, errW_some] <;> rfl) | (simp [*, errW_none, errW_some] <;> rfl), (Gtr.bw HB.out)⟩
end Go.Proofs.YthhmkbchdiflcaaGreatDoor.Q

/- A number between two others; modes, owners, times; a good path. -/
namespace Go.Proofs.YthhmkbchdiflcaaGreatDoor.Q
open Go.RowKit Go.Proofs.YthhmkbchdiflcaaGreatDoorW.PrintWords Go.Proofs.YthhmkbchdiflcaaGreatDoorW.PrintLast Go.Proofs.YthhmkbchdiflcaaGreatDoorW.PrintMore
attribute [local go_sem] max2_int min2_int max_two min_two max_three min_three max_four min_four   -- for this text's walks alone
set_option linter.unusedVariables false
set_option linter.unusedSimpArgs false

def inB (lo hi n : Int) : Bool := decide (lo ≤ n) && decide (n ≤ hi)
theorem within_f (n lo hi : Int) : impl_within.f n lo hi = some (inB lo hi n) := by
  unfold impl_within.f inB
  by_cases h : n ≥ lo
  · rw [if_pos h]; have : lo ≤ n := h; simp [this]
  · rw [if_neg h]; have : ¬ lo ≤ n := h; simp [this]
theorem isMode_f (n : Int) : impl_isMode.f n = some (inB 0 511 n) := by unfold impl_isMode.f; rw [within_f]; rfl
theorem isId_f (n : Int) : impl_isId.f n = some (inB 0 99 n) := by unfold impl_isId.f; rw [within_f]; rfl
theorem isTime_f (n : Int) : impl_isTime.f n = some (inB 0 1000000 n) := by unfold impl_isTime.f; rw [within_f]; rfl
def goodPathB (s : ByteArray) : Bool := decide (s.size ≤ 60) && longB s
theorem GoodPath_f (s : ByteArray) : impl_GoodPath.f s = some (goodPathB s) := by
  unfold impl_GoodPath.f goodPathB impl_isLong.f
  by_cases h : s.size ≤ 60
  · rw [if_pos (by omega), if_pos (by omega)]; simp [h]
  · rw [if_neg (by omega)]; simp [h]

end Go.Proofs.YthhmkbchdiflcaaGreatDoor.Q

/- impl.namesOf: the names of a way. -/
namespace Go.Proofs.YthhmkbchdiflcaaGreatDoor.Q
open Go.RowKit Go.Proofs.YthhmkbchdiflcaaGreatDoorW.PrintWords Go.Proofs.YthhmkbchdiflcaaGreatDoorW.PrintLast Go.Proofs.YthhmkbchdiflcaaGreatDoorW.PrintMore
attribute [local go_sem] max2_int min2_int max_two min_two max_three min_three max_four min_four   -- for this text's walks alone
set_option linter.unusedVariables false
set_option linter.unusedSimpArgs false

def impl_namesOf.f (s : ByteArray) : Option (List ByteArray × Bool) :=
  if s.toList = [46] then some ([], true) else if s.size < 4294967281 then some (slashL s, !(slashL s).any (fun p => !nameOkB p)) else none
theorem namesOf_pred (w : World) : PredB 149 #[] Value.string (fun p => !nameOkB p) w := by
  intro W x hb
  have HC := Aside0.mk (impl_GoodName.calls x (nameOkB x) W (GoodName_f x))
  show Calls Tryz.prog 149 #[.string x] W fun e w' => e = .returned (.bool (!nameOkB x)) ∧ Below W.heap.size W w'
  generalize nameOkB x = q at HC ⊢
  go_enter Tryz.func149, Tryz.ntmps149
  go_wp2_with (go_at_call 150; refine HC.out.mono ?_; rintro e w' ⟨rfl, hd⟩)
  go_ret
  exact ⟨rfl, hd⟩
set_option maxHeartbeats 1000000 in
theorem impl_namesOf.calls (a0 : ByteArray) (r1 : List ByteArray) (r2 : Bool) (w : World) (h : impl_namesOf.f a0 = some (r1, r2)) :
    Calls Tryz.prog 96 #[.string a0] w fun e w' => ∃ v0_ : Value, e = .returned (.tuple #[v0_, .bool r2]) ∧ Kd.R Kd.string 9 w' w.heap.size (fun _ => True) v0_ r1 ∧ Below w.heap.size w w' := by
  unfold impl_namesOf.f at h
  split at h
  · rename_i hs
    injection h with h
    injection h with h1 h2
    subst h1 h2
    go_enter Tryz.func96, Tryz.ntmps96
    go_wp2
    go_ret2
    exact ⟨_, rfl, Kd.R_nil _ _ _ _ _, Below.refl _ _⟩
  · rename_i hd
    split at h
    · rename_i hs
      injection h with h
      injection h with h1 h2
      subst h1 h2
      have hle := Lib.countB_le ⟨#[47]⟩ (by decide) a0.size a0 (Nat.le_refl _)
      have hlen := Lib.splitB_all ⟨#[47]⟩ (by decide) 0 _ a0 rfl
      have HS := Aside0.mk (split_world a0 ⟨#[47]⟩ w rfl hs)
      have hn : (slashL a0).length = Lib.countB a0 ⟨#[47]⟩ + 1 := hlen
      have hbound : (slashL a0).length ≤ 4294967282 := by omega
      change Aside0 (Calls _ _ _ _ fun e w' => e = .returned (.slice _ (slashL a0).length (slashL a0).length) ∧ w' = w.alloc (.cells ((slashL a0).map Value.string).toArray _)) at HS
      have eg : ∀ args w, (callFunc 149 args).run Tryz.prog w = .ok (.enter 149 args) w := enters_of Tryz.func149 (by kernel_rfl) rfl
      clear hle hlen hn hs
      generalize slashL a0 = l at *
      have hR := new_strings w l (by unfold maxLen; omega)
      obtain ⟨A, c, e0, hc, hC⟩ := Kd.R_reads hR
      injection e0 with e1 _ e3
      subst e1; subst e3
      have HC := Aside0.mk (containsFuncS eg (fun p => !nameOkB p) _ _ l _ (namesOf_pred _) hC hc)
      have HR := Aside0.mk hR
      have hd1 : (a0.toList == [46]) = false := by simpa using hd
      have hd2 : (a0.toList != [46]) = true := by simpa using hd
      clear eg hR hC hc hbound hd
      generalize l.any (fun p => !nameOkB p) = q at HC ⊢
      go_enter Tryz.func96, Tryz.ntmps96
      go_wp2_with (first | (go_at_call 72; refine HS.out.mono ?_; rintro e w' ⟨rfl, rfl⟩) | (go_at_call 148; refine HC.out.mono ?_; rintro e w2 ⟨rfl, hb2⟩))
      go_ret2
      exact ⟨_, rfl, Kd.R_below HR.out hb2, ((Below.refl _ _).alloc (Nat.le_refl _) _).trans (hb2.mono (by simp))⟩
    · cases h

end Go.Proofs.YthhmkbchdiflcaaGreatDoor.Q

/- Splitting at a byte, over lists: what strings.Split and the reference's own loop both come to. -/
namespace Go.Proofs.YthhmkbchdiflcaaGreatDoor.Q
open Go.RowKit Go.Proofs.YthhmkbchdiflcaaGreatDoorW.PrintWords Go.Proofs.YthhmkbchdiflcaaGreatDoorW.PrintLast Go.Proofs.YthhmkbchdiflcaaGreatDoorW.PrintMore
attribute [local go_sem] max2_int min2_int max_two min_two max_three min_three max_four min_four   -- for this text's walks alone
set_option linter.unusedVariables false
set_option linter.unusedSimpArgs false

theorem step_n {i n : Nat} (h : i < n) (hn : n ≤ 4611686018427387904) : wrap64 ((i : Int) + 1) = ((i + 1 : Nat) : Int) := by
  unfold wrap64; omega
/-- A list cut at each c. -/
def spl (c : UInt8) : List UInt8 → List (List UInt8)
  | [] => [[]]
  | b :: l => if b = c then [] :: spl c l else match spl c l with
    | [] => [[b]]
    | h :: t => (b :: h) :: t
def glue (p : List UInt8) : List (List UInt8) → List (List UInt8)
  | [] => [p]
  | h :: t => (p ++ h) :: t
theorem spl_ne (c : UInt8) (l : List UInt8) : spl c l ≠ [] := by
  cases l with
  | nil => simp [spl]
  | cons b l =>
    simp only [spl]
    split
    · simp
    · split <;> simp
theorem glue_nil (c : UInt8) (l : List UInt8) : glue [] (spl c l) = spl c l := by
  cases h : spl c l with
  | nil => exact absurd h (spl_ne c l)
  | cons a t => rfl
theorem glue_eq (c : UInt8) (p l : List UInt8) : glue p (spl c (c :: l)) = p :: spl c l := by simp [spl, glue]
theorem glue_cons (c b : UInt8) (p l : List UInt8) (h : b ≠ c) : glue p (spl c (b :: l)) = glue (p ++ [b]) (spl c l) := by
  simp only [spl, if_neg h]
  cases h2 : spl c l with
  | nil => exact absurd h2 (spl_ne c l)
  | cons a t => simp [glue]
theorem splitK_cons_ne (b c : UInt8) (h : b ≠ c) : ∀ (k : Nat) (l : List UInt8), Lib.splitK [c] 0 k (b :: l) = glue [b] (Lib.splitK [c] 0 k l)
  | 0, l => rfl
  | k + 1, l => by
    have hix : Lib.index (b :: l) [c] = if Lib.index l [c] == -1 then -1 else Lib.index l [c] + 1 := by
      rw [Lib.index_one, Lib.index_one, Lib.indexByte, if_neg (by simpa using h)]
    by_cases hm : Lib.index l [c] = -1
    · have h1 : Lib.index (b :: l) [c] = -1 := by rw [hix, if_pos (by simp [hm])]
      simp only [Lib.splitK, h1, hm]
      rfl
    · have hge := Lib.indexByte_ge l c
      rw [← Lib.index_one] at hge
      have h1 : Lib.index (b :: l) [c] = Lib.index l [c] + 1 := by rw [hix, if_neg (by simpa using hm)]
      have n1 : (Lib.index (b :: l) [c] == -1) = false := by rw [h1]; simp; omega
      have n2 : (Lib.index l [c] == -1) = false := by simpa using hm
      simp only [Lib.splitK, n1, n2, Bool.false_eq_true, if_false, glue, Nat.add_zero]
      have e : (Lib.index (b :: l) [c]).toNat = (Lib.index l [c]).toNat + 1 := by rw [h1]; omega
      rw [e]
      have e2 : (Lib.index l [c]).toNat + 1 + [c].length = ((Lib.index l [c]).toNat + [c].length) + 1 := by omega
      rw [e2, List.take_succ_cons, List.drop_succ_cons]
      rfl
theorem splitK_spl (c : UInt8) : ∀ l : List UInt8, Lib.splitK [c] 0 (Lib.count l [c]) l = spl c l
  | [] => by rw [Lib.count_one]; rfl
  | b :: l => by
    by_cases h : b = c
    · subst h
      rw [Lib.count_cons_eq, Nat.add_comm, Lib.splitK]
      have h0 : Lib.index (b :: l) [b] = 0 := by rw [Lib.index_one, Lib.indexByte, if_pos (by simp)]
      rw [h0]
      simp only [spl, if_true]
      rw [if_neg (by decide)]
      simp only [Int.toNat_zero, Nat.add_zero, List.take_zero, Nat.zero_add]
      rw [show (b :: l).drop [b].length = l from rfl, splitK_spl b l]
    · rw [Lib.count_cons_ne b c l h, splitK_cons_ne b c h, splitK_spl c l]
      simp only [spl, if_neg h]
      cases spl c l <;> rfl
theorem splitB_spl (c : UInt8) (s : ByteArray) : (Lib.splitB ⟨#[c]⟩ 0 (Lib.countB s ⟨#[c]⟩) s).map (·.data.toList) = spl c s.data.toList := by
  rw [Lib.splitB_data]
  exact splitK_spl c s.data.toList
theorem map_data_inj : ∀ {a b : List ByteArray}, a.map (·.data.toList) = b.map (·.data.toList) → a = b
  | [], [], _ => rfl
  | [], _ :: _, h => by simp at h
  | _ :: _, [], h => by simp at h
  | x :: a, y :: b, h => by
    simp only [List.map_cons, List.cons.injEq] at h
    rw [Go.WideShapes.bytes_inj h.1, map_data_inj h.2]
/-- The reference's loop. -/
def segs (s : ByteArray) (c : Int) : Nat → Nat → Nat → List ByteArray
  | 0, fr, _ => [s.extract fr s.size]
  | d + 1, fr, i => if bt s i = c then s.extract fr i :: segs s c d (i + 1) (i + 1) else segs s c d fr (i + 1)
theorem segs_len (s : ByteArray) (c : Int) : ∀ d fr i, (segs s c d fr i).length ≤ d + 1
  | 0, _, _ => by simp [segs]
  | d + 1, fr, i => by
    simp only [segs]
    split
    · have := segs_len s c d (i + 1) (i + 1); simp; omega
    · have := segs_len s c d fr (i + 1); omega
theorem bt_data (s : ByteArray) (i : Nat) (h : i < s.size) : bt s (i : Int) = ((s.data.toList[i]'(by rw [data_length]; exact h)).toNat : Int) := by
  unfold bt
  rw [dif_pos (by simpa using h)]
  rfl
theorem extract_list (s : ByteArray) (a b : Nat) : (s.extract a b).data.toList = (s.data.toList.take b).drop a := by
  rw [Lib.extract_data]
  simp [List.drop_take]
theorem segs_spl (s : ByteArray) (c : UInt8) : ∀ d fr i, i + d = s.size → fr ≤ i → (segs s (c.toNat : Int) d fr i).map (·.data.toList) = glue ((s.data.toList.take i).drop fr) (spl c (s.data.toList.drop i))
  | 0, fr, i, h, hf => by
    have hl := data_length s
    have e1 : s.data.toList.drop i = [] := List.drop_of_length_le (by omega)
    have e2 : s.data.toList.take i = s.data.toList := List.take_of_length_le (by omega)
    rw [e1, e2]
    simp only [segs, List.map_cons, List.map_nil, spl, glue, List.append_nil]
    rw [extract_list, List.take_of_length_le (by omega)]
  | d + 1, fr, i, h, hf => by
    have hl := data_length s
    have hlt : i < s.data.toList.length := by omega
    rw [List.drop_eq_getElem_cons hlt]
    simp only [segs]
    rw [bt_data s i (by omega)]
    by_cases hc : s.data.toList[i] = c
    · rw [if_pos (by rw [hc]), hc, glue_eq, List.map_cons, segs_spl s c d (i + 1) (i + 1) (by omega) (Nat.le_refl _), extract_list]
      have : (s.data.toList.take (i + 1)).drop (i + 1) = [] := List.drop_of_length_le (by rw [List.length_take]; omega)
      rw [this, glue_nil]
    · rw [if_neg (fun e => hc (UInt8.toNat_inj.mp (by omega))), glue_cons c _ _ _ hc, segs_spl s c d fr (i + 1) (by omega) (by omega)]
      have : (s.data.toList.take (i + 1)).drop fr = (s.data.toList.take i).drop fr ++ [s.data.toList[i]] := by
        rw [List.take_succ_eq_append_getElem hlt, List.drop_append_of_le_length (by rw [List.length_take]; omega)]
      rw [this]
theorem segs_split (s : ByteArray) (c : UInt8) : segs s (c.toNat : Int) s.size 0 0 = Lib.splitB ⟨#[c]⟩ 0 (Lib.countB s ⟨#[c]⟩) s := by
  apply map_data_inj
  rw [splitB_spl, segs_spl s c s.size 0 0 (by omega) (Nat.le_refl _)]
  simp [glue_nil]
theorem l1Split_loop (s : ByteArray) (c : Int) (hs : s.size < 4294967281) (d : Nat) : ∀ (fr i : Nat) (out : List ByteArray), i + d = s.size → fr ≤ i → out.length ≤ i →
    Ev (fun k => spec_l1Split.l0 k s c out (fr : Int) (i : Int)) (out ++ segs s c d fr i) := by
  induction d with
  | zero =>
    intro fr i out hi hf ho
    refine Ev.step (f := fun _ => some (out ++ [s.extract fr s.size])) (fun k => ?_) (Ev.now _)
    simp only [spec_l1Split.l0]
    rw [if_neg (by omega), if_pos (by omega), if_pos (by omega), if_pos (by omega)]
    rfl
  | succ d ih =>
    intro fr i out hi hf ho
    have hw := step_n (i := i) (n := s.size) (by omega) (by omega)
    by_cases hc : bt s i = c
    · have := ih (i + 1) (i + 1) (out ++ [s.extract fr i]) (by omega) (Nat.le_refl _) (by simp; omega)
      refine Ev.step (f := fun k => spec_l1Split.l0 k s c (out ++ [s.extract fr i]) ((i + 1 : Nat) : Int) ((i + 1 : Nat) : Int)) (fun k => ?_) ?_
      · simp only [spec_l1Split.l0]
        rw [if_pos (by omega), if_pos (by omega), if_pos hc, if_pos (by omega), if_pos (by omega), if_pos (by omega), if_pos (by omega), hw]
        rfl
      · simp only [segs]
        rw [if_pos hc]
        simpa using this
    · have := ih fr (i + 1) out (by omega) (by omega) (by omega)
      refine Ev.step (f := fun k => spec_l1Split.l0 k s c out (fr : Int) ((i + 1 : Nat) : Int)) (fun k => ?_) ?_
      · simp only [spec_l1Split.l0]
        rw [if_pos (by omega), if_pos (by omega), if_neg hc, hw]
      · simp only [segs]
        rw [if_neg hc]
        exact this
theorem l1Split_ev (s : ByteArray) (c : UInt8) (hs : s.size < 4294967281) : Ev (fun k => spec_l1Split.f k s (c.toNat : Int)) (Lib.splitB ⟨#[c]⟩ 0 (Lib.countB s ⟨#[c]⟩) s) := by
  rw [← segs_split]
  exact l1Split_loop s (c.toNat : Int) hs s.size 0 0 [] (by omega) (Nat.le_refl _) (by simp)
theorem slash_ev (s : ByteArray) (hs : s.size < 4294967281) : Ev (fun k => spec_l1Split.f k s 47) (slashL s) := l1Split_ev s 47 hs

end Go.Proofs.YthhmkbchdiflcaaGreatDoor.Q

-- Printed by a program of this session (wip/tools/myprint.py) that runs the kit's print, hand-proved functions among the others.
namespace Go.Proofs.YthhmkbchdiflcaaGreatDoor.Q
open Go.RowKit Go.Proofs.YthhmkbchdiflcaaGreatDoorW.PrintWords Go.Proofs.YthhmkbchdiflcaaGreatDoorW.PrintLast Go.Proofs.YthhmkbchdiflcaaGreatDoorW.PrintMore
attribute [local go_sem] max2_int min2_int max_two min_two max_three min_three max_four min_four   -- for this text's walks alone
set_option linter.unusedVariables false
set_option linter.unusedSimpArgs false

/-! ### impl_compareWays: function 92 -/
def impl_compareWays.f (k : Nat) (a0 : ByteArray) (a1 : ByteArray) : Option (Int) := (impl_namesOf.f a0).bind fun bt317 => ((impl_namesOf.f a1).bind fun bt321 => ((slices_Compare_string_string.f k bt317.1 bt321.1).bind fun t325 => (some t325)))
set_option maxHeartbeats 8000000 in
set_option maxRecDepth 100000 in
theorem impl_compareWays.calls (k : Nat) (a0 : ByteArray) (a1 : ByteArray) (r : Int) (w : World) (h : impl_compareWays.f k a0 a1 = some r) :
  Calls Tryz.prog 92 #[.string a0, .string a1] w fun e w' => e = .returned (.int .i64 r) ∧ Below w.heap.size w w' := by
 have HB := Aside0.mk (Below.refl w.heap.size w)
 have H : ((impl_namesOf.f a0).bind fun bt317 => ((impl_namesOf.f a1).bind fun bt321 => ((slices_Compare_string_string.f k bt317.1 bt321.1).bind fun t325 => (some t325)))) = some r := h
 clear h
 replace H := Option.bind_eq_some_iff.mp H
 obtain ⟨⟨t317, t318⟩, A30, H⟩ := H
 try dsimp only at H
 have A3 := Aside0.mk A30
 clear A30
 replace H := Option.bind_eq_some_iff.mp H
 obtain ⟨⟨t321, t322⟩, A40, H⟩ := H
 try dsimp only at H
 have A4 := Aside0.mk A40
 clear A40
 replace H := Option.bind_eq_some_iff.mp H
 obtain ⟨t325, A50, H⟩ := H
 try dsimp only at H
 have A5 := Aside0.mk A50
 clear A50
 obtain rfl := Option.some.inj H
 go_enter Tryz.func92, Tryz.ntmps92
 go_wp2_with (first | ((with_reducible refine gate_callee (f := 96) rfl ?_); refine goesL_ (some 11) rfl rfl Tryz.func96 (by kernel_rfl) rfl #[.string a0] rfl (by (try simp only [List.map_toArray, List.map_cons, List.map_nil]); first | done | rfl | (simp only [List.length_drop, List.length_take]; rfl)) ?_; (with_reducible refine (impl_namesOf.calls a0 t317 t318 _ A3.out).mono ?_); rintro e w6 ⟨v319, rfl, ho0, hb⟩; refine ⟨_, rfl, ?_⟩; have n0_ := Aside0.mk (Kd.R_lower ho0 (below_size (Gtr.bw HB.out))); have n1_ := Aside0.mk (below_step (Gtr.bw HB.out) hb); clear HB; have HO320 := n0_; have HB := n1_; clear n0_ n1_; (try clear hb); (try clear hb2); (try clear hk); (try clear hi); (try clear ho0)) | ((with_reducible refine gate_callee (f := 96) rfl ?_); refine goesL_ (some 16) rfl rfl Tryz.func96 (by kernel_rfl) rfl #[.string a1] rfl (by (try simp only [List.map_toArray, List.map_cons, List.map_nil]); first | done | rfl | (simp only [List.length_drop, List.length_take]; rfl)) ?_; (with_reducible refine (impl_namesOf.calls a1 t321 t322 _ A4.out).mono ?_); rintro e w7 ⟨v323, rfl, ho0, hb⟩; refine ⟨_, rfl, ?_⟩; have n0_ := Aside0.mk (Kd.R_elder' (by (with_reducible repeat (first | apply Kd.R_alloc | apply Kd.R_drewN | apply Kd.R_drew)); exact HO320.out) (Kd.R_base ho0) hb); have n1_ := Aside0.mk (Kd.R_lower (Kd.R_new' ho0 (Kd.R_lt (by (with_reducible repeat (first | apply Kd.R_alloc | apply Kd.R_drewN | apply Kd.R_drew)); exact HO320.out))) (below_size (Gtr.bw HB.out))); have n2_ := Aside0.mk (below_step (Gtr.bw HB.out) hb); clear HO320; clear HB; have HO320 := n0_; have HO324 := n1_; have HB := n2_; clear n0_ n1_ n2_; (try clear hb); (try clear hb2); (try clear hk); (try clear hi); (try clear ho0); obtain ⟨Ao8, co8, eo8⟩ := Kd.R_slice HO320.out; subst eo8; obtain ⟨Ao9, co9, eo9⟩ := Kd.R_slice HO324.out; subst eo9) | ((with_reducible refine gate_callee (f := 145) rfl ?_); refine goesL_ (some 21) rfl rfl Tryz.func145 (by kernel_rfl) rfl #[.slice Ao8 t317.length co8, .slice Ao9 t321.length co9] rfl (by (try simp only [List.map_toArray, List.map_cons, List.map_nil]); first | done | rfl | (simp only [List.length_drop, List.length_take]; rfl)) ?_; (with_reducible refine (slices_Compare_string_string.calls k _ _ t317 _ _ t321 t325 _ ?side1 ?side2 ?side3 ?side4 A5.out).mono ?_); (case side1 => repeat (first | exact (Kd.R_reads' HO320.out).2.2 | (with_reducible refine Kd.C_alloc ?_ _) | (with_reducible refine Kd.C_drewN ?_ _) | (with_reducible refine Kd.C_drew ?_))); (case side2 => exact (Kd.R_reads' HO320.out).2.1); (case side3 => repeat (first | exact (Kd.R_reads' HO324.out).2.2 | (with_reducible refine Kd.C_alloc ?_ _) | (with_reducible refine Kd.C_drewN ?_ _) | (with_reducible refine Kd.C_drew ?_))); (case side4 => exact (Kd.R_reads' HO324.out).2.1); rintro e w' ⟨rfl, ⟨nd, rfl⟩⟩; refine ⟨_, rfl, ?_⟩))
 go_ret
 exact ⟨by first | rfl | (simp [errW_none, errW_some] <;> rfl) | (simp [*, errW_none, errW_some] <;> rfl), (Gtr.bw HB.out)⟩
end Go.Proofs.YthhmkbchdiflcaaGreatDoor.Q
