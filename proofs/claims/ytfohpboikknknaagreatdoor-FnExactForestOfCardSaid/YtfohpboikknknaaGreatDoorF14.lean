/- Texts of this claim, merged by a program (wip/tools/merge.py): Q20, HIn, HFsDef, HSpl, HPathsEv, HEntries, Q38, HMet, HNodeAt, HFsPure, HParent, HLinks, HFsGood. -/
import Derived.Test.YtfohpboikknknaaGreatDoorF2
import Derived.Test.YtfohpboikknknaaGreatDoorF13
import Derived.Test.YtfohpboikknknaaGreatDoorF3
import Derived.Test.YtfohpboikknknaaGreatDoorF10
import Derived.Test.YtfohpboikknknaaGreatDoorF12
import Derived.Lib.SplitLaws
import Derived.WideShapes
import Derived.Test.YtfohpboikknknaaGreatDoorF9
import Derived.Outline
import Derived.BigQuiet
import Derived.Deep.QuietTactic
import Derived.Test.YtfohpboikknknaaGreatDoorF4
namespace Go.Proofs.YtfohpboikknknaaGreatDoor.Q
open Go.RowKit Go.Proofs.YtfohpboikknknaaGreatDoorW.PrintWords Go.Proofs.YtfohpboikknknaaGreatDoorW.PrintLast Go.Proofs.YtfohpboikknknaaGreatDoorW.PrintMore
attribute [local go_sem] max2_int min2_int max_two min_two max_three min_three max_four min_four
set_option linter.unusedVariables false
set_option linter.unusedSimpArgs false
def impl_GoodPath.f (a0 : ByteArray) : Option (Bool) := if (a0.size : Int) ≤ 60 then ((impl_isLong.f a0).bind fun t103 => (some t103)) else (some false)
set_option maxHeartbeats 8000000 in
set_option maxRecDepth 100000 in
theorem impl_GoodPath.calls (a0 : ByteArray) (r : Bool) (w : World) (h : impl_GoodPath.f a0 = some r) :
  Calls Tryz.prog 62 #[.string a0] w fun e w' => e = .returned (.bool r) ∧ Below w.heap.size w w' := by
 have HB := Aside0.mk (Below.refl w.heap.size w)
 have H : (if (a0.size : Int) ≤ 60 then ((impl_isLong.f a0).bind fun t103 => (some t103)) else (some false)) = some r := h
 clear h
 by_cases c2 : (a0.size : Int) ≤ 60
 ·rw [if_pos c2] at H
  have c2b0 : decide ((a0.size : Int) ≤ 60) = true := decide_eq_true c2
  have c2b1 : decide (a0.size ≤ 60) = true := decide_eq_true (by omega)
  clear c2
  replace H := Option.bind_eq_some_iff.mp H
  obtain ⟨t103, A30, H⟩ := H
  try dsimp only at H
  have A3 := Aside0.mk A30
  clear A30
  obtain rfl := Option.some.inj H
  go_enter Tryz.func62, Tryz.ntmps62
  go_wp2_with (first | (go_at_call 104; (with_reducible refine (impl_isLong.calls a0 t103 _ A3.out).mono ?_); rintro e w4 ⟨rfl, hb⟩; replace HB := Aside0.mk (below_step (Gtr.bw HB.out) hb); (try clear hb); (try clear hb2); (try clear hk); (try clear hi)))
  go_ret
  exact ⟨Gtr.fe, (Gtr.bw HB.out)⟩
 ·rw [if_neg c2] at H
  have c2b0 : decide ((a0.size : Int) ≤ 60) = false := decide_eq_false c2
  have c2b1 : decide (a0.size ≤ 60) = false := decide_eq_false (by omega)
  clear c2
  obtain rfl := Option.some.inj H
  go_enter Tryz.func62, Tryz.ntmps62
  go_wp2
  go_ret
  exact ⟨Gtr.fe, (Gtr.bw HB.out)⟩
def inB (lo hi n : Int) : Bool := decide (lo ≤ n) && decide (n ≤ hi)
theorem within_f (n lo hi : Int) : impl_within.f n lo hi = some (inB lo hi n) := by
  unfold impl_within.f inB
  by_cases h : n ≥ lo
  · rw [if_pos h]; have : lo ≤ n := h; simp [this]
  · rw [if_neg h]; have : ¬ lo ≤ n := h; simp [this]
theorem isMode_f (n : Int) : impl_isMode.f n = some (inB 0 511 n) := by unfold impl_isMode.f; rw [within_f]; rfl
theorem isId_f (n : Int) : impl_isId.f n = some (inB 0 99 n) := by unfold impl_isId.f; rw [within_f]; rfl
theorem isTime_f (n : Int) : impl_isTime.f n = some (inB 0 1000000 n) := by unfold impl_isTime.f; rw [within_f]; rfl
def goodPathB (s : ByteArray) : Bool := decide (s.size ≤ 60) && longB s
theorem GoodPath_f (s : ByteArray) : impl_GoodPath.f s = some (goodPathB s) := by
  unfold impl_GoodPath.f goodPathB impl_isLong.f
  by_cases h : s.size ≤ 60
  · rw [if_pos (by omega), if_pos (by omega)]; simp [h]
  · rw [if_neg (by omega)]; simp [h]
abbrev Nd := S85
abbrev En := S144
abbrev ndR (ns : List Nd) (i : Int) : Nd := rd_T85 ns i
abbrev enR (l : List En) (i : Int) : En := rd_T144 l i
def thereB (ns : List Nd) (k : Int) : Bool := inB 0 ((ns.length : Int) - 1) k && ((ndR ns k).f0 != 0)
def upB (l : List En) (i : Nat) : Bool := (i == 0) || Op.bytesLess (enR l ((i : Int) - 1)).f0.toList (enR l (i : Int)).f0.toList
def entB (ns : List Nd) (l : List En) (i : Nat) : Bool := nameOkB (enR l (i : Int)).f0 && (upB l i && thereB ns (enR l (i : Int)).f1)
def entsB (ns : List Nd) (l : List En) : Nat → Bool
  | 0 => true
  | n + 1 => entsB ns l n && entB ns l n
def freeB (x : Nd) : Bool := (x.f0 == 0) && ((x.f1 == 0) && ((x.f2 == 0) && ((x.f3 == 0) && ((x.f4 == 0) && ((x.f5.toList == []) && (x.f6.length == 0))))))
def frontB (x : Nd) : Bool := inB 0 511 x.f1 && (inB 0 99 x.f2 && (inB 0 99 x.f3 && (inB 0 1000000 x.f4 && ((x.f0 == 2) || (x.f6.length == 0)))))
def backB (ns : List Nd) (x : Nd) : Bool :=
  if x.f0 = 1 then decide (x.f5.size ≤ 60) else if x.f0 = 3 then goodPathB x.f5 else if x.f0 = 2 then entsB ns x.f6 x.f6.length && (x.f5.toList == []) else false
def nodeB (ns : List Nd) (x : Nd) : Bool := if x.f0 = 0 then freeB x else frontB x && backB ns x
theorem isRoom_f (n : Int) : impl_isRoom.f n = some (inB 0 1000 n) := by unfold impl_isRoom.f; rw [within_f]; rfl
theorem isThere_f (ns : List Nd) (room k : Int) (hl : ns.length ≤ 4294967296) : impl_Fs_isThere.f ns room k = some (thereB ns k) := by
  unfold impl_Fs_isThere.f thereB
  rw [within_f]
  have e : wrap64 ((ns.length : Int) - 1) = (ns.length : Int) - 1 := by unfold wrap64; omega
  rw [e]
  simp only [Option.bind_some]
  cases h : inB 0 ((ns.length : Int) - 1) k
  · rfl
  · unfold inB at h
    simp only [Bool.and_eq_true, decide_eq_true_eq] at h
    rw [if_pos rfl, if_pos (by omega), if_pos (by omega)]
    rfl
theorem isFree_f (x : Nd) : impl_Node_isFree.f x.f0 x.f1 x.f2 x.f3 x.f4 x.f5 x.f6 = some (freeB x) := by
  unfold impl_Node_isFree.f freeB
  by_cases h0 : x.f0 = 0
  case neg => rw [if_neg h0, show (x.f0 == 0) = false from by simpa using h0]; rfl
  by_cases h1 : x.f1 = 0
  case neg => rw [if_pos h0, if_neg h1, show (x.f1 == 0) = false from by simpa using h1]; simp
  by_cases h2 : x.f2 = 0
  case neg => rw [if_pos h0, if_pos h1, if_neg h2, show (x.f2 == 0) = false from by simpa using h2]; simp
  by_cases h3 : x.f3 = 0
  case neg => rw [if_pos h0, if_pos h1, if_pos h2, if_neg h3, show (x.f3 == 0) = false from by simpa using h3]; simp
  by_cases h4 : x.f4 = 0
  case neg => rw [if_pos h0, if_pos h1, if_pos h2, if_pos h3, if_neg h4, show (x.f4 == 0) = false from by simpa using h4]; simp
  by_cases h5 : x.f5.toList = []
  case neg => rw [if_pos h0, if_pos h1, if_pos h2, if_pos h3, if_pos h4, if_neg h5, show (x.f5.toList == []) = false from by simpa using h5]; simp
  rw [if_pos h0, if_pos h1, if_pos h2, if_pos h3, if_pos h4, if_pos h5, h0, h1, h2, h3, h4, h5]
  simp
  rw [Bool.eq_iff_iff]; simp
theorem step_n {i n : Nat} (h : i < n) (hn : n ≤ 4611686018427387904) : wrap64 ((i : Int) + 1) = ((i + 1 : Nat) : Int) := by
  unfold wrap64; omega
def spl (c : UInt8) : List UInt8 → List (List UInt8)
  | [] => [[]]
  | b :: l => if b = c then [] :: spl c l else match spl c l with
    | [] => [[b]]
    | h :: t => (b :: h) :: t
def glue (p : List UInt8) : List (List UInt8) → List (List UInt8)
  | [] => [p]
  | h :: t => (p ++ h) :: t
theorem spl_ne (c : UInt8) (l : List UInt8) : spl c l ≠ [] := by
  cases l with
  | nil => simp [spl]
  | cons b l =>
    simp only [spl]
    split
    · simp
    · split <;> simp
theorem glue_nil (c : UInt8) (l : List UInt8) : glue [] (spl c l) = spl c l := by
  cases h : spl c l with
  | nil => exact absurd h (spl_ne c l)
  | cons a t => rfl
theorem glue_eq (c : UInt8) (p l : List UInt8) : glue p (spl c (c :: l)) = p :: spl c l := by simp [spl, glue]
theorem glue_cons (c b : UInt8) (p l : List UInt8) (h : b ≠ c) : glue p (spl c (b :: l)) = glue (p ++ [b]) (spl c l) := by
  simp only [spl, if_neg h]
  cases h2 : spl c l with
  | nil => exact absurd h2 (spl_ne c l)
  | cons a t => simp [glue]
theorem splitK_cons_ne (b c : UInt8) (h : b ≠ c) : ∀ (k : Nat) (l : List UInt8), Lib.splitK [c] 0 k (b :: l) = glue [b] (Lib.splitK [c] 0 k l)
  | 0, l => rfl
  | k + 1, l => by
    have hix : Lib.index (b :: l) [c] = if Lib.index l [c] == -1 then -1 else Lib.index l [c] + 1 := by
      rw [Lib.index_one, Lib.index_one, Lib.indexByte, if_neg (by simpa using h)]
    by_cases hm : Lib.index l [c] = -1
    · have h1 : Lib.index (b :: l) [c] = -1 := by rw [hix, if_pos (by simp [hm])]
      simp only [Lib.splitK, h1, hm]
      rfl
    · have hge := Lib.indexByte_ge l c
      rw [← Lib.index_one] at hge
      have h1 : Lib.index (b :: l) [c] = Lib.index l [c] + 1 := by rw [hix, if_neg (by simpa using hm)]
      have n1 : (Lib.index (b :: l) [c] == -1) = false := by rw [h1]; simp; omega
      have n2 : (Lib.index l [c] == -1) = false := by simpa using hm
      simp only [Lib.splitK, n1, n2, Bool.false_eq_true, if_false, glue, Nat.add_zero]
      have e : (Lib.index (b :: l) [c]).toNat = (Lib.index l [c]).toNat + 1 := by rw [h1]; omega
      rw [e]
      have e2 : (Lib.index l [c]).toNat + 1 + [c].length = ((Lib.index l [c]).toNat + [c].length) + 1 := by omega
      rw [e2, List.take_succ_cons, List.drop_succ_cons]
      rfl
theorem splitK_spl (c : UInt8) : ∀ l : List UInt8, Lib.splitK [c] 0 (Lib.count l [c]) l = spl c l
  | [] => by rw [Lib.count_one]; rfl
  | b :: l => by
    by_cases h : b = c
    · subst h
      rw [Lib.count_cons_eq, Nat.add_comm, Lib.splitK]
      have h0 : Lib.index (b :: l) [b] = 0 := by rw [Lib.index_one, Lib.indexByte, if_pos (by simp)]
      rw [h0]
      simp only [spl, if_true]
      rw [if_neg (by decide)]
      simp only [Int.toNat_zero, Nat.add_zero, List.take_zero, Nat.zero_add]
      rw [show (b :: l).drop [b].length = l from rfl, splitK_spl b l]
    · rw [Lib.count_cons_ne b c l h, splitK_cons_ne b c h, splitK_spl c l]
      simp only [spl, if_neg h]
      cases spl c l <;> rfl
theorem splitB_spl (c : UInt8) (s : ByteArray) : (Lib.splitB ⟨#[c]⟩ 0 (Lib.countB s ⟨#[c]⟩) s).map (·.data.toList) = spl c s.data.toList := by
  rw [Lib.splitB_data]
  exact splitK_spl c s.data.toList
theorem map_data_inj : ∀ {a b : List ByteArray}, a.map (·.data.toList) = b.map (·.data.toList) → a = b
  | [], [], _ => rfl
  | [], _ :: _, h => by simp at h
  | _ :: _, [], h => by simp at h
  | x :: a, y :: b, h => by
    simp only [List.map_cons, List.cons.injEq] at h
    rw [Go.WideShapes.bytes_inj h.1, map_data_inj h.2]
def segs (s : ByteArray) (c : Int) : Nat → Nat → Nat → List ByteArray
  | 0, fr, _ => [s.extract fr s.size]
  | d + 1, fr, i => if bt s i = c then s.extract fr i :: segs s c d (i + 1) (i + 1) else segs s c d fr (i + 1)
theorem segs_len (s : ByteArray) (c : Int) : ∀ d fr i, (segs s c d fr i).length ≤ d + 1
  | 0, _, _ => by simp [segs]
  | d + 1, fr, i => by
    simp only [segs]
    split
    · have := segs_len s c d (i + 1) (i + 1); simp; omega
    · have := segs_len s c d fr (i + 1); omega
theorem bt_data (s : ByteArray) (i : Nat) (h : i < s.size) : bt s (i : Int) = ((s.data.toList[i]'(by rw [data_length]; exact h)).toNat : Int) := by
  unfold bt
  rw [dif_pos (by simpa using h)]
  rfl
theorem extract_list (s : ByteArray) (a b : Nat) : (s.extract a b).data.toList = (s.data.toList.take b).drop a := by
  rw [Lib.extract_data]
  simp [List.drop_take]
theorem segs_spl (s : ByteArray) (c : UInt8) : ∀ d fr i, i + d = s.size → fr ≤ i → (segs s (c.toNat : Int) d fr i).map (·.data.toList) = glue ((s.data.toList.take i).drop fr) (spl c (s.data.toList.drop i))
  | 0, fr, i, h, hf => by
    have hl := data_length s
    have e1 : s.data.toList.drop i = [] := List.drop_of_length_le (by omega)
    have e2 : s.data.toList.take i = s.data.toList := List.take_of_length_le (by omega)
    rw [e1, e2]
    simp only [segs, List.map_cons, List.map_nil, spl, glue, List.append_nil]
    rw [extract_list, List.take_of_length_le (by omega)]
  | d + 1, fr, i, h, hf => by
    have hl := data_length s
    have hlt : i < s.data.toList.length := by omega
    rw [List.drop_eq_getElem_cons hlt]
    simp only [segs]
    rw [bt_data s i (by omega)]
    by_cases hc : s.data.toList[i] = c
    · rw [if_pos (by rw [hc]), hc, glue_eq, List.map_cons, segs_spl s c d (i + 1) (i + 1) (by omega) (Nat.le_refl _), extract_list]
      have : (s.data.toList.take (i + 1)).drop (i + 1) = [] := List.drop_of_length_le (by rw [List.length_take]; omega)
      rw [this, glue_nil]
    · rw [if_neg (fun e => hc (UInt8.toNat_inj.mp (by omega))), glue_cons c _ _ _ hc, segs_spl s c d fr (i + 1) (by omega) (by omega)]
      have : (s.data.toList.take (i + 1)).drop fr = (s.data.toList.take i).drop fr ++ [s.data.toList[i]] := by
        rw [List.take_succ_eq_append_getElem hlt, List.drop_append_of_le_length (by rw [List.length_take]; omega)]
      rw [this]
theorem segs_split (s : ByteArray) (c : UInt8) : segs s (c.toNat : Int) s.size 0 0 = Lib.splitB ⟨#[c]⟩ 0 (Lib.countB s ⟨#[c]⟩) s := by
  apply map_data_inj
  rw [splitB_spl, segs_spl s c s.size 0 0 (by omega) (Nat.le_refl _)]
  simp [glue_nil]
theorem l1Split_loop (s : ByteArray) (c : Int) (hs : s.size < 4294967281) (d : Nat) : ∀ (fr i : Nat) (out : List ByteArray), i + d = s.size → fr ≤ i → out.length ≤ i →
    Ev (fun k => spec_l1Split.l0 k s c out (fr : Int) (i : Int)) (out ++ segs s c d fr i) := by
  induction d with
  | zero =>
    intro fr i out hi hf ho
    refine Ev.step (f := fun _ => some (out ++ [s.extract fr s.size])) (fun k => ?_) (Ev.now _)
    simp only [spec_l1Split.l0]
    rw [if_neg (by omega), if_pos (by omega), if_pos (by omega), if_pos (by omega)]
    rfl
  | succ d ih =>
    intro fr i out hi hf ho
    have hw := step_n (i := i) (n := s.size) (by omega) (by omega)
    by_cases hc : bt s i = c
    · have := ih (i + 1) (i + 1) (out ++ [s.extract fr i]) (by omega) (Nat.le_refl _) (by simp; omega)
      refine Ev.step (f := fun k => spec_l1Split.l0 k s c (out ++ [s.extract fr i]) ((i + 1 : Nat) : Int) ((i + 1 : Nat) : Int)) (fun k => ?_) ?_
      · simp only [spec_l1Split.l0]
        rw [if_pos (by omega), if_pos (by omega), if_pos hc, if_pos (by omega), if_pos (by omega), if_pos (by omega), if_pos (by omega), hw]
        rfl
      · simp only [segs]
        rw [if_pos hc]
        simpa using this
    · have := ih fr (i + 1) out (by omega) (by omega) (by omega)
      refine Ev.step (f := fun k => spec_l1Split.l0 k s c out (fr : Int) ((i + 1 : Nat) : Int)) (fun k => ?_) ?_
      · simp only [spec_l1Split.l0]
        rw [if_pos (by omega), if_pos (by omega), if_neg hc, hw]
      · simp only [segs]
        rw [if_neg hc]
        exact this
theorem l1Split_ev (s : ByteArray) (c : UInt8) (hs : s.size < 4294967281) : Ev (fun k => spec_l1Split.f k s (c.toNat : Int)) (Lib.splitB ⟨#[c]⟩ 0 (Lib.countB s ⟨#[c]⟩) s) := by
  rw [← segs_split]
  exact l1Split_loop s (c.toNat : Int) hs s.size 0 0 [] (by omega) (Nat.le_refl _) (by simp)
theorem slash_ev (s : ByteArray) (hs : s.size < 4294967281) : Ev (fun k => spec_l1Split.f k s 47) (slashL s) := l1Split_ev s 47 hs
theorem nameB_iff (c : Int) : nameB c = true ↔ (97 ≤ c ∧ c ≤ 122) ∨ (48 ≤ c ∧ c ≤ 57) ∨ c = 46 ∨ c = 95 ∨ c = 45 := by
  unfold nameB; simp
theorem name_step {α : Type} (c : Int) (X F : α) :
    (if c < 97 then (if c < 48 then (if c = 46 then X else (if c = 95 then X else (if c = 45 then X else F))) else (if c > 57 then (if c = 46 then X else (if c = 95 then X else (if c = 45 then X else F))) else X)) else (if c > 122 then (if c < 48 then (if c = 46 then X else (if c = 95 then X else (if c = 45 then X else F))) else (if c > 57 then (if c = 46 then X else (if c = 95 then X else (if c = 45 then X else F))) else X)) else X)) = if nameB c = true then X else F := by
  by_cases h : nameB c = true
  · rw [if_pos h]
    have := (nameB_iff c).mp h
    repeat' split
    all_goals first | rfl | omega
  · rw [if_neg h]
    have := fun q => h ((nameB_iff c).mpr q)
    repeat' split
    all_goals first | rfl | (exfalso; apply this; omega)
theorem l1In_f (n lo hi : Int) : spec_l1In.f n lo hi = some (inB lo hi n) := by
  unfold spec_l1In.f inB
  by_cases h : n ≥ lo
  · rw [if_pos h]; have : lo ≤ n := h; simp [this]
  · rw [if_neg h]; have : ¬ lo ≤ n := h; simp [this]
def nameEnd (s : ByteArray) : Bool := inB 1 8 s.size && !(s.toList == [46] || s.toList == [46, 46])
theorem l2Name_loop (s : ByteArray) (hs : s.size < 4294967281) (d : Nat) : ∀ i : Nat, i + d = s.size → Ev (fun k => spec_l2Name.l0 k s (i : Int)) (((bytesOf s).drop i).all nameB && nameEnd s) := by
  induction d with
  | zero =>
    intro i hi
    refine Ev.step (f := fun _ => some (nameEnd s)) (fun k => ?_) ?_
    · simp only [spec_l2Name.l0]
      rw [if_neg (by omega), l1In_f]
      unfold nameEnd
      simp only [Option.bind_some]
      cases inB 1 8 s.size
      · rfl
      · by_cases h1 : s.toList = [46]
        · simp [h1]
        · have e1 : (s.toList == [46]) = false := by simpa using h1
          rw [if_pos rfl, if_neg h1, e1]
          simp [bne]
    · rw [List.drop_of_length_le (by rw [bytesOf_length]; omega)]
      simpa using Ev.now (nameEnd s)
  | succ d ih =>
    intro i hi
    have hlt : i < s.size := by omega
    have hw := step_n (i := i) (n := s.size) hlt (by omega)
    have e : ∀ k, spec_l2Name.l0 (k + 1) s (i : Int) = if nameB (bt s i) = true then spec_l2Name.l0 k s ((i + 1 : Nat) : Int) else some false := fun k => by
      simp only [spec_l2Name.l0]
      rw [if_pos (by omega), if_pos (by omega), hw, name_step]
    have hdrop : (bytesOf s).drop i = bt s i :: (bytesOf s).drop (i + 1) := by
      rw [List.drop_eq_getElem_cons (by rw [bytesOf_length]; exact hlt)]
      congr 1
      have := rd_bytesOf s (i : Int)
      rw [← this]
      simp [rd, rdOf, List.getD, bytesOf_length, hlt]
    rw [hdrop, List.all_cons]
    by_cases hn : nameB (bt s i) = true
    · rw [hn, Bool.true_and]
      exact Ev.step (fun k => by rw [e k, if_pos hn]) (ih (i + 1) (by omega))
    · have hn' : nameB (bt s i) = false := by simpa using hn
      rw [hn', Bool.false_and, Bool.false_and]
      exact Ev.step (f := fun _ => some false) (fun k => by rw [e k, if_neg hn]) (Ev.now _)
theorem inB_nat (lo hi : Nat) (n : Nat) : inB lo hi n = (decide (lo ≤ n) && decide (n ≤ hi)) := by
  unfold inB; simp
theorem nameOk_eq (s : ByteArray) : ((bytesOf s).all nameB && nameEnd s) = nameOkB s := by
  unfold nameOkB partB nameEnd
  rw [show inB 1 8 (s.size : Int) = (decide (1 ≤ s.size) && decide (s.size ≤ 8)) from inB_nat 1 8 s.size]
  have : (bytesOf s).all nameB = !(bytesOf s).any (fun b => !nameB b) := by
    rw [List.all_eq_not_any_not]
  rw [this]
  cases (bytesOf s).any (fun b => !nameB b) <;> cases decide (1 ≤ s.size) <;> cases decide (s.size ≤ 8) <;> simp
theorem l2Name_ev (s : ByteArray) (hs : s.size < 4294967281) : Ev (fun k => spec_l2Name.f k s) (nameOkB s) := by
  rw [← nameOk_eq]
  have h := l2Name_loop s hs s.size 0 (by omega)
  rw [List.drop_zero] at h
  exact h
theorem rdS (xs : List ByteArray) (i : Nat) (h : i < xs.length) : rdOf ByteArray.empty xs (i : Int) = xs[i] := by
  simp [rdOf, List.getD, h]
theorem l2Parts_loop (l : List ByteArray) (hl : l.length ≤ 4294967282) (d : Nat) : ∀ (i : Nat) (out : List ByteArray), i + d = l.length → out.length ≤ i →
    Ev (fun k => spec_l2Parts.l0 k out l (l.length : Int) (i : Int)) (out ++ (l.drop i).filter fun p => !nilB p) := by
  induction d with
  | zero =>
    intro i out hi ho
    refine Ev.step (f := fun _ => some out) (fun k => ?_) ?_
    · simp only [spec_l2Parts.l0]; rw [if_neg (by omega)]
    · rw [List.drop_of_length_le (by omega)]; simpa using Ev.now out
  | succ d ih =>
    intro i out hi ho
    have hlt : i < l.length := by omega
    have hw := step_n (i := i) (n := l.length) hlt (by omega)
    rw [List.drop_eq_getElem_cons hlt, List.filter_cons]
    by_cases hc : l[i].toList = []
    · have hn : nilB l[i] = true := by rw [← nilB_eq]; simpa using hc
      rw [hn, Bool.not_true, if_neg (by simp)]
      refine Ev.step (f := fun k => spec_l2Parts.l0 k out l (l.length : Int) ((i + 1 : Nat) : Int)) (fun k => ?_) (ih (i + 1) out (by omega) (by omega))
      simp only [spec_l2Parts.l0]
      rw [if_pos (by omega), if_pos (by omega), if_pos (by omega), rdS _ _ hlt, if_pos hc, hw]
    · have hn : nilB l[i] = false := by rw [← nilB_eq]; simpa using hc
      rw [hn, Bool.not_false, if_pos rfl]
      have h2 := ih (i + 1) (out ++ [l[i]]) (by omega) (by simp; omega)
      refine Ev.step (f := fun k => spec_l2Parts.l0 k (out ++ [l[i]]) l (l.length : Int) ((i + 1 : Nat) : Int)) (fun k => ?_) (by simpa using h2)
      simp only [spec_l2Parts.l0]
      rw [if_pos (by omega), if_pos (by omega), if_pos (by omega), rdS _ _ hlt, if_neg hc, if_pos (by omega), hw]
theorem slash_len (s : ByteArray) (hs : s.size < 4294967281) : (slashL s).length ≤ 4294967282 := by
  unfold slashL
  rw [← show segs s 47 s.size 0 0 = _ from segs_split s 47]
  have := segs_len s 47 s.size 0 0
  omega
theorem l2Parts_ev (s : ByteArray) (hs : s.size < 4294967281) : Ev (fun k => spec_l2Parts.f k s) (partsL s) := by
  refine Ev.bind (slash_ev s hs) ?_
  have := l2Parts_loop (slashL s) (slash_len s hs) (slashL s).length 0 [] (by omega) (by simp)
  simpa [partsL] using this
theorem parts_mem_size (s : ByteArray) : ∀ p ∈ partsL s, p.size ≤ s.size := by
  intro p hp
  have hm : p ∈ slashL s := (List.mem_filter.mp hp).1
  unfold slashL at hm
  rw [← show segs s 47 s.size 0 0 = _ from segs_split s 47] at hm
  have key : ∀ d fr i, i ≤ s.size → ∀ p ∈ segs s 47 d fr i, p.size ≤ s.size := by
    intro d
    induction d with
    | zero => intro fr i hi p hp; simp only [segs, List.mem_singleton] at hp; subst hp; simp
    | succ d ih =>
      intro fr i hi p hp
      simp only [segs] at hp
      by_cases hi2 : i < s.size
      · split at hp
        · rcases List.mem_cons.mp hp with rfl | h
          · simp; omega
          · exact ih _ _ (by omega) p h
        · exact ih _ _ (by omega) p hp
      · have hb : bt s i = 0 := by unfold bt; rw [dif_neg (by simpa using hi2)]
        rw [if_neg (by rw [hb]; decide)] at hp
        have : ∀ d fr j, s.size ≤ j → ∀ p ∈ segs s 47 d fr j, p.size ≤ s.size := by
          intro d
          induction d with
          | zero => intro fr j hj p hp; simp only [segs, List.mem_singleton] at hp; subst hp; simp
          | succ d ih =>
            intro fr j hj p hp
            simp only [segs] at hp
            have hb : bt s j = 0 := by unfold bt; rw [dif_neg (by simp; omega)]
            rw [if_neg (by rw [hb]; decide)] at hp
            exact ih _ _ (by omega) p hp
        exact this d fr (i + 1) (by omega) p hp
  exact key _ _ _ (by omega) p hm
def dotsOr (p : ByteArray) : Bool := nameOkB p || (p.toList == [46] || p.toList == [46, 46])
theorem part_of_dots {p : ByteArray} (h : p.toList = [46] ∨ p.toList = [46, 46]) : partB p = true := by
  have hd : p.data.toList = p.toList := (ByteArray.toList_eq p).symm
  have hsz : p.size = p.toList.length := by rw [← hd, data_length]
  unfold partB bytesOf
  rw [hd]
  rcases h with h | h <;> rw [hsz, h] <;> decide
theorem dotsOr_eq (p : ByteArray) : dotsOr p = partB p := by
  unfold dotsOr nameOkB
  by_cases h1 : p.toList = [46]
  · rw [part_of_dots (.inl h1)]; simp [h1]
  · by_cases h2 : p.toList = [46, 46]
    · rw [part_of_dots (.inr h2)]; simp [h2]
    · have e1 : (p.toList == [46]) = false := by simpa using h1
      have e2 : (p.toList == [46, 46]) = false := by simpa using h2
      rw [e1, e2]
      simp
theorem l2Path_loop (s : ByteArray) (l : List ByteArray) (hl : l.length ≤ 4294967282) (hm : ∀ p ∈ l, p.size < 4294967281) (d : Nat) : ∀ i : Nat, i + d = l.length →
    Ev (fun k => spec_l2Path.l0 k s l (l.length : Int) (i : Int)) ((l.drop i).all partB && inB 1 60 s.size) := by
  induction d with
  | zero =>
    intro i hi
    refine Ev.step (f := fun _ => some (inB 1 60 s.size)) (fun k => ?_) ?_
    · simp only [spec_l2Path.l0]; rw [if_neg (by omega), l1In_f]; rfl
    · rw [List.drop_of_length_le (by omega)]; simpa using Ev.now (inB 1 60 s.size)
  | succ d ih =>
    intro i hi
    have hlt : i < l.length := by omega
    have hw := step_n (i := i) (n := l.length) hlt (by omega)
    rw [List.drop_eq_getElem_cons hlt, List.all_cons, ← dotsOr_eq]
    refine Ev.step (f := fun k => (spec_l2Name.f k l[i]).bind fun t122 => (if t122 = true then (spec_l2Path.l0 k s l (l.length : Int) ((i + 1 : Nat) : Int)) else (if l[i].toList = ([46] : List UInt8) then (spec_l2Path.l0 k s l (l.length : Int) ((i + 1 : Nat) : Int)) else (if l[i].toList = ([46, 46] : List UInt8) then (spec_l2Path.l0 k s l (l.length : Int) ((i + 1 : Nat) : Int)) else (some false))))) (fun k => ?_) ?_
    · simp only [spec_l2Path.l0]
      rw [if_pos (by omega), if_pos (by omega), if_pos (by omega), rdS _ _ hlt, hw]
    · refine Ev.bind (l2Name_ev l[i] (hm _ (List.getElem_mem hlt))) ?_
      unfold dotsOr
      cases nameOkB l[i]
      · by_cases h1 : l[i].toList = [46]
        · simp only [h1, if_true, Bool.false_eq_true, if_false]
          simpa using ih (i + 1) (by omega)
        · by_cases h2 : l[i].toList = [46, 46]
          · simp only [h2, if_true, Bool.false_eq_true, if_false]
            simpa using ih (i + 1) (by omega)
          · simp only [h1, h2, Bool.false_eq_true, if_false]
            have e1 : (l[i].toList == [46]) = false := by simpa using h1
            have e2 : (l[i].toList == [46, 46]) = false := by simpa using h2
            rw [e1, e2]
            exact Ev.now _
      · simp only [if_true, Bool.true_or, Bool.true_and]
        exact ih (i + 1) (by omega)
theorem l2Path_ev (s : ByteArray) (hs : s.size < 4294967281) : Ev (fun k => spec_l2Path.f k s) (goodPathB s) := by
  refine Ev.bind (l2Parts_ev s hs) ?_
  have h := l2Path_loop s (partsL s) (Nat.le_trans (List.length_filter_le _ _) (slash_len s hs)) (fun p hp => by have := parts_mem_size s p hp; omega) (partsL s).length 0 (by omega)
  have e : ((partsL s).all partB && inB 1 60 s.size) = goodPathB s := by
    unfold goodPathB longB nilB
    rw [show inB 1 60 (s.size : Int) = (decide (1 ≤ s.size) && decide (s.size ≤ 60)) from inB_nat 1 60 s.size]
    have : (partsL s).all partB = !(partsL s).any (fun b => !partB b) := by rw [List.all_eq_not_any_not]
    rw [this]
    have h0 : decide (1 ≤ s.size) = !decide (s.size = 0) := by
      by_cases hz : s.size = 0 <;> simp [hz]
      omega
    rw [h0]
    cases (partsL s).any (fun b => !partB b) <;> cases decide (s.size = 0) <;> cases decide (s.size ≤ 60) <;> rfl
  rw [← e]
  simpa using h
def sEntB (ns : List Nd) (l : List En) (i : Nat) : Bool := nameOkB (enR l (i : Int)).f0 && (upB l i && (inB 1 ((ns.length : Int) - 1) (enR l (i : Int)).f1 && ((ndR ns (enR l (i : Int)).f1).f0 != 0)))
def sEntsB (ns : List Nd) (l : List En) : Nat → Bool
  | 0 => true
  | n + 1 => sEntsB ns l n && sEntB ns l n
theorem sEntsB_false {ns : List Nd} {l : List En} {n m : Nat} (h : sEntsB ns l n = false) (hm : n ≤ m) : sEntsB ns l m = false := by
  induction m with
  | zero => rw [show n = 0 by omega] at h; exact h
  | succ k ih =>
    by_cases hk : n = k + 1
    · rw [← hk]; exact h
    · show (sEntsB ns l k && sEntB ns l k) = false
      rw [ih (by omega), Bool.false_and]
theorem drewN_twoE (w : World) (a b : Nat) : (w.drewN a).drewN b = w.drewN (a + b) := by
  show ({ { w with drawn := w.drawn + a } with drawn := w.drawn + a + b } : World) = { w with drawn := w.drawn + (a + b) }
  rw [Nat.add_assoc]
theorem wrap_upE {i n : Nat} (h : i < n) (hn : n ≤ 4294967296) : wrap64 ((i : Int) + 1) = ((i + 1 : Nat) : Int) := by unfold wrap64; omega
theorem wrap_dnE {i m n : Nat} (hm : i = m + 1) (h : i < n) (hn : n ≤ 4294967296) : IntKind.i64.wrap ((i : Int) - 1) = (m : Int) := (i64_w _).trans (by unfold wrap64; omega)
theorem wrap_len {n : Nat} (hn : n ≤ 4294967296) : IntKind.i64.wrap ((n : Int) - 1) = (n : Int) - 1 := (i64_w _).trans (by unfold wrap64; omega)
theorem meas_upE {i n : Nat} {z : Int} (h : i < n) (hz : z = ((i + 1 : Nat) : Int)) : n - (intOf (Value.int .i64 z)).toNat < n - (intOf (Value.int .i64 (i : Int))).toNat := by subst hz; show n - (((i + 1 : Nat) : Int)).toNat < n - ((i : Int)).toNat; omega
set_option maxHeartbeats 8000000 in
set_option maxRecDepth 100000 in
theorem l3Entries_walk (ns : List Nd) (A0 : Option Addr) (c0 : Nat) (room : Int) (A1 : Option Addr) (c1 : Nat) (l : List En) (w : World)
    (hr0 : Kd.C k85 w A0 ns.length ns) (hr1 : Kd.C k144 w A1 l.length l) (hl0 : ns.length ≤ 4294967296) (hl1 : l.length ≤ 4294967296) (hs : ∀ i, (enR l i).f0.size < 4294967281) :
    Calls Tryz.prog 194 #[.agg #[.slice A0 ns.length c0, .int .i64 room], .slice A1 l.length c1] w fun e w' => e = .returned (.bool (sEntsB ns l l.length)) ∧ Below w.heap.size w w' := by
  have hu1 := Tryz.underlying34
  have hu2 := Tryz.underlying85
  have hu3 := Tryz.underlying144
  have HR0 := Aside0.mk hr0
  have HR1 := Aside0.mk hr1
  have HL0 := Aside0.mk hl0
  have HL1 := Aside0.mk hl1
  have HS := Aside0.mk hs
  clear hr0 hr1 hl0 hl1 hs
  have BK0 := blk_new w (.cells #[.slice A0 ns.length c0, .int .i64 room] 34 (0, 0))
  have HB0 : Below w.heap.size w (w.alloc (.cells #[.slice A0 ns.length c0, .int .i64 room] 34 (0, 0))) := below_alloc (Below.refl _ _) _
  go_enter Tryz.func194, Tryz.ntmps194
  go_upto_region 1 with (fail)
  obtain ⟨g2, hg2⟩ : ∃ g, g = w.heap.size := ⟨_, rfl⟩
  obtain ⟨W1, hW1⟩ : ∃ W, W = w.alloc (.cells #[.slice A0 ns.length c0, .int .i64 room] 34 (0, 0)) := ⟨_, rfl⟩
  rw [← hW1] at BK0 HB0
  rw [← hg2] at BK0
  rw [← hW1, ← hg2]
  have B2 := Aside0.mk BK0
  have HB := Aside0.mk HB0
  clear BK0 HB0 hW1 hg2
  go_wp2
  go_loopw [9] (fun iv wr => ∃ i : Nat, i ≤ l.length ∧ iv = .int .i64 (i : Int) ∧ Aside0 (sEntsB ns l i = true) ∧ Aside0 (Below w.heap.size w wr) ∧ Aside0 (wr.heap[g2]? = some (.cells #[.slice A0 ns.length c0, .int .i64 room] 34 (0, 0)))) (fun iv _ => l.length - (intOf iv).toNat)
  case atStart => exact ⟨0, Nat.zero_le _, rfl, ⟨rfl⟩, HB, B2⟩
  case round =>
    clear B2 HB
    obtain ⟨i, hi, rfl, HE, HB, B2⟩ := hrel
    by_cases hlt : i < l.length
    case neg =>
      have hil : i = l.length := by omega
      subst hil
      have p9 : decide ((l.length : Int) < (l.length : Int)) = false := by simp
      clear hlt hi
      go_wp2
      go_ret
      exact ⟨by rw [HE.out]; rfl, HB.out⟩
    case pos =>
      have HLT := Aside0.mk hlt
      have p9 : decide ((i : Int) < (l.length : Int)) = true := decide_eq_true (by omega)
      have p8 : ((i : Int) < (l.length : Int)) = True := eq_true (by omega)
      have p7 : ((0 : Int) ≤ (i : Int)) = True := eq_true (by omega)
      have HSTEP : Aside0 (sEntsB ns l (i + 1) = (sEntsB ns l i && sEntB ns l i)) := ⟨rfl⟩
      obtain ⟨ad, rfl, hn0, hn1⟩ := at_T144 (Kd.C_below HR1.out HB.out) (i : Int) (by omega) (by omega)
      have HENT : Aside0 (sEntB ns l i = (nameOkB (enR l (i : Int)).f0 && (upB l i && (inB 1 ((ns.length : Int) - 1) (enR l (i : Int)).f1 && ((ndR ns (enR l (i : Int)).f1).f0 != 0))))) := ⟨rfl⟩
      rw [Int.toNat_natCast] at hn0 hn1
      obtain ⟨nm, hnm⟩ : ∃ nm, (rd_T144 l (i : Int)).f0 = nm := ⟨_, rfl⟩
      have hsz := HS.out (i : Int)
      rw [hnm] at hn0 HENT hsz
      have HNM := Aside0.mk hnm
      obtain ⟨nd, hnd⟩ : ∃ nd, (rd_T144 l (i : Int)).f1 = nd := ⟨_, rfl⟩
      rw [hnd] at hn1 HENT
      clear hnm hnd
      obtain ⟨K1, hK1⟩ := (l2Name_ev nm hsz).rounds
      have HNn := Aside0.mk (fun W => spec_l2Name.calls K1 nm _ W hK1)
      have HIn := Aside0.mk (fun W => spec_l1In.calls nd 1 ((ns.length : Int) - 1) _ W (l1In_f nd 1 ((ns.length : Int) - 1)))
      clear hK1 hsz hi
      have B2r := B2.out
      have HBr := HB.out
      go_upto_region 4 with (fail)
      have HB5' : Below wr.heap.size wr (wr.alloc (.cells #[.string nm, .int .i64 nd] 144 (0, 0))) := below_alloc (Below.refl _ _) _
      have BK6' := blk_new wr (.cells #[.string nm, .int .i64 nd] 144 (0, 0))
      obtain ⟨g6, hg6⟩ : ∃ g, g = wr.heap.size := ⟨_, rfl⟩
      obtain ⟨W5, hW5⟩ : ∃ W, W = wr.alloc (.cells #[.string nm, .int .i64 nd] 144 (0, 0)) := ⟨_, rfl⟩
      rw [← hW5] at HB5' BK6'
      rw [← hg6] at BK6'
      rw [← hW5, ← hg6]
      have HB5 := Aside0.mk (below_step HBr HB5')
      have B25 := Aside0.mk ((HB5'.block _ (blk_lt B2r)).trans B2r)
      have BK6 := Aside0.mk BK6'
      have h60 : W5.cell? ⟨g6, 0, none⟩ = some (.string nm) := (blk_cell BK6.out 0).trans rfl
      have h61 : W5.cell? ⟨g6, 1, none⟩ = some (.int .i64 nd) := (blk_cell BK6.out 1).trans rfl
      have h20 : W5.cell? ⟨g2, 0, none⟩ = some (.slice A0 ns.length c0) := (blk_cell B25.out 0).trans rfl
      clear HB5' BK6' hW5 hg6 HB B2 hn0 hn1 B2r HBr
      have hwl : IntKind.i64.wrap ((ns.length : Int) - 1) = (ns.length : Int) - 1 := wrap_len HL0.out
      have hw1 : IntKind.i64.wrap ((i : Int) + 1) = ((i + 1 : Nat) : Int) := (i64_w _).trans (wrap_upE hlt HL1.out)
      cases b1 : nameOkB nm with
      | false =>
        have B1 := Aside0.mk b1
        rw [b1] at HNn
        clear b1 hlt
        go_quiet ((first | (go_at_call 103; exact (HNn.out _).mono fun e w'' ⟨he, ⟨n, hn⟩⟩ => ⟨he, _, hn.trans (drewN_twoE _ _ _)⟩) | (go_at_call 88; exact (HIn.out _).mono fun e w'' ⟨he, ⟨n, hn⟩⟩ => ⟨he, _, hn.trans (drewN_twoE _ _ _)⟩)))
        go_wp2
        go_ret
        exact ⟨by rw [sEntsB_false (n := i + 1) (by rw [HSTEP.out, HENT.out, B1.out]; simp) HLT.out]; rfl, pw_below_drewN HB5.out _⟩
      | true =>
        have B1 := Aside0.mk b1
        rw [b1] at HNn
        clear b1
        by_cases hz : i = 0
        case pos =>
          have UP : Aside0 (upB l i = true) := ⟨by unfold upB; rw [hz]; rfl⟩
          have p0 : decide ((0 : Int) < (i : Int)) = false := decide_eq_false (by omega)
          have p2 : decide (0 < i) = false := decide_eq_false (by omega)
          clear hz hlt
          cases b3 : inB 1 ((ns.length : Int) - 1) nd with
          | false =>
            have B3 := Aside0.mk b3
            rw [b3] at HIn
            clear b3
            go_quiet ((first | (go_at_call 103; exact (HNn.out _).mono fun e w'' ⟨he, ⟨n, hn⟩⟩ => ⟨he, _, hn.trans (drewN_twoE _ _ _)⟩) | (go_at_call 88; exact (HIn.out _).mono fun e w'' ⟨he, ⟨n, hn⟩⟩ => ⟨he, _, hn.trans (drewN_twoE _ _ _)⟩)))
            go_wp2
            go_ret
            exact ⟨by rw [sEntsB_false (n := i + 1) (by rw [HSTEP.out, HENT.out, B1.out, UP.out, B3.out]; simp) HLT.out]; rfl, pw_below_drewN HB5.out _⟩
          | true =>
            have B3 := Aside0.mk b3
            have hin := b3
            unfold inB at hin
            simp only [Bool.and_eq_true, decide_eq_true_eq] at hin
            obtain ⟨q1, q2⟩ := hin
            obtain ⟨bd, A6, c6, rfl, hk0, -⟩ := at_T85 (Kd.C_below HR0.out HB5.out) nd (by omega) (by omega)
            have r1 : ((0 : Int) ≤ nd) = True := eq_true (by omega)
            have r2 : (nd < (ns.length : Int)) = True := eq_true (by omega)
            rw [b3] at HIn
            clear b3 q1 q2
            obtain ⟨kd, hkd⟩ : ∃ kd, (rd_T85 ns nd).f0 = kd := ⟨_, rfl⟩
            have HKD := Aside0.mk (show (ndR ns nd).f0 = kd from hkd)
            rw [hkd] at hk0
            clear hkd
            by_cases hz2 : kd = 0
            case pos =>
              subst hz2
              go_quiet ((first | (go_at_call 103; exact (HNn.out _).mono fun e w'' ⟨he, ⟨n, hn⟩⟩ => ⟨he, _, hn.trans (drewN_twoE _ _ _)⟩) | (go_at_call 88; exact (HIn.out _).mono fun e w'' ⟨he, ⟨n, hn⟩⟩ => ⟨he, _, hn.trans (drewN_twoE _ _ _)⟩)))
              go_wp2
              go_ret
              exact ⟨by rw [sEntsB_false (n := i + 1) (by rw [HSTEP.out, HENT.out, B1.out, UP.out, B3.out, HKD.out]; simp) HLT.out]; rfl, pw_below_drewN HB5.out _⟩
            case neg =>
              have k0 : (kd == 0) = false := by simpa using hz2
              have k1 : (kd != 0) = true := by simpa using hz2
              have K1 := Aside0.mk k1
              clear hz2
              have HE1 : Aside0 (sEntsB ns l (i + 1) = true) := ⟨by rw [HSTEP.out, HE.out, HENT.out, B1.out, UP.out, B3.out, HKD.out, K1.out]; simp⟩
              go_quiet ((first | (go_at_call 103; exact (HNn.out _).mono fun e w'' ⟨he, ⟨n, hn⟩⟩ => ⟨he, _, hn.trans (drewN_twoE _ _ _)⟩) | (go_at_call 88; exact (HIn.out _).mono fun e w'' ⟨he, ⟨n, hn⟩⟩ => ⟨he, _, hn.trans (drewN_twoE _ _ _)⟩)))
              go_wp2
              go_roundw
              case rel => exact ⟨i + 1, HLT.out, by first | rfl | go_num, HE1, ⟨pw_below_drewN HB5.out _⟩, ⟨blk_drewN B25.out _⟩⟩
              case measure => exact meas_upE HLT.out (by first | rfl | (rw [← i64_w]; exact hw1))
        case neg =>
          obtain ⟨m, hm⟩ : ∃ m, i = m + 1 := ⟨i - 1, by omega⟩
          have p0 : decide ((0 : Int) < (i : Int)) = true := decide_eq_true (by omega)
          have p2 : decide (0 < i) = true := decide_eq_true (by omega)
          have p4 : IntKind.i64.wrap ((i : Int) - 1) = (m : Int) := wrap_dnE hm hlt HL1.out
          obtain ⟨ad', had', hp0, -⟩ := at_T144 (Kd.C_below HR1.out HB5.out) (m : Int) (by omega) (by omega)
          have ea : ad' = ad := by injection had'.symm
          rw [ea] at hp0
          rw [Int.toNat_natCast] at hp0
          have UP0 : upB l i = (false || Op.bytesLess (enR l (m : Int)).f0.toList (enR l (i : Int)).f0.toList) := by unfold upB; rw [show (i == 0) = false by simpa using hz, show ((i : Int) - 1) = (m : Int) by omega]
          generalize (rd_T144 l (m : Int)).f0 = pv at hp0 UP0
          rw [HNM.out] at UP0
          have q9 : ((m : Int) < (l.length : Int)) = True := eq_true (by omega)
          have q8 : ((0 : Int) ≤ (m : Int)) = True := eq_true (by omega)
          clear hm had' ea hlt hz
          cases b2 : Op.bytesLess pv.toList nm.toList with
          | false =>
            have UP : Aside0 (upB l i = false) := ⟨by rw [UP0, b2]; rfl⟩
            clear UP0
            go_quiet ((first | (go_at_call 103; exact (HNn.out _).mono fun e w'' ⟨he, ⟨n, hn⟩⟩ => ⟨he, _, hn.trans (drewN_twoE _ _ _)⟩) | (go_at_call 88; exact (HIn.out _).mono fun e w'' ⟨he, ⟨n, hn⟩⟩ => ⟨he, _, hn.trans (drewN_twoE _ _ _)⟩)))
            go_wp2
            go_ret
            exact ⟨by rw [sEntsB_false (n := i + 1) (by rw [HSTEP.out, HENT.out, B1.out, UP.out]; simp) HLT.out]; rfl, pw_below_drewN HB5.out _⟩
          | true =>
            have UP : Aside0 (upB l i = true) := ⟨by rw [UP0, b2]; rfl⟩
            clear UP0
            cases b3 : inB 1 ((ns.length : Int) - 1) nd with
            | false =>
              have B3 := Aside0.mk b3
              rw [b3] at HIn
              clear b3
              go_quiet ((first | (go_at_call 103; exact (HNn.out _).mono fun e w'' ⟨he, ⟨n, hn⟩⟩ => ⟨he, _, hn.trans (drewN_twoE _ _ _)⟩) | (go_at_call 88; exact (HIn.out _).mono fun e w'' ⟨he, ⟨n, hn⟩⟩ => ⟨he, _, hn.trans (drewN_twoE _ _ _)⟩)))
              go_wp2
              go_ret
              exact ⟨by rw [sEntsB_false (n := i + 1) (by rw [HSTEP.out, HENT.out, B1.out, UP.out, B3.out]; simp) HLT.out]; rfl, pw_below_drewN HB5.out _⟩
            | true =>
              have B3 := Aside0.mk b3
              have hin := b3
              unfold inB at hin
              simp only [Bool.and_eq_true, decide_eq_true_eq] at hin
              obtain ⟨q1, q2⟩ := hin
              obtain ⟨bd, A6, c6, rfl, hk0, -⟩ := at_T85 (Kd.C_below HR0.out HB5.out) nd (by omega) (by omega)
              have r1 : ((0 : Int) ≤ nd) = True := eq_true (by omega)
              have r2 : (nd < (ns.length : Int)) = True := eq_true (by omega)
              rw [b3] at HIn
              clear b3 q1 q2
              obtain ⟨kd, hkd⟩ : ∃ kd, (rd_T85 ns nd).f0 = kd := ⟨_, rfl⟩
              have HKD := Aside0.mk (show (ndR ns nd).f0 = kd from hkd)
              rw [hkd] at hk0
              clear hkd
              by_cases hz2 : kd = 0
              case pos =>
                subst hz2
                go_quiet ((first | (go_at_call 103; exact (HNn.out _).mono fun e w'' ⟨he, ⟨n, hn⟩⟩ => ⟨he, _, hn.trans (drewN_twoE _ _ _)⟩) | (go_at_call 88; exact (HIn.out _).mono fun e w'' ⟨he, ⟨n, hn⟩⟩ => ⟨he, _, hn.trans (drewN_twoE _ _ _)⟩)))
                go_wp2
                go_ret
                exact ⟨by rw [sEntsB_false (n := i + 1) (by rw [HSTEP.out, HENT.out, B1.out, UP.out, B3.out, HKD.out]; simp) HLT.out]; rfl, pw_below_drewN HB5.out _⟩
              case neg =>
                have k0 : (kd == 0) = false := by simpa using hz2
                have k1 : (kd != 0) = true := by simpa using hz2
                have K1 := Aside0.mk k1
                clear hz2
                have HE1 : Aside0 (sEntsB ns l (i + 1) = true) := ⟨by rw [HSTEP.out, HE.out, HENT.out, B1.out, UP.out, B3.out, HKD.out, K1.out]; simp⟩
                go_quiet ((first | (go_at_call 103; exact (HNn.out _).mono fun e w'' ⟨he, ⟨n, hn⟩⟩ => ⟨he, _, hn.trans (drewN_twoE _ _ _)⟩) | (go_at_call 88; exact (HIn.out _).mono fun e w'' ⟨he, ⟨n, hn⟩⟩ => ⟨he, _, hn.trans (drewN_twoE _ _ _)⟩)))
                go_wp2
                go_roundw
                case rel => exact ⟨i + 1, HLT.out, by first | rfl | go_num, HE1, ⟨pw_below_drewN HB5.out _⟩, ⟨blk_drewN B25.out _⟩⟩
                case measure => exact meas_upE HLT.out (by first | rfl | (rw [← i64_w]; exact hw1))
def spec_l3Entries.f (l0_0 : List Nd) (a0_1 : Int) (l1 : List En) : Option Bool :=
  if l0_0.length ≤ 4294967296 ∧ l1.length ≤ 4294967296 ∧ l1.all (fun e => decide (e.f0.size < 4294967281)) = true then some (sEntsB l0_0 l1 l1.length) else none
theorem enR_size {l : List En} (h : l.all (fun e => decide (e.f0.size < 4294967281)) = true) (i : Int) : (enR l i).f0.size < 4294967281 := by
  unfold enR rd_T144
  by_cases hi : i.toNat < l.length
  · rw [List.getD_eq_getElem?_getD, List.getElem?_eq_getElem hi]
    exact of_decide_eq_true (List.all_eq_true.mp h _ (List.getElem_mem hi))
  · rw [List.getD_eq_getElem?_getD, List.getElem?_eq_none (by omega)]
    exact (by decide : (z144 : En).f0.size < 4294967281)
theorem spec_l3Entries.calls (A0_0 : Option Addr) (c0_0 : Nat) (l0_0 : List Nd) (a0_1 : Int) (A1 : Option Addr) (c1 : Nat) (l1 : List En) (r : Bool) (w : World) (hr0_0 : Kd.C k85 w A0_0 l0_0.length l0_0) (hc0_0 : l0_0.length ≤ c0_0) (hr1 : Kd.C k144 w A1 l1.length l1) (hc1 : l1.length ≤ c1) (h : spec_l3Entries.f l0_0 a0_1 l1 = some r) :
    Calls Tryz.prog 194 #[.agg #[.slice A0_0 l0_0.length c0_0, .int .i64 a0_1], .slice A1 l1.length c1] w fun e w' => e = .returned (.bool r) ∧ Below w.heap.size w w' := by
  unfold spec_l3Entries.f at h
  split at h
  · rename_i hl
    rw [← Option.some.inj h]
    exact l3Entries_walk l0_0 A0_0 c0_0 a0_1 A1 c1 l1 w hr0_0 hr1 hl.1 hl.2.1 (enR_size hl.2.2)
  · cases h
def spec_l3Node.j0 : Nat → Bool → List (S85) → Int → Int → Int → Int → Int → Int → ByteArray → List (S144) → Option (Bool)
 | 0, _, _, _, _, _, _, _, _, _, _ => none
 | k + 1, x58, x187000, x187001, x188000, x188001, x188002, x188003, x188004, x188005, x188006 => if x58 = true then (some false) else (if x188000 = 1 then (if (x188005.size : Int) ≤ 60 then (some ((x188006.length : Int) == 0)) else (some false)) else (if x188000 = 2 then (if x188005.toList = ([] : List UInt8) then ((spec_l3Entries.f x187000 x187001 x188006).bind fun t192 => (some t192)) else (some false)) else (if x188000 = 3 then ((spec_l2Path.f k x188005).bind fun t193 => (if t193 = true then (some ((x188006.length : Int) == 0)) else (some false))) else (some false))))
def spec_l3Node.f (k : Nat) (l0_0 : List (S85)) (a0_1 : Int) (a1_0 : Int) (a1_1 : Int) (a1_2 : Int) (a1_3 : Int) (a1_4 : Int) (a1_5 : ByteArray) (l1_6 : List (S144)) : Option (Bool) := if a1_0 = 0 then (if a1_1 = 0 then (if a1_2 = 0 then (if a1_3 = 0 then (if a1_4 = 0 then (if a1_5.toList = ([] : List UInt8) then (some ((l1_6.length : Int) == 0)) else (some false)) else (some false)) else (some false)) else (some false)) else (some false)) else ((spec_l1Mode.f a1_1).bind fun t188 => (if t188 = true then ((spec_l1In.f a1_2 0 99).bind fun t189 => (if t189 = true then ((spec_l1In.f a1_3 0 99).bind fun t190 => (if t190 = true then ((spec_l1In.f a1_4 0 1000000).bind fun t191 => (spec_l3Node.j0 k (!t191) l0_0 a0_1 a1_0 a1_1 a1_2 a1_3 a1_4 a1_5 l1_6)) else (spec_l3Node.j0 k true l0_0 a0_1 a1_0 a1_1 a1_2 a1_3 a1_4 a1_5 l1_6))) else (spec_l3Node.j0 k true l0_0 a0_1 a1_0 a1_1 a1_2 a1_3 a1_4 a1_5 l1_6))) else (spec_l3Node.j0 k true l0_0 a0_1 a1_0 a1_1 a1_2 a1_3 a1_4 a1_5 l1_6)))
set_option maxHeartbeats 8000000 in
set_option maxRecDepth 100000 in
theorem spec_l3Node.calls (k : Nat) (A0_0 : Option Addr) (c0_0 : Nat) (l0_0 : List (S85)) (a0_1 : Int) (a1_0 : Int) (a1_1 : Int) (a1_2 : Int) (a1_3 : Int) (a1_4 : Int) (a1_5 : ByteArray) (A1_6 : Option Addr) (c1_6 : Nat) (l1_6 : List (S144)) (r : Bool) (w : World) (hr0_0 : Kd.C k85 w A0_0 l0_0.length l0_0) (hc0_0 : l0_0.length ≤ c0_0) (hr1_6 : Kd.C k144 w A1_6 l1_6.length l1_6) (hc1_6 : l1_6.length ≤ c1_6) (h : spec_l3Node.f k l0_0 a0_1 a1_0 a1_1 a1_2 a1_3 a1_4 a1_5 l1_6 = some r) :
  Calls Tryz.prog 163 #[.agg #[.slice A0_0 l0_0.length c0_0, .int .i64 a0_1], .agg #[.int .i64 a1_0, .int .i64 a1_1, .int .i64 a1_2, .int .i64 a1_3, .int .i64 a1_4, .string a1_5, .slice A1_6 l1_6.length c1_6]] w fun e w' => e = .returned (.bool r) ∧ Below w.heap.size w w' := by
 have hu34 := Tryz.underlying34
 have hu85 := Tryz.underlying85
 have HR0_0 := Aside0.mk hr0_0
 have HC0_0 := Aside0.mk hc0_0
 clear hr0_0 hc0_0
 have HR1_6 := Aside0.mk hr1_6
 have HC1_6 := Aside0.mk hc1_6
 clear hr1_6 hc1_6
 have HB := Aside0.mk (Below.refl w.heap.size w)
 have H : (if a1_0 = 0 then (if a1_1 = 0 then (if a1_2 = 0 then (if a1_3 = 0 then (if a1_4 = 0 then (if a1_5.toList = ([] : List UInt8) then (some ((l1_6.length : Int) == 0)) else (some false)) else (some false)) else (some false)) else (some false)) else (some false)) else ((spec_l1Mode.f a1_1).bind fun t188 => (if t188 = true then ((spec_l1In.f a1_2 0 99).bind fun t189 => (if t189 = true then ((spec_l1In.f a1_3 0 99).bind fun t190 => (if t190 = true then ((spec_l1In.f a1_4 0 1000000).bind fun t191 => (spec_l3Node.j0 k (!t191) l0_0 a0_1 a1_0 a1_1 a1_2 a1_3 a1_4 a1_5 l1_6)) else (spec_l3Node.j0 k true l0_0 a0_1 a1_0 a1_1 a1_2 a1_3 a1_4 a1_5 l1_6))) else (spec_l3Node.j0 k true l0_0 a0_1 a1_0 a1_1 a1_2 a1_3 a1_4 a1_5 l1_6))) else (spec_l3Node.j0 k true l0_0 a0_1 a1_0 a1_1 a1_2 a1_3 a1_4 a1_5 l1_6)))) = some r := h
 clear h
 by_cases c3 : a1_0 = 0
 ·rw [if_pos c3] at H
  have c3b0 : (a1_0 == 0) = true := beq_iff_eq.mpr c3
  have c3b1 : (a1_0 != 0) = false := bne_eq_false_iff_eq.mpr c3
  clear c3
  by_cases c4 : a1_1 = 0
  ·rw [if_pos c4] at H
   have c4b0 : (a1_1 == 0) = true := beq_iff_eq.mpr c4
   have c4b1 : (a1_1 != 0) = false := bne_eq_false_iff_eq.mpr c4
   clear c4
   by_cases c5 : a1_2 = 0
   ·rw [if_pos c5] at H
    have c5b0 : (a1_2 == 0) = true := beq_iff_eq.mpr c5
    have c5b1 : (a1_2 != 0) = false := bne_eq_false_iff_eq.mpr c5
    clear c5
    by_cases c6 : a1_3 = 0
    ·rw [if_pos c6] at H
     have c6b0 : (a1_3 == 0) = true := beq_iff_eq.mpr c6
     have c6b1 : (a1_3 != 0) = false := bne_eq_false_iff_eq.mpr c6
     clear c6
     by_cases c7 : a1_4 = 0
     ·rw [if_pos c7] at H
      have c7b0 : (a1_4 == 0) = true := beq_iff_eq.mpr c7
      have c7b1 : (a1_4 != 0) = false := bne_eq_false_iff_eq.mpr c7
      clear c7
      by_cases c8 : a1_5.toList = ([] : List UInt8)
      ·rw [if_pos c8] at H
       have c8b0 : (a1_5.toList == ([] : List UInt8)) = true := beq_iff_eq.mpr c8
       have c8b1 : (a1_5.toList != ([] : List UInt8)) = false := bne_eq_false_iff_eq.mpr c8
       clear c8
       obtain rfl := Option.some.inj H
       go_enter Tryz.func163, Tryz.ntmps163
       go_wp2_with (first | ((with_reducible refine gate_dst (N := 2) rfl ?_); (try (refine gate_guard (by rfl) ?_; dsimp only)); refine box_event rfl (N := 2) rfl (cs := #[.slice A0_0 l0_0.length c0_0, .int .i64 a0_1]) (t := 34) (by first | (go_simp; done) | (go_simp; rfl)) ?_; intro gb186 hg w9 hbox hb; have BK186 := Aside0.mk (hbox); have GW186 := Aside0.mk (Gtr.gz hg (Gtr.bw HB.out)); have GE186 := GW186; replace HB := Aside0.mk (below_step (Gtr.bw HB.out) hb); clear hb hbox hg) | ((with_reducible refine gate_dst (N := 3) rfl ?_); (try (refine gate_guard (by rfl) ?_; dsimp only)); refine box_event rfl (N := 3) rfl (cs := #[.int .i64 a1_0, .int .i64 a1_1, .int .i64 a1_2, .int .i64 a1_3, .int .i64 a1_4, .string a1_5, .slice A1_6 l1_6.length c1_6]) (t := 85) (by first | (go_simp; done) | (go_simp; rfl)) ?_; intro gb187 hg w10 hbox hb; have BK187 := Aside0.mk (hbox); have GW187 := Aside0.mk (Gtr.gz hg (Gtr.bw HB.out)); have GE187 := GW187; replace HB := Aside0.mk (below_step (Gtr.bw HB.out) hb); have NB186_187 := Aside0.mk (Gtr.nl hg (Gtr.bk BK186.out)); have NB187_186 := Aside0.mk NB186_187.out.symm; replace BK186 := Aside0.mk (blk_below (Gtr.bk BK186.out) hb); clear hb hbox hg; have hnb11 := NB187_186.out; have hnc11 := NB186_187.out; have hcz12_0 := fun o_ => blk_cell BK187.out o_; have hfz12_0 := fun o_ => blk_frozen BK187.out o_))
       go_ret
       exact ⟨Gtr.fe, (Gtr.bw HB.out)⟩
      ·rw [if_neg c8] at H
       have c8b0 : (a1_5.toList == ([] : List UInt8)) = false := beq_eq_false_iff_ne.mpr c8
       have c8b1 : (a1_5.toList != ([] : List UInt8)) = true := bne_iff_ne.mpr c8
       obtain rfl := Option.some.inj H
       go_enter Tryz.func163, Tryz.ntmps163
       go_wp2_with (first | ((with_reducible refine gate_dst (N := 2) rfl ?_); (try (refine gate_guard (by rfl) ?_; dsimp only)); refine box_event rfl (N := 2) rfl (cs := #[.slice A0_0 l0_0.length c0_0, .int .i64 a0_1]) (t := 34) (by first | (go_simp; done) | (go_simp; rfl)) ?_; intro gb186 hg w13 hbox hb; have BK186 := Aside0.mk (hbox); have GW186 := Aside0.mk (Gtr.gz hg (Gtr.bw HB.out)); have GE186 := GW186; replace HB := Aside0.mk (below_step (Gtr.bw HB.out) hb); clear hb hbox hg) | ((with_reducible refine gate_dst (N := 3) rfl ?_); (try (refine gate_guard (by rfl) ?_; dsimp only)); refine box_event rfl (N := 3) rfl (cs := #[.int .i64 a1_0, .int .i64 a1_1, .int .i64 a1_2, .int .i64 a1_3, .int .i64 a1_4, .string a1_5, .slice A1_6 l1_6.length c1_6]) (t := 85) (by first | (go_simp; done) | (go_simp; rfl)) ?_; intro gb187 hg w14 hbox hb; have BK187 := Aside0.mk (hbox); have GW187 := Aside0.mk (Gtr.gz hg (Gtr.bw HB.out)); have GE187 := GW187; replace HB := Aside0.mk (below_step (Gtr.bw HB.out) hb); have NB186_187 := Aside0.mk (Gtr.nl hg (Gtr.bk BK186.out)); have NB187_186 := Aside0.mk NB186_187.out.symm; replace BK186 := Aside0.mk (blk_below (Gtr.bk BK186.out) hb); clear hb hbox hg; have hnb15 := NB187_186.out; have hnc15 := NB186_187.out; have hcz16_0 := fun o_ => blk_cell BK187.out o_; have hfz16_0 := fun o_ => blk_frozen BK187.out o_))
       go_ret
       exact ⟨Gtr.fe, (Gtr.bw HB.out)⟩
     ·rw [if_neg c7] at H
      have c7b0 : (a1_4 == 0) = false := beq_eq_false_iff_ne.mpr c7
      have c7b1 : (a1_4 != 0) = true := bne_iff_ne.mpr c7
      obtain rfl := Option.some.inj H
      go_enter Tryz.func163, Tryz.ntmps163
      go_wp2_with (first | ((with_reducible refine gate_dst (N := 2) rfl ?_); (try (refine gate_guard (by rfl) ?_; dsimp only)); refine box_event rfl (N := 2) rfl (cs := #[.slice A0_0 l0_0.length c0_0, .int .i64 a0_1]) (t := 34) (by first | (go_simp; done) | (go_simp; rfl)) ?_; intro gb186 hg w17 hbox hb; have BK186 := Aside0.mk (hbox); have GW186 := Aside0.mk (Gtr.gz hg (Gtr.bw HB.out)); have GE186 := GW186; replace HB := Aside0.mk (below_step (Gtr.bw HB.out) hb); clear hb hbox hg) | ((with_reducible refine gate_dst (N := 3) rfl ?_); (try (refine gate_guard (by rfl) ?_; dsimp only)); refine box_event rfl (N := 3) rfl (cs := #[.int .i64 a1_0, .int .i64 a1_1, .int .i64 a1_2, .int .i64 a1_3, .int .i64 a1_4, .string a1_5, .slice A1_6 l1_6.length c1_6]) (t := 85) (by first | (go_simp; done) | (go_simp; rfl)) ?_; intro gb187 hg w18 hbox hb; have BK187 := Aside0.mk (hbox); have GW187 := Aside0.mk (Gtr.gz hg (Gtr.bw HB.out)); have GE187 := GW187; replace HB := Aside0.mk (below_step (Gtr.bw HB.out) hb); have NB186_187 := Aside0.mk (Gtr.nl hg (Gtr.bk BK186.out)); have NB187_186 := Aside0.mk NB186_187.out.symm; replace BK186 := Aside0.mk (blk_below (Gtr.bk BK186.out) hb); clear hb hbox hg; have hnb19 := NB187_186.out; have hnc19 := NB186_187.out; have hcz20_0 := fun o_ => blk_cell BK187.out o_; have hfz20_0 := fun o_ => blk_frozen BK187.out o_))
      go_ret
      exact ⟨Gtr.fe, (Gtr.bw HB.out)⟩
    ·rw [if_neg c6] at H
     have c6b0 : (a1_3 == 0) = false := beq_eq_false_iff_ne.mpr c6
     have c6b1 : (a1_3 != 0) = true := bne_iff_ne.mpr c6
     obtain rfl := Option.some.inj H
     go_enter Tryz.func163, Tryz.ntmps163
     go_wp2_with (first | ((with_reducible refine gate_dst (N := 2) rfl ?_); (try (refine gate_guard (by rfl) ?_; dsimp only)); refine box_event rfl (N := 2) rfl (cs := #[.slice A0_0 l0_0.length c0_0, .int .i64 a0_1]) (t := 34) (by first | (go_simp; done) | (go_simp; rfl)) ?_; intro gb186 hg w21 hbox hb; have BK186 := Aside0.mk (hbox); have GW186 := Aside0.mk (Gtr.gz hg (Gtr.bw HB.out)); have GE186 := GW186; replace HB := Aside0.mk (below_step (Gtr.bw HB.out) hb); clear hb hbox hg) | ((with_reducible refine gate_dst (N := 3) rfl ?_); (try (refine gate_guard (by rfl) ?_; dsimp only)); refine box_event rfl (N := 3) rfl (cs := #[.int .i64 a1_0, .int .i64 a1_1, .int .i64 a1_2, .int .i64 a1_3, .int .i64 a1_4, .string a1_5, .slice A1_6 l1_6.length c1_6]) (t := 85) (by first | (go_simp; done) | (go_simp; rfl)) ?_; intro gb187 hg w22 hbox hb; have BK187 := Aside0.mk (hbox); have GW187 := Aside0.mk (Gtr.gz hg (Gtr.bw HB.out)); have GE187 := GW187; replace HB := Aside0.mk (below_step (Gtr.bw HB.out) hb); have NB186_187 := Aside0.mk (Gtr.nl hg (Gtr.bk BK186.out)); have NB187_186 := Aside0.mk NB186_187.out.symm; replace BK186 := Aside0.mk (blk_below (Gtr.bk BK186.out) hb); clear hb hbox hg; have hnb23 := NB187_186.out; have hnc23 := NB186_187.out; have hcz24_0 := fun o_ => blk_cell BK187.out o_; have hfz24_0 := fun o_ => blk_frozen BK187.out o_))
     go_ret
     exact ⟨Gtr.fe, (Gtr.bw HB.out)⟩
   ·rw [if_neg c5] at H
    have c5b0 : (a1_2 == 0) = false := beq_eq_false_iff_ne.mpr c5
    have c5b1 : (a1_2 != 0) = true := bne_iff_ne.mpr c5
    obtain rfl := Option.some.inj H
    go_enter Tryz.func163, Tryz.ntmps163
    go_wp2_with (first | ((with_reducible refine gate_dst (N := 2) rfl ?_); (try (refine gate_guard (by rfl) ?_; dsimp only)); refine box_event rfl (N := 2) rfl (cs := #[.slice A0_0 l0_0.length c0_0, .int .i64 a0_1]) (t := 34) (by first | (go_simp; done) | (go_simp; rfl)) ?_; intro gb186 hg w25 hbox hb; have BK186 := Aside0.mk (hbox); have GW186 := Aside0.mk (Gtr.gz hg (Gtr.bw HB.out)); have GE186 := GW186; replace HB := Aside0.mk (below_step (Gtr.bw HB.out) hb); clear hb hbox hg) | ((with_reducible refine gate_dst (N := 3) rfl ?_); (try (refine gate_guard (by rfl) ?_; dsimp only)); refine box_event rfl (N := 3) rfl (cs := #[.int .i64 a1_0, .int .i64 a1_1, .int .i64 a1_2, .int .i64 a1_3, .int .i64 a1_4, .string a1_5, .slice A1_6 l1_6.length c1_6]) (t := 85) (by first | (go_simp; done) | (go_simp; rfl)) ?_; intro gb187 hg w26 hbox hb; have BK187 := Aside0.mk (hbox); have GW187 := Aside0.mk (Gtr.gz hg (Gtr.bw HB.out)); have GE187 := GW187; replace HB := Aside0.mk (below_step (Gtr.bw HB.out) hb); have NB186_187 := Aside0.mk (Gtr.nl hg (Gtr.bk BK186.out)); have NB187_186 := Aside0.mk NB186_187.out.symm; replace BK186 := Aside0.mk (blk_below (Gtr.bk BK186.out) hb); clear hb hbox hg; have hnb27 := NB187_186.out; have hnc27 := NB186_187.out; have hcz28_0 := fun o_ => blk_cell BK187.out o_; have hfz28_0 := fun o_ => blk_frozen BK187.out o_))
    go_ret
    exact ⟨Gtr.fe, (Gtr.bw HB.out)⟩
  ·rw [if_neg c4] at H
   have c4b0 : (a1_1 == 0) = false := beq_eq_false_iff_ne.mpr c4
   have c4b1 : (a1_1 != 0) = true := bne_iff_ne.mpr c4
   obtain rfl := Option.some.inj H
   go_enter Tryz.func163, Tryz.ntmps163
   go_wp2_with (first | ((with_reducible refine gate_dst (N := 2) rfl ?_); (try (refine gate_guard (by rfl) ?_; dsimp only)); refine box_event rfl (N := 2) rfl (cs := #[.slice A0_0 l0_0.length c0_0, .int .i64 a0_1]) (t := 34) (by first | (go_simp; done) | (go_simp; rfl)) ?_; intro gb186 hg w29 hbox hb; have BK186 := Aside0.mk (hbox); have GW186 := Aside0.mk (Gtr.gz hg (Gtr.bw HB.out)); have GE186 := GW186; replace HB := Aside0.mk (below_step (Gtr.bw HB.out) hb); clear hb hbox hg) | ((with_reducible refine gate_dst (N := 3) rfl ?_); (try (refine gate_guard (by rfl) ?_; dsimp only)); refine box_event rfl (N := 3) rfl (cs := #[.int .i64 a1_0, .int .i64 a1_1, .int .i64 a1_2, .int .i64 a1_3, .int .i64 a1_4, .string a1_5, .slice A1_6 l1_6.length c1_6]) (t := 85) (by first | (go_simp; done) | (go_simp; rfl)) ?_; intro gb187 hg w30 hbox hb; have BK187 := Aside0.mk (hbox); have GW187 := Aside0.mk (Gtr.gz hg (Gtr.bw HB.out)); have GE187 := GW187; replace HB := Aside0.mk (below_step (Gtr.bw HB.out) hb); have NB186_187 := Aside0.mk (Gtr.nl hg (Gtr.bk BK186.out)); have NB187_186 := Aside0.mk NB186_187.out.symm; replace BK186 := Aside0.mk (blk_below (Gtr.bk BK186.out) hb); clear hb hbox hg; have hnb31 := NB187_186.out; have hnc31 := NB186_187.out; have hcz32_0 := fun o_ => blk_cell BK187.out o_; have hfz32_0 := fun o_ => blk_frozen BK187.out o_))
   go_ret
   exact ⟨Gtr.fe, (Gtr.bw HB.out)⟩
 ·rw [if_neg c3] at H
  have c3b0 : (a1_0 == 0) = false := beq_eq_false_iff_ne.mpr c3
  have c3b1 : (a1_0 != 0) = true := bne_iff_ne.mpr c3
  have HC33 := Aside0.mk H
  clear H
  go_enter Tryz.func163, Tryz.ntmps163
  go_upto_region 3 with (first | ((with_reducible refine gate_dst (N := 2) rfl ?_); (try (refine gate_guard (by rfl) ?_; dsimp only)); refine box_event rfl (N := 2) rfl (cs := #[.slice A0_0 l0_0.length c0_0, .int .i64 a0_1]) (t := 34) (by first | (go_simp; done) | (go_simp; rfl)) ?_; intro gb186 hg w34 hbox hb; have BK186 := Aside0.mk (hbox); have GW186 := Aside0.mk (Gtr.gz hg (Gtr.bw HB.out)); have GE186 := GW186; replace HB := Aside0.mk (below_step (Gtr.bw HB.out) hb); clear hb hbox hg) | ((with_reducible refine gate_dst (N := 3) rfl ?_); (try (refine gate_guard (by rfl) ?_; dsimp only)); refine box_event rfl (N := 3) rfl (cs := #[.int .i64 a1_0, .int .i64 a1_1, .int .i64 a1_2, .int .i64 a1_3, .int .i64 a1_4, .string a1_5, .slice A1_6 l1_6.length c1_6]) (t := 85) (by first | (go_simp; done) | (go_simp; rfl)) ?_; intro gb187 hg w35 hbox hb; have BK187 := Aside0.mk (hbox); have GW187 := Aside0.mk (Gtr.gz hg (Gtr.bw HB.out)); have GE187 := GW187; replace HB := Aside0.mk (below_step (Gtr.bw HB.out) hb); have NB186_187 := Aside0.mk (Gtr.nl hg (Gtr.bk BK186.out)); have NB187_186 := Aside0.mk NB186_187.out.symm; replace BK186 := Aside0.mk (blk_below (Gtr.bk BK186.out) hb); clear hb hbox hg; have hnb36 := NB187_186.out; have hnc36 := NB186_187.out; have hcz37_0 := fun o_ => blk_cell BK187.out o_; have hfz37_0 := fun o_ => blk_frozen BK187.out o_))
  (try simp only [Act.put, List.setIfInBounds_toArray, List.set_cons_zero, List.set_cons_succ])
  go_cut [58] (fun v58 wc => ∃ (kq : Nat) (x58_32 : Bool), v58 = .bool x58_32 ∧ Aside0 (spec_l3Node.j0 kq x58_32 l0_0 a0_1 a1_0 a1_1 a1_2 a1_3 a1_4 a1_5 l1_6 = some r) ∧ Aside0 (kq ≤ k) ∧ Aside0 (wc.heap[gb186]? = some (.cells #[(.slice A0_0 l0_0.length c0_0), .int .i64 a0_1] 34 (0, 0))) ∧ Aside0 (wc.heap[gb187]? = some (.cells #[.int .i64 a1_0, .int .i64 a1_1, .int .i64 a1_2, .int .i64 a1_3, .int .i64 a1_4, .string a1_5, (.slice A1_6 l1_6.length c1_6)] 85 (0, 0))) ∧ Aside0 (Below w.heap.size w wc))
  case first =>
   have H := HC33.out
   clear HC33
   replace H := Option.bind_eq_some_iff.mp H
   obtain ⟨t188, A380, H⟩ := H
   try dsimp only at H
   have A38 := Aside0.mk A380
   clear A380
   by_cases c39 : t188 = true
   ·subst c39
    have H1 := H
    rw [if_pos rfl] at H1
    clear H
    have H := H1
    clear H1
    replace H := Option.bind_eq_some_iff.mp H
    obtain ⟨t189, A400, H⟩ := H
    try dsimp only at H
    have A40 := Aside0.mk A400
    clear A400
    by_cases c41 : t189 = true
    ·subst c41
     have H1 := H
     rw [if_pos rfl] at H1
     clear H
     have H := H1
     clear H1
     replace H := Option.bind_eq_some_iff.mp H
     obtain ⟨t190, A420, H⟩ := H
     try dsimp only at H
     have A42 := Aside0.mk A420
     clear A420
     by_cases c43 : t190 = true
     ·subst c43
      have H1 := H
      rw [if_pos rfl] at H1
      clear H
      have H := H1
      clear H1
      replace H := Option.bind_eq_some_iff.mp H
      obtain ⟨t191, A440, H⟩ := H
      try dsimp only at H
      have A44 := Aside0.mk A440
      clear A440
      have H' := Aside0.mk H
      clear H
      have hnb45 := NB187_186.out
      have hnc45 := NB186_187.out
      have hcz46_0 := fun o_ => blk_cell BK187.out o_
      have hcz46_0 := fun o_ => blk_cell BK187.out o_
      have hcz46_0 := fun o_ => blk_cell BK187.out o_
      have hcz46_0 := fun o_ => blk_cell BK187.out o_
      have hcz46_0 := fun o_ => blk_cell BK187.out o_
      have hcz46_0 := fun o_ => blk_cell BK187.out o_
      have hcz46_0 := fun o_ => blk_cell BK187.out o_
      have hfz46_0 := fun o_ => blk_frozen BK187.out o_
      have hfz46_0 := fun o_ => blk_frozen BK187.out o_
      have hfz46_0 := fun o_ => blk_frozen BK187.out o_
      have hfz46_0 := fun o_ => blk_frozen BK187.out o_
      have hfz46_0 := fun o_ => blk_frozen BK187.out o_
      have hfz46_0 := fun o_ => blk_frozen BK187.out o_
      have hfz46_0 := fun o_ => blk_frozen BK187.out o_
      go_wp2_with (first | ((with_reducible refine gate_callee (f := 51) rfl ?_); refine goesL_ (some 39) rfl rfl Tryz.func51 (by kernel_rfl) rfl #[.int .i64 a1_1] rfl (by (try simp only [List.map_toArray, List.map_cons, List.map_nil]); first | done | rfl | (simp only [List.length_drop, List.length_take]; rfl)) ?_; (with_reducible refine (spec_l1Mode.calls a1_1 true _ A38.out).mono ?_); rintro e w' ⟨rfl, ⟨nd, rfl⟩⟩; refine ⟨_, rfl, ?_⟩) | (go_at_call 88; (with_reducible refine (spec_l1In.calls a1_2 0 99 true _ A40.out).mono ?_); rintro e w' ⟨rfl, ⟨nd, rfl⟩⟩) | (go_at_call 88; (with_reducible refine (spec_l1In.calls a1_3 0 99 true _ A42.out).mono ?_); rintro e w' ⟨rfl, ⟨nd, rfl⟩⟩) | (go_at_call 88; (with_reducible refine (spec_l1In.calls a1_4 0 1000000 t191 _ A44.out).mono ?_); rintro e w' ⟨rfl, ⟨nd, rfl⟩⟩))
      go_meet
      case rel => exact ⟨_, (!t191), Gtr.fr, H', ⟨by first | omega | exact Nat.le_refl _⟩, ⟨by (with_reducible repeat (first | refine blk_drewN ?_ _ | refine blk_drew ?_ | refine blk_alloc ?_ _)); exact BK186.out⟩, ⟨by (with_reducible repeat (first | refine blk_drewN ?_ _ | refine blk_drew ?_ | refine blk_alloc ?_ _)); exact BK187.out⟩, ⟨(Gtr.bw HB.out)⟩⟩
     ·replace c43 := Bool.eq_false_iff.mpr c43
      subst c43
      have H1 : (spec_l3Node.j0 k true l0_0 a0_1 a1_0 a1_1 a1_2 a1_3 a1_4 a1_5 l1_6) = some r := by rw [if_neg (show ¬ (false = true) by decide)] at H; exact H
      clear H
      have H := H1
      clear H1
      have H' := Aside0.mk H
      clear H
      have hnb47 := NB187_186.out
      have hnc47 := NB186_187.out
      have hcz48_0 := fun o_ => blk_cell BK187.out o_
      have hcz48_0 := fun o_ => blk_cell BK187.out o_
      have hcz48_0 := fun o_ => blk_cell BK187.out o_
      have hcz48_0 := fun o_ => blk_cell BK187.out o_
      have hcz48_0 := fun o_ => blk_cell BK187.out o_
      have hcz48_0 := fun o_ => blk_cell BK187.out o_
      have hcz48_0 := fun o_ => blk_cell BK187.out o_
      have hfz48_0 := fun o_ => blk_frozen BK187.out o_
      have hfz48_0 := fun o_ => blk_frozen BK187.out o_
      have hfz48_0 := fun o_ => blk_frozen BK187.out o_
      have hfz48_0 := fun o_ => blk_frozen BK187.out o_
      have hfz48_0 := fun o_ => blk_frozen BK187.out o_
      have hfz48_0 := fun o_ => blk_frozen BK187.out o_
      have hfz48_0 := fun o_ => blk_frozen BK187.out o_
      go_wp2_with (first | ((with_reducible refine gate_callee (f := 51) rfl ?_); refine goesL_ (some 39) rfl rfl Tryz.func51 (by kernel_rfl) rfl #[.int .i64 a1_1] rfl (by (try simp only [List.map_toArray, List.map_cons, List.map_nil]); first | done | rfl | (simp only [List.length_drop, List.length_take]; rfl)) ?_; (with_reducible refine (spec_l1Mode.calls a1_1 true _ A38.out).mono ?_); rintro e w' ⟨rfl, ⟨nd, rfl⟩⟩; refine ⟨_, rfl, ?_⟩) | (go_at_call 88; (with_reducible refine (spec_l1In.calls a1_2 0 99 true _ A40.out).mono ?_); rintro e w' ⟨rfl, ⟨nd, rfl⟩⟩) | (go_at_call 88; (with_reducible refine (spec_l1In.calls a1_3 0 99 false _ A42.out).mono ?_); rintro e w' ⟨rfl, ⟨nd, rfl⟩⟩))
      go_meet
      case rel => exact ⟨_, (true), Gtr.fr, H', ⟨by first | omega | exact Nat.le_refl _⟩, ⟨by (with_reducible repeat (first | refine blk_drewN ?_ _ | refine blk_drew ?_ | refine blk_alloc ?_ _)); exact BK186.out⟩, ⟨by (with_reducible repeat (first | refine blk_drewN ?_ _ | refine blk_drew ?_ | refine blk_alloc ?_ _)); exact BK187.out⟩, ⟨(Gtr.bw HB.out)⟩⟩
    ·replace c41 := Bool.eq_false_iff.mpr c41
     subst c41
     have H1 : (spec_l3Node.j0 k true l0_0 a0_1 a1_0 a1_1 a1_2 a1_3 a1_4 a1_5 l1_6) = some r := by rw [if_neg (show ¬ (false = true) by decide)] at H; exact H
     clear H
     have H := H1
     clear H1
     have H' := Aside0.mk H
     clear H
     have hnb49 := NB187_186.out
     have hnc49 := NB186_187.out
     have hcz50_0 := fun o_ => blk_cell BK187.out o_
     have hcz50_0 := fun o_ => blk_cell BK187.out o_
     have hcz50_0 := fun o_ => blk_cell BK187.out o_
     have hcz50_0 := fun o_ => blk_cell BK187.out o_
     have hcz50_0 := fun o_ => blk_cell BK187.out o_
     have hcz50_0 := fun o_ => blk_cell BK187.out o_
     have hcz50_0 := fun o_ => blk_cell BK187.out o_
     have hfz50_0 := fun o_ => blk_frozen BK187.out o_
     have hfz50_0 := fun o_ => blk_frozen BK187.out o_
     have hfz50_0 := fun o_ => blk_frozen BK187.out o_
     have hfz50_0 := fun o_ => blk_frozen BK187.out o_
     have hfz50_0 := fun o_ => blk_frozen BK187.out o_
     have hfz50_0 := fun o_ => blk_frozen BK187.out o_
     have hfz50_0 := fun o_ => blk_frozen BK187.out o_
     go_wp2_with (first | ((with_reducible refine gate_callee (f := 51) rfl ?_); refine goesL_ (some 39) rfl rfl Tryz.func51 (by kernel_rfl) rfl #[.int .i64 a1_1] rfl (by (try simp only [List.map_toArray, List.map_cons, List.map_nil]); first | done | rfl | (simp only [List.length_drop, List.length_take]; rfl)) ?_; (with_reducible refine (spec_l1Mode.calls a1_1 true _ A38.out).mono ?_); rintro e w' ⟨rfl, ⟨nd, rfl⟩⟩; refine ⟨_, rfl, ?_⟩) | (go_at_call 88; (with_reducible refine (spec_l1In.calls a1_2 0 99 false _ A40.out).mono ?_); rintro e w' ⟨rfl, ⟨nd, rfl⟩⟩))
     go_meet
     case rel => exact ⟨_, (true), Gtr.fr, H', ⟨by first | omega | exact Nat.le_refl _⟩, ⟨by (with_reducible repeat (first | refine blk_drewN ?_ _ | refine blk_drew ?_ | refine blk_alloc ?_ _)); exact BK186.out⟩, ⟨by (with_reducible repeat (first | refine blk_drewN ?_ _ | refine blk_drew ?_ | refine blk_alloc ?_ _)); exact BK187.out⟩, ⟨(Gtr.bw HB.out)⟩⟩
   ·replace c39 := Bool.eq_false_iff.mpr c39
    subst c39
    have H1 : (spec_l3Node.j0 k true l0_0 a0_1 a1_0 a1_1 a1_2 a1_3 a1_4 a1_5 l1_6) = some r := by rw [if_neg (show ¬ (false = true) by decide)] at H; exact H
    clear H
    have H := H1
    clear H1
    have H' := Aside0.mk H
    clear H
    have hnb51 := NB187_186.out
    have hnc51 := NB186_187.out
    have hcz52_0 := fun o_ => blk_cell BK187.out o_
    have hcz52_0 := fun o_ => blk_cell BK187.out o_
    have hcz52_0 := fun o_ => blk_cell BK187.out o_
    have hcz52_0 := fun o_ => blk_cell BK187.out o_
    have hcz52_0 := fun o_ => blk_cell BK187.out o_
    have hcz52_0 := fun o_ => blk_cell BK187.out o_
    have hcz52_0 := fun o_ => blk_cell BK187.out o_
    have hfz52_0 := fun o_ => blk_frozen BK187.out o_
    have hfz52_0 := fun o_ => blk_frozen BK187.out o_
    have hfz52_0 := fun o_ => blk_frozen BK187.out o_
    have hfz52_0 := fun o_ => blk_frozen BK187.out o_
    have hfz52_0 := fun o_ => blk_frozen BK187.out o_
    have hfz52_0 := fun o_ => blk_frozen BK187.out o_
    have hfz52_0 := fun o_ => blk_frozen BK187.out o_
    go_wp2_with (first | ((with_reducible refine gate_callee (f := 51) rfl ?_); refine goesL_ (some 39) rfl rfl Tryz.func51 (by kernel_rfl) rfl #[.int .i64 a1_1] rfl (by (try simp only [List.map_toArray, List.map_cons, List.map_nil]); first | done | rfl | (simp only [List.length_drop, List.length_take]; rfl)) ?_; (with_reducible refine (spec_l1Mode.calls a1_1 false _ A38.out).mono ?_); rintro e w' ⟨rfl, ⟨nd, rfl⟩⟩; refine ⟨_, rfl, ?_⟩))
    go_meet
    case rel => exact ⟨_, (true), Gtr.fr, H', ⟨by first | omega | exact Nat.le_refl _⟩, ⟨by (with_reducible repeat (first | refine blk_drewN ?_ _ | refine blk_drew ?_ | refine blk_alloc ?_ _)); exact BK186.out⟩, ⟨by (with_reducible repeat (first | refine blk_drewN ?_ _ | refine blk_drew ?_ | refine blk_alloc ?_ _)); exact BK187.out⟩, ⟨(Gtr.bw HB.out)⟩⟩
  case rest =>
   clear HC33
   (try clear c1);(try clear c2);(try clear p2);(try clear c3);(try clear c3b0);(try clear c3b1);(try clear c4);(try clear c4b0);(try clear c4b1);(try clear c5);(try clear c5b0);(try clear c5b1);(try clear c6);(try clear c6b0);(try clear c6b1);(try clear c7);(try clear c7b0);(try clear c7b1);(try clear c8);(try clear c8b0);(try clear c8b1);(try clear c11);(try clear c15);(try clear c16);(try clear c19);(try clear c23);(try clear c27);(try clear c31);(try clear c36);(try clear c39);(try clear c41);(try clear c43);(try clear c45);(try clear c47);(try clear c49);(try clear c51);(try clear hcz12_0);(try clear hcz12_1);(try clear hcz12_2);(try clear hcz12_3);(try clear hcz12_4);(try clear hcz12_5);(try clear hcz12_6);(try clear hcz16_0);(try clear hcz16_1);(try clear hcz16_2);(try clear hcz16_3);(try clear hcz16_4);(try clear hcz16_5);(try clear hcz16_6);(try clear hcz20_0);(try clear hcz20_1);(try clear hcz20_2);(try clear hcz20_3);(try clear hcz20_4);(try clear hcz20_5);(try clear hcz20_6);(try clear hcz24_0);(try clear hcz24_1);(try clear hcz24_2);(try clear hcz24_3);(try clear hcz24_4);(try clear hcz24_5);(try clear hcz24_6);(try clear hcz28_0);(try clear hcz28_1);(try clear hcz28_2);(try clear hcz28_3);(try clear hcz28_4);(try clear hcz28_5);(try clear hcz28_6);(try clear hcz32_0);(try clear hcz32_1);(try clear hcz32_2);(try clear hcz32_3);(try clear hcz32_4);(try clear hcz32_5);(try clear hcz32_6);(try clear hcz37_0);(try clear hcz37_1);(try clear hcz37_2);(try clear hcz37_3);(try clear hcz37_4);(try clear hcz37_5);(try clear hcz37_6);(try clear hcz46_0);(try clear hcz46_1);(try clear hcz46_2);(try clear hcz46_3);(try clear hcz46_4);(try clear hcz46_5);(try clear hcz46_6);(try clear hcz48_0);(try clear hcz48_1);(try clear hcz48_2);(try clear hcz48_3);(try clear hcz48_4);(try clear hcz48_5);(try clear hcz48_6);(try clear hcz50_0);(try clear hcz50_1);(try clear hcz50_2);(try clear hcz50_3);(try clear hcz50_4);(try clear hcz50_5);(try clear hcz50_6);(try clear hcz52_0);(try clear hcz52_1);(try clear hcz52_2);(try clear hcz52_3);(try clear hcz52_4);(try clear hcz52_5);(try clear hcz52_6);(try clear hfz12_0);(try clear hfz12_1);(try clear hfz12_2);(try clear hfz12_3);(try clear hfz12_4);(try clear hfz12_5);(try clear hfz12_6);(try clear hfz16_0);(try clear hfz16_1);(try clear hfz16_2);(try clear hfz16_3);(try clear hfz16_4);(try clear hfz16_5);(try clear hfz16_6);(try clear hfz20_0);(try clear hfz20_1);(try clear hfz20_2);(try clear hfz20_3);(try clear hfz20_4);(try clear hfz20_5);(try clear hfz20_6);(try clear hfz24_0);(try clear hfz24_1);(try clear hfz24_2);(try clear hfz24_3);(try clear hfz24_4);(try clear hfz24_5);(try clear hfz24_6);(try clear hfz28_0);(try clear hfz28_1);(try clear hfz28_2);(try clear hfz28_3);(try clear hfz28_4);(try clear hfz28_5);(try clear hfz28_6);(try clear hfz32_0);(try clear hfz32_1);(try clear hfz32_2);(try clear hfz32_3);(try clear hfz32_4);(try clear hfz32_5);(try clear hfz32_6);(try clear hfz37_0);(try clear hfz37_1);(try clear hfz37_2);(try clear hfz37_3);(try clear hfz37_4);(try clear hfz37_5);(try clear hfz37_6);(try clear hfz46_0);(try clear hfz46_1);(try clear hfz46_2);(try clear hfz46_3);(try clear hfz46_4);(try clear hfz46_5);(try clear hfz46_6);(try clear hfz48_0);(try clear hfz48_1);(try clear hfz48_2);(try clear hfz48_3);(try clear hfz48_4);(try clear hfz48_5);(try clear hfz48_6);(try clear hfz50_0);(try clear hfz50_1);(try clear hfz50_2);(try clear hfz50_3);(try clear hfz50_4);(try clear hfz50_5);(try clear hfz50_6);(try clear hfz52_0);(try clear hfz52_1);(try clear hfz52_2);(try clear hfz52_3);(try clear hfz52_4);(try clear hfz52_5);(try clear hfz52_6)
   obtain ⟨kq, x58_32, rfl, HA, HJ32, BK186, BK187, HB⟩ := hcut
   cases kq with
   | zero => exact absurd HA.out (by simp [spec_l3Node.j0])
   | succ kj32 =>
    have H := HA.out
    clear HA
    simp only [spec_l3Node.j0] at H
    by_cases c53 : x58_32 = true
    ·subst c53
     have H1 := H
     rw [if_pos rfl] at H1
     clear H
     have H := H1
     clear H1
     obtain rfl := Option.some.inj H
     go_wp2
     go_ret
     exact ⟨Gtr.fe, (Gtr.bw HB.out)⟩
    ·replace c53 := Bool.eq_false_iff.mpr c53
     subst c53
     have H1 : (if a1_0 = 1 then (if (a1_5.size : Int) ≤ 60 then (some ((l1_6.length : Int) == 0)) else (some false)) else (if a1_0 = 2 then (if a1_5.toList = ([] : List UInt8) then ((spec_l3Entries.f l0_0 a0_1 l1_6).bind fun t192 => (some t192)) else (some false)) else (if a1_0 = 3 then ((spec_l2Path.f kj32 a1_5).bind fun t193 => (if t193 = true then (some ((l1_6.length : Int) == 0)) else (some false))) else (some false)))) = some r := by rw [if_neg (show ¬ (false = true) by decide)] at H; exact H
     clear H
     have H := H1
     clear H1
     by_cases c54 : a1_0 = 1
     ·rw [if_pos c54] at H
      have c54b0 : (a1_0 == 1) = true := beq_iff_eq.mpr c54
      have c54b1 : (a1_0 != 1) = false := bne_eq_false_iff_eq.mpr c54
      clear c54
      by_cases c55 : (a1_5.size : Int) ≤ 60
      ·rw [if_pos c55] at H
       have c55b0 : decide ((a1_5.size : Int) ≤ 60) = true := decide_eq_true c55
       have c55b1 : decide (a1_5.size ≤ 60) = true := decide_eq_true (by omega)
       clear c55
       obtain rfl := Option.some.inj H
       have hnb56 := NB187_186.out
       have hnc56 := NB186_187.out
       have hcz57_0 := fun o_ => blk_cell BK187.out o_
       have hcz57_0 := fun o_ => blk_cell BK187.out o_
       have hcz57_0 := fun o_ => blk_cell BK187.out o_
       have hcz57_0 := fun o_ => blk_cell BK187.out o_
       have hcz57_0 := fun o_ => blk_cell BK187.out o_
       have hcz57_0 := fun o_ => blk_cell BK187.out o_
       have hcz57_0 := fun o_ => blk_cell BK187.out o_
       have hfz57_0 := fun o_ => blk_frozen BK187.out o_
       have hfz57_0 := fun o_ => blk_frozen BK187.out o_
       have hfz57_0 := fun o_ => blk_frozen BK187.out o_
       have hfz57_0 := fun o_ => blk_frozen BK187.out o_
       have hfz57_0 := fun o_ => blk_frozen BK187.out o_
       have hfz57_0 := fun o_ => blk_frozen BK187.out o_
       have hfz57_0 := fun o_ => blk_frozen BK187.out o_
       go_wp2
       go_ret
       exact ⟨Gtr.fe, (Gtr.bw HB.out)⟩
      ·rw [if_neg c55] at H
       have c55b0 : decide ((a1_5.size : Int) ≤ 60) = false := decide_eq_false c55
       have c55b1 : decide (a1_5.size ≤ 60) = false := decide_eq_false (by omega)
       clear c55
       obtain rfl := Option.some.inj H
       have hnb58 := NB187_186.out
       have hnc58 := NB186_187.out
       have hcz59_0 := fun o_ => blk_cell BK187.out o_
       have hcz59_0 := fun o_ => blk_cell BK187.out o_
       have hcz59_0 := fun o_ => blk_cell BK187.out o_
       have hcz59_0 := fun o_ => blk_cell BK187.out o_
       have hcz59_0 := fun o_ => blk_cell BK187.out o_
       have hcz59_0 := fun o_ => blk_cell BK187.out o_
       have hcz59_0 := fun o_ => blk_cell BK187.out o_
       have hfz59_0 := fun o_ => blk_frozen BK187.out o_
       have hfz59_0 := fun o_ => blk_frozen BK187.out o_
       have hfz59_0 := fun o_ => blk_frozen BK187.out o_
       have hfz59_0 := fun o_ => blk_frozen BK187.out o_
       have hfz59_0 := fun o_ => blk_frozen BK187.out o_
       have hfz59_0 := fun o_ => blk_frozen BK187.out o_
       have hfz59_0 := fun o_ => blk_frozen BK187.out o_
       go_wp2
       go_ret
       exact ⟨Gtr.fe, (Gtr.bw HB.out)⟩
     ·rw [if_neg c54] at H
      have c54b0 : (a1_0 == 1) = false := beq_eq_false_iff_ne.mpr c54
      have c54b1 : (a1_0 != 1) = true := bne_iff_ne.mpr c54
      by_cases c60 : a1_0 = 2
      ·rw [if_pos c60] at H
       have c60b0 : (a1_0 == 2) = true := beq_iff_eq.mpr c60
       have c60b1 : (a1_0 != 2) = false := bne_eq_false_iff_eq.mpr c60
       clear c60
       by_cases c61 : a1_5.toList = ([] : List UInt8)
       ·rw [if_pos c61] at H
        have c61b0 : (a1_5.toList == ([] : List UInt8)) = true := beq_iff_eq.mpr c61
        have c61b1 : (a1_5.toList != ([] : List UInt8)) = false := bne_eq_false_iff_eq.mpr c61
        clear c61
        replace H := Option.bind_eq_some_iff.mp H
        obtain ⟨t192, A620, H⟩ := H
        try dsimp only at H
        have A62 := Aside0.mk A620
        clear A620
        obtain rfl := Option.some.inj H
        have hnb63 := NB187_186.out
        have hnc63 := NB186_187.out
        have hcz64_0 := fun o_ => blk_cell BK187.out o_
        have hcz64_0 := fun o_ => blk_cell BK187.out o_
        have hcz64_0 := fun o_ => blk_cell BK187.out o_
        have hcz64_0 := fun o_ => blk_cell BK187.out o_
        have hcz64_0 := fun o_ => blk_cell BK187.out o_
        have hcz64_0 := fun o_ => blk_cell BK187.out o_
        have hcz64_0 := fun o_ => blk_cell BK187.out o_
        have hfz64_0 := fun o_ => blk_frozen BK187.out o_
        have hfz64_0 := fun o_ => blk_frozen BK187.out o_
        have hfz64_0 := fun o_ => blk_frozen BK187.out o_
        have hfz64_0 := fun o_ => blk_frozen BK187.out o_
        have hfz64_0 := fun o_ => blk_frozen BK187.out o_
        have hfz64_0 := fun o_ => blk_frozen BK187.out o_
        have hfz64_0 := fun o_ => blk_frozen BK187.out o_
        have hcz65_0 := fun o_ => blk_cell BK186.out o_
        have hcz65_0 := fun o_ => blk_cell BK186.out o_
        have hfz65_0 := fun o_ => blk_frozen BK186.out o_
        have hfz65_0 := fun o_ => blk_frozen BK186.out o_
        go_wp2_with (first | (go_at_call 194; (with_reducible refine (spec_l3Entries.calls _ _ l0_0 a0_1 _ _ l1_6 t192 _ ?side1 ?side2 ?side3 ?side4 A62.out).mono ?_); (case side1 => repeat (first | exact (Kd.C_below HR0_0.out HB.out) | (with_reducible refine Kd.C_alloc ?_ _) | (with_reducible refine Kd.C_drewN ?_ _) | (with_reducible refine Kd.C_drew ?_))); (case side2 => exact HC0_0.out); (case side3 => repeat (first | exact (Kd.C_below HR1_6.out HB.out) | (with_reducible refine Kd.C_alloc ?_ _) | (with_reducible refine Kd.C_drewN ?_ _) | (with_reducible refine Kd.C_drew ?_))); (case side4 => exact HC1_6.out); rintro e w66 ⟨rfl, hb⟩; replace BK186 := Aside0.mk (blk_below (Gtr.bk BK186.out) hb); replace BK187 := Aside0.mk (blk_below (Gtr.bk BK187.out) hb); replace HB := Aside0.mk (below_step (Gtr.bw HB.out) hb); (try clear hb); (try clear hb2); (try clear hk); (try clear hi)))
        go_ret
        exact ⟨Gtr.fe, (Gtr.bw HB.out)⟩
       ·rw [if_neg c61] at H
        have c61b0 : (a1_5.toList == ([] : List UInt8)) = false := beq_eq_false_iff_ne.mpr c61
        have c61b1 : (a1_5.toList != ([] : List UInt8)) = true := bne_iff_ne.mpr c61
        obtain rfl := Option.some.inj H
        have hnb67 := NB187_186.out
        have hnc67 := NB186_187.out
        have hcz68_0 := fun o_ => blk_cell BK187.out o_
        have hcz68_0 := fun o_ => blk_cell BK187.out o_
        have hcz68_0 := fun o_ => blk_cell BK187.out o_
        have hcz68_0 := fun o_ => blk_cell BK187.out o_
        have hcz68_0 := fun o_ => blk_cell BK187.out o_
        have hcz68_0 := fun o_ => blk_cell BK187.out o_
        have hcz68_0 := fun o_ => blk_cell BK187.out o_
        have hfz68_0 := fun o_ => blk_frozen BK187.out o_
        have hfz68_0 := fun o_ => blk_frozen BK187.out o_
        have hfz68_0 := fun o_ => blk_frozen BK187.out o_
        have hfz68_0 := fun o_ => blk_frozen BK187.out o_
        have hfz68_0 := fun o_ => blk_frozen BK187.out o_
        have hfz68_0 := fun o_ => blk_frozen BK187.out o_
        have hfz68_0 := fun o_ => blk_frozen BK187.out o_
        go_wp2
        go_ret
        exact ⟨Gtr.fe, (Gtr.bw HB.out)⟩
      ·rw [if_neg c60] at H
       have c60b0 : (a1_0 == 2) = false := beq_eq_false_iff_ne.mpr c60
       have c60b1 : (a1_0 != 2) = true := bne_iff_ne.mpr c60
       by_cases c69 : a1_0 = 3
       ·rw [if_pos c69] at H
        have c69b0 : (a1_0 == 3) = true := beq_iff_eq.mpr c69
        have c69b1 : (a1_0 != 3) = false := bne_eq_false_iff_eq.mpr c69
        clear c69
        replace H := Option.bind_eq_some_iff.mp H
        obtain ⟨t193, A700, H⟩ := H
        try dsimp only at H
        have A70 := Aside0.mk A700
        clear A700
        by_cases c71 : t193 = true
        ·subst c71
         have H1 := H
         rw [if_pos rfl] at H1
         clear H
         have H := H1
         clear H1
         obtain rfl := Option.some.inj H
         have hnb72 := NB187_186.out
         have hnc72 := NB186_187.out
         have hcz73_0 := fun o_ => blk_cell BK187.out o_
         have hcz73_0 := fun o_ => blk_cell BK187.out o_
         have hcz73_0 := fun o_ => blk_cell BK187.out o_
         have hcz73_0 := fun o_ => blk_cell BK187.out o_
         have hcz73_0 := fun o_ => blk_cell BK187.out o_
         have hcz73_0 := fun o_ => blk_cell BK187.out o_
         have hcz73_0 := fun o_ => blk_cell BK187.out o_
         have hfz73_0 := fun o_ => blk_frozen BK187.out o_
         have hfz73_0 := fun o_ => blk_frozen BK187.out o_
         have hfz73_0 := fun o_ => blk_frozen BK187.out o_
         have hfz73_0 := fun o_ => blk_frozen BK187.out o_
         have hfz73_0 := fun o_ => blk_frozen BK187.out o_
         have hfz73_0 := fun o_ => blk_frozen BK187.out o_
         have hfz73_0 := fun o_ => blk_frozen BK187.out o_
         go_wp2_with (first | (go_at_call 60; (with_reducible refine (spec_l2Path.calls kj32 a1_5 true _ A70.out).mono ?_); rintro e w74 ⟨rfl, hb⟩; replace BK186 := Aside0.mk (blk_below (Gtr.bk BK186.out) hb); replace BK187 := Aside0.mk (blk_below (Gtr.bk BK187.out) hb); replace HB := Aside0.mk (below_step (Gtr.bw HB.out) hb); (try clear hb); (try clear hb2); (try clear hk); (try clear hi); have hcz75_0 := fun o_ => blk_cell BK187.out o_; have hfz75_0 := fun o_ => blk_frozen BK187.out o_))
         go_ret
         exact ⟨Gtr.fe, (Gtr.bw HB.out)⟩
        ·replace c71 := Bool.eq_false_iff.mpr c71
         subst c71
         have H1 : (some false) = some r := by rw [if_neg (show ¬ (false = true) by decide)] at H; exact H
         clear H
         have H := H1
         clear H1
         obtain rfl := Option.some.inj H
         have hnb76 := NB187_186.out
         have hnc76 := NB186_187.out
         have hcz77_0 := fun o_ => blk_cell BK187.out o_
         have hcz77_0 := fun o_ => blk_cell BK187.out o_
         have hcz77_0 := fun o_ => blk_cell BK187.out o_
         have hcz77_0 := fun o_ => blk_cell BK187.out o_
         have hcz77_0 := fun o_ => blk_cell BK187.out o_
         have hcz77_0 := fun o_ => blk_cell BK187.out o_
         have hcz77_0 := fun o_ => blk_cell BK187.out o_
         have hfz77_0 := fun o_ => blk_frozen BK187.out o_
         have hfz77_0 := fun o_ => blk_frozen BK187.out o_
         have hfz77_0 := fun o_ => blk_frozen BK187.out o_
         have hfz77_0 := fun o_ => blk_frozen BK187.out o_
         have hfz77_0 := fun o_ => blk_frozen BK187.out o_
         have hfz77_0 := fun o_ => blk_frozen BK187.out o_
         have hfz77_0 := fun o_ => blk_frozen BK187.out o_
         go_wp2_with (first | (go_at_call 60; (with_reducible refine (spec_l2Path.calls kj32 a1_5 false _ A70.out).mono ?_); rintro e w78 ⟨rfl, hb⟩; replace BK186 := Aside0.mk (blk_below (Gtr.bk BK186.out) hb); replace BK187 := Aside0.mk (blk_below (Gtr.bk BK187.out) hb); replace HB := Aside0.mk (below_step (Gtr.bw HB.out) hb); (try clear hb); (try clear hb2); (try clear hk); (try clear hi)))
         go_ret
         exact ⟨Gtr.fe, (Gtr.bw HB.out)⟩
       ·rw [if_neg c69] at H
        have c69b0 : (a1_0 == 3) = false := beq_eq_false_iff_ne.mpr c69
        have c69b1 : (a1_0 != 3) = true := bne_iff_ne.mpr c69
        obtain rfl := Option.some.inj H
        have hnb79 := NB187_186.out
        have hnc79 := NB186_187.out
        have hcz80_0 := fun o_ => blk_cell BK187.out o_
        have hcz80_0 := fun o_ => blk_cell BK187.out o_
        have hcz80_0 := fun o_ => blk_cell BK187.out o_
        have hcz80_0 := fun o_ => blk_cell BK187.out o_
        have hcz80_0 := fun o_ => blk_cell BK187.out o_
        have hcz80_0 := fun o_ => blk_cell BK187.out o_
        have hcz80_0 := fun o_ => blk_cell BK187.out o_
        have hfz80_0 := fun o_ => blk_frozen BK187.out o_
        have hfz80_0 := fun o_ => blk_frozen BK187.out o_
        have hfz80_0 := fun o_ => blk_frozen BK187.out o_
        have hfz80_0 := fun o_ => blk_frozen BK187.out o_
        have hfz80_0 := fun o_ => blk_frozen BK187.out o_
        have hfz80_0 := fun o_ => blk_frozen BK187.out o_
        have hfz80_0 := fun o_ => blk_frozen BK187.out o_
        go_wp2
        go_ret
        exact ⟨Gtr.fe, (Gtr.bw HB.out)⟩
def scN (ns : List Nd) (x : Int) : List Int := (ndR ns x).f6.map (·.f1)
def allN (n : Nat) : List Int := (List.range n).map (fun (i : Nat) => (i : Int))
theorem allN_len (n : Nat) : (allN n).length = n := by simp [allN]
theorem allN_mem (n : Nat) (x : Int) : x ∈ allN n ↔ 0 ≤ x ∧ x < n := by
  unfold allN
  rw [List.mem_map]
  constructor
  · rintro ⟨i, hi, rfl⟩
    have := List.mem_range.mp hi
    omega
  · rintro ⟨h0, h1⟩
    exact ⟨x.toNat, List.mem_range.mpr (by omega), by omega⟩
theorem l1Has_ev (m : List Int) (n : Int) (hm : m.length ≤ 1000000) : Ev (fun k => spec_l1Has.f k m n) (m.any (· == n)) := by
  have key : ∀ d i : Nat, i + d = m.length → Ev (fun k => spec_l1Has.l0 k n m (m.length : Int) (i : Int)) ((m.drop i).any (· == n)) := by
    intro d
    induction d with
    | zero =>
      intro i hi
      refine Ev.step (f := fun _ => some false) (fun k => ?_) ?_
      · simp only [spec_l1Has.l0]; rw [if_neg (by omega)]
      · rw [List.drop_of_length_le (by omega)]; exact Ev.now _
    | succ d ih =>
      intro i hi
      have hlt : i < m.length := by omega
      have hw := step_n (i := i) (n := m.length) hlt (by omega)
      have hrd : rd m (i : Int) = m[i] := by simp [rd, List.getD, hlt]
      rw [List.drop_eq_getElem_cons hlt, List.any_cons]
      by_cases hc : m[i] = n
      · rw [show (m[i] == n) = true by simpa using hc, Bool.true_or]
        refine Ev.step (f := fun _ => some true) (fun k => ?_) (Ev.now _)
        simp only [spec_l1Has.l0]
        rw [if_pos (by omega), if_pos (by omega), if_pos (by omega), hrd, if_pos hc]
      · rw [show (m[i] == n) = false by simpa using hc, Bool.false_or]
        refine Ev.step (fun k => ?_) (ih (i + 1) (by omega))
        simp only [spec_l1Has.l0]
        rw [if_pos (by omega), if_pos (by omega), if_pos (by omega), hrd, if_neg hc, hw]
  have h := key m.length 0 (by omega)
  rw [List.drop_zero] at h
  exact h
theorem l1Put_ev (m : List Int) (n : Int) (hm : m.length ≤ 1000000) : Ev (fun k => spec_l1Put.f k m n) (putM n m) := by
  have key : ∀ d i : Nat, i + d = m.length → Ev (fun k => spec_l1Put.l0 k m n (i : Int)) (m.take i ++ putM n (m.drop i)) := by
    intro d
    induction d with
    | zero =>
      intro i hi
      rw [List.drop_of_length_le (by omega), List.take_of_length_le (by omega)]
      refine Ev.step (f := fun _ => some (m ++ putM n [])) (fun k => ?_) (Ev.now _)
      simp only [spec_l1Put.l0]
      rw [if_neg (by omega)]
      try simp only [Option.bind_some]
      rw [if_pos (by omega), if_pos (by omega)]
      have e1 : (m.take ((i : Int)).toNat) = m := List.take_of_length_le (by omega)
      have e2 : (m.drop ((i : Int)).toNat) = [] := List.drop_of_length_le (by omega)
      simp only [e1, e2, Option.bind_some, List.nil_append, List.length_nil, List.append_nil]
      rw [if_pos (by omega)]
      try simp only [Option.bind_some]
      rw [if_pos (by omega)]
      try simp only [Option.bind_some]
      rw [if_pos (by simp; omega)]
      rfl
    | succ d ih =>
      intro i hi
      have hlt : i < m.length := by omega
      have hw := step_n (i := i) (n := m.length) hlt (by omega)
      have hrd : rd m (i : Int) = m[i] := by simp [rd, List.getD, hlt]
      rw [List.drop_eq_getElem_cons hlt]
      simp only [putM]
      by_cases hc : m[i] < n
      · rw [if_pos hc]
        have h := ih (i + 1) (by omega)
        rw [List.take_succ_eq_append_getElem hlt, List.append_assoc] at h
        refine Ev.step (fun k => ?_) h
        simp only [spec_l1Put.l0]
        rw [if_pos (by omega), if_pos (by omega), hrd, if_pos hc, hw]
      · rw [if_neg hc]
        by_cases hq : m[i] = n
        · rw [if_pos hq]
          refine Ev.step (f := fun _ => some m) (fun k => ?_) ?_
          · simp only [spec_l1Put.l0]
            rw [if_pos (by omega), if_pos (by omega), hrd, if_neg hc, if_pos hq]
          · rw [← List.drop_eq_getElem_cons hlt, List.take_append_drop]; exact Ev.now m
        · rw [if_neg hq]
          refine Ev.step (f := fun _ => some (m.take i ++ n :: m[i] :: m.drop (i + 1))) (fun k => ?_) (Ev.now _)
          simp only [spec_l1Put.l0]
          rw [if_pos (by omega), if_pos (by omega), hrd, if_neg hc, if_neg hq]
          simp only [Option.bind_some, List.nil_append, List.length_nil, Int.toNat_natCast]
          have e1 : (m.take i).length = i := by rw [List.length_take]; omega
          rw [if_pos (by omega), if_pos (by omega)]
          try simp only [Option.bind_some]
          rw [if_pos (by omega)]
          try simp only [Option.bind_some]
          rw [if_pos (by rw [List.length_append, e1, List.length_drop]; simp; omega)]
          rw [List.append_assoc, List.drop_eq_getElem_cons hlt]; rfl
  have h := key m.length 0 (by omega)
  rw [List.drop_zero, List.take_zero, List.nil_append] at h
  exact h
theorem has_true {met : List Int} {n : Int} (h : n ∈ met) : met.any (· == n) = true := List.any_eq_true.mpr ⟨n, h, by simp⟩
theorem has_false {met : List Int} {n : Int} (h : n ∉ met) : met.any (· == n) = false := by
  cases e : met.any (· == n) with
  | false => rfl
  | true =>
    obtain ⟨x, hx, hn⟩ := List.any_eq_true.mp e
    simp at hn
    rw [hn] at hx
    exact absurd hx h
theorem wrap_upM {i n : Nat} (h : i < n) (hn : n ≤ 4294967296) : IntKind.i64.wrap ((i : Int) + 1) = ((i + 1 : Nat) : Int) := (i64_w _).trans (by unfold wrap64; omega)
set_option maxHeartbeats 4000000 in
set_option maxRecDepth 100000 in
theorem met_walk (room : Int) (A0 : Option Addr) (c0 : Nat) (ns : List Nd) (w0 : World) (hr0 : Kd.C k85 w0 A0 ns.length ns) (hn : ns.length ≤ 1000) (hL : ∀ x, (ndR ns x).f6.length ≤ 4294967296) (hall : ∀ x, x ∈ allN ns.length → ∀ y, y ∈ scN ns x → y ∈ allN ns.length) (d : Nat) : ∀ (node : Int) (met r : List Int) (P0 : Nat → Prop) (u : Value) (w : World),
    Below w0.heap.size w0 w → Kd.R (Kd.int .i64) 3 w w0.heap.size P0 u met → node ∈ allN ns.length → MetIn (allN ns.length) met → dfs (scN ns) d node met = some r →
    Calls Tryz.prog 164 #[.agg #[.slice A0 ns.length c0, .int .i64 room], .int .i64 node, u] w fun e w' => ∃ v : Value, e = .returned v ∧ Kd.R (Kd.int .i64) 3 w' w0.heap.size (fun k => P0 k ∨ w.heap.size ≤ k) v r ∧ Below w0.heap.size w0 w' ∧ Kept w w' P0 := by
  have hu1 := Tryz.underlying34
  have hu2 := Tryz.underlying85
  have hu3 := Tryz.underlying144
  have HR0 := Aside0.mk hr0
  have HN := Aside0.mk hn
  have HL := Aside0.mk hL
  have HALL := Aside0.mk hall
  clear hr0 hn hL hall
  induction d with
  | zero => intro node met r P0 u w _ _ _ _ h; simp [dfs] at h
  | succ d ih =>
    intro node met r P0 u w hB ho hnode hmet h
    have HIH := Aside0.mk ih
    clear ih
    have hmlen : met.length ≤ 1000 := by
      have := nodup_len met (allN ns.length) hmet.nodup hmet.sub
      rw [allN_len] at this; have := HN.out; omega
    obtain ⟨A2, c2, rfl⟩ := Kd.R_slice ho
    obtain ⟨k1, hk1⟩ := Ev.rounds (l1Has_ev met node (by omega))
    have HH := Aside0.mk (fun (W : World) (hb : Below w.heap.size w W) => spec_l1Has.calls k1 A2 c2 met node _ W (Kd.C_below (Kd.R_reads' ho).2.2 hb) (Kd.R_reads' ho).2.1 hk1)
    have HBw := Aside0.mk hB
    have HO := Aside0.mk ho
    have HND := Aside0.mk hnode
    have HMET := Aside0.mk hmet
    clear hk1 hB ho hnode hmet
    unfold dfs at h
    by_cases hm : node ∈ met
    · rw [if_pos hm] at h
      injection h with h
      subst h
      rw [has_true hm] at HH
      clear hm
      go_enter Tryz.func164, Tryz.ntmps164
      go_wp2_with fail
      refine (HH.out _ (by repeat (first | exact Below.refl _ _ | apply below_alloc | apply pw_below_drewN | apply below_drew1))).mono ?_; rintro e w1 ⟨rfl, ⟨n1, rfl⟩⟩
      have hb1 : Below w.heap.size w ((w.alloc (.cells #[.slice A0 ns.length c0, .int .i64 room] 34 (0, 0))).drewN n1) := by repeat (first | exact Below.refl _ _ | apply below_alloc | apply pw_below_drewN | apply below_drew1)
      have HB1 := Aside0.mk hb1
      clear hb1
      go_wp2
      go_ret
      exact ⟨_, rfl, Kd.R_mono (Kd.R_below HO.out HB1.out) (fun _ hk => .inl hk), HBw.out.trans (HB1.out.mono HBw.out.size), Kept.of_below HB1.out _⟩
    · rw [if_neg hm] at h
      rw [has_false hm] at HH
      clear hm
      obtain ⟨k2, hk2⟩ := Ev.rounds (l1Put_ev met node (by omega))
      have HP := Aside0.mk (fun P v W hB ho => spec_l1Put.calls k2 P v met node _ w0 W hB ho hk2)
      have HF := Aside0.mk h
      clear hk2 h
      go_enter Tryz.func164, Tryz.ntmps164
      go_wp2_with fail
      refine (HH.out _ (by repeat (first | exact Below.refl _ _ | apply below_alloc | apply pw_below_drewN | apply below_drew1))).mono ?_; rintro e w1 ⟨rfl, ⟨n1, rfl⟩⟩
      obtain ⟨g2, hg2⟩ : ∃ g, g = w.heap.size := ⟨_, rfl⟩
      obtain ⟨W2, hW2⟩ : ∃ W, W = (w.alloc (.cells #[.slice A0 ns.length c0, .int .i64 room] 34 (0, 0))).drewN n1 := ⟨_, rfl⟩
      have BK : Aside0 (W2.heap[g2]? = some (.cells #[.slice A0 ns.length c0, .int .i64 room] 34 (0, 0))) := ⟨by rw [hW2, hg2]; exact blk_drewN (blk_new _ _) _⟩
      have HB1 : Aside0 (Below w.heap.size w W2) := ⟨by rw [hW2]; repeat (first | exact Below.refl _ _ | apply below_alloc | apply pw_below_drewN | apply below_drew1)⟩
      rw [← hg2, ← hW2]
      have HG2 := Aside0.mk hg2
      clear hW2 hg2 HH
      have O1 := Aside0.mk (Kd.R_below (Kd.R_mono (ok' := fun k => P0 k ∧ k < w.heap.size) (Kd.R_bound HO.out) (fun _ hk => ⟨hk.1, hk.2.2.1⟩)) HB1.out)
      have D1 := Aside0.mk (HBw.out.trans (HB1.out.mono HBw.out.size))
      go_wp2_with fail
      refine (HP.out _ _ _ D1.out O1.out).mono ?_; rintro e W3 ⟨v3, rfl, ho3, hd3, hk3⟩
      have BK3 := Aside0.mk (blk_kept BK.out hk3 (fun h => by have := HG2.out; have := h.2; omega))
      have O3 := Aside0.mk ho3
      have D3 := Aside0.mk hd3
      have K3 : Aside0 (Kept w W3 P0) := ⟨(Kept.of_below HB1.out P0).then_ hk3 (fun k hk => .inl hk.1)⟩
      have HG3 : Aside0 (g2 < W2.heap.size) := ⟨blk_lt BK.out⟩
      have HS3 : Aside0 (W2.heap.size ≤ W3.heap.size) := ⟨hk3.1⟩
      clear ho3 hd3 hk3 BK O1 HP
      have hnd := (allN_mem ns.length node).mp HND.out
      obtain ⟨ad, A6, c6, rfl, e0, e1, e2, e3, e4, e5, e6, hc6, hC6⟩ := at_T85 HR0.out node hnd.1 hnd.2
      have q1 : ((0 : Int) ≤ node) = True := eq_true hnd.1
      have q2 : (node < (ns.length : Int)) = True := eq_true hnd.2
      have h6 := (D3.out.cell (World.block_lt_of_cell? w0 _ e6)).trans e6
      have h20 : W3.cell? ⟨g2, 0, none⟩ = some (.slice (some ad) ns.length c0) := (blk_cell BK3.out 0).trans rfl
      have HC6 := Aside0.mk hC6
      obtain ⟨L, hLL⟩ : ∃ L, L = (rd_T85 ns node).f6 := ⟨_, rfl⟩
      have hlen := HL.out node
      change (rd_T85 ns node).f6.length ≤ 4294967296 at hlen
      have hF := HF.out
      change ((rd_T85 ns node).f6.map (·.f1)).foldlM _ _ = _ at hF
      have hsub := HALL.out node HND.out
      change ∀ y, y ∈ (rd_T85 ns node).f6.map (·.f1) → _ at hsub
      rw [← hLL] at h6 HC6 hlen hF hsub
      have HLEN := Aside0.mk hlen
      have HF2 := Aside0.mk hF
      have HSUB := Aside0.mk hsub
      clear e0 e1 e2 e3 e4 e5 e6 hc6 hC6 hLL hlen hF HF hsub hnd
      go_wp2
      go_loopw [2, 23] (fun v2 v23 wr => ∃ (i : Nat) (m : List Int), i ≤ L.length ∧ v23 = .int .i64 (i : Int) ∧ Aside0 (Kd.R (Kd.int .i64) 3 wr w0.heap.size (fun k => (P0 k ∧ k < w.heap.size) ∨ W2.heap.size ≤ k) v2 m) ∧ Aside0 (MetIn (allN ns.length) m) ∧ Aside0 (((L.map (·.f1)).drop i).foldlM (fun m y => dfs (scN ns) d y m) m = some r) ∧ Aside0 (Below w0.heap.size w0 wr) ∧ Aside0 (Kept w wr P0) ∧ Aside0 (wr.heap[g2]? = some (.cells #[.slice (some ad) ns.length c0, .int .i64 room] 34 (0, 0))) ∧ Aside0 (W2.heap.size ≤ wr.heap.size)) (fun _ v23 _ => L.length - (intOf v23).toNat)
      case atStart => exact ⟨0, putM node met, Nat.zero_le _, rfl, O3, ⟨HMET.out.put HND.out⟩, ⟨by rw [List.drop_zero]; exact HF2.out⟩, D3, K3, BK3, HS3⟩
      case round =>
        clear O3 D3 K3 BK3 HS3 HF2 h6 h20
        obtain ⟨i, m, hi, rfl, O, HM, HF, D, KK, BK, HS⟩ := hrel
        by_cases hlt : i < L.length
        case neg =>
          have hil : i = L.length := by omega
          subst hil
          have p9 : decide ((L.length : Int) < (L.length : Int)) = false := by simp
          have HR : Aside0 (m = r) := ⟨by
            have := HF.out
            rw [List.drop_eq_nil_of_le (by simp)] at this
            injection this⟩
          clear hlt hi
          go_wp2
          go_ret
          exact ⟨_, rfl, by rw [← HR.out]; exact Kd.R_mono O.out (fun k hk => hk.elim (fun h => .inl h.1) (fun h => .inr (by have := HG2.out; have := HG3.out; omega))), D.out, KK.out⟩
        case pos =>
          have HLT := Aside0.mk hlt
          have p9 : decide ((i : Int) < (L.length : Int)) = true := decide_eq_true (by omega)
          have p8 : ((i : Int) < (L.length : Int)) = True := eq_true (by omega)
          have p7 : ((0 : Int) ≤ (i : Int)) = True := eq_true (by omega)
          obtain ⟨bd, rfl, hn0, hn1⟩ := at_T144 (Kd.C_below HC6.out D.out) (i : Int) (by omega) (by omega)
          rw [Int.toNat_natCast] at hn0 hn1
          have hLi : rd_T144 L (i : Int) = L[i] := by unfold rd_T144; simp [List.getD, hlt]
          rw [hLi] at hn0 hn1
          have hF := HF.out
          rw [List.drop_eq_getElem_cons (by simpa using hlt), List.getElem_map, List.foldlM_cons] at hF
          have hin := HSUB.out L[i].f1 (List.mem_map.mpr ⟨L[i], List.getElem_mem hlt, rfl⟩)
          generalize L[i].f0 = nm at hn0
          generalize L[i].f1 = nd at hn1 hF hin
          cases hd1 : dfs (scN ns) d nd m with
          | none => rw [hd1] at hF; cases hF
          | some m1 =>
            rw [hd1] at hF
            have HF1 := Aside0.mk (show ((L.map (·.f1)).drop (i + 1)).foldlM (fun m y => dfs (scN ns) d y m) m1 = some r from hF)
            have HM1 : Aside0 (MetIn (allN ns.length) m1) := ⟨HM.out.out HALL.out (fun x hx => by simp at hx; rw [hx]; exact hin) (dfs_spec _ _ _ _ _ hd1)⟩
            have HIN := Aside0.mk hin
            have HD1 := Aside0.mk hd1
            have hw1 : IntKind.i64.wrap ((i : Int) + 1) = ((i + 1 : Nat) : Int) := wrap_upM hlt HLEN.out
            have HW1 := Aside0.mk hw1
            have BKw := BK.out
            clear hF hd1 hin hLi hlt hi HF
            go_upto_region 7 with (fail)
            have hb5 : Below wr.heap.size wr (wr.alloc (.cells #[.string nm, .int .i64 nd] 144 (0, 0))) := below_alloc (Below.refl _ _) _
            have bk6 := blk_new wr (.cells #[.string nm, .int .i64 nd] 144 (0, 0))
            obtain ⟨g6, hg6⟩ : ∃ g, g = wr.heap.size := ⟨_, rfl⟩
            obtain ⟨W5, hW5⟩ : ∃ W, W = wr.alloc (.cells #[.string nm, .int .i64 nd] 144 (0, 0)) := ⟨_, rfl⟩
            rw [← hW5] at hb5 bk6
            rw [← hg6] at bk6
            rw [← hW5, ← hg6]
            have BK5 := Aside0.mk ((hb5.block _ (blk_lt BKw)).trans BKw)
            have D5 := Aside0.mk (D.out.trans (hb5.mono D.out.size))
            have O5 := Aside0.mk (Kd.R_below O.out hb5)
            have K5 := Aside0.mk (KK.out.below hb5)
            have HS5 := Aside0.mk (Nat.le_trans HS.out hb5.size)
            have h60 : W5.cell? ⟨g6, 0, none⟩ = some (.string nm) := (blk_cell bk6 0).trans rfl
            have h61 : W5.cell? ⟨g6, 1, none⟩ = some (.int .i64 nd) := (blk_cell bk6 1).trans rfl
            have h20 : W5.cell? ⟨g2, 0, none⟩ = some (.slice (some ad) ns.length c0) := (blk_cell BK5.out 0).trans rfl
            have h21 : W5.cell? ⟨g2, 1, none⟩ = some (.int .i64 room) := (blk_cell BK5.out 1).trans rfl
            clear hb5 bk6 hW5 hg6 BK D O KK HS BKw hn0 hn1
            go_wp2_with fail
            refine (HIH.out nd m m1 _ _ _ D5.out O5.out HIN.out HM.out HD1.out).mono ?_; rintro e W6 ⟨v6, rfl, ho6, hd6, hk6⟩
            have O6 := Aside0.mk (Kd.R_mono (ok' := fun k => (P0 k ∧ k < w.heap.size) ∨ W2.heap.size ≤ k) ho6 (fun k hk => hk.elim id (fun h => .inr (Nat.le_trans HS5.out h))))
            have D6 := Aside0.mk hd6
            have K6 : Aside0 (Kept w W6 P0) := ⟨K5.out.then_ hk6 (fun k hk => hk.elim (fun h => .inl h.1) (fun h => .inr (by have := HG2.out; have := HG3.out; omega)))⟩
            have BK6 : Aside0 (W6.heap[g2]? = some (.cells #[.slice (some ad) ns.length c0, .int .i64 room] 34 (0, 0))) := ⟨blk_kept BK5.out hk6 (fun h => h.elim (fun h => by have := HG2.out; have := h.2; omega) (fun h => by have := HG3.out; omega))⟩
            have HS6 := Aside0.mk (Nat.le_trans HS5.out hk6.1)
            clear ho6 hd6 hk6 h60 h61 h20 h21 BK5 D5 O5 K5 HS5
            go_wp2
            go_roundw
            case rel => exact ⟨i + 1, m1, HLT.out, by first | rfl | go_num, O6, HM1, HF1, D6, K6, BK6, HS6⟩
            case measure => have := HLT.out; simp [intOf]; omega
structure NodeAt (W : World) (q : Addr) (x : Nd) (B : Option Addr) (d : Nat) : Prop where
  e0 : W.cell? q = some (.int .i64 x.f0)
  e1 : W.cell? ⟨q.block, q.off + 1, none⟩ = some (.int .i64 x.f1)
  e2 : W.cell? ⟨q.block, q.off + 2, none⟩ = some (.int .i64 x.f2)
  e3 : W.cell? ⟨q.block, q.off + 3, none⟩ = some (.int .i64 x.f3)
  e4 : W.cell? ⟨q.block, q.off + 4, none⟩ = some (.int .i64 x.f4)
  e5 : W.cell? ⟨q.block, q.off + 5, none⟩ = some (.string x.f5)
  e6 : W.cell? ⟨q.block, q.off + 6, none⟩ = some (.slice B x.f6.length d)
theorem cell_from {w0 W : World} {ad : Addr} {v : Value} (hb : Below w0.heap.size w0 W) (h : w0.cell? ad = some v) : W.cell? ad = some v := (hb.cell (World.block_lt_of_cell? w0 _ h)).trans h
theorem NodeAt.below {w0 W : World} {q : Addr} {x : Nd} {B : Option Addr} {d : Nat} (h : NodeAt w0 q x B d) (hb : Below w0.heap.size w0 W) : NodeAt W q x B d :=
  ⟨cell_from hb h.e0, cell_from hb h.e1, cell_from hb h.e2, cell_from hb h.e3, cell_from hb h.e4, cell_from hb h.e5, cell_from hb h.e6⟩
theorem node_at {ns : List Nd} {A0 : Option Addr} {w0 : World} (hr : Kd.C k85 w0 A0 ns.length ns) (y : Int) (hy : y ∈ allN ns.length) : ∃ ad B d, A0 = some ad ∧ NodeAt w0 (ad.add (y.toNat * 7)) (ndR ns y) B d ∧ (ndR ns y).f6.length ≤ d ∧ Kd.C k144 w0 B (ndR ns y).f6.length (ndR ns y).f6 := by
  obtain ⟨y0, y1⟩ := (allN_mem _ _).mp hy
  obtain ⟨ad, B, d, h, e0, e1, e2, e3, e4, e5, e6, hd, hC⟩ := at_T85 hr y y0 y1
  exact ⟨ad, B, d, h, ⟨e0, e1, e2, e3, e4, e5, e6⟩, hd, hC⟩
theorem rdNd (ns : List Nd) (i : Nat) (h : i < ns.length) : rd_T85 ns (i : Int) = ns[i] := by unfold rd_T85; simp [List.getD, h]
theorem rdEn (l : List En) (i : Nat) (h : i < l.length) : rd_T144 l (i : Int) = l[i] := by unfold rd_T144; simp [List.getD, h]
structure FsFit (ns : List Nd) : Prop where
  len : ns.length ≤ 1048576
  data : ∀ x, x ∈ ns → x.f5.size ≤ 1048576
  list : ∀ x, x ∈ ns → x.f6.length ≤ 1048576
  name : ∀ x, x ∈ ns → ∀ e, e ∈ x.f6 → e.f0.size ≤ 1048576
def sumB (ns : List Nd) : Int := (ns.map (fun x => (x.f5.size : Int))).sum
theorem sumB_cons (x : Nd) (r : List Nd) : sumB (x :: r) = (x.f5.size : Int) + sumB r := by simp [sumB]
theorem wrap_add {a b : Int} (h0 : 0 ≤ a) (h1 : a ≤ 4611686018427387904) (h2 : 0 ≤ b) (h3 : b ≤ 1048576) : wrap64 (a + b) = a + b := by unfold wrap64; omega
theorem l3Bytes_loop (ns : List Nd) (hf : FsFit ns) (d : Nat) : ∀ (i : Nat) (acc : Int), i + d = ns.length → 0 ≤ acc → acc ≤ 1048576 * (i : Int) → Ev (fun k => spec_l3Bytes.l0 k acc ns (ns.length : Int) (i : Int)) (acc + sumB (ns.drop i)) := by
  induction d with
  | zero =>
    intro i acc hi h0 h1
    rw [List.drop_of_length_le (by omega)]
    refine Ev.step (f := fun _ => some acc) (fun k => ?_) (by simpa [sumB] using Ev.now acc)
    simp only [spec_l3Bytes.l0]; rw [if_neg (by omega)]
  | succ d ih =>
    intro i acc hi h0 h1
    have hlt : i < ns.length := by omega
    have hl := hf.len
    have hw := step_n (i := i) (n := ns.length) hlt (by omega)
    have hd := hf.data ns[i] (List.getElem_mem hlt)
    have hw2 := wrap_add (a := acc) (b := (ns[i].f5.size : Int)) h0 (by omega) (by omega) (by omega)
    have h := ih (i + 1) (acc + (ns[i].f5.size : Int)) (by omega) (by omega) (by omega)
    rw [List.drop_eq_getElem_cons hlt, sumB_cons, ← Int.add_assoc]
    refine Ev.step (fun k => ?_) h
    simp only [spec_l3Bytes.l0]
    rw [if_pos (by omega), if_pos (by omega), if_pos (by omega), rdNd ns i hlt, hw2, hw]
theorem l3Bytes_ev (ns : List Nd) (room : Int) (hf : FsFit ns) : Ev (fun k => spec_l3Bytes.f k ns room) (sumB ns) := by
  have := l3Bytes_loop ns hf ns.length 0 0 (by omega) (by omega) (by omega)
  unfold spec_l3Bytes.f
  simpa using this
theorem bytesIn_loop (ns : List Nd) (hf : FsFit ns) (d : Nat) : ∀ (i : Nat) (acc : Int), i + d = ns.length → 0 ≤ acc → acc ≤ 1048576 * (i : Int) → Ev (fun k => impl_Fs_bytesIn.l0 k acc ns (ns.length : Int) (i : Int)) (acc + sumB (ns.drop i)) := by
  induction d with
  | zero =>
    intro i acc hi h0 h1
    rw [List.drop_of_length_le (by omega)]
    refine Ev.step (f := fun _ => some acc) (fun k => ?_) (by simpa [sumB] using Ev.now acc)
    simp only [impl_Fs_bytesIn.l0]; rw [if_neg (by omega)]
  | succ d ih =>
    intro i acc hi h0 h1
    have hlt : i < ns.length := by omega
    have hl := hf.len
    have hw := step_n (i := i) (n := ns.length) hlt (by omega)
    have hd := hf.data ns[i] (List.getElem_mem hlt)
    have hw2 := wrap_add (a := acc) (b := (ns[i].f5.size : Int)) h0 (by omega) (by omega) (by omega)
    have h := ih (i + 1) (acc + (ns[i].f5.size : Int)) (by omega) (by omega) (by omega)
    rw [List.drop_eq_getElem_cons hlt, sumB_cons, ← Int.add_assoc]
    refine Ev.step (fun k => ?_) h
    simp only [impl_Fs_bytesIn.l0]
    rw [if_pos (by omega), if_pos (by omega), if_pos (by omega), rdNd ns i hlt, hw2, hw]
theorem bytesIn_ev (ns : List Nd) (room : Int) (hf : FsFit ns) : Ev (fun k => impl_Fs_bytesIn.f k ns room) (sumB ns) := by
  have := bytesIn_loop ns hf ns.length 0 0 (by omega) (by omega) (by omega)
  unfold impl_Fs_bytesIn.f
  simpa using this
def tgts (ns : List Nd) : List Int := ns.flatMap (fun x => x.f6.map (·.f1))
theorem count_len (l : List Int) (a : Int) : l.count a ≤ l.length := List.count_le_length
def linksL (pre : List Int) (n : Nat) : List Int := (List.range n).map (fun (t : Nat) => ((pre.count (t : Int) : Nat) : Int))
theorem linksL_len (pre : List Int) (n : Nat) : (linksL pre n).length = n := by simp [linksL]
theorem linksL_rd (pre : List Int) (n : Nat) (z : Int) (h0 : 0 ≤ z) (h1 : z < n) : rd (linksL pre n) z = (pre.count z : Int) := by
  obtain ⟨m, rfl⟩ := Int.eq_ofNat_of_zero_le h0
  unfold rd linksL
  rw [List.getD_eq_getElem?_getD, List.getElem?_map, List.getElem?_range (by omega : (m : Int).toNat < n)]
  simp
theorem linksL_get (pre : List Int) (n i : Nat) (h : i < (linksL pre n).length) : (linksL pre n)[i] = ((pre.count (i : Int) : Nat) : Int) := by simp [linksL]
theorem linksL_set (pre : List Int) (n : Nat) (z : Int) (h0 : 0 ≤ z) (h1 : z < n) : (linksL pre n).set z.toNat ((pre.count z : Int) + 1) = linksL (pre ++ [z]) n := by
  obtain ⟨m, rfl⟩ := Int.eq_ofNat_of_zero_le h0
  apply List.ext_getElem
  · simp [linksL]
  · intro i h2 h3
    rw [List.getElem_set]
    rw [linksL_get, linksL_get, List.count_append]
    by_cases hi : (m : Int).toNat = i
    · have hm : m = i := by omega
      subst hm
      rw [if_pos hi]; simp
    · rw [if_neg hi]
      have : ((m : Int) == (i : Int)) = false := by simp; omega
      simp [List.count_cons, this]
theorem links_inner (ns : List Nd) (hl : ns.length ≤ 1048576) (i : Nat) (hi : i < ns.length) (L : List En) (hL : L.length ≤ 1048576) (hz : ∀ e, e ∈ L → 0 ≤ e.f1 ∧ e.f1 < ns.length) (r : List Int) (d : Nat) : ∀ (j : Nat) (pre : List Int), j + d = L.length → pre.length + d ≤ 4611686018427387904 →
    Ev (fun k => impl_Fs_links.l0 k (linksL (pre ++ (L.drop j).map (·.f1)) ns.length) ns (ns.length : Int) ((i + 1 : Nat) : Int)) r → Ev (fun k => impl_Fs_links.l1 k (linksL pre ns.length) ns (ns.length : Int) (i : Int) L (L.length : Int) (j : Int)) r := by
  induction d with
  | zero =>
    intro j pre hj h1 h
    rw [List.drop_of_length_le (by omega)] at h
    have hw := step_n (i := i) (n := ns.length) hi (by omega)
    rw [List.map_nil, List.append_nil] at h
    refine Ev.step (fun k => ?_) h
    simp only [impl_Fs_links.l1]; rw [if_neg (by omega), hw]
  | succ d ih =>
    intro j pre hj h1 h
    have hlt : j < L.length := by omega
    have hw := step_n (i := j) (n := L.length) hlt (by omega)
    obtain ⟨z0, z1⟩ := hz L[j] (List.getElem_mem hlt)
    have hc := count_len pre L[j].f1
    have hw2 := wrap_add (a := (pre.count L[j].f1 : Int)) (b := 1) (by omega) (by omega) (by omega) (by omega)
    rw [List.drop_eq_getElem_cons hlt, List.map_cons, ← List.singleton_append, ← List.append_assoc] at h
    refine Ev.step (fun k => ?_) (ih (j + 1) (pre ++ [L[j].f1]) (by omega) (by simp; omega) h)
    simp only [impl_Fs_links.l1]
    rw [if_pos (by omega), if_pos (by omega), if_pos (by omega), rdEn L j hlt, if_pos z0, linksL_len, if_pos z1, linksL_rd pre _ _ z0 z1, hw2, linksL_set pre _ _ z0 z1, hw]
theorem links_loop (ns : List Nd) (hf : FsFit ns) (hz : ∀ x, x ∈ ns → ∀ e, e ∈ x.f6 → 0 ≤ e.f1 ∧ e.f1 < ns.length) (d : Nat) : ∀ (i : Nat) (pre : List Int), i + d = ns.length → pre.length ≤ 1048576 * i → Ev (fun k => impl_Fs_links.l0 k (linksL pre ns.length) ns (ns.length : Int) (i : Int)) (linksL (pre ++ tgts (ns.drop i)) ns.length) := by
  induction d with
  | zero =>
    intro i pre hi h1
    rw [List.drop_of_length_le (by omega), show tgts [] = [] from rfl, List.append_nil]
    refine Ev.step (f := fun _ => some (linksL pre ns.length)) (fun k => ?_) (Ev.now _)
    simp only [impl_Fs_links.l0]; rw [if_neg (by omega)]
  | succ d ih =>
    intro i pre hi h1
    have hlt : i < ns.length := by omega
    have hl := hf.len
    have hL := hf.list ns[i] (List.getElem_mem hlt)
    have h := ih (i + 1) (pre ++ ns[i].f6.map (·.f1)) (by omega) (by simp; omega)
    rw [List.append_assoc] at h
    rw [List.drop_eq_getElem_cons hlt, show tgts (ns[i] :: ns.drop (i + 1)) = ns[i].f6.map (·.f1) ++ tgts (ns.drop (i + 1)) from rfl]
    refine Ev.step (f := fun k => impl_Fs_links.l1 k (linksL pre ns.length) ns (ns.length : Int) (i : Int) ns[i].f6 (ns[i].f6.length : Int) ((0 : Nat) : Int)) (fun k => ?_) (links_inner ns hl i hlt ns[i].f6 hL (hz ns[i] (List.getElem_mem hlt)) _ ns[i].f6.length 0 pre (by omega) (by omega) (by rw [List.drop_zero]; exact h))
    simp only [impl_Fs_links.l0]
    rw [if_pos (by omega), if_pos (by omega), if_pos (by omega), rdNd ns i hlt]; rfl
theorem links_ev (ns : List Nd) (room : Int) (hf : FsFit ns) (hz : ∀ x, x ∈ ns → ∀ e, e ∈ x.f6 → 0 ≤ e.f1 ∧ e.f1 < ns.length) : Ev (fun k => impl_Fs_links.f k ns room) (linksL (tgts ns) ns.length) := by
  have h := links_loop ns hf hz ns.length 0 [] (by omega) (by simp)
  have hl := hf.len
  have e : linksL [] ns.length = List.replicate ns.length 0 := by
    apply List.ext_getElem
    · simp [linksL]
    · intro i _ _; simp [linksL]
  rw [e, List.drop_zero, List.nil_append] at h
  refine Ev.congr (fun k => ?_) h
  unfold impl_Fs_links.f
  rw [if_pos (by omega), if_pos (by omega)]; simp
def parR (ns : List Nd) (y : Int) : Nat → Nat → Int
  | 0, _ => 0
  | d + 1, i => if (ndR ns (i : Int)).f6.any (fun e => e.f1 == y) = true then (i : Int) else parR ns y d (i + 1)
def parentR (ns : List Nd) (y : Int) : Int := parR ns y ns.length 0
theorem ndL_le {ns : List Nd} (hf : FsFit ns) (i : Nat) (hi : i < ns.length) : (ndR ns (i : Int)).f6.length ≤ 1048576 := by
  have hx : ndR ns (i : Int) = ns[i] := rdNd ns i hi
  rw [hx]
  exact hf.list _ (List.getElem_mem hi)
set_option maxHeartbeats 8000000 in
set_option maxRecDepth 100000 in
theorem parent_w (ns : List Nd) (A0 : Option Addr) (c0 : Nat) (room : Int) (y : Int) (w : World) (hr0 : Kd.C k85 w A0 ns.length ns) (hf : FsFit ns) :
    Calls Tryz.prog 112 #[.agg #[.slice A0 ns.length c0, .int .i64 room], .int .i64 y] w fun e w' => (∃ nm, e = .returned (.tuple #[.int .i64 (parentR ns y), .string nm])) ∧ Below w.heap.size w w' := by
  have hu1 := Tryz.underlying34
  have hu2 := Tryz.underlying85
  have hu3 := Tryz.underlying144
  have HR0 := Aside0.mk hr0
  have HF := Aside0.mk hf
  obtain ⟨R, hR⟩ : ∃ R, R = parentR ns y := ⟨_, rfl⟩
  rw [← hR]
  have HR : Aside0 (parR ns y ns.length 0 = R) := ⟨hR.symm⟩
  clear hR
  clear hr0 hf
  go_enter Tryz.func112, Tryz.ntmps112
  go_upto_region 1 with (fail)
  obtain ⟨W1, hW1⟩ : ∃ W, W = w.alloc (.cells #[.slice A0 ns.length c0, .int .i64 room] 34 (0, 0)) := ⟨_, rfl⟩
  have D1 := Aside0.mk (show Below w.heap.size w W1 from by rw [hW1]; exact below_alloc (Below.refl _ _) _)
  have BF1 := Aside0.mk (show W1.heap[w.heap.size]? = some (.cells #[.slice A0 ns.length c0, .int .i64 room] 34 (0, 0)) from by rw [hW1]; exact blk_new _ _)
  have m0 : W1.cell? ⟨w.heap.size, 0, none⟩ = some (.slice A0 ns.length c0) := (blk_cell BF1.out 0).trans rfl
  rw [← hW1]
  clear hW1
  go_wp2
  go_loopw [13] (fun vo wr => ∃ (i d : Nat), i + d = ns.length ∧ vo = .int .i64 (i : Int) ∧ Aside0 (parR ns y d i = R) ∧ Aside0 (Below w.heap.size w wr)) (fun vo _ => ns.length - (intOf vo).toNat)
  case atStart => exact ⟨0, ns.length, Nat.zero_add _, rfl, HR, D1⟩
  case round =>
    clear HR m0 D1 BF1
    obtain ⟨i, d, hid, rfl, HP, HB⟩ := hrel
    cases d with
    | zero =>
      have hil : i = ns.length := by omega
      subst hil
      have p9 : decide ((ns.length : Int) < (ns.length : Int)) = false := by simp
      have hres : R = 0 := by have h := HP.out; unfold parR at h; exact h.symm
      clear hid HP
      go_wp2
      go_ret2
      rw [hres]
      exact ⟨⟨_, rfl⟩, HB.out⟩
    | succ d =>
      have hlt : i < ns.length := by omega
      have HLT := Aside0.mk hlt
      have HID := Aside0.mk hid
      have p9 : decide ((i : Int) < (ns.length : Int)) = true := decide_eq_true (by omega)
      have p8 : ((i : Int) < (ns.length : Int)) = True := eq_true (by omega)
      have p7 : ((0 : Int) ≤ (i : Int)) = True := eq_true (by omega)
      obtain ⟨bd, B6, d6, hbd, hna, -, hC6⟩ := node_at HR0.out (i : Int) ((allN_mem _ _).mpr ⟨by omega, by omega⟩)
      subst hbd
      obtain ⟨x, hx⟩ : ∃ x, x = ndR ns (i : Int) := ⟨_, rfl⟩
      rw [← hx] at hna hC6
      rw [Int.toNat_natCast] at hna
      have hLl : x.f6.length ≤ 1048576 := by rw [hx]; exact ndL_le HF.out i hlt
      have HLl := Aside0.mk hLl
      have HX := Aside0.mk hx
      have HC6 := Aside0.mk hC6
      obtain ⟨e0, e1, e2, e3, e4, e5, e6⟩ := hna.below HB.out
      have hw1 : IntKind.i64.wrap ((i : Int) + 1) = ((i + 1 : Nat) : Int) := wrap_upM hlt (by have := HF.out.len; omega)
      have HPI : Aside0 (if (x.f6.drop 0).any (fun e => e.f1 == y) = true then R = (i : Int) else parR ns y d (i + 1) = R) := ⟨by
        have h := HP.out
        unfold parR at h
        rw [List.drop_zero, hx]
        split at h
        · rename_i hq; rw [if_pos hq]; exact h.symm
        · rename_i hq; rw [if_neg hq]; exact h⟩
      clear HP
      clear hx hna hC6 hLl hlt hid
      go_wp2
      go_loopw [21] (fun vi wq => ∃ (j : Nat), j ≤ x.f6.length ∧ vi = .int .i64 (j : Int) ∧ Aside0 (if (x.f6.drop j).any (fun e => e.f1 == y) = true then R = (i : Int) else parR ns y d (i + 1) = R) ∧ Aside0 (Below w.heap.size w wq)) (fun vi _ => x.f6.length - (intOf vi).toNat)
      case atStart => exact ⟨0, Nat.zero_le _, rfl, HPI, ⟨below_alloc HB.out _⟩⟩
      case round =>
        clear HPI e0 e1 e2 e3 e4 e5 e6
        obtain ⟨j, hj, rfl, HPJ, HBq⟩ := hrel
        by_cases hjl : j < x.f6.length
        case neg =>
          have hje : j = x.f6.length := by omega
          subst hje
          have q9 : decide ((x.f6.length : Int) < (x.f6.length : Int)) = false := by simp
          have HPO : Aside0 (parR ns y d (i + 1) = R) := ⟨by have h := HPJ.out; rw [List.drop_length] at h; exact h⟩
          clear hjl hj HPJ
          go_wp2
          go_roundw
          case rel => exact ⟨i + 1, d, by have := HID.out; omega, by first | rfl | go_num, HPO, HBq⟩
          case measure => have := HLT.out; simp [intOf]; omega
        case pos =>
          obtain ⟨be, hbe, hn0, hn1⟩ := at_T144 (Kd.C_below HC6.out HBq.out) (j : Int) (by omega) (by omega)
          rw [Int.toNat_natCast] at hn0 hn1
          have hLi : rd_T144 x.f6 (j : Int) = x.f6[j] := by unfold rd_T144; simp [List.getD, hjl]
          rw [hLi] at hn0 hn1
          have q9 : decide ((j : Int) < (x.f6.length : Int)) = true := decide_eq_true (by omega)
          have q8 : ((j : Int) < (x.f6.length : Int)) = True := eq_true (by omega)
          have q7 : ((0 : Int) ≤ (j : Int)) = True := eq_true (by omega)
          have HJL := Aside0.mk hjl
          have hw2 : IntKind.i64.wrap ((j : Int) + 1) = ((j + 1 : Nat) : Int) := wrap_upM hjl (by have := HLl.out; omega)
          have hPJ := HPJ.out
          rw [List.drop_eq_getElem_cons hjl, List.any_cons] at hPJ
          obtain ⟨en, hen⟩ : ∃ e, e = x.f6[j] := ⟨_, rfl⟩
          rw [← hen] at hPJ hn0 hn1
          by_cases hc : en.f1 = y
          · have z1 : (en.f1 == y) = true := by simpa using hc
            have z2 : decide (en.f1 = y) = true := decide_eq_true hc
            rw [z1, Bool.true_or, if_pos rfl] at hPJ
            have hres : R = (i : Int) := hPJ
            subst hbe
            clear hPJ HPJ hLi hen hjl hj hc
            go_wp2
            go_region
            go_wp2
            go_ret2
            rw [hres]
            exact ⟨⟨_, rfl⟩, below_drew1 (below_alloc HBq.out _)⟩
          · have z1 : (en.f1 == y) = false := by simpa using hc
            have z2 : decide (en.f1 = y) = false := decide_eq_false hc
            rw [z1, Bool.false_or] at hPJ
            have HPK := Aside0.mk hPJ
            subst hbe
            clear hPJ HPJ hLi hen hjl hj hc
            go_wp2
            go_roundw
            case rel => exact ⟨j + 1, by have := HJL.out; omega, by first | rfl | go_num, HPK, ⟨below_alloc HBq.out _⟩⟩
            case measure => have := HJL.out; simp [intOf]; omega
set_option maxHeartbeats 8000000 in
set_option maxRecDepth 100000 in
theorem parent4_w (ns : List Nd) (A0 : Option Addr) (c0 : Nat) (room : Int) (y : Int) (w : World) (hr0 : Kd.C k85 w A0 ns.length ns) (hf : FsFit ns) :
    Calls Tryz.prog 149 #[.agg #[.slice A0 ns.length c0, .int .i64 room], .int .i64 y] w fun e w' => e = .returned (.int .i64 (parentR ns y)) ∧ Below w.heap.size w w' := by
  have hu1 := Tryz.underlying34
  have hu2 := Tryz.underlying85
  have hu3 := Tryz.underlying144
  have HR0 := Aside0.mk hr0
  have HF := Aside0.mk hf
  obtain ⟨R, hR⟩ : ∃ R, R = parentR ns y := ⟨_, rfl⟩
  rw [← hR]
  have HR : Aside0 (parR ns y ns.length 0 = R) := ⟨hR.symm⟩
  clear hR
  clear hr0 hf
  go_enter Tryz.func149, Tryz.ntmps149
  go_upto_region 1 with (fail)
  obtain ⟨W1, hW1⟩ : ∃ W, W = w.alloc (.cells #[.slice A0 ns.length c0, .int .i64 room] 34 (0, 0)) := ⟨_, rfl⟩
  have D1 := Aside0.mk (show Below w.heap.size w W1 from by rw [hW1]; exact below_alloc (Below.refl _ _) _)
  have BF1 := Aside0.mk (show W1.heap[w.heap.size]? = some (.cells #[.slice A0 ns.length c0, .int .i64 room] 34 (0, 0)) from by rw [hW1]; exact blk_new _ _)
  have m0 : W1.cell? ⟨w.heap.size, 0, none⟩ = some (.slice A0 ns.length c0) := (blk_cell BF1.out 0).trans rfl
  rw [← hW1]
  clear hW1
  go_wp2
  go_loopw [12] (fun vo wr => ∃ (i d : Nat), i + d = ns.length ∧ vo = .int .i64 (i : Int) ∧ Aside0 (parR ns y d i = R) ∧ Aside0 (Below w.heap.size w wr)) (fun vo _ => ns.length - (intOf vo).toNat)
  case atStart => exact ⟨0, ns.length, Nat.zero_add _, rfl, HR, D1⟩
  case round =>
    clear HR m0 D1 BF1
    obtain ⟨i, d, hid, rfl, HP, HB⟩ := hrel
    cases d with
    | zero =>
      have hil : i = ns.length := by omega
      subst hil
      have p9 : decide ((ns.length : Int) < (ns.length : Int)) = false := by simp
      have hres : R = 0 := by have h := HP.out; unfold parR at h; exact h.symm
      clear hid HP
      go_wp2
      go_ret
      rw [hres]
      exact ⟨rfl, HB.out⟩
    | succ d =>
      have hlt : i < ns.length := by omega
      have HLT := Aside0.mk hlt
      have HID := Aside0.mk hid
      have p9 : decide ((i : Int) < (ns.length : Int)) = true := decide_eq_true (by omega)
      have p8 : ((i : Int) < (ns.length : Int)) = True := eq_true (by omega)
      have p7 : ((0 : Int) ≤ (i : Int)) = True := eq_true (by omega)
      obtain ⟨bd, B6, d6, hbd, hna, -, hC6⟩ := node_at HR0.out (i : Int) ((allN_mem _ _).mpr ⟨by omega, by omega⟩)
      subst hbd
      obtain ⟨x, hx⟩ : ∃ x, x = ndR ns (i : Int) := ⟨_, rfl⟩
      rw [← hx] at hna hC6
      rw [Int.toNat_natCast] at hna
      have hLl : x.f6.length ≤ 1048576 := by rw [hx]; exact ndL_le HF.out i hlt
      have HLl := Aside0.mk hLl
      have HX := Aside0.mk hx
      have HC6 := Aside0.mk hC6
      obtain ⟨e0, e1, e2, e3, e4, e5, e6⟩ := hna.below HB.out
      have hw1 : IntKind.i64.wrap ((i : Int) + 1) = ((i + 1 : Nat) : Int) := wrap_upM hlt (by have := HF.out.len; omega)
      have HPI : Aside0 (if (x.f6.drop 0).any (fun e => e.f1 == y) = true then R = (i : Int) else parR ns y d (i + 1) = R) := ⟨by
        have h := HP.out
        unfold parR at h
        rw [List.drop_zero, hx]
        split at h
        · rename_i hq; rw [if_pos hq]; exact h.symm
        · rename_i hq; rw [if_neg hq]; exact h⟩
      clear HP
      clear hx hna hC6 hLl hlt hid
      go_wp2
      go_loopw [20] (fun vi wq => ∃ (j : Nat), j ≤ x.f6.length ∧ vi = .int .i64 (j : Int) ∧ Aside0 (if (x.f6.drop j).any (fun e => e.f1 == y) = true then R = (i : Int) else parR ns y d (i + 1) = R) ∧ Aside0 (Below w.heap.size w wq)) (fun vi _ => x.f6.length - (intOf vi).toNat)
      case atStart => exact ⟨0, Nat.zero_le _, rfl, HPI, ⟨below_alloc HB.out _⟩⟩
      case round =>
        clear HPI e0 e1 e2 e3 e4 e5 e6
        obtain ⟨j, hj, rfl, HPJ, HBq⟩ := hrel
        by_cases hjl : j < x.f6.length
        case neg =>
          have hje : j = x.f6.length := by omega
          subst hje
          have q9 : decide ((x.f6.length : Int) < (x.f6.length : Int)) = false := by simp
          have HPO : Aside0 (parR ns y d (i + 1) = R) := ⟨by have h := HPJ.out; rw [List.drop_length] at h; exact h⟩
          clear hjl hj HPJ
          go_wp2
          go_roundw
          case rel => exact ⟨i + 1, d, by have := HID.out; omega, by first | rfl | go_num, HPO, HBq⟩
          case measure => have := HLT.out; simp [intOf]; omega
        case pos =>
          obtain ⟨be, hbe, hn0, hn1⟩ := at_T144 (Kd.C_below HC6.out HBq.out) (j : Int) (by omega) (by omega)
          rw [Int.toNat_natCast] at hn0 hn1
          have hLi : rd_T144 x.f6 (j : Int) = x.f6[j] := by unfold rd_T144; simp [List.getD, hjl]
          rw [hLi] at hn0 hn1
          have q9 : decide ((j : Int) < (x.f6.length : Int)) = true := decide_eq_true (by omega)
          have q8 : ((j : Int) < (x.f6.length : Int)) = True := eq_true (by omega)
          have q7 : ((0 : Int) ≤ (j : Int)) = True := eq_true (by omega)
          have HJL := Aside0.mk hjl
          have hw2 : IntKind.i64.wrap ((j : Int) + 1) = ((j + 1 : Nat) : Int) := wrap_upM hjl (by have := HLl.out; omega)
          have hPJ := HPJ.out
          rw [List.drop_eq_getElem_cons hjl, List.any_cons] at hPJ
          obtain ⟨en, hen⟩ : ∃ e, e = x.f6[j] := ⟨_, rfl⟩
          rw [← hen] at hPJ hn0 hn1
          by_cases hc : en.f1 = y
          · have z1 : (en.f1 == y) = true := by simpa using hc
            have z2 : decide (en.f1 = y) = true := decide_eq_true hc
            rw [z1, Bool.true_or, if_pos rfl] at hPJ
            have hres : R = (i : Int) := hPJ
            subst hbe
            clear hPJ HPJ hLi hen hjl hj hc
            go_wp2
            go_ret
            rw [hres]
            exact ⟨rfl, below_alloc HBq.out _⟩
          · have z1 : (en.f1 == y) = false := by simpa using hc
            have z2 : decide (en.f1 = y) = false := decide_eq_false hc
            rw [z1, Bool.false_or] at hPJ
            have HPK := Aside0.mk hPJ
            subst hbe
            clear hPJ HPJ hLi hen hjl hj hc
            go_wp2
            go_roundw
            case rel => exact ⟨j + 1, by have := HJL.out; omega, by first | rfl | go_num, HPK, ⟨below_alloc HBq.out _⟩⟩
            case measure => have := HJL.out; simp [intOf]; omega
theorem wrap_big {a : Nat} (h : a + 1 ≤ 4611686018427387904) : IntKind.i64.wrap ((a : Int) + 1) = ((a + 1 : Nat) : Int) := (i64_w _).trans (by unfold wrap64; omega)
set_option maxHeartbeats 8000000 in
set_option maxRecDepth 100000 in
theorem links4_w (ns : List Nd) (A0 : Option Addr) (c0 : Nat) (room : Int) (y : Int) (w : World) (hr0 : Kd.C k85 w A0 ns.length ns) (hf : FsFit ns) :
    Calls Tryz.prog 150 #[.agg #[.slice A0 ns.length c0, .int .i64 room], .int .i64 y] w fun e w' => e = .returned (.int .i64 (((tgts ns).count y : Nat) : Int)) ∧ Below w.heap.size w w' := by
  have hu1 := Tryz.underlying34
  have hu2 := Tryz.underlying85
  have hu3 := Tryz.underlying144
  have HR0 := Aside0.mk hr0
  have HF := Aside0.mk hf
  obtain ⟨R, hR⟩ : ∃ R, R = (tgts ns).count y := ⟨_, rfl⟩
  rw [← hR]
  have HR : Aside0 (0 + (tgts (ns.drop 0)).count y = R) := ⟨by rw [hR, List.drop_zero, Nat.zero_add]⟩
  clear hR
  clear hr0 hf
  go_enter Tryz.func150, Tryz.ntmps150
  go_upto_region 1 with (fail)
  obtain ⟨W1, hW1⟩ : ∃ W, W = w.alloc (.cells #[.slice A0 ns.length c0, .int .i64 room] 34 (0, 0)) := ⟨_, rfl⟩
  have D1 := Aside0.mk (show Below w.heap.size w W1 from by rw [hW1]; exact below_alloc (Below.refl _ _) _)
  have BF1 := Aside0.mk (show W1.heap[w.heap.size]? = some (.cells #[.slice A0 ns.length c0, .int .i64 room] 34 (0, 0)) from by rw [hW1]; exact blk_new _ _)
  have m0 : W1.cell? ⟨w.heap.size, 0, none⟩ = some (.slice A0 ns.length c0) := (blk_cell BF1.out 0).trans rfl
  rw [← hW1]
  clear hW1
  go_wp2
  go_loopw [5, 13] (fun va vo wr => ∃ (i d : Nat) (acc : Nat), i + d = ns.length ∧ vo = .int .i64 (i : Int) ∧ va = .int .i64 (acc : Int) ∧ Aside0 (acc + (tgts (ns.drop i)).count y = R) ∧ Aside0 (acc ≤ 1048576 * i) ∧ Aside0 (Below w.heap.size w wr)) (fun _ vo _ => ns.length - (intOf vo).toNat)
  case atStart => exact ⟨0, ns.length, 0, Nat.zero_add _, rfl, rfl, HR, ⟨Nat.zero_le _⟩, D1⟩
  case round =>
    clear HR m0 D1 BF1
    obtain ⟨i, d, acc, hid, rfl, rfl, HP, HQ, HB⟩ := hrel
    cases d with
    | zero =>
      have hil : i = ns.length := by omega
      subst hil
      have p9 : decide ((ns.length : Int) < (ns.length : Int)) = false := by simp
      have hres : acc = R := by have h := HP.out; rw [List.drop_length] at h; simpa [tgts] using h
      clear hid HP HQ
      go_wp2
      go_ret
      rw [hres]
      exact ⟨rfl, HB.out⟩
    | succ d =>
      have hlt : i < ns.length := by omega
      have HLT := Aside0.mk hlt
      have HID := Aside0.mk hid
      have p9 : decide ((i : Int) < (ns.length : Int)) = true := decide_eq_true (by omega)
      have p8 : ((i : Int) < (ns.length : Int)) = True := eq_true (by omega)
      have p7 : ((0 : Int) ≤ (i : Int)) = True := eq_true (by omega)
      obtain ⟨bd, B6, d6, hbd, hna, -, hC6⟩ := node_at HR0.out (i : Int) ((allN_mem _ _).mpr ⟨by omega, by omega⟩)
      subst hbd
      obtain ⟨x, hx⟩ : ∃ x, x = ndR ns (i : Int) := ⟨_, rfl⟩
      rw [← hx] at hna hC6
      rw [Int.toNat_natCast] at hna
      have hLl : x.f6.length ≤ 1048576 := by rw [hx]; exact ndL_le HF.out i hlt
      have HLl := Aside0.mk hLl
      have HX := Aside0.mk hx
      have HC6 := Aside0.mk hC6
      obtain ⟨e0, e1, e2, e3, e4, e5, e6⟩ := hna.below HB.out
      have hw1 : IntKind.i64.wrap ((i : Int) + 1) = ((i + 1 : Nat) : Int) := wrap_upM hlt (by have := HF.out.len; omega)
      have HPI : Aside0 (acc + ((x.f6.drop 0).map (·.f1)).count y + (tgts (ns.drop (i + 1))).count y = R) := ⟨by
        have h := HP.out
        rw [List.drop_eq_getElem_cons hlt, show tgts (ns[i] :: ns.drop (i + 1)) = ns[i].f6.map (·.f1) ++ tgts (ns.drop (i + 1)) from rfl, List.count_append] at h
        rw [List.drop_zero, hx, show ndR ns (i : Int) = ns[i] from rdNd ns i hlt]
        omega⟩
      clear HP
      clear hx hna hC6 hLl hlt hid
      go_wp2
      go_loopw [5, 20] (fun va vi wq => ∃ (j acc : Nat), j ≤ x.f6.length ∧ vi = .int .i64 (j : Int) ∧ va = .int .i64 (acc : Int) ∧ Aside0 (acc + ((x.f6.drop j).map (·.f1)).count y + (tgts (ns.drop (i + 1))).count y = R) ∧ Aside0 (acc ≤ 1048576 * i + j) ∧ Aside0 (Below w.heap.size w wq)) (fun _ vi _ => x.f6.length - (intOf vi).toNat)
      case atStart => exact ⟨0, acc, Nat.zero_le _, rfl, rfl, HPI, ⟨by have := HQ.out; omega⟩, ⟨below_alloc HB.out _⟩⟩
      case round =>
        clear HPI HQ e0 e1 e2 e3 e4 e5 e6
        obtain ⟨j, acc, hj, rfl, rfl, HPJ, HQJ, HBq⟩ := hrel
        by_cases hjl : j < x.f6.length
        case neg =>
          have hje : j = x.f6.length := by omega
          subst hje
          have q9 : decide ((x.f6.length : Int) < (x.f6.length : Int)) = false := by simp
          have HPO : Aside0 (acc + (tgts (ns.drop (i + 1))).count y = R) := ⟨by have h := HPJ.out; rw [List.drop_length] at h; simpa using h⟩
          have HQO : Aside0 (acc ≤ 1048576 * (i + 1)) := ⟨by have := HQJ.out; have := HLl.out; omega⟩
          clear hjl hj HPJ HQJ
          go_wp2
          go_roundw
          case rel => exact ⟨i + 1, d, acc, by have := HID.out; omega, by first | rfl | go_num, rfl, HPO, HQO, HBq⟩
          case measure => have := HLT.out; simp [intOf]; omega
        case pos =>
          obtain ⟨be, hbe, hn0, hn1⟩ := at_T144 (Kd.C_below HC6.out HBq.out) (j : Int) (by omega) (by omega)
          rw [Int.toNat_natCast] at hn0 hn1
          have hLi : rd_T144 x.f6 (j : Int) = x.f6[j] := by unfold rd_T144; simp [List.getD, hjl]
          rw [hLi] at hn0 hn1
          have q9 : decide ((j : Int) < (x.f6.length : Int)) = true := decide_eq_true (by omega)
          have q8 : ((j : Int) < (x.f6.length : Int)) = True := eq_true (by omega)
          have q7 : ((0 : Int) ≤ (j : Int)) = True := eq_true (by omega)
          have HJL := Aside0.mk hjl
          have hw2 : IntKind.i64.wrap ((j : Int) + 1) = ((j + 1 : Nat) : Int) := wrap_upM hjl (by have := HLl.out; omega)
          have hPJ := HPJ.out
          rw [List.drop_eq_getElem_cons hjl, List.map_cons, List.count_cons] at hPJ
          obtain ⟨en, hen⟩ : ∃ e, e = x.f6[j] := ⟨_, rfl⟩
          rw [← hen] at hPJ hn0 hn1
          by_cases hc : en.f1 = y
          · have z1 : (en.f1 == y) = true := by simpa using hc
            have z2 : decide (en.f1 = y) = true := decide_eq_true hc
            have HPK : Aside0 (acc + 1 + ((x.f6.drop (j + 1)).map (·.f1)).count y + (tgts (ns.drop (i + 1))).count y = R) := ⟨by rw [if_pos z1] at hPJ; omega⟩
            have HQK : Aside0 (acc + 1 ≤ 1048576 * i + (j + 1)) := ⟨by have := HQJ.out; omega⟩
            have hw3 : IntKind.i64.wrap ((acc : Int) + 1) = ((acc + 1 : Nat) : Int) := wrap_big (by have := HQJ.out; have := HLT.out; have := HF.out.len; have := HLl.out; omega)
            subst hbe
            clear hPJ HPJ HQJ hLi hen hjl hj hc
            go_wp2
            go_roundw
            case rel => exact ⟨j + 1, acc + 1, by have := HJL.out; omega, by first | rfl | go_num, by first | rfl | go_num, HPK, HQK, ⟨below_alloc HBq.out _⟩⟩
            case measure => have := HJL.out; simp [intOf]; omega
          · have z1 : (en.f1 == y) = false := by simpa using hc
            have z2 : decide (en.f1 = y) = false := decide_eq_false hc
            have HPK : Aside0 (acc + ((x.f6.drop (j + 1)).map (·.f1)).count y + (tgts (ns.drop (i + 1))).count y = R) := ⟨by rw [z1, if_neg (by decide)] at hPJ; omega⟩
            have HQK : Aside0 (acc ≤ 1048576 * i + (j + 1)) := ⟨by have := HQJ.out; omega⟩
            subst hbe
            clear hPJ HPJ HQJ hLi hen hjl hj hc
            go_wp2
            go_roundw
            case rel => exact ⟨j + 1, acc, by have := HJL.out; omega, by first | rfl | go_num, rfl, HPK, HQK, ⟨below_alloc HBq.out _⟩⟩
            case measure => have := HJL.out; simp [intOf]; omega
def sBackB (ns : List Nd) (x : Nd) : Bool :=
  if x.f0 = 1 then decide (x.f5.size ≤ 60) && (x.f6.length == 0) else if x.f0 = 2 then (x.f5.toList == []) && sEntsB ns x.f6 x.f6.length else if x.f0 = 3 then goodPathB x.f5 && (x.f6.length == 0) else false
def sNodeB (ns : List Nd) (x : Nd) : Bool := if x.f0 = 0 then freeB x else (inB 0 511 x.f1 && (inB 0 99 x.f2 && (inB 0 99 x.f3 && inB 0 1000000 x.f4))) && sBackB ns x
theorem entsB_iff (ns : List Nd) (l : List En) (n : Nat) : entsB ns l n = true ↔ ∀ i, i < n → entB ns l i = true := by
  induction n with
  | zero => exact ⟨fun _ i h => absurd h (Nat.not_lt_zero _), fun _ => rfl⟩
  | succ n ih =>
    unfold entsB
    rw [Bool.and_eq_true, ih]
    exact ⟨fun h i hi => by rcases Nat.lt_succ_iff_lt_or_eq.mp hi with h1 | rfl; exact h.1 i h1; exact h.2, fun h => ⟨fun i hi => h i (by omega), h n (by omega)⟩⟩
theorem sEntsB_iff (ns : List Nd) (l : List En) (n : Nat) : sEntsB ns l n = true ↔ ∀ i, i < n → sEntB ns l i = true := by
  induction n with
  | zero => exact ⟨fun _ i h => absurd h (Nat.not_lt_zero _), fun _ => rfl⟩
  | succ n ih =>
    unfold sEntsB
    rw [Bool.and_eq_true, ih]
    exact ⟨fun h i hi => by rcases Nat.lt_succ_iff_lt_or_eq.mp hi with h1 | rfl; exact h.1 i h1; exact h.2, fun h => ⟨fun i hi => h i (by omega), h n (by omega)⟩⟩
theorem inB_iff (lo hi n : Int) : inB lo hi n = true ↔ lo ≤ n ∧ n ≤ hi := by unfold inB; simp
theorem entB_iff (ns : List Nd) (l : List En) (i : Nat) : sEntB ns l i = true ↔ entB ns l i = true ∧ (enR l (i : Int)).f1 ≠ 0 := by
  unfold sEntB entB thereB
  simp only [Bool.and_eq_true, inB_iff]
  constructor
  · rintro ⟨h1, h2, ⟨h3, h4⟩, h5⟩; exact ⟨⟨h1, h2, ⟨by omega, h4⟩, h5⟩, by omega⟩
  · rintro ⟨⟨h1, h2, ⟨h3, h4⟩, h5⟩, h6⟩; exact ⟨h1, h2, ⟨by omega, h4⟩, h5⟩
theorem nodeB_iff (ns : List Nd) (x : Nd) : sNodeB ns x = true ↔ nodeB ns x = true ∧ ∀ e, e ∈ x.f6 → e.f1 ≠ 0 := by
  unfold sNodeB nodeB frontB sBackB backB
  by_cases h0 : x.f0 = 0
  · rw [if_pos h0, if_pos h0]
    refine ⟨fun h => ⟨h, fun e he => ?_⟩, fun h => h.1⟩
    unfold freeB at h
    simp only [Bool.and_eq_true, beq_iff_eq] at h
    rw [List.eq_nil_of_length_eq_zero h.2.2.2.2.2.2] at he; exact absurd he (by simp)
  · rw [if_neg h0, if_neg h0]
    by_cases h2 : x.f0 = 2
    · rw [if_neg (by omega), if_pos h2, if_neg (by omega), if_neg (by omega), if_pos h2, h2]
      simp only [Bool.and_eq_true, beq_self_eq_true, Bool.true_or, and_true]
      rw [sEntsB_iff, entsB_iff]
      constructor
      · rintro ⟨⟨a, b, c, d⟩, e, f⟩
        refine ⟨⟨⟨a, b, c, d⟩, fun i hi => ((entB_iff ns x.f6 i).mp (f i hi)).1, e⟩, fun y hy => ?_⟩
        obtain ⟨i, hi, rfl⟩ := List.getElem_of_mem hy
        have := ((entB_iff ns x.f6 i).mp (f i hi)).2
        rw [show enR x.f6 (i : Int) = x.f6[i] from rdEn x.f6 i hi] at this; exact this
      · rintro ⟨⟨⟨a, b, c, d⟩, f, e⟩, g⟩
        refine ⟨⟨a, b, c, d⟩, e, fun i hi => (entB_iff ns x.f6 i).mpr ⟨f i hi, ?_⟩⟩
        rw [show enR x.f6 (i : Int) = x.f6[i] from rdEn x.f6 i hi]
        exact g _ (List.getElem_mem hi)
    · have hb : (x.f0 == 2) = false := by simpa using h2
      rw [hb, if_neg h2, if_neg h2]
      simp only [Bool.and_eq_true, Bool.false_or]
      by_cases h1 : x.f0 = 1
      · rw [if_pos h1, if_pos h1]
        simp only [Bool.and_eq_true, beq_iff_eq]
        constructor
        · rintro ⟨⟨a, b, c, d⟩, e, f⟩
          exact ⟨⟨⟨a, b, c, d, f⟩, e⟩, fun y hy => by rw [List.eq_nil_of_length_eq_zero f] at hy; exact absurd hy (by simp)⟩
        · rintro ⟨⟨⟨a, b, c, d, f⟩, e⟩, _⟩
          exact ⟨⟨a, b, c, d⟩, e, f⟩
      · rw [if_neg h1, if_neg h1]
        by_cases h3 : x.f0 = 3
        · rw [if_pos h3, if_pos h3]
          simp only [Bool.and_eq_true, beq_iff_eq]
          constructor
          · rintro ⟨⟨a, b, c, d⟩, e, f⟩
            exact ⟨⟨⟨a, b, c, d, f⟩, e⟩, fun y hy => by rw [List.eq_nil_of_length_eq_zero f] at hy; exact absurd hy (by simp)⟩
          · rintro ⟨⟨⟨a, b, c, d, f⟩, e⟩, _⟩
            exact ⟨⟨a, b, c, d⟩, e, f⟩
        · rw [if_neg h3, if_neg h3]
          exact ⟨fun h => absurd h.2 (by simp), fun h => absurd h.1.2 (by simp)⟩
def dirN (ns : List Nd) (y : Int) : Bool := (ndR ns y).f0 == 2
def freeN (ns : List Nd) (y : Int) : Bool := (ndR ns y).f0 == 0
theorem ndR_cases (ns : List Nd) (x : Int) : (ndR ns x ∈ ns) ∨ (ndR ns x).f6 = [] := by
  unfold ndR rd_T85
  by_cases h : x.toNat < ns.length
  · left; rw [List.getD_eq_getElem?_getD, List.getElem?_eq_getElem h]; exact List.getElem_mem h
  · right; rw [List.getD_eq_getElem?_getD, List.getElem?_eq_none (by omega)]; rfl
theorem allN_map (ns : List Nd) : (allN ns.length).map (ndR ns) = ns := by
  apply List.ext_getElem
  · simp [allN]
  · intro i h1 h2
    simp only [allN, List.getElem_map, List.getElem_range]
    exact rdNd ns i h2
theorem tgts_all (ns : List Nd) : tgts ns = (allN ns.length).flatMap (scN ns) := by
  have h : tgts ((allN ns.length).map (ndR ns)) = (allN ns.length).flatMap (scN ns) := by
    unfold tgts scN; rw [List.flatMap_map]
  rwa [allN_map] at h
theorem zero_all {ns : List Nd} (h : 1 ≤ ns.length) : (0 : Int) ∈ allN ns.length := (allN_mem _ _).mpr ⟨by omega, by omega⟩
theorem good_sc {ns : List Nd} (h : ∀ x, x ∈ ns → nodeB ns x = true) (x : Int) (y : Int) (hy : y ∈ scN ns x) : y ∈ allN ns.length ∧ dirN ns x = true := by
  unfold scN at hy
  obtain ⟨e, he, rfl⟩ := List.mem_map.mp hy
  rcases ndR_cases ns x with hm | hm
  · have hn := h _ hm
    unfold dirN
    by_cases h2 : (ndR ns x).f0 = 2
    · refine ⟨?_, by simpa using h2⟩
      unfold nodeB backB at hn
      rw [if_neg (by omega), if_neg (by omega), if_neg (by omega), if_pos h2, Bool.and_eq_true, Bool.and_eq_true] at hn
      obtain ⟨i, hi, rfl⟩ := List.getElem_of_mem he
      have := (entsB_iff ns _ _).mp hn.2.1 i hi
      unfold entB thereB at this
      simp only [Bool.and_eq_true, inB_iff] at this
      rw [show enR (ndR ns x).f6 (i : Int) = (ndR ns x).f6[i] from rdEn _ i hi] at this
      exact (allN_mem _ _).mpr ⟨this.2.2.1.1, by have := this.2.2.1.2; omega⟩
    · exfalso
      have hb : ((ndR ns x).f0 == 2) = false := by simpa using h2
      have hz : (ndR ns x).f6.length = 0 := by
        unfold nodeB freeB frontB at hn
        split at hn
        · simp only [Bool.and_eq_true, beq_iff_eq] at hn; exact hn.2.2.2.2.2.2
        · rw [hb] at hn
          simp only [Bool.and_eq_true, Bool.false_or, beq_iff_eq] at hn; exact hn.1.2.2.2.2
      rw [List.eq_nil_of_length_eq_zero hz] at he; exact absurd he (by simp)
  · rw [hm] at he; exact absurd he (by simp)
structure IGood (ns : List Nd) (room : Int) : Prop where
  len : 1 ≤ ns.length ∧ ns.length ≤ 40
  inRoom : inB 0 1000 room = true
  top : (ndR ns 0).f0 = 2
  node : ∀ x, x ∈ ns → nodeB ns x = true
  sum : sumB ns ≤ room
  links : ∀ y, y ∈ allN ns.length → freeN ns y = false → if y = 0 then (tgts ns).count y = 0 else 1 ≤ (tgts ns).count y ∧ (dirN ns y = true → (tgts ns).count y ≤ 1)
  met : ∀ y, y ∈ allN ns.length → dirN ns y = true → From (scN ns) 0 y
structure SGood (ns : List Nd) (room : Int) : Prop where
  len : 1 ≤ ns.length ∧ ns.length ≤ 40
  inRoom : inB 0 1000 room = true
  sum : sumB ns ≤ room
  top : (ndR ns 0).f0 = 2
  node : ∀ x, x ∈ ns → sNodeB ns x = true
  tail : ∀ y, y ∈ allN ns.length → (y = 0 → (tgts ns).count y = 0) ∧ (y ≠ 0 → dirN ns y = true → (tgts ns).count y = 1) ∧ (freeN ns y = false → From (scN ns) 0 y)
theorem good_iff (ns : List Nd) (room : Int) : IGood ns room ↔ SGood ns room := by
  have tails : (∀ x, x ∈ ns → nodeB ns x = true) → 1 ≤ ns.length → (ndR ns 0).f0 = 2 → _ := fun hn hl h0 =>
    tails_iff (sc := scN ns) (dir := dirN ns) (free := freeN ns) (all := allN ns.length) (zero_all hl) (fun x _ y hy => (good_sc hn x y hy).1)
      (fun x hx => by obtain ⟨y, hy⟩ := List.exists_mem_of_ne_nil _ hx; exact (good_sc hn x y hy).2)
      (fun y hy => by unfold dirN at hy; unfold freeN; have e : (ndR ns y).f0 = 2 := (by simpa using hy); simp [e]) (by unfold dirN; rw [h0]; rfl)
  constructor
  · intro h
    have k := (tails h.node h.len.1 h.top).mp ⟨by rw [← tgts_all]; exact h.links, h.met⟩
    rw [← tgts_all] at k
    refine ⟨h.len, h.inRoom, h.sum, h.top, fun x hx => (nodeB_iff ns x).mpr ⟨h.node x hx, fun e he hz => ?_⟩, k⟩
    have h1 := (k 0 (zero_all h.len.1)).1 rfl
    have h2 : (0 : Int) ∈ tgts ns := List.mem_flatMap.mpr ⟨x, hx, List.mem_map.mpr ⟨e, he, hz⟩⟩
    have h3 := List.count_pos_iff.mpr h2
    omega
  · intro h
    have hn : ∀ x, x ∈ ns → nodeB ns x = true := fun x hx => ((nodeB_iff ns x).mp (h.node x hx)).1
    have k := (tails hn h.len.1 h.top).mpr (by rw [← tgts_all]; exact h.tail)
    rw [← tgts_all] at k
    exact ⟨h.len, h.inRoom, h.top, hn, h.sum, k.1, k.2⟩
theorem l3Node_ev (ns : List Nd) (room : Int) (x : Nd) (hn : ns.length ≤ 4294967296) (hd : x.f5.size < 4294967281) (hl : x.f6.length ≤ 4294967296) (hs : ∀ e, e ∈ x.f6 → e.f0.size < 4294967281) :
    Ev (fun k => spec_l3Node.f k ns room x.f0 x.f1 x.f2 x.f3 x.f4 x.f5 x.f6) (sNodeB ns x) := by
  have hE : spec_l3Entries.f ns room x.f6 = some (sEntsB ns x.f6 x.f6.length) := by
    unfold spec_l3Entries.f
    exact if_pos ⟨hn, hl, List.all_eq_true.mpr (fun e he => decide_eq_true (hs e he))⟩
  have hl6 : ((x.f6.length : Int) == 0) = (x.f6.length == 0) := by rw [Bool.eq_iff_iff]; simp
  have J : ∀ b : Bool, Ev (fun k => spec_l3Node.j0 k b ns room x.f0 x.f1 x.f2 x.f3 x.f4 x.f5 x.f6) (!b && sBackB ns x) := by
    intro b
    cases b with
    | true => exact Ev.step (f := fun _ => some false) (fun k => by simp only [spec_l3Node.j0]; rfl) (Ev.now _)
    | false =>
      unfold sBackB
      rw [Bool.not_false, Bool.true_and]
      by_cases h1 : x.f0 = 1
      · refine Ev.step (f := fun _ => some (decide (x.f5.size ≤ 60) && (x.f6.length == 0))) (fun k => ?_) (by rw [if_pos h1]; exact Ev.now _)
        simp only [spec_l3Node.j0]
        rw [if_neg (by simp), if_pos h1]
        by_cases h : x.f5.size ≤ 60
        · rw [if_pos (by omega), hl6, show decide (x.f5.size ≤ 60) = true from decide_eq_true h, Bool.true_and]
        · rw [if_neg (by omega), show decide (x.f5.size ≤ 60) = false from decide_eq_false h, Bool.false_and]
      · rw [if_neg h1]
        by_cases h2 : x.f0 = 2
        · refine Ev.step (f := fun _ => some ((x.f5.toList == []) && sEntsB ns x.f6 x.f6.length)) (fun k => ?_) (by rw [if_pos h2]; exact Ev.now _)
          simp only [spec_l3Node.j0]
          rw [if_neg (by simp), if_neg h1, if_pos h2]
          by_cases h : x.f5.toList = []
          · rw [if_pos h, hE, h]; rfl
          · rw [if_neg h, show (x.f5.toList == []) = false by simpa using h, Bool.false_and]
        · rw [if_neg h2]
          by_cases h3 : x.f0 = 3
          · have h := l2Path_ev x.f5 hd
            rw [if_pos h3]
            refine Ev.step (f := fun k => (spec_l2Path.f k x.f5).bind fun t => if t = true then some ((x.f6.length : Int) == 0) else some false) (fun k => ?_) (Ev.bind h ?_)
            · simp only [spec_l3Node.j0]
              rw [if_neg (by simp), if_neg h1, if_neg h2, if_pos h3]
            · rw [hl6]
              cases goodPathB x.f5
              · exact Ev.now _
              · exact Ev.now _
          · refine Ev.step (f := fun _ => some false) (fun k => ?_) (by rw [if_neg h3]; exact Ev.now _)
            simp only [spec_l3Node.j0]
            rw [if_neg (by simp), if_neg h1, if_neg h2, if_neg h3]
  unfold sNodeB
  by_cases h0 : x.f0 = 0
  · rw [if_pos h0]
    refine Ev.congr (f := fun _ => some (freeB x)) (fun k => ?_) (Ev.now _)
    rw [← isFree_f x]
    unfold spec_l3Node.f impl_Node_isFree.f
    rw [if_pos h0, if_pos h0]
  · rw [if_neg h0]
    have M : spec_l1Mode.f x.f1 = some (inB 0 511 x.f1) := by unfold spec_l1Mode.f; rw [l1In_f]; rfl
    cases hm : inB 0 511 x.f1 with
    | false =>
      refine Ev.congr (fun k => ?_) (J true)
      unfold spec_l3Node.f; rw [if_neg h0, M, hm]; rfl
    | true =>
      cases hu : inB 0 99 x.f2 with
      | false =>
        refine Ev.congr (fun k => ?_) (J true)
        unfold spec_l3Node.f; rw [if_neg h0, M, hm, l1In_f, hu]; rfl
      | true =>
        cases hg : inB 0 99 x.f3 with
        | false =>
          refine Ev.congr (fun k => ?_) (J true)
          unfold spec_l3Node.f; rw [if_neg h0, M, hm, l1In_f, hu, l1In_f, hg]; rfl
        | true =>
          have h := J (!(inB 0 1000000 x.f4))
          rw [Bool.not_not] at h
          refine Ev.congr (fun k => ?_) h
          unfold spec_l3Node.f; rw [if_neg h0, M, hm, l1In_f, hu, l1In_f, hg, l1In_f]; rfl
end Go.Proofs.YtfohpboikknknaaGreatDoor.Q
