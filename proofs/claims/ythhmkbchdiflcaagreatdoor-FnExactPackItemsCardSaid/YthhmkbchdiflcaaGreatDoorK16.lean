/- Texts of this claim, merged by a program (wip/tools/merge.py): Q67, HPackDef. -/
import Derived.Test.YthhmkbchdiflcaaGreatDoorK1
import Derived.Test.YthhmkbchdiflcaaGreatDoorK15
import Derived.Test.YthhmkbchdiflcaaGreatDoorK3
import Derived.Test.YthhmkbchdiflcaaGreatDoorK13
import Derived.Test.YthhmkbchdiflcaaGreatDoorK10
import Derived.Lib.ItoaNum
import Derived.Lib.Join
-- Printed by a program of this session (wip/tools/myprint.py) that runs the kit's print, hand-proved functions among the others.
namespace Go.Proofs.YthhmkbchdiflcaaGreatDoor.Q
open Go.RowKit Go.Proofs.YthhmkbchdiflcaaGreatDoorW.PrintWords Go.Proofs.YthhmkbchdiflcaaGreatDoorW.PrintLast Go.Proofs.YthhmkbchdiflcaaGreatDoorW.PrintMore
attribute [local go_sem] max2_int min2_int max_two min_two max_three min_three max_four min_four   -- for this text's walks alone
set_option linter.unusedVariables false
set_option linter.unusedSimpArgs false

/-! ### strings_ContainsAny: function 60 -/
def strings_ContainsAny.f (a0 : ByteArray) (a1 : ByteArray) : Option (Bool) := (strings_IndexAny.f a0 a1).bind fun t282 => (some (decide (t282 ≥ 0)))
set_option maxHeartbeats 8000000 in
set_option maxRecDepth 100000 in
theorem strings_ContainsAny.calls (a0 : ByteArray) (a1 : ByteArray) (r : Bool) (w : World) (h : strings_ContainsAny.f a0 a1 = some r) :
    Calls Tryz.prog 60 #[.string a0, .string a1] w fun e w' => e = .returned (.bool r) ∧ Below w.heap.size w w' := by
  have HB := Aside0.mk (Below.refl w.heap.size w)
  have H : ((strings_IndexAny.f a0 a1).bind fun t282 => (some (decide (t282 ≥ 0)))) = some r := h
  clear h
  replace H := Option.bind_eq_some_iff.mp H
  obtain ⟨t282, A30, H⟩ := H
  replace H : (some (decide (t282 ≥ 0))) = some r := H
  have A3 := Aside0.mk A30
  clear A30
  obtain rfl := Option.some.inj H
  go_enter Tryz.func60, Tryz.ntmps60
  go_wp2_with (first | ((with_reducible refine gate_callee (f := 130) rfl ?_); refine goesL_ (some 7) rfl rfl Tryz.func130 (by kernel_rfl) rfl #[.string a0, .string a1] rfl (by (try simp only [List.map_toArray, List.map_cons, List.map_nil]); first | done | rfl | (simp only [List.length_drop, List.length_take]; rfl)) ?_; (with_reducible refine (strings_IndexAny.calls a0 a1 t282 _ A3.out).mono ?_); rintro e w4 ⟨rfl, hb⟩; refine ⟨_, rfl, ?_⟩; have n0_ := Aside0.mk (below_step (by repeat (first | (with_reducible first | exact HB.out | apply below_alloc | apply pw_below_drewN | apply below_drew1) | exact HB.out)) hb); clear HB; have HB := n0_; clear n0_; (try clear hb); (try clear hb2); (try clear hk); (try clear hi)))
  go_ret
  exact ⟨by first | rfl | (simp [errW_none, errW_some] <;> rfl) | (simp [*, errW_none, errW_some] <;> rfl), by repeat (first | (with_reducible first | exact HB.out | apply below_alloc | apply pw_below_drewN | apply below_drew1) | exact HB.out)⟩

end Go.Proofs.YthhmkbchdiflcaaGreatDoor.Q

/- The text of items, as plain lists. -/
namespace Go.Proofs.YthhmkbchdiflcaaGreatDoor.Q
open Go.RowKit Go.Proofs.YthhmkbchdiflcaaGreatDoorW.PrintWords Go.Proofs.YthhmkbchdiflcaaGreatDoorW.PrintLast Go.Proofs.YthhmkbchdiflcaaGreatDoorW.PrintMore
attribute [local go_sem] max2_int min2_int max_two min_two max_three min_three max_four min_four   -- for this text's walks alone
set_option linter.unusedVariables false
set_option linter.unusedSimpArgs false

/-- The three digits of a mode. -/
def octB (m : Int) : ByteArray := ⟨#[UInt8.ofNat (48 + m.toNat / 64), UInt8.ofNat (48 + m.toNat / 8 % 8), UInt8.ofNat (48 + m.toNat % 8)]⟩
def wordsB (x : It) : List ByteArray := [numB x.f1, octB x.f2, numB x.f3, numB x.f4, numB x.f5, numB x.f6, x.f0, x.f7]
def lineL (x : It) : List UInt8 := Lib.join ((wordsB x).map (·.data.toList)) [9] ++ [10]
def packL (l : List It) : List UInt8 := l.flatMap lineL
def plainB (x : It) : Bool := x.f7.data.toList.all fun c => c != 9 && c != 10
/-- The answer of PackItems. -/
def packB (l : List It) : ByteArray × Bool := if goodB l = true ∧ l.all plainB = true then (⟨(packL l).toArray⟩, true) else (⟨#[]⟩, false)
theorem itoa_num (n : Int) (h : 0 ≤ n) : (⟨(Lib.itoa n).toArray⟩ : ByteArray) = numB n := by
  unfold numB Lib.itoa
  first | rw [if_neg (by omega)] | (split; omega; rfl) | rfl
/-- The numbers of an item of good items. -/
structure NumsOk (x : It) : Prop where
  k : 1 ≤ x.f1 ∧ x.f1 ≤ 3
  m : 0 ≤ x.f2 ∧ x.f2 ≤ 511
  u : 0 ≤ x.f3 ∧ x.f3 ≤ 99
  g : 0 ≤ x.f4 ∧ x.f4 ≤ 99
  t : 0 ≤ x.f5 ∧ x.f5 ≤ 1000000
  s : 0 ≤ x.f6 ∧ x.f6 ≤ 40
theorem inB_ends {lo hi n : Int} (h : inB lo hi n = true) : lo ≤ n ∧ n ≤ hi := by
  unfold inB at h; simpa using h
theorem pkSteps_at {l : List It} {n : Nat} (h : stepsB l n = true) {i : Nat} (hi : i < n) : stepB l i = true := by
  unfold stepsB at h
  exact List.all_eq_true.mp h i (List.mem_range.mpr hi)
theorem pkGood_step {l : List It} (h : goodB l = true) {i : Nat} (hi : i < l.length) : goodItemB l i = true ∧ l.length ≤ 40 := by
  unfold goodB at h
  simp only [Bool.and_eq_true, decide_eq_true_eq] at h
  have := pkSteps_at h.2.2.2 hi
  unfold stepB at this
  simp only [Bool.and_eq_true] at this
  exact ⟨this.2.1, h.2.1⟩
theorem own_nums {x : It} {i : Nat} (h : (inB 1 3 x.f1 && bareB x.f1 x.f2 x.f3 x.f4 x.f5 x.f7) = true) (hi : x.f6 = i) (h40 : i < 40) : NumsOk x := by
  unfold bareB at h
  simp only [Bool.and_eq_true] at h
  exact ⟨inB_ends h.1, inB_ends h.2.1, inB_ends h.2.2.1, inB_ends h.2.2.2.1, inB_ends h.2.2.2.2.1, by omega⟩
theorem good_nums {l : List It} (h : goodB l = true) {i : Nat} (hi : i < l.length) : NumsOk (itAt l i) := by
  obtain ⟨hg, h40⟩ := pkGood_step h hi
  unfold goodItemB at hg
  by_cases hs : (itAt l i).f6 = i
  · rw [if_pos hs] at hg
    exact own_nums hg hs (by omega)
  · rw [if_neg hs] at hg
    simp only [Bool.and_eq_true, zerosB, beq_iff_eq] at hg
    obtain ⟨hin, ⟨z2, z3, z4, z5, _⟩, hk, _, hss⟩ := hg
    have hr := inB_ends hin
    obtain ⟨j, hj⟩ : ∃ j : Nat, (itAt l i).f6 = j := ⟨(itAt l i).f6.toNat, by omega⟩
    rw [hj] at hk hss
    rw [Int.toNat_natCast] at hk hss
    have hg2 := (pkGood_step h (show j < l.length by omega)).1
    unfold goodItemB at hg2
    rw [if_pos hss] at hg2
    have hn := own_nums hg2 hss (by omega)
    exact ⟨by rw [← hk]; exact hn.k, by omega, by omega, by omega, by omega, by omega⟩
theorem octB_eq (m : Int) (h0 : 0 ≤ m) (h1 : m ≤ 511) : impl_octalText.f m = some (octB m) := by
  obtain ⟨i, rfl⟩ : ∃ i : Fin 512, m = (i.val : Int) := ⟨⟨m.toNat, by omega⟩, by simp; omega⟩
  revert i
  decide +kernel
theorem octB_size (m : Int) : (octB m).size = 3 := rfl
theorem lineL_eq (x : It) : lineL x = (numB x.f1).data.toList ++ [9] ++ (octB x.f2).data.toList ++ [9] ++ (numB x.f3).data.toList ++ [9] ++ (numB x.f4).data.toList ++ [9] ++ (numB x.f5).data.toList ++ [9] ++ (numB x.f6).data.toList ++ [9] ++ x.f0.data.toList ++ [9] ++ x.f7.data.toList ++ [10] := by
  unfold lineL wordsB
  simp [Lib.join, List.intercalate, List.intersperse]
theorem numB_le (n : Int) (h0 : 0 ≤ n) (h1 : n ≤ 1000000) : (numB n).data.toList.length ≤ 1000001 := by
  rw [data_length, numB_size]
  have := dec_le n.toNat
  omega
theorem lineL_le (x : It) (h : NumsOk x) : (lineL x).length ≤ x.f0.size + x.f7.size + 5000100 := by
  have := h.k; have := h.m; have := h.u; have := h.g; have := h.t; have := h.s
  have h1 := numB_le x.f1 (by omega) (by omega)
  have h2 := numB_le x.f3 (by omega) (by omega)
  have h3 := numB_le x.f4 (by omega) (by omega)
  have h4 := numB_le x.f5 (by omega) (by omega)
  have h5 := numB_le x.f6 (by omega) (by omega)
  have h6 : (octB x.f2).data.toList.length = 3 := rfl
  rw [lineL_eq]
  simp only [List.length_append, List.length_cons, List.length_nil, h6]
  have e1 := data_length x.f0
  have e2 := data_length x.f7
  omega
theorem packL_le (l : List It) (hn : ∀ x ∈ l, NumsOk x ∧ x.f0.size < 4294967281 ∧ x.f7.size < 4294967281) : (packL l).length ≤ l.length * 8600000000 := by
  induction l with
  | nil => simp [packL]
  | cons x r ih =>
    have h := hn x (by simp)
    have h1 := lineL_le x h.1
    have h2 := ih (fun y hy => hn y (by simp [hy]))
    have e : packL (x :: r) = lineL x ++ packL r := rfl
    rw [e, List.length_append, List.length_cons]
    omega
theorem packL_snoc (l : List It) (x : It) : packL (l ++ [x]) = packL l ++ lineL x := by
  unfold packL; simp
theorem all_snoc_take (l : List It) (k : Nat) (h : k < l.length) : l.take (k + 1) = l.take k ++ [itAt l k] := by
  rw [List.take_succ_eq_append_getElem h, show itAt l k = l[k] from rdI l k h]
theorem idxAny_iff (ch : List UInt8) : ∀ l : List UInt8, 0 ≤ Lib.indexAny l ch ↔ ∃ c ∈ l, ch.contains c = true
  | [] => by simp [Lib.indexAny]
  | b :: r => by
    have ih := idxAny_iff ch r
    have hge := Lib.indexAny_ge ch r
    have e : Lib.indexAny (b :: r) ch = if ch.contains b then 0 else if Lib.indexAny r ch == -1 then -1 else Lib.indexAny r ch + 1 := rfl
    rw [e]
    by_cases hb : ch.contains b = true
    · rw [if_pos hb]; exact ⟨fun _ => ⟨b, by simp, hb⟩, fun _ => Int.le_refl _⟩
    · rw [if_neg hb]
      have e2 : (∃ c ∈ b :: r, ch.contains c = true) ↔ ∃ c ∈ r, ch.contains c = true := by
        constructor
        · rintro ⟨c, hc, h⟩
          rcases List.mem_cons.mp hc with rfl | hc
          · exact absurd h hb
          · exact ⟨c, hc, h⟩
        · rintro ⟨c, hc, h⟩; exact ⟨c, List.mem_cons_of_mem _ hc, h⟩
      rw [e2, ← ih]
      by_cases hm : Lib.indexAny r ch = -1
      · rw [hm]; simp
      · rw [if_neg (by simpa using hm)]; omega
theorem containsTab (s : ByteArray) (hs : s.size < 4294967281) : strings_ContainsAny.f s ⟨#[9, 10]⟩ = some (!(s.data.toList.all fun c => c != 9 && c != 10)) := by
  unfold strings_ContainsAny.f strings_IndexAny.f
  rw [if_pos ⟨by decide, by decide, by decide, hs⟩]
  simp only [Option.bind_some, Option.some.injEq]
  show decide (0 ≤ Lib.indexAny s.data.toList [9, 10]) = _
  generalize s.data.toList = l
  rw [Bool.eq_iff_iff, decide_eq_true_iff, idxAny_iff]
  simp only [Bool.not_eq_true', List.all_eq_false]
  constructor
  · rintro ⟨c, hc, h⟩
    refine ⟨c, hc, ?_⟩
    simp only [List.contains_cons, List.contains_nil, Bool.or_false, Bool.or_eq_true, beq_iff_eq] at h
    rcases h with rfl | rfl <;> decide
  · rintro ⟨c, hc, h⟩
    refine ⟨c, hc, ?_⟩
    simp only [List.contains_cons, List.contains_nil, Bool.or_false, Bool.or_eq_true, beq_iff_eq]
    simp only [Bool.and_eq_true, bne_iff_ne, ne_eq, not_and, Classical.not_not] at h
    by_cases h9 : c = 9
    · exact .inl h9
    · exact .inr (h h9)

end Go.Proofs.YthhmkbchdiflcaaGreatDoor.Q
