/- Texts of this claim, merged by a program (wip/tools/merge.py): HWays, HOrder, HNextEv, HGoodEv, HPureBase, HSevenEv, HMarkText, HMarkItem. -/
import Derived.Test.YthhmkbchdiflcaaGreatDoorR1
import Derived.Test.YthhmkbchdiflcaaGreatDoorR4
import Derived.Test.YthhmkbchdiflcaaGreatDoorR14
import Derived.Test.YthhmkbchdiflcaaGreatDoorR5
import Derived.Test.YthhmkbchdiflcaaGreatDoorR15
import Derived.Test.YthhmkbchdiflcaaGreatDoorR12
import Derived.Test.YthhmkbchdiflcaaGreatDoorR2
import Derived.Test.YthhmkbchdiflcaaGreatDoorR3
/- Ways as lists of names: the texts of them. -/
namespace Go.Proofs.YthhmkbchdiflcaaGreatDoor.Q
open Go.RowKit Go.Proofs.YthhmkbchdiflcaaGreatDoorW.PrintWords Go.Proofs.YthhmkbchdiflcaaGreatDoorW.PrintLast Go.Proofs.YthhmkbchdiflcaaGreatDoorW.PrintMore
attribute [local go_sem] max2_int min2_int max_two min_two max_three min_three max_four min_four   -- for this text's walks alone
set_option linter.unusedVariables false
set_option linter.unusedSimpArgs false

theorem name_no_slash {p : ByteArray} (h : nameOkB p = true) : (47 : UInt8) ∉ p.data.toList := by
  intro hm
  rw [← nameOk_eq] at h
  simp only [Bool.and_eq_true, List.all_eq_true] at h
  have := h.1 (((47 : UInt8).toNat : Nat) : Int) (by unfold bytesOf; exact List.mem_map.mpr ⟨47, hm, rfl⟩)
  exact absurd this (by decide)
theorem name_size {p : ByteArray} (h : nameOkB p = true) : 1 ≤ p.size ∧ p.size ≤ 8 := by
  rw [← nameOk_eq] at h
  unfold nameEnd inB at h
  simp at h
  omega
theorem name_dot {p : ByteArray} (h : nameOkB p = true) : p.data.toList ≠ [46] := by
  intro e
  unfold nameOkB at h
  rw [show p.toList = [46] from by rw [ByteArray.toList_eq]; exact e] at h
  simp at h
theorem name_ne {p : ByteArray} (h : nameOkB p = true) : p.data.toList ≠ [] := by
  intro e
  have h1 := (name_size h).1
  rw [← data_length, e] at h1
  simp at h1
def joinT : List (List UInt8) → List UInt8
  | [] => []
  | [a] => a
  | a :: b :: r => a ++ 47 :: joinT (b :: r)
theorem joinT_cons (a : List UInt8) (l : List (List UInt8)) (h : l ≠ []) : joinT (a :: l) = a ++ 47 :: joinT l := by
  cases l with
  | nil => exact absurd rfl h
  | cons => rfl
theorem joinT_snoc (n : List UInt8) : ∀ l : List (List UInt8), l ≠ [] → joinT (l ++ [n]) = joinT l ++ 47 :: n
  | [], h => absurd rfl h
  | [a], _ => rfl
  | a :: b :: r, _ => by
    have := joinT_snoc n (b :: r) (by simp)
    simp only [List.cons_append, joinT] at this ⊢
    rw [this]; simp
theorem join_spl (t : List UInt8) : joinT (spl 47 t) = t := by
  induction t with
  | nil => rfl
  | cons b t ih =>
    simp only [spl]
    by_cases hb : b = 47
    · rw [if_pos hb, joinT_cons _ _ (spl_ne _ _), ih, hb]; rfl
    · rw [if_neg hb]
      cases h2 : spl 47 t with
      | nil => exact absurd h2 (spl_ne _ _)
      | cons x r =>
        rw [h2] at ih
        cases r with
        | nil => simp only [joinT] at ih ⊢; rw [ih]
        | cons y r => simp only [joinT] at ih ⊢; rw [List.cons_append, ih]
theorem spl_noc (c : UInt8) : ∀ t : List UInt8, c ∉ t → spl c t = [t]
  | [], _ => rfl
  | b :: t, h => by
    have hb : b ≠ c := fun e => h (by rw [e]; exact List.mem_cons_self)
    simp only [spl, if_neg hb, spl_noc c t (fun e => h (List.mem_cons_of_mem _ e))]
theorem spl_app (c : UInt8) (t : List UInt8) : ∀ a : List UInt8, c ∉ a → spl c (a ++ c :: t) = a :: spl c t
  | [], _ => by simp [spl]
  | b :: a, h => by
    have hb : b ≠ c := fun e => h (by rw [e]; exact List.mem_cons_self)
    simp only [List.cons_append, spl, if_neg hb, spl_app c t a (fun e => h (List.mem_cons_of_mem _ e))]
theorem spl_join : ∀ l : List (List UInt8), l ≠ [] → (∀ x ∈ l, (47 : UInt8) ∉ x) → spl 47 (joinT l) = l
  | [], h, _ => absurd rfl h
  | [a], _, h => spl_noc 47 a (h a (by simp))
  | a :: b :: r, _, h => by
    simp only [joinT]
    rw [spl_app 47 _ a (h a (by simp)), spl_join (b :: r) (by simp) (fun x hx => h x (List.mem_cons_of_mem _ hx))]
def dataL (N : List ByteArray) : List (List UInt8) := N.map (·.data.toList)
def wayT (N : List ByteArray) : List UInt8 := if N = [] then [46] else joinT (dataL N)
theorem wayT_nil : wayT [] = [46] := rfl
theorem wayT_ne {N : List ByteArray} (h : N ≠ []) : wayT N = joinT (dataL N) := if_neg h
theorem slash_data (s : ByteArray) : dataL (slashL s) = spl 47 s.data.toList := splitB_spl 47 s
theorem slash_ne (s : ByteArray) : slashL s ≠ [] := by
  intro e
  have := slash_data s
  rw [e] at this
  exact spl_ne _ _ this.symm
theorem namesW_ne {s : ByteArray} (h : s.toList ≠ [46]) : namesW s = slashL s := if_neg h
theorem namesW_nil {s : ByteArray} : namesW s = [] ↔ s.toList = [46] := by
  constructor
  · intro h
    by_cases hd : s.toList = [46]
    · exact hd
    · rw [namesW_ne hd] at h; exact absurd h (slash_ne s)
  · intro h; exact if_pos h
theorem way_names (s : ByteArray) : wayT (namesW s) = s.data.toList := by
  by_cases h : s.toList = [46]
  · rw [namesW_nil.mpr h, wayT_nil, ← h, ByteArray.toList_eq]
  · rw [namesW_ne h, wayT_ne (slash_ne s), slash_data, join_spl]
theorem namesOk_eq (s : ByteArray) : namesOk s = (namesW s).all nameOkB := by
  unfold namesOk namesW
  by_cases h : s.toList = [46]
  · rw [if_pos h, if_pos h]; rfl
  · rw [if_neg h, if_neg h, List.all_eq_not_any_not]
theorem names_way {s : ByteArray} {N : List ByteArray} (hN : ∀ p ∈ N, nameOkB p = true) (h : s.data.toList = wayT N) : namesW s = N := by
  by_cases hn : N = []
  · subst hn
    exact namesW_nil.mpr (by rw [ByteArray.toList_eq, h]; rfl)
  · rw [wayT_ne hn] at h
    have hs : spl 47 s.data.toList = dataL N := by
      rw [h]
      refine spl_join _ (fun e => hn (List.map_eq_nil_iff.mp e)) (fun x hx => ?_)
      obtain ⟨p, hp, rfl⟩ := List.mem_map.mp hx
      exact name_no_slash (hN p hp)
    have hd : s.toList ≠ [46] := by
      intro e
      rw [ByteArray.toList_eq] at e
      rw [e, spl_noc 47 [46] (by decide)] at hs
      match N, hn, hs, hN with
      | [p], _, hs, hN =>
        simp only [dataL, List.map_cons, List.map_nil, List.cons.injEq, and_true] at hs
        exact name_dot (hN p (by simp)) hs.symm
      | p :: q :: r, _, hs, _ => simp [dataL] at hs
    rw [namesW_ne hd]
    exact map_data_inj ((slash_data s).trans hs)
theorem wayT_inj {M N : List ByteArray} (hM : ∀ p ∈ M, nameOkB p = true) (hN : ∀ p ∈ N, nameOkB p = true) (h : wayT M = wayT N) : M = N := by
  have h1 := names_way (s := ⟨(wayT M).toArray⟩) hM (by simp)
  have h2 := names_way (s := ⟨(wayT M).toArray⟩) hN (by simp [h])
  exact h1.symm.trans h2
theorem lastAt_hit (s : ByteArray) (a t : List UInt8) (hs : s.data.toList = a ++ 47 :: t) (ht : (47 : UInt8) ∉ t) : lastAt s 47 s.size = a.length := by
  have hl : s.size = a.length + 1 + t.length := by rw [← data_length, hs]; simp; omega
  have key : ∀ m, m ≤ t.length → lastAt s 47 (a.length + 1 + m) = a.length := by
    intro m
    induction m with
    | zero =>
      intro _
      simp only [Nat.add_zero, lastAt]
      rw [if_pos]
      rw [bt_data s a.length (by omega)]
      have : s.data.toList[a.length]'(by rw [data_length]; omega) = 47 := by simp [hs]
      rw [this]; rfl
    | succ m ih =>
      intro hm
      rw [show a.length + 1 + (m + 1) = (a.length + 1 + m) + 1 by omega]
      simp only [lastAt]
      rw [if_neg, ih (by omega)]
      rw [bt_data s (a.length + 1 + m) (by omega)]
      intro e
      have e2 : s.data.toList[a.length + 1 + m]'(by rw [data_length]; omega) = t[m] := by
        simp only [hs]
        rw [List.getElem_append_right (by omega)]
        simp [show a.length + 1 + m - a.length = m + 1 by omega]
      rw [e2] at e
      have e3 : t[m] = 47 := by
        apply UInt8.toNat.inj
        exact_mod_cast e
      exact ht (e3 ▸ List.getElem_mem _)
  rw [hl]
  exact key t.length (Nat.le_refl _)
theorem lastAt_none (s : ByteArray) (ht : (47 : UInt8) ∉ s.data.toList) : lastAt s 47 s.size = -1 := by
  have key : ∀ m, m ≤ s.size → lastAt s 47 m = -1 := by
    intro m
    induction m with
    | zero => intro _; rfl
    | succ m ih =>
      intro hm
      simp only [lastAt]
      rw [if_neg, ih (by omega)]
      rw [bt_data s m (by omega)]
      intro e
      have e3 : s.data.toList[m]'(by rw [data_length]; omega) = 47 := by
        apply UInt8.toNat.inj
        exact_mod_cast e
      exact ht (e3 ▸ List.getElem_mem _)
  exact key _ (Nat.le_refl _)
theorem dataL_append (M N : List ByteArray) : dataL (M ++ N) = dataL M ++ dataL N := by simp [dataL]
theorem above_way {s : ByteArray} {P : List ByteArray} {n : ByteArray} (h : namesW s = P ++ [n]) (hn : nameOkB n = true) : (aboveB s).data.toList = wayT P ∧
    (P = [] ∨ (aboveB s = s.extract 0 (s.size - n.size - 1) ∧ n.size + 1 ≤ s.size)) := by
  have hw := way_names s
  rw [h, wayT_ne (by simp), dataL_append] at hw
  have h47 := name_no_slash hn
  by_cases hP : P = []
  · subst hP
    have hl := lastAt_none s (by rw [← hw]; exact h47)
    unfold aboveB
    rw [hl]
    exact ⟨rfl, Or.inl rfl⟩
  · rw [show dataL [n] = [n.data.toList] from rfl, joinT_snoc n.data.toList (dataL P) (fun e => hP (by simpa [dataL] using e))] at hw
    have hl := lastAt_hit s _ _ hw.symm h47
    have hsz : s.size = (joinT (dataL P)).length + 1 + n.size := by rw [← data_length, ← hw, ← data_length]; simp; omega
    have ha : aboveB s = s.extract 0 (joinT (dataL P)).length := by
      unfold aboveB
      rw [hl, if_pos (by omega), Int.toNat_natCast]
    refine ⟨?_, Or.inr ⟨?_, by omega⟩⟩
    · rw [ha, extract_list, ← hw, wayT_ne hP]; simp
    · rw [ha, show s.size - n.size - 1 = (joinT (dataL P)).length by omega]
theorem parts_names {s : ByteArray} (h : ∀ p ∈ slashL s, nameOkB p = true) : partsL s = slashL s := by
  unfold partsL
  rw [List.filter_eq_self]
  intro p hp
  have := (name_size (h p hp)).1
  unfold nilB
  rw [Bool.not_eq_true', decide_eq_false_iff_not]
  omega
theorem l17Split_ev (s : ByteArray) (hs : s.size < 4294967281) (P : List ByteArray) (n : ByteArray) (h : namesW s = P ++ [n]) (ho : namesOk s = true) : Ev (fun k => spec_l17Split.f k s) (aboveB s, n) := by
  have hd : s.toList ≠ [46] := fun e => by rw [namesW_nil.mpr e] at h; simp at h
  rw [namesOk_eq, List.all_eq_true] at ho
  have hsl : slashL s = P ++ [n] := by rw [← namesW_ne hd, h]
  rw [h] at ho
  have hp : partsL s = P ++ [n] := by rw [parts_names (by rw [hsl]; exact ho), hsl]
  have hlen := slash_len s hs
  rw [hsl] at hlen
  have hl : (P ++ [n]).length = P.length + 1 := by simp
  obtain ⟨ha, hb⟩ := above_way h (ho n (by simp))
  unfold spec_l17Split.f
  refine Ev.bind (l2Parts_ev s hs) ?_
  rw [hp]
  have e1 : wrap64 (((P ++ [n]).length : Int) - 1) = (P.length : Int) := by rw [hl]; unfold wrap64; omega
  have e2 : rdOf ByteArray.empty (P ++ [n]) (P.length : Int) = n := by rw [rdS _ _ (by simp)]; simp
  refine Ev.congr (fun k => ?_) (Ev.now _)
  rw [e1, e2, if_pos (by omega), if_pos (by omega)]
  by_cases hP : P = []
  · subst hP
    rw [if_pos (by simp)]
    have : aboveB s = ⟨#[46]⟩ := Go.WideShapes.bytes_inj (by rw [ha]; rfl)
    rw [this]
  · rw [if_neg (by rw [hl]; have := List.length_pos_iff.mpr hP; omega)]
    rcases hb with hb | ⟨hb, hsz⟩
    · exact absurd hb hP
    · have e3 : wrap64 (wrap64 ((s.size : Int) - (n.size : Int)) - 1) = ((s.size - n.size - 1 : Nat) : Int) := by unfold wrap64; omega
      rw [e3, if_pos (by omega), if_pos (by omega), Int.toNat_natCast, hb]
def slashed (N : List ByteArray) : List UInt8 := (dataL N).flatMap fun x => 47 :: x
theorem slashed_join : ∀ N : List ByteArray, N ≠ [] → slashed N = 47 :: joinT (dataL N)
  | [], h => absurd rfl h
  | [a], _ => by simp [slashed, dataL, joinT]
  | a :: b :: r, _ => by
    have := slashed_join (b :: r) (by simp)
    have e : slashed (a :: b :: r) = 47 :: a.data.toList ++ slashed (b :: r) := rfl
    rw [e, this]
    simp [dataL, joinT]
theorem l2Of_loop (N : List ByteArray) (hN : ∀ p ∈ N, nameOkB p = true) (hl : N.length ≤ 4294967282) (d : Nat) : ∀ (i : Nat) (x : ByteArray), i + d = N.length → x.size ≤ 9 * i →
    Ev (fun k => spec_l2Of.l0 k x N (N.length : Int) (i : Int)) ⟨(x.data.toList ++ slashed (N.drop i)).toArray⟩ := by
  induction d with
  | zero =>
    intro i x hi hx
    refine Ev.step (f := fun _ => some x) (fun k => ?_) ?_
    · simp only [spec_l2Of.l0]; rw [if_neg (by omega)]
    · rw [List.drop_of_length_le (by omega)]
      simp only [slashed, dataL, List.map_nil, List.flatMap_nil, List.append_nil]
      exact Ev.now _
  | succ d ih =>
    intro i x hi hx
    have hlt : i < N.length := by omega
    have hn := name_size (hN N[i] (List.getElem_mem hlt))
    have h1 : ((⟨#[47]⟩ : ByteArray) ++ N[i]).size = 1 + N[i].size := by rw [ByteArray.size_append]; rfl
    have e : x.data.toList ++ slashed (N.drop i) = (x ++ ((⟨#[47]⟩ : ByteArray) ++ N[i])).data.toList ++ slashed (N.drop (i + 1)) := by
      have e0 : ∀ (a : ByteArray) (r : List ByteArray), slashed (a :: r) = 47 :: (a.data.toList ++ slashed r) := fun _ _ => rfl
      rw [List.drop_eq_getElem_cons hlt, e0]
      simp only [ByteArray.data_append, Array.toList_append, List.append_assoc]
      rfl
    rw [e]
    refine Ev.step (f := fun k => spec_l2Of.l0 k (x ++ ((⟨#[47]⟩ : ByteArray) ++ N[i])) N (N.length : Int) ((i + 1 : Nat) : Int)) (fun k => ?_) (ih (i + 1) (x ++ ((⟨#[47]⟩ : ByteArray) ++ N[i])) (by omega) (by rw [ByteArray.size_append, h1]; omega))
    simp only [spec_l2Of.l0]
    rw [if_pos (by omega), if_pos (by omega), if_pos (by omega), rdS _ _ hlt, if_pos (by omega), if_pos (by omega), step_n hlt (by omega)]
theorem l17Way_loop (s : ByteArray) (N : List ByteArray) (hl : N.length ≤ 4294967282) (hm : ∀ p ∈ N, p.size < 4294967281) (R : Bool)
    (hR : (∀ p ∈ N, nameOkB p = true) → R = (!N.isEmpty && (joinT (dataL N) == s.data.toList))) (hF : (∃ p ∈ N, nameOkB p = false) → R = false) (d : Nat) : ∀ i : Nat, i + d = N.length → (∀ p ∈ N.take i, nameOkB p = true) →
    Ev (fun k => spec_l17Way.l0 k s N N (N.length : Int) (i : Int)) R := by
  induction d with
  | zero =>
    intro i hi hp
    rw [List.take_of_length_le (by omega)] at hp
    rw [hR hp]
    by_cases hN : N = []
    · subst hN
      refine Ev.step (f := fun _ => some false) (fun k => ?_) (Ev.now _)
      simp only [spec_l17Way.l0]
      rw [if_neg (by simp at hi ⊢), if_neg (by simp)]
    · have hpos := List.length_pos_iff.mpr hN
      refine Ev.step (f := fun k => (spec_l2Of.f k N).bind fun t146 => (if 1 ≤ (t146.size : Int) then (some ((t146.extract 1 t146.size).toList == s.toList)) else (none))) (fun k => ?_) ?_
      · simp only [spec_l17Way.l0]
        rw [if_neg (by omega), if_pos (by omega)]
      · have h2 := l2Of_loop N hp hl N.length 0 ⟨#[]⟩ (by omega) (by decide)
        have h3 : Ev (fun k => spec_l2Of.f k N) ⟨(slashed N).toArray⟩ := by
          unfold spec_l2Of.f
          refine Ev.congr (fun k => ?_) h2
          rw [if_neg (by omega)]; rfl
        refine Ev.bind h3 ?_
        have e1 : (⟨(slashed N).toArray⟩ : ByteArray).size = (joinT (dataL N)).length + 1 := by rw [← data_length, slashed_join N hN]; simp
        refine Ev.congr (fun k => ?_) (Ev.now _)
        rw [if_pos (by omega)]
        have hne : N.isEmpty = false := by cases N <;> simp at hN ⊢
        have e2 : ((⟨(slashed N).toArray⟩ : ByteArray).data.toList.take (⟨(slashed N).toArray⟩ : ByteArray).size).drop 1 = joinT (dataL N) := by
          rw [e1]
          show ((slashed N).toArray.toList.take _).drop 1 = _
          rw [slashed_join N hN]
          simp
        rw [ByteArray.toList_eq, ByteArray.toList_eq, extract_list, e2, hne]
        rfl
  | succ d ih =>
    intro i hi hp
    have hlt : i < N.length := by omega
    have h1 := l2Name_ev N[i] (hm _ (List.getElem_mem hlt))
    by_cases hn : nameOkB N[i] = true
    · refine Ev.step (f := fun k => (spec_l2Name.f k N[i]).bind fun t145 => (if t145 = true then (spec_l17Way.l0 k s N N (N.length : Int) ((i + 1 : Nat) : Int)) else (some false))) (fun k => ?_) ?_
      · simp only [spec_l17Way.l0]
        rw [if_pos (by omega), if_pos (by omega), if_pos (by omega), rdS _ _ hlt, step_n hlt (by omega)]
      · refine Ev.bind h1 ?_
        refine Ev.congr (fun k => ?_) (ih (i + 1) (by omega) ?_)
        · rw [if_pos hn]
        · intro p hpm
          rw [List.take_add_one, List.getElem?_eq_getElem hlt] at hpm
          rcases List.mem_append.mp hpm with h | h
          · exact hp p h
          · simp at h; rw [h]; exact hn
    · rw [hF ⟨N[i], List.getElem_mem hlt, by simpa using hn⟩]
      refine Ev.step (f := fun k => (spec_l2Name.f k N[i]).bind fun t145 => (if t145 = true then (spec_l17Way.l0 k s N N (N.length : Int) ((i + 1 : Nat) : Int)) else (some false))) (fun k => ?_) ?_
      · simp only [spec_l17Way.l0]
        rw [if_pos (by omega), if_pos (by omega), if_pos (by omega), rdS _ _ hlt, step_n hlt (by omega)]
      · refine Ev.bind h1 ?_
        refine Ev.congr (fun k => ?_) (Ev.now false)
        rw [if_neg hn]
/-- A way that is not the first one. -/
def innerB (s : ByteArray) : Bool := namesOk s && !(namesW s).isEmpty
theorem l17Way_ev (s : ByteArray) (hs : s.size < 4294967281) : Ev (fun k => spec_l17Way.f k s) (innerB s) := by
  unfold spec_l17Way.f
  refine Ev.bind (l2Parts_ev s hs) ?_
  have hlen : (partsL s).length ≤ 4294967282 := Nat.le_trans (List.length_filter_le _ _) (slash_len s hs)
  have hmem : ∀ p ∈ partsL s, p.size < 4294967281 := fun p hp => Nat.lt_of_le_of_lt (parts_mem_size s p hp) hs
  refine l17Way_loop s (partsL s) hlen hmem _ ?_ ?_ (partsL s).length 0 (by omega) (by simp)
  · intro hN
    by_cases hE : partsL s = []
    · rw [hE]
      unfold innerB
      rw [namesOk_eq]
      by_cases hd : s.toList = [46]
      · rw [namesW_nil.mpr hd]; rfl
      · rw [namesW_ne hd]
        have : (slashL s).all nameOkB = false := by
          apply Bool.eq_false_iff.mpr
          intro h
          rw [List.all_eq_true] at h
          rw [parts_names h] at hE
          exact slash_ne s hE
        rw [this]; rfl
    · have hne : (partsL s).isEmpty = false := by cases h : partsL s <;> simp [h] at hE ⊢
      rw [hne]
      unfold innerB
      rw [namesOk_eq]
      by_cases hj : joinT (dataL (partsL s)) = s.data.toList
      · have hw : namesW s = partsL s := names_way hN (by rw [wayT_ne hE, hj])
        rw [hw, hne, hj, List.all_eq_true.mpr hN]; simp
      · rw [show (joinT (dataL (partsL s)) == s.data.toList) = false from by simpa using hj]
        by_cases hd : s.toList = [46]
        · rw [namesW_nil.mpr hd]; rfl
        · rw [namesW_ne hd]
          have : (slashL s).all nameOkB = false := by
            apply Bool.eq_false_iff.mpr
            intro h
            rw [List.all_eq_true] at h
            rw [parts_names h, slash_data, join_spl] at hj
            exact hj rfl
          rw [this]; rfl
  · rintro ⟨p, hp, hb⟩
    unfold innerB
    rw [namesOk_eq]
    by_cases hd : s.toList = [46]
    · rw [namesW_nil.mpr hd]; rfl
    · rw [namesW_ne hd]
      have : (slashL s).all nameOkB = false := by
        apply Bool.eq_false_iff.mpr
        intro h
        rw [List.all_eq_true] at h
        rw [h p ((List.mem_filter.mp hp).1)] at hb
        exact absurd hb (by simp)
      rw [this]; rfl

end Go.Proofs.YthhmkbchdiflcaaGreatDoor.Q

/- The order of ways, and what good items are among each other. -/
namespace Go.Proofs.YthhmkbchdiflcaaGreatDoor.Q
open Go.RowKit Go.Proofs.YthhmkbchdiflcaaGreatDoorW.PrintWords Go.Proofs.YthhmkbchdiflcaaGreatDoorW.PrintLast Go.Proofs.YthhmkbchdiflcaaGreatDoorW.PrintMore
attribute [local go_sem] max2_int min2_int max_two min_two max_three min_three max_four min_four   -- for this text's walks alone
set_option linter.unusedVariables false
set_option linter.unusedSimpArgs false

theorem less_irrefl : ∀ a : List UInt8, Op.bytesLess a a = false
  | [] => rfl
  | x :: a => by simp [Op.bytesLess, less_irrefl a]
theorem less_trans : ∀ a b c : List UInt8, Op.bytesLess a b = true → Op.bytesLess b c = true → Op.bytesLess a c = true
  | [], _, [], _, h => by cases ‹List UInt8› <;> simp [Op.bytesLess] at h
  | [], _, _ :: _, _, _ => by simp [Op.bytesLess]
  | _ :: _, [], _, h, _ => by simp [Op.bytesLess] at h
  | _ :: _, _ :: _, [], _, h => by simp [Op.bytesLess] at h
  | x :: a, y :: b, z :: c, h1, h2 => by
    simp only [Op.bytesLess, UInt8.lt_iff_toNat_lt, Bool.or_eq_true, decide_eq_true_eq, Bool.and_eq_true, beq_iff_eq] at h1 h2 ⊢
    rcases h1 with h1 | ⟨rfl, h1⟩
    · rcases h2 with h2 | ⟨rfl, h2⟩
      · exact Or.inl (by omega)
      · exact Or.inl h1
    · rcases h2 with h2 | ⟨rfl, h2⟩
      · exact Or.inl h2
      · exact Or.inr ⟨rfl, less_trans a b c h1 h2⟩
theorem less_asymm {a b : List UInt8} (h : Op.bytesLess a b = true) : Op.bytesLess b a = false := by
  cases h2 : Op.bytesLess b a with
  | false => rfl
  | true => have := less_trans a b a h h2; rw [less_irrefl] at this; exact this.symm
theorem less_tri {a b : List UInt8} (h : Op.bytesLess a b = false) (h2 : Op.bytesLess b a = false) : a = b := by
  have := Gtr.less_total a b
  rw [h, h2] at this
  simpa using this
theorem cmpS_neg {a b : ByteArray} : cmpS a b < 0 ↔ Op.bytesLess a.toList b.toList = true := by
  unfold cmpS
  constructor
  · intro h
    by_cases h1 : Op.bytesLess a.toList b.toList = true
    · exact h1
    · rw [if_neg h1] at h; split at h <;> omega
  · intro h; rw [if_pos h]; omega
theorem cmpS_zero {a b : ByteArray} : cmpS a b = 0 ↔ a = b := by
  unfold cmpS
  constructor
  · intro h
    by_cases h1 : Op.bytesLess a.toList b.toList = true
    · rw [if_pos h1] at h; omega
    · rw [if_neg h1] at h
      by_cases h2 : Op.bytesLess b.toList a.toList = true
      · rw [if_pos h2] at h; omega
      · have := less_tri (by simpa using h1) (by simpa using h2)
        rw [ByteArray.toList_eq, ByteArray.toList_eq] at this
        exact Go.WideShapes.bytes_inj this
  · rintro rfl
    rw [less_irrefl]; rfl
theorem cmpL_refl : ∀ a : List ByteArray, cmpL a a = 0
  | [] => rfl
  | x :: a => by simp only [cmpL]; rw [if_pos (cmpS_zero.mpr rfl)]; exact cmpL_refl a
theorem cmpL_cons {a b : ByteArray} {x y : List ByteArray} : cmpL (a :: x) (b :: y) < 0 ↔ Op.bytesLess a.toList b.toList = true ∨ (a = b ∧ cmpL x y < 0) := by
  simp only [cmpL]
  by_cases h : cmpS a b = 0
  · rw [if_pos h]
    have e := cmpS_zero.mp h
    subst e
    rw [less_irrefl]; simp
  · rw [if_neg h, cmpS_neg]
    constructor
    · exact Or.inl
    · rintro (h1 | ⟨h1, _⟩)
      · exact h1
      · exact absurd (cmpS_zero.mpr h1) h
theorem cmpL_trans : ∀ a b c : List ByteArray, cmpL a b < 0 → cmpL b c < 0 → cmpL a c < 0
  | [], [], _, h, _ => by simp [cmpL] at h
  | _, _ :: _, [], _, h => by simp [cmpL] at h
  | [], _ :: _, _ :: _, _, _ => by simp [cmpL]
  | _ :: _, [], _, h, _ => by simp [cmpL] at h
  | x :: a, y :: b, z :: c, h1, h2 => by
    rw [cmpL_cons] at h1 h2 ⊢
    rcases h1 with h1 | ⟨rfl, h1⟩
    · rcases h2 with h2 | ⟨rfl, h2⟩
      · exact Or.inl (less_trans _ _ _ h1 h2)
      · exact Or.inl h1
    · rcases h2 with h2 | ⟨rfl, h2⟩
      · exact Or.inl h2
      · exact Or.inr ⟨rfl, cmpL_trans a b c h1 h2⟩
/-- What stands between a way and one that is made of it by a name more, begins with it. -/
theorem between (n : ByteArray) : ∀ P M : List ByteArray, (P = M ∨ cmpL P M < 0) → cmpL M (P ++ [n]) < 0 → M.take P.length = P ∧ P.length ≤ M.length
  | [], M, _, _ => by simp
  | a :: P, [], h, _ => by
    rcases h with h | h
    · simp at h
    · simp [cmpL] at h
  | a :: P, b :: M, h1, h2 => by
    rw [List.cons_append, cmpL_cons] at h2
    have hab : a = b ∨ Op.bytesLess a.toList b.toList = true := by
      rcases h1 with h1 | h1
      · exact Or.inl (List.cons.inj h1).1
      · rcases cmpL_cons.mp h1 with h1 | h1
        · exact Or.inr h1
        · exact Or.inl h1.1
    rcases h2 with h2 | ⟨rfl, h2⟩
    · rcases hab with rfl | hab
      · rw [less_irrefl] at h2; exact absurd h2 (by simp)
      · rw [less_asymm hab] at h2; exact absurd h2 (by simp)
    · have h3 : P = M ∨ cmpL P M < 0 := by
        rcases h1 with h1 | h1
        · exact Or.inl (List.cons.inj h1).2
        · rcases cmpL_cons.mp h1 with h1 | h1
          · rw [less_irrefl] at h1; exact absurd h1 (by simp)
          · exact Or.inr h1.2
      obtain ⟨h4, h5⟩ := between n P M h3 h2
      exact ⟨by rw [List.length_cons, List.take_succ_cons, h4], by simpa using h5⟩
theorem cmpL_snoc (n m : ByteArray) (R : List ByteArray) : ∀ P : List ByteArray, cmpL (P ++ m :: R) (P ++ [n]) < 0 ↔ Op.bytesLess m.toList n.toList = true
  | [] => by
    rw [List.nil_append, List.nil_append, cmpL_cons]
    constructor
    · rintro (h | ⟨_, h⟩)
      · exact h
      · cases R <;> simp [cmpL] at h
    · exact Or.inl
  | a :: P => by
    rw [List.cons_append, List.cons_append, cmpL_cons, cmpL_snoc n m R P]
    constructor
    · rintro (h | ⟨_, h⟩)
      · rw [less_irrefl] at h; exact absurd h (by simp)
      · exact h
    · intro h; exact Or.inr ⟨rfl, h⟩
theorem cmpL_more (n : ByteArray) : ∀ P : List ByteArray, cmpL P (P ++ [n]) < 0
  | [] => by simp [cmpL]
  | a :: P => by rw [List.cons_append, cmpL_cons]; exact Or.inr ⟨rfl, cmpL_more n P⟩
/-- The names of the i-th item. -/
def nmA (l : List It) (i : Nat) : List ByteArray := namesW (itAt l i).f0
def dirI (l : List It) (i : Nat) : Bool := (itAt l i).f1 == 2
/-- The first k items are as the program asks, the first a directory. -/
structure Pre (l : List It) (k : Nat) : Prop where
  root : (itAt l 0).f0.toList = [46]
  rdir : dirI l 0 = true
  ok : ∀ i, i < k → namesOk (itAt l i).f0 = true
  dir : ∀ i, 0 < i → i < k → dirAt l i (aboveB (itAt l i).f0).toList = true
  lt : ∀ i, i + 1 < k → cmpL (nmA l i) (nmA l (i + 1)) < 0
theorem dirAt_ex (l : List It) (s : List UInt8) : ∀ k, dirAt l k s = true → ∃ j, j < k ∧ (itAt l j).f0.toList = s ∧ dirI l j = true
  | 0, h => by simp [dirAt] at h
  | k + 1, h => by
    simp only [dirAt] at h
    by_cases e : (itAt l k).f0.toList = s
    · rw [if_pos e] at h; exact ⟨k, by omega, e, h⟩
    · rw [if_neg e] at h
      obtain ⟨j, h1, h2⟩ := dirAt_ex l s k h
      exact ⟨j, by omega, h2⟩
theorem dirAt_of (l : List It) (s : List UInt8) (j : Nat) (hd : dirI l j = true) (hs : (itAt l j).f0.toList = s) : ∀ k, j < k → (∀ i, i < k → (itAt l i).f0.toList = s → i = j) → dirAt l k s = true
  | 0, h, _ => absurd h (by omega)
  | k + 1, h, hu => by
    simp only [dirAt]
    by_cases e : (itAt l k).f0.toList = s
    · rw [if_pos e]
      have := hu k (by omega) e
      subst this
      exact hd
    · rw [if_neg e]
      have hjk : j ≠ k := fun ej => e (ej ▸ hs)
      exact dirAt_of l s j hd hs k (by omega) (fun i hi => hu i (by omega))
namespace Pre
variable {l : List It} {k : Nat}
theorem names (h : Pre l k) {i : Nat} (hi : i < k) : ∀ p ∈ nmA l i, nameOkB p = true := by
  have := h.ok i hi
  rw [namesOk_eq, List.all_eq_true] at this
  exact this
theorem lts (h : Pre l k) : ∀ d i, i + d + 1 < k → cmpL (nmA l i) (nmA l (i + d + 1)) < 0
  | 0, i, hi => h.lt i hi
  | d + 1, i, hi => cmpL_trans _ _ _ (lts h d i (by omega)) (h.lt (i + d + 1) (by omega))
theorem less (h : Pre l k) {i j : Nat} (hij : i < j) (hj : j < k) : cmpL (nmA l i) (nmA l j) < 0 := by
  have := lts h (j - i - 1) i (by omega)
  rwa [show i + (j - i - 1) + 1 = j by omega] at this
theorem one (h : Pre l k) {i j : Nat} (hi : i < k) (hj : j < k) (e : nmA l i = nmA l j) : i = j := by
  rcases Nat.lt_trichotomy i j with h1 | h1 | h1
  · have := h.less h1 hj; rw [e, cmpL_refl] at this; omega
  · exact h1
  · have := h.less h1 hi; rw [e, cmpL_refl] at this; omega
theorem zero (h : Pre l k) : nmA l 0 = [] := namesW_nil.mpr h.root
theorem ne (h : Pre l k) {i : Nat} (h0 : 0 < i) (hi : i < k) : nmA l i ≠ [] := by
  intro e
  have := h.one (i := 0) (j := i) (by omega) hi (by rw [h.zero, e])
  omega
/-- Who is told of as a directory by a way's text. -/
theorem told (h : Pre l k) {K : Nat} (hK : K ≤ k) {s : ByteArray} {P : List ByteArray} {n : ByteArray} (hn : nameOkB n = true) (hP : ∀ p ∈ P, nameOkB p = true) (hs : namesW s = P ++ [n]) (hd : dirAt l K (aboveB s).toList = true) :
    ∃ j, j < K ∧ nmA l j = P ∧ dirI l j = true := by
  obtain ⟨j, hj, e, hdj⟩ := dirAt_ex l _ K hd
  refine ⟨j, hj, ?_, hdj⟩
  refine names_way hP ?_
  rw [← (above_way hs hn).1, ← ByteArray.toList_eq, ← ByteArray.toList_eq, e]
theorem snoc (h : Pre l k) {i : Nat} (h0 : 0 < i) (hi : i < k) : ∃ P n, nmA l i = P ++ [n] ∧ nameOkB n = true ∧ (∀ p ∈ P, nameOkB p = true) := by
  have hne := h.ne h0 hi
  have hnm := h.names hi
  refine ⟨(nmA l i).dropLast, (nmA l i).getLast hne, (List.dropLast_concat_getLast hne).symm, hnm _ (List.getLast_mem hne), fun p hp => hnm p (List.dropLast_subset _ hp)⟩
/-- Where a way ends up among those that are open. -/
theorem fits' (h : Pre l k) {K : Nat} (hK : K + 1 ≤ k) {P : List ByteArray} {n : ByteArray} {j : Nat} (hj : j ≤ K) (e : nmA l j = P) (hd : dirI l j = true) (hc : cmpL (nmA l K) (P ++ [n]) < 0) :
    (nmA l K).take P.length = P ∧ P.length < (nmA l K).length + (if dirI l K = true then 1 else 0) := by
  by_cases hjK : j = K
  · subst hjK
    rw [e, hd]
    exact ⟨List.take_length, by simp⟩
  · have hl := h.less (show j < K by omega) (by omega)
    rw [e] at hl
    obtain ⟨h1, h2⟩ := between n P _ (Or.inr hl) hc
    refine ⟨h1, ?_⟩
    have : P.length ≠ (nmA l K).length := by
      intro e2
      rw [e2, List.take_length] at h1
      rw [h1, cmpL_refl] at hl
      omega
    omega
theorem closed (h : Pre l k) : ∀ i, i < k → ∀ p, p < (nmA l i).length → ∃ j, j < i ∧ nmA l j = (nmA l i).take p ∧ dirI l j = true := by
  intro i
  induction i using Nat.strongRecOn with
  | _ i ih =>
    intro hi p hp
    by_cases h0 : i = 0
    · subst h0; rw [h.zero] at hp; simp at hp
    · obtain ⟨P, n, e, hn, hP⟩ := h.snoc (show 0 < i by omega) hi
      obtain ⟨j, hj, ej, hdj⟩ := h.told (show i ≤ k by omega) hn hP e (h.dir i (by omega) hi)
      have hlen : (nmA l i).length = P.length + 1 := by rw [e]; simp
      by_cases hpP : p = P.length
      · exact ⟨j, hj, by rw [ej, e, hpP]; simp, hdj⟩
      · obtain ⟨j', hj', e', hd'⟩ := ih j hj (by omega) p (by rw [ej]; omega)
        refine ⟨j', by omega, ?_, hd'⟩
        rw [e', ej, e, List.take_append_of_le_length (by omega)]
end Pre
/-- What the reference asks of a way behind others. -/
def nextB (M : List ByteArray) (d : Bool) (P : List ByteArray) (n : ByteArray) : Bool :=
  decide (M.take P.length = P ∧ P.length < M.length + (if d = true then 1 else 0)) && Op.bytesLess ((M ++ [(⟨#[]⟩ : ByteArray)]).getD P.length ⟨#[]⟩).toList n.toList
theorem next_eq {l : List It} {K : Nat} (h : Pre l (K + 1)) {s : ByteArray} {P : List ByteArray} {n : ByteArray} (hn : nameOkB n = true) (hP : ∀ p ∈ P, nameOkB p = true) (hs : namesW s = P ++ [n]) :
    nextB (nmA l K) (dirI l K) P n = (dirAt l (K + 1) (aboveB s).toList && decide (cmpL (nmA l K) (P ++ [n]) < 0)) := by
  have hless : (nmA l K).take P.length = P → P.length < (nmA l K).length + (if dirI l K = true then 1 else 0) →
      (Op.bytesLess ((nmA l K ++ [(⟨#[]⟩ : ByteArray)]).getD P.length ⟨#[]⟩).toList n.toList = true ↔ cmpL (nmA l K) (P ++ [n]) < 0) := by
    intro h1 h2
    by_cases hlt : P.length < (nmA l K).length
    · have e : nmA l K = P ++ (nmA l K)[P.length] :: (nmA l K).drop (P.length + 1) := by
        conv => lhs; rw [← List.take_append_drop P.length (nmA l K), h1, List.drop_eq_getElem_cons hlt]
      have e2 : (nmA l K ++ [(⟨#[]⟩ : ByteArray)]).getD P.length ⟨#[]⟩ = (nmA l K)[P.length] := by
        rw [List.getD_eq_getElem?_getD, List.getElem?_append_left hlt, List.getElem?_eq_getElem hlt]; rfl
      rw [e2]
      conv => rhs; rw [e]
      exact (cmpL_snoc n _ _ P).symm
    · have hP2 : nmA l K = P := by rw [List.take_of_length_le (by omega)] at h1; exact h1
      rw [hP2]
      have e2 : (P ++ [(⟨#[]⟩ : ByteArray)]).getD P.length ⟨#[]⟩ = ⟨#[]⟩ := by simp
      rw [e2]
      constructor
      · intro _; exact cmpL_more n P
      · intro _
        have := name_ne hn
        rw [← ByteArray.toList_eq] at this
        have e3 : (⟨#[]⟩ : ByteArray).toList = [] := by rw [ByteArray.toList_eq]
        rw [e3]
        cases hx : n.toList with
        | nil => exact absurd hx this
        | cons => rfl
  rw [Bool.eq_iff_iff]
  unfold nextB
  simp only [Bool.and_eq_true, decide_eq_true_eq]
  constructor
  · rintro ⟨⟨h1, h2⟩, h3⟩
    have hc := (hless h1 h2).mp h3
    refine ⟨?_, hc⟩
    have : ∃ j, j < K + 1 ∧ nmA l j = P ∧ dirI l j = true := by
      by_cases hlt : P.length < (nmA l K).length
      · obtain ⟨j, hj, e, hd⟩ := h.closed K (by omega) P.length hlt
        exact ⟨j, by omega, by rw [e, h1], hd⟩
      · refine ⟨K, by omega, ?_, ?_⟩
        · rw [List.take_of_length_le (by omega)] at h1; exact h1
        · by_cases hd : dirI l K = true
          · exact hd
          · rw [if_neg hd] at h2; omega
    obtain ⟨j, hj, e, hd⟩ := this
    have hw : ∀ i, i < K + 1 → ((itAt l i).f0.toList = (aboveB s).toList ↔ nmA l i = P) := by
      intro i hi
      rw [ByteArray.toList_eq, ByteArray.toList_eq, (above_way hs hn).1]
      constructor
      · intro e; exact names_way hP e
      · intro e; rw [← e]; exact (way_names _).symm
    exact dirAt_of l _ j hd ((hw j hj).mpr e) (K + 1) hj (fun i hi ei => h.one hi hj (by rw [(hw i hi).mp ei, e]))
  · rintro ⟨h1, hc⟩
    obtain ⟨j, hj, e, hd⟩ := h.told (Nat.le_refl _) hn hP hs h1
    obtain ⟨h2, h3⟩ := h.fits' (Nat.le_refl _) (show j ≤ K by omega) e hd hc
    exact ⟨⟨h2, h3⟩, (hless h2 h3).mpr hc⟩

end Go.Proofs.YthhmkbchdiflcaaGreatDoor.Q

/- The reference's stack of open ways comes to what the program asks. -/
namespace Go.Proofs.YthhmkbchdiflcaaGreatDoor.Q
open Go.RowKit Go.Proofs.YthhmkbchdiflcaaGreatDoorW.PrintWords Go.Proofs.YthhmkbchdiflcaaGreatDoorW.PrintLast Go.Proofs.YthhmkbchdiflcaaGreatDoorW.PrintMore
attribute [local go_sem] max2_int min2_int max_two min_two max_three min_three max_four min_four   -- for this text's walks alone
set_option linter.unusedVariables false
set_option linter.unusedSimpArgs false

theorem namesW_len2 (s : ByteArray) (hs : s.size < 4294967281) : (namesW s).length ≤ 4294967282 := namesW_len s hs
def wayB (N : List ByteArray) : ByteArray := ⟨(wayT N).toArray⟩
theorem wayB_toList (N : List ByteArray) : (wayB N).toList = wayT N := by rw [ByteArray.toList_eq]; simp [wayB]
theorem wayB_names (s : ByteArray) : wayB (namesW s) = s := Go.WideShapes.bytes_inj (by rw [← way_names s]; simp [wayB])
theorem wayB_above {s : ByteArray} {P : List ByteArray} {n : ByteArray} (h : namesW s = P ++ [n]) (hn : nameOkB n = true) : aboveB s = wayB P :=
  Go.WideShapes.bytes_inj (by rw [(above_way h hn).1]; simp [wayB])
def ini (M : List ByteArray) : List ByteArray := (List.range (M.length + 1)).map fun j => wayB (M.take j)
theorem ini_len (M : List ByteArray) : (ini M).length = M.length + 1 := by simp [ini]
theorem ini_get (M : List ByteArray) (j : Nat) (h : j < (ini M).length) : (ini M)[j] = wayB (M.take j) := by simp [ini]
theorem ini_take (M : List ByteArray) (p : Nat) (hp : p ≤ M.length) : (ini M).take (p + 1) = ini (M.take p) := by
  refine List.ext_getElem (by rw [List.length_take, ini_len, ini_len, List.length_take]; omega) (fun j h1 h2 => ?_)
  rw [List.getElem_take, ini_get, ini_get, List.take_take]
  rw [ini_len, List.length_take] at h2
  rw [Nat.min_eq_left (by omega)]
theorem ini_snoc (P : List ByteArray) (n : ByteArray) : ini (P ++ [n]) = ini P ++ [wayB (P ++ [n])] := by
  have h1 := ini_take (P ++ [n]) P.length (by simp)
  rw [List.take_left] at h1
  have h2 : ini (P ++ [n]) = (ini (P ++ [n])).take (P.length + 1) ++ (ini (P ++ [n])).drop (P.length + 1) := (List.take_append_drop _ _).symm
  rw [h1] at h2
  rw [h2]
  congr 1
  have hl : P.length + 1 < (ini (P ++ [n])).length := by rw [ini_len]; simp
  rw [List.drop_eq_getElem_cons hl, ini_get, List.drop_of_length_le (by rw [ini_len]; simp)]
  rw [List.take_of_length_le (by simp)]
def opn (M : List ByteArray) (c : Nat) : List ByteArray := (ini M).take c
def lst (M : List ByteArray) (c : Nat) : List ByteArray := (M ++ [(⟨#[]⟩ : ByteArray)]).take c
theorem opn_len (M : List ByteArray) (c : Nat) (h : c ≤ M.length + 1) : (opn M c).length = c := by simp [opn, ini_len]; omega
theorem lst_len (M : List ByteArray) (c : Nat) (h : c ≤ M.length + 1) : (lst M c).length = c := by simp [lst]; omega
theorem opn_get (M : List ByteArray) (c j : Nat) (h : j < (opn M c).length) : (opn M c)[j] = wayB (M.take j) := by
  have h' : j < ((ini M).take c).length := h
  show ((ini M).take c)[j]'h' = _
  rw [List.getElem_take, ini_get]
theorem lst_get (M : List ByteArray) (c j : Nat) (hc : c ≤ M.length + 1) (h : j < (lst M c).length) : (lst M c)[j] = (M ++ [(⟨#[]⟩ : ByteArray)]).getD j ⟨#[]⟩ := by
  have h' : j < ((M ++ [(⟨#[]⟩ : ByteArray)]).take c).length := h
  show ((M ++ [(⟨#[]⟩ : ByteArray)]).take c)[j]'h' = _
  rw [List.length_take] at h'
  rw [List.getElem_take, List.getD_eq_getElem?_getD, List.getElem?_eq_getElem (by omega)]
  rfl
theorem lst_set (M : List ByteArray) (p : Nat) (w : ByteArray) (hp : p ≤ M.length) : (lst M (p + 1)).set p w = M.take p ++ [w] := by
  have hlt : p < (M ++ [(⟨#[]⟩ : ByteArray)]).length := by simp; omega
  unfold lst
  rw [List.take_add_one, List.getElem?_eq_getElem hlt, List.take_append_of_le_length hp]
  have hl : (M.take p).length = p := by simp; omega
  rw [List.set_append_right _ _ (by omega), hl]
  simp
theorem wayB_ne {M N : List ByteArray} (hM : ∀ p ∈ M, nameOkB p = true) (hN : ∀ p ∈ N, nameOkB p = true) (h : (wayB M).toList = (wayB N).toList) : M = N := by
  rw [wayB_toList, wayB_toList] at h
  exact wayT_inj hM hN h
set_option maxHeartbeats 1000000 in
theorem pop_ev (x5 x6 : ByteArray) (M P : List ByteArray) (w : ByteArray) (p : Nat) (hM : ∀ q ∈ M, nameOkB q = true) (hP : M.take p = P) (hp : p ≤ M.length) (hl : M.length ≤ 4294967282) (r : List It) (n i : Int)
    (y0 : ByteArray) (y1 y2 y3 y4 y5 y6 : Int) (y7 : ByteArray) (R : Bool)
    (hnext : Ev (fun k => if y1 = 2 then spec_l17Next.l0 k x5 x6 (ini P ++ [y0]) ((P ++ [w]) ++ [(⟨#[]⟩ : ByteArray)]) r n (wrap64 (i + 1)) else spec_l17Next.l0 k x5 x6 (ini P) (P ++ [w]) r n (wrap64 (i + 1))) R) (e : Nat) :
    p + 1 + e ≤ M.length + 1 → Ev (fun k => spec_l17Next.l1 k x5 x6 (opn M (p + 1 + e)) (lst M (p + 1 + e)) (wayB P) w r n i y0 y1 y2 y3 y4 y5 y6 y7) R := by
  have hPn : ∀ q ∈ P, nameOkB q = true := fun q hq => hM q (by rw [← hP] at hq; exact List.mem_of_mem_take hq)
  have hPl : P.length = p := by rw [← hP]; simp; omega
  induction e with
  | zero =>
    intro hc
    have e1 : opn M (p + 1 + 0) = ini P := by rw [Nat.add_zero]; unfold opn; rw [ini_take M p hp, hP]
    have e2 : wrap64 (((ini P).length : Int) - 1) = (p : Int) := by rw [ini_len]; unfold wrap64; omega
    have e3 := lst_len M (p + 1 + 0) hc
    have e4 : wrap64 (((lst M (p + 1 + 0)).length : Int) - 1) = (p : Int) := by rw [e3]; unfold wrap64; omega
    have e5 : rdOf ByteArray.empty (ini P) (p : Int) = wayB P := by
      rw [rdS _ _ (by rw [ini_len]; omega), ini_get, List.take_of_length_le (by omega)]
    refine Ev.step (fun k => ?_) hnext
    simp only [spec_l17Next.l1]
    rw [e1, e2, e4, if_pos (by omega), if_pos (by rw [ini_len]; omega), e5, if_pos rfl, if_pos (by omega), if_pos (by omega), Int.toNat_natCast, Nat.add_zero, lst_set M p w hp, hP]
    simp only [Option.bind_some]
    by_cases h2 : y1 = 2
    · rw [if_pos h2, if_pos h2, if_pos (by rw [ini_len]; omega), if_pos (by rw [List.length_append, List.length_singleton]; omega)]
    · rw [if_neg h2, if_neg h2]
  | succ e ih =>
    intro hc
    have e3 := lst_len M (p + 1 + (e + 1)) hc
    have e6 := opn_len M (p + 1 + (e + 1)) hc
    have e2 : wrap64 (((opn M (p + 1 + (e + 1))).length : Int) - 1) = ((p + 1 + e : Nat) : Int) := by rw [e6]; unfold wrap64; omega
    have e4 : wrap64 (((lst M (p + 1 + (e + 1))).length : Int) - 1) = ((p + 1 + e : Nat) : Int) := by rw [e3]; unfold wrap64; omega
    have e5 : rdOf ByteArray.empty (opn M (p + 1 + (e + 1))) ((p + 1 + e : Nat) : Int) = wayB (M.take (p + 1 + e)) := by
      rw [rdS _ _ (by rw [e6]; omega), opn_get]
    have hne : ¬ (wayB (M.take (p + 1 + e))).toList = (wayB P).toList := by
      intro h
      have := wayB_ne (fun q hq => hM q (List.mem_of_mem_take hq)) hPn h
      have := congrArg List.length this
      rw [List.length_take] at this
      omega
    have t1 : (opn M (p + 1 + (e + 1))).take (p + 1 + e) = opn M (p + 1 + e) := by unfold opn; rw [List.take_take, Nat.min_eq_left (by omega)]
    have t2 : (lst M (p + 1 + (e + 1))).take (p + 1 + e) = lst M (p + 1 + e) := by unfold lst; rw [List.take_take, Nat.min_eq_left (by omega)]
    refine Ev.step (fun k => ?_) (ih (by omega))
    simp only [spec_l17Next.l1]
    rw [e2, e4, if_pos (by omega), if_pos (by rw [e6]; omega), e5, if_neg hne, if_pos (by omega), if_pos (by omega), if_pos (by omega), Int.toNat_natCast, t1, t2]
def cnI (l : List It) (i : Nat) : Nat := (nmA l i).length + (if dirI l i = true then 1 else 0)
theorem cnI_le (l : List It) (i : Nat) : cnI l i ≤ (nmA l i).length + 1 := by unfold cnI; split <;> omega
set_option maxHeartbeats 1000000 in
theorem stack_ev {l : List It} {k : Nat} (h : Pre l k) (hk : k ≤ 1000) (hs : ∀ i, (itAt l i).f0.size < 4294967281) (r : List It) (hr : r.length + 1 = k) (hri : ∀ i (hi : i < r.length), r[i] = itAt l (i + 1)) (x5 x6 : ByteArray) (R : Bool)
    (hend : Ev (fun q => spec_l17Next.l2 q x5 x6 (lst (nmA l (k - 1)) (cnI l (k - 1))) (opn (nmA l (k - 1)) (cnI l (k - 1))) ((opn (nmA l (k - 1)) (cnI l (k - 1))).length : Int) 0) R) (d : Nat) :
    ∀ i, i + d = r.length → Ev (fun q => spec_l17Next.l0 q x5 x6 (opn (nmA l i) (cnI l i)) (lst (nmA l i) (cnI l i)) r (r.length : Int) (i : Int)) R := by
  induction d with
  | zero =>
    intro i hi
    have : i = k - 1 := by omega
    subst this
    refine Ev.step (fun q => ?_) hend
    simp only [spec_l17Next.l0]
    rw [if_neg (by omega)]
  | succ d ih =>
    intro i hi
    have hlt : i < r.length := by omega
    obtain ⟨P, n, e, hn, hP⟩ := h.snoc (i := i + 1) (by omega) (by omega)
    have hok := h.ok (i + 1) (by omega)
    obtain ⟨j, hj, ej, hdj⟩ := h.told (K := i + 1) (by omega) hn hP e (h.dir (i + 1) (by omega) (by omega))
    have hc := h.lt i (by omega)
    rw [e] at hc
    obtain ⟨f1, f2⟩ := h.fits' (K := i) (by omega) (show j ≤ i by omega) ej hdj hc
    have hsp := l17Split_ev (itAt l (i + 1)).f0 (hs _) P n e hok
    rw [wayB_above e hn] at hsp
    have hw : wayB (P ++ [n]) = (itAt l (i + 1)).f0 := by rw [← e]; exact wayB_names _
    refine Ev.step (f := fun q => (spec_l17Split.f q ((itAt l (i + 1)).f0)).bind fun bt167 => spec_l17Next.l1 q x5 x6 (opn (nmA l i) (cnI l i)) (lst (nmA l i) (cnI l i)) bt167.1 bt167.2 r (r.length : Int) (i : Int) (itAt l (i + 1)).f0 (itAt l (i + 1)).f1 (itAt l (i + 1)).f2 (itAt l (i + 1)).f3 (itAt l (i + 1)).f4 (itAt l (i + 1)).f5 (itAt l (i + 1)).f6 (itAt l (i + 1)).f7) (fun q => ?_) ?_
    · simp only [spec_l17Next.l0]
      rw [if_pos (by omega), if_pos (by omega), if_pos (by omega), rdI r i hlt, hri i hlt]
    · refine Ev.bind hsp ?_
      have hlen := namesW_len2 (itAt l i).f0 (hs i)
      have hcn : cnI l i = P.length + 1 + (cnI l i - (P.length + 1)) := by unfold cnI; omega
      rw [hcn]
      refine pop_ev x5 x6 (nmA l i) P n P.length (h.names (by omega)) f1 (by unfold cnI at hcn; split at hcn <;> omega) hlen r _ _ _ _ _ _ _ _ _ _ R ?_ _ (by rw [← hcn]; exact cnI_le l i)
      have hih := ih (i + 1) (by omega)
      rw [step_n hlt (by omega)]
      have hnl : (nmA l (i + 1)).length = P.length + 1 := by rw [e]; simp
      by_cases hd : (itAt l (i + 1)).f1 = 2
      · have hdi : dirI l (i + 1) = true := by unfold dirI; simpa using hd
        refine Ev.congr (fun q => ?_) hih
        rw [if_pos hd]
        have a1 : opn (nmA l (i + 1)) (cnI l (i + 1)) = ini P ++ [(itAt l (i + 1)).f0] := by
          unfold opn cnI
          rw [hdi, if_pos rfl, List.take_of_length_le (by rw [ini_len]; omega), e, ini_snoc, hw]
        have a2 : lst (nmA l (i + 1)) (cnI l (i + 1)) = (P ++ [n]) ++ [(⟨#[]⟩ : ByteArray)] := by
          unfold lst cnI
          rw [hdi, if_pos rfl, List.take_of_length_le (by simp), e]
        rw [a1, a2]
      · have hdi : ¬ dirI l (i + 1) = true := by unfold dirI; simpa using hd
        refine Ev.congr (fun q => ?_) hih
        rw [if_neg hd]
        have a1 : opn (nmA l (i + 1)) (cnI l (i + 1)) = ini P := by
          unfold opn cnI
          rw [if_neg hdi, Nat.add_zero, hnl, ini_take _ _ (by omega), e, List.take_left]
        have a2 : lst (nmA l (i + 1)) (cnI l (i + 1)) = P ++ [n] := by
          unfold lst cnI
          rw [if_neg hdi, Nat.add_zero, List.take_left, e]
        rw [a1, a2]
theorem find_ev (M P : List ByteArray) (n : ByteArray) (d : Bool) (hM : ∀ q ∈ M, nameOkB q = true) (hP : ∀ q ∈ P, nameOkB q = true) (hl : M.length ≤ 4294967282) (c : Nat) (hc : c = M.length + (if d = true then 1 else 0)) (m : Nat) :
    ∀ j, j + m = c → (M.take P.length = P → P.length < c → j ≤ P.length) → Ev (fun k => spec_l17Next.l2 k (wayB P) n (lst M c) (opn M c) ((opn M c).length : Int) (j : Int)) (nextB M d P n) := by
  have hcl : c ≤ M.length + 1 := by rw [hc]; split <;> omega
  have l1 := opn_len M c hcl
  have l2 := lst_len M c hcl
  induction m with
  | zero =>
    intro j hj hg
    have hf : nextB M d P n = false := by
      unfold nextB
      rw [decide_eq_false, Bool.false_and]
      rintro ⟨g1, g2⟩
      rw [← hc] at g2
      have := hg g1 g2
      omega
    rw [hf]
    refine Ev.step (f := fun _ => some false) (fun k => ?_) (Ev.now _)
    simp only [spec_l17Next.l2]
    rw [if_neg (by omega)]
  | succ m ih =>
    intro j hj hg
    have e5 : rdOf ByteArray.empty (opn M c) (j : Int) = wayB (M.take j) := by rw [rdS _ _ (by omega), opn_get]
    by_cases hm : M.take j = P
    · have hPl : P.length = j := by rw [← hm]; simp; omega
      have hv : nextB M d P n = Op.bytesLess (rdOf ByteArray.empty (lst M c) (j : Int)).toList n.toList := by
        unfold nextB
        rw [hPl, hm, ← hc, decide_eq_true ⟨rfl, by omega⟩, Bool.true_and, rdS _ _ (by omega), lst_get M c j hcl (by omega)]
      rw [hv]
      refine Ev.step (f := fun _ => some (Op.bytesLess (rdOf ByteArray.empty (lst M c) (j : Int)).toList n.toList)) (fun k => ?_) (Ev.now _)
      simp only [spec_l17Next.l2]
      rw [if_pos (by omega), if_pos (by omega), if_pos (by omega), e5, hm, if_pos rfl, if_pos (by omega)]
    · have hne : ¬ (wayB (M.take j)).toList = (wayB P).toList := fun h => hm (wayB_ne (fun q hq => hM q (List.mem_of_mem_take hq)) hP h)
      refine Ev.step (fun k => ?_) (ih (j + 1) (by omega) (fun g1 g2 => ?_))
      · simp only [spec_l17Next.l2]
        rw [if_pos (by omega), if_pos (by omega), if_pos (by omega), e5, if_neg hne, step_n (show j < c by omega) (by omega)]
      · have := hg g1 g2
        rcases Nat.lt_or_ge j P.length with h | h
        · omega
        · have : j = P.length := by omega
          subst this
          exact absurd g1 hm
theorem next_ev {l : List It} {K : Nat} (h : Pre l (K + 1)) (hK : K + 1 ≤ 1000) (hl : K + 1 ≤ l.length) (hs : ∀ i, (itAt l i).f0.size < 4294967281) (x : It) (hx : x.f0.size < 4294967281) :
    Ev (fun k => spec_l17Next.f k (l.take (K + 1)) x.f0 x.f1 x.f2 x.f3 x.f4 x.f5 x.f6 x.f7) (namesOk x.f0 && (dirAt l (K + 1) (aboveB x.f0).toList && decide (cmpW (itAt l K).f0 x.f0 < 0))) := by
  unfold spec_l17Next.f
  refine Ev.bind (l17Way_ev x.f0 hx) ?_
  unfold innerB
  by_cases ho : namesOk x.f0 = true
  · by_cases hN : namesW x.f0 = []
    · rw [ho, hN]
      have : ¬ cmpW (itAt l K).f0 x.f0 < 0 := by
        unfold cmpW; rw [hN]
        cases namesW (itAt l K).f0 <;> simp [cmpL]
      rw [decide_eq_false this, Bool.and_false]
      exact Ev.now _
    · have hne : (namesW x.f0).isEmpty = false := by cases hq : namesW x.f0 <;> simp [hq] at hN ⊢
      have hnames : ∀ p ∈ namesW x.f0, nameOkB p = true := by rw [namesOk_eq, List.all_eq_true] at ho; exact ho
      have e : namesW x.f0 = (namesW x.f0).dropLast ++ [(namesW x.f0).getLast hN] := (List.dropLast_concat_getLast hN).symm
      have hn := hnames _ (List.getLast_mem hN)
      have hP : ∀ p ∈ (namesW x.f0).dropLast, nameOkB p = true := fun p hp => hnames p (List.dropLast_subset _ hp)
      generalize (namesW x.f0).dropLast = P at e hP
      generalize (namesW x.f0).getLast hN = n at e hn
      rw [ho, hne]
      have hq := next_eq h hn hP e
      rw [Bool.true_and]
      show Ev _ (dirAt l (K + 1) (aboveB x.f0).toList && decide (cmpL (nmA l K) (namesW x.f0) < 0))
      rw [e, ← hq]
      have hsp := l17Split_ev x.f0 hx P n e ho
      rw [wayB_above e hn] at hsp
      refine Ev.congr (f := fun k => (spec_l17Split.f k x.f0).bind fun bt153 => spec_l17Next.l0 k bt153.1 bt153.2 (opn (nmA l 0) (cnI l 0)) (lst (nmA l 0) (cnI l 0)) ((l.take (K + 1)).drop 1) (((l.take (K + 1)).drop 1).length : Int) ((0 : Nat) : Int)) (fun k => ?_) ?_
      · have c0 : cnI l 0 = 1 := by unfold cnI; rw [h.zero, h.rdir]; rfl
        have c1 : (1 : Int) ≤ ((l.take (K + 1)).length : Int) := by rw [List.length_take]; omega
        rw [c0, h.zero]
        simp only [if_pos c1, Option.bind_some]
        rfl
      · refine Ev.bind hsp ?_
        refine stack_ev h hK hs _ (by simp; omega) (fun i hi => ?_) _ _ _ ?_ ((l.take (K + 1)).drop 1).length 0 (by omega)
        · have hi' : i < K := by simp at hi; omega
          rw [List.getElem_drop, List.getElem_take]
          have h1 : itAt l (i + 1) = l[i + 1] := rdI l (i + 1) (by omega)
          rw [h1]
          exact getElem_congr_idx (by omega)
        · rw [Nat.add_sub_cancel]
          exact find_ev (nmA l K) P n (dirI l K) (h.names (by omega)) hP (namesW_len2 _ (hs K)) (cnI l K) rfl (cnI l K) 0 (by omega) (fun _ _ => Nat.zero_le _)
  · have ho' : namesOk x.f0 = false := by simpa using ho
    rw [ho']
    exact Ev.now _

end Go.Proofs.YthhmkbchdiflcaaGreatDoor.Q

/- The reference's GoodItems comes to what the program's does. -/
namespace Go.Proofs.YthhmkbchdiflcaaGreatDoor.Q
open Go.RowKit Go.Proofs.YthhmkbchdiflcaaGreatDoorW.PrintWords Go.Proofs.YthhmkbchdiflcaaGreatDoorW.PrintLast Go.Proofs.YthhmkbchdiflcaaGreatDoorW.PrintMore
attribute [local go_sem] max2_int min2_int max_two min_two max_three min_three max_four min_four   -- for this text's walks alone
set_option linter.unusedVariables false
set_option linter.unusedSimpArgs false

def aloneB (x : It) (i : Int) : Bool := inB 1 3 x.f1 && (inB 0 i x.f6 && (if x.f6 < i then x.f1 != 2 && zerosB x else bareB x.f1 x.f2 x.f3 x.f4 x.f5 x.f7))
def sameB (l : List It) (x : It) : Bool := (itAt l x.f6.toNat).f6 == x.f6 && (itAt l x.f6.toNat).f1 == x.f1
theorem steps_mem {l : List It} {n j : Nat} (h : stepsB l n = true) (hj : j < n) : stepB l j = true := by
  unfold stepsB at h
  rw [List.all_eq_true] at h
  exact h j (List.mem_range.mpr hj)
theorem inB_iff (lo hi n : Int) : inB lo hi n = true ↔ lo ≤ n ∧ n ≤ hi := by unfold inB; simp
theorem item_eq (l : List It) (i : Nat) (hp : ∀ j, j < i → goodItemB l j = true) : goodItemB l i = (aloneB (itAt l i) i && sameB l (itAt l i)) := by
  unfold goodItemB aloneB sameB
  generalize hx : itAt l i = x
  by_cases h6 : x.f6 = (i : Int)
  · rw [if_pos h6, h6, Int.toNat_natCast, hx, h6, (inB_iff 0 i i).mpr (by omega), if_neg (by omega)]
    simp
  · rw [if_neg h6]
    by_cases hb : inB 0 ((i : Int) - 1) x.f6 = true
    · have hb2 := (inB_iff _ _ _).mp hb
      rw [hb, (inB_iff 0 i x.f6).mpr (by omega), if_pos (by omega)]
      by_cases hs : (itAt l x.f6.toNat).f6 = x.f6 ∧ (itAt l x.f6.toNat).f1 = x.f1
      · obtain ⟨s1, s2⟩ := hs
        have hg := hp x.f6.toNat (by omega)
        unfold goodItemB at hg
        rw [if_pos (by rw [s1]; omega), s2] at hg
        have hk : inB 1 3 x.f1 = true := by
          rw [Bool.and_eq_true] at hg; exact hg.1
        rw [s1, s2, hk]
        simp only [beq_self_eq_true, Bool.true_and, Bool.and_true]
        exact Bool.and_comm _ _
      · by_cases s1 : (itAt l x.f6.toNat).f6 = x.f6
        · have s2 : ((itAt l x.f6.toNat).f1 == x.f1) = false := by
            apply beq_eq_false_iff_ne.mpr
            intro s2; exact hs ⟨s1, s2⟩
          rw [s2]; simp
        · have s1' : ((itAt l x.f6.toNat).f6 == x.f6) = false := beq_eq_false_iff_ne.mpr s1
          rw [s1']; simp
    · have hb' : inB 0 ((i : Int) - 1) x.f6 = false := by simpa using hb
      have hb2 : inB 0 (i : Int) x.f6 = false := by
        apply Bool.eq_false_iff.mpr
        intro h
        rw [inB_iff] at h hb
        omega
      rw [hb', hb2]; simp
theorem alone_f (x : It) (i : Int) (hx : x.f7.size < 4294967281) : spec_l17Alone.f x.f0 x.f1 x.f2 x.f3 x.f4 x.f5 x.f6 x.f7 i = some (aloneB x i) := by
  unfold spec_l17Alone.f
  rw [if_pos hx]
  rfl
theorem steps_pre {l : List It} {i : Nat} (h : stepsB l i = true) (hi : 1 ≤ i) (hr : (itAt l 0).f0.toList = [46]) (hd : dirI l 0 = true) : Pre l i := by
  have hst : ∀ j, j < i → namesOk (itAt l j).f0 = true ∧ (0 < j → dirAt l j (aboveB (itAt l j).f0).toList = true ∧ cmpW (itAt l (j - 1)).f0 (itAt l j).f0 < 0) := by
    intro j hj
    have := steps_mem h hj
    unfold stepB at this
    rw [Bool.and_eq_true, Bool.and_eq_true] at this
    refine ⟨this.1, fun h0 => ?_⟩
    have h2 := this.2.2
    rw [decide_eq_false (by omega), Bool.false_or, Bool.and_eq_true, decide_eq_true_eq] at h2
    exact h2
  exact ⟨hr, hd, fun j hj => (hst j hj).1, fun j h0 hj => ((hst j hj).2 h0).1, fun j hj => ((hst (j + 1) hj).2 (by omega)).2⟩
set_option maxHeartbeats 1000000 in
theorem good_loop (l : List It) (hl : l.length ≤ 40) (hr : (itAt l 0).f0.toList = [46]) (hd : dirI l 0 = true ∨ l.length = 1) (hs0 : ∀ i, (itAt l i).f0.size < 4294967281) (hs7 : ∀ i, (itAt l i).f7.size < 4294967281) (d : Nat) :
    ∀ i : Nat, i + d = l.length → stepsB l i = true → Ev (fun k => spec_l17Good.l0 k l l (l.length : Int) (i : Int)) (stepsB l l.length) := by
  induction d with
  | zero =>
    intro i hi h
    have : i = l.length := by omega
    subst this
    rw [h]
    refine Ev.step (f := fun _ => some true) (fun k => ?_) (Ev.now _)
    simp only [spec_l17Good.l0]
    rw [if_neg (by omega)]
  | succ d ih =>
    intro i hi h
    have hlt : i < l.length := by omega
    have hgi : ∀ j, j < i → goodItemB l j = true := fun j hj => by
      have := steps_mem h hj
      unfold stepB at this
      rw [Bool.and_eq_true, Bool.and_eq_true] at this
      exact this.2.1
    have hite := item_eq l i hgi
    have hrd : rd_T74 l (i : Int) = itAt l i := rfl
    have hal := alone_f (itAt l i) (i : Int) (hs7 i)
    have hfalse : stepB l i = false → stepsB l l.length = false := fun hf => stepsB_false l i hf _ hlt
    have hj2 : ∀ b : Bool, aloneB (itAt l i) i = true → (b = true → stepB l i = false) → (b = false → stepB l i = goodItemB l i) →
        Ev (fun k => spec_l17Good.j2 k l l (l.length : Int) (i : Int) b (itAt l i).f0 (itAt l i).f1 (itAt l i).f2 (itAt l i).f3 (itAt l i).f4 (itAt l i).f5 (itAt l i).f6 (itAt l i).f7) (stepsB l l.length) := by
      intro b ha hb1 hb2
      cases b with
      | true =>
        rw [hfalse (hb1 rfl)]
        refine Ev.step (f := fun _ => some false) (fun k => ?_) (Ev.now _)
        simp only [spec_l17Good.j2, if_true]
      | false =>
        have hst := hb2 rfl
        rw [hite, ha, Bool.true_and] at hst
        have hrange : 0 ≤ (itAt l i).f6 ∧ (itAt l i).f6 ≤ i := by
          unfold aloneB at ha
          rw [Bool.and_eq_true, Bool.and_eq_true, inB_iff, inB_iff] at ha
          exact ha.2.1
        have hrd2 : rd_T74 l (itAt l i).f6 = itAt l (itAt l i).f6.toNat := rfl
        by_cases s1 : (itAt l (itAt l i).f6.toNat).f6 = (itAt l i).f6
        · by_cases s2 : (itAt l (itAt l i).f6.toNat).f1 = (itAt l i).f1
          · have hstep : stepB l i = true := by rw [hst]; unfold sameB; rw [beq_iff_eq.mpr s1, beq_iff_eq.mpr s2]; rfl
            refine Ev.step (fun k => ?_) (ih (i + 1) (by omega) (by rw [stepsB_succ, h, hstep]; rfl))
            simp only [spec_l17Good.j2]
            rw [if_neg (by simp), if_pos (by omega), if_pos (by omega), hrd2, if_pos s1, if_pos s2, step_n hlt (by omega)]
          · have hstep : stepB l i = false := by rw [hst]; unfold sameB; rw [show ((itAt l (itAt l i).f6.toNat).f1 == (itAt l i).f1) = false from beq_eq_false_iff_ne.mpr s2]; simp
            rw [hfalse hstep]
            refine Ev.step (f := fun _ => some false) (fun k => ?_) (Ev.now _)
            simp only [spec_l17Good.j2]
            rw [if_neg (by simp), if_pos (by omega), if_pos (by omega), hrd2, if_pos s1, if_neg s2]
        · have hstep : stepB l i = false := by rw [hst]; unfold sameB; rw [show ((itAt l (itAt l i).f6.toNat).f6 == (itAt l i).f6) = false from beq_eq_false_iff_ne.mpr s1]; simp
          rw [hfalse hstep]
          refine Ev.step (f := fun _ => some false) (fun k => ?_) (Ev.now _)
          simp only [spec_l17Good.j2]
          rw [if_neg (by simp), if_pos (by omega), if_pos (by omega), hrd2, if_neg s1]
    by_cases ha : aloneB (itAt l i) i = true
    · by_cases h0 : i = 0
      · subst h0
        refine Ev.step (fun k => ?_) (hj2 false ha (fun e => absurd e (by simp)) (fun _ => ?_))
        · simp only [spec_l17Good.l0]
          rw [if_pos (by omega), if_pos (by omega), if_pos (by omega), hrd, hal]
          simp only [Option.bind_some]
          rw [if_pos ha, if_neg (by omega)]
        · unfold stepB
          have : namesOk (itAt l 0).f0 = true := by unfold namesOk; rw [if_pos hr]
          rw [this]; simp
      · have hd' : dirI l 0 = true := by
          rcases hd with hd | hd
          · exact hd
          · omega
        obtain ⟨K, rfl⟩ : ∃ K, i = K + 1 := ⟨i - 1, by omega⟩
        have hp := steps_pre h (by omega) hr hd'
        have hn := next_ev hp (by omega) (by omega) hs0 (itAt l (K + 1)) (hs0 _)
        generalize hv : (namesOk (itAt l (K + 1)).f0 && (dirAt l (K + 1) (aboveB (itAt l (K + 1)).f0).toList && decide (cmpW (itAt l K).f0 (itAt l (K + 1)).f0 < 0))) = v at hn
        have hst : stepB l (K + 1) = (goodItemB l (K + 1) && v) := by
          unfold stepB
          rw [← hv, decide_eq_false (show ¬ (K + 1 = 0) by omega), Bool.false_or, Nat.add_sub_cancel]
          cases namesOk (itAt l (K + 1)).f0 <;> simp
        refine Ev.step (f := fun k => (spec_l17Next.f k (l.take (K + 1)) (itAt l (K + 1)).f0 (itAt l (K + 1)).f1 (itAt l (K + 1)).f2 (itAt l (K + 1)).f3 (itAt l (K + 1)).f4 (itAt l (K + 1)).f5 (itAt l (K + 1)).f6 (itAt l (K + 1)).f7).bind fun t195 => (spec_l17Good.j2 k l l (l.length : Int) ((K + 1 : Nat) : Int) (!t195) (itAt l (K + 1)).f0 (itAt l (K + 1)).f1 (itAt l (K + 1)).f2 (itAt l (K + 1)).f3 (itAt l (K + 1)).f4 (itAt l (K + 1)).f5 (itAt l (K + 1)).f6 (itAt l (K + 1)).f7)) (fun k => ?_) ?_
        · simp only [spec_l17Good.l0]
          rw [if_pos (by omega), if_pos (by omega), if_pos (by omega), hrd, hal]
          simp only [Option.bind_some]
          rw [if_pos ha, if_pos (by omega), if_pos (by omega), Int.toNat_natCast]
        · refine Ev.bind hn (hj2 (!v) ha (fun e => ?_) (fun e => ?_))
          · rw [hst]; cases v <;> simp at e ⊢
          · rw [hst]; cases v <;> simp at e ⊢
    · have ha' : aloneB (itAt l i) i = false := by simpa using ha
      have hstep : stepB l i = false := by
        unfold stepB
        rw [hite, ha', Bool.false_and, Bool.false_and, Bool.and_false]
      rw [hfalse hstep]
      refine Ev.step (f := fun k => spec_l17Good.j2 k l l (l.length : Int) (i : Int) true (itAt l i).f0 (itAt l i).f1 (itAt l i).f2 (itAt l i).f3 (itAt l i).f4 (itAt l i).f5 (itAt l i).f6 (itAt l i).f7) (fun k => ?_) ?_
      · simp only [spec_l17Good.l0]
        rw [if_pos (by omega), if_pos (by omega), if_pos (by omega), hrd, hal]
        simp only [Option.bind_some]
        rw [if_neg ha]
      · refine Ev.step (f := fun _ => some false) (fun k => ?_) (Ev.now _)
        simp only [spec_l17Good.j2, if_true]
theorem l17Good_ev (l : List It) (hs0 : ∀ i, (itAt l i).f0.size < 4294967281) (hs7 : ∀ i, (itAt l i).f7.size < 4294967281) : Ev (fun k => spec_l17Good.f k l) (goodB l) := by
  unfold spec_l17Good.f
  rw [l1In_f]
  simp only [Option.bind_some]
  have hj : ∀ b, b = true → Ev (fun k => spec_l17Good.j0 k l b) false := by
    rintro b rfl
    refine Ev.step (f := fun _ => some false) (fun k => ?_) (Ev.now _)
    simp only [spec_l17Good.j0, if_true]
  by_cases hn : inB 1 40 (l.length : Int) = true
  · have hlen : 1 ≤ l.length ∧ l.length ≤ 40 := by rw [inB_iff] at hn; omega
    have hg : goodB l = ((itAt l 0).f0.toList == [46] && stepsB l l.length) := by
      unfold goodB
      rw [decide_eq_true hlen.1, decide_eq_true hlen.2]; rfl
    have hrd : rd_T74 l 0 = itAt l 0 := rfl
    rw [hg]
    by_cases h0 : (itAt l 0).f0.toList = [46]
    · have h0' : ((itAt l 0).f0.toList == [46]) = true := by simpa using h0
      rw [h0', Bool.true_and]
      by_cases hk : (itAt l 0).f1 = 2
      · refine Ev.congr (f := fun k => spec_l17Good.j0 k l false) (fun k => ?_) ?_
        · rw [if_pos hn, if_pos (by omega), hrd, if_pos h0, if_pos hk]
        · refine Ev.step (fun k => ?_) (good_loop l hlen.2 h0 (Or.inl (by unfold dirI; simpa using hk)) hs0 hs7 l.length 0 (by omega) rfl)
          simp only [spec_l17Good.j0]; rfl
      · refine Ev.congr (f := fun k => spec_l17Good.j0 k l (decide ((l.length : Int) > 1))) (fun k => ?_) ?_
        · rw [if_pos hn, if_pos (by omega), hrd, if_pos h0, if_neg hk]
        · by_cases h1 : l.length = 1
          · rw [decide_eq_false (by omega)]
            refine Ev.step (fun k => ?_) (good_loop l hlen.2 h0 (Or.inr h1) hs0 hs7 l.length 0 (by omega) rfl)
            simp only [spec_l17Good.j0]; rfl
          · have hst : stepB l 1 = false := by
              unfold stepB
              have : dirAt l 1 (aboveB (itAt l 1).f0).toList = false := by
                have hk' : ((itAt l 0).f1 == 2) = false := beq_eq_false_iff_ne.mpr hk
                simp only [dirAt]
                rw [hk']; simp
              rw [this]; simp
            rw [stepsB_false l 1 hst l.length (by omega)]
            exact hj _ (decide_eq_true (by omega))
    · have h0' : ((itAt l 0).f0.toList == [46]) = false := by simpa using h0
      rw [h0', Bool.false_and]
      refine Ev.congr (f := fun k => spec_l17Good.j0 k l true) (fun k => ?_) (hj _ rfl)
      rw [if_pos hn, if_pos (by omega), hrd, if_neg h0]
  · have hg : goodB l = false := by
      unfold goodB
      rw [inB_iff] at hn
      by_cases h1 : 1 ≤ l.length
      · rw [decide_eq_false (show ¬ l.length ≤ 40 by omega), Bool.false_and, Bool.and_false]
      · rw [decide_eq_false h1, Bool.false_and]
    rw [hg]
    refine Ev.congr (f := fun k => spec_l17Good.j0 k l true) (fun k => ?_) (hj _ rfl)
    rw [if_neg hn]

end Go.Proofs.YthhmkbchdiflcaaGreatDoor.Q

/- What the laws over items ask beside the two functions: copies, sizes, equality. -/
namespace Go.Proofs.YthhmkbchdiflcaaGreatDoor.Q
open Go.RowKit Go.Proofs.YthhmkbchdiflcaaGreatDoorW.PrintWords Go.Proofs.YthhmkbchdiflcaaGreatDoorW.PrintLast Go.Proofs.YthhmkbchdiflcaaGreatDoorW.PrintMore
attribute [local go_sem] max2_int min2_int max_two min_two max_three min_three max_four min_four   -- for this text's walks alone
set_option linter.unusedVariables false
set_option linter.unusedSimpArgs false

theorem step_i {i n : Nat} (h : i < n) (hn : n ≤ 1759218604391) : wrap64 ((i : Int) + 1) = ((i + 1 : Nat) : Int) := by
  unfold wrap64; omega
abbrev Li := S73
def conv (x : Li) : It := ⟨x.f0, x.f1, x.f2, x.f3, x.f4, x.f5, x.f6, x.f7⟩
theorem eqItem_self (a : It) : laws_eqItem.f a.f0 a.f1 a.f2 a.f3 a.f4 a.f5 a.f6 a.f7 a.f0 a.f1 a.f2 a.f3 a.f4 a.f5 a.f6 a.f7 = some true := by
  unfold laws_eqItem.f; simp
theorem eqItemS_loop (l : List It) (hl : l.length ≤ 1759218604391) (d : Nat) : ∀ i : Nat, i + d = l.length → Ev (fun k => laws_eqItemS.l0 k l l (i : Int)) true := by
  induction d with
  | zero =>
    intro i hi
    refine Ev.step (f := fun _ => some true) (fun k => ?_) (Ev.now true)
    simp only [laws_eqItemS.l0]; rw [if_neg (by omega)]
  | succ d ih =>
    intro i hi
    have hlt : i < l.length := by omega
    refine Ev.step (f := fun k => laws_eqItemS.l0 k l l ((i + 1 : Nat) : Int)) (fun k => ?_) (ih (i + 1) (by omega))
    simp only [laws_eqItemS.l0]
    rw [if_pos (by omega), if_pos (by omega), if_pos (by omega), rdI _ _ hlt, eqItem_self, step_i hlt hl]; simp only [Option.bind_some, if_true]
theorem eqItemS_ev (l : List It) (hl : l.length ≤ 1759218604391) : Ev (fun k => laws_eqItemS.f k l l) true := by
  refine Ev.congr (f := fun k => laws_eqItemS.l0 k l l ((0 : Nat) : Int)) (fun k => ?_) (eqItemS_loop l hl l.length 0 (by omega))
  simp only [laws_eqItemS.f, if_true]; rfl
end Go.Proofs.YthhmkbchdiflcaaGreatDoor.Q

/- The reference's reading of a number of at most seven digits. -/
namespace Go.Proofs.YthhmkbchdiflcaaGreatDoor.Q
open Go.RowKit Go.Proofs.YthhmkbchdiflcaaGreatDoorW.PrintWords Go.Proofs.YthhmkbchdiflcaaGreatDoorW.PrintLast Go.Proofs.YthhmkbchdiflcaaGreatDoorW.PrintMore
attribute [local go_sem] max2_int min2_int max_two min_two max_three min_three max_four min_four   -- for this text's walks alone
set_option linter.unusedVariables false
set_option linter.unusedSimpArgs false

def sevZ (x : ByteArray) : Int := match sevL x.data.toList with
  | some n => n
  | none => -1
def optZ : Option Nat → Int
  | some n => n
  | none => -1
theorem sevZ_eq (x : ByteArray) : sevZ x = optZ (sevL x.data.toList) := by
  unfold sevZ optZ; cases sevL x.data.toList <;> rfl
theorem num_up (a c : Nat) (ha : a < 1000000) (h : 48 ≤ c ∧ c ≤ 57) : wrap64 (wrap64 (10 * (a : Int)) + ((c : Int) - 48) % 256) = ((a * 10 + (c - 48) : Nat) : Int) := by
  have e1 : wrap64 (10 * (a : Int)) = 10 * (a : Int) := by unfold wrap64; omega
  have e2 : ((c : Int) - 48) % 256 = (c : Int) - 48 := by omega
  rw [e1, e2]
  unfold wrap64; omega
theorem num_pow (a c p : Nat) (ha : a < p) (h : 48 ≤ c ∧ c ≤ 57) : a * 10 + (c - 48) < p * 10 := by omega
theorem l17Num_loop (x : ByteArray) (hx : x.size ≤ 7) (d : Nat) : ∀ (i a : Nat), i + d = x.size → a < 10 ^ i → Ev (fun k => spec_l17Num.l0 k x (a : Int) (i : Int)) (optZ (Lib.decFrom a (x.data.toList.drop i))) := by
  induction d with
  | zero =>
    intro i a hi ha
    rw [List.drop_of_length_le (by rw [data_length]; omega)]
    refine Ev.step (f := fun _ => some (a : Int)) (fun k => ?_) (Ev.now _)
    simp only [spec_l17Num.l0]; rw [if_neg (by omega)]
  | succ d ih =>
    intro i a hi ha
    have hlt : i < x.data.toList.length := by rw [data_length]; omega
    have hb := bt_data x i (by omega)
    have hw : wrap64 ((i : Int) + 1) = ((i + 1 : Nat) : Int) := by unfold wrap64; omega
    have hp : (10 : Nat) ^ i ≤ 10 ^ 6 := Nat.pow_le_pow_right (by omega) (by omega)
    rw [List.drop_eq_getElem_cons hlt]
    generalize hc : x.data.toList[i] = c at hb ⊢
    have e : ∀ k, spec_l17Num.l0 (k + 1) x (a : Int) (i : Int) = if (c.toNat : Int) < 48 then some (-1) else if (c.toNat : Int) > 57 then some (-1) else spec_l17Num.l0 k x (wrap64 (wrap64 (10 * (a : Int)) + ((c.toNat : Int) - 48) % 256)) ((i + 1 : Nat) : Int) := fun k => by
      simp only [spec_l17Num.l0]
      rw [if_pos (by omega), if_pos (by omega), hb, hw]
    by_cases h1 : 48 ≤ c.toNat ∧ c.toNat ≤ 57
    · have hd : Lib.digitVal c = some (c.toNat - 48) := by unfold Lib.digitVal; rw [if_pos h1]
      have hf : Lib.decFrom a (c :: x.data.toList.drop (i + 1)) = Lib.decFrom (a * 10 + (c.toNat - 48)) (x.data.toList.drop (i + 1)) := by
        simp only [Lib.decFrom, hd]
      rw [hf]
      have hv := num_up a c.toNat (Nat.lt_of_lt_of_le ha hp) h1
      refine Ev.step (fun k => by rw [e k, if_neg (by omega), if_neg (by omega), hv]) (ih (i + 1) _ (by omega) ?_)
      rw [Nat.pow_succ]; exact num_pow a c.toNat _ ha h1
    · have hd : Lib.digitVal c = none := by unfold Lib.digitVal; rw [if_neg h1]
      have hf : Lib.decFrom a (c :: x.data.toList.drop (i + 1)) = none := by simp only [Lib.decFrom, hd]
      rw [hf]
      refine Ev.step (f := fun _ => some (-1)) (fun k => ?_) (Ev.now _)
      rw [e k]
      by_cases h2 : (c.toNat : Int) < 48
      · rw [if_pos h2]
      · rw [if_neg h2, if_pos (by omega)]
theorem l17Num_ev (x : ByteArray) (hs : x.size < 4294967281) : Ev (fun k => spec_l17Num.f k x) (sevZ x) := by
  have hl : x.data.toList.length = x.size := data_length x
  rw [sevZ_eq, sevL_eq]
  unfold spec_l17Num.f spec_l1In.f
  by_cases h1 : 1 ≤ x.size
  · rw [if_pos (by omega)]
    simp only [Option.bind_some, decide_eq_true_eq]
    by_cases h7 : x.size ≤ 7
    · refine Ev.congr (fun k => by rw [if_pos (by omega), if_pos (by omega)]) ?_
      have hb := bt_data x 0 (by omega)
      have hh : x.data.toList.head? = some (x.data.toList[0]'(by omega)) := by
        rw [List.head?_eq_getElem?, List.getElem?_eq_getElem]
      rw [hh]
      generalize x.data.toList[0]'(by omega) = c at hb hh ⊢
      have hc : (c.toNat : Int) = 48 ↔ c = 48 := by
        rw [← UInt8.toNat_inj]; have : (48 : UInt8).toNat = 48 := rfl; omega
      have hb0 : bt x 0 = (c.toNat : Int) := hb
      have hlast : Ev (fun k => spec_l17Num.l0 k x 0 0) (optZ (Lib.decFrom 0 x.data.toList)) := l17Num_loop x h7 x.size 0 0 (by omega) (by decide)
      by_cases h0 : c = 48
      · by_cases h2 : 1 < x.size
        · rw [if_neg (by rintro ⟨_, _, h⟩; exact h ⟨by rw [h0], by omega⟩)]
          refine Ev.congr (f := fun k => spec_l17Num.j0 k x true) (fun k => by rw [hb0, if_pos (hc.mpr h0), decide_eq_true (by omega)]) ?_
          exact Ev.step (f := fun _ => some (-1)) (fun k => by simp only [spec_l17Num.j0]; rw [if_pos trivial]) (Ev.now _)
        · rw [if_pos ⟨by omega, by omega, fun h => h2 (by omega)⟩]
          refine Ev.congr (f := fun k => spec_l17Num.j0 k x false) (fun k => by rw [hb0, if_pos (hc.mpr h0), decide_eq_false (by omega)]) ?_
          exact Ev.step (f := fun k => spec_l17Num.l0 k x 0 0) (fun k => by simp only [spec_l17Num.j0]; rw [if_neg (by simp)]) hlast
      · rw [if_pos ⟨by omega, by omega, fun h => h0 (by have := h.1; injection this)⟩]
        refine Ev.congr (f := fun k => spec_l17Num.j0 k x false) (fun k => by rw [hb0, if_neg (fun h => h0 (hc.mp h))]) ?_
        exact Ev.step (f := fun k => spec_l17Num.l0 k x 0 0) (fun k => by simp only [spec_l17Num.j0]; rw [if_neg (by simp)]) hlast
    · rw [if_neg (by omega)]
      refine Ev.congr (f := fun k => spec_l17Num.j0 k x true) (fun k => by rw [if_neg (by omega)]) ?_
      exact Ev.step (f := fun _ => some (-1)) (fun k => by simp only [spec_l17Num.j0]; rw [if_pos trivial]) (Ev.now _)
  · rw [if_neg (by omega), if_neg (by omega)]
    simp only [Option.bind_some]
    refine Ev.congr (f := fun k => spec_l17Num.j0 k x true) (fun k => by rw [if_neg (by simp)]) ?_
    exact Ev.step (f := fun _ => some (-1)) (fun k => by simp only [spec_l17Num.j0]; rw [if_pos trivial]) (Ev.now _)
theorem dec_len (n : Nat) : n < 10 ^ (Lib.decDigits n).length := by
  induction n using Nat.strongRecOn with
  | _ n ih =>
    rw [Lib.decDigits]
    split
    · simp; omega
    · have := ih (n / 10) (by omega)
      rw [List.length_append, List.length_singleton, Nat.pow_succ]
      omega
theorem sevL_bound {l : List UInt8} {n : Nat} (h : sevL l = some n) : n ≤ 9999999 := by
  obtain ⟨h1, h2, _⟩ := sevL_some h
  have h3 := dec_len n
  rw [h1] at h3
  have : (10 : Nat) ^ l.length ≤ 10 ^ 7 := Nat.pow_le_pow_right (by omega) h2
  omega

end Go.Proofs.YthhmkbchdiflcaaGreatDoor.Q

/- The mark of a number. -/
namespace Go.Proofs.YthhmkbchdiflcaaGreatDoor.Q
open Go.RowKit Go.Proofs.YthhmkbchdiflcaaGreatDoorW.PrintWords Go.Proofs.YthhmkbchdiflcaaGreatDoorW.PrintLast Go.Proofs.YthhmkbchdiflcaaGreatDoorW.PrintMore
attribute [local go_sem] max2_int min2_int max_two min_two max_three min_three max_four min_four   -- for this text's walks alone
set_option linter.unusedVariables false
set_option linter.unusedSimpArgs false

theorem mark_one (n : Int) (h0 : 0 ≤ n) (h1 : n < 10) : (strOfNums ([(wrap64 (48 + n)) % 256] : List Int)).size = 1 := by
  obtain ⟨i, rfl⟩ : ∃ i : Fin 10, n = (i.val : Int) := ⟨⟨n.toNat, by omega⟩, by simp; omega⟩
  revert i
  decide +kernel
theorem markText_loop : ∀ (u : Nat) (x : ByteArray), u + x.size ≤ 4611686018427387904 → ∃ r, Ev (fun k => laws_markText.l0 k (u : Int) x) r := by
  intro u
  induction u using Nat.strongRecOn with
  | _ u ih =>
    intro x hx
    by_cases h : u = 0
    · refine ⟨(⟨#[109]⟩ : ByteArray) ++ x, Ev.step (f := fun _ => some ((⟨#[109]⟩ : ByteArray) ++ x)) (fun k => ?_) (Ev.now _)⟩
      simp only [laws_markText.l0]
      rw [if_neg (by omega), if_pos (by omega)]
    · have e1 : wrap64 (Int.tdiv (u : Int) 10) = ((u / 10 : Nat) : Int) := by
        rw [Int.tdiv_eq_ediv_of_nonneg (by omega)]; unfold wrap64; omega
      have e2 : Int.tmod (u : Int) 10 = ((u % 10 : Nat) : Int) := by
        rw [Int.tmod_eq_emod_of_nonneg (by omega)]; omega
      have e3 := mark_one ((u % 10 : Nat) : Int) (by omega) (by omega)
      obtain ⟨r, hr⟩ := ih (u / 10) (by omega) (strOfNums ([(wrap64 (48 + ((u % 10 : Nat) : Int))) % 256] : List Int) ++ x) (by rw [ByteArray.size_append, e3]; omega)
      refine ⟨r, Ev.step (fun k => ?_) hr⟩
      simp only [laws_markText.l0]
      rw [if_pos (by omega), e1, e2]
      simp only [Option.bind_some]
      rw [if_pos (by omega)]
theorem markText_ev (n : Int) (h0 : 0 ≤ n) (h1 : n ≤ 4611686018427387904) : ∃ r, Ev (fun k => laws_markText.f k n) r := by
  unfold laws_markText.f
  by_cases h : n ≤ 0
  · exact ⟨_, Ev.congr (fun k => by rw [if_pos h]) (Ev.now _)⟩
  · obtain ⟨r, hr⟩ := markText_loop n.toNat ⟨#[]⟩ (by show n.toNat + 0 ≤ _; omega)
    rw [Int.toNat_of_nonneg h0] at hr
    exact ⟨r, Ev.congr (fun k => by rw [if_neg h]) hr⟩
open Classical in
/-- The mark of a number. -/
noncomputable def markB (n : Int) : ByteArray := if h : ∃ r, Ev (fun k => laws_markText.f k n) r then Classical.choose h else ⟨#[]⟩
theorem markB_ev (n : Int) (h0 : 0 ≤ n) (h1 : n ≤ 4611686018427387904) : Ev (fun k => laws_markText.f k n) (markB n) := by
  have h := markText_ev n h0 h1
  unfold markB
  rw [dif_pos h]
  exact Classical.choose_spec h

end Go.Proofs.YthhmkbchdiflcaaGreatDoor.Q

/- Marks written into items, and read again. -/
namespace Go.Proofs.YthhmkbchdiflcaaGreatDoor.Q
open Go.RowKit Go.Proofs.YthhmkbchdiflcaaGreatDoorW.PrintWords Go.Proofs.YthhmkbchdiflcaaGreatDoorW.PrintLast Go.Proofs.YthhmkbchdiflcaaGreatDoorW.PrintMore
attribute [local go_sem] max2_int min2_int max_two min_two max_three min_three max_four min_four   -- for this text's walks alone
set_option linter.unusedVariables false
set_option linter.unusedSimpArgs false

noncomputable def markI (n : Int) : It := ⟨markB n, n + 1, n + 2, n + 3, n + 4, n + 5, n + 6, markB (n + 7)⟩
noncomputable def markIL (n : Int) : Nat → List It
  | 0 => []
  | d + 1 => markI n :: markIL (n + 8) d
theorem markIL_length (d : Nat) : ∀ n, (markIL n d).length = d := by
  induction d with
  | zero => intro n; rfl
  | succ d ih => intro n; simp [markIL, ih]
theorem rd_set (l : List It) (i : Nat) (v : It) (h : i < l.length) : rd_T74 (l.set i v) (i : Int) = v := by
  rw [rdI _ _ (by rw [List.length_set]; exact h)]; simp
theorem markItemS_loop (d : Nat) : ∀ (l : List It) (i : Nat) (n : Int), i + d = l.length → l.length ≤ 1759218604391 → 0 ≤ n → n + 8 * d ≤ 4611686018427380000 →
    Ev (fun k => laws_markItemS.l0 k l n (i : Int)) (n + 8 * d, l.take i ++ markIL n d) := by
  induction d with
  | zero =>
    intro l i n hi hl h0 h1
    rw [List.take_of_length_le (by omega)]
    refine Ev.step (f := fun _ => some (n, l)) (fun k => ?_) ?_
    · simp only [laws_markItemS.l0]; rw [if_neg (by omega)]
    · have : ((n + 8 * ((0 : Nat) : Int), l ++ markIL n 0) : Int × List It) = (n, l) := by simp [markIL]
      rw [this]; exact Ev.now _
  | succ d ih =>
    intro l i n hi hl h0 h1
    have hlt : i < l.length := by omega
    have m0 := markB_ev n h0 (by omega)
    have m7 := markB_ev (n + 7) (by omega) (by omega)
    have hih := ih (l.set i (markI n)) (i + 1) (n + 8) (by rw [List.length_set]; omega) (by rw [List.length_set]; omega) (by omega) (by omega)
    have w1 : wrap64 (n + 1) = n + 1 := by unfold wrap64; omega
    have w2 : wrap64 (n + 1 + 1) = n + 2 := by unfold wrap64; omega
    have w3 : wrap64 (n + 2 + 1) = n + 3 := by unfold wrap64; omega
    have w4 : wrap64 (n + 3 + 1) = n + 4 := by unfold wrap64; omega
    have w5 : wrap64 (n + 4 + 1) = n + 5 := by unfold wrap64; omega
    have w6 : wrap64 (n + 5 + 1) = n + 6 := by unfold wrap64; omega
    have w7 : wrap64 (n + 6 + 1) = n + 7 := by unfold wrap64; omega
    have w8 : wrap64 (n + 7 + 1) = n + 8 := by unfold wrap64; omega
    refine Ev.step (f := fun k => (laws_markText.f k n).bind fun t => (laws_markText.f k (n + 7)).bind fun t2 => laws_markItemS.l0 k (l.set i ⟨t, n + 1, n + 2, n + 3, n + 4, n + 5, n + 6, t2⟩) (n + 8) ((i + 1 : Nat) : Int)) (fun k => ?_) ?_
    · simp only [laws_markItemS.l0]
      rw [if_pos (by omega)]
      congr 1
      funext t
      rw [if_pos (by omega)]
      simp only [Option.bind_some, Int.toNat_natCast, rd_set _ _ _ hlt, List.set_set, w1, w2, w3, w4, w5, w6, w7, w8, step_i hlt hl]
    · refine Ev.bind m0 (Ev.bind m7 ?_)
      have e : l.take i ++ markIL n (d + 1) = (l.set i (markI n)).take (i + 1) ++ markIL (n + 8) d := by
        rw [List.take_succ_eq_append_getElem (by simp; omega), List.take_set_of_le (by omega), List.getElem_set_self, List.append_assoc]; rfl
      rw [e, show n + 8 * ((d + 1 : Nat) : Int) = n + 8 + 8 * (d : Int) by omega]
      exact hih
theorem markItemS_ev (l : List It) (hl : l.length ≤ 1759218604391) : Ev (fun k => laws_markItemS.f k l 1) (1 + 8 * (l.length : Int), markIL 1 l.length) := by
  have := markItemS_loop l.length l 0 1 (by omega) hl (by omega) (by omega)
  unfold laws_markItemS.f
  simpa using this
theorem markIL_at (d : Nat) : ∀ (n : Int) (i : Nat) (h : i < d), (markIL n d)[i]'(by rw [markIL_length]; exact h) = markI (n + 8 * i) := by
  induction d with
  | zero => intro n i h; exact absurd h (Nat.not_lt_zero i)
  | succ d ih =>
    intro n i h
    cases i with
    | zero => simp [markIL]
    | succ i =>
      have := ih (n + 8) i (by omega)
      simp only [markIL, List.getElem_cons_succ]
      rw [this]
      congr 1; omega
theorem heldItemS_loop (m : Nat) (hm : m ≤ 1759218604391) (d : Nat) : ∀ (i : Nat), i + d = m → Ev (fun k => laws_heldItemS.l0 k (markIL 1 m) (1 + 8 * (i : Int)) (i : Int)) (1 + 8 * (m : Int)) := by
  induction d with
  | zero =>
    intro i hi
    have hl := markIL_length m 1
    refine Ev.step (f := fun _ => some (1 + 8 * (m : Int))) (fun k => ?_) (Ev.now _)
    simp only [laws_heldItemS.l0]; rw [if_neg (by omega), show i = m by omega]
  | succ d ih =>
    intro i hi
    have hl := markIL_length m 1
    have hr : rd_T74 (markIL 1 m) (i : Int) = markI (1 + 8 * (i : Int)) := by
      rw [rdI _ _ (by omega)]; exact markIL_at m 1 i (by omega)
    have hih := ih (i + 1) (by omega)
    obtain ⟨n, hn⟩ : ∃ n : Int, n = 1 + 8 * (i : Int) := ⟨_, rfl⟩
    rw [show 1 + 8 * ((i + 1 : Nat) : Int) = n + 8 by omega] at hih
    rw [← hn] at hr ⊢
    have m0 := markB_ev n (by omega) (by omega)
    have m7 := markB_ev (n + 7) (by omega) (by omega)
    have w1 : wrap64 (n + 1) = n + 1 := by unfold wrap64; omega
    have w2 : wrap64 (n + 1 + 1) = n + 2 := by unfold wrap64; omega
    have w3 : wrap64 (n + 2 + 1) = n + 3 := by unfold wrap64; omega
    have w4 : wrap64 (n + 3 + 1) = n + 4 := by unfold wrap64; omega
    have w5 : wrap64 (n + 4 + 1) = n + 5 := by unfold wrap64; omega
    have w6 : wrap64 (n + 5 + 1) = n + 6 := by unfold wrap64; omega
    have w7 : wrap64 (n + 6 + 1) = n + 7 := by unfold wrap64; omega
    have w8 : wrap64 (n + 7 + 1) = n + 8 := by unfold wrap64; omega
    refine Ev.step (f := fun k => (laws_markText.f k n).bind fun t => if (markI n).f0.toList = t.toList then ((laws_markText.f k (n + 7)).bind fun t2 => if (markI n).f7.toList = t2.toList then laws_heldItemS.l0 k (markIL 1 m) (n + 8) ((i + 1 : Nat) : Int) else some (-1)) else some (-1)) (fun k => ?_) ?_
    · simp only [laws_heldItemS.l0]
      rw [if_pos (by omega), if_pos (by omega)]
      congr 1
      funext t
      have hw : wrap64 ((i : Int) + 1) = ((i + 1 : Nat) : Int) := by unfold wrap64; omega
      rw [hr]
      simp only [w1, w2, w3, w4, w5, w6, w7, w8, hw, markI, if_true]
      rfl
    · refine Ev.bind m0 (Ev.congr (f := fun k => (laws_markText.f k (n + 7)).bind fun t2 => if (markI n).f7.toList = t2.toList then laws_heldItemS.l0 k (markIL 1 m) (n + 8) ((i + 1 : Nat) : Int) else some (-1)) (fun k => by rw [if_pos (show (markI n).f0.toList = (markB n).toList from rfl)]) (Ev.bind m7 (Ev.congr (fun k => by rw [if_pos (show (markI n).f7.toList = (markB (n + 7)).toList from rfl)]) hih)))
theorem heldItemS_ev (m : Nat) (hm : m ≤ 1759218604391) : Ev (fun k => laws_heldItemS.f k (markIL 1 m) 1) (1 + 8 * (m : Int)) := by
  have := heldItemS_loop m hm m 0 (by omega)
  unfold laws_heldItemS.f
  simpa using this

end Go.Proofs.YthhmkbchdiflcaaGreatDoor.Q
