/- Texts of this claim, merged by a program (wip/tools/merge.py): HGoodDef, HAbove, HWays, HOrder. -/
import Derived.Test.YtibfocaldcjiiaaDoorA1
import Derived.Test.YtibfocaldcjiiaaDoorA4
import Derived.Test.YtibfocaldcjiiaaDoorA3
import Derived.Test.YtibfocaldcjiiaaDoorA8
import Derived.Test.YtibfocaldcjiiaaDoorA6
import Derived.Test.YtibfocaldcjiiaaDoorA9
import Derived.Test.YtibfocaldcjiiaaDoorA10
import Derived.Test.YtibfocaldcjiiaaDoorA13
import Derived.Test.YtibfocaldcjiiaaDoorA2
/- What the program's GoodItems asks, as plain functions; the printed callees come to them. -/
namespace Go.Proofs.YtibfocaldcjiiaaDoor.Q
open Go.RowKit Go.Proofs.YtibfocaldcjiiaaDoorW.PrintWords Go.Proofs.YtibfocaldcjiiaaDoorW.PrintLast Go.Proofs.YtibfocaldcjiiaaDoorW.PrintMore
attribute [local go_sem] max2_int min2_int max_two min_two max_three min_three max_four min_four   -- for this text's walks alone
set_option linter.unusedVariables false
set_option linter.unusedSimpArgs false

def namesW (s : ByteArray) : List ByteArray := if s.toList = [46] then [] else slashL s
def namesOk (s : ByteArray) : Bool := if s.toList = [46] then true else !(slashL s).any (fun p => !nameOkB p)
theorem namesOf_f (s : ByteArray) (hs : s.size < 4294967281) : impl_namesOf.f s = some (namesW s, namesOk s) := by
  unfold impl_namesOf.f namesW namesOk
  by_cases h : s.toList = [46]
  · simp [h]
  · rw [if_neg h, if_pos hs, if_neg h, if_neg h]
/-- The last place of c ahead of n, -1 where there is none. -/
def lastAt (s : ByteArray) (c : Int) : Nat → Int
  | 0 => -1
  | n + 1 => if bt s n = c then n else lastAt s c n
theorem lastAt_lt (s : ByteArray) (c : Int) : ∀ n, -1 ≤ lastAt s c n ∧ lastAt s c n < n
  | 0 => by simp [lastAt]
  | n + 1 => by
    have := lastAt_lt s c n
    simp only [lastAt]
    split <;> omega
theorem lastIdx_loop (s : ByteArray) (c : Int) (hs : s.size < 4294967281) (n : Nat) : n ≤ s.size → Ev (fun k => bytealg_LastIndexByteString.l0 k s c ((n : Int) - 1)) (lastAt s c n) := by
  induction n with
  | zero =>
    intro _
    refine Ev.step (f := fun _ => some (-1)) (fun k => ?_) (Ev.now _)
    simp only [bytealg_LastIndexByteString.l0]; rw [if_neg (by omega)]
  | succ n ih =>
    intro hn
    have e1 : ((n + 1 : Nat) : Int) - 1 = n := by omega
    rw [e1]
    simp only [lastAt]
    by_cases hc : bt s n = c
    · rw [if_pos hc]
      refine Ev.step (f := fun _ => some (n : Int)) (fun k => ?_) (Ev.now _)
      simp only [bytealg_LastIndexByteString.l0]
      rw [if_pos (by omega), if_pos (by omega), if_pos (by omega), if_pos hc]
    · rw [if_neg hc]
      refine Ev.step (fun k => ?_) (ih (by omega))
      simp only [bytealg_LastIndexByteString.l0]
      rw [if_pos (by omega), if_pos (by omega), if_pos (by omega), if_neg hc]
      congr 1
      unfold wrap64; omega
def aboveB (s : ByteArray) : ByteArray := if 0 ≤ lastAt s 47 s.size then s.extract 0 (lastAt s 47 s.size).toNat else ⟨#[46]⟩
theorem aboveOf_ev (s : ByteArray) (hs : s.size < 4294967281) : Ev (fun k => impl_aboveOf.f k s) (aboveB s) := by
  unfold impl_aboveOf.f strings_LastIndexByte.f bytealg_LastIndexByteString.f
  have e1 : wrap64 ((s.size : Int) - 1) = (s.size : Int) - 1 := by unfold wrap64; omega
  rw [e1]
  refine Ev.bind (Ev.bind (lastIdx_loop s 47 hs s.size (Nat.le_refl _)) (Ev.now _)) ?_
  have h := lastAt_lt s 47 s.size
  unfold aboveB
  by_cases h0 : 0 ≤ lastAt s 47 s.size
  · refine Ev.congr (fun k => ?_) (Ev.now _)
    rw [if_pos (by omega), if_pos h0, if_pos (by omega), if_pos h0]
  · refine Ev.congr (fun k => ?_) (Ev.now _)
    rw [if_neg (by omega), if_neg h0]
def cmpS (a b : ByteArray) : Int := if Op.bytesLess a.toList b.toList = true then -1 else if Op.bytesLess b.toList a.toList = true then 1 else 0
def cmpL : List ByteArray → List ByteArray → Int
  | [], [] => 0
  | [], _ :: _ => -1
  | _ :: _, [] => 1
  | a :: x, b :: y => if cmpS a b = 0 then cmpL x y else cmpS a b
theorem cmp_f (a b : ByteArray) : cmp_Compare_string.f a b = some (cmpS a b) := by
  unfold cmp_Compare_string.f cmp_isNaN_string.f cmpS
  simp only [Option.bind_some]
  simp
  split
  · rfl
  · split <;> rfl
theorem cmp_loop (x y : List ByteArray) (hx : x.length ≤ 4294967282) (d : Nat) : ∀ i : Nat, i + d = x.length → i ≤ y.length → Ev (fun k => slices_Compare_string_string.l0 k x y x (x.length : Int) (i : Int)) (cmpL (x.drop i) (y.drop i)) := by
  induction d with
  | zero =>
    intro i hi hy
    rw [List.drop_of_length_le (show x.length ≤ i by omega)]
    by_cases hl : x.length < y.length
    · refine Ev.step (f := fun _ => some (-1)) (fun k => ?_) ?_
      · simp only [slices_Compare_string_string.l0]; rw [if_neg (by omega), if_pos (by omega)]
      · rw [List.drop_eq_getElem_cons (show i < y.length by omega)]; exact Ev.now _
    · refine Ev.step (f := fun _ => some 0) (fun k => ?_) ?_
      · simp only [slices_Compare_string_string.l0]; rw [if_neg (by omega), if_neg (by omega)]
      · rw [List.drop_of_length_le (show y.length ≤ i by omega)]; exact Ev.now _
  | succ d ih =>
    intro i hi hy
    have hlt : i < x.length := by omega
    have hw := step_n (i := i) (n := x.length) hlt (by omega)
    rw [List.drop_eq_getElem_cons hlt]
    by_cases hl : i < y.length
    · rw [List.drop_eq_getElem_cons hl]
      simp only [cmpL]
      have e : ∀ k, slices_Compare_string_string.l0 (k + 1) x y x (x.length : Int) (i : Int) = if cmpS x[i] y[i] = 0 then slices_Compare_string_string.l0 k x y x (x.length : Int) ((i + 1 : Nat) : Int) else some (cmpS x[i] y[i]) := fun k => by
        simp only [slices_Compare_string_string.l0]
        rw [if_pos (by omega), if_pos (by omega), if_pos (by omega), if_neg (by omega), if_pos (by omega), rdS _ _ hlt, rdS _ _ hl, cmp_f, hw]
        rfl
      by_cases hc : cmpS x[i] y[i] = 0
      · rw [if_pos hc]
        exact Ev.step (fun k => by rw [e k, if_pos hc]) (ih (i + 1) (by omega) (by omega))
      · rw [if_neg hc]
        exact Ev.step (f := fun _ => some (cmpS x[i] y[i])) (fun k => by rw [e k, if_neg hc]) (Ev.now _)
    · rw [List.drop_of_length_le (show y.length ≤ i by omega)]
      refine Ev.step (f := fun _ => some 1) (fun k => ?_) (Ev.now _)
      simp only [slices_Compare_string_string.l0]
      rw [if_pos (by omega), if_pos (by omega), if_pos (by omega), if_pos (by omega)]
def cmpW (a b : ByteArray) : Int := cmpL (namesW a) (namesW b)
theorem namesW_len (s : ByteArray) (hs : s.size < 4294967281) : (namesW s).length ≤ 4294967282 := by
  unfold namesW
  split
  · simp
  · exact slash_len s hs
theorem compareWays_ev (a b : ByteArray) (ha : a.size < 4294967281) (hb : b.size < 4294967281) : Ev (fun k => impl_compareWays.f k a b) (cmpW a b) := by
  unfold impl_compareWays.f slices_Compare_string_string.f
  rw [namesOf_f a ha, namesOf_f b hb]
  simp only [Option.bind_some]
  have := cmp_loop (namesW a) (namesW b) (namesW_len a ha) (namesW a).length 0 (by omega) (by omega)
  exact Ev.bind this (Ev.now _)
theorem rdI (l : List It) (i : Nat) (h : i < l.length) : rd_T50 l (i : Int) = l[i] := by
  unfold rd_T50; simp [List.getD, h]
/-- What the map of directories tells of a way, behind the first i items. -/
def dirAt (l : List It) : Nat → List UInt8 → Bool
  | 0, _ => false
  | i + 1, s => if (itAt l i).f0.toList = s then (itAt l i).f1 == 2 else dirAt l i s
def stepB (l : List It) (i : Nat) : Bool :=
  namesOk (itAt l i).f0 && (goodItemB l i && (decide (i = 0) || (dirAt l i (aboveB (itAt l i).f0).toList && decide (cmpW (itAt l (i - 1)).f0 (itAt l i).f0 < 0))))
def stepsB (l : List It) (n : Nat) : Bool := (List.range n).all (stepB l)
def goodB (l : List It) : Bool := decide (1 ≤ l.length) && (decide (l.length ≤ 40) && ((itAt l 0).f0.toList == [46] && stepsB l l.length))

end Go.Proofs.YtibfocaldcjiiaaDoor.Q

/- impl.aboveOf, and the call of it draws nothing. -/
namespace Go.Proofs.YtibfocaldcjiiaaDoor.Q
open Go.RowKit Go.Proofs.YtibfocaldcjiiaaDoorW.PrintWords Go.Proofs.YtibfocaldcjiiaaDoorW.PrintLast Go.Proofs.YtibfocaldcjiiaaDoorW.PrintMore
attribute [local go_sem] max2_int min2_int max_two min_two max_three min_three max_four min_four   -- for this text's walks alone
set_option linter.unusedVariables false
set_option linter.unusedSimpArgs false

set_option maxHeartbeats 1000000 in
set_option maxRecDepth 100000 in
theorem lastIdx_still (s : ByteArray) (c : Int) (hs : s.size < 4294967281) (r : Int) (hr : lastAt s c s.size = r) (w : World) :
    Calls Tryd.prog 89 #[.string s, .int .u8 c] w fun e w' => e = .returned (.int .i64 r) ∧ w' = w := by
  go_enter Tryd.func89, Tryd.ntmps89
  go_wp2
  go_loopg [5] s.size (fun gg i wr => ∃ n : Nat, n ≤ gg ∧ n ≤ s.size ∧ i = .int .i64 ((n : Int) - 1) ∧ Aside0 (lastAt s c n = r) ∧ wr = w)
  case atStart => exact ⟨s.size, Nat.le_refl _, Nat.le_refl _, by first | rfl | go_num, ⟨hr⟩, rfl⟩
  case round =>
    obtain ⟨n, hg, hn, rfl, HL, rfl⟩ := hrel
    cases n with
    | zero =>
      have c3 : decide ((0 : Int) ≤ ((0 : Nat) : Int) - 1) = false := by decide
      have hl := HL.out
      simp only [lastAt] at hl
      clear HL hr
      subst hl
      go_wp2
      go_ret
      exact ⟨rfl, rfl⟩
    | succ n =>
      have e1 : ((n + 1 : Nat) : Int) - 1 = n := by omega
      rw [e1]
      have c3 : decide ((0 : Int) ≤ (n : Int)) = true := by simp
      have p6 : ((0 : Int) ≤ (n : Int)) = True := eq_true (by omega)
      have q6 : ((n : Int) < (s.size : Int)) = True := eq_true (by omega)
      have hx6 : ∀ (h : n < s.size), ((s[n]'h).toNat : Int) = bt s (n : Int) := fun h => bt_at s (n : Int) h
      have hl := HL.out
      simp only [lastAt] at hl
      clear HL
      by_cases hc : bt s n = c
      · have c7 : (bt s n == c) = true := by simpa using hc
        rw [if_pos hc] at hl
        clear hc hr
        subst hl
        go_wp2
        go_ret
        exact ⟨rfl, rfl⟩
      · have c7 : (bt s n == c) = false := by simpa using hc
        rw [if_neg hc] at hl
        have HL := Aside0.mk hl
        clear hl hc
        go_wp2
        go_roundg n
        case measure => omega
        case rel => exact ⟨n, Nat.le_refl _, by omega, by first | rfl | go_num, HL, rfl⟩
theorem lastIdx_still2 (s : ByteArray) (c : Int) (hs : s.size < 4294967281) (w : World) :
    Calls Tryd.prog 66 #[.string s, .int .u8 c] w fun e w' => e = .returned (.int .i64 (lastAt s c s.size)) ∧ w' = w := by
  have HX := Aside0.mk (fun W => lastIdx_still s c hs _ rfl W)
  generalize lastAt s c s.size = q at HX ⊢
  go_enter Tryd.func66, Tryd.ntmps66
  go_wp2_with fail
  refine (HX.out _).mono ?_; rintro e w1 ⟨rfl, rfl⟩
  go_wp2
  go_ret
  exact ⟨rfl, rfl⟩
theorem aboveOf_still (s : ByteArray) (hs : s.size < 4294967281) (w : World) :
    Calls Tryd.prog 34 #[.string s] w fun e w' => e = .returned (.string (aboveB s)) ∧ w' = w := by
  have HX := Aside0.mk (fun W => lastIdx_still2 s 47 hs W)
  have hlt := lastAt_lt s 47 s.size
  unfold aboveB
  generalize lastAt s 47 s.size = q at HX hlt ⊢
  by_cases h0 : 0 ≤ q
  · obtain ⟨m, rfl⟩ : ∃ m : Nat, q = m := ⟨q.toNat, by omega⟩
    rw [if_pos h0, Int.toNat_natCast]
    have c3 : decide ((0 : Int) ≤ (m : Int)) = true := by simp
    have p6 : ((0 : Int) ≤ (m : Int)) = True := eq_true (by omega)
    have q6 : ((m : Int) ≤ (s.size : Int)) = True := eq_true (by omega)
    go_enter Tryd.func34, Tryd.ntmps34
    go_wp2_with fail
    refine (HX.out _).mono ?_; rintro e w1 ⟨rfl, rfl⟩
    go_wp2
    go_ret
    exact ⟨by first | rfl | (simp; done), rfl⟩
  · rw [if_neg h0]
    have c3 : decide (0 ≤ q) = false := by simpa using h0
    go_enter Tryd.func34, Tryd.ntmps34
    go_wp2_with fail
    refine (HX.out _).mono ?_; rintro e w1 ⟨rfl, rfl⟩
    go_wp2
    go_ret
    exact ⟨by first | rfl | (simp; done), rfl⟩

end Go.Proofs.YtibfocaldcjiiaaDoor.Q

/- Ways as lists of names: the texts of them. -/
namespace Go.Proofs.YtibfocaldcjiiaaDoor.Q
open Go.RowKit Go.Proofs.YtibfocaldcjiiaaDoorW.PrintWords Go.Proofs.YtibfocaldcjiiaaDoorW.PrintLast Go.Proofs.YtibfocaldcjiiaaDoorW.PrintMore
attribute [local go_sem] max2_int min2_int max_two min_two max_three min_three max_four min_four   -- for this text's walks alone
set_option linter.unusedVariables false
set_option linter.unusedSimpArgs false

theorem name_no_slash {p : ByteArray} (h : nameOkB p = true) : (47 : UInt8) ∉ p.data.toList := by
  intro hm
  rw [← nameOk_eq] at h
  simp only [Bool.and_eq_true, List.all_eq_true] at h
  have := h.1 (((47 : UInt8).toNat : Nat) : Int) (by unfold bytesOf; exact List.mem_map.mpr ⟨47, hm, rfl⟩)
  exact absurd this (by decide)
theorem name_size {p : ByteArray} (h : nameOkB p = true) : 1 ≤ p.size ∧ p.size ≤ 8 := by
  rw [← nameOk_eq] at h
  unfold nameEnd inB at h
  simp at h
  omega
theorem name_dot {p : ByteArray} (h : nameOkB p = true) : p.data.toList ≠ [46] := by
  intro e
  unfold nameOkB at h
  rw [show p.toList = [46] from by rw [ByteArray.toList_eq]; exact e] at h
  simp at h
theorem name_ne {p : ByteArray} (h : nameOkB p = true) : p.data.toList ≠ [] := by
  intro e
  have h1 := (name_size h).1
  rw [← data_length, e] at h1
  simp at h1
def joinT : List (List UInt8) → List UInt8
  | [] => []
  | [a] => a
  | a :: b :: r => a ++ 47 :: joinT (b :: r)
theorem joinT_cons (a : List UInt8) (l : List (List UInt8)) (h : l ≠ []) : joinT (a :: l) = a ++ 47 :: joinT l := by
  cases l with
  | nil => exact absurd rfl h
  | cons => rfl
theorem joinT_snoc (n : List UInt8) : ∀ l : List (List UInt8), l ≠ [] → joinT (l ++ [n]) = joinT l ++ 47 :: n
  | [], h => absurd rfl h
  | [a], _ => rfl
  | a :: b :: r, _ => by
    have := joinT_snoc n (b :: r) (by simp)
    simp only [List.cons_append, joinT] at this ⊢
    rw [this]; simp
theorem join_spl (t : List UInt8) : joinT (spl 47 t) = t := by
  induction t with
  | nil => rfl
  | cons b t ih =>
    simp only [spl]
    by_cases hb : b = 47
    · rw [if_pos hb, joinT_cons _ _ (spl_ne _ _), ih, hb]; rfl
    · rw [if_neg hb]
      cases h2 : spl 47 t with
      | nil => exact absurd h2 (spl_ne _ _)
      | cons x r =>
        rw [h2] at ih
        cases r with
        | nil => simp only [joinT] at ih ⊢; rw [ih]
        | cons y r => simp only [joinT] at ih ⊢; rw [List.cons_append, ih]
theorem spl_noc (c : UInt8) : ∀ t : List UInt8, c ∉ t → spl c t = [t]
  | [], _ => rfl
  | b :: t, h => by
    have hb : b ≠ c := fun e => h (by rw [e]; exact List.mem_cons_self)
    simp only [spl, if_neg hb, spl_noc c t (fun e => h (List.mem_cons_of_mem _ e))]
theorem spl_app (c : UInt8) (t : List UInt8) : ∀ a : List UInt8, c ∉ a → spl c (a ++ c :: t) = a :: spl c t
  | [], _ => by simp [spl]
  | b :: a, h => by
    have hb : b ≠ c := fun e => h (by rw [e]; exact List.mem_cons_self)
    simp only [List.cons_append, spl, if_neg hb, spl_app c t a (fun e => h (List.mem_cons_of_mem _ e))]
theorem spl_join : ∀ l : List (List UInt8), l ≠ [] → (∀ x ∈ l, (47 : UInt8) ∉ x) → spl 47 (joinT l) = l
  | [], h, _ => absurd rfl h
  | [a], _, h => spl_noc 47 a (h a (by simp))
  | a :: b :: r, _, h => by
    simp only [joinT]
    rw [spl_app 47 _ a (h a (by simp)), spl_join (b :: r) (by simp) (fun x hx => h x (List.mem_cons_of_mem _ hx))]
def dataL (N : List ByteArray) : List (List UInt8) := N.map (·.data.toList)
def wayT (N : List ByteArray) : List UInt8 := if N = [] then [46] else joinT (dataL N)
theorem wayT_nil : wayT [] = [46] := rfl
theorem wayT_ne {N : List ByteArray} (h : N ≠ []) : wayT N = joinT (dataL N) := if_neg h
theorem slash_data (s : ByteArray) : dataL (slashL s) = spl 47 s.data.toList := splitB_spl 47 s
theorem slash_ne (s : ByteArray) : slashL s ≠ [] := by
  intro e
  have := slash_data s
  rw [e] at this
  exact spl_ne _ _ this.symm
theorem namesW_ne {s : ByteArray} (h : s.toList ≠ [46]) : namesW s = slashL s := if_neg h
theorem namesW_nil {s : ByteArray} : namesW s = [] ↔ s.toList = [46] := by
  constructor
  · intro h
    by_cases hd : s.toList = [46]
    · exact hd
    · rw [namesW_ne hd] at h; exact absurd h (slash_ne s)
  · intro h; exact if_pos h
theorem way_names (s : ByteArray) : wayT (namesW s) = s.data.toList := by
  by_cases h : s.toList = [46]
  · rw [namesW_nil.mpr h, wayT_nil, ← h, ByteArray.toList_eq]
  · rw [namesW_ne h, wayT_ne (slash_ne s), slash_data, join_spl]
theorem namesOk_eq (s : ByteArray) : namesOk s = (namesW s).all nameOkB := by
  unfold namesOk namesW
  by_cases h : s.toList = [46]
  · rw [if_pos h, if_pos h]; rfl
  · rw [if_neg h, if_neg h, List.all_eq_not_any_not]
theorem names_way {s : ByteArray} {N : List ByteArray} (hN : ∀ p ∈ N, nameOkB p = true) (h : s.data.toList = wayT N) : namesW s = N := by
  by_cases hn : N = []
  · subst hn
    exact namesW_nil.mpr (by rw [ByteArray.toList_eq, h]; rfl)
  · rw [wayT_ne hn] at h
    have hs : spl 47 s.data.toList = dataL N := by
      rw [h]
      refine spl_join _ (fun e => hn (List.map_eq_nil_iff.mp e)) (fun x hx => ?_)
      obtain ⟨p, hp, rfl⟩ := List.mem_map.mp hx
      exact name_no_slash (hN p hp)
    have hd : s.toList ≠ [46] := by
      intro e
      rw [ByteArray.toList_eq] at e
      rw [e, spl_noc 47 [46] (by decide)] at hs
      match N, hn, hs, hN with
      | [p], _, hs, hN =>
        simp only [dataL, List.map_cons, List.map_nil, List.cons.injEq, and_true] at hs
        exact name_dot (hN p (by simp)) hs.symm
      | p :: q :: r, _, hs, _ => simp [dataL] at hs
    rw [namesW_ne hd]
    exact map_data_inj ((slash_data s).trans hs)
theorem wayT_inj {M N : List ByteArray} (hM : ∀ p ∈ M, nameOkB p = true) (hN : ∀ p ∈ N, nameOkB p = true) (h : wayT M = wayT N) : M = N := by
  have h1 := names_way (s := ⟨(wayT M).toArray⟩) hM (by simp)
  have h2 := names_way (s := ⟨(wayT M).toArray⟩) hN (by simp [h])
  exact h1.symm.trans h2
theorem lastAt_hit (s : ByteArray) (a t : List UInt8) (hs : s.data.toList = a ++ 47 :: t) (ht : (47 : UInt8) ∉ t) : lastAt s 47 s.size = a.length := by
  have hl : s.size = a.length + 1 + t.length := by rw [← data_length, hs]; simp; omega
  have key : ∀ m, m ≤ t.length → lastAt s 47 (a.length + 1 + m) = a.length := by
    intro m
    induction m with
    | zero =>
      intro _
      simp only [Nat.add_zero, lastAt]
      rw [if_pos]
      rw [bt_data s a.length (by omega)]
      have : s.data.toList[a.length]'(by rw [data_length]; omega) = 47 := by simp [hs]
      rw [this]; rfl
    | succ m ih =>
      intro hm
      rw [show a.length + 1 + (m + 1) = (a.length + 1 + m) + 1 by omega]
      simp only [lastAt]
      rw [if_neg, ih (by omega)]
      rw [bt_data s (a.length + 1 + m) (by omega)]
      intro e
      have e2 : s.data.toList[a.length + 1 + m]'(by rw [data_length]; omega) = t[m] := by
        simp only [hs]
        rw [List.getElem_append_right (by omega)]
        simp [show a.length + 1 + m - a.length = m + 1 by omega]
      rw [e2] at e
      have e3 : t[m] = 47 := by
        apply UInt8.toNat.inj
        exact_mod_cast e
      exact ht (e3 ▸ List.getElem_mem _)
  rw [hl]
  exact key t.length (Nat.le_refl _)
theorem lastAt_none (s : ByteArray) (ht : (47 : UInt8) ∉ s.data.toList) : lastAt s 47 s.size = -1 := by
  have key : ∀ m, m ≤ s.size → lastAt s 47 m = -1 := by
    intro m
    induction m with
    | zero => intro _; rfl
    | succ m ih =>
      intro hm
      simp only [lastAt]
      rw [if_neg, ih (by omega)]
      rw [bt_data s m (by omega)]
      intro e
      have e3 : s.data.toList[m]'(by rw [data_length]; omega) = 47 := by
        apply UInt8.toNat.inj
        exact_mod_cast e
      exact ht (e3 ▸ List.getElem_mem _)
  exact key _ (Nat.le_refl _)
theorem dataL_append (M N : List ByteArray) : dataL (M ++ N) = dataL M ++ dataL N := by simp [dataL]
theorem above_way {s : ByteArray} {P : List ByteArray} {n : ByteArray} (h : namesW s = P ++ [n]) (hn : nameOkB n = true) : (aboveB s).data.toList = wayT P ∧
    (P = [] ∨ (aboveB s = s.extract 0 (s.size - n.size - 1) ∧ n.size + 1 ≤ s.size)) := by
  have hw := way_names s
  rw [h, wayT_ne (by simp), dataL_append] at hw
  have h47 := name_no_slash hn
  by_cases hP : P = []
  · subst hP
    have hl := lastAt_none s (by rw [← hw]; exact h47)
    unfold aboveB
    rw [hl]
    exact ⟨rfl, Or.inl rfl⟩
  · rw [show dataL [n] = [n.data.toList] from rfl, joinT_snoc n.data.toList (dataL P) (fun e => hP (by simpa [dataL] using e))] at hw
    have hl := lastAt_hit s _ _ hw.symm h47
    have hsz : s.size = (joinT (dataL P)).length + 1 + n.size := by rw [← data_length, ← hw, ← data_length]; simp; omega
    have ha : aboveB s = s.extract 0 (joinT (dataL P)).length := by
      unfold aboveB
      rw [hl, if_pos (by omega), Int.toNat_natCast]
    refine ⟨?_, Or.inr ⟨?_, by omega⟩⟩
    · rw [ha, extract_list, ← hw, wayT_ne hP]; simp
    · rw [ha, show s.size - n.size - 1 = (joinT (dataL P)).length by omega]
theorem parts_names {s : ByteArray} (h : ∀ p ∈ slashL s, nameOkB p = true) : partsL s = slashL s := by
  unfold partsL
  rw [List.filter_eq_self]
  intro p hp
  have := (name_size (h p hp)).1
  unfold nilB
  rw [Bool.not_eq_true', decide_eq_false_iff_not]
  omega
theorem l17Split_ev (s : ByteArray) (hs : s.size < 4294967281) (P : List ByteArray) (n : ByteArray) (h : namesW s = P ++ [n]) (ho : namesOk s = true) : Ev (fun k => spec_l17Split.f k s) (aboveB s, n) := by
  have hd : s.toList ≠ [46] := fun e => by rw [namesW_nil.mpr e] at h; simp at h
  rw [namesOk_eq, List.all_eq_true] at ho
  have hsl : slashL s = P ++ [n] := by rw [← namesW_ne hd, h]
  rw [h] at ho
  have hp : partsL s = P ++ [n] := by rw [parts_names (by rw [hsl]; exact ho), hsl]
  have hlen := slash_len s hs
  rw [hsl] at hlen
  have hl : (P ++ [n]).length = P.length + 1 := by simp
  obtain ⟨ha, hb⟩ := above_way h (ho n (by simp))
  unfold spec_l17Split.f
  refine Ev.bind (l2Parts_ev s hs) ?_
  rw [hp]
  have e1 : wrap64 (((P ++ [n]).length : Int) - 1) = (P.length : Int) := by rw [hl]; unfold wrap64; omega
  have e2 : rdOf ByteArray.empty (P ++ [n]) (P.length : Int) = n := by rw [rdS _ _ (by simp)]; simp
  refine Ev.congr (fun k => ?_) (Ev.now _)
  rw [e1, e2, if_pos (by omega), if_pos (by omega)]
  by_cases hP : P = []
  · subst hP
    rw [if_pos (by simp)]
    have : aboveB s = ⟨#[46]⟩ := Go.WideShapes.bytes_inj (by rw [ha]; rfl)
    rw [this]
  · rw [if_neg (by rw [hl]; have := List.length_pos_iff.mpr hP; omega)]
    rcases hb with hb | ⟨hb, hsz⟩
    · exact absurd hb hP
    · have e3 : wrap64 (wrap64 ((s.size : Int) - (n.size : Int)) - 1) = ((s.size - n.size - 1 : Nat) : Int) := by unfold wrap64; omega
      rw [e3, if_pos (by omega), if_pos (by omega), Int.toNat_natCast, hb]
def slashed (N : List ByteArray) : List UInt8 := (dataL N).flatMap fun x => 47 :: x
theorem slashed_join : ∀ N : List ByteArray, N ≠ [] → slashed N = 47 :: joinT (dataL N)
  | [], h => absurd rfl h
  | [a], _ => by simp [slashed, dataL, joinT]
  | a :: b :: r, _ => by
    have := slashed_join (b :: r) (by simp)
    have e : slashed (a :: b :: r) = 47 :: a.data.toList ++ slashed (b :: r) := rfl
    rw [e, this]
    simp [dataL, joinT]
theorem l2Of_loop (N : List ByteArray) (hN : ∀ p ∈ N, nameOkB p = true) (hl : N.length ≤ 4294967282) (d : Nat) : ∀ (i : Nat) (x : ByteArray), i + d = N.length → x.size ≤ 9 * i →
    Ev (fun k => spec_l2Of.l0 k x N (N.length : Int) (i : Int)) ⟨(x.data.toList ++ slashed (N.drop i)).toArray⟩ := by
  induction d with
  | zero =>
    intro i x hi hx
    refine Ev.step (f := fun _ => some x) (fun k => ?_) ?_
    · simp only [spec_l2Of.l0]; rw [if_neg (by omega)]
    · rw [List.drop_of_length_le (by omega)]
      simp only [slashed, dataL, List.map_nil, List.flatMap_nil, List.append_nil]
      exact Ev.now _
  | succ d ih =>
    intro i x hi hx
    have hlt : i < N.length := by omega
    have hn := name_size (hN N[i] (List.getElem_mem hlt))
    have h1 : ((⟨#[47]⟩ : ByteArray) ++ N[i]).size = 1 + N[i].size := by rw [ByteArray.size_append]; rfl
    have e : x.data.toList ++ slashed (N.drop i) = (x ++ ((⟨#[47]⟩ : ByteArray) ++ N[i])).data.toList ++ slashed (N.drop (i + 1)) := by
      have e0 : ∀ (a : ByteArray) (r : List ByteArray), slashed (a :: r) = 47 :: (a.data.toList ++ slashed r) := fun _ _ => rfl
      rw [List.drop_eq_getElem_cons hlt, e0]
      simp only [ByteArray.data_append, Array.toList_append, List.append_assoc]
      rfl
    rw [e]
    refine Ev.step (f := fun k => spec_l2Of.l0 k (x ++ ((⟨#[47]⟩ : ByteArray) ++ N[i])) N (N.length : Int) ((i + 1 : Nat) : Int)) (fun k => ?_) (ih (i + 1) (x ++ ((⟨#[47]⟩ : ByteArray) ++ N[i])) (by omega) (by rw [ByteArray.size_append, h1]; omega))
    simp only [spec_l2Of.l0]
    rw [if_pos (by omega), if_pos (by omega), if_pos (by omega), rdS _ _ hlt, if_pos (by omega), if_pos (by omega), step_n hlt (by omega)]
theorem l17Way_loop (s : ByteArray) (N : List ByteArray) (hl : N.length ≤ 4294967282) (hm : ∀ p ∈ N, p.size < 4294967281) (R : Bool)
    (hR : (∀ p ∈ N, nameOkB p = true) → R = (!N.isEmpty && (joinT (dataL N) == s.data.toList))) (hF : (∃ p ∈ N, nameOkB p = false) → R = false) (d : Nat) : ∀ i : Nat, i + d = N.length → (∀ p ∈ N.take i, nameOkB p = true) →
    Ev (fun k => spec_l17Way.l0 k s N N (N.length : Int) (i : Int)) R := by
  induction d with
  | zero =>
    intro i hi hp
    rw [List.take_of_length_le (by omega)] at hp
    rw [hR hp]
    by_cases hN : N = []
    · subst hN
      refine Ev.step (f := fun _ => some false) (fun k => ?_) (Ev.now _)
      simp only [spec_l17Way.l0]
      rw [if_neg (by simp at hi ⊢), if_neg (by simp)]
    · have hpos := List.length_pos_iff.mpr hN
      refine Ev.step (f := fun k => (spec_l2Of.f k N).bind fun t146 => (if 1 ≤ (t146.size : Int) then (some ((t146.extract 1 t146.size).toList == s.toList)) else (none))) (fun k => ?_) ?_
      · simp only [spec_l17Way.l0]
        rw [if_neg (by omega), if_pos (by omega)]
      · have h2 := l2Of_loop N hp hl N.length 0 ⟨#[]⟩ (by omega) (by decide)
        have h3 : Ev (fun k => spec_l2Of.f k N) ⟨(slashed N).toArray⟩ := by
          unfold spec_l2Of.f
          refine Ev.congr (fun k => ?_) h2
          rw [if_neg (by omega)]; rfl
        refine Ev.bind h3 ?_
        have e1 : (⟨(slashed N).toArray⟩ : ByteArray).size = (joinT (dataL N)).length + 1 := by rw [← data_length, slashed_join N hN]; simp
        refine Ev.congr (fun k => ?_) (Ev.now _)
        rw [if_pos (by omega)]
        have hne : N.isEmpty = false := by cases N <;> simp at hN ⊢
        have e2 : ((⟨(slashed N).toArray⟩ : ByteArray).data.toList.take (⟨(slashed N).toArray⟩ : ByteArray).size).drop 1 = joinT (dataL N) := by
          rw [e1]
          show ((slashed N).toArray.toList.take _).drop 1 = _
          rw [slashed_join N hN]
          simp
        rw [ByteArray.toList_eq, ByteArray.toList_eq, extract_list, e2, hne]
        rfl
  | succ d ih =>
    intro i hi hp
    have hlt : i < N.length := by omega
    have h1 := l2Name_ev N[i] (hm _ (List.getElem_mem hlt))
    by_cases hn : nameOkB N[i] = true
    · refine Ev.step (f := fun k => (spec_l2Name.f k N[i]).bind fun t145 => (if t145 = true then (spec_l17Way.l0 k s N N (N.length : Int) ((i + 1 : Nat) : Int)) else (some false))) (fun k => ?_) ?_
      · simp only [spec_l17Way.l0]
        rw [if_pos (by omega), if_pos (by omega), if_pos (by omega), rdS _ _ hlt, step_n hlt (by omega)]
      · refine Ev.bind h1 ?_
        refine Ev.congr (fun k => ?_) (ih (i + 1) (by omega) ?_)
        · rw [if_pos hn]
        · intro p hpm
          rw [List.take_add_one, List.getElem?_eq_getElem hlt] at hpm
          rcases List.mem_append.mp hpm with h | h
          · exact hp p h
          · simp at h; rw [h]; exact hn
    · rw [hF ⟨N[i], List.getElem_mem hlt, by simpa using hn⟩]
      refine Ev.step (f := fun k => (spec_l2Name.f k N[i]).bind fun t145 => (if t145 = true then (spec_l17Way.l0 k s N N (N.length : Int) ((i + 1 : Nat) : Int)) else (some false))) (fun k => ?_) ?_
      · simp only [spec_l17Way.l0]
        rw [if_pos (by omega), if_pos (by omega), if_pos (by omega), rdS _ _ hlt, step_n hlt (by omega)]
      · refine Ev.bind h1 ?_
        refine Ev.congr (fun k => ?_) (Ev.now false)
        rw [if_neg hn]
/-- A way that is not the first one. -/
def innerB (s : ByteArray) : Bool := namesOk s && !(namesW s).isEmpty
theorem l17Way_ev (s : ByteArray) (hs : s.size < 4294967281) : Ev (fun k => spec_l17Way.f k s) (innerB s) := by
  unfold spec_l17Way.f
  refine Ev.bind (l2Parts_ev s hs) ?_
  have hlen : (partsL s).length ≤ 4294967282 := Nat.le_trans (List.length_filter_le _ _) (slash_len s hs)
  have hmem : ∀ p ∈ partsL s, p.size < 4294967281 := fun p hp => Nat.lt_of_le_of_lt (parts_mem_size s p hp) hs
  refine l17Way_loop s (partsL s) hlen hmem _ ?_ ?_ (partsL s).length 0 (by omega) (by simp)
  · intro hN
    by_cases hE : partsL s = []
    · rw [hE]
      unfold innerB
      rw [namesOk_eq]
      by_cases hd : s.toList = [46]
      · rw [namesW_nil.mpr hd]; rfl
      · rw [namesW_ne hd]
        have : (slashL s).all nameOkB = false := by
          apply Bool.eq_false_iff.mpr
          intro h
          rw [List.all_eq_true] at h
          rw [parts_names h] at hE
          exact slash_ne s hE
        rw [this]; rfl
    · have hne : (partsL s).isEmpty = false := by cases h : partsL s <;> simp [h] at hE ⊢
      rw [hne]
      unfold innerB
      rw [namesOk_eq]
      by_cases hj : joinT (dataL (partsL s)) = s.data.toList
      · have hw : namesW s = partsL s := names_way hN (by rw [wayT_ne hE, hj])
        rw [hw, hne, hj, List.all_eq_true.mpr hN]; simp
      · rw [show (joinT (dataL (partsL s)) == s.data.toList) = false from by simpa using hj]
        by_cases hd : s.toList = [46]
        · rw [namesW_nil.mpr hd]; rfl
        · rw [namesW_ne hd]
          have : (slashL s).all nameOkB = false := by
            apply Bool.eq_false_iff.mpr
            intro h
            rw [List.all_eq_true] at h
            rw [parts_names h, slash_data, join_spl] at hj
            exact hj rfl
          rw [this]; rfl
  · rintro ⟨p, hp, hb⟩
    unfold innerB
    rw [namesOk_eq]
    by_cases hd : s.toList = [46]
    · rw [namesW_nil.mpr hd]; rfl
    · rw [namesW_ne hd]
      have : (slashL s).all nameOkB = false := by
        apply Bool.eq_false_iff.mpr
        intro h
        rw [List.all_eq_true] at h
        rw [h p ((List.mem_filter.mp hp).1)] at hb
        exact absurd hb (by simp)
      rw [this]; rfl

end Go.Proofs.YtibfocaldcjiiaaDoor.Q

/- The order of ways, and what good items are among each other. -/
namespace Go.Proofs.YtibfocaldcjiiaaDoor.Q
open Go.RowKit Go.Proofs.YtibfocaldcjiiaaDoorW.PrintWords Go.Proofs.YtibfocaldcjiiaaDoorW.PrintLast Go.Proofs.YtibfocaldcjiiaaDoorW.PrintMore
attribute [local go_sem] max2_int min2_int max_two min_two max_three min_three max_four min_four   -- for this text's walks alone
set_option linter.unusedVariables false
set_option linter.unusedSimpArgs false

theorem less_irrefl : ∀ a : List UInt8, Op.bytesLess a a = false
  | [] => rfl
  | x :: a => by simp [Op.bytesLess, less_irrefl a]
theorem less_trans : ∀ a b c : List UInt8, Op.bytesLess a b = true → Op.bytesLess b c = true → Op.bytesLess a c = true
  | [], _, [], _, h => by cases ‹List UInt8› <;> simp [Op.bytesLess] at h
  | [], _, _ :: _, _, _ => by simp [Op.bytesLess]
  | _ :: _, [], _, h, _ => by simp [Op.bytesLess] at h
  | _ :: _, _ :: _, [], _, h => by simp [Op.bytesLess] at h
  | x :: a, y :: b, z :: c, h1, h2 => by
    simp only [Op.bytesLess, UInt8.lt_iff_toNat_lt, Bool.or_eq_true, decide_eq_true_eq, Bool.and_eq_true, beq_iff_eq] at h1 h2 ⊢
    rcases h1 with h1 | ⟨rfl, h1⟩
    · rcases h2 with h2 | ⟨rfl, h2⟩
      · exact Or.inl (by omega)
      · exact Or.inl h1
    · rcases h2 with h2 | ⟨rfl, h2⟩
      · exact Or.inl h2
      · exact Or.inr ⟨rfl, less_trans a b c h1 h2⟩
theorem less_asymm {a b : List UInt8} (h : Op.bytesLess a b = true) : Op.bytesLess b a = false := by
  cases h2 : Op.bytesLess b a with
  | false => rfl
  | true => have := less_trans a b a h h2; rw [less_irrefl] at this; exact this.symm
theorem less_tri {a b : List UInt8} (h : Op.bytesLess a b = false) (h2 : Op.bytesLess b a = false) : a = b := by
  have := Gtr.less_total a b
  rw [h, h2] at this
  simpa using this
theorem cmpS_neg {a b : ByteArray} : cmpS a b < 0 ↔ Op.bytesLess a.toList b.toList = true := by
  unfold cmpS
  constructor
  · intro h
    by_cases h1 : Op.bytesLess a.toList b.toList = true
    · exact h1
    · rw [if_neg h1] at h; split at h <;> omega
  · intro h; rw [if_pos h]; omega
theorem cmpS_zero {a b : ByteArray} : cmpS a b = 0 ↔ a = b := by
  unfold cmpS
  constructor
  · intro h
    by_cases h1 : Op.bytesLess a.toList b.toList = true
    · rw [if_pos h1] at h; omega
    · rw [if_neg h1] at h
      by_cases h2 : Op.bytesLess b.toList a.toList = true
      · rw [if_pos h2] at h; omega
      · have := less_tri (by simpa using h1) (by simpa using h2)
        rw [ByteArray.toList_eq, ByteArray.toList_eq] at this
        exact Go.WideShapes.bytes_inj this
  · rintro rfl
    rw [less_irrefl]; rfl
theorem cmpL_refl : ∀ a : List ByteArray, cmpL a a = 0
  | [] => rfl
  | x :: a => by simp only [cmpL]; rw [if_pos (cmpS_zero.mpr rfl)]; exact cmpL_refl a
theorem cmpL_cons {a b : ByteArray} {x y : List ByteArray} : cmpL (a :: x) (b :: y) < 0 ↔ Op.bytesLess a.toList b.toList = true ∨ (a = b ∧ cmpL x y < 0) := by
  simp only [cmpL]
  by_cases h : cmpS a b = 0
  · rw [if_pos h]
    have e := cmpS_zero.mp h
    subst e
    rw [less_irrefl]; simp
  · rw [if_neg h, cmpS_neg]
    constructor
    · exact Or.inl
    · rintro (h1 | ⟨h1, _⟩)
      · exact h1
      · exact absurd (cmpS_zero.mpr h1) h
theorem cmpL_trans : ∀ a b c : List ByteArray, cmpL a b < 0 → cmpL b c < 0 → cmpL a c < 0
  | [], [], _, h, _ => by simp [cmpL] at h
  | _, _ :: _, [], _, h => by simp [cmpL] at h
  | [], _ :: _, _ :: _, _, _ => by simp [cmpL]
  | _ :: _, [], _, h, _ => by simp [cmpL] at h
  | x :: a, y :: b, z :: c, h1, h2 => by
    rw [cmpL_cons] at h1 h2 ⊢
    rcases h1 with h1 | ⟨rfl, h1⟩
    · rcases h2 with h2 | ⟨rfl, h2⟩
      · exact Or.inl (less_trans _ _ _ h1 h2)
      · exact Or.inl h1
    · rcases h2 with h2 | ⟨rfl, h2⟩
      · exact Or.inl h2
      · exact Or.inr ⟨rfl, cmpL_trans a b c h1 h2⟩
/-- What stands between a way and one that is made of it by a name more, begins with it. -/
theorem between (n : ByteArray) : ∀ P M : List ByteArray, (P = M ∨ cmpL P M < 0) → cmpL M (P ++ [n]) < 0 → M.take P.length = P ∧ P.length ≤ M.length
  | [], M, _, _ => by simp
  | a :: P, [], h, _ => by
    rcases h with h | h
    · simp at h
    · simp [cmpL] at h
  | a :: P, b :: M, h1, h2 => by
    rw [List.cons_append, cmpL_cons] at h2
    have hab : a = b ∨ Op.bytesLess a.toList b.toList = true := by
      rcases h1 with h1 | h1
      · exact Or.inl (List.cons.inj h1).1
      · rcases cmpL_cons.mp h1 with h1 | h1
        · exact Or.inr h1
        · exact Or.inl h1.1
    rcases h2 with h2 | ⟨rfl, h2⟩
    · rcases hab with rfl | hab
      · rw [less_irrefl] at h2; exact absurd h2 (by simp)
      · rw [less_asymm hab] at h2; exact absurd h2 (by simp)
    · have h3 : P = M ∨ cmpL P M < 0 := by
        rcases h1 with h1 | h1
        · exact Or.inl (List.cons.inj h1).2
        · rcases cmpL_cons.mp h1 with h1 | h1
          · rw [less_irrefl] at h1; exact absurd h1 (by simp)
          · exact Or.inr h1.2
      obtain ⟨h4, h5⟩ := between n P M h3 h2
      exact ⟨by rw [List.length_cons, List.take_succ_cons, h4], by simpa using h5⟩
theorem cmpL_snoc (n m : ByteArray) (R : List ByteArray) : ∀ P : List ByteArray, cmpL (P ++ m :: R) (P ++ [n]) < 0 ↔ Op.bytesLess m.toList n.toList = true
  | [] => by
    rw [List.nil_append, List.nil_append, cmpL_cons]
    constructor
    · rintro (h | ⟨_, h⟩)
      · exact h
      · cases R <;> simp [cmpL] at h
    · exact Or.inl
  | a :: P => by
    rw [List.cons_append, List.cons_append, cmpL_cons, cmpL_snoc n m R P]
    constructor
    · rintro (h | ⟨_, h⟩)
      · rw [less_irrefl] at h; exact absurd h (by simp)
      · exact h
    · intro h; exact Or.inr ⟨rfl, h⟩
theorem cmpL_more (n : ByteArray) : ∀ P : List ByteArray, cmpL P (P ++ [n]) < 0
  | [] => by simp [cmpL]
  | a :: P => by rw [List.cons_append, cmpL_cons]; exact Or.inr ⟨rfl, cmpL_more n P⟩
/-- The names of the i-th item. -/
def nmA (l : List It) (i : Nat) : List ByteArray := namesW (itAt l i).f0
def dirI (l : List It) (i : Nat) : Bool := (itAt l i).f1 == 2
/-- The first k items are as the program asks, the first a directory. -/
structure Pre (l : List It) (k : Nat) : Prop where
  root : (itAt l 0).f0.toList = [46]
  rdir : dirI l 0 = true
  ok : ∀ i, i < k → namesOk (itAt l i).f0 = true
  dir : ∀ i, 0 < i → i < k → dirAt l i (aboveB (itAt l i).f0).toList = true
  lt : ∀ i, i + 1 < k → cmpL (nmA l i) (nmA l (i + 1)) < 0
theorem dirAt_ex (l : List It) (s : List UInt8) : ∀ k, dirAt l k s = true → ∃ j, j < k ∧ (itAt l j).f0.toList = s ∧ dirI l j = true
  | 0, h => by simp [dirAt] at h
  | k + 1, h => by
    simp only [dirAt] at h
    by_cases e : (itAt l k).f0.toList = s
    · rw [if_pos e] at h; exact ⟨k, by omega, e, h⟩
    · rw [if_neg e] at h
      obtain ⟨j, h1, h2⟩ := dirAt_ex l s k h
      exact ⟨j, by omega, h2⟩
theorem dirAt_of (l : List It) (s : List UInt8) (j : Nat) (hd : dirI l j = true) (hs : (itAt l j).f0.toList = s) : ∀ k, j < k → (∀ i, i < k → (itAt l i).f0.toList = s → i = j) → dirAt l k s = true
  | 0, h, _ => absurd h (by omega)
  | k + 1, h, hu => by
    simp only [dirAt]
    by_cases e : (itAt l k).f0.toList = s
    · rw [if_pos e]
      have := hu k (by omega) e
      subst this
      exact hd
    · rw [if_neg e]
      have hjk : j ≠ k := fun ej => e (ej ▸ hs)
      exact dirAt_of l s j hd hs k (by omega) (fun i hi => hu i (by omega))
namespace Pre
variable {l : List It} {k : Nat}
theorem names (h : Pre l k) {i : Nat} (hi : i < k) : ∀ p ∈ nmA l i, nameOkB p = true := by
  have := h.ok i hi
  rw [namesOk_eq, List.all_eq_true] at this
  exact this
theorem lts (h : Pre l k) : ∀ d i, i + d + 1 < k → cmpL (nmA l i) (nmA l (i + d + 1)) < 0
  | 0, i, hi => h.lt i hi
  | d + 1, i, hi => cmpL_trans _ _ _ (lts h d i (by omega)) (h.lt (i + d + 1) (by omega))
theorem less (h : Pre l k) {i j : Nat} (hij : i < j) (hj : j < k) : cmpL (nmA l i) (nmA l j) < 0 := by
  have := lts h (j - i - 1) i (by omega)
  rwa [show i + (j - i - 1) + 1 = j by omega] at this
theorem one (h : Pre l k) {i j : Nat} (hi : i < k) (hj : j < k) (e : nmA l i = nmA l j) : i = j := by
  rcases Nat.lt_trichotomy i j with h1 | h1 | h1
  · have := h.less h1 hj; rw [e, cmpL_refl] at this; omega
  · exact h1
  · have := h.less h1 hi; rw [e, cmpL_refl] at this; omega
theorem zero (h : Pre l k) : nmA l 0 = [] := namesW_nil.mpr h.root
theorem ne (h : Pre l k) {i : Nat} (h0 : 0 < i) (hi : i < k) : nmA l i ≠ [] := by
  intro e
  have := h.one (i := 0) (j := i) (by omega) hi (by rw [h.zero, e])
  omega
/-- Who is told of as a directory by a way's text. -/
theorem told (h : Pre l k) {K : Nat} (hK : K ≤ k) {s : ByteArray} {P : List ByteArray} {n : ByteArray} (hn : nameOkB n = true) (hP : ∀ p ∈ P, nameOkB p = true) (hs : namesW s = P ++ [n]) (hd : dirAt l K (aboveB s).toList = true) :
    ∃ j, j < K ∧ nmA l j = P ∧ dirI l j = true := by
  obtain ⟨j, hj, e, hdj⟩ := dirAt_ex l _ K hd
  refine ⟨j, hj, ?_, hdj⟩
  refine names_way hP ?_
  rw [← (above_way hs hn).1, ← ByteArray.toList_eq, ← ByteArray.toList_eq, e]
theorem snoc (h : Pre l k) {i : Nat} (h0 : 0 < i) (hi : i < k) : ∃ P n, nmA l i = P ++ [n] ∧ nameOkB n = true ∧ (∀ p ∈ P, nameOkB p = true) := by
  have hne := h.ne h0 hi
  have hnm := h.names hi
  refine ⟨(nmA l i).dropLast, (nmA l i).getLast hne, (List.dropLast_concat_getLast hne).symm, hnm _ (List.getLast_mem hne), fun p hp => hnm p (List.dropLast_subset _ hp)⟩
/-- Where a way ends up among those that are open. -/
theorem fits' (h : Pre l k) {K : Nat} (hK : K + 1 ≤ k) {P : List ByteArray} {n : ByteArray} {j : Nat} (hj : j ≤ K) (e : nmA l j = P) (hd : dirI l j = true) (hc : cmpL (nmA l K) (P ++ [n]) < 0) :
    (nmA l K).take P.length = P ∧ P.length < (nmA l K).length + (if dirI l K = true then 1 else 0) := by
  by_cases hjK : j = K
  · subst hjK
    rw [e, hd]
    exact ⟨List.take_length, by simp⟩
  · have hl := h.less (show j < K by omega) (by omega)
    rw [e] at hl
    obtain ⟨h1, h2⟩ := between n P _ (Or.inr hl) hc
    refine ⟨h1, ?_⟩
    have : P.length ≠ (nmA l K).length := by
      intro e2
      rw [e2, List.take_length] at h1
      rw [h1, cmpL_refl] at hl
      omega
    omega
theorem closed (h : Pre l k) : ∀ i, i < k → ∀ p, p < (nmA l i).length → ∃ j, j < i ∧ nmA l j = (nmA l i).take p ∧ dirI l j = true := by
  intro i
  induction i using Nat.strongRecOn with
  | _ i ih =>
    intro hi p hp
    by_cases h0 : i = 0
    · subst h0; rw [h.zero] at hp; simp at hp
    · obtain ⟨P, n, e, hn, hP⟩ := h.snoc (show 0 < i by omega) hi
      obtain ⟨j, hj, ej, hdj⟩ := h.told (show i ≤ k by omega) hn hP e (h.dir i (by omega) hi)
      have hlen : (nmA l i).length = P.length + 1 := by rw [e]; simp
      by_cases hpP : p = P.length
      · exact ⟨j, hj, by rw [ej, e, hpP]; simp, hdj⟩
      · obtain ⟨j', hj', e', hd'⟩ := ih j hj (by omega) p (by rw [ej]; omega)
        refine ⟨j', by omega, ?_, hd'⟩
        rw [e', ej, e, List.take_append_of_le_length (by omega)]
end Pre
/-- What the reference asks of a way behind others. -/
def nextB (M : List ByteArray) (d : Bool) (P : List ByteArray) (n : ByteArray) : Bool :=
  decide (M.take P.length = P ∧ P.length < M.length + (if d = true then 1 else 0)) && Op.bytesLess ((M ++ [(⟨#[]⟩ : ByteArray)]).getD P.length ⟨#[]⟩).toList n.toList
theorem next_eq {l : List It} {K : Nat} (h : Pre l (K + 1)) {s : ByteArray} {P : List ByteArray} {n : ByteArray} (hn : nameOkB n = true) (hP : ∀ p ∈ P, nameOkB p = true) (hs : namesW s = P ++ [n]) :
    nextB (nmA l K) (dirI l K) P n = (dirAt l (K + 1) (aboveB s).toList && decide (cmpL (nmA l K) (P ++ [n]) < 0)) := by
  have hless : (nmA l K).take P.length = P → P.length < (nmA l K).length + (if dirI l K = true then 1 else 0) →
      (Op.bytesLess ((nmA l K ++ [(⟨#[]⟩ : ByteArray)]).getD P.length ⟨#[]⟩).toList n.toList = true ↔ cmpL (nmA l K) (P ++ [n]) < 0) := by
    intro h1 h2
    by_cases hlt : P.length < (nmA l K).length
    · have e : nmA l K = P ++ (nmA l K)[P.length] :: (nmA l K).drop (P.length + 1) := by
        conv => lhs; rw [← List.take_append_drop P.length (nmA l K), h1, List.drop_eq_getElem_cons hlt]
      have e2 : (nmA l K ++ [(⟨#[]⟩ : ByteArray)]).getD P.length ⟨#[]⟩ = (nmA l K)[P.length] := by
        rw [List.getD_eq_getElem?_getD, List.getElem?_append_left hlt, List.getElem?_eq_getElem hlt]; rfl
      rw [e2]
      conv => rhs; rw [e]
      exact (cmpL_snoc n _ _ P).symm
    · have hP2 : nmA l K = P := by rw [List.take_of_length_le (by omega)] at h1; exact h1
      rw [hP2]
      have e2 : (P ++ [(⟨#[]⟩ : ByteArray)]).getD P.length ⟨#[]⟩ = ⟨#[]⟩ := by simp
      rw [e2]
      constructor
      · intro _; exact cmpL_more n P
      · intro _
        have := name_ne hn
        rw [← ByteArray.toList_eq] at this
        have e3 : (⟨#[]⟩ : ByteArray).toList = [] := by rw [ByteArray.toList_eq]
        rw [e3]
        cases hx : n.toList with
        | nil => exact absurd hx this
        | cons => rfl
  rw [Bool.eq_iff_iff]
  unfold nextB
  simp only [Bool.and_eq_true, decide_eq_true_eq]
  constructor
  · rintro ⟨⟨h1, h2⟩, h3⟩
    have hc := (hless h1 h2).mp h3
    refine ⟨?_, hc⟩
    have : ∃ j, j < K + 1 ∧ nmA l j = P ∧ dirI l j = true := by
      by_cases hlt : P.length < (nmA l K).length
      · obtain ⟨j, hj, e, hd⟩ := h.closed K (by omega) P.length hlt
        exact ⟨j, by omega, by rw [e, h1], hd⟩
      · refine ⟨K, by omega, ?_, ?_⟩
        · rw [List.take_of_length_le (by omega)] at h1; exact h1
        · by_cases hd : dirI l K = true
          · exact hd
          · rw [if_neg hd] at h2; omega
    obtain ⟨j, hj, e, hd⟩ := this
    have hw : ∀ i, i < K + 1 → ((itAt l i).f0.toList = (aboveB s).toList ↔ nmA l i = P) := by
      intro i hi
      rw [ByteArray.toList_eq, ByteArray.toList_eq, (above_way hs hn).1]
      constructor
      · intro e; exact names_way hP e
      · intro e; rw [← e]; exact (way_names _).symm
    exact dirAt_of l _ j hd ((hw j hj).mpr e) (K + 1) hj (fun i hi ei => h.one hi hj (by rw [(hw i hi).mp ei, e]))
  · rintro ⟨h1, hc⟩
    obtain ⟨j, hj, e, hd⟩ := h.told (Nat.le_refl _) hn hP hs h1
    obtain ⟨h2, h3⟩ := h.fits' (Nat.le_refl _) (show j ≤ K by omega) e hd hc
    exact ⟨⟨h2, h3⟩, (hless h2 h3).mpr hc⟩

end Go.Proofs.YtibfocaldcjiiaaDoor.Q
