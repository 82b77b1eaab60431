/- Texts of this claim, merged by a program (wip/tools/merge.py): HPathsEv, HGoodItem, HGoodDef, HAbove, HGoodItems, HAlone. -/
import Derived.Test.YthhmkbchdiflcaaGreatDoorR1
import Derived.Test.YthhmkbchdiflcaaGreatDoorR10
import Derived.Test.YthhmkbchdiflcaaGreatDoorR11
import Derived.Test.YthhmkbchdiflcaaGreatDoorR7
import Derived.Test.YthhmkbchdiflcaaGreatDoorR12
import Derived.Test.YthhmkbchdiflcaaGreatDoorR13
import Derived.Maps.OwnOps
import Derived.Maps.Views
import Derived.StillTailTactics
import Derived.Deep.QuietTactic
import Derived.BigQuiet
import Derived.Test.YthhmkbchdiflcaaGreatDoorR5
/- The reference's names, parts and paths come to the program's. -/
namespace Go.Proofs.YthhmkbchdiflcaaGreatDoor.Q
open Go.RowKit Go.Proofs.YthhmkbchdiflcaaGreatDoorW.PrintWords Go.Proofs.YthhmkbchdiflcaaGreatDoorW.PrintLast Go.Proofs.YthhmkbchdiflcaaGreatDoorW.PrintMore
attribute [local go_sem] max2_int min2_int max_two min_two max_three min_three max_four min_four   -- for this text's walks alone
set_option linter.unusedVariables false
set_option linter.unusedSimpArgs false

theorem nameB_iff (c : Int) : nameB c = true ↔ (97 ≤ c ∧ c ≤ 122) ∨ (48 ≤ c ∧ c ≤ 57) ∨ c = 46 ∨ c = 95 ∨ c = 45 := by
  unfold nameB; simp
theorem name_step {α : Type} (c : Int) (X F : α) :
    (if c < 97 then (if c < 48 then (if c = 46 then X else (if c = 95 then X else (if c = 45 then X else F))) else (if c > 57 then (if c = 46 then X else (if c = 95 then X else (if c = 45 then X else F))) else X)) else (if c > 122 then (if c < 48 then (if c = 46 then X else (if c = 95 then X else (if c = 45 then X else F))) else (if c > 57 then (if c = 46 then X else (if c = 95 then X else (if c = 45 then X else F))) else X)) else X)) = if nameB c = true then X else F := by
  by_cases h : nameB c = true
  · rw [if_pos h]
    have := (nameB_iff c).mp h
    repeat' split
    all_goals first | rfl | omega
  · rw [if_neg h]
    have := fun q => h ((nameB_iff c).mpr q)
    repeat' split
    all_goals first | rfl | (exfalso; apply this; omega)
theorem l1In_f (n lo hi : Int) : spec_l1In.f n lo hi = some (inB lo hi n) := by
  unfold spec_l1In.f inB
  by_cases h : n ≥ lo
  · rw [if_pos h]; have : lo ≤ n := h; simp [this]
  · rw [if_neg h]; have : ¬ lo ≤ n := h; simp [this]
/-- What the reference's loop over the bytes from place i on ends in. -/
def nameEnd (s : ByteArray) : Bool := inB 1 8 s.size && !(s.toList == [46] || s.toList == [46, 46])
theorem l2Name_loop (s : ByteArray) (hs : s.size < 4294967281) (d : Nat) : ∀ i : Nat, i + d = s.size → Ev (fun k => spec_l2Name.l0 k s (i : Int)) (((bytesOf s).drop i).all nameB && nameEnd s) := by
  induction d with
  | zero =>
    intro i hi
    refine Ev.step (f := fun _ => some (nameEnd s)) (fun k => ?_) ?_
    · simp only [spec_l2Name.l0]
      rw [if_neg (by omega), l1In_f]
      unfold nameEnd
      simp only [Option.bind_some]
      cases inB 1 8 s.size
      · rfl
      · by_cases h1 : s.toList = [46]
        · simp [h1]
        · have e1 : (s.toList == [46]) = false := by simpa using h1
          rw [if_pos rfl, if_neg h1, e1]
          simp [bne]
    · rw [List.drop_of_length_le (by rw [bytesOf_length]; omega)]
      simpa using Ev.now (nameEnd s)
  | succ d ih =>
    intro i hi
    have hlt : i < s.size := by omega
    have hw := step_n (i := i) (n := s.size) hlt (by omega)
    have e : ∀ k, spec_l2Name.l0 (k + 1) s (i : Int) = if nameB (bt s i) = true then spec_l2Name.l0 k s ((i + 1 : Nat) : Int) else some false := fun k => by
      simp only [spec_l2Name.l0]
      rw [if_pos (by omega), if_pos (by omega), hw, name_step]
    have hdrop : (bytesOf s).drop i = bt s i :: (bytesOf s).drop (i + 1) := by
      rw [List.drop_eq_getElem_cons (by rw [bytesOf_length]; exact hlt)]
      congr 1
      have := rd_bytesOf s (i : Int)
      rw [← this]
      simp [rd, rdOf, List.getD, bytesOf_length, hlt]
    rw [hdrop, List.all_cons]
    by_cases hn : nameB (bt s i) = true
    · rw [hn, Bool.true_and]
      exact Ev.step (fun k => by rw [e k, if_pos hn]) (ih (i + 1) (by omega))
    · have hn' : nameB (bt s i) = false := by simpa using hn
      rw [hn', Bool.false_and, Bool.false_and]
      exact Ev.step (f := fun _ => some false) (fun k => by rw [e k, if_neg hn]) (Ev.now _)
theorem inB_nat (lo hi : Nat) (n : Nat) : inB lo hi n = (decide (lo ≤ n) && decide (n ≤ hi)) := by
  unfold inB; simp
theorem nameOk_eq (s : ByteArray) : ((bytesOf s).all nameB && nameEnd s) = nameOkB s := by
  unfold nameOkB partB nameEnd
  rw [show inB 1 8 (s.size : Int) = (decide (1 ≤ s.size) && decide (s.size ≤ 8)) from inB_nat 1 8 s.size]
  have : (bytesOf s).all nameB = !(bytesOf s).any (fun b => !nameB b) := by
    rw [List.all_eq_not_any_not]
  rw [this]
  cases (bytesOf s).any (fun b => !nameB b) <;> cases decide (1 ≤ s.size) <;> cases decide (s.size ≤ 8) <;> simp
theorem l2Name_ev (s : ByteArray) (hs : s.size < 4294967281) : Ev (fun k => spec_l2Name.f k s) (nameOkB s) := by
  rw [← nameOk_eq]
  have h := l2Name_loop s hs s.size 0 (by omega)
  rw [List.drop_zero] at h
  exact h
theorem rdS (xs : List ByteArray) (i : Nat) (h : i < xs.length) : rdOf ByteArray.empty xs (i : Int) = xs[i] := by
  simp [rdOf, List.getD, h]
theorem l2Parts_loop (l : List ByteArray) (hl : l.length ≤ 4294967282) (d : Nat) : ∀ (i : Nat) (out : List ByteArray), i + d = l.length → out.length ≤ i →
    Ev (fun k => spec_l2Parts.l0 k out l (l.length : Int) (i : Int)) (out ++ (l.drop i).filter fun p => !nilB p) := by
  induction d with
  | zero =>
    intro i out hi ho
    refine Ev.step (f := fun _ => some out) (fun k => ?_) ?_
    · simp only [spec_l2Parts.l0]; rw [if_neg (by omega)]
    · rw [List.drop_of_length_le (by omega)]; simpa using Ev.now out
  | succ d ih =>
    intro i out hi ho
    have hlt : i < l.length := by omega
    have hw := step_n (i := i) (n := l.length) hlt (by omega)
    rw [List.drop_eq_getElem_cons hlt, List.filter_cons]
    by_cases hc : l[i].toList = []
    · have hn : nilB l[i] = true := by rw [← nilB_eq]; simpa using hc
      rw [hn, Bool.not_true, if_neg (by simp)]
      refine Ev.step (f := fun k => spec_l2Parts.l0 k out l (l.length : Int) ((i + 1 : Nat) : Int)) (fun k => ?_) (ih (i + 1) out (by omega) (by omega))
      simp only [spec_l2Parts.l0]
      rw [if_pos (by omega), if_pos (by omega), if_pos (by omega), rdS _ _ hlt, if_pos hc, hw]
    · have hn : nilB l[i] = false := by rw [← nilB_eq]; simpa using hc
      rw [hn, Bool.not_false, if_pos rfl]
      have h2 := ih (i + 1) (out ++ [l[i]]) (by omega) (by simp; omega)
      refine Ev.step (f := fun k => spec_l2Parts.l0 k (out ++ [l[i]]) l (l.length : Int) ((i + 1 : Nat) : Int)) (fun k => ?_) (by simpa using h2)
      simp only [spec_l2Parts.l0]
      rw [if_pos (by omega), if_pos (by omega), if_pos (by omega), rdS _ _ hlt, if_neg hc, if_pos (by omega), hw]
theorem slash_len (s : ByteArray) (hs : s.size < 4294967281) : (slashL s).length ≤ 4294967282 := by
  unfold slashL
  rw [← show segs s 47 s.size 0 0 = _ from segs_split s 47]
  have := segs_len s 47 s.size 0 0
  omega
theorem l2Parts_ev (s : ByteArray) (hs : s.size < 4294967281) : Ev (fun k => spec_l2Parts.f k s) (partsL s) := by
  refine Ev.bind (slash_ev s hs) ?_
  have := l2Parts_loop (slashL s) (slash_len s hs) (slashL s).length 0 [] (by omega) (by simp)
  simpa [partsL] using this
theorem parts_mem_size (s : ByteArray) : ∀ p ∈ partsL s, p.size ≤ s.size := by
  intro p hp
  have hm : p ∈ slashL s := (List.mem_filter.mp hp).1
  unfold slashL at hm
  rw [← show segs s 47 s.size 0 0 = _ from segs_split s 47] at hm
  have key : ∀ d fr i, i ≤ s.size → ∀ p ∈ segs s 47 d fr i, p.size ≤ s.size := by
    intro d
    induction d with
    | zero => intro fr i hi p hp; simp only [segs, List.mem_singleton] at hp; subst hp; simp
    | succ d ih =>
      intro fr i hi p hp
      simp only [segs] at hp
      by_cases hi2 : i < s.size
      · split at hp
        · rcases List.mem_cons.mp hp with rfl | h
          · simp; omega
          · exact ih _ _ (by omega) p h
        · exact ih _ _ (by omega) p hp
      · have hb : bt s i = 0 := by unfold bt; rw [dif_neg (by simpa using hi2)]
        rw [if_neg (by rw [hb]; decide)] at hp
        have : ∀ d fr j, s.size ≤ j → ∀ p ∈ segs s 47 d fr j, p.size ≤ s.size := by
          intro d
          induction d with
          | zero => intro fr j hj p hp; simp only [segs, List.mem_singleton] at hp; subst hp; simp
          | succ d ih =>
            intro fr j hj p hp
            simp only [segs] at hp
            have hb : bt s j = 0 := by unfold bt; rw [dif_neg (by simp; omega)]
            rw [if_neg (by rw [hb]; decide)] at hp
            exact ih _ _ (by omega) p hp
        exact this d fr (i + 1) (by omega) p hp
  exact key _ _ _ (by omega) p hm
/-- A part is a name, or dots. -/
def dotsOr (p : ByteArray) : Bool := nameOkB p || (p.toList == [46] || p.toList == [46, 46])
theorem part_of_dots {p : ByteArray} (h : p.toList = [46] ∨ p.toList = [46, 46]) : partB p = true := by
  have hd : p.data.toList = p.toList := (ByteArray.toList_eq p).symm
  have hsz : p.size = p.toList.length := by rw [← hd, data_length]
  unfold partB bytesOf
  rw [hd]
  rcases h with h | h <;> rw [hsz, h] <;> decide
theorem dotsOr_eq (p : ByteArray) : dotsOr p = partB p := by
  unfold dotsOr nameOkB
  by_cases h1 : p.toList = [46]
  · rw [part_of_dots (.inl h1)]; simp [h1]
  · by_cases h2 : p.toList = [46, 46]
    · rw [part_of_dots (.inr h2)]; simp [h2]
    · have e1 : (p.toList == [46]) = false := by simpa using h1
      have e2 : (p.toList == [46, 46]) = false := by simpa using h2
      rw [e1, e2]
      simp
theorem l2Path_loop (s : ByteArray) (l : List ByteArray) (hl : l.length ≤ 4294967282) (hm : ∀ p ∈ l, p.size < 4294967281) (d : Nat) : ∀ i : Nat, i + d = l.length →
    Ev (fun k => spec_l2Path.l0 k s l (l.length : Int) (i : Int)) ((l.drop i).all partB && inB 1 60 s.size) := by
  induction d with
  | zero =>
    intro i hi
    refine Ev.step (f := fun _ => some (inB 1 60 s.size)) (fun k => ?_) ?_
    · simp only [spec_l2Path.l0]; rw [if_neg (by omega), l1In_f]; rfl
    · rw [List.drop_of_length_le (by omega)]; simpa using Ev.now (inB 1 60 s.size)
  | succ d ih =>
    intro i hi
    have hlt : i < l.length := by omega
    have hw := step_n (i := i) (n := l.length) hlt (by omega)
    rw [List.drop_eq_getElem_cons hlt, List.all_cons, ← dotsOr_eq]
    refine Ev.step (f := fun k => (spec_l2Name.f k l[i]).bind fun t122 => (if t122 = true then (spec_l2Path.l0 k s l (l.length : Int) ((i + 1 : Nat) : Int)) else (if l[i].toList = ([46] : List UInt8) then (spec_l2Path.l0 k s l (l.length : Int) ((i + 1 : Nat) : Int)) else (if l[i].toList = ([46, 46] : List UInt8) then (spec_l2Path.l0 k s l (l.length : Int) ((i + 1 : Nat) : Int)) else (some false))))) (fun k => ?_) ?_
    · simp only [spec_l2Path.l0]
      rw [if_pos (by omega), if_pos (by omega), if_pos (by omega), rdS _ _ hlt, hw]
    · refine Ev.bind (l2Name_ev l[i] (hm _ (List.getElem_mem hlt))) ?_
      unfold dotsOr
      cases nameOkB l[i]
      · by_cases h1 : l[i].toList = [46]
        · simp only [h1, if_true, Bool.false_eq_true, if_false]
          simpa using ih (i + 1) (by omega)
        · by_cases h2 : l[i].toList = [46, 46]
          · simp only [h2, if_true, Bool.false_eq_true, if_false]
            simpa using ih (i + 1) (by omega)
          · simp only [h1, h2, Bool.false_eq_true, if_false]
            have e1 : (l[i].toList == [46]) = false := by simpa using h1
            have e2 : (l[i].toList == [46, 46]) = false := by simpa using h2
            rw [e1, e2]
            exact Ev.now _
      · simp only [if_true, Bool.true_or, Bool.true_and]
        exact ih (i + 1) (by omega)
theorem l2Path_ev (s : ByteArray) (hs : s.size < 4294967281) : Ev (fun k => spec_l2Path.f k s) (goodPathB s) := by
  refine Ev.bind (l2Parts_ev s hs) ?_
  have h := l2Path_loop s (partsL s) (Nat.le_trans (List.length_filter_le _ _) (slash_len s hs)) (fun p hp => by have := parts_mem_size s p hp; omega) (partsL s).length 0 (by omega)
  have e : ((partsL s).all partB && inB 1 60 s.size) = goodPathB s := by
    unfold goodPathB longB nilB
    rw [show inB 1 60 (s.size : Int) = (decide (1 ≤ s.size) && decide (s.size ≤ 60)) from inB_nat 1 60 s.size]
    have : (partsL s).all partB = !(partsL s).any (fun b => !partB b) := by rw [List.all_eq_not_any_not]
    rw [this]
    have h0 : decide (1 ≤ s.size) = !decide (s.size = 0) := by
      by_cases hz : s.size = 0 <;> simp [hz]
      omega
    rw [h0]
    cases (partsL s).any (fun b => !partB b) <;> cases decide (s.size = 0) <;> cases decide (s.size ≤ 60) <;> rfl
  rw [← e]
  simpa using h

end Go.Proofs.YthhmkbchdiflcaaGreatDoor.Q

/- impl.isGoodItem: whether an item is right behind those ahead of it. -/
namespace Go.Proofs.YthhmkbchdiflcaaGreatDoor.Q
open Go.RowKit Go.Proofs.YthhmkbchdiflcaaGreatDoorW.PrintWords Go.Proofs.YthhmkbchdiflcaaGreatDoorW.PrintLast Go.Proofs.YthhmkbchdiflcaaGreatDoorW.PrintMore
attribute [local go_sem] max2_int min2_int max_two min_two max_three min_three max_four min_four   -- for this text's walks alone
set_option linter.unusedVariables false
set_option linter.unusedSimpArgs false

abbrev It := S74
/-- The i-th item, of no items a bare one. -/
def itAt (l : List It) (i : Nat) : It := rd_T74 l (i : Int)
def zerosB (x : It) : Bool := x.f2 == 0 && (x.f3 == 0 && (x.f4 == 0 && (x.f5 == 0 && nilB x.f7)))
def goodItemB (l : List It) (i : Nat) : Bool :=
  if (itAt l i).f6 = i then inB 1 3 (itAt l i).f1 && bareB (itAt l i).f1 (itAt l i).f2 (itAt l i).f3 (itAt l i).f4 (itAt l i).f5 (itAt l i).f7
  else inB 0 ((i : Int) - 1) (itAt l i).f6 && (zerosB (itAt l i) &&
    ((itAt l (itAt l i).f6.toNat).f1 == (itAt l i).f1 && ((itAt l (itAt l i).f6.toNat).f1 != 2 && (itAt l (itAt l i).f6.toNat).f6 == (itAt l i).f6)))
def impl_isGoodItem.f (l : List It) (i : Int) : Option Bool := if 0 ≤ i ∧ i < l.length ∧ l.length ≤ 1000 then some (goodItemB l i.toNat) else none
theorem itemEq (d : Nat) (w : World) (x0 y0 : ByteArray) (x1 y1 : Int) (x2 y2 : Int) (x3 y3 : Int) (x4 y4 : Int) (x5 y5 : Int) (x6 y6 : Int) (x7 y7 : ByteArray) :
    (Op.equalIn (d + 2) 74 (.agg #[.string x0, .int .i64 x1, .int .i64 x2, .int .i64 x3, .int .i64 x4, .int .i64 x5, .int .i64 x6, .string x7]) (.agg #[.string y0, .int .i64 y1, .int .i64 y2, .int .i64 y3, .int .i64 y4, .int .i64 y5, .int .i64 y6, .string y7])).run Tryz.prog w = .ok (x0.toList == y0.toList && (x1 == y1 && (x2 == y2 && (x3 == y3 && (x4 == y4 && (x5 == y5 && (x6 == y6 && (x7.toList == y7.toList)))))))) w := by
  refine eqA_of Tryz.underlying74 (by kernel_rfl) ?_
  refine eqf_cons (by rfl) (by go_simp; rfl) (by go_simp; rfl) (by go_simp) ?_
  refine eqf_cons (by rfl) (by go_simp; rfl) (by go_simp; rfl) (by go_simp) ?_
  refine eqf_cons (by rfl) (by go_simp; rfl) (by go_simp; rfl) (by go_simp) ?_
  refine eqf_cons (by rfl) (by go_simp; rfl) (by go_simp; rfl) (by go_simp) ?_
  refine eqf_cons (by rfl) (by go_simp; rfl) (by go_simp; rfl) (by go_simp) ?_
  refine eqf_cons (by rfl) (by go_simp; rfl) (by go_simp; rfl) (by go_simp) ?_
  refine eqf_cons (by rfl) (by go_simp; rfl) (by go_simp; rfl) (by go_simp) ?_
  exact eqf_last (by rfl) (by go_simp; rfl) (by go_simp; rfl) (by go_simp)
attribute [local go_sem high] itemEq
/-- The eight cells of an item. -/
structure Cells (w : World) (a : Addr) (x : It) : Prop where
  h0 : w.cell? a = some (.string x.f0)
  h1 : w.cell? ⟨a.block, a.off + 1, none⟩ = some (.int .i64 x.f1)
  h2 : w.cell? ⟨a.block, a.off + 2, none⟩ = some (.int .i64 x.f2)
  h3 : w.cell? ⟨a.block, a.off + 3, none⟩ = some (.int .i64 x.f3)
  h4 : w.cell? ⟨a.block, a.off + 4, none⟩ = some (.int .i64 x.f4)
  h5 : w.cell? ⟨a.block, a.off + 5, none⟩ = some (.int .i64 x.f5)
  h6 : w.cell? ⟨a.block, a.off + 6, none⟩ = some (.int .i64 x.f6)
  h7 : w.cell? ⟨a.block, a.off + 7, none⟩ = some (.string x.f7)
set_option maxHeartbeats 4000000 in
set_option maxRecDepth 100000 in
theorem isGood_own (w : World) (ad : Addr) (i j c0 n : Nat) (hi : i < n) (x y : It) (r : Bool)
    (cx : Cells w (ad.add (i * 8)) x) (hs : x.f6 = (i : Int)) (hr : r = (inB 1 3 x.f1 && bareB x.f1 x.f2 x.f3 x.f4 x.f5 x.f7)) :
    Calls Tryz.prog 97 #[.slice (some ad) n c0, .int .i64 (i : Int)] w fun e w' => e = .returned (.bool r) ∧ Below w.heap.size w w' := by
  have hu1 := Tryz.underlying74
  have hu2 := Tryz.underlying26
  have HI := Aside0.mk (fun W => impl_isItem.calls x.f0 x.f1 x.f2 x.f3 x.f4 x.f5 x.f6 x.f7 r W (by rw [hr]; rfl))
  obtain ⟨x0, x1, x2, x3, x4, x5, x6, x7⟩ := x
  obtain ⟨hx0, hx1, hx2, hx3, hx4, hx5, hx6, hx7⟩ := cx
  simp only at hx0 hx1 hx2 hx3 hx4 hx5 hx6 hx7
  have p1 : ((0 : Int) ≤ (i : Int)) = True := eq_true (by omega)
  have p2 : ((i : Int) < (n : Int)) = True := eq_true (by omega)
  simp only at hs HI
  subst hs
  clear hr hi
  go_enter Tryz.func97, Tryz.ntmps97
  go_wp2_with fail
  refine (HI.out _).mono ?_; rintro e w1 ⟨rfl, hd⟩
  go_wp2
  go_ret
  exact ⟨by first | rfl | (simp; done) | (simp [*]; done), below_step (by repeat (first | exact Below.refl _ _ | apply below_alloc | apply pw_below_drewN | apply below_drew1)) hd⟩
set_option maxHeartbeats 4000000 in
set_option maxRecDepth 100000 in
theorem isGood_out (w : World) (ad : Addr) (i j c0 n : Nat) (hi : i < n) (x y : It) 
    (cx : Cells w (ad.add (i * 8)) x) (hn : n ≤ 1000) (hs : x.f6 ≠ (i : Int)) (hw : inB 0 ((i : Int) - 1) x.f6 = false) :
    Calls Tryz.prog 97 #[.slice (some ad) n c0, .int .i64 (i : Int)] w fun e w' => e = .returned (.bool false) ∧ Below w.heap.size w w' := by
  have hu1 := Tryz.underlying74
  have hu2 := Tryz.underlying26
  have HW := Aside0.mk (fun W => impl_within.calls x.f6 0 ((i : Int) - 1) _ W (within_f x.f6 0 ((i : Int) - 1)))
  rw [hw] at HW
  have hwr : wrap64 ((i : Int) - 1) = (i : Int) - 1 := by unfold wrap64; omega

  obtain ⟨x0, x1, x2, x3, x4, x5, x6, x7⟩ := x
  obtain ⟨hx0, hx1, hx2, hx3, hx4, hx5, hx6, hx7⟩ := cx
  simp only at hx0 hx1 hx2 hx3 hx4 hx5 hx6 hx7
  have p1 : ((0 : Int) ≤ (i : Int)) = True := eq_true (by omega)
  have p2 : ((i : Int) < (n : Int)) = True := eq_true (by omega)
  simp only at hs HW
  have hs1 : (x6 == (i : Int)) = false := beq_eq_false_iff_ne.mpr hs
  clear hi hn hw
  go_enter Tryz.func97, Tryz.ntmps97
  go_wp2_with fail
  refine (HW.out _).mono ?_; rintro e w1 ⟨rfl, ⟨n1, rfl⟩⟩
  go_wp2
  go_ret
  exact ⟨by first | rfl | (simp; done) | (simp [*]; done), by repeat (first | exact Below.refl _ _ | apply below_alloc | apply pw_below_drewN | apply below_drew1)⟩
set_option maxHeartbeats 4000000 in
set_option maxRecDepth 100000 in
theorem isGood_nz (w : World) (ad : Addr) (i j c0 n : Nat) (hi : i < n) (x y : It) 
    (cx : Cells w (ad.add (i * 8)) x) (hn : n ≤ 1000) (hs : x.f6 ≠ (i : Int)) (hw : inB 0 ((i : Int) - 1) x.f6 = true) (hz : zerosB x = false) :
    Calls Tryz.prog 97 #[.slice (some ad) n c0, .int .i64 (i : Int)] w fun e w' => e = .returned (.bool false) ∧ Below w.heap.size w w' := by
  have hu1 := Tryz.underlying74
  have hu2 := Tryz.underlying26
  have HW := Aside0.mk (fun W => impl_within.calls x.f6 0 ((i : Int) - 1) _ W (within_f x.f6 0 ((i : Int) - 1)))
  rw [hw] at HW
  have hwr : wrap64 ((i : Int) - 1) = (i : Int) - 1 := by unfold wrap64; omega
  have hz1 : (!(x.f2 == 0) || (!(x.f3 == 0) || (!(x.f4 == 0) || (!(x.f5 == 0) || !x.f7.toList.isEmpty)))) = true := by
    rw [show (!(x.f2 == 0) || (!(x.f3 == 0) || (!(x.f4 == 0) || (!(x.f5 == 0) || !x.f7.toList.isEmpty)))) = !zerosB x by unfold zerosB; rw [← nilB_eq, show (x.f7.toList == []) = x.f7.toList.isEmpty by cases x.f7.toList <;> rfl]; simp only [Bool.not_and], hz]; rfl

  obtain ⟨x0, x1, x2, x3, x4, x5, x6, x7⟩ := x
  obtain ⟨hx0, hx1, hx2, hx3, hx4, hx5, hx6, hx7⟩ := cx
  simp only at hx0 hx1 hx2 hx3 hx4 hx5 hx6 hx7
  have p1 : ((0 : Int) ≤ (i : Int)) = True := eq_true (by omega)
  have p2 : ((i : Int) < (n : Int)) = True := eq_true (by omega)
  simp only at hs HW hz1
  have hs1 : (x6 == (i : Int)) = false := beq_eq_false_iff_ne.mpr hs
  clear hi hn hw hz
  go_enter Tryz.func97, Tryz.ntmps97
  go_wp2_with fail
  refine (HW.out _).mono ?_; rintro e w1 ⟨rfl, ⟨n1, rfl⟩⟩
  go_wp2
  go_ret
  exact ⟨by first | rfl | (simp; done) | (simp [*]; done), by repeat (first | exact Below.refl _ _ | apply below_alloc | apply pw_below_drewN | apply below_drew1)⟩
set_option maxHeartbeats 4000000 in
set_option maxRecDepth 100000 in
theorem isGood_k (w : World) (ad : Addr) (i j c0 n : Nat) (hi : i < n) (x y : It) 
    (cx : Cells w (ad.add (i * 8)) x) (cy : Cells w (ad.add (j * 8)) y) (hj : j < n) (hn : n ≤ 1000) (hs : x.f6 ≠ (i : Int)) (hw : inB 0 ((i : Int) - 1) x.f6 = true) (hz : zerosB x = true) (hxj : x.f6 = j) (hk : (y.f1 == x.f1) = false) :
    Calls Tryz.prog 97 #[.slice (some ad) n c0, .int .i64 (i : Int)] w fun e w' => e = .returned (.bool false) ∧ Below w.heap.size w w' := by
  have hu1 := Tryz.underlying74
  have hu2 := Tryz.underlying26
  have HW := Aside0.mk (fun W => impl_within.calls x.f6 0 ((i : Int) - 1) _ W (within_f x.f6 0 ((i : Int) - 1)))
  rw [hw] at HW
  have hwr : wrap64 ((i : Int) - 1) = (i : Int) - 1 := by unfold wrap64; omega
  have hz1 : x.f2 = 0 ∧ x.f3 = 0 ∧ x.f4 = 0 ∧ x.f5 = 0 ∧ x.f7.toList = [] := by
    unfold zerosB at hz; rw [← nilB_eq] at hz; simpa using hz

  obtain ⟨x0, x1, x2, x3, x4, x5, x6, x7⟩ := x
  obtain ⟨hx0, hx1, hx2, hx3, hx4, hx5, hx6, hx7⟩ := cx
  simp only at hx0 hx1 hx2 hx3 hx4 hx5 hx6 hx7
  obtain ⟨y0, y1, y2, y3, y4, y5, y6, y7⟩ := y
  obtain ⟨hy0, hy1, hy2, hy3, hy4, hy5, hy6, hy7⟩ := cy
  simp only at hy0 hy1 hy2 hy3 hy4 hy5 hy6 hy7
  have hlb : (ad.add (j * 8)).block < w.heap.size := World.block_lt_of_cell? _ _ hy0
  have hz0_ : ∀ o, (w.alloc o).cell? (ad.add (j * 8)) = some (.string y0) := fun o => (Below.cell (B := w.heap.size) (w := w) (p := (ad.add (j * 8))) (by apply below_alloc; exact Below.refl _ _) hlb).trans hy0
  have hz1_ : ∀ o, (w.alloc o).cell? ⟨(ad.add (j * 8)).block, (ad.add (j * 8)).off + 1, none⟩ = some (.int .i64 y1) := fun o => (Below.cell (B := w.heap.size) (w := w) (p := ⟨(ad.add (j * 8)).block, (ad.add (j * 8)).off + 1, none⟩) (by apply below_alloc; exact Below.refl _ _) hlb).trans hy1
  have hz2_ : ∀ o, (w.alloc o).cell? ⟨(ad.add (j * 8)).block, (ad.add (j * 8)).off + 2, none⟩ = some (.int .i64 y2) := fun o => (Below.cell (B := w.heap.size) (w := w) (p := ⟨(ad.add (j * 8)).block, (ad.add (j * 8)).off + 2, none⟩) (by apply below_alloc; exact Below.refl _ _) hlb).trans hy2
  have hz3_ : ∀ o, (w.alloc o).cell? ⟨(ad.add (j * 8)).block, (ad.add (j * 8)).off + 3, none⟩ = some (.int .i64 y3) := fun o => (Below.cell (B := w.heap.size) (w := w) (p := ⟨(ad.add (j * 8)).block, (ad.add (j * 8)).off + 3, none⟩) (by apply below_alloc; exact Below.refl _ _) hlb).trans hy3
  have hz4_ : ∀ o, (w.alloc o).cell? ⟨(ad.add (j * 8)).block, (ad.add (j * 8)).off + 4, none⟩ = some (.int .i64 y4) := fun o => (Below.cell (B := w.heap.size) (w := w) (p := ⟨(ad.add (j * 8)).block, (ad.add (j * 8)).off + 4, none⟩) (by apply below_alloc; exact Below.refl _ _) hlb).trans hy4
  have hz5_ : ∀ o, (w.alloc o).cell? ⟨(ad.add (j * 8)).block, (ad.add (j * 8)).off + 5, none⟩ = some (.int .i64 y5) := fun o => (Below.cell (B := w.heap.size) (w := w) (p := ⟨(ad.add (j * 8)).block, (ad.add (j * 8)).off + 5, none⟩) (by apply below_alloc; exact Below.refl _ _) hlb).trans hy5
  have hz6_ : ∀ o, (w.alloc o).cell? ⟨(ad.add (j * 8)).block, (ad.add (j * 8)).off + 6, none⟩ = some (.int .i64 y6) := fun o => (Below.cell (B := w.heap.size) (w := w) (p := ⟨(ad.add (j * 8)).block, (ad.add (j * 8)).off + 6, none⟩) (by apply below_alloc; exact Below.refl _ _) hlb).trans hy6
  have hz7_ : ∀ o, (w.alloc o).cell? ⟨(ad.add (j * 8)).block, (ad.add (j * 8)).off + 7, none⟩ = some (.string y7) := fun o => (Below.cell (B := w.heap.size) (w := w) (p := ⟨(ad.add (j * 8)).block, (ad.add (j * 8)).off + 7, none⟩) (by apply below_alloc; exact Below.refl _ _) hlb).trans hy7
  have q1 : ((0 : Int) ≤ (j : Int)) = True := eq_true (by omega)
  have q2 : ((j : Int) < (n : Int)) = True := eq_true (by omega)
  have p1 : ((0 : Int) ≤ (i : Int)) = True := eq_true (by omega)
  have p2 : ((i : Int) < (n : Int)) = True := eq_true (by omega)
  simp only at hs HW hz1 hxj
  subst hxj
  obtain ⟨rfl, rfl, rfl, rfl, hz0⟩ := hz1
  have hz2 : x7.toList.isEmpty = true := by rw [hz0]; rfl
  clear hz0
  have hs1 : ((j : Int) == (i : Int)) = false := beq_eq_false_iff_ne.mpr hs
  clear hi hn hw hz hj
  simp only at hk
  go_enter Tryz.func97, Tryz.ntmps97
  go_wp2_with fail
  refine (HW.out _).mono ?_; rintro e w1 ⟨rfl, ⟨n1, rfl⟩⟩
  go_wp2
  go_ret
  exact ⟨by first | rfl | (simp; done) | (simp [*]; done), by repeat (first | exact Below.refl _ _ | apply below_alloc | apply pw_below_drewN | apply below_drew1)⟩
set_option maxHeartbeats 4000000 in
set_option maxRecDepth 100000 in
theorem isGood_d (w : World) (ad : Addr) (i j c0 n : Nat) (hi : i < n) (x y : It) 
    (cx : Cells w (ad.add (i * 8)) x) (cy : Cells w (ad.add (j * 8)) y) (hj : j < n) (hn : n ≤ 1000) (hs : x.f6 ≠ (i : Int)) (hw : inB 0 ((i : Int) - 1) x.f6 = true) (hz : zerosB x = true) (hxj : x.f6 = j) (hk : y.f1 = x.f1) (hd : y.f1 = 2) :
    Calls Tryz.prog 97 #[.slice (some ad) n c0, .int .i64 (i : Int)] w fun e w' => e = .returned (.bool false) ∧ Below w.heap.size w w' := by
  have hu1 := Tryz.underlying74
  have hu2 := Tryz.underlying26
  have HW := Aside0.mk (fun W => impl_within.calls x.f6 0 ((i : Int) - 1) _ W (within_f x.f6 0 ((i : Int) - 1)))
  rw [hw] at HW
  have hwr : wrap64 ((i : Int) - 1) = (i : Int) - 1 := by unfold wrap64; omega
  have hz1 : x.f2 = 0 ∧ x.f3 = 0 ∧ x.f4 = 0 ∧ x.f5 = 0 ∧ x.f7.toList = [] := by
    unfold zerosB at hz; rw [← nilB_eq] at hz; simpa using hz

  obtain ⟨x0, x1, x2, x3, x4, x5, x6, x7⟩ := x
  obtain ⟨hx0, hx1, hx2, hx3, hx4, hx5, hx6, hx7⟩ := cx
  simp only at hx0 hx1 hx2 hx3 hx4 hx5 hx6 hx7
  obtain ⟨y0, y1, y2, y3, y4, y5, y6, y7⟩ := y
  obtain ⟨hy0, hy1, hy2, hy3, hy4, hy5, hy6, hy7⟩ := cy
  simp only at hy0 hy1 hy2 hy3 hy4 hy5 hy6 hy7
  have hlb : (ad.add (j * 8)).block < w.heap.size := World.block_lt_of_cell? _ _ hy0
  have hz0_ : ∀ o, (w.alloc o).cell? (ad.add (j * 8)) = some (.string y0) := fun o => (Below.cell (B := w.heap.size) (w := w) (p := (ad.add (j * 8))) (by apply below_alloc; exact Below.refl _ _) hlb).trans hy0
  have hz1_ : ∀ o, (w.alloc o).cell? ⟨(ad.add (j * 8)).block, (ad.add (j * 8)).off + 1, none⟩ = some (.int .i64 y1) := fun o => (Below.cell (B := w.heap.size) (w := w) (p := ⟨(ad.add (j * 8)).block, (ad.add (j * 8)).off + 1, none⟩) (by apply below_alloc; exact Below.refl _ _) hlb).trans hy1
  have hz2_ : ∀ o, (w.alloc o).cell? ⟨(ad.add (j * 8)).block, (ad.add (j * 8)).off + 2, none⟩ = some (.int .i64 y2) := fun o => (Below.cell (B := w.heap.size) (w := w) (p := ⟨(ad.add (j * 8)).block, (ad.add (j * 8)).off + 2, none⟩) (by apply below_alloc; exact Below.refl _ _) hlb).trans hy2
  have hz3_ : ∀ o, (w.alloc o).cell? ⟨(ad.add (j * 8)).block, (ad.add (j * 8)).off + 3, none⟩ = some (.int .i64 y3) := fun o => (Below.cell (B := w.heap.size) (w := w) (p := ⟨(ad.add (j * 8)).block, (ad.add (j * 8)).off + 3, none⟩) (by apply below_alloc; exact Below.refl _ _) hlb).trans hy3
  have hz4_ : ∀ o, (w.alloc o).cell? ⟨(ad.add (j * 8)).block, (ad.add (j * 8)).off + 4, none⟩ = some (.int .i64 y4) := fun o => (Below.cell (B := w.heap.size) (w := w) (p := ⟨(ad.add (j * 8)).block, (ad.add (j * 8)).off + 4, none⟩) (by apply below_alloc; exact Below.refl _ _) hlb).trans hy4
  have hz5_ : ∀ o, (w.alloc o).cell? ⟨(ad.add (j * 8)).block, (ad.add (j * 8)).off + 5, none⟩ = some (.int .i64 y5) := fun o => (Below.cell (B := w.heap.size) (w := w) (p := ⟨(ad.add (j * 8)).block, (ad.add (j * 8)).off + 5, none⟩) (by apply below_alloc; exact Below.refl _ _) hlb).trans hy5
  have hz6_ : ∀ o, (w.alloc o).cell? ⟨(ad.add (j * 8)).block, (ad.add (j * 8)).off + 6, none⟩ = some (.int .i64 y6) := fun o => (Below.cell (B := w.heap.size) (w := w) (p := ⟨(ad.add (j * 8)).block, (ad.add (j * 8)).off + 6, none⟩) (by apply below_alloc; exact Below.refl _ _) hlb).trans hy6
  have hz7_ : ∀ o, (w.alloc o).cell? ⟨(ad.add (j * 8)).block, (ad.add (j * 8)).off + 7, none⟩ = some (.string y7) := fun o => (Below.cell (B := w.heap.size) (w := w) (p := ⟨(ad.add (j * 8)).block, (ad.add (j * 8)).off + 7, none⟩) (by apply below_alloc; exact Below.refl _ _) hlb).trans hy7
  have q1 : ((0 : Int) ≤ (j : Int)) = True := eq_true (by omega)
  have q2 : ((j : Int) < (n : Int)) = True := eq_true (by omega)
  have p1 : ((0 : Int) ≤ (i : Int)) = True := eq_true (by omega)
  have p2 : ((i : Int) < (n : Int)) = True := eq_true (by omega)
  simp only at hs HW hz1 hxj
  subst hxj
  obtain ⟨rfl, rfl, rfl, rfl, hz0⟩ := hz1
  have hz2 : x7.toList.isEmpty = true := by rw [hz0]; rfl
  clear hz0
  have hs1 : ((j : Int) == (i : Int)) = false := beq_eq_false_iff_ne.mpr hs
  clear hi hn hw hz hj
  simp only at hk hd
  subst hk
  subst hd
  go_enter Tryz.func97, Tryz.ntmps97
  go_wp2_with fail
  refine (HW.out _).mono ?_; rintro e w1 ⟨rfl, ⟨n1, rfl⟩⟩
  go_wp2
  go_ret
  exact ⟨by first | rfl | (simp; done) | (simp [*]; done), by repeat (first | exact Below.refl _ _ | apply below_alloc | apply pw_below_drewN | apply below_drew1)⟩
set_option maxHeartbeats 4000000 in
set_option maxRecDepth 100000 in
theorem isGood_s (w : World) (ad : Addr) (i j c0 n : Nat) (hi : i < n) (x y : It) 
    (cx : Cells w (ad.add (i * 8)) x) (cy : Cells w (ad.add (j * 8)) y) (hj : j < n) (hn : n ≤ 1000) (hs : x.f6 ≠ (i : Int)) (hw : inB 0 ((i : Int) - 1) x.f6 = true) (hz : zerosB x = true) (hxj : x.f6 = j) (hk : y.f1 = x.f1) (hd : ¬ y.f1 = 2) :
    Calls Tryz.prog 97 #[.slice (some ad) n c0, .int .i64 (i : Int)] w fun e w' => e = .returned (.bool (y.f6 == x.f6)) ∧ Below w.heap.size w w' := by
  have hu1 := Tryz.underlying74
  have hu2 := Tryz.underlying26
  have HW := Aside0.mk (fun W => impl_within.calls x.f6 0 ((i : Int) - 1) _ W (within_f x.f6 0 ((i : Int) - 1)))
  rw [hw] at HW
  have hwr : wrap64 ((i : Int) - 1) = (i : Int) - 1 := by unfold wrap64; omega
  have hz1 : x.f2 = 0 ∧ x.f3 = 0 ∧ x.f4 = 0 ∧ x.f5 = 0 ∧ x.f7.toList = [] := by
    unfold zerosB at hz; rw [← nilB_eq] at hz; simpa using hz

  obtain ⟨x0, x1, x2, x3, x4, x5, x6, x7⟩ := x
  obtain ⟨hx0, hx1, hx2, hx3, hx4, hx5, hx6, hx7⟩ := cx
  simp only at hx0 hx1 hx2 hx3 hx4 hx5 hx6 hx7
  obtain ⟨y0, y1, y2, y3, y4, y5, y6, y7⟩ := y
  obtain ⟨hy0, hy1, hy2, hy3, hy4, hy5, hy6, hy7⟩ := cy
  simp only at hy0 hy1 hy2 hy3 hy4 hy5 hy6 hy7
  have hlb : (ad.add (j * 8)).block < w.heap.size := World.block_lt_of_cell? _ _ hy0
  have hz0_ : ∀ o, (w.alloc o).cell? (ad.add (j * 8)) = some (.string y0) := fun o => (Below.cell (B := w.heap.size) (w := w) (p := (ad.add (j * 8))) (by apply below_alloc; exact Below.refl _ _) hlb).trans hy0
  have hz1_ : ∀ o, (w.alloc o).cell? ⟨(ad.add (j * 8)).block, (ad.add (j * 8)).off + 1, none⟩ = some (.int .i64 y1) := fun o => (Below.cell (B := w.heap.size) (w := w) (p := ⟨(ad.add (j * 8)).block, (ad.add (j * 8)).off + 1, none⟩) (by apply below_alloc; exact Below.refl _ _) hlb).trans hy1
  have hz2_ : ∀ o, (w.alloc o).cell? ⟨(ad.add (j * 8)).block, (ad.add (j * 8)).off + 2, none⟩ = some (.int .i64 y2) := fun o => (Below.cell (B := w.heap.size) (w := w) (p := ⟨(ad.add (j * 8)).block, (ad.add (j * 8)).off + 2, none⟩) (by apply below_alloc; exact Below.refl _ _) hlb).trans hy2
  have hz3_ : ∀ o, (w.alloc o).cell? ⟨(ad.add (j * 8)).block, (ad.add (j * 8)).off + 3, none⟩ = some (.int .i64 y3) := fun o => (Below.cell (B := w.heap.size) (w := w) (p := ⟨(ad.add (j * 8)).block, (ad.add (j * 8)).off + 3, none⟩) (by apply below_alloc; exact Below.refl _ _) hlb).trans hy3
  have hz4_ : ∀ o, (w.alloc o).cell? ⟨(ad.add (j * 8)).block, (ad.add (j * 8)).off + 4, none⟩ = some (.int .i64 y4) := fun o => (Below.cell (B := w.heap.size) (w := w) (p := ⟨(ad.add (j * 8)).block, (ad.add (j * 8)).off + 4, none⟩) (by apply below_alloc; exact Below.refl _ _) hlb).trans hy4
  have hz5_ : ∀ o, (w.alloc o).cell? ⟨(ad.add (j * 8)).block, (ad.add (j * 8)).off + 5, none⟩ = some (.int .i64 y5) := fun o => (Below.cell (B := w.heap.size) (w := w) (p := ⟨(ad.add (j * 8)).block, (ad.add (j * 8)).off + 5, none⟩) (by apply below_alloc; exact Below.refl _ _) hlb).trans hy5
  have hz6_ : ∀ o, (w.alloc o).cell? ⟨(ad.add (j * 8)).block, (ad.add (j * 8)).off + 6, none⟩ = some (.int .i64 y6) := fun o => (Below.cell (B := w.heap.size) (w := w) (p := ⟨(ad.add (j * 8)).block, (ad.add (j * 8)).off + 6, none⟩) (by apply below_alloc; exact Below.refl _ _) hlb).trans hy6
  have hz7_ : ∀ o, (w.alloc o).cell? ⟨(ad.add (j * 8)).block, (ad.add (j * 8)).off + 7, none⟩ = some (.string y7) := fun o => (Below.cell (B := w.heap.size) (w := w) (p := ⟨(ad.add (j * 8)).block, (ad.add (j * 8)).off + 7, none⟩) (by apply below_alloc; exact Below.refl _ _) hlb).trans hy7
  have q1 : ((0 : Int) ≤ (j : Int)) = True := eq_true (by omega)
  have q2 : ((j : Int) < (n : Int)) = True := eq_true (by omega)
  have p1 : ((0 : Int) ≤ (i : Int)) = True := eq_true (by omega)
  have p2 : ((i : Int) < (n : Int)) = True := eq_true (by omega)
  simp only at hs HW hz1 hxj
  subst hxj
  obtain ⟨rfl, rfl, rfl, rfl, hz0⟩ := hz1
  have hz2 : x7.toList.isEmpty = true := by rw [hz0]; rfl
  clear hz0
  have hs1 : ((j : Int) == (i : Int)) = false := beq_eq_false_iff_ne.mpr hs
  clear hi hn hw hz hj
  simp only at hk hd
  subst hk
  go_enter Tryz.func97, Tryz.ntmps97
  go_wp2_with fail
  refine (HW.out _).mono ?_; rintro e w1 ⟨rfl, ⟨n1, rfl⟩⟩
  go_wp2
  go_ret
  exact ⟨by first | rfl | (simp; done) | (simp [*]; done), by repeat (first | exact Below.refl _ _ | apply below_alloc | apply pw_below_drewN | apply below_drew1)⟩
theorem cells_at {w : World} {A : Option Addr} {n : Nat} {l : List It} (h : Kd.C k74 w A n l) (i : Nat) (h1 : i < n) : ∃ ad, A = some ad ∧ Cells w (ad.add (i * 8)) (itAt l i) := by
  obtain ⟨ad, e, a0, a1, a2, a3, a4, a5, a6, a7⟩ := at_T74 h (i : Int) (by omega) (by omega)
  exact ⟨ad, e, ⟨a0, a1, a2, a3, a4, a5, a6, a7⟩⟩
theorem impl_isGoodItem.calls (A0 : Option Addr) (c0 : Nat) (l0 : List It) (a1 : Int) (r : Bool) (w : World) (hr0 : Kd.C k74 w A0 l0.length l0) (hc0 : l0.length ≤ c0) (h : impl_isGoodItem.f l0 a1 = some r) :
    Calls Tryz.prog 97 #[.slice A0 l0.length c0, .int .i64 a1] w fun e w' => e = .returned (.bool r) ∧ Below w.heap.size w w' := by
  unfold impl_isGoodItem.f at h
  split at h
  case isFalse => exact absurd h (by simp)
  rename_i hg
  obtain ⟨g1, g2, g3⟩ := hg
  injection h with h
  subst h
  obtain ⟨i, rfl⟩ : ∃ i : Nat, a1 = i := ⟨a1.toNat, by omega⟩
  rw [Int.toNat_natCast]
  have hi : i < l0.length := by omega
  obtain ⟨ad, rfl, cx⟩ := cells_at hr0 i hi
  unfold goodItemB
  by_cases h6 : (itAt l0 i).f6 = (i : Int)
  · rw [if_pos h6]
    exact isGood_own w ad i 0 c0 _ hi _ (itAt l0 i) _ cx h6 rfl
  · rw [if_neg h6]
    by_cases hw : inB 0 ((i : Int) - 1) (itAt l0 i).f6 = true
    · rw [hw, Bool.true_and]
      by_cases hz : zerosB (itAt l0 i) = true
      · rw [hz, Bool.true_and]
        obtain ⟨j, hj⟩ : ∃ j : Nat, (itAt l0 i).f6 = j := ⟨(itAt l0 i).f6.toNat, by unfold inB at hw; simp at hw; omega⟩
        have hj1 : j < l0.length := by unfold inB at hw; simp at hw; omega
        obtain ⟨ad', e', cy⟩ := cells_at hr0 j hj1
        obtain rfl : ad = ad' := by injection e'
        have hjj : (itAt l0 i).f6.toNat = j := by omega
        rw [hjj]
        by_cases hk : (itAt l0 j).f1 = (itAt l0 i).f1
        · have hk' : ((itAt l0 j).f1 == (itAt l0 i).f1) = true := by simpa using hk
          rw [hk', Bool.true_and]
          by_cases hd : (itAt l0 j).f1 = 2
          · have hd' : ((itAt l0 j).f1 != 2) = false := by simpa using hd
            rw [hd', Bool.false_and]
            exact isGood_d w ad i j c0 _ hi _ _ cx cy hj1 g3 h6 hw hz hj hk hd
          · have hd' : ((itAt l0 j).f1 != 2) = true := by simpa using hd
            rw [hd', Bool.true_and]
            exact isGood_s w ad i j c0 _ hi _ _ cx cy hj1 g3 h6 hw hz hj hk hd
        · have hk' : ((itAt l0 j).f1 == (itAt l0 i).f1) = false := by simpa using hk
          rw [hk', Bool.false_and]
          exact isGood_k w ad i j c0 _ hi _ _ cx cy hj1 g3 h6 hw hz hj hk'
      · have hz' : zerosB (itAt l0 i) = false := by simpa using hz
        rw [hz', Bool.false_and]
        exact isGood_nz w ad i 0 c0 _ hi _ (itAt l0 i) cx g3 h6 hw hz'
    · have hw' : inB 0 ((i : Int) - 1) (itAt l0 i).f6 = false := by simpa using hw
      rw [hw', Bool.false_and]
      exact isGood_out w ad i 0 c0 _ hi _ (itAt l0 i) cx g3 h6 hw'

end Go.Proofs.YthhmkbchdiflcaaGreatDoor.Q

/- What the program's GoodItems asks, as plain functions; the printed callees come to them. -/
namespace Go.Proofs.YthhmkbchdiflcaaGreatDoor.Q
open Go.RowKit Go.Proofs.YthhmkbchdiflcaaGreatDoorW.PrintWords Go.Proofs.YthhmkbchdiflcaaGreatDoorW.PrintLast Go.Proofs.YthhmkbchdiflcaaGreatDoorW.PrintMore
attribute [local go_sem] max2_int min2_int max_two min_two max_three min_three max_four min_four   -- for this text's walks alone
set_option linter.unusedVariables false
set_option linter.unusedSimpArgs false

def namesW (s : ByteArray) : List ByteArray := if s.toList = [46] then [] else slashL s
def namesOk (s : ByteArray) : Bool := if s.toList = [46] then true else !(slashL s).any (fun p => !nameOkB p)
theorem namesOf_f (s : ByteArray) (hs : s.size < 4294967281) : impl_namesOf.f s = some (namesW s, namesOk s) := by
  unfold impl_namesOf.f namesW namesOk
  by_cases h : s.toList = [46]
  · simp [h]
  · rw [if_neg h, if_pos hs, if_neg h, if_neg h]
/-- The last place of c ahead of n, -1 where there is none. -/
def lastAt (s : ByteArray) (c : Int) : Nat → Int
  | 0 => -1
  | n + 1 => if bt s n = c then n else lastAt s c n
theorem lastAt_lt (s : ByteArray) (c : Int) : ∀ n, -1 ≤ lastAt s c n ∧ lastAt s c n < n
  | 0 => by simp [lastAt]
  | n + 1 => by
    have := lastAt_lt s c n
    simp only [lastAt]
    split <;> omega
def aboveB (s : ByteArray) : ByteArray := if 0 ≤ lastAt s 47 s.size then s.extract 0 (lastAt s 47 s.size).toNat else ⟨#[46]⟩
def cmpS (a b : ByteArray) : Int := if Op.bytesLess a.toList b.toList = true then -1 else if Op.bytesLess b.toList a.toList = true then 1 else 0
def cmpL : List ByteArray → List ByteArray → Int
  | [], [] => 0
  | [], _ :: _ => -1
  | _ :: _, [] => 1
  | a :: x, b :: y => if cmpS a b = 0 then cmpL x y else cmpS a b
theorem cmp_f (a b : ByteArray) : cmp_Compare_string.f a b = some (cmpS a b) := by
  unfold cmp_Compare_string.f cmp_isNaN_string.f cmpS
  simp only [Option.bind_some]
  simp
  split
  · rfl
  · split <;> rfl
theorem cmp_loop (x y : List ByteArray) (hx : x.length ≤ 4294967282) (d : Nat) : ∀ i : Nat, i + d = x.length → i ≤ y.length → Ev (fun k => slices_Compare_string_string.l0 k x y x (x.length : Int) (i : Int)) (cmpL (x.drop i) (y.drop i)) := by
  induction d with
  | zero =>
    intro i hi hy
    rw [List.drop_of_length_le (show x.length ≤ i by omega)]
    by_cases hl : x.length < y.length
    · refine Ev.step (f := fun _ => some (-1)) (fun k => ?_) ?_
      · simp only [slices_Compare_string_string.l0]; rw [if_neg (by omega), if_pos (by omega)]
      · rw [List.drop_eq_getElem_cons (show i < y.length by omega)]; exact Ev.now _
    · refine Ev.step (f := fun _ => some 0) (fun k => ?_) ?_
      · simp only [slices_Compare_string_string.l0]; rw [if_neg (by omega), if_neg (by omega)]
      · rw [List.drop_of_length_le (show y.length ≤ i by omega)]; exact Ev.now _
  | succ d ih =>
    intro i hi hy
    have hlt : i < x.length := by omega
    have hw := step_n (i := i) (n := x.length) hlt (by omega)
    rw [List.drop_eq_getElem_cons hlt]
    by_cases hl : i < y.length
    · rw [List.drop_eq_getElem_cons hl]
      simp only [cmpL]
      have e : ∀ k, slices_Compare_string_string.l0 (k + 1) x y x (x.length : Int) (i : Int) = if cmpS x[i] y[i] = 0 then slices_Compare_string_string.l0 k x y x (x.length : Int) ((i + 1 : Nat) : Int) else some (cmpS x[i] y[i]) := fun k => by
        simp only [slices_Compare_string_string.l0]
        rw [if_pos (by omega), if_pos (by omega), if_pos (by omega), if_neg (by omega), if_pos (by omega), rdS _ _ hlt, rdS _ _ hl, cmp_f, hw]
        rfl
      by_cases hc : cmpS x[i] y[i] = 0
      · rw [if_pos hc]
        exact Ev.step (fun k => by rw [e k, if_pos hc]) (ih (i + 1) (by omega) (by omega))
      · rw [if_neg hc]
        exact Ev.step (f := fun _ => some (cmpS x[i] y[i])) (fun k => by rw [e k, if_neg hc]) (Ev.now _)
    · rw [List.drop_of_length_le (show y.length ≤ i by omega)]
      refine Ev.step (f := fun _ => some 1) (fun k => ?_) (Ev.now _)
      simp only [slices_Compare_string_string.l0]
      rw [if_pos (by omega), if_pos (by omega), if_pos (by omega), if_pos (by omega)]
def cmpW (a b : ByteArray) : Int := cmpL (namesW a) (namesW b)
theorem namesW_len (s : ByteArray) (hs : s.size < 4294967281) : (namesW s).length ≤ 4294967282 := by
  unfold namesW
  split
  · simp
  · exact slash_len s hs
theorem compareWays_ev (a b : ByteArray) (ha : a.size < 4294967281) (hb : b.size < 4294967281) : Ev (fun k => impl_compareWays.f k a b) (cmpW a b) := by
  unfold impl_compareWays.f slices_Compare_string_string.f
  rw [namesOf_f a ha, namesOf_f b hb]
  simp only [Option.bind_some]
  have := cmp_loop (namesW a) (namesW b) (namesW_len a ha) (namesW a).length 0 (by omega) (by omega)
  exact Ev.bind this (Ev.now _)
theorem rdI (l : List It) (i : Nat) (h : i < l.length) : rd_T74 l (i : Int) = l[i] := by
  unfold rd_T74; simp [List.getD, h]
/-- What the map of directories tells of a way, behind the first i items. -/
def dirAt (l : List It) : Nat → List UInt8 → Bool
  | 0, _ => false
  | i + 1, s => if (itAt l i).f0.toList = s then (itAt l i).f1 == 2 else dirAt l i s
def stepB (l : List It) (i : Nat) : Bool :=
  namesOk (itAt l i).f0 && (goodItemB l i && (decide (i = 0) || (dirAt l i (aboveB (itAt l i).f0).toList && decide (cmpW (itAt l (i - 1)).f0 (itAt l i).f0 < 0))))
def stepsB (l : List It) (n : Nat) : Bool := (List.range n).all (stepB l)
def goodB (l : List It) : Bool := decide (1 ≤ l.length) && (decide (l.length ≤ 40) && ((itAt l 0).f0.toList == [46] && stepsB l l.length))

end Go.Proofs.YthhmkbchdiflcaaGreatDoor.Q

/- impl.aboveOf, and the call of it draws nothing. -/
namespace Go.Proofs.YthhmkbchdiflcaaGreatDoor.Q
open Go.RowKit Go.Proofs.YthhmkbchdiflcaaGreatDoorW.PrintWords Go.Proofs.YthhmkbchdiflcaaGreatDoorW.PrintLast Go.Proofs.YthhmkbchdiflcaaGreatDoorW.PrintMore
attribute [local go_sem] max2_int min2_int max_two min_two max_three min_three max_four min_four   -- for this text's walks alone
set_option linter.unusedVariables false
set_option linter.unusedSimpArgs false

set_option maxHeartbeats 1000000 in
set_option maxRecDepth 100000 in
theorem lastIdx_still (s : ByteArray) (c : Int) (hs : s.size < 4294967281) (r : Int) (hr : lastAt s c s.size = r) (w : World) :
    Calls Tryz.prog 214 #[.string s, .int .u8 c] w fun e w' => e = .returned (.int .i64 r) ∧ w' = w := by
  go_enter Tryz.func214, Tryz.ntmps214
  go_wp2
  go_loopg [5] s.size (fun gg i wr => ∃ n : Nat, n ≤ gg ∧ n ≤ s.size ∧ i = .int .i64 ((n : Int) - 1) ∧ Aside0 (lastAt s c n = r) ∧ wr = w)
  case atStart => exact ⟨s.size, Nat.le_refl _, Nat.le_refl _, by first | rfl | go_num, ⟨hr⟩, rfl⟩
  case round =>
    obtain ⟨n, hg, hn, rfl, HL, rfl⟩ := hrel
    cases n with
    | zero =>
      have c3 : decide ((0 : Int) ≤ ((0 : Nat) : Int) - 1) = false := by decide
      have hl := HL.out
      simp only [lastAt] at hl
      clear HL hr
      subst hl
      go_wp2
      go_ret
      exact ⟨rfl, rfl⟩
    | succ n =>
      have e1 : ((n + 1 : Nat) : Int) - 1 = n := by omega
      rw [e1]
      have c3 : decide ((0 : Int) ≤ (n : Int)) = true := by simp
      have p6 : ((0 : Int) ≤ (n : Int)) = True := eq_true (by omega)
      have q6 : ((n : Int) < (s.size : Int)) = True := eq_true (by omega)
      have hx6 : ∀ (h : n < s.size), ((s[n]'h).toNat : Int) = bt s (n : Int) := fun h => bt_at s (n : Int) h
      have hl := HL.out
      simp only [lastAt] at hl
      clear HL
      by_cases hc : bt s n = c
      · have c7 : (bt s n == c) = true := by simpa using hc
        rw [if_pos hc] at hl
        clear hc hr
        subst hl
        go_wp2
        go_ret
        exact ⟨rfl, rfl⟩
      · have c7 : (bt s n == c) = false := by simpa using hc
        rw [if_neg hc] at hl
        have HL := Aside0.mk hl
        clear hl hc
        go_wp2
        go_roundg n
        case measure => omega
        case rel => exact ⟨n, Nat.le_refl _, by omega, by first | rfl | go_num, HL, rfl⟩
theorem lastIdx_still2 (s : ByteArray) (c : Int) (hs : s.size < 4294967281) (w : World) :
    Calls Tryz.prog 152 #[.string s, .int .u8 c] w fun e w' => e = .returned (.int .i64 (lastAt s c s.size)) ∧ w' = w := by
  have HX := Aside0.mk (fun W => lastIdx_still s c hs _ rfl W)
  generalize lastAt s c s.size = q at HX ⊢
  go_enter Tryz.func152, Tryz.ntmps152
  go_wp2_with fail
  refine (HX.out _).mono ?_; rintro e w1 ⟨rfl, rfl⟩
  go_wp2
  go_ret
  exact ⟨rfl, rfl⟩
theorem aboveOf_still (s : ByteArray) (hs : s.size < 4294967281) (w : World) :
    Calls Tryz.prog 98 #[.string s] w fun e w' => e = .returned (.string (aboveB s)) ∧ w' = w := by
  have HX := Aside0.mk (fun W => lastIdx_still2 s 47 hs W)
  have hlt := lastAt_lt s 47 s.size
  unfold aboveB
  generalize lastAt s 47 s.size = q at HX hlt ⊢
  by_cases h0 : 0 ≤ q
  · obtain ⟨m, rfl⟩ : ∃ m : Nat, q = m := ⟨q.toNat, by omega⟩
    rw [if_pos h0, Int.toNat_natCast]
    have c3 : decide ((0 : Int) ≤ (m : Int)) = true := by simp
    have p6 : ((0 : Int) ≤ (m : Int)) = True := eq_true (by omega)
    have q6 : ((m : Int) ≤ (s.size : Int)) = True := eq_true (by omega)
    go_enter Tryz.func98, Tryz.ntmps98
    go_wp2_with fail
    refine (HX.out _).mono ?_; rintro e w1 ⟨rfl, rfl⟩
    go_wp2
    go_ret
    exact ⟨by first | rfl | (simp; done), rfl⟩
  · rw [if_neg h0]
    have c3 : decide (0 ≤ q) = false := by simpa using h0
    go_enter Tryz.func98, Tryz.ntmps98
    go_wp2_with fail
    refine (HX.out _).mono ?_; rintro e w1 ⟨rfl, rfl⟩
    go_wp2
    go_ret
    exact ⟨by first | rfl | (simp; done), rfl⟩

end Go.Proofs.YthhmkbchdiflcaaGreatDoor.Q

/- impl.GoodItems: the walk. -/
namespace Go.Proofs.YthhmkbchdiflcaaGreatDoor.Q
open Go.RowKit Go.Proofs.YthhmkbchdiflcaaGreatDoorW.PrintWords Go.Proofs.YthhmkbchdiflcaaGreatDoorW.PrintLast Go.Proofs.YthhmkbchdiflcaaGreatDoorW.PrintMore
attribute [local go_sem] max2_int min2_int max_two min_two max_three min_three max_four min_four   -- for this text's walks alone
set_option linter.unusedVariables false
set_option linter.unusedSimpArgs false

open Go.Maps Go.WideMaps
def impl_GoodItems.f (l : List It) : Option Bool := if (l.all fun x => decide (x.f0.size < 4294967281)) = true then some (goodB l) else none
theorem keyLaw : Keyed Tryz.prog 9 := string_keyed Tryz.underlying9
theorem zeroBool (w : World) : (zeroValue 4).run Tryz.prog w = .ok (.bool false) w := by kernel_rfl
theorem key_of (s : ByteArray) (hs : s.size < 4294967281) : keyOf Tryz.prog 9 (.string s) = some (.string s.data.toList) :=
  keyOf_string_mk Tryz.underlying9 (by unfold maxLen; omega)
/-- The call's own map: what it tells of a way. -/
def MapIs (w : World) (b n : Nat) (p : List UInt8 → Bool) : Prop :=
  ∃ D : DataW Unit, w.ownsMap Tryz.prog 9 (plainElem Tryz.prog 4) b n D ∧ IsMap D ∧ ∀ s : List UInt8, D.atKey (.string s) (.lit (.bool false)) = .lit (.bool (p s))
theorem MapIs.below {w w' : World} {b n : Nat} {p : List UInt8 → Bool} {B : Nat} (h : MapIs w b n p) (hb : Below B w w') (hlt : b < B) : MapIs w' b n p := by
  obtain ⟨D, ho, h1, h2⟩ := h
  refine ⟨D, ?_, h1, h2⟩
  unfold World.ownsMap at ho ⊢
  rw [hb.block b hlt]
  exact ho
theorem MapIs.empty (w : World) : MapIs (w.alloc (.map #[] 0)) w.heap.size 0 (fun _ => false) :=
  ⟨.map [], World.ownsMap_made _ _ _ _, isMap_empty, fun _ => rfl⟩
set_option maxRecDepth 100000 in
theorem bool_inv {v : Value} {z : DataW Unit × List MemPlace} (h : plainElem Tryz.prog 4 v = some z) : ∃ a, v = .bool a ∧ z = (.lit (.bool a), []) := by
  unfold plainElem at h
  rw [Tryz.underlying4] at h
  cases v <;> simp at h
  exact ⟨_, rfl, h.symm⟩
set_option maxRecDepth 100000 in
theorem MapIs.look {w : World} {b n : Nat} {p : List UInt8 → Bool} (h : MapIs w b n p) (s : ByteArray) (hs : s.size < 4294967281) :
    (Instr.lookup 125 (.map (some b)) (.string s) false).run Tryz.prog w = .ok (.bool (p s.toList)) w := by
  obtain ⟨D, ho, h1, h2⟩ := h
  obtain ⟨v, ps, hrun, hv⟩ := ho.lookup keyLaw Tryz.underlying125 (zeroBool w) (plainElem_bool Tryz.underlying4 false) (key_of s hs)
  obtain ⟨c, rfl, hc⟩ := bool_inv hv
  simp only [Prod.mk.injEq] at hc
  have := (h2 s.data.toList).symm.trans hc.1
  injection this with this
  injection this with this
  rw [hrun, ByteArray.toList_eq, this]
theorem MapIs.put {D : DataW Unit} {w : World} {b n : Nat} {p : List UInt8 → Bool} (h1 : IsMap D) (h2 : ∀ s : List UInt8, D.atKey (.string s) (.lit (.bool false)) = .lit (.bool (p s))) (k : ByteArray) (v : Bool)
    (h : w.ownsMap Tryz.prog 9 (plainElem Tryz.prog 4) b n (D.put (.string k.data.toList) (.lit (.bool v)))) : MapIs w b n (fun s => if k.toList = s then v else p s) := by
  refine ⟨_, h, h1.put _ _, fun s => ?_⟩
  by_cases hk : k.toList = s
  · simp only
    rw [if_pos hk, ← hk, ByteArray.toList_eq]
    exact atKey_put_same h1 (show WideAt.IsKeyLit (.string k.data.toList) from trivial) _ _
  · simp only
    rw [if_neg hk, ← h2 s]
    refine atKey_put_other ?_ _ _
    intro e
    injection e with e
    exact hk (by rw [ByteArray.toList_eq]; exact e.symm)
theorem stepsB_succ (l : List It) (k : Nat) : stepsB l (k + 1) = (stepsB l k && stepB l k) := by
  unfold stepsB
  rw [List.range_succ, List.all_append]
  simp
theorem stepsB_false (l : List It) (k : Nat) (h : stepB l k = false) : ∀ n, k < n → stepsB l n = false
  | 0, h0 => absurd h0 (by omega)
  | n + 1, h0 => by
    rw [stepsB_succ]
    by_cases hk : k = n
    · subst hk; rw [h, Bool.and_false]
    · rw [stepsB_false l k h n (by omega), Bool.false_and]
theorem alloc_lt (w : World) (o : Obj) : w.heap.size < (w.alloc o).heap.size := by unfold World.alloc; simp
set_option maxHeartbeats 8000000 in
set_option maxRecDepth 100000 in
theorem goodItems_loop (w : World) (ad : Addr) (c0 : Nat) (l : List It) (hl : 1 ≤ l.length ∧ l.length ≤ 40) (hc0 : l.length ≤ c0) (hr : Kd.C k74 w (some ad) l.length l) (hs : ∀ i, (itAt l i).f0.size < 4294967281)
   (x0 : ByteArray) (hx0 : w.cell? ad = some (.string x0)) (h0 : x0.toList = [46]) (r : Bool) (hres : stepsB l l.length = r) :
    Calls Tryz.prog 38 #[.slice (some ad) l.length c0] w fun e w' => e = .returned (.bool r) ∧ Below w.heap.size w w' := by
  have hu1 := Tryz.underlying74
  have hu2 := Tryz.underlying26
  have HW := Aside0.mk (fun W => impl_within.calls (l.length : Int) 1 40 _ W (within_f (l.length : Int) 1 40))
  rw [show inB 1 40 (l.length : Int) = true by unfold inB; simp; omega] at HW
  have HR := Aside0.mk hr
  have HS := Aside0.mk hs
  have p2 : ((0 : Int) < (l.length : Int)) = True := eq_true (by omega)
  have ha : ad.add 0 = ad := by cases ad; rfl
  have h0' : (x0.toList == [46]) = true := by simpa using h0
  have hres' := Aside0.mk hres
  clear hr hs h0 hres
  have hmm := @run_makeMap Tryz.prog
  go_enter Tryz.func38, Tryz.ntmps38
  go_wp2_with fail
  refine (HW.out _).mono ?_; rintro e w1 ⟨rfl, ⟨n1, rfl⟩⟩
  go_wp2
  go_loopw [22] (fun i wr => ∃ k : Nat, k ≤ l.length ∧ i = .int .i64 k ∧ Aside0 (MapIs wr w.heap.size k (dirAt l k)) ∧ Aside0 (Below w.heap.size w wr) ∧ Aside0 (w.heap.size < wr.heap.size) ∧ Aside0 (stepsB l k = true))
    (fun i _ => l.length - (intOf i).toNat)
  case atStart => exact ⟨0, Nat.zero_le _, rfl, ⟨MapIs.empty _⟩, ⟨by repeat (first | exact Below.refl _ _ | apply below_alloc | apply pw_below_drewN | apply below_drew1)⟩, ⟨by simp [World.alloc]⟩, ⟨rfl⟩⟩
  case round =>
    obtain ⟨k, hk, rfl, HM, HB, HZ, HT⟩ := hrel
    by_cases hlt : k < l.length
    case neg =>
      have hkl : k = l.length := by omega
      subst hkl
      have hr1 := HT.out.symm.trans hres'.out
      subst hr1
      clear hx0 hlt
      have c1 : decide ((l.length : Int) < (l.length : Int)) = false := by simp
      go_wp2
      go_ret
      exact ⟨rfl, HB.out⟩
    case pos =>
      obtain ⟨ad', e', cx⟩ := cells_at (Kd.C_below HR.out HB.out) k hlt
      obtain rfl : ad = ad' := by injection e'
      clear e' hx0
      have hstep : Aside0 (stepB l k = false → r = false) := ⟨fun h => hres'.out.symm.trans (stepsB_false l k h _ hlt)⟩
      have hS := HS.out k
      have hI := Aside0.mk (fun (W : World) (hb : Below w.heap.size w W) => impl_isGoodItem.calls (some ad) c0 l (k : Int) (goodItemB l k) W (Kd.C_below HR.out hb) hc0 (by unfold impl_isGoodItem.f; rw [if_pos ⟨by omega, by omega, by omega⟩, Int.toNat_natCast]))
      obtain ⟨x, hx⟩ : ∃ x, x = itAt l k := ⟨_, rfl⟩
      rw [← hx] at cx hS
      have HX := Aside0.mk hx
      clear hx
      have hN := Aside0.mk (fun (W : World) => impl_namesOf.calls x.f0 _ _ W (namesOf_f x.f0 hS))
      have hA := Aside0.mk (fun (W : World) => aboveOf_still x.f0 hS W)
      have hsB : Aside0 (stepB l k = (namesOk x.f0 && (goodItemB l k && (decide (k = 0) || (dirAt l k (aboveB x.f0).toList && decide (cmpW (itAt l (k - 1)).f0 x.f0 < 0)))))) := ⟨by unfold stepB; rw [← HX.out]⟩
      have hcmp := Aside0.mk (fun (W : World) => compareWays_ev (itAt l (k - 1)).f0 x.f0 (HS.out _) hS)
      have hput : Aside0 (∀ s, (if x.f0.toList = s then x.f1 == 2 else dirAt l k s) = dirAt l (k + 1) s) := ⟨fun s => by simp only [dirAt]; rw [← HX.out]⟩
      have hSz : Aside0 (x.f0.size < 4294967281 ∧ (aboveB x.f0).size < 4294967281) := ⟨hS, by
        unfold aboveB; split
        · simp only [ByteArray.size_extract]; omega
        · decide⟩
      have hkey := key_of x.f0 hS
      obtain ⟨x0', x1, x2, x3, x4, x5, x6, x7⟩ := x
      obtain ⟨hx0, hx1, hx2, hx3, hx4, hx5, hx6, hx7⟩ := cx
      simp only at hx0 hx1 hx2 hx3 hx4 hx5 hx6 hx7 hN hA hsB hput hSz hkey
      have p1 : ((0 : Int) ≤ (k : Int)) = True := eq_true (by omega)
      have p3 : ((k : Int) < (l.length : Int)) = True := eq_true (by omega)
      have c1 : decide ((k : Int) < (l.length : Int)) = true := by simpa using hlt
      clear hS HX
      go_wp2_with fail
      refine (hN.out _).mono ?_
      rintro e w1 ⟨v0, rfl, -, hd⟩
      have hz0 : wr.heap.size < (wr.alloc (Obj.cells #[.string x0', .int .i64 x1, .int .i64 x2, .int .i64 x3, .int .i64 x4, .int .i64 x5, .int .i64 x6, .string x7] 74)).heap.size := alloc_lt _ _
      have hB1 : Below wr.heap.size wr w1 := below_step (by repeat (first | exact Below.refl _ _ | apply below_alloc | apply pw_below_drewN | apply below_drew1)) hd
      have hz1 : wr.heap.size < w1.heap.size := Nat.lt_of_lt_of_le hz0 hd.size
      have d0 : w1.cell? ⟨wr.heap.size, 0, none⟩ = some (.string x0') := (Below.cell hd (p := ⟨wr.heap.size, 0, none⟩) hz0).trans (by go_simp)
      have d1 : w1.cell? ⟨wr.heap.size, 1, none⟩ = some (.int .i64 x1) := (Below.cell hd (p := ⟨wr.heap.size, 1, none⟩) hz0).trans (by go_simp)
      have hB1' : Below w.heap.size w w1 := HB.out.trans (hB1.mono HB.out.size)
      clear hd hz0 hx0 hx1 hx2 hx3 hx4 hx5 hx6 hx7
      by_cases hq1 : namesOk x0' = true
      case neg =>
        have hq1' : namesOk x0' = false := by simpa using hq1
        have hr1 : r = false := hstep.out (by rw [hsB.out, hq1']; rfl)
        subst hr1
        clear hq1 hstep hsB
        go_wp2
        go_ret
        exact ⟨rfl, hB1'⟩
      case pos =>
        go_wp2_with fail
        refine (hI.out _ hB1').mono ?_
        rintro e w2 ⟨rfl, hd⟩
        have e0 : w2.cell? ⟨wr.heap.size, 0, none⟩ = some (.string x0') := (Below.cell hd (p := ⟨wr.heap.size, 0, none⟩) hz1).trans d0
        have e1 : w2.cell? ⟨wr.heap.size, 1, none⟩ = some (.int .i64 x1) := (Below.cell hd (p := ⟨wr.heap.size, 1, none⟩) hz1).trans d1
        have hB2 : Below wr.heap.size wr w2 := hB1.trans (hd.mono hB1.size)
        have hz2 : wr.heap.size < w2.heap.size := Nat.lt_of_lt_of_le hz1 hd.size
        have hB2' : Below w.heap.size w w2 := HB.out.trans (hB2.mono HB.out.size)
        have HM2 : MapIs w2 w.heap.size k (dirAt l k) := HM.out.below hB2 HZ.out
        clear d0 d1 hd hz1 hB1 hB1'
        by_cases hq2 : goodItemB l k = true
        case neg =>
          have hq2' : goodItemB l k = false := by simpa using hq2
          have hr1 : r = false := hstep.out (by rw [hsB.out, hq1, hq2']; rfl)
          subst hr1
          clear hq2 hstep hsB
          go_wp2
          go_ret
          exact ⟨rfl, hB2'⟩
        case pos =>
          by_cases hk0 : k = 0
          case pos =>
            have hsk : stepsB l (k + 1) = true := by rw [stepsB_succ, HT.out, hsB.out, hq1, hq2, hk0]; rfl
            have hg0 : decide ((0 : Int) < (k : Int)) = false := by simp; omega
            have hg1 : decide (0 < k) = false := by simp; omega
            obtain ⟨D, hown, h1, h2⟩ := HM2
            clear hk0
            go_wp2_with fail
            go_quiet (fail)
            go_wp2_with (first
              | (at_mapUpdate; refine wpList_mapUpdate_own _ rfl _ _ _ 125 rfl 9 4 keyLaw Tryz.underlying125 _ w.heap.size k _ rfl (show World.ownsMap _ _ _ _ _ _ _ from hown) (by unfold maxLen; omega) _ _ _ rfl rfl hkey _ [] (plainElem_bool Tryz.underlying4 _) ?_)
              | go_in)
            have hB3 : Below w.heap.size w (w2.drewN nq) := by apply pw_below_drewN; exact hB2'
            intro w4 hown4 hgrow
            have hB4 := hB3.grown hgrow hB3.size (fun j hj => by cases hj; exact Nat.le_refl _)
            have hM4 := MapIs.put h1 h2 _ _ hown4
            clear hgrow
            go_wp2
            go_roundw
            case rel => exact ⟨k + 1, by omega, by first | rfl | go_num, ⟨by rw [show dirAt l (k + 1) = _ from (funext hput.out).symm]; exact hM4⟩, ⟨hB4⟩, ⟨hown4.lt⟩, ⟨hsk⟩⟩
            case measure => simp [intOf]; omega
          case neg =>
            have hg0 : decide ((0 : Int) < (k : Int)) = true := by simp; omega
            have hg1 : decide (0 < k) = true := by simp; omega
            have hg2 : 0 < k := by omega
            have hlk : ∀ n, (Instr.lookup 125 (.map (some w.heap.size)) (.string (aboveB x0')) false).run Tryz.prog (w2.drewN n) = .ok (.bool (dirAt l k (aboveB x0').toList)) (w2.drewN n) := fun n => MapIs.look (w := w2.drewN n) HM2 _ hSz.out.2
            by_cases hq3 : dirAt l k (aboveB x0').toList = true
            case neg =>
              have hq3' : dirAt l k (aboveB x0').toList = false := by simpa using hq3
              have hr1 : r = false := hstep.out (by rw [hsB.out, hq1, hq2, hq3', decide_eq_false hk0]; rfl)
              rw [hq3'] at hlk
              subst hr1
              clear hq3 hstep hsB hcmp hk0
              go_wp2_with fail
              go_quiet ((go_at_call 98; refine Calls.quiet_of_same (hA.out _)))
              go_wp2
              go_ret
              exact ⟨rfl, by apply pw_below_drewN; exact hB2'⟩
            case pos =>
              rw [hq3] at hlk
              have hlk0 := hlk 0
              obtain ⟨m, hm⟩ : ∃ m : Nat, k = m + 1 := ⟨k - 1, by omega⟩
              have hmz : (k : Int) - 1 = (m : Int) := by omega
              have hms : IntKind.i64.wrap ((k : Int) - 1) = (m : Int) := by rw [IntKind.wrap_i64]; omega
              have hms2 : IntKind.i64.wrap (m : Int) = (m : Int) := by rw [IntKind.wrap_i64]; omega
              have hmn : k - 1 = m := by omega
              rw [hmn] at hcmp hsB
              obtain ⟨ad', e', cy⟩ := cells_at (Kd.C_below HR.out hB2') m (by omega)
              obtain rfl : ad = ad' := by injection e'
              have hy0 := cy.h0
              clear e' cy hmn hm
              obtain ⟨kc, hkc⟩ := Ev.rounds (hcmp.out w)
              have hC := Aside0.mk (fun (W : World) => impl_compareWays.calls kc (itAt l m).f0 x0' _ W hkc)
              clear hkc hcmp
              generalize cmpW (itAt l m).f0 x0' = cm at hC hsB
              generalize (itAt l m).f0 = y0 at hC hy0
              have p5 : ((0 : Int) ≤ (m : Int)) = True := eq_true (by omega)
              have p6 : ((m : Int) < (l.length : Int)) = True := eq_true (by omega)
              have hlkd : (Instr.lookup 125 (.map (some w.heap.size)) (.string (aboveB x0')) false).run Tryz.prog w2 = .ok (.bool true) w2 := hlk0
              have hlke : (Instr.lookup 125 (.map (some w.heap.size)) (.string (aboveB x0')) false).run Tryz.prog w2.drew = .ok (.bool true) w2.drew := hlk 1
              by_cases hcm : cm < 0
              case neg =>
                have hcm1 : decide (0 ≤ cm) = true := by simp; omega
                have hr1 : r = false := hstep.out (by rw [hsB.out, hq1, hq2, hq3, decide_eq_false hcm, Bool.and_false, decide_eq_false hk0]; rfl)
                subst hr1
                clear hstep hsB hk0
                go_wp2_with fail
                go_still_tail 18, (by kernel_rfl)
                still_call (hA.out _)
                repeat still_step
                refine wpStill_nil ?_
                change wpList _ _ _ _ _ w2.drew
                go_wp2_with fail
                refine (hC.out _).mono ?_
                rintro e w3 ⟨rfl, hd⟩
                have hB3 : Below w.heap.size w w3 := (show Below w.heap.size w w2.drew from below_drew1 hB2').trans (hd.mono hB2'.size)
                clear hd
                go_wp2
                go_ret
                exact ⟨rfl, hB3⟩
              case pos =>
                have hcm1 : decide (0 ≤ cm) = false := by simp; omega
                have hsk : stepsB l (k + 1) = true := by rw [stepsB_succ, HT.out, hsB.out, hq1, hq2, hq3, decide_eq_true hcm, Bool.and_true, Bool.or_true]; rfl
                have hz0 := hSz.out.1
                clear hstep hsB hk0
                go_wp2_with fail
                go_still_tail 18, (by kernel_rfl)
                still_call (hA.out _)
                repeat still_step
                refine wpStill_nil ?_
                change wpList _ _ _ _ _ w2.drew
                go_wp2_with fail
                refine (hC.out _).mono ?_
                rintro e w3 ⟨rfl, hd⟩
                have hB3 : Below w.heap.size w w3 := (show Below w.heap.size w w2.drew from below_drew1 hB2').trans (hd.mono hB2'.size)
                have HM3 : MapIs w3 w.heap.size k (dirAt l k) := MapIs.below (w := w2.drew) HM2 hd (Nat.lt_of_lt_of_le HZ.out hB2.size)
                have f0 : w3.cell? ⟨wr.heap.size, 0, none⟩ = some (.string x0') := (Below.cell hd (p := ⟨wr.heap.size, 0, none⟩) hz2).trans e0
                have f1 : w3.cell? ⟨wr.heap.size, 1, none⟩ = some (.int .i64 x1) := (Below.cell hd (p := ⟨wr.heap.size, 1, none⟩) hz2).trans e1
                obtain ⟨D, hown, h1, h2⟩ := HM3
                clear hd e0 e1 HM2 hlk hlk0 hlkd hlke
                go_wp2_with (first
                  | (at_mapUpdate; refine wpList_mapUpdate_own _ rfl _ _ _ 125 rfl 9 4 keyLaw Tryz.underlying125 _ w.heap.size k _ rfl (show World.ownsMap _ _ _ _ _ _ _ from hown) (by unfold maxLen; omega) _ _ _ rfl rfl hkey _ [] (plainElem_bool Tryz.underlying4 _) ?_)
                  | go_in)
                intro w4 hown4 hgrow
                have hB4 := hB3.grown hgrow hB3.size (fun j hj => by cases hj; exact Nat.le_refl _)
                have hM4 := MapIs.put h1 h2 _ _ hown4
                clear hgrow
                go_wp2
                go_roundw
                case rel => exact ⟨k + 1, by omega, by first | rfl | go_num, ⟨by rw [show dirAt l (k + 1) = _ from (funext hput.out).symm]; exact hM4⟩, ⟨hB4⟩, ⟨hown4.lt⟩, ⟨hsk⟩⟩
                case measure => simp [intOf]; omega
set_option maxHeartbeats 1000000 in
set_option maxRecDepth 100000 in
theorem goodItems_empty (w : World) (A : Option Addr) (n c0 : Nat) (hn : inB 1 40 (n : Int) = false) : Calls Tryz.prog 38 #[.slice A n c0] w fun e w' => e = .returned (.bool false) ∧ Below w.heap.size w w' := by
  have HW := Aside0.mk (fun W => impl_within.calls (n : Int) 1 40 _ W (within_f (n : Int) 1 40))
  rw [hn] at HW
  clear hn
  go_enter Tryz.func38, Tryz.ntmps38
  go_wp2_with fail
  refine (HW.out _).mono ?_; rintro e w1 ⟨rfl, ⟨n1, rfl⟩⟩
  go_wp2
  go_ret
  exact ⟨rfl, by repeat (first | exact Below.refl _ _ | apply below_alloc | apply pw_below_drewN | apply below_drew1)⟩
set_option maxHeartbeats 1000000 in
set_option maxRecDepth 100000 in
theorem goodItems_root (w : World) (ad : Addr) (n c0 : Nat) (hn : inB 1 40 (n : Int) = true) (x0 : ByteArray) (hx0 : w.cell? ad = some (.string x0)) (h0 : (x0.toList == [46]) = false) :
    Calls Tryz.prog 38 #[.slice (some ad) n c0] w fun e w' => e = .returned (.bool false) ∧ Below w.heap.size w w' := by
  have hu1 := Tryz.underlying74
  have hu2 := Tryz.underlying26
  have HW := Aside0.mk (fun W => impl_within.calls (n : Int) 1 40 _ W (within_f (n : Int) 1 40))
  rw [hn] at HW
  have p2 : ((0 : Int) < (n : Int)) = True := eq_true (by unfold inB at hn; simp at hn; omega)
  have p3 : 0 < n := by unfold inB at hn; simp at hn; omega
  have ha : ad.add 0 = ad := by cases ad; rfl
  clear hn
  go_enter Tryz.func38, Tryz.ntmps38
  go_wp2_with fail
  refine (HW.out _).mono ?_; rintro e w1 ⟨rfl, ⟨n1, rfl⟩⟩
  go_wp2
  go_ret
  exact ⟨rfl, by repeat (first | exact Below.refl _ _ | apply below_alloc | apply pw_below_drewN | apply below_drew1)⟩
theorem impl_GoodItems.calls (A0 : Option Addr) (c0 : Nat) (l0 : List It) (r : Bool) (w : World) (hr0 : Kd.C k74 w A0 l0.length l0) (hc0 : l0.length ≤ c0) (h : impl_GoodItems.f l0 = some r) :
    Calls Tryz.prog 38 #[.slice A0 l0.length c0] w fun e w' => e = .returned (.bool r) ∧ Below w.heap.size w w' := by
  unfold impl_GoodItems.f at h
  split at h
  case isFalse => exact absurd h (by simp)
  rename_i hsz
  injection h with h
  by_cases hn : inB 1 40 (l0.length : Int) = true
  · have hl : 1 ≤ l0.length ∧ l0.length ≤ 40 := by unfold inB at hn; simp at hn; omega
    obtain ⟨ad, rfl, cx⟩ := cells_at hr0 0 (by omega)
    have hx0 := cx.h0
    have ha : ad.add (0 * 8) = ad := by cases ad; rfl
    rw [ha] at hx0
    have hg : goodB l0 = ((itAt l0 0).f0.toList == [46] && stepsB l0 l0.length) := by
      unfold goodB
      rw [decide_eq_true hl.1, decide_eq_true hl.2]; rfl
    by_cases h0 : ((itAt l0 0).f0.toList == [46]) = true
    · refine goodItems_loop w ad c0 l0 hl hc0 hr0 (fun i => ?_) _ hx0 (by simpa using h0) r ?_
      · by_cases hi : i < l0.length
        · have : itAt l0 i = l0[i] := rdI l0 i hi
          rw [this]
          simpa using List.all_eq_true.mp hsz _ (List.getElem_mem hi)
        · have : itAt l0 i = z74 := by unfold itAt rd_T74; simp [List.getD, List.getElem?_eq_none (show l0.length ≤ i by omega)]
          rw [this]; decide
      · rw [← h, hg, h0, Bool.true_and]
    · have h0' : ((itAt l0 0).f0.toList == [46]) = false := by simpa using h0
      have : r = false := by rw [← h, hg, h0', Bool.false_and]
      subst this
      exact goodItems_root w ad _ c0 hn _ hx0 h0'
  · have hn' : inB 1 40 (l0.length : Int) = false := by simpa using hn
    have : r = false := by
      rw [← h]; unfold goodB
      unfold inB at hn'
      by_cases h1 : 1 ≤ l0.length
      · have : ¬ l0.length ≤ 40 := by intro h2; simp at hn'; omega
        rw [decide_eq_false this, Bool.false_and, Bool.and_false]
      · rw [decide_eq_false h1, Bool.false_and]
    subst this
    exact goodItems_empty w A0 _ c0 hn'

end Go.Proofs.YthhmkbchdiflcaaGreatDoor.Q

/- spec.l17Alone: whether an item is right by itself, as the reference has it. -/
namespace Go.Proofs.YthhmkbchdiflcaaGreatDoor.Q
open Go.RowKit Go.Proofs.YthhmkbchdiflcaaGreatDoorW.PrintWords Go.Proofs.YthhmkbchdiflcaaGreatDoorW.PrintLast Go.Proofs.YthhmkbchdiflcaaGreatDoorW.PrintMore
attribute [local go_sem] max2_int min2_int max_two min_two max_three min_three max_four min_four   -- for this text's walks alone
set_option linter.unusedVariables false
set_option linter.unusedSimpArgs false

theorem bcell {W w1 : World} (hb : Below W.heap.size W w1) : ∀ b o, b < W.heap.size → w1.cell? ⟨b, o, none⟩ = W.cell? ⟨b, o, none⟩ := fun b o h => hb.cell (p := ⟨b, o, none⟩) h
theorem l1Mode_f (n : Int) : spec_l1Mode.f n = some (inB 0 511 n) := by unfold spec_l1Mode.f; rw [l1In_f]; rfl
set_option maxHeartbeats 1000000 in
theorem l3Entries_nil (w : World) : Calls Tryz.prog 233 #[.agg #[.slice none 0 0, .int .i64 0], .slice none 0 0] w fun e w' => e = .returned (.bool true) ∧ Below w.heap.size w w' := by
  have hu1 := Tryz.underlying139
  have hu3 := Tryz.underlying174
  go_enter Tryz.func233, Tryz.ntmps233
  go_wp2
  refine wp_loop_rounds 1 ?_
  rw [rounds_succ]
  go_wp2
  go_ret
  exact ⟨rfl, by repeat (first | exact Below.refl _ _ | apply below_alloc | apply pw_below_drewN | apply below_drew1)⟩
set_option maxHeartbeats 4000000 in
set_option maxRecDepth 100000 in
theorem l3Node_bare (k m u g t : Int) (d : ByteArray) (hk : k = 1 ∨ k = 2 ∨ k = 3) (hd : d.size < 4294967281) (w : World) :
    Calls Tryz.prog 176 #[.agg #[.slice none 0 0, .int .i64 0], .agg #[.int .i64 k, .int .i64 m, .int .i64 u, .int .i64 g, .int .i64 t, .string d, .slice none 0 0]] w
      fun e w' => e = .returned (.bool (bareB k m u g t d)) ∧ Below w.heap.size w w' := by
  have hu1 := Tryz.underlying139
  have hu2 := Tryz.underlying169
  have HM := Aside0.mk (fun W => spec_l1Mode.calls m _ W (l1Mode_f m))
  have HU := Aside0.mk (fun W => spec_l1In.calls u 0 99 _ W (l1In_f u 0 99))
  have HG := Aside0.mk (fun W => spec_l1In.calls g 0 99 _ W (l1In_f g 0 99))
  have HT := Aside0.mk (fun W => spec_l1In.calls t 0 1000000 _ W (l1In_f t 0 1000000))
  obtain ⟨kp, hkp⟩ := Ev.rounds (l2Path_ev d hd)
  have HP := Aside0.mk (fun W => spec_l2Path.calls kp d _ W hkp)
  have HE := Aside0.mk l3Entries_nil
  have HD : Aside0 (((d.toList == []) = nilB d) ∧ (d.toList.isEmpty = nilB d)) := ⟨nilB_eq d, by rw [← nilB_eq]; cases d.toList <;> rfl⟩
  have k0 : (k == 0) = false := beq_eq_false_iff_ne.mpr (by omega)
  clear hkp hd
  by_cases h1 : inB 0 511 m = true
  · by_cases h2 : inB 0 99 u = true
    · by_cases h3 : inB 0 99 g = true
      · by_cases h4 : inB 0 1000000 t = true
        · have HF : Aside0 (bareB k m u g t d = if k = 1 then decide (d.size ≤ 60) else if k = 3 then goodPathB d else nilB d) := ⟨by unfold bareB; rw [h1, h2, h3, h4]; rfl⟩
          rw [h1] at HM; rw [h2] at HU; rw [h3] at HG; rw [h4] at HT
          clear h1 h2 h3 h4
          rcases hk with rfl | rfl | rfl
          · rw [HF.out, if_pos rfl]
            clear HF HP HD HE k0
            by_cases hz : d.size ≤ 60
            · have hz1 : decide ((d.size : Int) ≤ 60) = true := by simp; omega
              have hz2 : decide (d.size ≤ 60) = true := by simp; omega
              rw [hz2]
              clear hz hz2
              go_enter Tryz.func176, Tryz.ntmps176
              go_wp2_with fail
              refine (HM.out _).mono ?_; rintro e w1 ⟨rfl, ⟨n1, rfl⟩⟩
              go_wp2_with fail
              refine (HU.out _).mono ?_; rintro e w1 ⟨rfl, ⟨n2, rfl⟩⟩
              go_wp2_with fail
              refine (HG.out _).mono ?_; rintro e w1 ⟨rfl, ⟨n3, rfl⟩⟩
              go_wp2_with fail
              refine (HT.out _).mono ?_; rintro e w1 ⟨rfl, ⟨n4, rfl⟩⟩
              go_wp2
              go_ret
              exact ⟨by first | rfl | (simp; done) | (simp; omega), by repeat (first | exact Below.refl _ _ | apply below_alloc | apply pw_below_drewN | apply below_drew1)⟩
            · have hz1 : decide ((d.size : Int) ≤ 60) = false := by simp; omega
              have hz2 : decide (d.size ≤ 60) = false := by simp; omega
              rw [hz2]
              clear hz hz2
              go_enter Tryz.func176, Tryz.ntmps176
              go_wp2_with fail
              refine (HM.out _).mono ?_; rintro e w1 ⟨rfl, ⟨n1, rfl⟩⟩
              go_wp2_with fail
              refine (HU.out _).mono ?_; rintro e w1 ⟨rfl, ⟨n2, rfl⟩⟩
              go_wp2_with fail
              refine (HG.out _).mono ?_; rintro e w1 ⟨rfl, ⟨n3, rfl⟩⟩
              go_wp2_with fail
              refine (HT.out _).mono ?_; rintro e w1 ⟨rfl, ⟨n4, rfl⟩⟩
              go_wp2
              go_ret
              exact ⟨by first | rfl | (simp; done) | (simp; omega), by repeat (first | exact Below.refl _ _ | apply below_alloc | apply pw_below_drewN | apply below_drew1)⟩
          · rw [HF.out, if_neg (by decide), if_neg (by decide)]
            by_cases hz : nilB d = true
            · have hz1 : d.toList = [] := by have := HD.out.1; rw [hz] at this; simpa using this
              rw [hz]
              clear HF HP HD k0 hz
              go_enter Tryz.func176, Tryz.ntmps176
              go_wp2_with fail
              refine (HM.out _).mono ?_; rintro e w1 ⟨rfl, ⟨n1, rfl⟩⟩
              go_wp2_with fail
              refine (HU.out _).mono ?_; rintro e w1 ⟨rfl, ⟨n2, rfl⟩⟩
              go_wp2_with fail
              refine (HG.out _).mono ?_; rintro e w1 ⟨rfl, ⟨n3, rfl⟩⟩
              go_wp2_with fail
              refine (HT.out _).mono ?_; rintro e w1 ⟨rfl, ⟨n4, rfl⟩⟩
              go_wp2_with fail
              refine (HE.out _).mono ?_; rintro e w1 ⟨rfl, hd⟩
              go_wp2
              go_ret
              exact ⟨by first | rfl | (simp; done), below_step (by repeat (first | exact Below.refl _ _ | apply below_alloc | apply pw_below_drewN | apply below_drew1)) hd⟩
            · have hz' : nilB d = false := by simpa using hz
              have hz1 : ¬ d.toList = [] := by intro e; have := HD.out.1; rw [hz', e] at this; simp at this
              rw [hz']
              clear HF HP HD HE k0 hz hz'
              go_enter Tryz.func176, Tryz.ntmps176
              go_wp2_with fail
              refine (HM.out _).mono ?_; rintro e w1 ⟨rfl, ⟨n1, rfl⟩⟩
              go_wp2_with fail
              refine (HU.out _).mono ?_; rintro e w1 ⟨rfl, ⟨n2, rfl⟩⟩
              go_wp2_with fail
              refine (HG.out _).mono ?_; rintro e w1 ⟨rfl, ⟨n3, rfl⟩⟩
              go_wp2_with fail
              refine (HT.out _).mono ?_; rintro e w1 ⟨rfl, ⟨n4, rfl⟩⟩
              go_wp2
              go_ret
              exact ⟨by first | rfl | (simp; done), by repeat (first | exact Below.refl _ _ | apply below_alloc | apply pw_below_drewN | apply below_drew1)⟩
          · rw [HF.out, if_neg (by decide), if_pos rfl]
            clear HF HD HE k0
            cases hq : goodPathB d
            all_goals
              rw [hq] at HP
              clear hq
              go_enter Tryz.func176, Tryz.ntmps176
              go_wp2_with fail
              refine (HM.out _).mono ?_; rintro e w1 ⟨rfl, ⟨n1, rfl⟩⟩
              go_wp2_with fail
              refine (HU.out _).mono ?_; rintro e w1 ⟨rfl, ⟨n2, rfl⟩⟩
              go_wp2_with fail
              refine (HG.out _).mono ?_; rintro e w1 ⟨rfl, ⟨n3, rfl⟩⟩
              go_wp2_with fail
              refine (HT.out _).mono ?_; rintro e w1 ⟨rfl, ⟨n4, rfl⟩⟩
              go_wp2_with fail
              refine (HP.out _).mono ?_; rintro e w1 ⟨rfl, hd⟩
              have hc := bcell hd
              go_wp2
              go_ret
              exact ⟨by first | rfl | (simp; done), below_step (by repeat (first | exact Below.refl _ _ | apply below_alloc | apply pw_below_drewN | apply below_drew1)) hd⟩
        · have HF : Aside0 (bareB k m u g t d = false) := ⟨by unfold bareB; simp [h1, h2, h3, h4]⟩
          have h' : inB 0 1000000 t = false := by simpa using h4
          rw [h1] at HM
          rw [h2] at HU
          rw [h3] at HG
          rw [h'] at HT
          rw [HF.out]
          clear  HP HD HE hk HF h' h1 h2 h3 h4
          go_enter Tryz.func176, Tryz.ntmps176
          go_wp2_with fail
          refine (HM.out _).mono ?_; rintro e w1 ⟨rfl, ⟨n1, rfl⟩⟩
          go_wp2_with fail
          refine (HU.out _).mono ?_; rintro e w1 ⟨rfl, ⟨n2, rfl⟩⟩
          go_wp2_with fail
          refine (HG.out _).mono ?_; rintro e w1 ⟨rfl, ⟨n3, rfl⟩⟩
          go_wp2_with fail
          refine (HT.out _).mono ?_; rintro e w1 ⟨rfl, ⟨n4, rfl⟩⟩
          go_wp2
          go_ret
          exact ⟨rfl, by repeat (first | exact Below.refl _ _ | apply below_alloc | apply pw_below_drewN | apply below_drew1)⟩
      · have HF : Aside0 (bareB k m u g t d = false) := ⟨by unfold bareB; simp [h1, h2, h3]⟩
        have h' : inB 0 99 g = false := by simpa using h3
        rw [h1] at HM
        rw [h2] at HU
        rw [h'] at HG
        rw [HF.out]
        clear HT HP HD HE hk HF h' h1 h2 h3
        go_enter Tryz.func176, Tryz.ntmps176
        go_wp2_with fail
        refine (HM.out _).mono ?_; rintro e w1 ⟨rfl, ⟨n1, rfl⟩⟩
        go_wp2_with fail
        refine (HU.out _).mono ?_; rintro e w1 ⟨rfl, ⟨n2, rfl⟩⟩
        go_wp2_with fail
        refine (HG.out _).mono ?_; rintro e w1 ⟨rfl, ⟨n3, rfl⟩⟩
        go_wp2
        go_ret
        exact ⟨rfl, by repeat (first | exact Below.refl _ _ | apply below_alloc | apply pw_below_drewN | apply below_drew1)⟩
    · have HF : Aside0 (bareB k m u g t d = false) := ⟨by unfold bareB; simp [h1, h2]⟩
      have h' : inB 0 99 u = false := by simpa using h2
      rw [h1] at HM
      rw [h'] at HU
      rw [HF.out]
      clear HG HT HP HD HE hk HF h' h1 h2
      go_enter Tryz.func176, Tryz.ntmps176
      go_wp2_with fail
      refine (HM.out _).mono ?_; rintro e w1 ⟨rfl, ⟨n1, rfl⟩⟩
      go_wp2_with fail
      refine (HU.out _).mono ?_; rintro e w1 ⟨rfl, ⟨n2, rfl⟩⟩
      go_wp2
      go_ret
      exact ⟨rfl, by repeat (first | exact Below.refl _ _ | apply below_alloc | apply pw_below_drewN | apply below_drew1)⟩
  · have HF : Aside0 (bareB k m u g t d = false) := ⟨by unfold bareB; simp [h1]⟩
    have h' : inB 0 511 m = false := by simpa using h1
    rw [h'] at HM
    rw [HF.out]
    clear HU HG HT HP HD HE hk HF h' h1
    go_enter Tryz.func176, Tryz.ntmps176
    go_wp2_with fail
    refine (HM.out _).mono ?_; rintro e w1 ⟨rfl, ⟨n1, rfl⟩⟩
    go_wp2
    go_ret
    exact ⟨rfl, by repeat (first | exact Below.refl _ _ | apply below_alloc | apply pw_below_drewN | apply below_drew1)⟩
def spec_l17Alone.f (a0_0 : ByteArray) (a0_1 : Int) (a0_2 : Int) (a0_3 : Int) (a0_4 : Int) (a0_5 : Int) (a0_6 : Int) (a0_7 : ByteArray) (a1 : Int) : Option Bool :=
  if a0_7.size < 4294967281 then some (inB 1 3 a0_1 && (inB 0 a1 a0_6 && (if a0_6 < a1 then a0_1 != 2 && (a0_2 == 0 && (a0_3 == 0 && (a0_4 == 0 && (a0_5 == 0 && nilB a0_7)))) else bareB a0_1 a0_2 a0_3 a0_4 a0_5 a0_7))) else none
set_option maxHeartbeats 4000000 in
set_option maxRecDepth 100000 in
theorem spec_l17Alone.calls (a0_0 : ByteArray) (a0_1 : Int) (a0_2 : Int) (a0_3 : Int) (a0_4 : Int) (a0_5 : Int) (a0_6 : Int) (a0_7 : ByteArray) (a1 : Int) (r : Bool) (w : World) (h : spec_l17Alone.f a0_0 a0_1 a0_2 a0_3 a0_4 a0_5 a0_6 a0_7 a1 = some r) :
    Calls Tryz.prog 126 #[.agg #[.string a0_0, .int .i64 a0_1, .int .i64 a0_2, .int .i64 a0_3, .int .i64 a0_4, .int .i64 a0_5, .int .i64 a0_6, .string a0_7], .int .i64 a1] w fun e w' => e = .returned (.bool r) ∧ Below w.heap.size w w' := by
  unfold spec_l17Alone.f at h
  by_cases hsz : a0_7.size < 4294967281
  case neg => rw [if_neg hsz] at h; cases h
  rw [if_pos hsz] at h
  injection h with h
  subst h
  have hu1 := Tryz.underlying139
  have hu2 := Tryz.underlying169
  have hu4 := Tryz.underlying74
  have HW := Aside0.mk (fun W => spec_l1In.calls a0_1 1 3 _ W (l1In_f a0_1 1 3))
  have HS := Aside0.mk (fun W => spec_l1In.calls a0_6 0 a1 _ W (l1In_f a0_6 0 a1))
  by_cases h1 : inB 1 3 a0_1 = true
  · have hk : a0_1 = 1 ∨ a0_1 = 2 ∨ a0_1 = 3 := by unfold inB at h1; simp at h1; omega
    have HN := Aside0.mk (fun W => l3Node_bare a0_1 a0_2 a0_3 a0_4 a0_5 a0_7 hk hsz W)
    rw [h1] at HW ⊢
    rw [Bool.true_and]
    clear h1 hk hsz
    by_cases h2 : inB 0 a1 a0_6 = true
    · rw [h2] at HS ⊢
      rw [Bool.true_and]
      clear h2
      by_cases h3 : a0_6 < a1
      · rw [if_pos h3]
        have h3' : decide (a0_6 < a1) = true := by simpa using h3
        clear h3 HN
        rw [← nilB_eq]
        generalize hq : (a0_1 != 2 && (a0_2 == 0 && (a0_3 == 0 && (a0_4 == 0 && (a0_5 == 0 && (a0_7.toList == [])))))) = q
        have HQ := Aside0.mk hq
        clear hq
        go_enter Tryz.func126, Tryz.ntmps126
        go_wp2_with fail
        refine (HW.out _).mono ?_; rintro e w1 ⟨rfl, ⟨n1, rfl⟩⟩
        go_wp2_with fail
        refine (HS.out _).mono ?_; rintro e w1 ⟨rfl, ⟨n2, rfl⟩⟩
        go_wp2
        all_goals
          go_ret
          refine ⟨?_, by repeat (first | exact Below.refl _ _ | apply below_alloc | apply pw_below_drewN | apply below_drew1)⟩
          rw [← HQ.out]
          simp_all
      · rw [if_neg h3]
        have h3' : decide (a0_6 < a1) = false := by simpa using h3
        clear h3
        generalize bareB a0_1 a0_2 a0_3 a0_4 a0_5 a0_7 = q at HN ⊢
        go_enter Tryz.func126, Tryz.ntmps126
        go_wp2_with fail
        refine (HW.out _).mono ?_; rintro e w1 ⟨rfl, ⟨n1, rfl⟩⟩
        go_wp2_with fail
        refine (HS.out _).mono ?_; rintro e w1 ⟨rfl, ⟨n2, rfl⟩⟩
        go_wp2_with fail
        refine (HN.out _).mono ?_; rintro e w1 ⟨rfl, hd⟩
        go_wp2
        go_ret
        exact ⟨rfl, below_step (by repeat (first | exact Below.refl _ _ | apply below_alloc | apply pw_below_drewN | apply below_drew1)) hd⟩
    · have h2' : inB 0 a1 a0_6 = false := by simpa using h2
      rw [h2'] at HS ⊢
      rw [Bool.false_and]
      clear h2 h2' HN
      go_enter Tryz.func126, Tryz.ntmps126
      go_wp2_with fail
      refine (HW.out _).mono ?_; rintro e w1 ⟨rfl, ⟨n1, rfl⟩⟩
      go_wp2_with fail
      refine (HS.out _).mono ?_; rintro e w1 ⟨rfl, ⟨n2, rfl⟩⟩
      go_wp2
      go_ret
      exact ⟨rfl, by repeat (first | exact Below.refl _ _ | apply below_alloc | apply pw_below_drewN | apply below_drew1)⟩
  · have h1' : inB 1 3 a0_1 = false := by simpa using h1
    rw [h1'] at HW ⊢
    rw [Bool.false_and]
    clear h1 h1' HS hsz
    go_enter Tryz.func126, Tryz.ntmps126
    go_wp2_with fail
    refine (HW.out _).mono ?_; rintro e w1 ⟨rfl, ⟨n1, rfl⟩⟩
    go_wp2
    go_ret
    exact ⟨rfl, by repeat (first | exact Below.refl _ _ | apply below_alloc | apply pw_below_drewN | apply below_drew1)⟩

end Go.Proofs.YthhmkbchdiflcaaGreatDoor.Q
