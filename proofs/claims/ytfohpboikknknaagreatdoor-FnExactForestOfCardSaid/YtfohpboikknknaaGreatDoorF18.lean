/- Texts of this claim, merged by a program (wip/tools/merge.py): HPureFs, HMarkText, HMarkNode, HMarkFs, HEqFs, HMark, HPureForest, HWalkForest. -/
import Derived.Test.YtfohpboikknknaaGreatDoorF2
import Derived.Test.YtfohpboikknknaaGreatDoorF5
import Derived.Test.YtfohpboikknknaaGreatDoorF6
import Derived.Test.YtfohpboikknknaaGreatDoorF16
import Derived.Test.YtfohpboikknknaaGreatDoorF14
import Derived.Outline
import Derived.Deep.RegionHeld3
import Derived.Test.YtfohpboikknknaaGreatDoorF3
import Derived.Test.YtfohpboikknknaaGreatDoorF17
namespace Go.Proofs.YtfohpboikknknaaGreatDoor.Q
open Go.RowKit Go.Proofs.YtfohpboikknknaaGreatDoorW.PrintWords Go.Proofs.YtfohpboikknknaaGreatDoorW.PrintLast Go.Proofs.YtfohpboikknknaaGreatDoorW.PrintMore
attribute [local go_sem] max2_int min2_int max_two min_two max_three min_three max_four min_four
set_option linter.unusedVariables false
set_option linter.unusedSimpArgs false
abbrev Ln := S115
abbrev Le := S199
def convE (x : Le) : En := ⟨x.f0, x.f1⟩
def convN (x : Ln) : Nd := ⟨x.f0, x.f1, x.f2, x.f3, x.f4, x.f5, x.f6.map convE⟩
theorem rdLe (xs : List Le) (i : Nat) (h : i < xs.length) : rd_T199 xs (i : Int) = xs[i] := by unfold rd_T199; simp [List.getD, h]
theorem rdLn (xs : List Ln) (i : Nat) (h : i < xs.length) : rd_T115 xs (i : Int) = xs[i] := by unfold rd_T115; simp [List.getD, h]
theorem szEntry_ev (x : Le) (a : Int) (h0 : x.f0.size ≤ maxLen) (ha : 0 ≤ a) (ha2 : a ≤ 1048576) :
    ∃ r, laws_szEntry.f x.f0 x.f1 a = some r ∧ r ≤ 1048576 ∧ (0 ≤ r → x.f0.size ≤ 1048576) := by
  unfold laws_szEntry.f wrap64
  unfold maxLen at h0
  split
  · exact ⟨_, rfl, by omega, by omega⟩
  · exact ⟨_, rfl, by omega, by omega⟩
theorem szEntryS_loop (l : List Le) (hl : l.length ≤ 1048576) (hs : ∀ x ∈ l, x.f0.size ≤ maxLen) (d : Nat) : ∀ (i : Nat) (a : Int), i + d = l.length → 0 ≤ a → a ≤ 1048576 →
    ∃ r, Ev (fun k => laws_szEntryS.l0 k l a (i : Int)) r ∧ r ≤ 1048576 ∧ (0 ≤ r → ∀ x ∈ l.drop i, x.f0.size ≤ 1048576) := by
  induction d with
  | zero =>
    intro i a hi h0 h1
    refine ⟨a, Ev.step (f := fun _ => some a) (fun k => ?_) (Ev.now a), h1, fun _ => ?_⟩
    · simp only [laws_szEntryS.l0]; rw [if_neg (by omega)]
    · rw [List.drop_of_length_le (by omega)]; simp
  | succ d ih =>
    intro i a hi h0 h1
    have hlt : i < l.length := by omega
    obtain ⟨r, hr, hr1, hr2⟩ := szEntry_ev l[i] a (hs l[i] (List.getElem_mem hlt)) h0 h1
    have e : ∀ k, laws_szEntryS.l0 (k + 1) l a (i : Int) = if r < 0 then some (-1) else laws_szEntryS.l0 k l r ((i + 1 : Nat) : Int) := fun k => by
      simp only [laws_szEntryS.l0]
      rw [if_pos (by omega), if_pos (by omega), rdLe _ _ hlt, hr, step_n (i := i) (n := l.length) hlt (by omega)]; rfl
    by_cases hc : r < 0
    · exact ⟨-1, Ev.step (f := fun _ => some (-1)) (fun k => by rw [e k, if_pos hc]) (Ev.now _), by omega, by omega⟩
    · obtain ⟨q, hq, hq1, hq2⟩ := ih (i + 1) r (by omega) (by omega) hr1
      refine ⟨q, Ev.step (f := fun k => laws_szEntryS.l0 k l r ((i + 1 : Nat) : Int)) (fun k => by rw [e k, if_neg hc]) hq, hq1, fun h => ?_⟩
      rw [List.drop_eq_getElem_cons hlt]
      intro x hx
      rcases List.mem_cons.mp hx with rfl | hx
      · exact hr2 (by omega)
      · exact hq2 h x hx
theorem szEntryS_ev (l : List Le) (hl : l.length ≤ maxLen) (hs : ∀ x ∈ l, x.f0.size ≤ maxLen) (a : Int) (h0 : 0 ≤ a) (h1 : a ≤ 1048576) :
    ∃ r, Ev (fun k => laws_szEntryS.f k l a) r ∧ r ≤ 1048576 ∧ (0 ≤ r → l.length ≤ 1048576 ∧ ∀ x ∈ l, x.f0.size ≤ 1048576) := by
  have e : wrap64 (a - (l.length : Int)) = a - l.length := by unfold wrap64; unfold maxLen at hl; omega
  by_cases hc : a - (l.length : Int) < 0
  · exact ⟨-1, Ev.congr (f := fun _ => some (-1)) (fun k => by simp only [laws_szEntryS.f]; rw [e, if_pos hc]) (Ev.now _), by omega, by omega⟩
  · obtain ⟨r, hr, h, hz⟩ := szEntryS_loop l (by omega) hs l.length 0 (a - l.length) (by omega) (by omega) (by omega)
    exact ⟨r, Ev.congr (fun k => by simp only [laws_szEntryS.f]; rw [e, if_neg hc]; rfl) hr, h, fun hr => ⟨by omega, by simpa using hz hr⟩⟩
structure LnBig (x : Ln) : Prop where
  data : x.f5.size ≤ maxLen
  len : x.f6.length ≤ maxLen
  name : ∀ e ∈ x.f6, e.f0.size ≤ maxLen
structure LnFit (x : Ln) : Prop where
  data : x.f5.size ≤ 1048576
  len : x.f6.length ≤ 1048576
  name : ∀ e ∈ x.f6, e.f0.size ≤ 1048576
theorem szNode_ev (x : Ln) (hx : LnBig x) (a : Int) (h0 : 0 ≤ a) (h1 : a ≤ 1048576) :
    ∃ r, Ev (fun k => laws_szNode.f k x.f0 x.f1 x.f2 x.f3 x.f4 x.f5 x.f6 a) r ∧ r ≤ 1048576 ∧ (0 ≤ r → LnFit x) := by
  have hd := hx.data
  have e : wrap64 (a - (x.f5.size : Int)) = a - x.f5.size := by unfold wrap64; unfold maxLen at hd; omega
  by_cases hc : a - (x.f5.size : Int) < 0
  · exact ⟨-1, Ev.congr (f := fun _ => some (-1)) (fun k => by simp only [laws_szNode.f]; rw [e, if_pos hc]) (Ev.now _), by omega, by omega⟩
  · obtain ⟨r, hr, h, hz⟩ := szEntryS_ev x.f6 hx.len hx.name (a - x.f5.size) (by omega) (by omega)
    by_cases hn : r < 0
    · refine ⟨-1, Ev.congr (f := fun k => (laws_szEntryS.f k x.f6 (a - x.f5.size)).bind fun t => if t < 0 then some (-1) else some t) (fun k => by simp only [laws_szNode.f]; rw [e, if_neg hc]) (Ev.bind hr (Ev.congr (f := fun _ => some (-1)) (fun k => by rw [if_pos hn]) (Ev.now _))), by omega, by omega⟩
    · refine ⟨r, Ev.congr (f := fun k => (laws_szEntryS.f k x.f6 (a - x.f5.size)).bind fun t => if t < 0 then some (-1) else some t) (fun k => by simp only [laws_szNode.f]; rw [e, if_neg hc]) (Ev.bind hr (Ev.congr (f := fun _ => some r) (fun k => by rw [if_neg hn]) (Ev.now _))), h, fun hp => ⟨by omega, (hz hp).1, (hz hp).2⟩⟩
theorem szNodeS_loop (l : List Ln) (hl : l.length ≤ 1048576) (hs : ∀ x ∈ l, LnBig x) (d : Nat) : ∀ (i : Nat) (a : Int), i + d = l.length → 0 ≤ a → a ≤ 1048576 →
    ∃ r, Ev (fun k => laws_szNodeS.l0 k l a (i : Int)) r ∧ r ≤ 1048576 ∧ (0 ≤ r → ∀ x ∈ l.drop i, LnFit x) := by
  induction d with
  | zero =>
    intro i a hi h0 h1
    refine ⟨a, Ev.step (f := fun _ => some a) (fun k => ?_) (Ev.now a), h1, fun _ => ?_⟩
    · simp only [laws_szNodeS.l0]; rw [if_neg (by omega)]
    · rw [List.drop_of_length_le (by omega)]; simp
  | succ d ih =>
    intro i a hi h0 h1
    have hlt : i < l.length := by omega
    obtain ⟨r, hr, hr1, hr2⟩ := szNode_ev l[i] (hs l[i] (List.getElem_mem hlt)) a h0 h1
    have e : ∀ k, laws_szNodeS.l0 (k + 1) l a (i : Int) = (laws_szNode.f k l[i].f0 l[i].f1 l[i].f2 l[i].f3 l[i].f4 l[i].f5 l[i].f6 a).bind fun t => if t < 0 then some (-1) else laws_szNodeS.l0 k l t ((i + 1 : Nat) : Int) := fun k => by
      simp only [laws_szNodeS.l0]
      rw [if_pos (by omega), if_pos (by omega), rdLn _ _ hlt, step_n (i := i) (n := l.length) hlt (by omega)]
    by_cases hc : r < 0
    · exact ⟨-1, Ev.step e (Ev.bind hr (Ev.congr (f := fun _ => some (-1)) (fun k => by rw [if_pos hc]) (Ev.now _))), by omega, by omega⟩
    · obtain ⟨q, hq, hq1, hq2⟩ := ih (i + 1) r (by omega) (by omega) hr1
      refine ⟨q, Ev.step e (Ev.bind hr (Ev.congr (fun k => by rw [if_neg hc]) hq)), hq1, fun h => ?_⟩
      rw [List.drop_eq_getElem_cons hlt]
      intro x hx
      rcases List.mem_cons.mp hx with rfl | hx
      · exact hr2 (by omega)
      · exact hq2 h x hx
theorem conv_fit {l : List Ln} (h0 : l.length ≤ 1048576) (h : ∀ x ∈ l, LnFit x) : FsFit (l.map convN) := by
  refine ⟨by rw [List.length_map]; exact h0, fun x hx => ?_, fun x hx => ?_, fun x hx e he => ?_⟩
  · obtain ⟨y, hy, rfl⟩ := List.mem_map.mp hx; exact (h y hy).data
  · obtain ⟨y, hy, rfl⟩ := List.mem_map.mp hx; show (y.f6.map convE).length ≤ _; rw [List.length_map]; exact (h y hy).len
  · obtain ⟨y, hy, rfl⟩ := List.mem_map.mp hx
    obtain ⟨z, hz, rfl⟩ := List.mem_map.mp (show e ∈ y.f6.map convE from he)
    exact (h y hy).name z hz
theorem szFs_ev (l : List Ln) (room : Int) (hl : l.length ≤ maxLen) (hs : ∀ x ∈ l, LnBig x) (a : Int) (h0 : 0 ≤ a) (h1 : a ≤ 1048576) :
    ∃ r, Ev (fun k => laws_szFs.f k l room a) r ∧ r ≤ 1048576 ∧ (0 ≤ r → l.length ≤ 1048576 ∧ (∀ x ∈ l, LnFit x) ∧ FsFit (l.map convN)) := by
  have e : wrap64 (a - (l.length : Int)) = a - l.length := by unfold wrap64; unfold maxLen at hl; omega
  by_cases hc : a - (l.length : Int) < 0
  · have hN : Ev (fun k => laws_szNodeS.f k l a) (-1) := Ev.congr (f := fun _ => some (-1)) (fun k => by simp only [laws_szNodeS.f]; rw [e, if_pos hc]) (Ev.now _)
    refine ⟨-1, Ev.congr (f := fun k => (laws_szNodeS.f k l a).bind fun t => if t < 0 then some (-1) else some t) (fun k => by simp only [laws_szFs.f]) (Ev.bind hN (Ev.congr (f := fun _ => some (-1)) (fun k => by rw [if_pos (by omega)]) (Ev.now _))), by omega, by omega⟩
  · obtain ⟨r, hr, h, hz⟩ := szNodeS_loop l (by omega) hs l.length 0 (a - l.length) (by omega) (by omega) (by omega)
    have hN : Ev (fun k => laws_szNodeS.f k l a) r := Ev.congr (fun k => by simp only [laws_szNodeS.f]; rw [e, if_neg hc]; rfl) hr
    by_cases hn : r < 0
    · refine ⟨-1, Ev.congr (f := fun k => (laws_szNodeS.f k l a).bind fun t => if t < 0 then some (-1) else some t) (fun k => by simp only [laws_szFs.f]) (Ev.bind hN (Ev.congr (f := fun _ => some (-1)) (fun k => by rw [if_pos hn]) (Ev.now _))), by omega, by omega⟩
    · refine ⟨r, Ev.congr (f := fun k => (laws_szNodeS.f k l a).bind fun t => if t < 0 then some (-1) else some t) (fun k => by simp only [laws_szFs.f]) (Ev.bind hN (Ev.congr (f := fun _ => some r) (fun k => by rw [if_neg hn]) (Ev.now _))), h, fun hp => ?_⟩
      have hall : ∀ x ∈ l, LnFit x := by simpa using hz hp
      exact ⟨by omega, hall, conv_fit (by omega) hall⟩
theorem toEntryS_loop (l0 : List Le) (hl : l0.length ≤ 1048576) (d : Nat) : ∀ (i : Nat) (acc : List En), i + d = l0.length → acc.length = l0.length →
    Ev (fun k => laws_toEntryS.l0 k l0 acc (i : Int)) (acc.take i ++ (l0.drop i).map convE) := by
  induction d with
  | zero =>
    intro i acc hi ha
    refine Ev.step (f := fun _ => some acc) (fun k => ?_) ?_
    · simp only [laws_toEntryS.l0]; rw [if_neg (by omega)]
    · have : acc.take i ++ (l0.drop i).map convE = acc := by
        rw [List.drop_of_length_le (by omega), List.take_of_length_le (by omega)]; simp
      rw [this]; exact Ev.now acc
  | succ d ih =>
    intro i acc hi ha
    have hlt : i < l0.length := by omega
    have := ih (i + 1) (acc.set i (convE l0[i])) (by omega) (by simpa using ha)
    refine Ev.step (f := fun k => laws_toEntryS.l0 k l0 (acc.set i (convE l0[i])) ((i + 1 : Nat) : Int)) (fun k => ?_) ?_
    · simp only [laws_toEntryS.l0]
      rw [if_pos (by omega), if_pos (by omega)]
      simp only [laws_toEntry.f, Option.bind_some]
      rw [if_pos (by omega), step_n (i := i) (n := l0.length) hlt (by omega), rdLe _ _ hlt]; rfl
    · have e : (acc.set i (convE l0[i])).take (i + 1) ++ (l0.drop (i + 1)).map convE = acc.take i ++ (l0.drop i).map convE := by
        rw [List.drop_eq_getElem_cons hlt, List.map_cons, List.take_succ_eq_append_getElem (by simp; omega), List.take_set_of_le (by omega), List.getElem_set_self, List.append_assoc]; rfl
      rw [← e]; exact this
theorem toEntryS_ev (l0 : List Le) (hl : l0.length ≤ 1048576) : Ev (fun k => laws_toEntryS.f k l0) (l0.map convE) := by
  refine Ev.congr (f := fun k => laws_toEntryS.l0 k l0 (List.replicate l0.length z144) ((0 : Nat) : Int)) (fun k => ?_) ?_
  · simp only [laws_toEntryS.f]
    rw [if_pos (by omega), if_pos (by omega)]; rfl
  · simpa using toEntryS_loop l0 hl l0.length 0 (List.replicate l0.length z144) (by omega) (by simp)
theorem toNodeS_loop (l0 : List Ln) (hl : l0.length ≤ 1048576) (hs : ∀ x ∈ l0, LnFit x) (d : Nat) : ∀ (i : Nat) (acc : List Nd), i + d = l0.length → acc.length = l0.length →
    Ev (fun k => laws_toNodeS.l0 k l0 acc (i : Int)) (acc.take i ++ (l0.drop i).map convN) := by
  induction d with
  | zero =>
    intro i acc hi ha
    refine Ev.step (f := fun _ => some acc) (fun k => ?_) ?_
    · simp only [laws_toNodeS.l0]; rw [if_neg (by omega)]
    · have : acc.take i ++ (l0.drop i).map convN = acc := by
        rw [List.drop_of_length_le (by omega), List.take_of_length_le (by omega)]; simp
      rw [this]; exact Ev.now acc
  | succ d ih =>
    intro i acc hi ha
    have hlt : i < l0.length := by omega
    have h := ih (i + 1) (acc.set i (convN l0[i])) (by omega) (by simpa using ha)
    have e : (acc.set i (convN l0[i])).take (i + 1) ++ (l0.drop (i + 1)).map convN = acc.take i ++ (l0.drop i).map convN := by
      rw [List.drop_eq_getElem_cons hlt, List.map_cons, List.take_succ_eq_append_getElem (by simp; omega), List.take_set_of_le (by omega), List.getElem_set_self, List.append_assoc]; rfl
    rw [e] at h
    have ht := toEntryS_ev l0[i].f6 (hs _ (List.getElem_mem hlt)).len
    refine Ev.step (f := fun k => (laws_toEntryS.f k l0[i].f6).bind fun t => laws_toNodeS.l0 k l0 (acc.set i ⟨l0[i].f0, l0[i].f1, l0[i].f2, l0[i].f3, l0[i].f4, l0[i].f5, t⟩) ((i + 1 : Nat) : Int)) (fun k => ?_) (Ev.bind ht h)
    simp only [laws_toNodeS.l0]
    rw [if_pos (by omega), if_pos (by omega)]
    simp only [laws_toNode.f]
    rw [rdLn _ _ hlt, step_n (i := i) (n := l0.length) hlt (by omega)]
    cases laws_toEntryS.f k l0[i].f6 with
    | none => rfl
    | some t => simp only [Option.bind_some]; rw [if_pos (by omega)]; rfl
theorem toFs_ev (l0 : List Ln) (room : Int) (hl : l0.length ≤ 1048576) (hs : ∀ x ∈ l0, LnFit x) : Ev (fun k => laws_toFs.f k l0 room) (l0.map convN, room) := by
  have h : Ev (fun k => laws_toNodeS.f k l0) (l0.map convN) := by
    refine Ev.congr (f := fun k => laws_toNodeS.l0 k l0 (List.replicate l0.length z85) ((0 : Nat) : Int)) (fun k => ?_) ?_
    · simp only [laws_toNodeS.f]
      rw [if_pos (by omega), if_pos (by omega)]; rfl
    · simpa using toNodeS_loop l0 hl hs l0.length 0 (List.replicate l0.length z85) (by omega) (by simp)
  exact Ev.congr (fun k => by simp only [laws_toFs.f]) (Ev.bind (f := fun _ t => some (t, room)) h (Ev.now _))
theorem eqEntryS_ev (l : List En) (hl : l.length ≤ 1048576) : Ev (fun k => laws_eqEntryS.f k l l) true := by
  have key : ∀ d i : Nat, i + d = l.length → Ev (fun k => laws_eqEntryS.l0 k l l (i : Int)) true := by
    intro d
    induction d with
    | zero =>
      intro i hi
      refine Ev.step (f := fun _ => some true) (fun k => ?_) (Ev.now true)
      simp only [laws_eqEntryS.l0]; rw [if_neg (by omega)]
    | succ d ih =>
      intro i hi
      have hlt : i < l.length := by omega
      refine Ev.step (f := fun k => laws_eqEntryS.l0 k l l ((i + 1 : Nat) : Int)) (fun k => ?_) (ih (i + 1) (by omega))
      simp only [laws_eqEntryS.l0]
      rw [if_pos (by omega), if_pos (by omega), if_pos (by omega), rdEn _ _ hlt, step_n (i := i) (n := l.length) hlt (by omega)]
      simp [laws_eqEntry.f]
  refine Ev.congr (f := fun k => laws_eqEntryS.l0 k l l ((0 : Nat) : Int)) (fun k => ?_) (key l.length 0 (by omega))
  simp only [laws_eqEntryS.f, if_true]; rfl
theorem mark_one (n : Int) (h0 : 0 ≤ n) (h1 : n < 10) : (strOfNums ([(wrap64 (48 + n)) % 256] : List Int)).size = 1 := by
  obtain ⟨i, rfl⟩ : ∃ i : Fin 10, n = (i.val : Int) := ⟨⟨n.toNat, by omega⟩, by simp; omega⟩
  revert i
  decide +kernel
theorem markText_loop : ∀ (u : Nat) (x : ByteArray), u + x.size ≤ 4611686018427387904 → ∃ r, Ev (fun k => laws_markText.l0 k (u : Int) x) r := by
  intro u
  induction u using Nat.strongRecOn with
  | _ u ih =>
    intro x hx
    by_cases h : u = 0
    · refine ⟨(⟨#[109]⟩ : ByteArray) ++ x, Ev.step (f := fun _ => some ((⟨#[109]⟩ : ByteArray) ++ x)) (fun k => ?_) (Ev.now _)⟩
      simp only [laws_markText.l0]
      rw [if_neg (by omega), if_pos (by omega)]
    · have e1 : wrap64 (Int.tdiv (u : Int) 10) = ((u / 10 : Nat) : Int) := by
        rw [Int.tdiv_eq_ediv_of_nonneg (by omega)]; unfold wrap64; omega
      have e2 : Int.tmod (u : Int) 10 = ((u % 10 : Nat) : Int) := by
        rw [Int.tmod_eq_emod_of_nonneg (by omega)]; omega
      have e3 := mark_one ((u % 10 : Nat) : Int) (by omega) (by omega)
      obtain ⟨r, hr⟩ := ih (u / 10) (by omega) (strOfNums ([(wrap64 (48 + ((u % 10 : Nat) : Int))) % 256] : List Int) ++ x) (by rw [ByteArray.size_append, e3]; omega)
      refine ⟨r, Ev.step (fun k => ?_) hr⟩
      simp only [laws_markText.l0]
      rw [if_pos (by omega), e1, e2]
      simp only [Option.bind_some]
      rw [if_pos (by omega)]
theorem markText_ev (n : Int) (h0 : 0 ≤ n) (h1 : n ≤ 4611686018427387904) : ∃ r, Ev (fun k => laws_markText.f k n) r := by
  unfold laws_markText.f
  by_cases h : n ≤ 0
  · exact ⟨_, Ev.congr (fun k => by rw [if_pos h]) (Ev.now _)⟩
  · obtain ⟨r, hr⟩ := markText_loop n.toNat ⟨#[]⟩ (by show n.toNat + 0 ≤ _; omega)
    rw [Int.toNat_of_nonneg h0] at hr
    exact ⟨r, Ev.congr (fun k => by rw [if_neg h]) hr⟩
open Classical in
noncomputable def markB (n : Int) : ByteArray := if h : ∃ r, Ev (fun k => laws_markText.f k n) r then Classical.choose h else ⟨#[]⟩
theorem markB_ev (n : Int) (h0 : 0 ≤ n) (h1 : n ≤ 4611686018427387904) : Ev (fun k => laws_markText.f k n) (markB n) := by
  have h := markText_ev n h0 h1
  unfold markB
  rw [dif_pos h]
  exact Classical.choose_spec h
noncomputable def markE (n : Int) : En := ⟨markB n, n + 1⟩
noncomputable def markEL (n : Int) : Nat → List En
  | 0 => []
  | d + 1 => markE n :: markEL (n + 2) d
theorem rd_setE (l : List En) (i : Nat) (v : En) (h : i < l.length) : rd_T144 (l.set i v) (i : Int) = v := by
  rw [rdEn _ _ (by rw [List.length_set]; exact h)]; simp
theorem markEntryS_loop (d : Nat) : ∀ (l : List En) (i : Nat) (n : Int), i + d = l.length → l.length ≤ 1048576 → 0 ≤ n → n + 2 * d ≤ 4611686018427380000 →
    Ev (fun k => laws_markEntryS.l0 k l n (i : Int)) (n + 2 * d, l.take i ++ markEL n d) := by
  induction d with
  | zero =>
    intro l i n hi hl h0 h1
    rw [List.take_of_length_le (by omega)]
    refine Ev.step (f := fun _ => some (n, l)) (fun k => ?_) ?_
    · simp only [laws_markEntryS.l0]; rw [if_neg (by omega)]
    · have : ((n + 2 * ((0 : Nat) : Int), l ++ markEL n 0) : Int × List En) = (n, l) := by simp [markEL]
      rw [this]; exact Ev.now _
  | succ d ih =>
    intro l i n hi hl h0 h1
    have hlt : i < l.length := by omega
    have hih := ih (l.set i (markE n)) (i + 1) (n + 2) (by rw [List.length_set]; omega) (by rw [List.length_set]; omega) (by omega) (by omega)
    have w1 : wrap64 (n + 1) = n + 1 := by unfold wrap64; omega
    have w2 : wrap64 (n + 1 + 1) = n + 2 := by unfold wrap64; omega
    refine Ev.step (f := fun k => (laws_markText.f k n).bind fun t => laws_markEntryS.l0 k (l.set i ⟨t, n + 1⟩) (n + 2) ((i + 1 : Nat) : Int)) (fun k => ?_) ?_
    · simp only [laws_markEntryS.l0]
      rw [if_pos (by omega)]
      congr 1
      funext t
      rw [if_pos (by omega)]
      simp only [Option.bind_some, Int.toNat_natCast, rd_setE _ _ _ hlt, List.set_set, w1, w2, step_n (i := i) (n := l.length) hlt (by omega)]
    · refine Ev.bind (markB_ev n h0 (by omega)) ?_
      have e : l.take i ++ markEL n (d + 1) = (l.set i (markE n)).take (i + 1) ++ markEL (n + 2) d := by
        rw [List.take_succ_eq_append_getElem (by simp; omega), List.take_set_of_le (by omega), List.getElem_set_self, List.append_assoc]; rfl
      rw [e, show n + 2 * ((d + 1 : Nat) : Int) = n + 2 + 2 * (d : Int) by omega]
      exact hih
theorem markEntryS_ev (l : List En) (n : Int) (hl : l.length ≤ 1048576) (h0 : 0 ≤ n) (h1 : n ≤ 4611686018420000000) : Ev (fun k => laws_markEntryS.f k l n) (n + 2 * (l.length : Int), markEL n l.length) := by
  have := markEntryS_loop l.length l 0 n (by omega) hl h0 (by omega)
  unfold laws_markEntryS.f
  simpa using this
noncomputable def markN (n : Int) (d : Nat) : Nd := ⟨n, n + 1, n + 2, n + 3, n + 4, markB (n + 5), markEL (n + 6) d⟩
noncomputable def markNL : Int → List Nd → List Nd
  | _, [] => []
  | n, x :: r => markN n x.f6.length :: markNL (n + 6 + 2 * (x.f6.length : Int)) r
def markEnd : Int → List Nd → Int
  | n, [] => n
  | n, x :: r => markEnd (n + 6 + 2 * (x.f6.length : Int)) r
theorem markEnd_le : ∀ (l : List Nd) (n : Int), (∀ x ∈ l, x.f6.length ≤ 1048576) → n ≤ markEnd n l ∧ markEnd n l ≤ n + 2097158 * (l.length : Int)
  | [], n, _ => by simp [markEnd]
  | x :: r, n, h => by
    have h1 := markEnd_le r (n + 6 + 2 * (x.f6.length : Int)) (fun y hy => h y (List.mem_cons_of_mem _ hy))
    have h2 := h x (by simp)
    unfold markEnd
    rw [List.length_cons]
    omega
theorem markText_call (m : Int) (h0 : 0 ≤ m) (h1 : m ≤ 4611686018427387904) (W : World) : Calls Tryz.prog 43 #[.int .i64 m] W fun e w' => e = .returned (.string (markB m)) ∧ Below W.heap.size W w' := by
  obtain ⟨K, hK⟩ := markB_ev m h0 h1
  exact laws_markText.calls K m _ W (hK K (Nat.le_refl _))
theorem wr1 {N : Int} (h0 : 0 ≤ N) (h1 : N ≤ 4611686018427387000) : wrap64 (N + 1) = N + 1 := by unfold wrap64; omega
theorem own_shapeM {α : Type} {d : Kd α} {e base : Nat} {ok : Nat → Prop} {w : World} {A : Option Addr} {n c : Nat} {xs : List α} (h : Kd.R d e w base ok (.slice A n c) xs) (hx : 0 < xs.length) : ∃ g, A = some ⟨g, 0, none⟩ ∧ ok g ∧ g < w.heap.size ∧ base ≤ g := by
  obtain ⟨inner, ho⟩ := Kd.R_own h
  rcases ho.2 with ⟨_, h0⟩ | ⟨g, cap, cur, e1, hg, hh, r⟩
  · omega
  · injection e1 with e2 _ _
    exact ⟨g, e2, h.1 g (by rw [e2]; rfl), blk_lt hh, hg⟩
theorem wrq {m : Int} (h0 : 0 ≤ m) (h1 : m ≤ 4611686018427387000) (k j : Int) (hk : 0 ≤ k ∧ k ≤ 100) (hj : j = k + 1) : wrap64 (m + k + 1) = m + j := by unfold wrap64; omega
theorem meas_upM {i n : Nat} {z : Int} (h : i < n) (hz : z = ((i + 1 : Nat) : Int)) : n - (intOf (Value.int .i64 z)).toNat < n - (intOf (Value.int .i64 (i : Int))).toNat := by subst hz; show n - (((i + 1 : Nat) : Int)).toNat < n - ((i : Int)).toNat; omega
set_option maxHeartbeats 8000000 in
set_option maxRecDepth 100000 in
theorem markNodeS_walk (P : Nat → Prop) (v : Value) (l : List Nd) (n : Int) (w0 w : World) (hB : Below w0.heap.size w0 w) (ho : Kd.S k85 85 w w0.heap.size P v l) (hl : l.length ≤ 1048576) (hs : ∀ x ∈ l, x.f6.length ≤ 1048576) (h0 : 0 ≤ n) (h1 : n ≤ 1000000000) :
    Calls Tryz.prog 42 #[v, .int .i64 n] w fun e w' => e = .returned (.int .i64 (markEnd n l)) ∧ Kd.S k85 85 w' w0.heap.size P v (markNL n l) ∧ Below w0.heap.size w0 w' ∧ Kept w w' P := by
  have hu1 := Tryz.underlying85
  have hu2 := Tryz.underlying32
  have HO := Aside0.mk ho
  have HB := Aside0.mk hB
  have HL := Aside0.mk hl
  have HS := Aside0.mk hs
  have H0 := Aside0.mk h0
  have H1 := Aside0.mk h1
  obtain ⟨A0, c0, rfl⟩ := Kd.R_slice (Kd.S_R ho)
  clear ho hB hl hs h0 h1
  go_enter Tryz.func42, Tryz.ntmps42
  go_wp2
  go_loopw [1, 5] (fun v1 v5 wr => ∃ (i : Nat) (m : Int) (q : List Nd), i ≤ l.length ∧ v1 = .int .i64 m ∧ v5 = .int .i64 (i : Int) ∧ Aside0 (q.length = i ∧ 0 ≤ m ∧ m ≤ n + 2097158 * (i : Int)) ∧ Aside0 (Kd.S k85 85 wr w0.heap.size P (.slice A0 l.length c0) (q ++ l.drop i)) ∧ Aside0 (q ++ markNL m (l.drop i) = markNL n l ∧ markEnd m (l.drop i) = markEnd n l) ∧ Aside0 (Below w0.heap.size w0 wr) ∧ Aside0 (Kept w wr P)) (fun _ v5 _ => l.length - (intOf v5).toNat)
  case atStart => exact ⟨0, n, [], Nat.zero_le _, rfl, rfl, ⟨rfl, H0.out, by omega⟩, ⟨by rw [List.nil_append, List.drop_zero]; exact HO.out⟩, ⟨rfl, rfl⟩, HB, ⟨Kept.refl _ _⟩⟩
  case round =>
    clear HO HB
    obtain ⟨i, m, q, hi, rfl, rfl, HQ, HO, HE, HB, HK⟩ := hrel
    by_cases hlt : i < l.length
    case neg =>
      have hil : i = l.length := by omega
      subst hil
      have p9 : decide ((l.length : Int) < (l.length : Int)) = false := by simp
      have HE2 : Aside0 (q = markNL n l ∧ m = markEnd n l) := ⟨by
        have h := HE.out
        rw [List.drop_length] at h
        exact ⟨by rw [← h.1]; simp [markNL], h.2⟩⟩
      clear hlt hi
      go_wp2
      go_ret
      refine ⟨by rw [HE2.out.2]; rfl, ?_, HB.out, HK.out⟩
      have h := HO.out
      rw [List.drop_length, List.append_nil, HE2.out.1] at h
      exact h
    case pos =>
      have hq := HQ.out
      have hxl : (q ++ l.drop i).length = l.length := by rw [List.length_append, List.length_drop]; omega
      obtain ⟨go, hgo, hPg, hgl, hgb⟩ := own_shapeM (Kd.S_R HO.out) (by omega)
      subst hgo
      obtain ⟨oki, ce, hcl, hM, hcc, hfr, hoki, hH⟩ := Kd.S_elem HO.out z85 (i : Int) (by omega) (by omega)
      obtain ⟨x, hx⟩ : ∃ x, x = l[i] := ⟨_, rfl⟩
      have hxx : (q ++ l.drop i).getD (i : Int).toNat z85 = x := by
        rw [Int.toNat_natCast, List.getD_eq_getElem?_getD, List.getElem?_append_right (by omega), hq.1, Nat.sub_self, List.drop_eq_getElem_cons hlt, hx]; rfl
      rw [hxx] at hM
      obtain ⟨v6, rfl, g6⟩ := k85_openM hM
      obtain ⟨A6, c6, rfl⟩ := Kd.R_slice g6
      have hx0 : wr.cell? ⟨go, i * 7, none⟩ = some (.int .i64 x.f0) := hcc 0 _ rfl
      have hx1 : wr.cell? ⟨go, i * 7 + 1, none⟩ = some (.int .i64 x.f1) := hcc 1 _ rfl
      have hx2 : wr.cell? ⟨go, i * 7 + 2, none⟩ = some (.int .i64 x.f2) := hcc 2 _ rfl
      have hx3 : wr.cell? ⟨go, i * 7 + 3, none⟩ = some (.int .i64 x.f3) := hcc 3 _ rfl
      have hx4 : wr.cell? ⟨go, i * 7 + 4, none⟩ = some (.int .i64 x.f4) := hcc 4 _ rfl
      have hx5 : wr.cell? ⟨go, i * 7 + 5, none⟩ = some (.string x.f5) := hcc 5 _ rfl
      have hx6 : wr.cell? ⟨go, i * 7 + 6, none⟩ = some (.slice A6 x.f6.length c6) := hcc 6 _ rfl
      have hf0 : wr.frozen? ⟨go, i * 7, none⟩ = false := hfr 0
      have hf1 : wr.frozen? ⟨go, i * 7 + 1, none⟩ = false := hfr 1
      have hf2 : wr.frozen? ⟨go, i * 7 + 2, none⟩ = false := hfr 2
      have hf3 : wr.frozen? ⟨go, i * 7 + 3, none⟩ = false := hfr 3
      have hf4 : wr.frozen? ⟨go, i * 7 + 4, none⟩ = false := hfr 4
      have hf5 : wr.frozen? ⟨go, i * 7 + 5, none⟩ = false := hfr 5
      have HXL : Aside0 (x.f6.length ≤ 1048576) := ⟨HS.out x (by rw [hx]; exact List.getElem_mem hlt)⟩
      have HMB : Aside0 (0 ≤ m ∧ m ≤ 2300000000000) := ⟨hq.2.1, by have := hq.2.2; have := HL.out; have := H1.out; omega⟩
      have HDR : Aside0 (l.drop i = x :: l.drop (i + 1)) := ⟨by rw [List.drop_eq_getElem_cons hlt, hx]⟩
      have HLT := Aside0.mk hlt
      have p9 : decide ((i : Int) < (l.length : Int)) = true := decide_eq_true (by omega)
      have p8 : ((i : Int) < (l.length : Int)) = True := eq_true (by omega)
      have p7 : ((0 : Int) ≤ (i : Int)) = True := eq_true (by omega)
      have hwi : wrap64 ((i : Int) + 1) = ((i + 1 : Nat) : Int) := step_n (i := i) (n := l.length) hlt (by have := HL.out; omega)
      have HWI := Aside0.mk hwi
      have wa1 : wrap64 (m + 1) = m + 1 := wr1 HMB.out.1 (by have := HMB.out; omega)
      have wa2 : wrap64 (m + 1 + 1) = m + 2 := wrq HMB.out.1 (by have := HMB.out; omega) 1 2 (by omega) (by omega)
      have wa3 : wrap64 (m + 2 + 1) = m + 3 := wrq HMB.out.1 (by have := HMB.out; omega) 2 3 (by omega) (by omega)
      have wa4 : wrap64 (m + 3 + 1) = m + 4 := wrq HMB.out.1 (by have := HMB.out; omega) 3 4 (by omega) (by omega)
      have wa5 : wrap64 (m + 4 + 1) = m + 5 := wrq HMB.out.1 (by have := HMB.out; omega) 4 5 (by omega) (by omega)
      have wa6 : wrap64 (m + 5 + 1) = m + 6 := wrq HMB.out.1 (by have := HMB.out; omega) 5 6 (by omega) (by omega)
      have HH := Aside0.mk hH
      have G6 := Aside0.mk g6
      have HOK := Aside0.mk hoki
      have HGO : Aside0 (P go ∧ w0.heap.size ≤ go ∧ go < wr.heap.size) := ⟨hPg, hgb, hgl⟩
      have HXS := Aside0.mk hxl
      clear hq hxl hPg hgl hgb hcl hM hcc hfr hoki hH hx hxx g6 hlt hi
      go_upto_region 14 with (fail)
      obtain ⟨W1, hW1⟩ : ∃ V, V = ((((wr.setCell ⟨go, i * 7, none⟩ (.int .i64 m)).setCell ⟨go, i * 7 + 1, none⟩ (.int .i64 (m + 1))).setCell ⟨go, i * 7 + 2, none⟩ (.int .i64 (m + 2))).setCell ⟨go, i * 7 + 3, none⟩ (.int .i64 (m + 3))).setCell ⟨go, i * 7 + 4, none⟩ (.int .i64 (m + 4)) := ⟨_, rfl⟩
      have hs1 := Kd.H_seg HH.out (by omega) (by have := HLT.out; omega) (seg := [(.int .i64 m), (.int .i64 (m + 1)), (.int .i64 (m + 2)), (.int .i64 (m + 3)), (.int .i64 (m + 4))]) (j := 0) (show 5 ≤ 7 by decide) (fun u hu => by simp at hu; rcases hu with rfl | rfl | rfl | rfl | rfl <;> rfl)
      have hg1 : wr.grownBy W1 (some go) := by rw [hW1]; exact hs1.2
      have HH1 : Aside0 (Kd.H k85 85 W1 w0.heap.size P (.slice (some ⟨go, 0, none⟩) l.length c0) (q ++ l.drop i) (i : Int) oki [(.int .i64 m), (.int .i64 (m + 1)), (.int .i64 (m + 2)), (.int .i64 (m + 3)), (.int .i64 (m + 4)), (.string x.f5), (.slice A6 x.f6.length c6)]) := ⟨by rw [hW1]; exact hs1.1⟩
      have HB1 : Aside0 (Below w0.heap.size w0 W1) := ⟨HB.out.grown hg1 HB.out.size (fun k hk => by cases hk; exact HGO.out.2.1)⟩
      have HK1 : Aside0 (Kept w W1 P) := ⟨Kept.of_grown hg1 HK.out (fun k hk => by cases hk; exact .inl HGO.out.1)⟩
      have G61 := Aside0.mk (Kd.R_grown G6.out hg1 (fun k hk e => (HOK.out k hk).2 (by injection e)))
      rw [← hW1]
      clear hW1 hs1 hg1 HH HB HK G6 hx0 hx1 hx2 hx3 hx4 hx5 hx6 hf0 hf1 hf2 hf3 hf4 hf5 wa1 wa2 wa3 wa4
      go_wp2_with fail
      refine (markText_call (m + 5) (by have := HMB.out; omega) (by have := HMB.out; omega) W1).mono ?_; rintro e w2 ⟨rfl, hd⟩
      have hh2 := Kd.H_below HH1.out hd
      obtain ⟨rows, -, hraw, -, -, hcc, -⟩ := Kd.H_raw hh2 (by omega) (by have := HLT.out; omega)
      obtain ⟨_, _, _, _, hfr⟩ := Kd.R_elem hraw [] (i : Int) (by omega) (by have := HLT.out; omega)
      have hx5 : w2.cell? ⟨go, i * 7 + 5, none⟩ = some (.string x.f5) := hcc 5 _ rfl
      have hx6 : w2.cell? ⟨go, i * 7 + 6, none⟩ = some (.slice A6 x.f6.length c6) := hcc 6 _ rfl
      have hf5 : w2.frozen? ⟨go, i * 7 + 5, none⟩ = false := hfr 5
      have hs3 := Kd.H_seg hh2 (by omega) (by have := HLT.out; omega) (seg := [(.string (markB (m + 5)))]) (j := 5) (show 6 ≤ 7 by decide) (fun u hu => by simp at hu; rcases hu with rfl; rfl)
      have hg3 : w2.grownBy (w2.setCell ⟨go, i * 7 + 5, none⟩ (.string (markB (m + 5)))) (some go) := hs3.2
      have HH3 : Aside0 (Kd.H k85 85 (w2.setCell ⟨go, i * 7 + 5, none⟩ (.string (markB (m + 5)))) w0.heap.size P (.slice (some ⟨go, 0, none⟩) l.length c0) (q ++ l.drop i) (i : Int) oki [(.int .i64 m), (.int .i64 (m + 1)), (.int .i64 (m + 2)), (.int .i64 (m + 3)), (.int .i64 (m + 4)), (.string (markB (m + 5))), (.slice A6 x.f6.length c6)]) := ⟨hs3.1⟩
      have hb2 := below_step HB1.out hd
      have HB3 : Aside0 (Below w0.heap.size w0 (w2.setCell ⟨go, i * 7 + 5, none⟩ (.string (markB (m + 5))))) := ⟨hb2.grown hg3 hb2.size (fun k hk => by cases hk; exact HGO.out.2.1)⟩
      have HK3 : Aside0 (Kept w (w2.setCell ⟨go, i * 7 + 5, none⟩ (.string (markB (m + 5)))) P) := ⟨Kept.of_grown hg3 (HK1.out.below hd) (fun k hk => by cases hk; exact .inl HGO.out.1)⟩
      have G63 := Aside0.mk (Kd.R_grown (Kd.R_below G61.out hd) hg3 (fun k hk e => (HOK.out k hk).2 (by injection e)))
      obtain ⟨K, hK⟩ := markEntryS_ev x.f6 (m + 6) HXL.out (by have := HMB.out; omega) (by have := HMB.out; omega)
      have HME := Aside0.mk (laws_markEntryS.calls K oki _ x.f6 (m + 6) _ _ w0 _ HB3.out G63.out (hK K (Nat.le_refl _)))
      clear hd hh2 hraw hcc hfr hs3 hg3 hb2 HH1 HB1 HK1 G61 hK
      go_wp2_with fail
      refine (HME.out).mono ?_; rintro e w4 ⟨rfl, hm, hD, hk⟩
      have hg6 : Kd.R k144 144 w4 w0.heap.size oki (.slice A6 x.f6.length c6) (markEL (m + 6) x.f6.length) := Kd.R_mono (Kd.R_tight rfl hm) (fun k hk => G63.out.1 k hk.symm)
      have hS4 := Kd.H_back (Kd.H_kept HH3.out hk (fun k _ hn => hn)) (x' := markN m x.f6.length) (k85_mkM w4 w0.heap.size oki (markN m x.f6.length) hg6) (fun _ hk => hk)
      have HS4 : Aside0 (Kd.S k85 85 w4 w0.heap.size P (.slice (some ⟨go, 0, none⟩) l.length c0) ((q ++ [markN m x.f6.length]) ++ l.drop (i + 1))) := ⟨by
        rw [Int.toNat_natCast, HDR.out, List.set_append_right i _ (by have := HQ.out.1; omega), HQ.out.1, Nat.sub_self, List.set_cons_zero] at hS4
        rw [List.append_assoc]; exact hS4⟩
      have HB4 := Aside0.mk hD
      have HK4 : Aside0 (Kept w w4 P) := ⟨HK3.out.then_ hk (fun k hk => .inl (HOK.out k hk).1)⟩
      have HE4 : Aside0 ((q ++ [markN m x.f6.length]) ++ markNL (m + 6 + 2 * (x.f6.length : Int)) (l.drop (i + 1)) = markNL n l ∧ markEnd (m + 6 + 2 * (x.f6.length : Int)) (l.drop (i + 1)) = markEnd n l) := ⟨by
        have h := HE.out
        rw [HDR.out] at h
        exact ⟨by rw [← h.1, List.append_assoc]; rfl, h.2⟩⟩
      have HQ4 : Aside0 ((q ++ [markN m x.f6.length]).length = i + 1 ∧ 0 ≤ m + 6 + 2 * (x.f6.length : Int) ∧ m + 6 + 2 * (x.f6.length : Int) ≤ n + 2097158 * ((i + 1 : Nat) : Int)) := ⟨by
        have h1 := HQ.out; have h2 := HXL.out
        refine ⟨by rw [List.length_append, List.length_singleton]; omega, by omega, by omega⟩⟩
      clear hm hD hk hg6 hS4 HH3 HB3 HK3 G63 HME HE HQ hx5 hx6 hf5 wa5 wa6
      go_wp2
      go_roundw
      case rel => exact ⟨i + 1, m + 6 + 2 * (x.f6.length : Int), q ++ [markN m x.f6.length], HLT.out, rfl, by first | rfl | go_num, HQ4, HS4, HE4, HB4, HK4⟩
      case measure => exact meas_upM HLT.out (by first | rfl | (rw [← i64_w]; exact HWI.out) | exact HWI.out)
theorem S_iv {α : Type} {d : Kd α} {e base : Nat} {ok : Nat → Prop} {W : World} {v : Value} {xs : List α} (h : d.S e W base ok v xs) : d.S e W base (fun k => base ≤ k ∧ k < W.heap.size) v xs :=
  Kd.S_mono (Kd.S_bound h) (fun _ hk => ⟨hk.2.1, hk.2.2.1⟩)
theorem R_kept {α : Type} {d : Kd α} {e base : Nat} {ok S : Nat → Prop} {W W2 : World} {v : Value} {xs : List α} (h : d.R e W base ok v xs) (hk : Kept W W2 S) (hd : ∀ k, ok k → ¬ S k) : d.R e W2 base ok v xs :=
  Kd.R_step h (fun k ho hlt => hk.2 k hlt (hd k ho))
theorem R_iv {α : Type} {d : Kd α} {e base : Nat} {ok : Nat → Prop} {W : World} {v : Value} {xs : List α} (h : d.R e W base ok v xs) : d.R e W base (fun k => base ≤ k ∧ k < W.heap.size) v xs :=
  Kd.R_mono (Kd.R_bound h) (fun _ hk => ⟨hk.2.1, hk.2.2.1⟩)
theorem Kept.ahead {W W1 W2 : World} {P : Nat → Prop} (hb : Below W.heap.size W W1) (hk : Kept W1 W2 P) : Kept W W2 P :=
  ⟨Nat.le_trans hb.size hk.1, fun k hlt hn => (hk.2 k (Nat.lt_of_lt_of_le hlt hb.size) hn).trans (hb.block k hlt)⟩
set_option maxHeartbeats 4000000 in
set_option maxRecDepth 100000 in
theorem markFs_walk (P : Nat → Prop) (v : Value) (room : Int) (l : List Nd) (n : Int) (w0 w : World) (hB : Below w0.heap.size w0 w) (ho : Kd.S k85 85 w w0.heap.size P v l) (hl : l.length ≤ 1048576) (hs : ∀ x ∈ l, x.f6.length ≤ 1048576) (h0 : 0 ≤ n) (h1 : n ≤ 1000000000) :
    Calls Tryz.prog 17 #[.agg #[v, .int .i64 room], .int .i64 n] w fun e w' => e = .returned (.int .i64 (markEnd n l)) ∧ Kd.S k85 85 w' w0.heap.size P v (markNL n l) ∧ Below w0.heap.size w0 w' ∧ Kept w w' P := by
  have hu1 := Tryz.underlying34
  have HM := Aside0.mk (fun W (hb : Below w.heap.size w W) => markNodeS_walk P v l n w0 W (below_step hB hb) (Kd.S_below ho hb) hl hs h0 h1)
  obtain ⟨A0, c0, rfl⟩ := Kd.S_slice ho
  clear ho hB hl hs h0 h1
  go_enter Tryz.func17, Tryz.ntmps17
  go_upto_region 1 with (fail)
  obtain ⟨W2, hW2⟩ : ∃ W, W = w.alloc (.cells #[.slice A0 l.length c0, .int .i64 room] 34 (0, 0)) := ⟨_, rfl⟩
  have hb2 : Below w.heap.size w W2 := by rw [hW2]; exact below_alloc (Below.refl _ _) _
  have bk2 : W2.heap[w.heap.size]? = some (.cells #[.slice A0 l.length c0, .int .i64 room] 34 (0, 0)) := by rw [hW2]; exact blk_new _ _
  have h20 : W2.cell? ⟨w.heap.size, 0, none⟩ = some (.slice A0 l.length c0) := (blk_cell bk2 0).trans rfl
  have h21 : W2.cell? ⟨w.heap.size, 1, none⟩ = some (.int .i64 room) := (blk_cell bk2 1).trans rfl
  have HB2 := Aside0.mk hb2
  rw [← hW2]
  clear hW2 hb2 bk2
  go_wp2_with fail
  refine (HM.out W2 HB2.out).mono ?_; rintro e W3 ⟨rfl, hm, hD, hk⟩
  have R1 := Aside0.mk hm
  have R2 := Aside0.mk hD
  have R3 := Aside0.mk (Kept.ahead HB2.out hk)
  clear hm hD hk h20 h21 HM HB2
  go_wp2
  go_ret
  exact ⟨rfl, R1.out, R2.out, R3.out⟩
theorem two_boxes (W : World) (o1 o2 : Obj) : Below W.heap.size W ((W.alloc o1).alloc o2) ∧ ((W.alloc o1).alloc o2).heap[W.heap.size]? = some o1 ∧ ((W.alloc o1).alloc o2).heap[W.heap.size + 1]? = some o2 :=
  ⟨below_alloc (below_alloc (Below.refl _ _) _) _, blk_alloc (blk_new _ _) _, by have h := blk_new (W.alloc o1) o2; rwa [World.size_alloc] at h⟩
set_option maxHeartbeats 4000000 in
set_option maxRecDepth 100000 in
theorem eqNode_walk (x : Nd) (A6 B6 : Option Addr) (c6 d6 : Nat) (w : World) (ha : Kd.C k144 w A6 x.f6.length x.f6) (la : x.f6.length ≤ c6) (hb : Kd.C k144 w B6 x.f6.length x.f6) (lb : x.f6.length ≤ d6) (hs : x.f6.length ≤ 1048576) :
    Calls Tryz.prog 83 #[.agg #[.int .i64 x.f0, .int .i64 x.f1, .int .i64 x.f2, .int .i64 x.f3, .int .i64 x.f4, .string x.f5, .slice A6 x.f6.length c6], .agg #[.int .i64 x.f0, .int .i64 x.f1, .int .i64 x.f2, .int .i64 x.f3, .int .i64 x.f4, .string x.f5, .slice B6 x.f6.length d6]] w fun e w' => e = .returned (.bool true) ∧ Below w.heap.size w w' := by
  have hu1 := Tryz.underlying85
  obtain ⟨K, hK⟩ := eqEntryS_ev x.f6 hs
  have HE := Aside0.mk (fun W (hd : Below w.heap.size w W) => laws_eqEntryS.calls K A6 c6 x.f6 B6 d6 x.f6 true W (Kd.C_below ha hd) la (Kd.C_below hb hd) lb (hK K (Nat.le_refl _)))
  clear ha la hb lb hs hK
  go_enter Tryz.func83, Tryz.ntmps83
  go_upto_region 1 with (fail)
  obtain ⟨hb, bk, bl⟩ := two_boxes w (.cells #[.int .i64 x.f0, .int .i64 x.f1, .int .i64 x.f2, .int .i64 x.f3, .int .i64 x.f4, .string x.f5, .slice A6 x.f6.length c6] 85 (0, 0)) (.cells #[.int .i64 x.f0, .int .i64 x.f1, .int .i64 x.f2, .int .i64 x.f3, .int .i64 x.f4, .string x.f5, .slice B6 x.f6.length d6] 85 (0, 0))
  obtain ⟨W, hW⟩ : ∃ W, W = (w.alloc (.cells #[.int .i64 x.f0, .int .i64 x.f1, .int .i64 x.f2, .int .i64 x.f3, .int .i64 x.f4, .string x.f5, .slice A6 x.f6.length c6] 85 (0, 0))).alloc (.cells #[.int .i64 x.f0, .int .i64 x.f1, .int .i64 x.f2, .int .i64 x.f3, .int .i64 x.f4, .string x.f5, .slice B6 x.f6.length d6] 85 (0, 0)) := ⟨_, rfl⟩
  rw [← hW] at hb bk bl ⊢
  have HB := Aside0.mk hb
  have a0 : W.cell? ⟨w.heap.size, 0, none⟩ = some (.int .i64 x.f0) := (blk_cell bk 0).trans rfl
  have b0 : W.cell? ⟨w.heap.size + 1, 0, none⟩ = some (.int .i64 x.f0) := (blk_cell bl 0).trans rfl
  have a1 : W.cell? ⟨w.heap.size, 1, none⟩ = some (.int .i64 x.f1) := (blk_cell bk 1).trans rfl
  have b1 : W.cell? ⟨w.heap.size + 1, 1, none⟩ = some (.int .i64 x.f1) := (blk_cell bl 1).trans rfl
  have a2 : W.cell? ⟨w.heap.size, 2, none⟩ = some (.int .i64 x.f2) := (blk_cell bk 2).trans rfl
  have b2 : W.cell? ⟨w.heap.size + 1, 2, none⟩ = some (.int .i64 x.f2) := (blk_cell bl 2).trans rfl
  have a3 : W.cell? ⟨w.heap.size, 3, none⟩ = some (.int .i64 x.f3) := (blk_cell bk 3).trans rfl
  have b3 : W.cell? ⟨w.heap.size + 1, 3, none⟩ = some (.int .i64 x.f3) := (blk_cell bl 3).trans rfl
  have a4 : W.cell? ⟨w.heap.size, 4, none⟩ = some (.int .i64 x.f4) := (blk_cell bk 4).trans rfl
  have b4 : W.cell? ⟨w.heap.size + 1, 4, none⟩ = some (.int .i64 x.f4) := (blk_cell bl 4).trans rfl
  have a5 : W.cell? ⟨w.heap.size, 5, none⟩ = some (.string x.f5) := (blk_cell bk 5).trans rfl
  have b5 : W.cell? ⟨w.heap.size + 1, 5, none⟩ = some (.string x.f5) := (blk_cell bl 5).trans rfl
  have a6 : W.cell? ⟨w.heap.size, 6, none⟩ = some (.slice A6 x.f6.length c6) := (blk_cell bk 6).trans rfl
  have b6 : W.cell? ⟨w.heap.size + 1, 6, none⟩ = some (.slice B6 x.f6.length d6) := (blk_cell bl 6).trans rfl
  clear hW hb bk bl
  go_wp2_with fail
  refine (HE.out W HB.out).mono ?_; rintro e w2 ⟨rfl, hd⟩
  have HB2 := Aside0.mk (below_step HB.out hd)
  clear hd HB a0 b0 a1 b1 a2 b2 a3 b3 a4 b4 a5 b5 a6 b6
  go_wp2
  go_ret
  exact ⟨rfl, HB2.out⟩
set_option maxHeartbeats 4000000 in
set_option maxRecDepth 100000 in
theorem eqNodeS_walk (A A' : Option Addr) (c c' : Nat) (l : List Nd) (w : World) (hr : Kd.C k85 w A l.length l) (hr' : Kd.C k85 w A' l.length l) (hl : l.length ≤ 1000000000) (hs : ∀ x ∈ l, x.f6.length ≤ 1048576) :
    Calls Tryz.prog 41 #[.slice A l.length c, .slice A' l.length c'] w fun e w' => e = .returned (.bool true) ∧ Below w.heap.size w w' := by
  have hu1 := Tryz.underlying85
  have HR := Aside0.mk hr
  have HR' := Aside0.mk hr'
  have HL := Aside0.mk hl
  have HS := Aside0.mk hs
  clear hr hr' hl hs
  go_enter Tryz.func41, Tryz.ntmps41
  go_wp2
  go_loopw [5] (fun v5 wr => ∃ i : Nat, i ≤ l.length ∧ v5 = .int .i64 (i : Int) ∧ Aside0 (Below w.heap.size w wr)) (fun v5 _ => l.length - (intOf v5).toNat)
  case atStart => exact ⟨0, Nat.zero_le _, by simp, ⟨Below.refl _ _⟩⟩
  case round =>
    obtain ⟨i, hi, rfl, HB⟩ := hrel
    by_cases hlt : i < l.length
    case neg =>
      have hkl : i = l.length := by omega
      subst hkl
      have c1 : decide ((l.length : Int) < (l.length : Int)) = false := by simp
      clear hlt hi
      go_wp2
      go_ret
      exact ⟨rfl, HB.out⟩
    case pos =>
      have HI := Aside0.mk hlt
      have c1 : decide ((i : Int) < (l.length : Int)) = true := decide_eq_true (by omega)
      have p1 : ((0 : Int) ≤ (i : Int)) = True := eq_true (by omega)
      have p3 : ((i : Int) < (l.length : Int)) = True := eq_true (by omega)
      have w19 : IntKind.i64.wrap ((i : Int) + 1) = ((i + 1 : Nat) : Int) := (i64_w _).trans (step_n hlt (by have := HL.out; omega))
      obtain ⟨ad, A6, c6, rfl, a0, a1, a2, a3, a4, a5, a6, la, ha⟩ := at_T85 (Kd.C_below HR.out HB.out) (i : Int) (by omega) (by omega)
      obtain ⟨bd, B6, d6, rfl, b0, b1, b2, b3, b4, b5, b6, lb, hb⟩ := at_T85 (Kd.C_below HR'.out HB.out) (i : Int) (by omega) (by omega)
      obtain ⟨x, hx⟩ : ∃ x, x = rd_T85 l (i : Int) := ⟨_, rfl⟩
      rw [Int.toNat_natCast] at a0 a1 a2 a3 a4 a5 a6 b0 b1 b2 b3 b4 b5 b6
      rw [← hx] at a0 a1 a2 a3 a4 a5 a6 b0 b1 b2 b3 b4 b5 b6 la ha lb hb
      have HE := Aside0.mk (fun W (hd : Below wr.heap.size wr W) => eqNode_walk x A6 B6 c6 d6 W (Kd.C_below ha hd) la (Kd.C_below hb hd) lb (HS.out x (by rw [hx, rdNd l i hlt]; exact List.getElem_mem hlt)))
      have CK : Aside0 (∀ W, Below wr.heap.size wr W → (W.cell? (ad.add (i * 7)) = some (.int .i64 x.f0) ∧ W.cell? ⟨(ad.add (i * 7)).block, (ad.add (i * 7)).off + 1, none⟩ = some (.int .i64 x.f1) ∧ W.cell? ⟨(ad.add (i * 7)).block, (ad.add (i * 7)).off + 2, none⟩ = some (.int .i64 x.f2) ∧ W.cell? ⟨(ad.add (i * 7)).block, (ad.add (i * 7)).off + 3, none⟩ = some (.int .i64 x.f3) ∧ W.cell? ⟨(ad.add (i * 7)).block, (ad.add (i * 7)).off + 4, none⟩ = some (.int .i64 x.f4) ∧ W.cell? ⟨(ad.add (i * 7)).block, (ad.add (i * 7)).off + 5, none⟩ = some (.string x.f5) ∧ W.cell? ⟨(ad.add (i * 7)).block, (ad.add (i * 7)).off + 6, none⟩ = some (.slice A6 x.f6.length c6)) ∧ (W.cell? (bd.add (i * 7)) = some (.int .i64 x.f0) ∧ W.cell? ⟨(bd.add (i * 7)).block, (bd.add (i * 7)).off + 1, none⟩ = some (.int .i64 x.f1) ∧ W.cell? ⟨(bd.add (i * 7)).block, (bd.add (i * 7)).off + 2, none⟩ = some (.int .i64 x.f2) ∧ W.cell? ⟨(bd.add (i * 7)).block, (bd.add (i * 7)).off + 3, none⟩ = some (.int .i64 x.f3) ∧ W.cell? ⟨(bd.add (i * 7)).block, (bd.add (i * 7)).off + 4, none⟩ = some (.int .i64 x.f4) ∧ W.cell? ⟨(bd.add (i * 7)).block, (bd.add (i * 7)).off + 5, none⟩ = some (.string x.f5) ∧ W.cell? ⟨(bd.add (i * 7)).block, (bd.add (i * 7)).off + 6, none⟩ = some (.slice B6 x.f6.length d6))) := ⟨fun W hd => ⟨⟨(hd.cell (World.block_lt_of_cell? wr _ a0)).trans a0, (hd.cell (World.block_lt_of_cell? wr _ a1)).trans a1, (hd.cell (World.block_lt_of_cell? wr _ a2)).trans a2, (hd.cell (World.block_lt_of_cell? wr _ a3)).trans a3, (hd.cell (World.block_lt_of_cell? wr _ a4)).trans a4, (hd.cell (World.block_lt_of_cell? wr _ a5)).trans a5, (hd.cell (World.block_lt_of_cell? wr _ a6)).trans a6⟩, ⟨(hd.cell (World.block_lt_of_cell? wr _ b0)).trans b0, (hd.cell (World.block_lt_of_cell? wr _ b1)).trans b1, (hd.cell (World.block_lt_of_cell? wr _ b2)).trans b2, (hd.cell (World.block_lt_of_cell? wr _ b3)).trans b3, (hd.cell (World.block_lt_of_cell? wr _ b4)).trans b4, (hd.cell (World.block_lt_of_cell? wr _ b5)).trans b5, (hd.cell (World.block_lt_of_cell? wr _ b6)).trans b6⟩⟩⟩
      have kk := CK.out wr (Below.refl _ _)
      clear hx hlt hi a0 a1 a2 a3 a4 a5 a6 b0 b1 b2 b3 b4 b5 b6 la ha lb hb
      go_upto_region 6 with (fail)
      go_region_held3 (fun W => (W.cell? (ad.add (i * 7)) = some (.int .i64 x.f0) ∧ W.cell? ⟨(ad.add (i * 7)).block, (ad.add (i * 7)).off + 1, none⟩ = some (.int .i64 x.f1) ∧ W.cell? ⟨(ad.add (i * 7)).block, (ad.add (i * 7)).off + 2, none⟩ = some (.int .i64 x.f2) ∧ W.cell? ⟨(ad.add (i * 7)).block, (ad.add (i * 7)).off + 3, none⟩ = some (.int .i64 x.f3) ∧ W.cell? ⟨(ad.add (i * 7)).block, (ad.add (i * 7)).off + 4, none⟩ = some (.int .i64 x.f4) ∧ W.cell? ⟨(ad.add (i * 7)).block, (ad.add (i * 7)).off + 5, none⟩ = some (.string x.f5) ∧ W.cell? ⟨(ad.add (i * 7)).block, (ad.add (i * 7)).off + 6, none⟩ = some (.slice A6 x.f6.length c6)) ∧ (W.cell? (bd.add (i * 7)) = some (.int .i64 x.f0) ∧ W.cell? ⟨(bd.add (i * 7)).block, (bd.add (i * 7)).off + 1, none⟩ = some (.int .i64 x.f1) ∧ W.cell? ⟨(bd.add (i * 7)).block, (bd.add (i * 7)).off + 2, none⟩ = some (.int .i64 x.f2) ∧ W.cell? ⟨(bd.add (i * 7)).block, (bd.add (i * 7)).off + 3, none⟩ = some (.int .i64 x.f3) ∧ W.cell? ⟨(bd.add (i * 7)).block, (bd.add (i * 7)).off + 4, none⟩ = some (.int .i64 x.f4) ∧ W.cell? ⟨(bd.add (i * 7)).block, (bd.add (i * 7)).off + 5, none⟩ = some (.string x.f5) ∧ W.cell? ⟨(bd.add (i * 7)).block, (bd.add (i * 7)).off + 6, none⟩ = some (.slice B6 x.f6.length d6)))
        (first | exact kk | exact CK.out _ (below_step (below_drew1 (Below.refl _ _)) hd) | exact CK.out _ (below_drew1 (Below.refl _ _)))
        (first | (go_at_call 83; refine (HE.out wr.drew (below_drew1 (Below.refl _ _))).mono ?_; rintro e w2 ⟨rfl, hd⟩))
      have HB2 := Aside0.mk (below_step (below_drew1 HB.out) hd)
      clear kk hd HB CK HE
      go_wp2
      go_roundw
      case rel => exact ⟨i + 1, by have := HI.out; omega, by first | rfl | go_num, HB2⟩
      case measure => have := HI.out; simp [intOf]; omega
set_option maxHeartbeats 4000000 in
set_option maxRecDepth 100000 in
theorem eqFs_walk (A A' : Option Addr) (c c' : Nat) (l : List Nd) (room : Int) (w : World) (hr : Kd.C k85 w A l.length l) (hr' : Kd.C k85 w A' l.length l) (hf : FsFit l) :
    Calls Tryz.prog 16 #[.agg #[.slice A l.length c, .int .i64 room], .agg #[.slice A' l.length c', .int .i64 room]] w fun e w' => e = .returned (.bool true) ∧ Below w.heap.size w w' := by
  have hu1 := Tryz.underlying34
  have HE := Aside0.mk (fun W (hd : Below w.heap.size w W) => eqNodeS_walk A A' c c' l W (Kd.C_below hr hd) (Kd.C_below hr' hd) (by have := hf.len; omega) hf.list)
  clear hr hr' hf
  go_enter Tryz.func16, Tryz.ntmps16
  go_upto_region 1 with (fail)
  obtain ⟨hb, bk, bl⟩ := two_boxes w (.cells #[.slice A l.length c, .int .i64 room] 34 (0, 0)) (.cells #[.slice A' l.length c', .int .i64 room] 34 (0, 0))
  obtain ⟨W, hW⟩ : ∃ W, W = (w.alloc (.cells #[.slice A l.length c, .int .i64 room] 34 (0, 0))).alloc (.cells #[.slice A' l.length c', .int .i64 room] 34 (0, 0)) := ⟨_, rfl⟩
  rw [← hW] at hb bk bl ⊢
  have HB := Aside0.mk hb
  have a0 : W.cell? ⟨w.heap.size, 0, none⟩ = some (.slice A l.length c) := (blk_cell bk 0).trans rfl
  have b0 : W.cell? ⟨w.heap.size + 1, 0, none⟩ = some (.slice A' l.length c') := (blk_cell bl 0).trans rfl
  have a1 : W.cell? ⟨w.heap.size, 1, none⟩ = some (.int .i64 room) := (blk_cell bk 1).trans rfl
  have b1 : W.cell? ⟨w.heap.size + 1, 1, none⟩ = some (.int .i64 room) := (blk_cell bl 1).trans rfl
  have BK := Aside0.mk bk
  have BL := Aside0.mk bl
  clear hW hb bk bl
  go_wp2_with fail
  refine (HE.out W HB.out).mono ?_; rintro e w2 ⟨rfl, hd⟩
  have HB2 := Aside0.mk (below_step HB.out hd)
  have a1' : w2.cell? ⟨w.heap.size, 1, none⟩ = some (.int .i64 room) := (hd.cell (World.block_lt_of_cell? _ _ a1)).trans a1
  have b1' : w2.cell? ⟨w.heap.size + 1, 1, none⟩ = some (.int .i64 room) := (hd.cell (World.block_lt_of_cell? _ _ b1)).trans b1
  clear hd HB a0 b0 a1 b1 BK BL
  go_wp2
  go_ret
  exact ⟨rfl, HB2.out⟩
noncomputable def markL (n : Int) : Nat → List ByteArray
  | 0 => []
  | d + 1 => markB n :: markL (n + 1) d
theorem markL_length (d : Nat) : ∀ n, (markL n d).length = d := by
  induction d with
  | zero => intro n; rfl
  | succ d ih => intro n; simp [markL, ih]
theorem wrap_k (n : Int) (h0 : 0 ≤ n) (h1 : n ≤ 4611686018427387904) : wrap64 (n + 1) = n + 1 := by unfold wrap64; omega
theorem markStringS_loop (d : Nat) : ∀ (i : Nat) (l : List ByteArray) (n : Int), i + d = l.length → l.length ≤ 8796093022208 → 0 ≤ n → n + d ≤ 4611686018427387904 →
    Ev (fun k => laws_markStringS.l0 k l n (i : Int)) (n + d, l.take i ++ markL n d) := by
  induction d with
  | zero =>
    intro i l n hi hl h0 h1
    refine Ev.step (f := fun _ => some (n, l)) (fun k => ?_) ?_
    · simp only [laws_markStringS.l0]; rw [if_neg (by omega)]
    · have : (n + ((0 : Nat) : Int), l.take i ++ markL n 0) = (n, l) := by
        rw [List.take_of_length_le (by omega)]; simp [markL]
      rw [this]; exact Ev.now _
  | succ d ih =>
    intro i l n hi hl h0 h1
    have hw := step_n (i := i) (n := l.length) (by omega) (by omega)
    have h := ih (i + 1) (l.set i (markB n)) (n + 1) (by simp; omega) (by simpa using hl) (by omega) (by omega)
    refine Ev.step (f := fun k => (laws_markText.f k n).bind fun t544 => laws_markStringS.l0 k (l.set i t544) (n + 1) ((i + 1 : Nat) : Int)) (fun k => ?_) ?_
    · simp only [laws_markStringS.l0]
      rw [if_pos (by omega), hw, wrap_k n h0 (by omega)]
      have p : (0 : Int) ≤ (i : Int) := by omega
      simp only [p, if_true, Int.toNat_natCast]
    · refine Ev.bind (markB_ev n h0 (by omega)) ?_
      have e : (n + ((d + 1 : Nat) : Int), l.take i ++ markL n (d + 1)) = (n + 1 + (d : Int), (l.set i (markB n)).take (i + 1) ++ markL (n + 1) d) := by
        rw [List.take_succ_eq_append_getElem (by simp; omega), List.take_set_of_le (by omega), List.getElem_set_self, List.append_assoc]
        simp only [markL]
        congr 1
        omega
      rw [e]; exact h
theorem markStringS_ev (l : List ByteArray) (n : Int) (hl : l.length ≤ 8796093022208) (h0 : 0 ≤ n) (h1 : n ≤ 1048576) : Ev (fun k => laws_markStringS.f k l n) (n + l.length, markL n l.length) := by
  have h := markStringS_loop l.length 0 l n (by omega) hl h0 (by omega)
  rw [List.take_zero, List.nil_append] at h
  exact h
theorem heldStringS_loop (d : Nat) : ∀ (i : Nat) (l : List ByteArray) (n : Int), i + d = l.length → l.length ≤ 8796093022208 → l.drop i = markL n d → 0 ≤ n → n + d ≤ 4611686018427387904 →
    Ev (fun k => laws_heldStringS.l0 k l n (i : Int)) (n + d) := by
  induction d with
  | zero =>
    intro i l n hi hl hd h0 h1
    refine Ev.step (f := fun _ => some n) (fun k => ?_) (by simpa using Ev.now n)
    simp only [laws_heldStringS.l0]; rw [if_neg (by omega)]
  | succ d ih =>
    intro i l n hi hl hd h0 h1
    have hlt : i < l.length := by omega
    have hw := step_n (i := i) (n := l.length) hlt (by omega)
    rw [List.drop_eq_getElem_cons hlt] at hd
    simp only [markL, List.cons.injEq] at hd
    have h := ih (i + 1) l (n + 1) (by omega) hl hd.2 (by omega) (by omega)
    refine Ev.step (f := fun k => (laws_markText.f k n).bind fun t550 => if (l[i]).toList = t550.toList then laws_heldStringS.l0 k l (n + 1) ((i + 1 : Nat) : Int) else some (-1)) (fun k => ?_) ?_
    · simp only [laws_heldStringS.l0]
      rw [if_pos (by omega), if_pos (by omega), hw, wrap_k n h0 (by omega), rdS _ _ hlt]
    · refine Ev.bind (markB_ev n h0 (by omega)) ?_
      have e : n + ((d + 1 : Nat) : Int) = n + 1 + (d : Int) := by omega
      rw [e]
      exact Ev.congr (fun k => by rw [if_pos (by rw [hd.1])]) h
theorem heldStringS_ev (d : Nat) (n : Int) (hd : d ≤ 8796093022208) (h0 : 0 ≤ n) (h1 : n ≤ 1048576) : Ev (fun k => laws_heldStringS.f k (markL n d) n) (n + d) :=
  heldStringS_loop d 0 (markL n d) n (by rw [markL_length]; omega) (by rw [markL_length]; exact hd) (by simp) h0 (by omega)
def markI (n : Int) : Nat → List Int
  | 0 => []
  | d + 1 => n :: markI (n + 1) d
theorem markI_length (d : Nat) : ∀ n, (markI n d).length = d := by
  induction d with
  | zero => intro n; rfl
  | succ d ih => intro n; simp [markI, ih]
theorem rdInt (l : List Int) (i : Nat) (h : i < l.length) : rd l (i : Int) = l[i] := by simp [rd, List.getD, h]
theorem eqIntS_loop (l : List Int) (hl : l.length ≤ 4294967282) (d : Nat) : ∀ i : Nat, i + d = l.length → Ev (fun k => laws_eqIntS.l0 k l l (i : Int)) true := by
  induction d with
  | zero =>
    intro i hi
    refine Ev.step (f := fun _ => some true) (fun k => ?_) (Ev.now true)
    simp only [laws_eqIntS.l0]; rw [if_neg (by omega)]
  | succ d ih =>
    intro i hi
    have hlt : i < l.length := by omega
    refine Ev.step (fun k => ?_) (ih (i + 1) (by omega))
    simp only [laws_eqIntS.l0]
    rw [if_pos (by omega), if_pos (by omega), if_pos (by omega), if_pos trivial, step_n (i := i) (n := l.length) hlt (by omega)]
theorem eqIntS_self (l : List Int) (hl : l.length ≤ 4294967282) : Ev (fun k => laws_eqIntS.f k l l) true :=
  Ev.congr (fun k => by simp only [laws_eqIntS.f]; rw [if_pos trivial]; rfl) (eqIntS_loop l hl l.length 0 (by omega))
theorem markIntS_loop (d : Nat) : ∀ (i : Nat) (l : List Int) (n : Int), i + d = l.length → l.length ≤ 4294967282 → 0 ≤ n → n + d ≤ 4611686018427387904 →
    Ev (fun k => laws_markIntS.l0 k l n (i : Int)) (n + d, l.take i ++ markI n d) := by
  induction d with
  | zero =>
    intro i l n hi hl h0 h1
    refine Ev.step (f := fun _ => some (n, l)) (fun k => ?_) ?_
    · simp only [laws_markIntS.l0]; rw [if_neg (by omega)]
    · have : (n + ((0 : Nat) : Int), l.take i ++ markI n 0) = (n, l) := by
        rw [List.take_of_length_le (by omega)]; simp [markI]
      rw [this]; exact Ev.now _
  | succ d ih =>
    intro i l n hi hl h0 h1
    have h := ih (i + 1) (l.set i n) (n + 1) (by simp; omega) (by simpa using hl) (by omega) (by omega)
    have e : (n + ((d + 1 : Nat) : Int), l.take i ++ markI n (d + 1)) = (n + 1 + (d : Int), (l.set i n).take (i + 1) ++ markI (n + 1) d) := by
      rw [List.take_succ_eq_append_getElem (by simp; omega), List.take_set_of_le (by omega), List.getElem_set_self, List.append_assoc]
      simp only [markI]
      congr 1
      omega
    rw [e]
    refine Ev.step (fun k => ?_) h
    simp only [laws_markIntS.l0]
    rw [if_pos (by omega), if_pos (by omega), step_n (i := i) (n := l.length) (by omega) (by omega), wrap_k n h0 (by omega), Int.toNat_natCast]
theorem markIntS_ev (l : List Int) (n : Int) (hl : l.length ≤ 4294967282) (h0 : 0 ≤ n) (h1 : n ≤ 1048576) : Ev (fun k => laws_markIntS.f k l n) (n + l.length, markI n l.length) := by
  have h := markIntS_loop l.length 0 l n (by omega) hl h0 (by omega)
  rw [List.take_zero, List.nil_append] at h
  exact h
theorem heldIntS_loop (d : Nat) : ∀ (i : Nat) (l : List Int) (n : Int), i + d = l.length → l.length ≤ 4294967282 → l.drop i = markI n d → 0 ≤ n → n + d ≤ 4611686018427387904 →
    Ev (fun k => laws_heldIntS.l0 k l n (i : Int)) (n + d) := by
  induction d with
  | zero =>
    intro i l n hi hl hd h0 h1
    refine Ev.step (f := fun _ => some n) (fun k => ?_) (by simpa using Ev.now n)
    simp only [laws_heldIntS.l0]; rw [if_neg (by omega)]
  | succ d ih =>
    intro i l n hi hl hd h0 h1
    have hlt : i < l.length := by omega
    rw [List.drop_eq_getElem_cons hlt] at hd
    simp only [markI, List.cons.injEq] at hd
    have h := ih (i + 1) l (n + 1) (by omega) hl hd.2 (by omega) (by omega)
    have e : n + ((d + 1 : Nat) : Int) = n + 1 + (d : Int) := by omega
    rw [e]
    refine Ev.step (fun k => ?_) h
    simp only [laws_heldIntS.l0]
    rw [if_pos (by omega), if_pos (by omega), rdInt _ _ hlt, if_pos hd.1, step_n (i := i) (n := l.length) hlt (by omega), wrap_k n h0 (by omega)]
theorem heldIntS_ev (d : Nat) (n : Int) (hd : d ≤ 4294967282) (h0 : 0 ≤ n) (h1 : n ≤ 1048576) : Ev (fun k => laws_heldIntS.f k (markI n d) n) (n + d) :=
  heldIntS_loop d 0 (markI n d) n (by rw [markI_length]; omega) (by rw [markI_length]; exact hd) (by simp) h0 (by omega)
theorem eqStringF_loop (l : List ByteArray) (hl : l.length ≤ 4294967282) (d : Nat) : ∀ i : Nat, i + d = l.length → Ev (fun k => laws_eqStringS.l0 k l l (i : Int)) true := by
  induction d with
  | zero =>
    intro i hi
    refine Ev.step (f := fun _ => some true) (fun k => ?_) (Ev.now true)
    simp only [laws_eqStringS.l0]; rw [if_neg (by omega)]
  | succ d ih =>
    intro i hi
    have hlt : i < l.length := by omega
    have hw := step_n (i := i) (n := l.length) hlt (by omega)
    refine Ev.step (f := fun k => laws_eqStringS.l0 k l l ((i + 1 : Nat) : Int)) (fun k => ?_) (ih (i + 1) (by omega))
    simp only [laws_eqStringS.l0]
    rw [if_pos (by omega), if_pos (by omega), if_pos (by omega), if_pos trivial, hw]
theorem eqStringF_ev (l : List ByteArray) (hl : l.length ≤ 4294967282) : Ev (fun k => laws_eqStringS.f k l l) true := by
  refine Ev.congr (f := fun k => laws_eqStringS.l0 k l l ((0 : Nat) : Int)) (fun k => ?_) (eqStringF_loop l hl l.length 0 (by omega))
  simp only [laws_eqStringS.f, if_true]; rfl
theorem forestR_len (ns : List Nd) (room cu cg : Int) (path : ByteArray) : (forestR ns room cu cg path).1.length ≤ 40 ∧ (forestR ns room cu cg path).2.1.length = (forestR ns room cu cg path).1.length := by
  unfold forestR
  split
  · rename_i h
    unfold woodOkB at h
    simp only [Bool.and_eq_true, decide_eq_true_eq] at h
    exact ⟨by rw [List.length_map]; exact h.2.2, by rw [List.length_map, List.length_map]⟩
  · exact ⟨by simp, rfl⟩
set_option maxHeartbeats 8000000 in
set_option maxRecDepth 100000 in
theorem lawForest_walk (A0 : Option Addr) (c0 : Nat) (l0 : List Ln) (room cu cg : Int) (path : ByteArray) (w : World) (hr0 : Kd.C k115 w A0 l0.length l0) (hc0 : l0.length ≤ c0) (hl0 : l0.length ≤ maxLen) (hs0 : ∀ x ∈ l0, LnBig x) :
    Calls Tryz.prog 3 #[.agg #[.slice A0 l0.length c0, .int .i64 room], .agg #[.int .i64 cu, .int .i64 cg], .string path] w fun e w' => e = .returned (.bool true) ∧ Below w.heap.size w w' := by
  have hu1 := Tryz.underlying34
  have hu2 := Tryz.underlying24
  have hu3 := Tryz.underlying26
  by_cases hp : 1048576 < path.size
  · have d0 : decide ((1048576 : Int) < (path.size : Int)) = true := decide_eq_true (by omega)
    clear hr0 hc0 hl0 hs0 hp
    go_enter Tryz.func3, Tryz.ntmps3
    go_upto_region 1 with (fail)
    obtain ⟨w0, hW⟩ : ∃ W, W = (w.alloc (.cells #[.slice A0 l0.length c0, .int .i64 room] 24 (0, 0))).alloc (.cells #[.int .i64 cu, .int .i64 cg] 26 (0, 0)) := ⟨_, rfl⟩
    have D_w0 := Aside0.mk (show Below w.heap.size w w0 from by rw [hW]; exact below_alloc (below_alloc (Below.refl _ _) _) _)
    have BK_t3 := Aside0.mk (show w0.heap[w.heap.size]? = some (.cells #[.slice A0 l0.length c0, .int .i64 room] 24 (0, 0)) from by rw [hW]; exact blk_alloc (blk_new _ _) _)
    have BK_t4 := Aside0.mk (show w0.heap[w.heap.size + 1]? = some (.cells #[.int .i64 cu, .int .i64 cg] 26 (0, 0)) from by rw [hW]; have h := blk_new (w.alloc (.cells #[.slice A0 l0.length c0, .int .i64 room] 24 (0, 0))) (.cells #[.int .i64 cu, .int .i64 cg] 26 (0, 0)); rwa [World.size_alloc] at h)
    obtain ⟨g3, hg3⟩ : ∃ k, k = w.heap.size := ⟨_, rfl⟩
    obtain ⟨g4, hg4⟩ : ∃ k, k = w.heap.size + 1 := ⟨_, rfl⟩
    rw [← hg3] at BK_t3
    rw [← hg4] at BK_t4
    have S_w0 := Aside0.mk (show w.heap.size < w0.heap.size ∧ w.heap.size + 1 < w0.heap.size from ⟨by have := blk_lt BK_t3.out; omega, by have := blk_lt BK_t4.out; omega⟩)
    have GB_t3 := Aside0.mk (show w.heap.size ≤ g3 ∧ g3 < w0.heap.size from ⟨by omega, blk_lt BK_t3.out⟩)
    have GB_t4 := Aside0.mk (show w.heap.size ≤ g4 ∧ g4 < w0.heap.size from ⟨by omega, blk_lt BK_t4.out⟩)
    rw [← hW, ← hg4, ← hg3]
    clear hW hg3 hg4
    go_wp2
    go_ret
    exact ⟨rfl, D_w0.out⟩
  have d0 : decide ((1048576 : Int) < (path.size : Int)) = false := decide_eq_false (by omega)
  have hpl : path.size < 4294967281 := by omega
  obtain ⟨r0, ⟨K0, hz0⟩, hq0, hp0⟩ := szFs_ev l0 room hl0 hs0 1048576 (by omega) (by omega)
  have HSZ0 := Aside0.mk (fun W (hb : Below w.heap.size w W) => laws_szFs.calls K0 A0 c0 l0 room 1048576 r0 W (Kd.C_below hr0 hb) hc0 (hz0 K0 (Nat.le_refl _)))
  have HR0 := Aside0.mk hr0
  have HC0 := Aside0.mk hc0
  clear hr0 hc0 hz0 hp
  by_cases h : r0 < 0
  · clear hq0 hp0 hl0 hs0 hpl
    have h1 : decide (r0 < 0) = true := decide_eq_true h
    go_enter Tryz.func3, Tryz.ntmps3
    go_upto_region 1 with (fail)
    obtain ⟨w0, hW⟩ : ∃ W, W = (w.alloc (.cells #[.slice A0 l0.length c0, .int .i64 room] 24 (0, 0))).alloc (.cells #[.int .i64 cu, .int .i64 cg] 26 (0, 0)) := ⟨_, rfl⟩
    have D_w0 := Aside0.mk (show Below w.heap.size w w0 from by rw [hW]; exact below_alloc (below_alloc (Below.refl _ _) _) _)
    have BK_t3 := Aside0.mk (show w0.heap[w.heap.size]? = some (.cells #[.slice A0 l0.length c0, .int .i64 room] 24 (0, 0)) from by rw [hW]; exact blk_alloc (blk_new _ _) _)
    have BK_t4 := Aside0.mk (show w0.heap[w.heap.size + 1]? = some (.cells #[.int .i64 cu, .int .i64 cg] 26 (0, 0)) from by rw [hW]; have h := blk_new (w.alloc (.cells #[.slice A0 l0.length c0, .int .i64 room] 24 (0, 0))) (.cells #[.int .i64 cu, .int .i64 cg] 26 (0, 0)); rwa [World.size_alloc] at h)
    obtain ⟨g3, hg3⟩ : ∃ k, k = w.heap.size := ⟨_, rfl⟩
    obtain ⟨g4, hg4⟩ : ∃ k, k = w.heap.size + 1 := ⟨_, rfl⟩
    rw [← hg3] at BK_t3
    rw [← hg4] at BK_t4
    have S_w0 := Aside0.mk (show w.heap.size < w0.heap.size ∧ w.heap.size + 1 < w0.heap.size from ⟨by have := blk_lt BK_t3.out; omega, by have := blk_lt BK_t4.out; omega⟩)
    have GB_t3 := Aside0.mk (show w.heap.size ≤ g3 ∧ g3 < w0.heap.size from ⟨by omega, blk_lt BK_t3.out⟩)
    have GB_t4 := Aside0.mk (show w.heap.size ≤ g4 ∧ g4 < w0.heap.size from ⟨by omega, blk_lt BK_t4.out⟩)
    rw [← hW, ← hg4, ← hg3]
    clear hW hg3 hg4
    have h_t30 : w0.cell? ⟨g3, 0, none⟩ = some (.slice A0 l0.length c0) := (blk_cell BK_t3.out 0).trans rfl
    have h_t31 : w0.cell? ⟨g3, 1, none⟩ = some (.int .i64 room) := (blk_cell BK_t3.out 1).trans rfl
    go_wp2_with fail
    refine (HSZ0.out _ D_w0.out).mono ?_; rintro e w2 ⟨rfl, hd⟩
    have D_w2 := Aside0.mk (below_step D_w0.out hd)
    clear hd h_t30 h_t31
    go_wp2
    go_ret
    exact ⟨rfl, D_w2.out⟩
  have h1 : decide (r0 < 0) = false := decide_eq_false h
  obtain ⟨z0, z1, hf⟩ := hp0 (by omega)
  obtain ⟨T0, t0⟩ := toFs_ev l0 room z0 z1
  obtain ⟨ns, hns⟩ : ∃ ns, ns = l0.map convN := ⟨_, rfl⟩
  rw [← hns] at t0 hf
  have hnl := hf.len
  have hle := forestR_len ns room cu cg path
  have CSP0 := fun (W : World) A c h1 h2 => forest4_walk ns A c room cu cg path W h1 h2 hf hpl
  have CIM0 := fun (W : World) A c h1 h2 => forest_walk ns A c room cu cg path W h1 h2 hf hpl
  obtain ⟨⟨us, ps, q⟩, hR⟩ : ∃ R, R = forestR ns room cu cg path := ⟨_, rfl⟩
  rw [← hR] at hle CSP0 CIM0
  simp only at hle CSP0 CIM0
  obtain ⟨hle1, hle2⟩ := hle
  have hme := markEnd_le ns 1 hf.list
  obtain ⟨K1, x1⟩ := eqIntS_self us (by omega)
  obtain ⟨K2, x2⟩ := eqStringF_ev ps (by omega)
  obtain ⟨K3, x3⟩ := markIntS_ev us 1 (by omega) (by omega) (by omega)
  obtain ⟨K4, x4⟩ := markStringS_ev ps (1 + us.length) (by omega) (by omega) (by omega)
  obtain ⟨K5, x5⟩ := heldIntS_ev us.length 1 (by omega) (by omega) (by omega)
  obtain ⟨K6, x6⟩ := heldStringS_ev ps.length (1 + us.length) (by omega) (by omega) (by omega)
  have CT := Aside0.mk (fun W (hb : Below w.heap.size w W) => laws_toFs.calls T0 A0 c0 l0 room ns room W (Kd.C_below HR0.out hb) HC0.out (t0 T0 (Nat.le_refl _)))
  have CC := Aside0.mk (fun W => laws_toCred.calls cu cg cu cg W rfl)
  have CSP := Aside0.mk CSP0
  have CIM := Aside0.mk CIM0
  have CEU := Aside0.mk (fun W A c A' c' h1 h2 h3 h4 => laws_eqIntS.calls K1 A c us A' c' us true W h1 h2 h3 h4 (x1 K1 (Nat.le_refl _)))
  have CEP := Aside0.mk (fun W A c A' c' h1 h2 h3 h4 => laws_eqStringS.calls K2 A c ps A' c' ps true W h1 h2 h3 h4 (x2 K2 (Nat.le_refl _)))
  have CEF := Aside0.mk (fun W A c A' c' h1 h3 => eqFs_walk A A' c c' ns room W h1 h3 hf)
  have CMF := Aside0.mk (fun W P v hB ho => markFs_walk P v room ns 1 w W hB ho hnl hf.list (by omega) (by omega))
  have CMU := Aside0.mk (fun W P v hB ho => laws_markIntS.calls K3 P v us 1 _ _ w W hB ho (x3 K3 (Nat.le_refl _)))
  have CMP := Aside0.mk (fun W P v hB ho => laws_markStringS.calls K4 P v ps (1 + us.length) _ _ w W hB ho (x4 K4 (Nat.le_refl _)))
  have CHU : Aside0 (∀ (W : World) (A : Option Addr) (c : Nat), Kd.C (Kd.int .i64) W A (markI 1 us.length).length (markI 1 us.length) → (markI 1 us.length).length ≤ c →
      Calls Tryz.prog 20 #[.slice A us.length c, .int .i64 1] W fun e w' => e = .returned (.int .i64 (1 + (us.length : Int))) ∧ Drawn0 W w') := ⟨fun W A c hr hc => by
    have h := laws_heldIntS.calls K5 A c (markI 1 us.length) 1 _ W hr hc (x5 K5 (Nat.le_refl _))
    rw [markI_length] at h
    exact h⟩
  have CHP : Aside0 (∀ (W : World) (A : Option Addr) (c : Nat), Kd.C Kd.string W A (markL (1 + us.length) ps.length).length (markL (1 + us.length) ps.length) → (markL (1 + us.length) ps.length).length ≤ c →
      Calls Tryz.prog 21 #[.slice A ps.length c, .int .i64 (1 + (us.length : Int))] W fun e w' => e = .returned (.int .i64 (1 + (us.length : Int) + (ps.length : Int))) ∧ Below W.heap.size W w') := ⟨fun W A c hr hc => by
    have h := laws_heldStringS.calls K6 A c (markL (1 + us.length) ps.length) (1 + us.length) _ W hr hc (x6 K6 (Nat.le_refl _))
    rw [markL_length] at h
    exact h⟩
  have q0 : decide (markEnd 1 ns < 0) = false := decide_eq_false (by omega)
  have q1 : decide (1 + (us.length : Int) < 0) = false := decide_eq_false (by omega)
  have q2 : decide (1 + (us.length : Int) + (ps.length : Int) < 0) = false := decide_eq_false (by omega)
  have HLU : Aside0 ((markI 1 us.length).length = us.length ∧ (markL (1 + us.length) ps.length).length = ps.length) := ⟨markI_length _ _, markL_length _ _⟩
  clear hq0 hp0 hl0 hs0 z0 z1 h hf t0 hns hnl hR hme CIM0 CSP0 x1 x2 x3 x4 x5 x6 hle1 hle2 hpl
  go_enter Tryz.func3, Tryz.ntmps3
  go_upto_region 1 with (fail)
  obtain ⟨w0, hW⟩ : ∃ W, W = (w.alloc (.cells #[.slice A0 l0.length c0, .int .i64 room] 24 (0, 0))).alloc (.cells #[.int .i64 cu, .int .i64 cg] 26 (0, 0)) := ⟨_, rfl⟩
  have D_w0 := Aside0.mk (show Below w.heap.size w w0 from by rw [hW]; exact below_alloc (below_alloc (Below.refl _ _) _) _)
  have BK_t3 := Aside0.mk (show w0.heap[w.heap.size]? = some (.cells #[.slice A0 l0.length c0, .int .i64 room] 24 (0, 0)) from by rw [hW]; exact blk_alloc (blk_new _ _) _)
  have BK_t4 := Aside0.mk (show w0.heap[w.heap.size + 1]? = some (.cells #[.int .i64 cu, .int .i64 cg] 26 (0, 0)) from by rw [hW]; have h := blk_new (w.alloc (.cells #[.slice A0 l0.length c0, .int .i64 room] 24 (0, 0))) (.cells #[.int .i64 cu, .int .i64 cg] 26 (0, 0)); rwa [World.size_alloc] at h)
  obtain ⟨g3, hg3⟩ : ∃ k, k = w.heap.size := ⟨_, rfl⟩
  obtain ⟨g4, hg4⟩ : ∃ k, k = w.heap.size + 1 := ⟨_, rfl⟩
  rw [← hg3] at BK_t3
  rw [← hg4] at BK_t4
  have S_w0 := Aside0.mk (show w.heap.size < w0.heap.size ∧ w.heap.size + 1 < w0.heap.size from ⟨by have := blk_lt BK_t3.out; omega, by have := blk_lt BK_t4.out; omega⟩)
  have GB_t3 := Aside0.mk (show w.heap.size ≤ g3 ∧ g3 < w0.heap.size from ⟨by omega, blk_lt BK_t3.out⟩)
  have GB_t4 := Aside0.mk (show w.heap.size ≤ g4 ∧ g4 < w0.heap.size from ⟨by omega, blk_lt BK_t4.out⟩)
  rw [← hW, ← hg4, ← hg3]
  clear hW hg3 hg4
  have h_t30 : w0.cell? ⟨g3, 0, none⟩ = some (.slice A0 l0.length c0) := (blk_cell BK_t3.out 0).trans rfl
  have h_t31 : w0.cell? ⟨g3, 1, none⟩ = some (.int .i64 room) := (blk_cell BK_t3.out 1).trans rfl
  go_wp2_with fail
  refine (HSZ0.out _ D_w0.out).mono ?_; rintro e w1 ⟨rfl, hd⟩
  have D_w1 := Aside0.mk (below_step D_w0.out hd)
  have S_w1 := Aside0.mk (show w0.heap.size ≤ w1.heap.size from hd.size)
  replace BK_t3 := Aside0.mk ((hd.block _ (blk_lt BK_t3.out)).trans BK_t3.out)
  replace BK_t4 := Aside0.mk ((hd.block _ (blk_lt BK_t4.out)).trans BK_t4.out)
  clear hd
  clear h_t30 h_t31
  go_upto_region 7 with (fail)
  have kk := find22 BK_t3.out BK_t4.out
  go_region_held3 (fun W => W.cell? ⟨g3, 0, none⟩ = some (.slice A0 l0.length c0) ∧ W.cell? ⟨g3, 1, none⟩ = some (.int .i64 room) ∧ W.cell? ⟨g4, 0, none⟩ = some (.int .i64 cu) ∧ W.cell? ⟨g4, 1, none⟩ = some (.int .i64 cg)) (first | exact kk | exact find22 (blk_drew BK_t3.out) (blk_drew BK_t4.out) | exact find22 (blk_below (blk_drew BK_t3.out) hd) (blk_below (blk_drew BK_t4.out) hd) | exact find22 (blk_below (blk_below (blk_drew BK_t3.out) hd) hd2) (blk_below (blk_below (blk_drew BK_t4.out) hd) hd2) | exact find22 (blk_below (blk_below (blk_below (blk_drew BK_t3.out) hd) hd2) hd3) (blk_below (blk_below (blk_below (blk_drew BK_t4.out) hd) hd2) hd3)) (first | (go_at_call 11; refine (CT.out _ (below_drew1 D_w1.out)).mono ?_; rintro e wt ⟨v, rfl, hR, hd⟩; obtain ⟨A_t, c_t, rfl⟩ := Kd.S_slice hR) | (go_at_call 12; refine (CC.out wt).mono ?_; rintro e wu ⟨rfl, hd2⟩) | (go_at_call 10; refine (CSP.out wu A_t c_t (Kd.S_reads' (Kd.S_below hR hd2)).2.2 (Kd.S_reads' hR).2.1).mono ?_; rintro e w2 ⟨v1, v2, rfl, hR1, hR2, hd3⟩; obtain ⟨A_SU, c_SU, e1⟩ := Kd.R_slice hR1; obtain ⟨A_SP, c_SP, e2⟩ := Kd.R_slice hR2; subst e1; subst e2))
  have hdd : Below w1.heap.size w1 w2 := below_step (below_step (below_step (below_drew1 (Below.refl _ _)) hd) hd2) hd3
  have hle : w1.heap.size ≤ wu.heap.size := (below_step (below_step (below_drew1 (Below.refl w1.heap.size w1)) hd) hd2).size
  have D_w2 := Aside0.mk (below_step D_w1.out hdd)
  have S_w2 := Aside0.mk (show w1.heap.size ≤ w2.heap.size from hdd.size)
  replace BK_t3 := Aside0.mk ((hdd.block _ (blk_lt BK_t3.out)).trans BK_t3.out)
  replace BK_t4 := Aside0.mk ((hdd.block _ (blk_lt BK_t4.out)).trans BK_t4.out)
  have R_SU := Aside0.mk (R_iv (Kd.R_lower hR1 hle))
  have R_SP := Aside0.mk (R_iv (Kd.R_lower hR2 hle))
  clear hd hd2 hd3 hdd hR hR1 hR2 kk hle
  have h_t30 : w2.cell? ⟨g3, 0, none⟩ = some (.slice A0 l0.length c0) := (blk_cell BK_t3.out 0).trans rfl
  have h_t31 : w2.cell? ⟨g3, 1, none⟩ = some (.int .i64 room) := (blk_cell BK_t3.out 1).trans rfl
  go_wp2_with fail
  refine (CT.out _ D_w2.out).mono ?_; rintro e w3 ⟨v, rfl, hR, hd⟩
  have D_w3 := Aside0.mk (below_step D_w2.out hd)
  have S_w3 := Aside0.mk (show w2.heap.size ≤ w3.heap.size from hd.size)
  replace R_SU := Aside0.mk (Kd.R_below R_SU.out hd)
  replace R_SP := Aside0.mk (Kd.R_below R_SP.out hd)
  replace BK_t3 := Aside0.mk ((hd.block _ (blk_lt BK_t3.out)).trans BK_t3.out)
  replace BK_t4 := Aside0.mk ((hd.block _ (blk_lt BK_t4.out)).trans BK_t4.out)
  have R_x0 := Aside0.mk (S_iv hR)
  obtain ⟨A_x0, c_x0, rfl⟩ := Kd.S_slice hR
  clear hR
  clear hd
  clear h_t30 h_t31
  go_upto_region 9 with (fail)
  obtain ⟨w4, hW⟩ : ∃ W, W = w3.alloc (.cells #[.slice A_x0 ns.length c_x0, .int .i64 room] 34 (0, 0)) := ⟨_, rfl⟩
  obtain ⟨g11, hg11⟩ : ∃ g, g = w3.heap.size := ⟨_, rfl⟩
  have hd : Below w3.heap.size w3 w4 := by rw [hW]; exact below_alloc (Below.refl _ _) _
  have D_w4 := Aside0.mk (below_step D_w3.out hd)
  have S_w4 := Aside0.mk (show w3.heap.size ≤ w4.heap.size from hd.size)
  replace R_SU := Aside0.mk (Kd.R_below R_SU.out hd)
  replace R_SP := Aside0.mk (Kd.R_below R_SP.out hd)
  replace R_x0 := Aside0.mk (Kd.S_below R_x0.out hd)
  replace BK_t3 := Aside0.mk ((hd.block _ (blk_lt BK_t3.out)).trans BK_t3.out)
  replace BK_t4 := Aside0.mk ((hd.block _ (blk_lt BK_t4.out)).trans BK_t4.out)
  have BK_t11 := Aside0.mk (show w4.heap[g11]? = some (.cells #[.slice A_x0 ns.length c_x0, .int .i64 room] 34 (0, 0)) from by rw [hW, hg11]; exact blk_new _ _)
  have GB_t11 := Aside0.mk (show w3.heap.size ≤ g11 ∧ g11 < w4.heap.size from ⟨by omega, blk_lt BK_t11.out⟩)
  rw [← hW, ← hg11]
  clear hW hg11 hd
  have kk := find22 BK_t11.out BK_t4.out
  go_region_held3 (fun W => W.cell? ⟨g11, 0, none⟩ = some (.slice A_x0 ns.length c_x0) ∧ W.cell? ⟨g11, 1, none⟩ = some (.int .i64 room) ∧ W.cell? ⟨g4, 0, none⟩ = some (.int .i64 cu) ∧ W.cell? ⟨g4, 1, none⟩ = some (.int .i64 cg)) (first | exact kk | exact find22 (blk_drew BK_t11.out) (blk_drew BK_t4.out) | exact find22 (blk_below (blk_drew BK_t11.out) hd) (blk_below (blk_drew BK_t4.out) hd) | exact find22 (blk_below (blk_below (blk_drew BK_t11.out) hd) hd2) (blk_below (blk_below (blk_drew BK_t4.out) hd) hd2)) (first | (go_at_call 12; refine (CC.out _).mono ?_; rintro e wu ⟨rfl, hd⟩) | (go_at_call 13; refine (CIM.out wu A_x0 c_x0 (Kd.S_reads' (Kd.S_below (Kd.S_drew R_x0.out) hd)).2.2 (Kd.S_reads' R_x0.out).2.1).mono ?_; rintro e w5 ⟨v1, v2, rfl, hR1, hR2, hd2⟩; obtain ⟨A_GU, c_GU, e1⟩ := Kd.R_slice hR1; obtain ⟨A_GP, c_GP, e2⟩ := Kd.R_slice hR2; subst e1; subst e2))
  have hdd : Below w4.heap.size w4 w5 := below_step (below_step (below_drew1 (Below.refl _ _)) hd) hd2
  have hle : w4.heap.size ≤ wu.heap.size := (below_step (below_drew1 (Below.refl w4.heap.size w4)) hd).size
  have D_w5 := Aside0.mk (below_step D_w4.out hdd)
  have S_w5 := Aside0.mk (show w4.heap.size ≤ w5.heap.size from hdd.size)
  replace R_SU := Aside0.mk (Kd.R_below R_SU.out hdd)
  replace R_SP := Aside0.mk (Kd.R_below R_SP.out hdd)
  replace R_x0 := Aside0.mk (Kd.S_below R_x0.out hdd)
  replace BK_t3 := Aside0.mk ((hdd.block _ (blk_lt BK_t3.out)).trans BK_t3.out)
  replace BK_t4 := Aside0.mk ((hdd.block _ (blk_lt BK_t4.out)).trans BK_t4.out)
  replace BK_t11 := Aside0.mk ((hdd.block _ (blk_lt BK_t11.out)).trans BK_t11.out)
  have R_GU := Aside0.mk (R_iv (Kd.R_lower hR1 hle))
  have R_GP := Aside0.mk (R_iv (Kd.R_lower hR2 hle))
  clear hd hd2 hdd hR1 hR2 kk hle
  go_wp2_with fail
  refine (CEU.out _ _ _ _ _ (Kd.R_reads' R_GU.out).2.2 (Kd.R_reads' R_GU.out).2.1 (Kd.R_reads' R_SU.out).2.2 (Kd.R_reads' R_SU.out).2.1).mono ?_; rintro e w6 ⟨rfl, hd0⟩
  have hd := Drawn0.below hd0
  clear hd0
  have D_w6 := Aside0.mk (below_step D_w5.out hd)
  have S_w6 := Aside0.mk (show w5.heap.size ≤ w6.heap.size from hd.size)
  replace R_SU := Aside0.mk (Kd.R_below R_SU.out hd)
  replace R_SP := Aside0.mk (Kd.R_below R_SP.out hd)
  replace R_x0 := Aside0.mk (Kd.S_below R_x0.out hd)
  replace R_GU := Aside0.mk (Kd.R_below R_GU.out hd)
  replace R_GP := Aside0.mk (Kd.R_below R_GP.out hd)
  replace BK_t3 := Aside0.mk ((hd.block _ (blk_lt BK_t3.out)).trans BK_t3.out)
  replace BK_t4 := Aside0.mk ((hd.block _ (blk_lt BK_t4.out)).trans BK_t4.out)
  replace BK_t11 := Aside0.mk ((hd.block _ (blk_lt BK_t11.out)).trans BK_t11.out)
  clear hd
  go_wp2_with fail
  refine (CEP.out _ _ _ _ _ (Kd.R_reads' R_GP.out).2.2 (Kd.R_reads' R_GP.out).2.1 (Kd.R_reads' R_SP.out).2.2 (Kd.R_reads' R_SP.out).2.1).mono ?_; rintro e w7 ⟨rfl, hd0⟩
  have hd := Drawn0.below hd0
  clear hd0
  have D_w7 := Aside0.mk (below_step D_w6.out hd)
  have S_w7 := Aside0.mk (show w6.heap.size ≤ w7.heap.size from hd.size)
  replace R_SU := Aside0.mk (Kd.R_below R_SU.out hd)
  replace R_SP := Aside0.mk (Kd.R_below R_SP.out hd)
  replace R_x0 := Aside0.mk (Kd.S_below R_x0.out hd)
  replace R_GU := Aside0.mk (Kd.R_below R_GU.out hd)
  replace R_GP := Aside0.mk (Kd.R_below R_GP.out hd)
  replace BK_t3 := Aside0.mk ((hd.block _ (blk_lt BK_t3.out)).trans BK_t3.out)
  replace BK_t4 := Aside0.mk ((hd.block _ (blk_lt BK_t4.out)).trans BK_t4.out)
  replace BK_t11 := Aside0.mk ((hd.block _ (blk_lt BK_t11.out)).trans BK_t11.out)
  clear hd
  go_upto_region 12 with (fail)
  have kk := find22 BK_t3.out BK_t11.out
  go_region_held3 (fun W => W.cell? ⟨g3, 0, none⟩ = some (.slice A0 l0.length c0) ∧ W.cell? ⟨g3, 1, none⟩ = some (.int .i64 room) ∧ W.cell? ⟨g11, 0, none⟩ = some (.slice A_x0 ns.length c_x0) ∧ W.cell? ⟨g11, 1, none⟩ = some (.int .i64 room)) (first | exact kk | exact find22 (blk_drew BK_t3.out) (blk_drew BK_t11.out) | exact find22 (blk_below (blk_drew BK_t3.out) hd) (blk_below (blk_drew BK_t11.out) hd) | exact find22 (blk_below (blk_below (blk_drew BK_t3.out) hd) hd2) (blk_below (blk_below (blk_drew BK_t11.out) hd) hd2)) (first | (go_at_call 11; refine (CT.out _ (below_drew1 D_w7.out)).mono ?_; rintro e wt ⟨v, rfl, hR, hd⟩; obtain ⟨A_t, c_t, rfl⟩ := Kd.S_slice hR) | (go_at_call 16; refine (CEF.out wt A_x0 c_x0 A_t c_t (Kd.S_reads' (Kd.S_below (Kd.S_drew R_x0.out) hd)).2.2 (Kd.S_reads' hR).2.2).mono ?_; rintro e w8 ⟨rfl, hd2⟩))
  have hdd : Below w7.heap.size w7 w8 := below_step (below_step (below_drew1 (Below.refl _ _)) hd) hd2
  have D_w8 := Aside0.mk (below_step D_w7.out hdd)
  have S_w8 := Aside0.mk (show w7.heap.size ≤ w8.heap.size from hdd.size)
  replace R_SU := Aside0.mk (Kd.R_below R_SU.out hdd)
  replace R_SP := Aside0.mk (Kd.R_below R_SP.out hdd)
  replace R_x0 := Aside0.mk (Kd.S_below R_x0.out hdd)
  replace R_GU := Aside0.mk (Kd.R_below R_GU.out hdd)
  replace R_GP := Aside0.mk (Kd.R_below R_GP.out hdd)
  replace BK_t3 := Aside0.mk ((hdd.block _ (blk_lt BK_t3.out)).trans BK_t3.out)
  replace BK_t4 := Aside0.mk ((hdd.block _ (blk_lt BK_t4.out)).trans BK_t4.out)
  replace BK_t11 := Aside0.mk ((hdd.block _ (blk_lt BK_t11.out)).trans BK_t11.out)
  clear hd hd2 hdd hR kk
  have h_t110 : w8.cell? ⟨g11, 0, none⟩ = some (.slice A_x0 ns.length c_x0) := (blk_cell BK_t11.out 0).trans rfl
  have h_t111 : w8.cell? ⟨g11, 1, none⟩ = some (.int .i64 room) := (blk_cell BK_t11.out 1).trans rfl
  go_wp2_with fail
  refine (CMF.out _ (fun k => w2.heap.size ≤ k ∧ k < w3.heap.size) _ D_w8.out (Kd.S_lower R_x0.out D_w2.out.size)).mono ?_; rintro e w9 ⟨rfl, hm, hD, hk⟩
  have D_w9 := Aside0.mk hD
  have S_w9 := Aside0.mk (show w8.heap.size ≤ w9.heap.size from hk.1)
  replace R_SU := Aside0.mk (R_kept R_SU.out hk (fun k hk h => by have := S_w0.out; have := S_w1.out; have := S_w2.out; have := S_w3.out; have := S_w4.out; have := S_w5.out; have := S_w6.out; have := S_w7.out; have := S_w8.out; have := hk.1; have := hk.2; have := h.1; have := h.2; omega))
  replace R_SP := Aside0.mk (R_kept R_SP.out hk (fun k hk h => by have := S_w0.out; have := S_w1.out; have := S_w2.out; have := S_w3.out; have := S_w4.out; have := S_w5.out; have := S_w6.out; have := S_w7.out; have := S_w8.out; have := hk.1; have := hk.2; have := h.1; have := h.2; omega))
  replace R_GU := Aside0.mk (R_kept R_GU.out hk (fun k hk h => by have := S_w0.out; have := S_w1.out; have := S_w2.out; have := S_w3.out; have := S_w4.out; have := S_w5.out; have := S_w6.out; have := S_w7.out; have := S_w8.out; have := hk.1; have := hk.2; have := h.1; have := h.2; omega))
  replace R_GP := Aside0.mk (R_kept R_GP.out hk (fun k hk h => by have := S_w0.out; have := S_w1.out; have := S_w2.out; have := S_w3.out; have := S_w4.out; have := S_w5.out; have := S_w6.out; have := S_w7.out; have := S_w8.out; have := hk.1; have := hk.2; have := h.1; have := h.2; omega))
  replace BK_t3 := Aside0.mk ((hk.2 _ (blk_lt BK_t3.out) (fun h => by have := S_w0.out; have := S_w1.out; have := S_w2.out; have := S_w3.out; have := S_w4.out; have := S_w5.out; have := S_w6.out; have := S_w7.out; have := S_w8.out; have := GB_t3.out; have := h.1; have := h.2; omega)).trans BK_t3.out)
  replace BK_t4 := Aside0.mk ((hk.2 _ (blk_lt BK_t4.out) (fun h => by have := S_w0.out; have := S_w1.out; have := S_w2.out; have := S_w3.out; have := S_w4.out; have := S_w5.out; have := S_w6.out; have := S_w7.out; have := S_w8.out; have := GB_t4.out; have := h.1; have := h.2; omega)).trans BK_t4.out)
  replace BK_t11 := Aside0.mk ((hk.2 _ (blk_lt BK_t11.out) (fun h => by have := S_w0.out; have := S_w1.out; have := S_w2.out; have := S_w3.out; have := S_w4.out; have := S_w5.out; have := S_w6.out; have := S_w7.out; have := S_w8.out; have := GB_t11.out; have := h.1; have := h.2; omega)).trans BK_t11.out)
  clear R_x0
  have R_x0 := Aside0.mk hm
  clear hm hD hk
  clear h_t110 h_t111
  clear R_x0
  clear BK_t11 GB_t11
  go_wp2_with fail
  refine (CEU.out _ _ _ _ _ (Kd.R_reads' R_GU.out).2.2 (Kd.R_reads' R_GU.out).2.1 (Kd.R_reads' R_SU.out).2.2 (Kd.R_reads' R_SU.out).2.1).mono ?_; rintro e w10 ⟨rfl, hd0⟩
  have hd := Drawn0.below hd0
  clear hd0
  have D_w10 := Aside0.mk (below_step D_w9.out hd)
  have S_w10 := Aside0.mk (show w9.heap.size ≤ w10.heap.size from hd.size)
  replace R_SU := Aside0.mk (Kd.R_below R_SU.out hd)
  replace R_SP := Aside0.mk (Kd.R_below R_SP.out hd)
  replace R_GU := Aside0.mk (Kd.R_below R_GU.out hd)
  replace R_GP := Aside0.mk (Kd.R_below R_GP.out hd)
  replace BK_t3 := Aside0.mk ((hd.block _ (blk_lt BK_t3.out)).trans BK_t3.out)
  replace BK_t4 := Aside0.mk ((hd.block _ (blk_lt BK_t4.out)).trans BK_t4.out)
  clear hd
  go_wp2_with fail
  refine (CEP.out _ _ _ _ _ (Kd.R_reads' R_GP.out).2.2 (Kd.R_reads' R_GP.out).2.1 (Kd.R_reads' R_SP.out).2.2 (Kd.R_reads' R_SP.out).2.1).mono ?_; rintro e w11 ⟨rfl, hd0⟩
  have hd := Drawn0.below hd0
  clear hd0
  have D_w11 := Aside0.mk (below_step D_w10.out hd)
  have S_w11 := Aside0.mk (show w10.heap.size ≤ w11.heap.size from hd.size)
  replace R_SU := Aside0.mk (Kd.R_below R_SU.out hd)
  replace R_SP := Aside0.mk (Kd.R_below R_SP.out hd)
  replace R_GU := Aside0.mk (Kd.R_below R_GU.out hd)
  replace R_GP := Aside0.mk (Kd.R_below R_GP.out hd)
  replace BK_t3 := Aside0.mk ((hd.block _ (blk_lt BK_t3.out)).trans BK_t3.out)
  replace BK_t4 := Aside0.mk ((hd.block _ (blk_lt BK_t4.out)).trans BK_t4.out)
  clear hd
  have hso : ∀ k, (Value.slice A_GP ps.length c_GP).ownBlock = some k → some k ≠ (Value.slice A_GU us.length c_GU).ownBlock := fun k hk => ((Kd.R_apartR R_GP.out R_GU.out (by decide)).1 k hk).2
  have R2_GU := Aside0.mk (Kd.R_flat (ok' := fun k => (w4.heap.size ≤ k ∧ k < w5.heap.size) ∧ some k = (Value.slice A_GU us.length c_GU).ownBlock) (fun h => h) R_GU.out (fun k hk h => ⟨h, hk.symm⟩))
  have R2_GP := Aside0.mk (Kd.R_flat (ok' := fun k => (w4.heap.size ≤ k ∧ k < w5.heap.size) ∧ some k ≠ (Value.slice A_GU us.length c_GU).ownBlock) (fun h => h) R_GP.out (fun k hk h => ⟨h, hso k hk⟩))
  clear hso
  go_wp2_with fail
  refine (CMU.out _ (fun k => (w4.heap.size ≤ k ∧ k < w5.heap.size) ∧ some k = (Value.slice A_GU us.length c_GU).ownBlock) _ D_w11.out (Kd.R_lower R2_GU.out D_w4.out.size)).mono ?_; rintro e w12 ⟨rfl, hm, hD, hk⟩
  have D_w12 := Aside0.mk hD
  have S_w12 := Aside0.mk (show w11.heap.size ≤ w12.heap.size from hk.1)
  replace R_SU := Aside0.mk (R_kept R_SU.out hk (fun k hk h => by have := S_w0.out; have := S_w1.out; have := S_w2.out; have := S_w3.out; have := S_w4.out; have := S_w5.out; have := S_w6.out; have := S_w7.out; have := S_w8.out; have := S_w9.out; have := S_w10.out; have := S_w11.out; have := hk.1; have := hk.2; have := h.1.1; have := h.1.2; omega))
  replace R_SP := Aside0.mk (R_kept R_SP.out hk (fun k hk h => by have := S_w0.out; have := S_w1.out; have := S_w2.out; have := S_w3.out; have := S_w4.out; have := S_w5.out; have := S_w6.out; have := S_w7.out; have := S_w8.out; have := S_w9.out; have := S_w10.out; have := S_w11.out; have := hk.1; have := hk.2; have := h.1.1; have := h.1.2; omega))
  clear R_GP
  have R_GP := Aside0.mk (Kd.R_mono (ok' := fun k => w4.heap.size ≤ k ∧ k < w5.heap.size) (R_kept R2_GP.out hk (fun k hk h => hk.2 h.2)) (fun k h => h.1))
  replace BK_t3 := Aside0.mk ((hk.2 _ (blk_lt BK_t3.out) (fun h => by have := S_w0.out; have := S_w1.out; have := S_w2.out; have := S_w3.out; have := S_w4.out; have := S_w5.out; have := S_w6.out; have := S_w7.out; have := S_w8.out; have := S_w9.out; have := S_w10.out; have := S_w11.out; have := GB_t3.out; have := h.1.1; have := h.1.2; omega)).trans BK_t3.out)
  replace BK_t4 := Aside0.mk ((hk.2 _ (blk_lt BK_t4.out) (fun h => by have := S_w0.out; have := S_w1.out; have := S_w2.out; have := S_w3.out; have := S_w4.out; have := S_w5.out; have := S_w6.out; have := S_w7.out; have := S_w8.out; have := S_w9.out; have := S_w10.out; have := S_w11.out; have := GB_t4.out; have := h.1.1; have := h.1.2; omega)).trans BK_t4.out)
  have hm2 := Kd.R_flat (ok' := fun k => w4.heap.size ≤ k ∧ k < w5.heap.size) (fun h => h) hm (fun k hk h => h.elim (fun h => h.1) (fun h => (Nat.not_lt.mpr h (Kd.R_lt R2_GU.out k hk)).elim))
  clear R_GU
  have R_GU := Aside0.mk hm2
  clear hm hm2 hD hk R2_GU R2_GP
  have hso : ∀ k, (Value.slice A_GU us.length c_GU).ownBlock = some k → some k ≠ (Value.slice A_GP ps.length c_GP).ownBlock := fun k hk => ((Kd.R_apartR R_GU.out R_GP.out (by decide)).1 k hk).2
  have R2_GP := Aside0.mk (Kd.R_flat (ok' := fun k => (w4.heap.size ≤ k ∧ k < w5.heap.size) ∧ some k = (Value.slice A_GP ps.length c_GP).ownBlock) (fun h => h) R_GP.out (fun k hk h => ⟨h, hk.symm⟩))
  have R2_GU := Aside0.mk (Kd.R_flat (ok' := fun k => (w4.heap.size ≤ k ∧ k < w5.heap.size) ∧ some k ≠ (Value.slice A_GP ps.length c_GP).ownBlock) (fun h => h) R_GU.out (fun k hk h => ⟨h, hso k hk⟩))
  clear hso
  go_wp2_with fail
  refine (CMP.out _ (fun k => (w4.heap.size ≤ k ∧ k < w5.heap.size) ∧ some k = (Value.slice A_GP ps.length c_GP).ownBlock) _ D_w12.out (Kd.R_lower R2_GP.out D_w4.out.size)).mono ?_; rintro e w13 ⟨rfl, hm, hD, hk⟩
  have D_w13 := Aside0.mk hD
  have S_w13 := Aside0.mk (show w12.heap.size ≤ w13.heap.size from hk.1)
  replace R_SU := Aside0.mk (R_kept R_SU.out hk (fun k hk h => by have := S_w0.out; have := S_w1.out; have := S_w2.out; have := S_w3.out; have := S_w4.out; have := S_w5.out; have := S_w6.out; have := S_w7.out; have := S_w8.out; have := S_w9.out; have := S_w10.out; have := S_w11.out; have := S_w12.out; have := hk.1; have := hk.2; have := h.1.1; have := h.1.2; omega))
  replace R_SP := Aside0.mk (R_kept R_SP.out hk (fun k hk h => by have := S_w0.out; have := S_w1.out; have := S_w2.out; have := S_w3.out; have := S_w4.out; have := S_w5.out; have := S_w6.out; have := S_w7.out; have := S_w8.out; have := S_w9.out; have := S_w10.out; have := S_w11.out; have := S_w12.out; have := hk.1; have := hk.2; have := h.1.1; have := h.1.2; omega))
  clear R_GU
  have R_GU := Aside0.mk (Kd.R_mono (ok' := fun k => w4.heap.size ≤ k ∧ k < w5.heap.size) (R_kept R2_GU.out hk (fun k hk h => hk.2 h.2)) (fun k h => h.1))
  replace BK_t3 := Aside0.mk ((hk.2 _ (blk_lt BK_t3.out) (fun h => by have := S_w0.out; have := S_w1.out; have := S_w2.out; have := S_w3.out; have := S_w4.out; have := S_w5.out; have := S_w6.out; have := S_w7.out; have := S_w8.out; have := S_w9.out; have := S_w10.out; have := S_w11.out; have := S_w12.out; have := GB_t3.out; have := h.1.1; have := h.1.2; omega)).trans BK_t3.out)
  replace BK_t4 := Aside0.mk ((hk.2 _ (blk_lt BK_t4.out) (fun h => by have := S_w0.out; have := S_w1.out; have := S_w2.out; have := S_w3.out; have := S_w4.out; have := S_w5.out; have := S_w6.out; have := S_w7.out; have := S_w8.out; have := S_w9.out; have := S_w10.out; have := S_w11.out; have := S_w12.out; have := GB_t4.out; have := h.1.1; have := h.1.2; omega)).trans BK_t4.out)
  have hm2 := Kd.R_flat (ok' := fun k => w4.heap.size ≤ k ∧ k < w5.heap.size) (fun h => h) hm (fun k hk h => h.elim (fun h => h.1) (fun h => (Nat.not_lt.mpr h (Kd.R_lt R2_GP.out k hk)).elim))
  clear R_GP
  have R_GP := Aside0.mk hm2
  clear hm hm2 hD hk R2_GP R2_GU
  go_wp2_with fail
  refine (CHU.out _ _ _ (Kd.R_reads' R_GU.out).2.2 (by have h := (Kd.R_reads' R_GU.out).2.1; simpa [markI_length] using h)).mono ?_; rintro e w14 ⟨rfl, hd0⟩
  have hd := Drawn0.below hd0
  clear hd0
  have D_w14 := Aside0.mk (below_step D_w13.out hd)
  have S_w14 := Aside0.mk (show w13.heap.size ≤ w14.heap.size from hd.size)
  replace R_SU := Aside0.mk (Kd.R_below R_SU.out hd)
  replace R_SP := Aside0.mk (Kd.R_below R_SP.out hd)
  replace R_GU := Aside0.mk (Kd.R_below R_GU.out hd)
  replace R_GP := Aside0.mk (Kd.R_below R_GP.out hd)
  replace BK_t3 := Aside0.mk ((hd.block _ (blk_lt BK_t3.out)).trans BK_t3.out)
  replace BK_t4 := Aside0.mk ((hd.block _ (blk_lt BK_t4.out)).trans BK_t4.out)
  clear hd
  go_wp2_with fail
  refine (CHP.out _ _ _ (Kd.R_reads' R_GP.out).2.2 (by have h := (Kd.R_reads' R_GP.out).2.1; simpa [markL_length] using h)).mono ?_; rintro e w15 ⟨rfl, hd⟩
  have D_w15 := Aside0.mk (below_step D_w14.out hd)
  have S_w15 := Aside0.mk (show w14.heap.size ≤ w15.heap.size from hd.size)
  replace R_SU := Aside0.mk (Kd.R_below R_SU.out hd)
  replace R_SP := Aside0.mk (Kd.R_below R_SP.out hd)
  replace R_GU := Aside0.mk (Kd.R_below R_GU.out hd)
  replace R_GP := Aside0.mk (Kd.R_below R_GP.out hd)
  replace BK_t3 := Aside0.mk ((hd.block _ (blk_lt BK_t3.out)).trans BK_t3.out)
  replace BK_t4 := Aside0.mk ((hd.block _ (blk_lt BK_t4.out)).trans BK_t4.out)
  clear hd
  go_upto_region 30 with (fail)
  have kk := find22 BK_t3.out BK_t4.out
  go_region_held3 (fun W => W.cell? ⟨g3, 0, none⟩ = some (.slice A0 l0.length c0) ∧ W.cell? ⟨g3, 1, none⟩ = some (.int .i64 room) ∧ W.cell? ⟨g4, 0, none⟩ = some (.int .i64 cu) ∧ W.cell? ⟨g4, 1, none⟩ = some (.int .i64 cg)) (first | exact kk | exact find22 (blk_drew BK_t3.out) (blk_drew BK_t4.out) | exact find22 (blk_below (blk_drew BK_t3.out) hd) (blk_below (blk_drew BK_t4.out) hd) | exact find22 (blk_below (blk_below (blk_drew BK_t3.out) hd) hd2) (blk_below (blk_below (blk_drew BK_t4.out) hd) hd2) | exact find22 (blk_below (blk_below (blk_below (blk_drew BK_t3.out) hd) hd2) hd3) (blk_below (blk_below (blk_below (blk_drew BK_t4.out) hd) hd2) hd3)) (first | (go_at_call 11; refine (CT.out _ (below_drew1 D_w15.out)).mono ?_; rintro e wt ⟨v, rfl, hR, hd⟩; obtain ⟨A_t, c_t, rfl⟩ := Kd.S_slice hR) | (go_at_call 12; refine (CC.out wt).mono ?_; rintro e wu ⟨rfl, hd2⟩) | (go_at_call 13; refine (CIM.out wu A_t c_t (Kd.S_reads' (Kd.S_below hR hd2)).2.2 (Kd.S_reads' hR).2.1).mono ?_; rintro e w16 ⟨v1, v2, rfl, hR1, hR2, hd3⟩; obtain ⟨A_HU, c_HU, e1⟩ := Kd.R_slice hR1; obtain ⟨A_HP, c_HP, e2⟩ := Kd.R_slice hR2; subst e1; subst e2))
  have hdd : Below w15.heap.size w15 w16 := below_step (below_step (below_step (below_drew1 (Below.refl _ _)) hd) hd2) hd3
  have hle : w15.heap.size ≤ wu.heap.size := (below_step (below_step (below_drew1 (Below.refl w15.heap.size w15)) hd) hd2).size
  have D_w16 := Aside0.mk (below_step D_w15.out hdd)
  have S_w16 := Aside0.mk (show w15.heap.size ≤ w16.heap.size from hdd.size)
  replace R_SU := Aside0.mk (Kd.R_below R_SU.out hdd)
  replace R_SP := Aside0.mk (Kd.R_below R_SP.out hdd)
  replace R_GU := Aside0.mk (Kd.R_below R_GU.out hdd)
  replace R_GP := Aside0.mk (Kd.R_below R_GP.out hdd)
  replace BK_t3 := Aside0.mk ((hdd.block _ (blk_lt BK_t3.out)).trans BK_t3.out)
  replace BK_t4 := Aside0.mk ((hdd.block _ (blk_lt BK_t4.out)).trans BK_t4.out)
  have R_HU := Aside0.mk (R_iv (Kd.R_lower hR1 hle))
  have R_HP := Aside0.mk (R_iv (Kd.R_lower hR2 hle))
  clear hd hd2 hd3 hdd hR hR1 hR2 kk hle
  go_wp2_with fail
  refine (CEU.out _ _ _ _ _ (Kd.R_reads' R_HU.out).2.2 (Kd.R_reads' R_HU.out).2.1 (Kd.R_reads' R_SU.out).2.2 (Kd.R_reads' R_SU.out).2.1).mono ?_; rintro e w17 ⟨rfl, hd0⟩
  have hd := Drawn0.below hd0
  clear hd0
  have D_w17 := Aside0.mk (below_step D_w16.out hd)
  have S_w17 := Aside0.mk (show w16.heap.size ≤ w17.heap.size from hd.size)
  replace R_SU := Aside0.mk (Kd.R_below R_SU.out hd)
  replace R_SP := Aside0.mk (Kd.R_below R_SP.out hd)
  replace R_GU := Aside0.mk (Kd.R_below R_GU.out hd)
  replace R_GP := Aside0.mk (Kd.R_below R_GP.out hd)
  replace R_HU := Aside0.mk (Kd.R_below R_HU.out hd)
  replace R_HP := Aside0.mk (Kd.R_below R_HP.out hd)
  replace BK_t3 := Aside0.mk ((hd.block _ (blk_lt BK_t3.out)).trans BK_t3.out)
  replace BK_t4 := Aside0.mk ((hd.block _ (blk_lt BK_t4.out)).trans BK_t4.out)
  clear hd
  go_wp2_with fail
  refine (CEP.out _ _ _ _ _ (Kd.R_reads' R_HP.out).2.2 (Kd.R_reads' R_HP.out).2.1 (Kd.R_reads' R_SP.out).2.2 (Kd.R_reads' R_SP.out).2.1).mono ?_; rintro e w18 ⟨rfl, hd0⟩
  have hd := Drawn0.below hd0
  clear hd0
  have D_w18 := Aside0.mk (below_step D_w17.out hd)
  have S_w18 := Aside0.mk (show w17.heap.size ≤ w18.heap.size from hd.size)
  replace R_SU := Aside0.mk (Kd.R_below R_SU.out hd)
  replace R_SP := Aside0.mk (Kd.R_below R_SP.out hd)
  replace R_GU := Aside0.mk (Kd.R_below R_GU.out hd)
  replace R_GP := Aside0.mk (Kd.R_below R_GP.out hd)
  replace R_HU := Aside0.mk (Kd.R_below R_HU.out hd)
  replace R_HP := Aside0.mk (Kd.R_below R_HP.out hd)
  replace BK_t3 := Aside0.mk ((hd.block _ (blk_lt BK_t3.out)).trans BK_t3.out)
  replace BK_t4 := Aside0.mk ((hd.block _ (blk_lt BK_t4.out)).trans BK_t4.out)
  clear hd
  go_wp2_with fail
  refine (CHU.out _ _ _ (Kd.R_reads' R_GU.out).2.2 (by have h := (Kd.R_reads' R_GU.out).2.1; simpa [markI_length] using h)).mono ?_; rintro e w19 ⟨rfl, hd0⟩
  have hd := Drawn0.below hd0
  clear hd0
  have D_w19 := Aside0.mk (below_step D_w18.out hd)
  have S_w19 := Aside0.mk (show w18.heap.size ≤ w19.heap.size from hd.size)
  replace R_SU := Aside0.mk (Kd.R_below R_SU.out hd)
  replace R_SP := Aside0.mk (Kd.R_below R_SP.out hd)
  replace R_GU := Aside0.mk (Kd.R_below R_GU.out hd)
  replace R_GP := Aside0.mk (Kd.R_below R_GP.out hd)
  replace R_HU := Aside0.mk (Kd.R_below R_HU.out hd)
  replace R_HP := Aside0.mk (Kd.R_below R_HP.out hd)
  replace BK_t3 := Aside0.mk ((hd.block _ (blk_lt BK_t3.out)).trans BK_t3.out)
  replace BK_t4 := Aside0.mk ((hd.block _ (blk_lt BK_t4.out)).trans BK_t4.out)
  clear hd
  go_wp2_with fail
  refine (CHP.out _ _ _ (Kd.R_reads' R_GP.out).2.2 (by have h := (Kd.R_reads' R_GP.out).2.1; simpa [markL_length] using h)).mono ?_; rintro e w20 ⟨rfl, hd⟩
  have D_w20 := Aside0.mk (below_step D_w19.out hd)
  have S_w20 := Aside0.mk (show w19.heap.size ≤ w20.heap.size from hd.size)
  replace R_SU := Aside0.mk (Kd.R_below R_SU.out hd)
  replace R_SP := Aside0.mk (Kd.R_below R_SP.out hd)
  replace R_GU := Aside0.mk (Kd.R_below R_GU.out hd)
  replace R_GP := Aside0.mk (Kd.R_below R_GP.out hd)
  replace R_HU := Aside0.mk (Kd.R_below R_HU.out hd)
  replace R_HP := Aside0.mk (Kd.R_below R_HP.out hd)
  replace BK_t3 := Aside0.mk ((hd.block _ (blk_lt BK_t3.out)).trans BK_t3.out)
  replace BK_t4 := Aside0.mk ((hd.block _ (blk_lt BK_t4.out)).trans BK_t4.out)
  clear hd
  go_wp2
  go_ret
  exact ⟨rfl, D_w20.out⟩
end Go.Proofs.YtfohpboikknknaaGreatDoor.Q
