/- The law FnExactSameItems over lists alone: the printed functions answer true. -/
import Derived.Test.YtiffdlphmjeklaaPFnExactSameItemsx3
namespace Go.Proofs.Ytiffdlphmjeklaa.PFnExactSameItems
open Go.RowKit Go.Proofs.YtiffdlphmjeklaaW.PrintWords Go.Proofs.YtiffdlphmjeklaaW.PrintLast Go.Proofs.YtiffdlphmjeklaaW.PrintMore

theorem step_i {i n : Nat} (h : i < n) (hn : n ≤ 1759218604391) : wrap64 ((i : Int) + 1) = ((i + 1 : Nat) : Int) := by
  unfold wrap64; omega

theorem rd30 (xs : List S30) (i : Nat) (h : i < xs.length) : rd_T30 xs (i : Int) = xs[i] := by
  unfold rd_T30; simp [List.getD, h]
theorem rd31 (xs : List S31) (i : Nat) (h : i < xs.length) : rd_T31 xs (i : Int) = xs[i] := by
  unfold rd_T31; simp [List.getD, h]

def conv (x : S30) : S31 := ⟨x.f0, x.f1, x.f2, x.f3, x.f4, x.f5, x.f6, x.f7⟩

theorem toItemS_loop (l0 : List S30) (hl : l0.length ≤ 1759218604391) (d : Nat) : ∀ (i : Nat) (acc : List S31), i + d = l0.length → acc.length = l0.length →
    Ev (fun k => laws_toItemS.l0 k l0 acc (i : Int)) (acc.take i ++ (l0.drop i).map conv) := by
  induction d with
  | zero =>
    intro i acc hi ha
    refine Ev.step (f := fun _ => some acc) (fun k => ?_) ?_
    · simp only [laws_toItemS.l0]; rw [if_neg (by omega)]
    · have : acc.take i ++ (l0.drop i).map conv = acc := by
        rw [List.drop_of_length_le (by omega), List.take_of_length_le (by omega)]; simp
      rw [this]; exact Ev.now acc
  | succ d ih =>
    intro i acc hi ha
    have hlt : i < l0.length := by omega
    have := ih (i + 1) (acc.set i (conv l0[i])) (by omega) (by simpa using ha)
    refine Ev.step (f := fun k => laws_toItemS.l0 k l0 (acc.set i (conv l0[i])) ((i + 1 : Nat) : Int)) (fun k => ?_) ?_
    · simp only [laws_toItemS.l0]
      rw [if_pos (by omega), if_pos (by omega)]
      simp only [laws_toItem.f, Option.bind_some]
      rw [if_pos (by omega), step_i hlt hl, rd30 _ _ hlt]; rfl
    · have e : (acc.set i (conv l0[i])).take (i + 1) ++ (l0.drop (i + 1)).map conv = acc.take i ++ (l0.drop i).map conv := by
        rw [List.drop_eq_getElem_cons hlt, List.map_cons, List.take_succ_eq_append_getElem (by simp; omega), List.take_set_of_le (by omega), List.getElem_set_self, List.append_assoc]; rfl
      rw [← e]; exact this

theorem toItemS_ev (l0 : List S30) (hl : l0.length ≤ 1759218604391) : Ev (fun k => laws_toItemS.f k l0) (l0.map conv) := by
  refine Ev.congr (f := fun k => laws_toItemS.l0 k l0 (List.replicate l0.length z31) ((0 : Nat) : Int)) (fun k => ?_) ?_
  · simp only [laws_toItemS.f]
    rw [if_pos (by omega), if_pos (by omega)]; rfl
  · simpa using toItemS_loop l0 hl l0.length 0 (List.replicate l0.length z31) (by omega) (by simp)

theorem eqItem_self (a : S31) : laws_eqItem.f a.f0 a.f1 a.f2 a.f3 a.f4 a.f5 a.f6 a.f7 a.f0 a.f1 a.f2 a.f3 a.f4 a.f5 a.f6 a.f7 = some true := by
  unfold laws_eqItem.f; simp

theorem eqItemS_loop (l : List S31) (hl : l.length ≤ 1759218604391) (d : Nat) : ∀ i : Nat, i + d = l.length → Ev (fun k => laws_eqItemS.l0 k l l (i : Int)) true := by
  induction d with
  | zero =>
    intro i hi
    refine Ev.step (f := fun _ => some true) (fun k => ?_) (Ev.now true)
    simp only [laws_eqItemS.l0]; rw [if_neg (by omega)]
  | succ d ih =>
    intro i hi
    have hlt : i < l.length := by omega
    refine Ev.step (f := fun k => laws_eqItemS.l0 k l l ((i + 1 : Nat) : Int)) (fun k => ?_) (ih (i + 1) (by omega))
    simp only [laws_eqItemS.l0]
    rw [if_pos (by omega), if_pos (by omega), if_pos (by omega), rd31 _ _ hlt, eqItem_self, step_i hlt hl]; simp only [Option.bind_some, if_true]

theorem eqItemS_ev (l : List S31) (hl : l.length ≤ 1759218604391) : Ev (fun k => laws_eqItemS.f k l l) true := by
  refine Ev.congr (f := fun k => laws_eqItemS.l0 k l l ((0 : Nat) : Int)) (fun k => ?_) (eqItemS_loop l hl l.length 0 (by omega))
  simp only [laws_eqItemS.f, if_true]; rfl

theorem same_l0 : ∀ k x0 x1 x2 x3, impl_Item.l0 k x0 x1 x2 x3 = spec_SameItems.l0 k x0 x1 x2 x3 := by
  intro k
  induction k with
  | zero => intros; rfl
  | succ k ih => intros; simp only [impl_Item.l0, spec_SameItems.l0, ih]

theorem same_loop (a b : List S31) (hab : a.length = b.length) (hl : a.length ≤ 1759218604391) (d : Nat) : ∀ i : Nat, i + d = a.length → ∃ r, Ev (fun k => spec_SameItems.l0 k a b (a.length : Int) (i : Int)) r := by
  induction d with
  | zero =>
    intro i hi
    refine ⟨true, Ev.step (f := fun _ => some true) (fun k => ?_) (Ev.now true)⟩
    simp only [spec_SameItems.l0]; rw [if_neg (by omega)]
  | succ d ih =>
    intro i hi
    have hlt : i < a.length := by omega
    obtain ⟨r, hr⟩ := ih (i + 1) (by omega)
    have e : ∀ k, spec_SameItems.l0 (k + 1) a b (a.length : Int) (i : Int) = _ := fun k => by
      simp only [spec_SameItems.l0]
      rw [if_pos (by omega), if_pos (by omega), if_pos (by omega), if_pos (by omega), step_i hlt hl]
    by_cases hc : (!((((rd_T31 a i).f0).toList) == (((rd_T31 b i).f0).toList)) || (!(((rd_T31 a i).f1) == ((rd_T31 b i).f1)) || (!(((rd_T31 a i).f2) == ((rd_T31 b i).f2)) || (!(((rd_T31 a i).f3) == ((rd_T31 b i).f3)) || (!(((rd_T31 a i).f4) == ((rd_T31 b i).f4)) || (!(((rd_T31 a i).f5) == ((rd_T31 b i).f5)) || (!(((rd_T31 a i).f6) == ((rd_T31 b i).f6)) || (!((((rd_T31 a i).f7).toList) == (((rd_T31 b i).f7).toList)))))))))) = true
    · exact ⟨false, Ev.step (f := fun _ => some false) (fun k => by rw [e k, if_pos hc]) (Ev.now false)⟩
    · exact ⟨r, Ev.step (f := fun k => spec_SameItems.l0 k a b (a.length : Int) ((i + 1 : Nat) : Int)) (fun k => by rw [e k, if_neg hc]) hr⟩

theorem same_ev (a b : List S31) (hl : a.length ≤ 1759218604391) : ∃ r, Ev (fun k => spec_SameItems.f k a b) r ∧ Ev (fun k => impl_SameItems.f k a b) r := by
  have he : ∀ k, impl_SameItems.f k a b = spec_SameItems.f k a b := fun k => by
    simp only [impl_SameItems.f, impl_Item.f, spec_SameItems.f, same_l0]
    split <;> simp
  suffices h : ∃ r, Ev (fun k => spec_SameItems.f k a b) r by
    obtain ⟨r, hr⟩ := h
    exact ⟨r, hr, Ev.congr he hr⟩
  by_cases hab : a.length = b.length
  · obtain ⟨r, hr⟩ := same_loop a b hab hl a.length 0 (by omega)
    exact ⟨r, Ev.congr (fun k => by simp only [spec_SameItems.f]; rw [if_pos (by omega)]; rfl) hr⟩
  · exact ⟨false, Ev.congr (f := fun _ => some false) (fun k => by simp only [spec_SameItems.f]; rw [if_neg (by omega)]) (Ev.now false)⟩

theorem szItem_ev (x : S30) (a : Int) (h0 : x.f0.size ≤ maxLen) (h7 : x.f7.size ≤ maxLen) (ha : 0 ≤ a) (ha2 : a ≤ 1048576) : ∃ r, laws_szItem.f x.f0 x.f1 x.f2 x.f3 x.f4 x.f5 x.f6 x.f7 a = some r ∧ r ≤ 1048576 := by
  unfold laws_szItem.f wrap64
  unfold maxLen at h0 h7
  split
  · exact ⟨_, rfl, by omega⟩
  · split
    · exact ⟨_, rfl, by omega⟩
    · exact ⟨_, rfl, by omega⟩

theorem szItemS_loop (l : List S30) (hl : l.length ≤ 1759218604391) (hs : ∀ x ∈ l, x.f0.size ≤ maxLen ∧ x.f7.size ≤ maxLen) (d : Nat) : ∀ (i : Nat) (a : Int), i + d = l.length → 0 ≤ a → a ≤ 1048576 →
    ∃ r, Ev (fun k => laws_szItemS.l0 k l a (i : Int)) r ∧ r ≤ 1048576 := by
  induction d with
  | zero =>
    intro i a hi h0 h1
    refine ⟨a, Ev.step (f := fun _ => some a) (fun k => ?_) (Ev.now a), h1⟩
    simp only [laws_szItemS.l0]; rw [if_neg (by omega)]
  | succ d ih =>
    intro i a hi h0 h1
    have hlt : i < l.length := by omega
    obtain ⟨hs0, hs7⟩ := hs l[i] (List.getElem_mem hlt)
    obtain ⟨r, hr, hr1⟩ := szItem_ev l[i] a hs0 hs7 h0 h1
    have e : ∀ k, laws_szItemS.l0 (k + 1) l a (i : Int) = if r < 0 then some (-1) else laws_szItemS.l0 k l r ((i + 1 : Nat) : Int) := fun k => by
      simp only [laws_szItemS.l0]
      rw [if_pos (by omega), if_pos (by omega), rd30 _ _ hlt, hr, step_i hlt hl]; rfl
    by_cases hc : r < 0
    · exact ⟨-1, Ev.step (f := fun _ => some (-1)) (fun k => by rw [e k, if_pos hc]) (Ev.now _), by omega⟩
    · obtain ⟨q, hq, hq1⟩ := ih (i + 1) r (by omega) (by omega) hr1
      exact ⟨q, Ev.step (f := fun k => laws_szItemS.l0 k l r ((i + 1 : Nat) : Int)) (fun k => by rw [e k, if_neg hc]) hq, hq1⟩

theorem szItemS_ev (l : List S30) (hl : l.length ≤ maxLen) (hs : ∀ x ∈ l, x.f0.size ≤ maxLen ∧ x.f7.size ≤ maxLen) (a : Int) (h0 : 0 ≤ a) (h1 : a ≤ 1048576) :
    ∃ r, Ev (fun k => laws_szItemS.f k l a) r ∧ r ≤ 1048576 ∧ (0 ≤ r → l.length ≤ 1048576) := by
  have e : wrap64 (a - (l.length : Int)) = a - l.length := by unfold wrap64; unfold maxLen at hl; omega
  by_cases hc : a - (l.length : Int) < 0
  · exact ⟨-1, Ev.congr (f := fun _ => some (-1)) (fun k => by simp only [laws_szItemS.f]; rw [e, if_pos hc]) (Ev.now _), by omega, by omega⟩
  · obtain ⟨r, hr, h⟩ := szItemS_loop l (by omega) hs l.length 0 (a - l.length) (by omega) (by omega) (by omega)
    exact ⟨r, Ev.congr (fun k => by simp only [laws_szItemS.f]; rw [e, if_neg hc]; rfl) hr, h, fun _ => by omega⟩

/-- The law over lists alone. -/
theorem pureSameItems (l0 l1 : List S30) (h0 : l0.length ≤ maxLen) (h1 : l1.length ≤ maxLen)
    (hs0 : ∀ x ∈ l0, x.f0.size ≤ maxLen ∧ x.f7.size ≤ maxLen) (hs1 : ∀ x ∈ l1, x.f0.size ≤ maxLen ∧ x.f7.size ≤ maxLen) :
    ∃ k, laws_FnExactSameItems.f k l0 l1 = some true := by
  refine Ev.rounds ?_
  unfold laws_FnExactSameItems.f
  obtain ⟨r, hr, hr1, hr2⟩ := szItemS_ev l0 h0 hs0 1048576 (by omega) (by omega)
  refine Ev.bind hr ?_
  by_cases hc : r < 0
  · exact Ev.congr (f := fun _ => some true) (fun k => by rw [if_pos hc]) (Ev.now _)
  refine Ev.congr (fun k => by rw [if_neg hc]) ?_
  obtain ⟨q, hq, _, hq2⟩ := szItemS_ev l1 h1 hs1 r (by omega) hr1
  refine Ev.bind hq ?_
  by_cases hc2 : q < 0
  · exact Ev.congr (f := fun _ => some true) (fun k => by rw [if_pos hc2]) (Ev.now _)
  refine Ev.congr (fun k => by rw [if_neg hc2]) ?_
  have b0 := hr2 (by omega)
  have b1 := hq2 (by omega)
  have t0 := toItemS_ev l0 (by omega)
  have t1 := toItemS_ev l1 (by omega)
  obtain ⟨b, hb, hb2⟩ := same_ev (l0.map conv) (l1.map conv) (by rw [List.length_map]; omega)
  refine Ev.bind t0 (Ev.bind t1 (Ev.bind hb (Ev.bind t0 (Ev.bind t1 (Ev.bind hb2 ?_)))))
  refine Ev.congr (fun k => by rw [if_neg (by simp)]) ?_
  refine Ev.bind t0 (Ev.bind (eqItemS_ev _ (by rw [List.length_map]; omega)) ?_)
  refine Ev.congr (fun k => by rw [if_pos rfl]) ?_
  refine Ev.bind t1 (Ev.bind (eqItemS_ev _ (by rw [List.length_map]; omega)) ?_)
  exact Ev.congr (f := fun _ => some true) (fun k => by rw [if_pos rfl]) (Ev.now _)

end Go.Proofs.Ytiffdlphmjeklaa.PFnExactSameItems
