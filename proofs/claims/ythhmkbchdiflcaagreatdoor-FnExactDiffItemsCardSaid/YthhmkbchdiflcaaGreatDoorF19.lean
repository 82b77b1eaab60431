/- Texts of this claim, merged by a program (wip/tools/merge.py): HDiffItems, HNextEv, HGoodEv, HDiffApart, HDiffWhole, HPureDiff, HPureBase, HEqChange, HMarkText, HMarkItem, HMarkChange, HHeldChange, HWalkDiff. -/
import Derived.Test.YthhmkbchdiflcaaGreatDoorF2
import Derived.Test.YthhmkbchdiflcaaGreatDoorF18
import Derived.Test.YthhmkbchdiflcaaGreatDoorF17
import Derived.Test.YthhmkbchdiflcaaGreatDoorF10
import Derived.Test.YthhmkbchdiflcaaGreatDoorF0
import Derived.Shelf.SlSortCmp.WholeK
import Derived.Shelf.SlSortCmp.NoneTotal
import Derived.Shelf.Small.Strs
import Derived.Maps.RangeWalk
import Derived.Sort.MapsRangeIn
import Derived.Outline
import Derived.Deep.RegionHeld3
import Derived.Deep.DeepCutAuto
import Derived.Test.YthhmkbchdiflcaaGreatDoorF3
import Derived.Test.YthhmkbchdiflcaaGreatDoorF4
import Derived.Test.YthhmkbchdiflcaaGreatDoorF16
import Derived.Test.YthhmkbchdiflcaaGreatDoorF5
import Derived.StillTailTactics
import Derived.DataElems
import Derived.Laws.Cells
import Derived.Test.YthhmkbchdiflcaaGreatDoorF14
import Derived.Test.YthhmkbchdiflcaaGreatDoorF6
/- impl.DiffItems: the walk. -/
namespace Go.Proofs.YthhmkbchdiflcaaGreatDoor.Q
open Go.RowKit Go.Proofs.YthhmkbchdiflcaaGreatDoorW.PrintWords Go.Proofs.YthhmkbchdiflcaaGreatDoorW.PrintLast Go.Proofs.YthhmkbchdiflcaaGreatDoorW.PrintMore
attribute [local go_sem] max2_int min2_int max_two min_two max_three min_three max_four min_four   -- for this text's walks alone
set_option linter.unusedVariables false
set_option linter.unusedSimpArgs false

open Go.Maps Go.WideMaps
/-- The changes of the keys that the loop has been at. -/
def AtKeys (g : List UInt8 → Option It) (left : Lit → Bool) (step : ByteArray → It → Option Ch) (c : Ch) : Prop :=
  ∃ (k : ByteArray) (x : It), g k.data.toList = some x ∧ left (.string k.data.toList) = false ∧ step k x = some c
theorem areLone_loop (l : List It) (hl : l.length ≤ 1759218604391) (hs : ∀ i, (itAt l i).f0.size < 4294967281) (d : Nat) : ∀ i : Nat, i + d = l.length → (∀ j, j < i → (itAt l j).f6 = (j : Int)) → Ev (fun k => impl_areLone.l0 k l l (l.length : Int) (i : Int)) (loneB l) := by
  induction d with
  | zero =>
    intro i hi hj
    have hg : impl_GoodItems.f l = some (goodB l) := by
      unfold impl_GoodItems.f
      rw [if_pos (List.all_eq_true.mpr fun x hx => by
        obtain ⟨j, hj, rfl⟩ := List.getElem_of_mem hx
        have := hs j
        rw [show itAt l j = l[j] from rdI l j hj] at this
        exact decide_eq_true this)]
    have e : loneB l = goodB l := by
      unfold loneB
      rw [List.all_eq_true.mpr (fun j hj' => by
        have := List.mem_range.mp hj'
        rw [hj j (by omega)]; simp), Bool.true_and]
    rw [e]
    refine Ev.step (f := fun _ => some (goodB l)) (fun k => ?_) (Ev.now _)
    simp only [impl_areLone.l0]; rw [if_neg (by omega), hg]; rfl
  | succ d ih =>
    intro i hi hj
    have hlt : i < l.length := by omega
    have hw : wrap64 ((i : Int) + 1) = ((i + 1 : Nat) : Int) := by unfold wrap64; omega
    have hr : rd_T74 l (i : Int) = itAt l i := rfl
    have e : ∀ k, impl_areLone.l0 (k + 1) l l (l.length : Int) (i : Int) = if (itAt l i).f6 = (i : Int) then impl_areLone.l0 k l l (l.length : Int) ((i + 1 : Nat) : Int) else some false := fun k => by
      simp only [impl_areLone.l0]; rw [if_pos (by omega), if_pos (by omega), if_pos (by omega), hr, hw]
    by_cases h : (itAt l i).f6 = (i : Int)
    · exact Ev.step (fun k => by rw [e k, if_pos h]) (ih (i + 1) (by omega) (fun j hj' => by
        by_cases hji : j = i
        · subst hji; exact h
        · exact hj j (by omega)))
    · have : loneB l = false := by
        unfold loneB
        rw [show (List.range l.length).all (fun i => (itAt l i).f6 == (i : Int)) = false from by
          rw [List.all_eq_false]; exact ⟨i, List.mem_range.mpr hlt, by simpa using h⟩, Bool.false_and]
      rw [this]
      exact Ev.step (f := fun _ => some false) (fun k => by rw [e k, if_neg h]) (Ev.now _)
theorem areLone_ev (l : List It) (hl : l.length ≤ 1759218604391) (hs : ∀ i, (itAt l i).f0.size < 4294967281) : Ev (fun k => impl_areLone.f k l) (loneB l) := by
  have := areLone_loop l hl hs l.length 0 (by omega) (fun j hj => absurd hj (Nat.not_lt_zero j))
  exact this
set_option maxHeartbeats 1000000 in
set_option maxRecDepth 100000 in
theorem diff_bad1 (A B : Option Addr) (n c0 m d0 : Nat) (w : World) (H0 : Calls Tryz.prog 79 #[.slice A n c0] w fun e w' => e = .returned (.bool false) ∧ Below w.heap.size w w') :
    Calls Tryz.prog 20 #[.slice A n c0, .slice B m d0] w fun e w' => e = .returned (.tuple #[.slice none 0 0, .bool false]) ∧ Below w.heap.size w w' := by
  have H := Aside0.mk H0
  clear H0
  go_enter Tryz.func20, Tryz.ntmps20
  go_wp2_with fail
  refine H.out.mono ?_; rintro e w1 ⟨rfl, hd⟩
  go_wp2
  go_ret2
  exact ⟨rfl, hd⟩
set_option maxHeartbeats 1000000 in
set_option maxRecDepth 100000 in
theorem diff_bad2 (A B : Option Addr) (n c0 m d0 : Nat) (w : World) (H0 : Calls Tryz.prog 79 #[.slice A n c0] w fun e w' => e = .returned (.bool true) ∧ Below w.heap.size w w')
    (H1 : ∀ W, Below w.heap.size w W → Calls Tryz.prog 79 #[.slice B m d0] W fun e w' => e = .returned (.bool false) ∧ Below W.heap.size W w') :
    Calls Tryz.prog 20 #[.slice A n c0, .slice B m d0] w fun e w' => e = .returned (.tuple #[.slice none 0 0, .bool false]) ∧ Below w.heap.size w w' := by
  have H := Aside0.mk H0
  have HH := Aside0.mk H1
  clear H0 H1
  go_enter Tryz.func20, Tryz.ntmps20
  go_wp2_with fail
  refine H.out.mono ?_; rintro e w1 ⟨rfl, hd⟩
  have HC := Aside0.mk (HH.out w1 hd)
  have HB := Aside0.mk hd
  clear hd
  go_wp2_with fail
  refine HC.out.mono ?_; rintro e w2 ⟨rfl, hd⟩
  go_wp2
  go_ret2
  exact ⟨rfl, below_step HB.out hd⟩
theorem key_lit {s : ByteArray} {kl : Lit} (h : keyOf Tryz.prog 9 (.string s) = some kl) : kl = .string s.data.toList := by
  simp [keyOf, Tryz.underlying9, mapKey] at h
  exact h.2.symm
theorem sameKey_str (a b : List UInt8) : (Lit.string a).sameKey (.string b) = decide (a = b) := by
  by_cases h : a = b
  · subst h; rw [decide_eq_true rfl]; simp [Lit.sameKey]
  · rw [decide_eq_false h]; exact sameKey_ne (by intro e; injection e with e; exact h e)
theorem way_mem (l : List It) (s : List UInt8) (x : It) : ∀ k, wayMap l k s = some x → ∃ i, i < k ∧ (itAt l i).f0.data.toList = s ∧ x = bareI (itAt l i)
  | 0, h => by cases h
  | k + 1, h => by
    unfold wayMap at h
    split at h
    · rename_i hs
      exact ⟨k, by omega, hs, (Option.some.inj h).symm⟩
    · obtain ⟨i, hi, h1, h2⟩ := way_mem l s x k h
      exact ⟨i, by omega, h1, h2⟩
theorem stepA_way {gb : List UInt8 → Option It} {k : ByteArray} {x : It} {c : Ch} (h : stepA gb k x = some c) : c.f1 = k := by
  unfold stepA at h
  split at h
  · rw [← Option.some.inj h]; rfl
  · split at h
    · cases h
    · rw [← Option.some.inj h]; rfl
theorem stepN_way {ga : List UInt8 → Option It} {k : ByteArray} {x : It} {c : Ch} (h : stepN ga k x = some c) : c.f1 = k := by
  unfold stepN at h
  split at h
  · rw [← Option.some.inj h]; rfl
  · cases h
/-- The round at a key: what comes to the members, and to the ways. -/
theorem at_step {g : List UInt8 → Option It} {left : Lit → Bool} {step : ByteArray → It → Option Ch} {out : List Ch} {P0 : Ch → Prop} {k : ByteArray} {x : It} (hg : g k.data.toList = some x) (hl : left (.string k.data.toList) = true)
    (hm : ∀ c, c ∈ out ↔ P0 c ∨ AtKeys g left step c) : ∀ c, (c ∈ out ∨ step k x = some c) ↔ P0 c ∨ AtKeys g (fun z => left z && !z.sameKey (.string k.data.toList)) step c := by
  intro c
  rw [hm]
  constructor
  · rintro ((h | ⟨k2, x2, h1, h2, h3⟩) | h)
    · exact .inl h
    · exact .inr ⟨k2, x2, h1, by simp only; rw [h2]; rfl, h3⟩
    · exact .inr ⟨k, x, hg, by simp only; rw [sameKey_str]; simp, h⟩
  · rintro (h | ⟨k2, x2, h1, h2, h3⟩)
    · exact .inl (.inl h)
    · simp only [sameKey_str, Bool.and_eq_false_iff, Bool.not_eq_false', decide_eq_true_eq] at h2
      rcases h2 with h2 | h2
      · exact .inl (.inr ⟨k2, x2, h1, h2, h3⟩)
      · have hk := data_inj h2
        subst hk
        rw [hg] at h1
        rw [← Option.some.inj h1] at h3
        exact .inr h3
theorem own_ne {w : World} {B e sz n b : Nat} {v : Value} {xs : List Value} {o : Obj} (h : w.ownsRow B e sz v n xs) (hb : w.heap[b]? = some o) (ho : ∀ cs T fr, o ≠ .cells cs T fr) : v.ownBlock ≠ some b := by
  rcases h.2 with ⟨rfl, _⟩ | ⟨g, cap, cur, rfl, _, hg, _⟩
  · simp [Value.ownBlock]
  · intro e
    simp only [Value.ownBlock, Option.some.injEq] at e
    subst e
    rw [hg] at hb
    exact ho _ _ _ (Option.some.inj hb).symm
theorem ranges_map {w : World} {b r n cnt : Nat} {D : DataW Unit} {left : Lit → Bool} (h : w.ranges Tryz.prog 9 elemI b r n D left cnt) : (∃ es c, w.heap[b]? = some (.map es c)) ∧ ∃ m s se c, w.heap[r]? = some (.mapIter m s se c) := by
  obtain ⟨es, clock, since, seen, c0, hb, _, _, _, hr, _⟩ := h
  exact ⟨⟨_, _, hb⟩, ⟨_, _, _, _, hr⟩⟩
theorem own_ne_ranges {w : World} {B e sz m b r n cnt : Nat} {v : Value} {xs : List Value} {D : DataW Unit} {left : Lit → Bool} (h : w.ownsRow B e sz v m xs) (hr : w.ranges Tryz.prog 9 elemI b r n D left cnt) : v.ownBlock ≠ some b ∧ v.ownBlock ≠ some r := by
  obtain ⟨⟨es, c, h1⟩, ⟨m, s, se, c2, h2⟩⟩ := ranges_map hr
  exact ⟨own_ne h h1 (fun _ _ _ e => by cases e), own_ne h h2 (fun _ _ _ e => by cases e)⟩
theorem MapI.heap {w : World} {b n : Nat} {g : List UInt8 → Option It} (h : MapI w b n g) : ∃ es c, w.heap[b]? = some (.map es c) := by
  obtain ⟨D, ⟨es, c, hb, _⟩, _⟩ := h; exact ⟨_, _, hb⟩
theorem MapI.kept {w w' : World} {b n : Nat} {g : List UInt8 → Option It} {row : Option Nat} (h : MapI w b n g) (hg : w.grownBy w' row) (hne : some b ≠ row) : MapI w' b n g := by
  obtain ⟨D, ho, h1, h2⟩ := h; exact ⟨D, ho.kept hg hne, h1, h2⟩
theorem MapI.ne_ranges {w : World} {b r n m k cnt : Nat} {g : List UInt8 → Option It} {D : DataW Unit} {left : Lit → Bool} (h : MapI w k m g) (hr : w.ranges Tryz.prog 9 elemI b r n D left cnt) : k ≠ r := by
  obtain ⟨es, c, h1⟩ := h.heap
  obtain ⟨_, ⟨_, _, _, _, h2⟩⟩ := ranges_map hr
  intro e; subst e; rw [h1] at h2; cases h2
theorem after_append {w0 w w' : World} {o : Obj} {e sz m b r n cnt bb nb : Nat} {v : Value} {xs : List Value} {D : DataW Unit} {left : Lit → Bool} {g : List UInt8 → Option It} (hg : (w.alloc o).grownBy w' v.ownBlock)
    (h : w.ownsRow w0.heap.size e sz v m xs) (hr : w.ranges Tryz.prog 9 elemI b r n D left cnt) (hm : MapI w bb nb g) (hb : Below w0.heap.size w0 w) :
    w'.ranges Tryz.prog 9 elemI b r n D left cnt ∧ MapI w' bb nb g ∧ Below w0.heap.size w0 w' := by
  have ho := h.alloc o
  have hne := own_ne_ranges ho (hr.alloc o)
  have hm' := hm.below (below_alloc (Below.refl w.heap.size w) o)
  refine ⟨(hr.alloc o).kept hg (fun e => hne.1 e.symm) (fun e => hne.2 e.symm), hm'.kept hg (fun e => ?_), (below_step hb (below_alloc (Below.refl w.heap.size w) o)).grown hg (Nat.le_trans hb.size (Nat.le_of_lt (alloc_lt _ _))) (fun j hj => (ho.lt j hj).1)⟩
  obtain ⟨es, cl, hb'⟩ := hm'.heap
  exact own_ne ho hb' (fun _ _ _ e => by cases e) e.symm
theorem new_cells (w : World) (l : List Value) (T : TypeId) : ∀ j u, l[j]? = some u → (w.alloc (.cells l.toArray T)).cell? ((⟨w.heap.size, 0, none⟩ : Addr).add j) = some u := fun j u h => by
  have hb := blk_new w (.cells l.toArray T (0, 0))
  have e : ((⟨w.heap.size, 0, none⟩ : Addr).add j) = ⟨w.heap.size, j, none⟩ := by
    unfold Addr.add; by_cases hj : j = 0
    · subst hj; simp
    · rw [if_neg hj]; simp
  rw [e, blk_cell hb j]
  simpa using h
theorem encCh_one (c : Ch) : ∀ u ∈ encCh c, u.oneCell' = true := fun u hu => by
  simp only [encCh, encIt, List.mem_cons, List.mem_append, List.not_mem_nil, or_false] at hu
  rcases hu with rfl | rfl | (rfl | rfl | rfl | rfl | rfl | rfl | rfl | rfl) | (rfl | rfl | rfl | rfl | rfl | rfl | rfl | rfl) <;> rfl
theorem encChs_snoc (l : List Ch) (c : Ch) : encChs (l ++ [c]) = encChs l ++ encCh c := by unfold encChs; simp
theorem nodup_snoc {l : List Ch} {c : Ch} (h : (l.map (·.f1)).Nodup) (hn : ∀ d ∈ l, d.f1 ≠ c.f1) : ((l ++ [c]).map (·.f1)).Nodup := by
  rw [List.map_append, List.nodup_append]
  refine ⟨h, by simp, fun a ha b hb => ?_⟩
  obtain ⟨d, hd, rfl⟩ := List.mem_map.mp ha
  simp at hb
  rw [hb]
  exact hn d hd
theorem zeroCh : (Tryz.prog.info? 104).map (fun i => (i.zero, i.size, i.bytes)) = some (some (.agg #[.int .i64 0, .string ⟨#[]⟩, .string ⟨#[]⟩, .int .i64 0, .int .i64 0, .int .i64 0, .int .i64 0, .int .i64 0, .int .i64 0, .string ⟨#[]⟩, .string ⟨#[]⟩, .int .i64 0, .int .i64 0, .int .i64 0, .int .i64 0, .int .i64 0, .int .i64 0, .string ⟨#[]⟩]), 18, 184) := by kernel_rfl
set_option maxHeartbeats 8000000 in
set_option maxRecDepth 100000 in
theorem diff_main (A B : Option Addr) (c0 d0 : Nat) (a b : List It) (w : World) (hra : Kd.C k74 w A a.length a) (hrb : Kd.C k74 w B b.length b) (hsa : ∀ i, (itAt a i).f0.size < 4294967281) (hsb : ∀ i, (itAt b i).f0.size < 4294967281)
    (hna : a.length ≤ 40) (hnb : b.length ≤ 40)
    (H0 : Calls Tryz.prog 79 #[.slice A a.length c0] w fun e w' => e = .returned (.bool true) ∧ Below w.heap.size w w')
    (H1 : ∀ W, Below w.heap.size w W → Calls Tryz.prog 79 #[.slice B b.length d0] W fun e w' => e = .returned (.bool true) ∧ Below W.heap.size W w') :
    Calls Tryz.prog 20 #[.slice A a.length c0, .slice B b.length d0] w fun e w' => ∃ v L, e = .returned (.tuple #[v, .bool true]) ∧ L.Pairwise ltW ∧ (∀ c, c ∈ L ↔ AtKeys (wayG a) (fun _ => false) (stepA (wayG b)) c ∨ AtKeys (wayG b) (fun _ => false) (stepN (wayG a)) c) ∧ w'.ownsRow w.heap.size 104 18 v L.length (encChs L) ∧ Below w.heap.size w w' := by
  have hu1 := Tryz.underlying74
  have hu2 := Tryz.underlying104
  have H := Aside0.mk H0
  have HH := Aside0.mk H1
  have HA := Aside0.mk hra
  have HB := Aside0.mk hrb
  have HSA := Aside0.mk hsa
  have HSB := Aside0.mk hsb
  have HNA := Aside0.mk hna
  have HNB := Aside0.mk hnb
  clear H0 H1 hra hrb hsa hsb hna hnb
  go_enter Tryz.func20, Tryz.ntmps20
  go_wp2_with fail
  refine H.out.mono ?_; rintro e w1 ⟨rfl, hd⟩
  have HC := Aside0.mk (HH.out w1 hd)
  have HW1 := Aside0.mk hd
  clear hd H HH
  go_wp2_with fail
  refine HC.out.mono ?_; rintro e w2 ⟨rfl, hd⟩
  have HW2 : Aside0 (Below w.heap.size w w2) := ⟨below_step HW1.out hd⟩
  have HC := Aside0.mk (byWay_walk w2 A c0 a (Kd.C_below HA.out HW2.out) (by have := HNA.out; omega) HSA.out)
  clear hd HW1
  go_wp2_with fail
  refine HC.out.mono ?_; rintro e w3 ⟨ba, rfl, hba, hma, hd⟩
  have HBA : Aside0 (w.heap.size ≤ ba) := ⟨Nat.le_trans HW2.out.size hba⟩
  have HW3 : Aside0 (Below w.heap.size w w3) := ⟨below_step HW2.out hd⟩
  have HC := Aside0.mk (byWay_walk w3 B d0 b (Kd.C_below HB.out HW3.out) (by have := HNB.out; omega) HSB.out)
  have HMA := Aside0.mk hma
  clear hd hma hba HW2
  go_wp2_with fail
  refine HC.out.mono ?_; rintro e w4 ⟨bb, rfl, hbb, hmb, hd⟩
  have HBB : Aside0 (w.heap.size ≤ bb ∧ ba < bb) := ⟨by have := HW3.out.size; omega, Nat.lt_of_lt_of_le HMA.out.lt hbb⟩
  have HW4 : Aside0 (Below w.heap.size w w4) := ⟨below_step HW3.out hd⟩
  have HMA4 := Aside0.mk (HMA.out.below hd)
  have HMB4 := Aside0.mk hmb
  clear hd hmb hbb HW3 HMA
  go_upto_region 5 with (fail)
  have hown := World.ownsRow_made (base := w.heap.size) (size := 18) w4 #[] 0 (e := 104) HW4.out.size (by unfold maxLen; omega) rfl
  have hb5 : Below w4.heap.size w4 (w4.alloc (.cells #[] 104)) := below_alloc (Below.refl _ _) _
  generalize w4.alloc (.cells #[] 104) = w5 at hown hb5 ⊢
  generalize Value.slice (some ⟨w4.heap.size, 0, none⟩) 0 0 = v8 at hown ⊢
  have HO5 := Aside0.mk hown
  have HMA5 := HMA4.out.below hb5
  have HMB5 := Aside0.mk (HMB4.out.below hb5)
  have HW5 : Aside0 (Below w.heap.size w w5) := ⟨HW4.out.trans (hb5.mono HW4.out.size)⟩
  clear hown hb5 HMA4 HMB4 HW4
  obtain ⟨Da, hoa, hha, haa⟩ := HMA5
  have HHA := Aside0.mk hha
  have HAA := Aside0.mk haa
  have hszA := hoa.size_le
  clear hha haa
  go_wp2_with (first | (at_range; refine wpList_range_own _ rfl _ _ rfl 9 74 keyLaw Tryz.underlying105 elemI ba a.length Da rfl hoa ?_; intro w6 hrg hg6 hs6) | go_in)
  obtain ⟨ra, hra⟩ : ∃ y, y = w5.heap.size := ⟨_, rfl⟩
  rw [← hra] at hrg ⊢
  have HRA : Aside0 (ra = w5.heap.size) := ⟨hra⟩
  have HB6 : Aside0 (Below w.heap.size w w6) := ⟨HW5.out.grown hg6 HW5.out.size (fun k hk => by cases hk)⟩
  have HO6 := Aside0.mk (HO5.out.kept hg6 (by cases h : v8.ownBlock <;> simp))
  have HMB6 : Aside0 (MapI w6 bb b.length (wayG b)) := ⟨HMB5.out.below ⟨hg6.os, hg6.tape, hg6.output, hg6.size, fun k hk => hg6.block k hk (by simp)⟩⟩
  have HRG := Aside0.mk hrg
  have HSZ : Aside0 (size Da ≤ 40) := ⟨by have := HNA.out; omega⟩
  clear hoa hszA hg6 hs6 hra hrg HO5 HMB5
  go_frame
  go_loopw [8] (fun v8 wq => ∃ (left : Lit → Bool) (cnt : Nat) (out : List Ch), Aside0 (wq.ranges Tryz.prog 9 elemI ba ra a.length Da left cnt) ∧ Aside0 (MapI wq bb b.length (wayG b)) ∧ Aside0 (wq.ownsRow w.heap.size 104 18 v8 out.length (encChs out)) ∧
      Aside0 (∀ c, c ∈ out ↔ False ∨ AtKeys (wayG a) left (stepA (wayG b)) c) ∧ Aside0 (out.length + cnt ≤ 40) ∧ Aside0 ((out.map (·.f1)).Nodup) ∧ Aside0 (Below w.heap.size w wq)) (fun _ wq => wq.rangeLeft ba ra)
  case atStart => exact ⟨has Da, size Da, [], HRG, HMB6, HO6, ⟨fun c => by
    simp only [List.not_mem_nil, false_iff, not_or, not_false_eq_true, true_and]
    rintro ⟨k, x, h1, h2, _⟩
    rw [HHA.out, show wayMap a a.length k.data.toList = some x from h1] at h2
    cases h2⟩, ⟨by simpa using HSZ.out⟩, ⟨List.nodup_nil⟩, HB6⟩
  case round =>
    obtain ⟨left, cnt, out, HR, HM, HO, HC, HCN, HND, HBw⟩ := hrel
    go_wp2_with (at_next; refine wpList_next_ranges _ rfl _ rfl 9 keyLaw elemI Value.string itV (fun key kl h => Maps.keyOf_string_inv Tryz.underlying9 h) (fun v y h => (elemI_inv h).imp fun _ h => h.1) ba ra a.length Da left cnt rfl HR.out ?_ ?_)
    case refine_1 =>
      intro h0 hl
      obtain rfl : left = fun _ => false := funext hl
      have HMA := Aside0.mk (show MapI wr ba a.length (wayG a) from ⟨Da, HR.out.owns, HHA.out, HAA.out⟩)
      have HN : Aside0 (out.length ≤ 40) := ⟨by have := HCN.out; omega⟩
      have HM1 := HM.out
      obtain ⟨Db, hob, hhb, hab⟩ := HM1
      have HHB := Aside0.mk hhb
      have HAB := Aside0.mk hab
      have hszB := hob.size_le
      clear hhb hab HM HR HCN h0 hl HHA HAA HSZ HB6 HMB6 HO6 HRG HW5 HRA
      go_wp2_with (first | (at_range; refine wpList_range_own _ rfl _ _ rfl 9 74 keyLaw Tryz.underlying105 elemI bb b.length Db rfl hob ?_; intro w11 hrg hg11 hs11) | go_in)
      obtain ⟨rb, hrb⟩ : ∃ y, y = wr.heap.size := ⟨_, rfl⟩
      rw [← hrb] at hrg ⊢
      have HRB : Aside0 (w.heap.size ≤ rb) := ⟨by rw [hrb]; exact HBw.out.size⟩
      have HB6 : Aside0 (Below w.heap.size w w11) := ⟨HBw.out.grown hg11 HBw.out.size (fun k hk => by cases hk)⟩
      have HO6 := Aside0.mk (HO.out.kept hg11 (by cases h : u8.ownBlock <;> simp))
      have HMA6 : Aside0 (MapI w11 ba a.length (wayG a)) := ⟨HMA.out.kept hg11 (by simp)⟩
      have HRG := Aside0.mk hrg
      have HSZ : Aside0 (size Db ≤ 40) := ⟨by have := HNB.out; omega⟩
      have HPW : Aside0 (∀ c ∈ out, ∃ x, wayG a c.f1.data.toList = some x) := ⟨fun c hc => by
        rcases (HC.out c).mp hc with h | ⟨kq, xq, h1, h2, h3⟩
        · exact h.elim
        · rw [stepA_way h3]; exact ⟨xq, h1⟩⟩
      clear hob hszB hg11 hs11 hrb hrg HO HMA
      go_frame
      go_loopw [8] (fun v8 wq => ∃ (left : Lit → Bool) (cnt : Nat) (ou2 : List Ch), Aside0 (wq.ranges Tryz.prog 9 elemI bb rb b.length Db left cnt) ∧ Aside0 (MapI wq ba a.length (wayG a)) ∧ Aside0 (wq.ownsRow w.heap.size 104 18 v8 ou2.length (encChs ou2)) ∧
          Aside0 (∀ c, c ∈ ou2 ↔ c ∈ out ∨ AtKeys (wayG b) left (stepN (wayG a)) c) ∧ Aside0 (ou2.length + cnt ≤ 80) ∧ Aside0 ((ou2.map (·.f1)).Nodup) ∧ Aside0 (Below w.heap.size w wq)) (fun _ wq => wq.rangeLeft bb rb)
      case atStart => exact ⟨has Db, size Db, out, HRG, HMA6, HO6, ⟨fun c => by
        refine ⟨.inl, fun h => h.elim id ?_⟩
        rintro ⟨k, x, h1, h2, _⟩
        rw [HHB.out, h1] at h2
        cases h2⟩, ⟨by have := HN.out; have := HSZ.out; omega⟩, HND, HB6⟩
      case round =>
        have HC1 := HC
        have HND1 := HND
        have HBw1 := HBw
        clear HC HND HBw
        obtain ⟨left, cnt, ou2, HR, HM, HO, HC, HCN, HND, HBw⟩ := hrel
        go_wp2_with (at_next; refine wpList_next_ranges _ rfl _ rfl 9 keyLaw elemI Value.string itV (fun key kl h => Maps.keyOf_string_inv Tryz.underlying9 h) (fun v y h => (elemI_inv h).imp fun _ h => h.1) bb rb b.length Db left cnt rfl HR.out ?_ ?_)
        case refine_1 =>
          intro h0 hl
          obtain rfl : left = fun _ => false := funext hl
          have HQ := Aside0.mk (sort_walk _ w.heap.size _ ou2 HBw.out.size HO.out HND.out (by have := HCN.out; omega))
          clear HM HR HCN h0 hl HB6 HMA6 HO6 HRG HSZ HHB HAB HRB
          go_wp2_with (first | (go_at_call 81; refine HQ.out.mono ?_; rintro e w12 ⟨rfl, L, hp, hpw, hown, hd⟩) | go_in)
          go_ret2
          refine ⟨_, L, rfl, hpw, fun c => ?_, ?_, HBw.out.trans hd⟩
          · rw [hp.mem_iff, HC.out c, HC1.out c]; simp
          · rw [hp.length_eq]; exact hown
        case refine_2 =>
          intro k c kl yd yp w7 cnt7 hkey hleft hRv hat hrg7 hlt7 hg7 hs7 hen
          obtain rfl := key_lit hkey
          have hhas : has Db (.string k.data.toList) = true := has_true_of_atKey hat
          rw [HHB.out] at hhas
          obtain ⟨x, hx⟩ := Option.isSome_iff_exists.mp hhas
          have hy : yd = itD c := by rw [elemI_mk] at hRv; exact (Prod.mk.inj (Option.some.inj hRv)).1.symm
          have hxc : x = c := by
            have h := HAB.out _ x hx (itD c)
            rw [hat, hy] at h
            exact (itD_inj h).symm
          subst hxc
          have hks : k.size < 4294967281 := by
            obtain ⟨i, _, h1, _⟩ := way_mem b _ _ _ hx
            rw [← data_inj h1]; exact HSB.out i
          have hM7 : MapI w7 ba a.length (wayG a) := HM.out.kept hg7 (fun e => HM.out.ne_ranges HR.out (Option.some.inj e))
          have HX := Aside0.mk (show wayG b k.data.toList = some x from hx)
          have HR7 := Aside0.mk hrg7
          have HO7 := Aside0.mk (HO.out.kept hg7 (.inr (own_ne_ranges HO.out HR.out).2))
          have HB7 : Aside0 (Below w.heap.size w w7) := ⟨HBw.out.grown hg7 HBw.out.size (fun j hj => by cases hj; exact HRB.out)⟩
          have HL := Aside0.mk hleft
          have HLT := Aside0.mk hlt7
          have HLK := Aside0.mk (fun o => MapI.look_ok (hM7.below (below_alloc (Below.refl _ _) o)) k hks)
          have HM7 := Aside0.mk hM7
          clear hRv hat hrg7 hlt7 hg7 hs7 hkey hleft hhas hx hy hks hM7
          obtain ⟨x0, x1, x2, x3, x4, x5, x6, x7⟩ := x
          change (Instr.entry _).run _ _ = .ok (.tuple #[.string k, .agg #[.string x0, .int .i64 x1, .int .i64 x2, .int .i64 x3, .int .i64 x4, .int .i64 x5, .int .i64 x6, .string x7]]) _ at hen
          cases hgb : wayG a k.data.toList with
          | none =>
            have hlk := fun o => HLK.out o
            rw [hgb] at hlk
            change ∀ o, (Instr.lookup _ _ _ _).run _ _ = Result.ok (Value.tuple #[Value.agg #[.string ⟨#[]⟩, .int .i64 0, .int .i64 0, .int .i64 0, .int .i64 0, .int .i64 0, .int .i64 0, .string ⟨#[]⟩], Value.bool false]) _ at hlk
            go_upto_region 17 with (fail)
            obtain ⟨g10, hg10⟩ : ∃ y, y = w7.heap.size := ⟨_, rfl⟩
            obtain ⟨g11, hg11⟩ : ∃ y, y = w7.heap.size + 1 := ⟨_, rfl⟩
            have hbk : ((w7.alloc (.cells #[.string x0, .int .i64 x1, .int .i64 x2, .int .i64 x3, .int .i64 x4, .int .i64 x5, .int .i64 x6, .string x7] 74)).alloc (.cells #[.string ⟨#[]⟩, .int .i64 0, .int .i64 0, .int .i64 0, .int .i64 0, .int .i64 0, .int .i64 0, .string ⟨#[]⟩] 74)).heap[g10]? = some (.cells #[.string x0, .int .i64 x1, .int .i64 x2, .int .i64 x3, .int .i64 x4, .int .i64 x5, .int .i64 x6, .string x7] 74 (0, 0)) := by rw [hg10]; exact blk_alloc (blk_new _ _) _
            have hb9 : Below w7.heap.size w7 ((w7.alloc (.cells #[.string x0, .int .i64 x1, .int .i64 x2, .int .i64 x3, .int .i64 x4, .int .i64 x5, .int .i64 x6, .string x7] 74)).alloc (.cells #[.string ⟨#[]⟩, .int .i64 0, .int .i64 0, .int .i64 0, .int .i64 0, .int .i64 0, .int .i64 0, .string ⟨#[]⟩] 74)) := below_alloc (below_alloc (Below.refl _ _) _) _
            have hO9 := (HO7.out.alloc (.cells #[.string x0, .int .i64 x1, .int .i64 x2, .int .i64 x3, .int .i64 x4, .int .i64 x5, .int .i64 x6, .string x7] 74)).alloc (.cells #[.string ⟨#[]⟩, .int .i64 0, .int .i64 0, .int .i64 0, .int .i64 0, .int .i64 0, .int .i64 0, .string ⟨#[]⟩] 74)
            have hR9 := (HR7.out.alloc (.cells #[.string x0, .int .i64 x1, .int .i64 x2, .int .i64 x3, .int .i64 x4, .int .i64 x5, .int .i64 x6, .string x7] 74)).alloc (.cells #[.string ⟨#[]⟩, .int .i64 0, .int .i64 0, .int .i64 0, .int .i64 0, .int .i64 0, .int .i64 0, .string ⟨#[]⟩] 74)
            have hM9 := HM7.out.below hb9
            rw [← hg11, ← hg10]
            generalize (w7.alloc (.cells #[.string x0, .int .i64 x1, .int .i64 x2, .int .i64 x3, .int .i64 x4, .int .i64 x5, .int .i64 x6, .string x7] 74)).alloc (.cells #[.string ⟨#[]⟩, .int .i64 0, .int .i64 0, .int .i64 0, .int .i64 0, .int .i64 0, .int .i64 0, .string ⟨#[]⟩] 74) = w9 at hbk hb9 hO9 hR9 hM9 ⊢
            have HO9 := Aside0.mk hO9
            have HR9 := Aside0.mk hR9
            have HM9 := Aside0.mk hM9
            have HB9 : Aside0 (Below w.heap.size w w9) := ⟨HB7.out.trans (hb9.mono HB7.out.size)⟩
            have cz := fun o => blk_cell hbk o
            have HST : Aside0 (stepN (wayG a) k ⟨x0, x1, x2, x3, x4, x5, x6, x7⟩ = some (mkCh 1 k zI ⟨x0, x1, x2, x3, x4, x5, x6, x7⟩)) := ⟨by unfold stepN; rw [hgb]⟩
            have HG := Aside0.mk hgb
            clear hb9 hO9 hR9 hM9 hlk hen hg10 hg11 HO7 HR7 HM7 HB7 hbk hgb HLK
            obtain ⟨i0, hi, hz0, hz1, hz2⟩ := info_parts zeroCh
            go_wp2_with (first
              | (at_builtin; go_loud (refine wpList_append_own _ rfl _ _ 34 rfl w.heap.size 104 i0 _ 18 184 Tryz.underlying34 hi hz0 hz1 hz2 rfl (by decide) _ _ _ rfl (HO9.out.alloc _) ⟨w9.heap.size, 0, none⟩ 1 1 (encCh (mkCh 1 k zI ⟨x0, x1, x2, x3, x4, x5, x6, x7⟩)) rfl rfl ?e1 ?e2 ?e3 ?e4 ?e5 ?_))
              | go_in)
            all_goals go_ways
            case e1 => exact new_cells _ (encCh _) _
            case e2 => exact encCh_one _
            case e3 => have := HCN.out; unfold maxLen; omega
            case e4 => have := HCN.out; omega
            case e5 => exact Nat.le_trans HB9.out.size (alloc_lt _ _ |> Nat.le_of_lt)
            intro v10 w10 hown10 hgrow _
            obtain ⟨hr10, hm10, hb10⟩ := after_append hgrow HO9.out HR9.out HM9.out HB9.out
            have HR10 := Aside0.mk hr10
            have HM10 := Aside0.mk hm10
            have HB10 := Aside0.mk hb10
            have HO10 : Aside0 (w10.ownsRow w.heap.size 104 18 v10 (ou2 ++ [mkCh 1 k zI ⟨x0, x1, x2, x3, x4, x5, x6, x7⟩]).length (encChs (ou2 ++ [mkCh 1 k zI ⟨x0, x1, x2, x3, x4, x5, x6, x7⟩]))) := ⟨by rw [encChs_snoc, List.length_append]; exact hown10⟩
            clear hgrow hown10 hr10 hm10 hb10 HO9 HR9 HM9 HB9
            go_wp2
            go_roundw
            case rel =>
              refine ⟨_, cnt7, ou2 ++ [mkCh 1 k zI ⟨x0, x1, x2, x3, x4, x5, x6, x7⟩], HR10, HM10, HO10, ⟨fun c => ?_⟩, ⟨?_⟩, ⟨?_⟩, HB10⟩
              · have e := at_step (g := wayG b) HX.out HL.out HC.out c
                rw [HST.out] at e; rw [← e]; simp [eq_comm]
              · have := HCN.out; have := HLT.out; simp; omega
              · exact nodup_snoc HND.out (fun c hc e => by
                  rw [show (mkCh 1 k zI ⟨x0, x1, x2, x3, x4, x5, x6, x7⟩).f1 = k from rfl] at e
                  rcases (HC.out c).mp hc with h | ⟨kq, xq, h1, h2, h3⟩
                  · obtain ⟨xq, hq⟩ := HPW.out c h
                    rw [e, HG.out] at hq; cases hq
                  · rw [stepN_way h3] at e
                    rw [e] at h2
                    have := HL.out
                    rw [h2] at this; cases this)
            case measure => rw [HR10.out.left_eq, HR.out.left_eq]; exact HLT.out
          | some y =>
            obtain ⟨y0, y1, y2, y3, y4, y5, y6, y7⟩ := y
            have hlk := fun o => HLK.out o
            rw [hgb] at hlk
            change ∀ o, (Instr.lookup _ _ _ _).run _ _ = Result.ok (Value.tuple #[Value.agg #[.string y0, .int .i64 y1, .int .i64 y2, .int .i64 y3, .int .i64 y4, .int .i64 y5, .int .i64 y6, .string y7], Value.bool true]) _ at hlk
            go_upto_region 17 with (fail)
            obtain ⟨g10, hg10⟩ : ∃ y, y = w7.heap.size := ⟨_, rfl⟩
            obtain ⟨g11, hg11⟩ : ∃ y, y = w7.heap.size + 1 := ⟨_, rfl⟩
            have hbk : ((w7.alloc (.cells #[.string x0, .int .i64 x1, .int .i64 x2, .int .i64 x3, .int .i64 x4, .int .i64 x5, .int .i64 x6, .string x7] 74)).alloc (.cells #[.string y0, .int .i64 y1, .int .i64 y2, .int .i64 y3, .int .i64 y4, .int .i64 y5, .int .i64 y6, .string y7] 74)).heap[g10]? = some (.cells #[.string x0, .int .i64 x1, .int .i64 x2, .int .i64 x3, .int .i64 x4, .int .i64 x5, .int .i64 x6, .string x7] 74 (0, 0)) := by rw [hg10]; exact blk_alloc (blk_new _ _) _
            have hb9 : Below w7.heap.size w7 ((w7.alloc (.cells #[.string x0, .int .i64 x1, .int .i64 x2, .int .i64 x3, .int .i64 x4, .int .i64 x5, .int .i64 x6, .string x7] 74)).alloc (.cells #[.string y0, .int .i64 y1, .int .i64 y2, .int .i64 y3, .int .i64 y4, .int .i64 y5, .int .i64 y6, .string y7] 74)) := below_alloc (below_alloc (Below.refl _ _) _) _
            have hO9 := (HO7.out.alloc (.cells #[.string x0, .int .i64 x1, .int .i64 x2, .int .i64 x3, .int .i64 x4, .int .i64 x5, .int .i64 x6, .string x7] 74)).alloc (.cells #[.string y0, .int .i64 y1, .int .i64 y2, .int .i64 y3, .int .i64 y4, .int .i64 y5, .int .i64 y6, .string y7] 74)
            have hR9 := (HR7.out.alloc (.cells #[.string x0, .int .i64 x1, .int .i64 x2, .int .i64 x3, .int .i64 x4, .int .i64 x5, .int .i64 x6, .string x7] 74)).alloc (.cells #[.string y0, .int .i64 y1, .int .i64 y2, .int .i64 y3, .int .i64 y4, .int .i64 y5, .int .i64 y6, .string y7] 74)
            have hM9 := HM7.out.below hb9
            rw [← hg11, ← hg10]
            generalize (w7.alloc (.cells #[.string x0, .int .i64 x1, .int .i64 x2, .int .i64 x3, .int .i64 x4, .int .i64 x5, .int .i64 x6, .string x7] 74)).alloc (.cells #[.string y0, .int .i64 y1, .int .i64 y2, .int .i64 y3, .int .i64 y4, .int .i64 y5, .int .i64 y6, .string y7] 74) = w9 at hbk hb9 hO9 hR9 hM9 ⊢
            have HO9 := Aside0.mk hO9
            have HR9 := Aside0.mk hR9
            have HM9 := Aside0.mk hM9
            have HB9 : Aside0 (Below w.heap.size w w9) := ⟨HB7.out.trans (hb9.mono HB7.out.size)⟩
            have cz := fun o => blk_cell hbk o
            have HST : Aside0 (stepN (wayG a) k ⟨x0, x1, x2, x3, x4, x5, x6, x7⟩ = none) := ⟨by unfold stepN; rw [hgb]⟩
            clear hb9 hO9 hR9 hM9 hlk hen hg10 hg11 HO7 HR7 HM7 HB7 hbk hgb HLK
            go_wp2
            go_roundw
            case rel =>
              refine ⟨_, cnt7, ou2, HR9, HM9, HO9, ⟨fun c => ?_⟩, ⟨?_⟩, HND, HB9⟩
              · have e := at_step (g := wayG b) HX.out HL.out HC.out c
                rw [HST.out] at e; rw [← e]; simp
              · have := HCN.out; have := HLT.out; omega
            case measure => rw [HR9.out.left_eq, HR.out.left_eq]; exact HLT.out
    case refine_2 =>
      intro k c kl yd yp w7 cnt7 hkey hleft hRv hat hrg7 hlt7 hg7 hs7 hen
      obtain rfl := key_lit hkey
      have hhas : has Da (.string k.data.toList) = true := has_true_of_atKey hat
      rw [HHA.out] at hhas
      obtain ⟨x, hx⟩ := Option.isSome_iff_exists.mp hhas
      have hy : yd = itD c := by rw [elemI_mk] at hRv; exact (Prod.mk.inj (Option.some.inj hRv)).1.symm
      have hxc : x = c := by
        have h := HAA.out _ x hx (itD c)
        rw [hat, hy] at h
        exact (itD_inj h).symm
      subst hxc
      have hks : k.size < 4294967281 := by
        obtain ⟨i, _, h1, _⟩ := way_mem a _ _ _ hx
        rw [← data_inj h1]; exact HSA.out i
      have hM7 : MapI w7 bb b.length (wayG b) := HM.out.kept hg7 (fun e => HM.out.ne_ranges HR.out (Option.some.inj e))
      have HX := Aside0.mk hx
      have HR7 := Aside0.mk hrg7
      have HO7 := Aside0.mk (HO.out.kept hg7 (.inr (own_ne_ranges HO.out HR.out).2))
      have HB7 : Aside0 (Below w.heap.size w w7) := ⟨HBw.out.grown hg7 HBw.out.size (fun j hj => by cases hj; have := HRA.out; have := HW5.out.size; omega)⟩
      have HL := Aside0.mk hleft
      have HLT := Aside0.mk hlt7
      have HLK := Aside0.mk (fun o => MapI.look_ok (hM7.below (below_alloc (Below.refl _ _) o)) k hks)
      have HM7 := Aside0.mk hM7
      have hHas : (wayG b k.data.toList).isSome = (wayG b k.data.toList).isSome := rfl
      clear hRv hat hrg7 hlt7 hg7 hs7 hkey hleft hhas hx hy hks hM7
      obtain ⟨x0, x1, x2, x3, x4, x5, x6, x7⟩ := x
      change (Instr.entry _).run _ _ = .ok (.tuple #[.string k, .agg #[.string x0, .int .i64 x1, .int .i64 x2, .int .i64 x3, .int .i64 x4, .int .i64 x5, .int .i64 x6, .string x7]]) _ at hen
      cases hgb : wayG b k.data.toList with
      | none =>
        have hlk := fun o => HLK.out o
        rw [hgb] at hlk
        change ∀ o, (Instr.lookup _ _ _ _).run _ _ = Result.ok (Value.tuple #[Value.agg #[.string ⟨#[]⟩, .int .i64 0, .int .i64 0, .int .i64 0, .int .i64 0, .int .i64 0, .int .i64 0, .string ⟨#[]⟩], Value.bool false]) _ at hlk
        go_upto_region 9 with (fail)
        obtain ⟨g10, hg10⟩ : ∃ y, y = w7.heap.size := ⟨_, rfl⟩
        have hbk : ((w7.alloc (.cells #[.string x0, .int .i64 x1, .int .i64 x2, .int .i64 x3, .int .i64 x4, .int .i64 x5, .int .i64 x6, .string x7] 74)).alloc (.cells #[.string ⟨#[]⟩, .int .i64 0, .int .i64 0, .int .i64 0, .int .i64 0, .int .i64 0, .int .i64 0, .string ⟨#[]⟩] 74)).heap[g10]? = some (.cells #[.string x0, .int .i64 x1, .int .i64 x2, .int .i64 x3, .int .i64 x4, .int .i64 x5, .int .i64 x6, .string x7] 74 (0, 0)) := by rw [hg10]; exact blk_alloc (blk_new _ _) _
        have hb9 : Below w7.heap.size w7 ((w7.alloc (.cells #[.string x0, .int .i64 x1, .int .i64 x2, .int .i64 x3, .int .i64 x4, .int .i64 x5, .int .i64 x6, .string x7] 74)).alloc (.cells #[.string ⟨#[]⟩, .int .i64 0, .int .i64 0, .int .i64 0, .int .i64 0, .int .i64 0, .int .i64 0, .string ⟨#[]⟩] 74)) := below_alloc (below_alloc (Below.refl _ _) _) _
        have hO9 := (HO7.out.alloc (.cells #[.string x0, .int .i64 x1, .int .i64 x2, .int .i64 x3, .int .i64 x4, .int .i64 x5, .int .i64 x6, .string x7] 74)).alloc (.cells #[.string ⟨#[]⟩, .int .i64 0, .int .i64 0, .int .i64 0, .int .i64 0, .int .i64 0, .int .i64 0, .string ⟨#[]⟩] 74)
        have hR9 := (HR7.out.alloc (.cells #[.string x0, .int .i64 x1, .int .i64 x2, .int .i64 x3, .int .i64 x4, .int .i64 x5, .int .i64 x6, .string x7] 74)).alloc (.cells #[.string ⟨#[]⟩, .int .i64 0, .int .i64 0, .int .i64 0, .int .i64 0, .int .i64 0, .int .i64 0, .string ⟨#[]⟩] 74)
        have hM9 := HM7.out.below hb9
        obtain ⟨g11, hg11⟩ : ∃ y, y = w7.heap.size + 1 := ⟨_, rfl⟩
        rw [← hg11, ← hg10]
        generalize (w7.alloc (.cells #[.string x0, .int .i64 x1, .int .i64 x2, .int .i64 x3, .int .i64 x4, .int .i64 x5, .int .i64 x6, .string x7] 74)).alloc (.cells #[.string ⟨#[]⟩, .int .i64 0, .int .i64 0, .int .i64 0, .int .i64 0, .int .i64 0, .int .i64 0, .string ⟨#[]⟩] 74) = w9 at hbk hb9 hO9 hR9 hM9 ⊢
        have HO9 := Aside0.mk hO9
        have HR9 := Aside0.mk hR9
        have HM9 := Aside0.mk hM9
        have HB9 : Aside0 (Below w.heap.size w w9) := ⟨HB7.out.trans (hb9.mono HB7.out.size)⟩
        have HST : Aside0 (stepA (wayG b) k ⟨x0, x1, x2, x3, x4, x5, x6, x7⟩ = some (mkCh 2 k ⟨x0, x1, x2, x3, x4, x5, x6, x7⟩ zI)) := ⟨by unfold stepA; rw [hgb]⟩
        have cz := fun o => blk_cell hbk o
        clear hb9 hO9 hR9 hM9 hlk hen hg10 hg11 HO7 HR7 HM7 HB7 hbk hgb HLK hHas
        obtain ⟨i0, hi, hz0, hz1, hz2⟩ := info_parts zeroCh
        go_wp2_with (first
          | (at_builtin; go_loud (refine wpList_append_own _ rfl _ _ 34 rfl w.heap.size 104 i0 _ 18 184 Tryz.underlying34 hi hz0 hz1 hz2 rfl (by decide) _ _ _ rfl (HO9.out.alloc _) ⟨w9.heap.size, 0, none⟩ 1 1 (encCh (mkCh 2 k ⟨x0, x1, x2, x3, x4, x5, x6, x7⟩ zI)) rfl rfl ?e1 ?e2 ?e3 ?e4 ?e5 ?_))
          | go_in)
        all_goals go_ways
        case e1 => exact new_cells _ (encCh _) _
        case e2 => exact encCh_one _
        case e3 => have := HCN.out; unfold maxLen; omega
        case e4 => have := HCN.out; omega
        case e5 => exact Nat.le_trans HB9.out.size (alloc_lt _ _ |> Nat.le_of_lt)
        intro v10 w10 hown10 hgrow _
        obtain ⟨hr10, hm10, hb10⟩ := after_append hgrow HO9.out HR9.out HM9.out HB9.out
        have HR10 := Aside0.mk hr10
        have HM10 := Aside0.mk hm10
        have HB10 := Aside0.mk hb10
        have HO10 : Aside0 (w10.ownsRow w.heap.size 104 18 v10 (out ++ [mkCh 2 k ⟨x0, x1, x2, x3, x4, x5, x6, x7⟩ zI]).length (encChs (out ++ [mkCh 2 k ⟨x0, x1, x2, x3, x4, x5, x6, x7⟩ zI]))) := ⟨by rw [encChs_snoc, List.length_append]; exact hown10⟩
        clear hgrow hown10 hr10 hm10 hb10 HO9 HR9 HM9 HB9
        go_wp2
        go_roundw
        case rel =>
          refine ⟨_, cnt7, out ++ [mkCh 2 k ⟨x0, x1, x2, x3, x4, x5, x6, x7⟩ zI], HR10, HM10, HO10, ⟨fun c => ?_⟩, ⟨?_⟩, ⟨?_⟩, HB10⟩
          · have e := at_step (g := wayG a) HX.out HL.out HC.out c
            rw [HST.out] at e; rw [← e]; simp [eq_comm]
          · have := HCN.out; have := HLT.out; simp; omega
          · exact nodup_snoc HND.out (fun c hc e => by
              rcases (HC.out c).mp hc with h | ⟨kq, xq, h1, h2, h3⟩
              · exact h
              · rw [stepA_way h3] at e
                rw [e] at h2
                have := HL.out
                rw [show (mkCh 2 k ⟨x0, x1, x2, x3, x4, x5, x6, x7⟩ zI).f1 = k from rfl] at h2
                rw [h2] at this; cases this)
        case measure => rw [HR10.out.left_eq, HR.out.left_eq]; exact HLT.out
      | some y =>
        obtain ⟨y0, y1, y2, y3, y4, y5, y6, y7⟩ := y
        have hlk := fun o => HLK.out o
        rw [hgb] at hlk
        change ∀ o, (Instr.lookup _ _ _ _).run _ _ = Result.ok (Value.tuple #[Value.agg #[.string y0, .int .i64 y1, .int .i64 y2, .int .i64 y3, .int .i64 y4, .int .i64 y5, .int .i64 y6, .string y7], Value.bool true]) _ at hlk
        go_upto_region 9 with (fail)
        obtain ⟨g10, hg10⟩ : ∃ y, y = w7.heap.size := ⟨_, rfl⟩
        obtain ⟨g11, hg11⟩ : ∃ y, y = w7.heap.size + 1 := ⟨_, rfl⟩
        have hbx : ((w7.alloc (.cells #[.string x0, .int .i64 x1, .int .i64 x2, .int .i64 x3, .int .i64 x4, .int .i64 x5, .int .i64 x6, .string x7] 74)).alloc (.cells #[.string y0, .int .i64 y1, .int .i64 y2, .int .i64 y3, .int .i64 y4, .int .i64 y5, .int .i64 y6, .string y7] 74)).heap[g10]? = some (.cells #[.string x0, .int .i64 x1, .int .i64 x2, .int .i64 x3, .int .i64 x4, .int .i64 x5, .int .i64 x6, .string x7] 74 (0, 0)) := by rw [hg10]; exact blk_alloc (blk_new _ _) _
        have hby : ((w7.alloc (.cells #[.string x0, .int .i64 x1, .int .i64 x2, .int .i64 x3, .int .i64 x4, .int .i64 x5, .int .i64 x6, .string x7] 74)).alloc (.cells #[.string y0, .int .i64 y1, .int .i64 y2, .int .i64 y3, .int .i64 y4, .int .i64 y5, .int .i64 y6, .string y7] 74)).heap[g11]? = some (.cells #[.string y0, .int .i64 y1, .int .i64 y2, .int .i64 y3, .int .i64 y4, .int .i64 y5, .int .i64 y6, .string y7] 74 (0, 0)) := by rw [hg11, ← World.size_alloc]; exact blk_new _ _
        have hb9 : Below w7.heap.size w7 ((w7.alloc (.cells #[.string x0, .int .i64 x1, .int .i64 x2, .int .i64 x3, .int .i64 x4, .int .i64 x5, .int .i64 x6, .string x7] 74)).alloc (.cells #[.string y0, .int .i64 y1, .int .i64 y2, .int .i64 y3, .int .i64 y4, .int .i64 y5, .int .i64 y6, .string y7] 74)) := below_alloc (below_alloc (Below.refl _ _) _) _
        have hO9 := (HO7.out.alloc (.cells #[.string x0, .int .i64 x1, .int .i64 x2, .int .i64 x3, .int .i64 x4, .int .i64 x5, .int .i64 x6, .string x7] 74)).alloc (.cells #[.string y0, .int .i64 y1, .int .i64 y2, .int .i64 y3, .int .i64 y4, .int .i64 y5, .int .i64 y6, .string y7] 74)
        have hR9 := (HR7.out.alloc (.cells #[.string x0, .int .i64 x1, .int .i64 x2, .int .i64 x3, .int .i64 x4, .int .i64 x5, .int .i64 x6, .string x7] 74)).alloc (.cells #[.string y0, .int .i64 y1, .int .i64 y2, .int .i64 y3, .int .i64 y4, .int .i64 y5, .int .i64 y6, .string y7] 74)
        have hM9 := HM7.out.below hb9
        rw [← hg11, ← hg10]
        generalize (w7.alloc (.cells #[.string x0, .int .i64 x1, .int .i64 x2, .int .i64 x3, .int .i64 x4, .int .i64 x5, .int .i64 x6, .string x7] 74)).alloc (.cells #[.string y0, .int .i64 y1, .int .i64 y2, .int .i64 y3, .int .i64 y4, .int .i64 y5, .int .i64 y6, .string y7] 74) = w9 at hbx hby hb9 hO9 hR9 hM9 ⊢
        have HO9 := Aside0.mk hO9
        have HR9 := Aside0.mk hR9
        have HM9 := Aside0.mk hM9
        have HB9 : Aside0 (Below w.heap.size w w9) := ⟨HB7.out.trans (hb9.mono HB7.out.size)⟩
        have cx := fun o => blk_cell hbx o
        have cy := fun o => blk_cell hby o
        by_cases hxy : (⟨x0, x1, x2, x3, x4, x5, x6, x7⟩ : It) = ⟨y0, y1, y2, y3, y4, y5, y6, y7⟩
        case pos =>
          have HST : Aside0 (stepA (wayG b) k ⟨x0, x1, x2, x3, x4, x5, x6, x7⟩ = none) := ⟨by unfold stepA; rw [hgb]; exact if_pos hxy⟩
          have e := hxy
          injection e with e0 e1 e2 e3 e4 e5 e6 e7
          subst e0 e1 e2 e3 e4 e5 e6 e7
          have hneq := fun w => neq_same w x0 x1 x2 x3 x4 x5 x6 x7
          clear hb9 hO9 hR9 hM9 hlk hen hg10 hg11 HO7 HR7 HM7 HB7 hbx hby hgb HLK hHas hxy
          go_wp2
          go_roundw
          case rel =>
            refine ⟨_, cnt7, out, HR9, HM9, HO9, ⟨fun c => ?_⟩, ⟨?_⟩, HND, HB9⟩
            · have e := at_step (g := wayG a) HX.out HL.out HC.out c
              rw [HST.out] at e; rw [← e]; simp
            · have := HCN.out; have := HLT.out; omega
          case measure => rw [HR9.out.left_eq, HR.out.left_eq]; exact HLT.out
        case neg =>
          have HST : Aside0 (stepA (wayG b) k ⟨x0, x1, x2, x3, x4, x5, x6, x7⟩ = some (mkCh 3 k ⟨x0, x1, x2, x3, x4, x5, x6, x7⟩ ⟨y0, y1, y2, y3, y4, y5, y6, y7⟩)) := ⟨by unfold stepA; rw [hgb]; exact if_neg hxy⟩
          have hneq := fun w => neq_other w hxy
          clear hb9 hO9 hR9 hM9 hlk hen hg10 hg11 HO7 HR7 HM7 HB7 hbx hby hgb HLK hHas hxy
          obtain ⟨i0, hi, hz0, hz1, hz2⟩ := info_parts zeroCh
          go_wp2_with (first
            | (at_builtin; go_loud (refine wpList_append_own _ rfl _ _ 34 rfl w.heap.size 104 i0 _ 18 184 Tryz.underlying34 hi hz0 hz1 hz2 rfl (by decide) _ _ _ rfl (HO9.out.alloc _) ⟨w9.heap.size, 0, none⟩ 1 1 (encCh (mkCh 3 k ⟨x0, x1, x2, x3, x4, x5, x6, x7⟩ ⟨y0, y1, y2, y3, y4, y5, y6, y7⟩)) rfl rfl ?e1 ?e2 ?e3 ?e4 ?e5 ?_))
            | go_in)
          all_goals go_ways
          case e1 => exact new_cells _ (encCh _) _
          case e2 => exact encCh_one _
          case e3 => have := HCN.out; unfold maxLen; omega
          case e4 => have := HCN.out; omega
          case e5 => exact Nat.le_trans HB9.out.size (alloc_lt _ _ |> Nat.le_of_lt)
          intro v10 w10 hown10 hgrow _
          obtain ⟨hr10, hm10, hb10⟩ := after_append hgrow HO9.out HR9.out HM9.out HB9.out
          have HR10 := Aside0.mk hr10
          have HM10 := Aside0.mk hm10
          have HB10 := Aside0.mk hb10
          have HO10 : Aside0 (w10.ownsRow w.heap.size 104 18 v10 (out ++ [mkCh 3 k ⟨x0, x1, x2, x3, x4, x5, x6, x7⟩ ⟨y0, y1, y2, y3, y4, y5, y6, y7⟩]).length (encChs (out ++ [mkCh 3 k ⟨x0, x1, x2, x3, x4, x5, x6, x7⟩ ⟨y0, y1, y2, y3, y4, y5, y6, y7⟩]))) := ⟨by rw [encChs_snoc, List.length_append]; exact hown10⟩
          clear hgrow hown10 hr10 hm10 hb10 HO9 HR9 HM9 HB9
          go_wp2
          go_roundw
          case rel =>
            refine ⟨_, cnt7, out ++ [mkCh 3 k ⟨x0, x1, x2, x3, x4, x5, x6, x7⟩ ⟨y0, y1, y2, y3, y4, y5, y6, y7⟩], HR10, HM10, HO10, ⟨fun c => ?_⟩, ⟨?_⟩, ⟨?_⟩, HB10⟩
            · have e := at_step (g := wayG a) HX.out HL.out HC.out c
              rw [HST.out] at e; rw [← e]; simp [eq_comm]
            · have := HCN.out; have := HLT.out; simp; omega
            · exact nodup_snoc HND.out (fun c hc e => by
                rcases (HC.out c).mp hc with h | ⟨kq, xq, h1, h2, h3⟩
                · exact h
                · rw [stepA_way h3] at e
                  rw [e] at h2
                  have := HL.out
                  rw [show (mkCh 3 k ⟨x0, x1, x2, x3, x4, x5, x6, x7⟩ ⟨y0, y1, y2, y3, y4, y5, y6, y7⟩).f1 = k from rfl] at h2
                  rw [h2] at this; cases this)
          case measure => rw [HR10.out.left_eq, HR.out.left_eq]; exact HLT.out

end Go.Proofs.YthhmkbchdiflcaaGreatDoor.Q

/- The reference's stack of open ways comes to what the program asks. -/
namespace Go.Proofs.YthhmkbchdiflcaaGreatDoor.Q
open Go.RowKit Go.Proofs.YthhmkbchdiflcaaGreatDoorW.PrintWords Go.Proofs.YthhmkbchdiflcaaGreatDoorW.PrintLast Go.Proofs.YthhmkbchdiflcaaGreatDoorW.PrintMore
attribute [local go_sem] max2_int min2_int max_two min_two max_three min_three max_four min_four   -- for this text's walks alone
set_option linter.unusedVariables false
set_option linter.unusedSimpArgs false

theorem namesW_len2 (s : ByteArray) (hs : s.size < 4294967281) : (namesW s).length ≤ 4294967282 := namesW_len s hs
def wayB (N : List ByteArray) : ByteArray := ⟨(wayT N).toArray⟩
theorem wayB_toList (N : List ByteArray) : (wayB N).toList = wayT N := by rw [ByteArray.toList_eq]; simp [wayB]
theorem wayB_names (s : ByteArray) : wayB (namesW s) = s := Go.WideShapes.bytes_inj (by rw [← way_names s]; simp [wayB])
theorem wayB_above {s : ByteArray} {P : List ByteArray} {n : ByteArray} (h : namesW s = P ++ [n]) (hn : nameOkB n = true) : aboveB s = wayB P :=
  Go.WideShapes.bytes_inj (by rw [(above_way h hn).1]; simp [wayB])
def ini (M : List ByteArray) : List ByteArray := (List.range (M.length + 1)).map fun j => wayB (M.take j)
theorem ini_len (M : List ByteArray) : (ini M).length = M.length + 1 := by simp [ini]
theorem ini_get (M : List ByteArray) (j : Nat) (h : j < (ini M).length) : (ini M)[j] = wayB (M.take j) := by simp [ini]
theorem ini_take (M : List ByteArray) (p : Nat) (hp : p ≤ M.length) : (ini M).take (p + 1) = ini (M.take p) := by
  refine List.ext_getElem (by rw [List.length_take, ini_len, ini_len, List.length_take]; omega) (fun j h1 h2 => ?_)
  rw [List.getElem_take, ini_get, ini_get, List.take_take]
  rw [ini_len, List.length_take] at h2
  rw [Nat.min_eq_left (by omega)]
theorem ini_snoc (P : List ByteArray) (n : ByteArray) : ini (P ++ [n]) = ini P ++ [wayB (P ++ [n])] := by
  have h1 := ini_take (P ++ [n]) P.length (by simp)
  rw [List.take_left] at h1
  have h2 : ini (P ++ [n]) = (ini (P ++ [n])).take (P.length + 1) ++ (ini (P ++ [n])).drop (P.length + 1) := (List.take_append_drop _ _).symm
  rw [h1] at h2
  rw [h2]
  congr 1
  have hl : P.length + 1 < (ini (P ++ [n])).length := by rw [ini_len]; simp
  rw [List.drop_eq_getElem_cons hl, ini_get, List.drop_of_length_le (by rw [ini_len]; simp)]
  rw [List.take_of_length_le (by simp)]
def opn (M : List ByteArray) (c : Nat) : List ByteArray := (ini M).take c
def lst (M : List ByteArray) (c : Nat) : List ByteArray := (M ++ [(⟨#[]⟩ : ByteArray)]).take c
theorem opn_len (M : List ByteArray) (c : Nat) (h : c ≤ M.length + 1) : (opn M c).length = c := by simp [opn, ini_len]; omega
theorem lst_len (M : List ByteArray) (c : Nat) (h : c ≤ M.length + 1) : (lst M c).length = c := by simp [lst]; omega
theorem opn_get (M : List ByteArray) (c j : Nat) (h : j < (opn M c).length) : (opn M c)[j] = wayB (M.take j) := by
  have h' : j < ((ini M).take c).length := h
  show ((ini M).take c)[j]'h' = _
  rw [List.getElem_take, ini_get]
theorem lst_get (M : List ByteArray) (c j : Nat) (hc : c ≤ M.length + 1) (h : j < (lst M c).length) : (lst M c)[j] = (M ++ [(⟨#[]⟩ : ByteArray)]).getD j ⟨#[]⟩ := by
  have h' : j < ((M ++ [(⟨#[]⟩ : ByteArray)]).take c).length := h
  show ((M ++ [(⟨#[]⟩ : ByteArray)]).take c)[j]'h' = _
  rw [List.length_take] at h'
  rw [List.getElem_take, List.getD_eq_getElem?_getD, List.getElem?_eq_getElem (by omega)]
  rfl
theorem lst_set (M : List ByteArray) (p : Nat) (w : ByteArray) (hp : p ≤ M.length) : (lst M (p + 1)).set p w = M.take p ++ [w] := by
  have hlt : p < (M ++ [(⟨#[]⟩ : ByteArray)]).length := by simp; omega
  unfold lst
  rw [List.take_add_one, List.getElem?_eq_getElem hlt, List.take_append_of_le_length hp]
  have hl : (M.take p).length = p := by simp; omega
  rw [List.set_append_right _ _ (by omega), hl]
  simp
theorem wayB_ne {M N : List ByteArray} (hM : ∀ p ∈ M, nameOkB p = true) (hN : ∀ p ∈ N, nameOkB p = true) (h : (wayB M).toList = (wayB N).toList) : M = N := by
  rw [wayB_toList, wayB_toList] at h
  exact wayT_inj hM hN h
set_option maxHeartbeats 1000000 in
theorem pop_ev (x5 x6 : ByteArray) (M P : List ByteArray) (w : ByteArray) (p : Nat) (hM : ∀ q ∈ M, nameOkB q = true) (hP : M.take p = P) (hp : p ≤ M.length) (hl : M.length ≤ 4294967282) (r : List It) (n i : Int)
    (y0 : ByteArray) (y1 y2 y3 y4 y5 y6 : Int) (y7 : ByteArray) (R : Bool)
    (hnext : Ev (fun k => if y1 = 2 then spec_l17Next.l0 k x5 x6 (ini P ++ [y0]) ((P ++ [w]) ++ [(⟨#[]⟩ : ByteArray)]) r n (wrap64 (i + 1)) else spec_l17Next.l0 k x5 x6 (ini P) (P ++ [w]) r n (wrap64 (i + 1))) R) (e : Nat) :
    p + 1 + e ≤ M.length + 1 → Ev (fun k => spec_l17Next.l1 k x5 x6 (opn M (p + 1 + e)) (lst M (p + 1 + e)) (wayB P) w r n i y0 y1 y2 y3 y4 y5 y6 y7) R := by
  have hPn : ∀ q ∈ P, nameOkB q = true := fun q hq => hM q (by rw [← hP] at hq; exact List.mem_of_mem_take hq)
  have hPl : P.length = p := by rw [← hP]; simp; omega
  induction e with
  | zero =>
    intro hc
    have e1 : opn M (p + 1 + 0) = ini P := by rw [Nat.add_zero]; unfold opn; rw [ini_take M p hp, hP]
    have e2 : wrap64 (((ini P).length : Int) - 1) = (p : Int) := by rw [ini_len]; unfold wrap64; omega
    have e3 := lst_len M (p + 1 + 0) hc
    have e4 : wrap64 (((lst M (p + 1 + 0)).length : Int) - 1) = (p : Int) := by rw [e3]; unfold wrap64; omega
    have e5 : rdOf ByteArray.empty (ini P) (p : Int) = wayB P := by
      rw [rdS _ _ (by rw [ini_len]; omega), ini_get, List.take_of_length_le (by omega)]
    refine Ev.step (fun k => ?_) hnext
    simp only [spec_l17Next.l1]
    rw [e1, e2, e4, if_pos (by omega), if_pos (by rw [ini_len]; omega), e5, if_pos rfl, if_pos (by omega), if_pos (by omega), Int.toNat_natCast, Nat.add_zero, lst_set M p w hp, hP]
    simp only [Option.bind_some]
    by_cases h2 : y1 = 2
    · rw [if_pos h2, if_pos h2, if_pos (by rw [ini_len]; omega), if_pos (by rw [List.length_append, List.length_singleton]; omega)]
    · rw [if_neg h2, if_neg h2]
  | succ e ih =>
    intro hc
    have e3 := lst_len M (p + 1 + (e + 1)) hc
    have e6 := opn_len M (p + 1 + (e + 1)) hc
    have e2 : wrap64 (((opn M (p + 1 + (e + 1))).length : Int) - 1) = ((p + 1 + e : Nat) : Int) := by rw [e6]; unfold wrap64; omega
    have e4 : wrap64 (((lst M (p + 1 + (e + 1))).length : Int) - 1) = ((p + 1 + e : Nat) : Int) := by rw [e3]; unfold wrap64; omega
    have e5 : rdOf ByteArray.empty (opn M (p + 1 + (e + 1))) ((p + 1 + e : Nat) : Int) = wayB (M.take (p + 1 + e)) := by
      rw [rdS _ _ (by rw [e6]; omega), opn_get]
    have hne : ¬ (wayB (M.take (p + 1 + e))).toList = (wayB P).toList := by
      intro h
      have := wayB_ne (fun q hq => hM q (List.mem_of_mem_take hq)) hPn h
      have := congrArg List.length this
      rw [List.length_take] at this
      omega
    have t1 : (opn M (p + 1 + (e + 1))).take (p + 1 + e) = opn M (p + 1 + e) := by unfold opn; rw [List.take_take, Nat.min_eq_left (by omega)]
    have t2 : (lst M (p + 1 + (e + 1))).take (p + 1 + e) = lst M (p + 1 + e) := by unfold lst; rw [List.take_take, Nat.min_eq_left (by omega)]
    refine Ev.step (fun k => ?_) (ih (by omega))
    simp only [spec_l17Next.l1]
    rw [e2, e4, if_pos (by omega), if_pos (by rw [e6]; omega), e5, if_neg hne, if_pos (by omega), if_pos (by omega), if_pos (by omega), Int.toNat_natCast, t1, t2]
def cnI (l : List It) (i : Nat) : Nat := (nmA l i).length + (if dirI l i = true then 1 else 0)
theorem cnI_le (l : List It) (i : Nat) : cnI l i ≤ (nmA l i).length + 1 := by unfold cnI; split <;> omega
set_option maxHeartbeats 1000000 in
theorem stack_ev {l : List It} {k : Nat} (h : Pre l k) (hk : k ≤ 1000) (hs : ∀ i, (itAt l i).f0.size < 4294967281) (r : List It) (hr : r.length + 1 = k) (hri : ∀ i (hi : i < r.length), r[i] = itAt l (i + 1)) (x5 x6 : ByteArray) (R : Bool)
    (hend : Ev (fun q => spec_l17Next.l2 q x5 x6 (lst (nmA l (k - 1)) (cnI l (k - 1))) (opn (nmA l (k - 1)) (cnI l (k - 1))) ((opn (nmA l (k - 1)) (cnI l (k - 1))).length : Int) 0) R) (d : Nat) :
    ∀ i, i + d = r.length → Ev (fun q => spec_l17Next.l0 q x5 x6 (opn (nmA l i) (cnI l i)) (lst (nmA l i) (cnI l i)) r (r.length : Int) (i : Int)) R := by
  induction d with
  | zero =>
    intro i hi
    have : i = k - 1 := by omega
    subst this
    refine Ev.step (fun q => ?_) hend
    simp only [spec_l17Next.l0]
    rw [if_neg (by omega)]
  | succ d ih =>
    intro i hi
    have hlt : i < r.length := by omega
    obtain ⟨P, n, e, hn, hP⟩ := h.snoc (i := i + 1) (by omega) (by omega)
    have hok := h.ok (i + 1) (by omega)
    obtain ⟨j, hj, ej, hdj⟩ := h.told (K := i + 1) (by omega) hn hP e (h.dir (i + 1) (by omega) (by omega))
    have hc := h.lt i (by omega)
    rw [e] at hc
    obtain ⟨f1, f2⟩ := h.fits' (K := i) (by omega) (show j ≤ i by omega) ej hdj hc
    have hsp := l17Split_ev (itAt l (i + 1)).f0 (hs _) P n e hok
    rw [wayB_above e hn] at hsp
    have hw : wayB (P ++ [n]) = (itAt l (i + 1)).f0 := by rw [← e]; exact wayB_names _
    refine Ev.step (f := fun q => (spec_l17Split.f q ((itAt l (i + 1)).f0)).bind fun bt167 => spec_l17Next.l1 q x5 x6 (opn (nmA l i) (cnI l i)) (lst (nmA l i) (cnI l i)) bt167.1 bt167.2 r (r.length : Int) (i : Int) (itAt l (i + 1)).f0 (itAt l (i + 1)).f1 (itAt l (i + 1)).f2 (itAt l (i + 1)).f3 (itAt l (i + 1)).f4 (itAt l (i + 1)).f5 (itAt l (i + 1)).f6 (itAt l (i + 1)).f7) (fun q => ?_) ?_
    · simp only [spec_l17Next.l0]
      rw [if_pos (by omega), if_pos (by omega), if_pos (by omega), rdI r i hlt, hri i hlt]
    · refine Ev.bind hsp ?_
      have hlen := namesW_len2 (itAt l i).f0 (hs i)
      have hcn : cnI l i = P.length + 1 + (cnI l i - (P.length + 1)) := by unfold cnI; omega
      rw [hcn]
      refine pop_ev x5 x6 (nmA l i) P n P.length (h.names (by omega)) f1 (by unfold cnI at hcn; split at hcn <;> omega) hlen r _ _ _ _ _ _ _ _ _ _ R ?_ _ (by rw [← hcn]; exact cnI_le l i)
      have hih := ih (i + 1) (by omega)
      rw [step_n hlt (by omega)]
      have hnl : (nmA l (i + 1)).length = P.length + 1 := by rw [e]; simp
      by_cases hd : (itAt l (i + 1)).f1 = 2
      · have hdi : dirI l (i + 1) = true := by unfold dirI; simpa using hd
        refine Ev.congr (fun q => ?_) hih
        rw [if_pos hd]
        have a1 : opn (nmA l (i + 1)) (cnI l (i + 1)) = ini P ++ [(itAt l (i + 1)).f0] := by
          unfold opn cnI
          rw [hdi, if_pos rfl, List.take_of_length_le (by rw [ini_len]; omega), e, ini_snoc, hw]
        have a2 : lst (nmA l (i + 1)) (cnI l (i + 1)) = (P ++ [n]) ++ [(⟨#[]⟩ : ByteArray)] := by
          unfold lst cnI
          rw [hdi, if_pos rfl, List.take_of_length_le (by simp), e]
        rw [a1, a2]
      · have hdi : ¬ dirI l (i + 1) = true := by unfold dirI; simpa using hd
        refine Ev.congr (fun q => ?_) hih
        rw [if_neg hd]
        have a1 : opn (nmA l (i + 1)) (cnI l (i + 1)) = ini P := by
          unfold opn cnI
          rw [if_neg hdi, Nat.add_zero, hnl, ini_take _ _ (by omega), e, List.take_left]
        have a2 : lst (nmA l (i + 1)) (cnI l (i + 1)) = P ++ [n] := by
          unfold lst cnI
          rw [if_neg hdi, Nat.add_zero, List.take_left, e]
        rw [a1, a2]
theorem find_ev (M P : List ByteArray) (n : ByteArray) (d : Bool) (hM : ∀ q ∈ M, nameOkB q = true) (hP : ∀ q ∈ P, nameOkB q = true) (hl : M.length ≤ 4294967282) (c : Nat) (hc : c = M.length + (if d = true then 1 else 0)) (m : Nat) :
    ∀ j, j + m = c → (M.take P.length = P → P.length < c → j ≤ P.length) → Ev (fun k => spec_l17Next.l2 k (wayB P) n (lst M c) (opn M c) ((opn M c).length : Int) (j : Int)) (nextB M d P n) := by
  have hcl : c ≤ M.length + 1 := by rw [hc]; split <;> omega
  have l1 := opn_len M c hcl
  have l2 := lst_len M c hcl
  induction m with
  | zero =>
    intro j hj hg
    have hf : nextB M d P n = false := by
      unfold nextB
      rw [decide_eq_false, Bool.false_and]
      rintro ⟨g1, g2⟩
      rw [← hc] at g2
      have := hg g1 g2
      omega
    rw [hf]
    refine Ev.step (f := fun _ => some false) (fun k => ?_) (Ev.now _)
    simp only [spec_l17Next.l2]
    rw [if_neg (by omega)]
  | succ m ih =>
    intro j hj hg
    have e5 : rdOf ByteArray.empty (opn M c) (j : Int) = wayB (M.take j) := by rw [rdS _ _ (by omega), opn_get]
    by_cases hm : M.take j = P
    · have hPl : P.length = j := by rw [← hm]; simp; omega
      have hv : nextB M d P n = Op.bytesLess (rdOf ByteArray.empty (lst M c) (j : Int)).toList n.toList := by
        unfold nextB
        rw [hPl, hm, ← hc, decide_eq_true ⟨rfl, by omega⟩, Bool.true_and, rdS _ _ (by omega), lst_get M c j hcl (by omega)]
      rw [hv]
      refine Ev.step (f := fun _ => some (Op.bytesLess (rdOf ByteArray.empty (lst M c) (j : Int)).toList n.toList)) (fun k => ?_) (Ev.now _)
      simp only [spec_l17Next.l2]
      rw [if_pos (by omega), if_pos (by omega), if_pos (by omega), e5, hm, if_pos rfl, if_pos (by omega)]
    · have hne : ¬ (wayB (M.take j)).toList = (wayB P).toList := fun h => hm (wayB_ne (fun q hq => hM q (List.mem_of_mem_take hq)) hP h)
      refine Ev.step (fun k => ?_) (ih (j + 1) (by omega) (fun g1 g2 => ?_))
      · simp only [spec_l17Next.l2]
        rw [if_pos (by omega), if_pos (by omega), if_pos (by omega), e5, if_neg hne, step_n (show j < c by omega) (by omega)]
      · have := hg g1 g2
        rcases Nat.lt_or_ge j P.length with h | h
        · omega
        · have : j = P.length := by omega
          subst this
          exact absurd g1 hm
theorem next_ev {l : List It} {K : Nat} (h : Pre l (K + 1)) (hK : K + 1 ≤ 1000) (hl : K + 1 ≤ l.length) (hs : ∀ i, (itAt l i).f0.size < 4294967281) (x : It) (hx : x.f0.size < 4294967281) :
    Ev (fun k => spec_l17Next.f k (l.take (K + 1)) x.f0 x.f1 x.f2 x.f3 x.f4 x.f5 x.f6 x.f7) (namesOk x.f0 && (dirAt l (K + 1) (aboveB x.f0).toList && decide (cmpW (itAt l K).f0 x.f0 < 0))) := by
  unfold spec_l17Next.f
  refine Ev.bind (l17Way_ev x.f0 hx) ?_
  unfold innerB
  by_cases ho : namesOk x.f0 = true
  · by_cases hN : namesW x.f0 = []
    · rw [ho, hN]
      have : ¬ cmpW (itAt l K).f0 x.f0 < 0 := by
        unfold cmpW; rw [hN]
        cases namesW (itAt l K).f0 <;> simp [cmpL]
      rw [decide_eq_false this, Bool.and_false]
      exact Ev.now _
    · have hne : (namesW x.f0).isEmpty = false := by cases hq : namesW x.f0 <;> simp [hq] at hN ⊢
      have hnames : ∀ p ∈ namesW x.f0, nameOkB p = true := by rw [namesOk_eq, List.all_eq_true] at ho; exact ho
      have e : namesW x.f0 = (namesW x.f0).dropLast ++ [(namesW x.f0).getLast hN] := (List.dropLast_concat_getLast hN).symm
      have hn := hnames _ (List.getLast_mem hN)
      have hP : ∀ p ∈ (namesW x.f0).dropLast, nameOkB p = true := fun p hp => hnames p (List.dropLast_subset _ hp)
      generalize (namesW x.f0).dropLast = P at e hP
      generalize (namesW x.f0).getLast hN = n at e hn
      rw [ho, hne]
      have hq := next_eq h hn hP e
      rw [Bool.true_and]
      show Ev _ (dirAt l (K + 1) (aboveB x.f0).toList && decide (cmpL (nmA l K) (namesW x.f0) < 0))
      rw [e, ← hq]
      have hsp := l17Split_ev x.f0 hx P n e ho
      rw [wayB_above e hn] at hsp
      refine Ev.congr (f := fun k => (spec_l17Split.f k x.f0).bind fun bt153 => spec_l17Next.l0 k bt153.1 bt153.2 (opn (nmA l 0) (cnI l 0)) (lst (nmA l 0) (cnI l 0)) ((l.take (K + 1)).drop 1) (((l.take (K + 1)).drop 1).length : Int) ((0 : Nat) : Int)) (fun k => ?_) ?_
      · have c0 : cnI l 0 = 1 := by unfold cnI; rw [h.zero, h.rdir]; rfl
        have c1 : (1 : Int) ≤ ((l.take (K + 1)).length : Int) := by rw [List.length_take]; omega
        rw [c0, h.zero]
        simp only [if_pos c1, Option.bind_some]
        rfl
      · refine Ev.bind hsp ?_
        refine stack_ev h hK hs _ (by simp; omega) (fun i hi => ?_) _ _ _ ?_ ((l.take (K + 1)).drop 1).length 0 (by omega)
        · have hi' : i < K := by simp at hi; omega
          rw [List.getElem_drop, List.getElem_take]
          have h1 : itAt l (i + 1) = l[i + 1] := rdI l (i + 1) (by omega)
          rw [h1]
          exact getElem_congr_idx (by omega)
        · rw [Nat.add_sub_cancel]
          exact find_ev (nmA l K) P n (dirI l K) (h.names (by omega)) hP (namesW_len2 _ (hs K)) (cnI l K) rfl (cnI l K) 0 (by omega) (fun _ _ => Nat.zero_le _)
  · have ho' : namesOk x.f0 = false := by simpa using ho
    rw [ho']
    exact Ev.now _

end Go.Proofs.YthhmkbchdiflcaaGreatDoor.Q

/- The reference's GoodItems comes to what the program's does. -/
namespace Go.Proofs.YthhmkbchdiflcaaGreatDoor.Q
open Go.RowKit Go.Proofs.YthhmkbchdiflcaaGreatDoorW.PrintWords Go.Proofs.YthhmkbchdiflcaaGreatDoorW.PrintLast Go.Proofs.YthhmkbchdiflcaaGreatDoorW.PrintMore
attribute [local go_sem] max2_int min2_int max_two min_two max_three min_three max_four min_four   -- for this text's walks alone
set_option linter.unusedVariables false
set_option linter.unusedSimpArgs false

def aloneB (x : It) (i : Int) : Bool := inB 1 3 x.f1 && (inB 0 i x.f6 && (if x.f6 < i then x.f1 != 2 && zerosB x else bareB x.f1 x.f2 x.f3 x.f4 x.f5 x.f7))
def sameB (l : List It) (x : It) : Bool := (itAt l x.f6.toNat).f6 == x.f6 && (itAt l x.f6.toNat).f1 == x.f1
theorem steps_mem {l : List It} {n j : Nat} (h : stepsB l n = true) (hj : j < n) : stepB l j = true := by
  unfold stepsB at h
  rw [List.all_eq_true] at h
  exact h j (List.mem_range.mpr hj)
theorem inB_iff (lo hi n : Int) : inB lo hi n = true ↔ lo ≤ n ∧ n ≤ hi := by unfold inB; simp
theorem item_eq (l : List It) (i : Nat) (hp : ∀ j, j < i → goodItemB l j = true) : goodItemB l i = (aloneB (itAt l i) i && sameB l (itAt l i)) := by
  unfold goodItemB aloneB sameB
  generalize hx : itAt l i = x
  by_cases h6 : x.f6 = (i : Int)
  · rw [if_pos h6, h6, Int.toNat_natCast, hx, h6, (inB_iff 0 i i).mpr (by omega), if_neg (by omega)]
    simp
  · rw [if_neg h6]
    by_cases hb : inB 0 ((i : Int) - 1) x.f6 = true
    · have hb2 := (inB_iff _ _ _).mp hb
      rw [hb, (inB_iff 0 i x.f6).mpr (by omega), if_pos (by omega)]
      by_cases hs : (itAt l x.f6.toNat).f6 = x.f6 ∧ (itAt l x.f6.toNat).f1 = x.f1
      · obtain ⟨s1, s2⟩ := hs
        have hg := hp x.f6.toNat (by omega)
        unfold goodItemB at hg
        rw [if_pos (by rw [s1]; omega), s2] at hg
        have hk : inB 1 3 x.f1 = true := by
          rw [Bool.and_eq_true] at hg; exact hg.1
        rw [s1, s2, hk]
        simp only [beq_self_eq_true, Bool.true_and, Bool.and_true]
        exact Bool.and_comm _ _
      · by_cases s1 : (itAt l x.f6.toNat).f6 = x.f6
        · have s2 : ((itAt l x.f6.toNat).f1 == x.f1) = false := by
            apply beq_eq_false_iff_ne.mpr
            intro s2; exact hs ⟨s1, s2⟩
          rw [s2]; simp
        · have s1' : ((itAt l x.f6.toNat).f6 == x.f6) = false := beq_eq_false_iff_ne.mpr s1
          rw [s1']; simp
    · have hb' : inB 0 ((i : Int) - 1) x.f6 = false := by simpa using hb
      have hb2 : inB 0 (i : Int) x.f6 = false := by
        apply Bool.eq_false_iff.mpr
        intro h
        rw [inB_iff] at h hb
        omega
      rw [hb', hb2]; simp
theorem alone_f (x : It) (i : Int) (hx : x.f7.size < 4294967281) : spec_l17Alone.f x.f0 x.f1 x.f2 x.f3 x.f4 x.f5 x.f6 x.f7 i = some (aloneB x i) := by
  unfold spec_l17Alone.f
  rw [if_pos hx]
  rfl
theorem steps_pre {l : List It} {i : Nat} (h : stepsB l i = true) (hi : 1 ≤ i) (hr : (itAt l 0).f0.toList = [46]) (hd : dirI l 0 = true) : Pre l i := by
  have hst : ∀ j, j < i → namesOk (itAt l j).f0 = true ∧ (0 < j → dirAt l j (aboveB (itAt l j).f0).toList = true ∧ cmpW (itAt l (j - 1)).f0 (itAt l j).f0 < 0) := by
    intro j hj
    have := steps_mem h hj
    unfold stepB at this
    rw [Bool.and_eq_true, Bool.and_eq_true] at this
    refine ⟨this.1, fun h0 => ?_⟩
    have h2 := this.2.2
    rw [decide_eq_false (by omega), Bool.false_or, Bool.and_eq_true, decide_eq_true_eq] at h2
    exact h2
  exact ⟨hr, hd, fun j hj => (hst j hj).1, fun j h0 hj => ((hst j hj).2 h0).1, fun j hj => ((hst (j + 1) hj).2 (by omega)).2⟩
set_option maxHeartbeats 1000000 in
theorem good_loop (l : List It) (hl : l.length ≤ 40) (hr : (itAt l 0).f0.toList = [46]) (hd : dirI l 0 = true ∨ l.length = 1) (hs0 : ∀ i, (itAt l i).f0.size < 4294967281) (hs7 : ∀ i, (itAt l i).f7.size < 4294967281) (d : Nat) :
    ∀ i : Nat, i + d = l.length → stepsB l i = true → Ev (fun k => spec_l17Good.l0 k l l (l.length : Int) (i : Int)) (stepsB l l.length) := by
  induction d with
  | zero =>
    intro i hi h
    have : i = l.length := by omega
    subst this
    rw [h]
    refine Ev.step (f := fun _ => some true) (fun k => ?_) (Ev.now _)
    simp only [spec_l17Good.l0]
    rw [if_neg (by omega)]
  | succ d ih =>
    intro i hi h
    have hlt : i < l.length := by omega
    have hgi : ∀ j, j < i → goodItemB l j = true := fun j hj => by
      have := steps_mem h hj
      unfold stepB at this
      rw [Bool.and_eq_true, Bool.and_eq_true] at this
      exact this.2.1
    have hite := item_eq l i hgi
    have hrd : rd_T74 l (i : Int) = itAt l i := rfl
    have hal := alone_f (itAt l i) (i : Int) (hs7 i)
    have hfalse : stepB l i = false → stepsB l l.length = false := fun hf => stepsB_false l i hf _ hlt
    have hj2 : ∀ b : Bool, aloneB (itAt l i) i = true → (b = true → stepB l i = false) → (b = false → stepB l i = goodItemB l i) →
        Ev (fun k => spec_l17Good.j2 k l l (l.length : Int) (i : Int) b (itAt l i).f0 (itAt l i).f1 (itAt l i).f2 (itAt l i).f3 (itAt l i).f4 (itAt l i).f5 (itAt l i).f6 (itAt l i).f7) (stepsB l l.length) := by
      intro b ha hb1 hb2
      cases b with
      | true =>
        rw [hfalse (hb1 rfl)]
        refine Ev.step (f := fun _ => some false) (fun k => ?_) (Ev.now _)
        simp only [spec_l17Good.j2, if_true]
      | false =>
        have hst := hb2 rfl
        rw [hite, ha, Bool.true_and] at hst
        have hrange : 0 ≤ (itAt l i).f6 ∧ (itAt l i).f6 ≤ i := by
          unfold aloneB at ha
          rw [Bool.and_eq_true, Bool.and_eq_true, inB_iff, inB_iff] at ha
          exact ha.2.1
        have hrd2 : rd_T74 l (itAt l i).f6 = itAt l (itAt l i).f6.toNat := rfl
        by_cases s1 : (itAt l (itAt l i).f6.toNat).f6 = (itAt l i).f6
        · by_cases s2 : (itAt l (itAt l i).f6.toNat).f1 = (itAt l i).f1
          · have hstep : stepB l i = true := by rw [hst]; unfold sameB; rw [beq_iff_eq.mpr s1, beq_iff_eq.mpr s2]; rfl
            refine Ev.step (fun k => ?_) (ih (i + 1) (by omega) (by rw [stepsB_succ, h, hstep]; rfl))
            simp only [spec_l17Good.j2]
            rw [if_neg (by simp), if_pos (by omega), if_pos (by omega), hrd2, if_pos s1, if_pos s2, step_n hlt (by omega)]
          · have hstep : stepB l i = false := by rw [hst]; unfold sameB; rw [show ((itAt l (itAt l i).f6.toNat).f1 == (itAt l i).f1) = false from beq_eq_false_iff_ne.mpr s2]; simp
            rw [hfalse hstep]
            refine Ev.step (f := fun _ => some false) (fun k => ?_) (Ev.now _)
            simp only [spec_l17Good.j2]
            rw [if_neg (by simp), if_pos (by omega), if_pos (by omega), hrd2, if_pos s1, if_neg s2]
        · have hstep : stepB l i = false := by rw [hst]; unfold sameB; rw [show ((itAt l (itAt l i).f6.toNat).f6 == (itAt l i).f6) = false from beq_eq_false_iff_ne.mpr s1]; simp
          rw [hfalse hstep]
          refine Ev.step (f := fun _ => some false) (fun k => ?_) (Ev.now _)
          simp only [spec_l17Good.j2]
          rw [if_neg (by simp), if_pos (by omega), if_pos (by omega), hrd2, if_neg s1]
    by_cases ha : aloneB (itAt l i) i = true
    · by_cases h0 : i = 0
      · subst h0
        refine Ev.step (fun k => ?_) (hj2 false ha (fun e => absurd e (by simp)) (fun _ => ?_))
        · simp only [spec_l17Good.l0]
          rw [if_pos (by omega), if_pos (by omega), if_pos (by omega), hrd, hal]
          simp only [Option.bind_some]
          rw [if_pos ha, if_neg (by omega)]
        · unfold stepB
          have : namesOk (itAt l 0).f0 = true := by unfold namesOk; rw [if_pos hr]
          rw [this]; simp
      · have hd' : dirI l 0 = true := by
          rcases hd with hd | hd
          · exact hd
          · omega
        obtain ⟨K, rfl⟩ : ∃ K, i = K + 1 := ⟨i - 1, by omega⟩
        have hp := steps_pre h (by omega) hr hd'
        have hn := next_ev hp (by omega) (by omega) hs0 (itAt l (K + 1)) (hs0 _)
        generalize hv : (namesOk (itAt l (K + 1)).f0 && (dirAt l (K + 1) (aboveB (itAt l (K + 1)).f0).toList && decide (cmpW (itAt l K).f0 (itAt l (K + 1)).f0 < 0))) = v at hn
        have hst : stepB l (K + 1) = (goodItemB l (K + 1) && v) := by
          unfold stepB
          rw [← hv, decide_eq_false (show ¬ (K + 1 = 0) by omega), Bool.false_or, Nat.add_sub_cancel]
          cases namesOk (itAt l (K + 1)).f0 <;> simp
        refine Ev.step (f := fun k => (spec_l17Next.f k (l.take (K + 1)) (itAt l (K + 1)).f0 (itAt l (K + 1)).f1 (itAt l (K + 1)).f2 (itAt l (K + 1)).f3 (itAt l (K + 1)).f4 (itAt l (K + 1)).f5 (itAt l (K + 1)).f6 (itAt l (K + 1)).f7).bind fun t195 => (spec_l17Good.j2 k l l (l.length : Int) ((K + 1 : Nat) : Int) (!t195) (itAt l (K + 1)).f0 (itAt l (K + 1)).f1 (itAt l (K + 1)).f2 (itAt l (K + 1)).f3 (itAt l (K + 1)).f4 (itAt l (K + 1)).f5 (itAt l (K + 1)).f6 (itAt l (K + 1)).f7)) (fun k => ?_) ?_
        · simp only [spec_l17Good.l0]
          rw [if_pos (by omega), if_pos (by omega), if_pos (by omega), hrd, hal]
          simp only [Option.bind_some]
          rw [if_pos ha, if_pos (by omega), if_pos (by omega), Int.toNat_natCast]
        · refine Ev.bind hn (hj2 (!v) ha (fun e => ?_) (fun e => ?_))
          · rw [hst]; cases v <;> simp at e ⊢
          · rw [hst]; cases v <;> simp at e ⊢
    · have ha' : aloneB (itAt l i) i = false := by simpa using ha
      have hstep : stepB l i = false := by
        unfold stepB
        rw [hite, ha', Bool.false_and, Bool.false_and, Bool.and_false]
      rw [hfalse hstep]
      refine Ev.step (f := fun k => spec_l17Good.j2 k l l (l.length : Int) (i : Int) true (itAt l i).f0 (itAt l i).f1 (itAt l i).f2 (itAt l i).f3 (itAt l i).f4 (itAt l i).f5 (itAt l i).f6 (itAt l i).f7) (fun k => ?_) ?_
      · simp only [spec_l17Good.l0]
        rw [if_pos (by omega), if_pos (by omega), if_pos (by omega), hrd, hal]
        simp only [Option.bind_some]
        rw [if_neg ha]
      · refine Ev.step (f := fun _ => some false) (fun k => ?_) (Ev.now _)
        simp only [spec_l17Good.j2, if_true]
theorem l17Good_ev (l : List It) (hs0 : ∀ i, (itAt l i).f0.size < 4294967281) (hs7 : ∀ i, (itAt l i).f7.size < 4294967281) : Ev (fun k => spec_l17Good.f k l) (goodB l) := by
  unfold spec_l17Good.f
  rw [l1In_f]
  simp only [Option.bind_some]
  have hj : ∀ b, b = true → Ev (fun k => spec_l17Good.j0 k l b) false := by
    rintro b rfl
    refine Ev.step (f := fun _ => some false) (fun k => ?_) (Ev.now _)
    simp only [spec_l17Good.j0, if_true]
  by_cases hn : inB 1 40 (l.length : Int) = true
  · have hlen : 1 ≤ l.length ∧ l.length ≤ 40 := by rw [inB_iff] at hn; omega
    have hg : goodB l = ((itAt l 0).f0.toList == [46] && stepsB l l.length) := by
      unfold goodB
      rw [decide_eq_true hlen.1, decide_eq_true hlen.2]; rfl
    have hrd : rd_T74 l 0 = itAt l 0 := rfl
    rw [hg]
    by_cases h0 : (itAt l 0).f0.toList = [46]
    · have h0' : ((itAt l 0).f0.toList == [46]) = true := by simpa using h0
      rw [h0', Bool.true_and]
      by_cases hk : (itAt l 0).f1 = 2
      · refine Ev.congr (f := fun k => spec_l17Good.j0 k l false) (fun k => ?_) ?_
        · rw [if_pos hn, if_pos (by omega), hrd, if_pos h0, if_pos hk]
        · refine Ev.step (fun k => ?_) (good_loop l hlen.2 h0 (Or.inl (by unfold dirI; simpa using hk)) hs0 hs7 l.length 0 (by omega) rfl)
          simp only [spec_l17Good.j0]; rfl
      · refine Ev.congr (f := fun k => spec_l17Good.j0 k l (decide ((l.length : Int) > 1))) (fun k => ?_) ?_
        · rw [if_pos hn, if_pos (by omega), hrd, if_pos h0, if_neg hk]
        · by_cases h1 : l.length = 1
          · rw [decide_eq_false (by omega)]
            refine Ev.step (fun k => ?_) (good_loop l hlen.2 h0 (Or.inr h1) hs0 hs7 l.length 0 (by omega) rfl)
            simp only [spec_l17Good.j0]; rfl
          · have hst : stepB l 1 = false := by
              unfold stepB
              have : dirAt l 1 (aboveB (itAt l 1).f0).toList = false := by
                have hk' : ((itAt l 0).f1 == 2) = false := beq_eq_false_iff_ne.mpr hk
                simp only [dirAt]
                rw [hk']; simp
              rw [this]; simp
            rw [stepsB_false l 1 hst l.length (by omega)]
            exact hj _ (decide_eq_true (by omega))
    · have h0' : ((itAt l 0).f0.toList == [46]) = false := by simpa using h0
      rw [h0', Bool.false_and]
      refine Ev.congr (f := fun k => spec_l17Good.j0 k l true) (fun k => ?_) (hj _ rfl)
      rw [if_pos hn, if_pos (by omega), hrd, if_neg h0]
  · have hg : goodB l = false := by
      unfold goodB
      rw [inB_iff] at hn
      by_cases h1 : 1 ≤ l.length
      · rw [decide_eq_false (show ¬ l.length ≤ 40 by omega), Bool.false_and, Bool.and_false]
      · rw [decide_eq_false h1, Bool.false_and]
    rw [hg]
    refine Ev.congr (f := fun k => spec_l17Good.j0 k l true) (fun k => ?_) (hj _ rfl)
    rw [if_neg hn]

end Go.Proofs.YthhmkbchdiflcaaGreatDoor.Q

/- The changes of two lists whose ways are apart. -/
namespace Go.Proofs.YthhmkbchdiflcaaGreatDoor.Q
open Go.RowKit Go.Proofs.YthhmkbchdiflcaaGreatDoorW.PrintWords Go.Proofs.YthhmkbchdiflcaaGreatDoorW.PrintLast Go.Proofs.YthhmkbchdiflcaaGreatDoorW.PrintMore
attribute [local go_sem] max2_int min2_int max_two min_two max_three min_three max_four min_four   -- for this text's walks alone
set_option linter.unusedVariables false
set_option linter.unusedSimpArgs false

theorem putL_length (l : List Ch) (c : Ch) : (putL l c).length = l.length + 1 := by
  have := cutK_le l c l.length
  unfold putL; simp; omega
def Apart (l : List It) : Prop := ∀ i j, i < l.length → j < l.length → (itAt l i).f0.toList = (itAt l j).f0.toList → i = j
theorem way_none (l : List It) (s : ByteArray) : ∀ k, (∀ i, i < k → (itAt l i).f0.toList ≠ s.toList) → wayMap l k s.data.toList = none
  | 0, _ => rfl
  | k + 1, h => by
    unfold wayMap
    rw [if_neg (fun e => h k (by omega) (by rw [ByteArray.toList_eq, ByteArray.toList_eq]; exact e))]
    exact way_none l s k (fun i hi => h i (by omega))
theorem way_at {l : List It} (ha : Apart l) (s : ByteArray) (i : Nat) (hl : i < l.length) (hs : (itAt l i).f0.toList = s.toList) : ∀ k, i < k → k ≤ l.length → wayMap l k s.data.toList = some (bareI (itAt l i))
  | k + 1, h, hk => by
    unfold wayMap
    by_cases hik : i = k
    · subst hik
      rw [if_pos (by rw [ByteArray.toList_eq, ByteArray.toList_eq] at hs; exact hs)]
    · rw [if_neg (fun e => hik (ha i k hl (by omega) (by rw [hs, ByteArray.toList_eq, ByteArray.toList_eq]; exact e.symm)))]
      exact way_at ha s i hl hs k (by omega) (by omega)
theorem apart_of {l : List It} (h : goodB l = true) (hp : ∀ {i j}, i < l.length → j < l.length → nmA l i = nmA l j → i = j) : Apart l := fun i j hi hj e => hp hi hj (by
  have e' : (itAt l i).f0 = (itAt l j).f0 := by rw [ByteArray.toList_eq, ByteArray.toList_eq] at e; exact data_inj e
  unfold nmA; rw [e'])
theorem good_apart {l : List It} (h : goodB l = true) : Apart l := by
  have h' := h
  simp only [goodB, Bool.and_eq_true, decide_eq_true_eq, beq_iff_eq] at h'
  obtain ⟨h1, h2, h3, h4⟩ := h'
  by_cases hd : dirI l 0 = true
  · have hp := steps_pre h4 h1 h3 hd
    exact apart_of h (fun hi hj e => hp.one hi hj e)
  · intro i j hi hj _
    by_cases hl : l.length = 1
    · omega
    · exfalso; apply hd
      have := steps_mem h4 (show 1 < l.length by omega)
      unfold stepB at this
      rw [Bool.and_eq_true, Bool.and_eq_true] at this
      have h5 := this.2.2
      rw [decide_eq_false (by omega), Bool.false_or, Bool.and_eq_true] at h5
      have h6 := h5.1
      unfold dirAt at h6
      split at h6
      · exact h6
      · cases h6
theorem good_le {l : List It} (h : goodB l = true) : l.length ≤ 40 := by
  simp only [goodB, Bool.and_eq_true, decide_eq_true_eq] at h
  exact h.2.1
theorem take_zip (l : List It) {k : ByteArray} {x : It} (h : wayG l k.data.toList = some x) : ∃ i, i < l.length ∧ (itAt l i).f0 = k ∧ x = bareI (itAt l i) := by
  unfold wayG at h
  generalize l.length = n at h ⊢
  induction n with
  | zero => cases h
  | succ n ih =>
    unfold wayMap at h
    split at h
    · rename_i hs
      exact ⟨n, by omega, data_inj hs, (Option.some.inj h).symm⟩
    · obtain ⟨i, hi, h1, h2⟩ := ih h
      exact ⟨i, by omega, h1, h2⟩
theorem mem_side {l : List It} (ha : Apart l) (step : ByteArray → It → Option Ch) (c : Ch) : c ∈ l.filterMap (fun x => step x.f0 (bareI x)) ↔ ∃ (k : ByteArray) (x : It), wayG l k.data.toList = some x ∧ step k x = some c := by
  rw [List.mem_filterMap]
  constructor
  · rintro ⟨x, hx, h⟩
    obtain ⟨i, hi, rfl⟩ := List.getElem_of_mem hx
    have e : itAt l i = l[i] := rdI l i hi
    exact ⟨l[i].f0, bareI l[i], by rw [← e]; exact way_at ha _ i hi rfl l.length hi (Nat.le_refl _), h⟩
  · rintro ⟨k, x, h1, h2⟩
    obtain ⟨i, hi, rfl, rfl⟩ := take_zip l h1
    have e : itAt l i = l[i] := rdI l i hi
    exact ⟨l[i], List.getElem_mem hi, by rw [← e]; exact h2⟩
theorem side_nodup {l : List It} (ha : Apart l) (step : ByteArray → It → Option Ch) (hw : ∀ {k x c}, step k x = some c → c.f1 = k) : ((l.filterMap (fun x => step x.f0 (bareI x))).map (·.f1)).Nodup := by
  have hp : l.Pairwise (fun x y => x.f0 ≠ y.f0) := by
    rw [List.pairwise_iff_getElem]
    intro i j hi hj hij e
    have e1 : itAt l i = l[i] := rdI l i hi
    have e2 : itAt l j = l[j] := rdI l j hj
    have := ha i j hi hj (by rw [e1, e2, e])
    omega
  clear ha
  induction l with
  | nil => simp
  | cons x r ih =>
    rw [List.pairwise_cons] at hp
    rw [List.filterMap_cons]
    split
    · exact ih hp.2
    · rename_i c hc
      rw [List.map_cons, List.nodup_cons]
      refine ⟨?_, ih hp.2⟩
      intro hm
      obtain ⟨d, hd, e⟩ := List.mem_map.mp hm
      obtain ⟨y, hy, h2⟩ := List.mem_filterMap.mp hd
      rw [hw h2, hw hc] at e
      exact hp.1 y hy e.symm
theorem stepA_w {gb : List UInt8 → Option It} {k : ByteArray} {x : It} {c : Ch} (h : stepA gb k x = some c) : c.f1 = k := by
  unfold stepA at h
  split at h
  · rw [← Option.some.inj h]; rfl
  · split at h
    · cases h
    · rw [← Option.some.inj h]; rfl
theorem stepN_w {ga : List UInt8 → Option It} {k : ByteArray} {x : It} {c : Ch} (h : stepN ga k x = some c) : c.f1 = k ∧ ga k.data.toList = none := by
  unfold stepN at h
  split at h
  · rename_i hg; rw [← Option.some.inj h]; exact ⟨rfl, hg⟩
  · cases h
theorem diffL_of {a b : List It} (ha : Apart a) (hb : Apart b) {L : List Ch} (hs : L.Pairwise ltW)
    (hm : ∀ c, c ∈ L ↔ (∃ (k : ByteArray) (x : It), wayG a k.data.toList = some x ∧ stepA (wayG b) k x = some c) ∨ ∃ (k : ByteArray) (x : It), wayG b k.data.toList = some x ∧ stepN (wayG a) k x = some c) : L = diffL a b := by
  have hn : ((changesOf a b).map (·.f1)).Nodup := by
    unfold changesOf
    rw [List.map_append, List.nodup_append]
    refine ⟨side_nodup ha _ stepA_w, side_nodup hb _ (fun h => (stepN_w h).1), fun s h1 t h2 e => ?_⟩
    obtain ⟨c, hc, rfl⟩ := List.mem_map.mp h1
    obtain ⟨d, hd, rfl⟩ := List.mem_map.mp h2
    obtain ⟨k, x, h3, h4⟩ := (mem_side ha (stepA (wayG b)) c).mp hc
    obtain ⟨k2, x2, _, h5⟩ := (mem_side hb (stepN (wayG a)) d).mp hd
    have h6 := stepN_w h5
    rw [stepA_w h4, h6.1] at e
    subst e
    rw [h6.2] at h3; cases h3
  obtain ⟨h2, h3⟩ := fold_put (changesOf a b) [] .nil hn (by simp)
  refine eq_of_sorted ltW_irr (fun _ _ => ltW_asym) hs h2 (fun c => ?_)
  rw [hm, show diffL a b = (changesOf a b).foldl putL [] from rfl, h3]
  unfold changesOf
  rw [List.mem_append, mem_side ha, mem_side hb]
  simp

end Go.Proofs.YthhmkbchdiflcaaGreatDoor.Q

/- impl.DiffItems: what it answers. -/
namespace Go.Proofs.YthhmkbchdiflcaaGreatDoor.Q
open Go.RowKit Go.Proofs.YthhmkbchdiflcaaGreatDoorW.PrintWords Go.Proofs.YthhmkbchdiflcaaGreatDoorW.PrintLast Go.Proofs.YthhmkbchdiflcaaGreatDoorW.PrintMore
attribute [local go_sem] max2_int min2_int max_two min_two max_three min_three max_four min_four   -- for this text's walks alone
set_option linter.unusedVariables false
set_option linter.unusedSimpArgs false

theorem lone_call (A : Option Addr) (c0 : Nat) (l : List It) (w : World) (hr : Kd.C k74 w A l.length l) (hc : l.length ≤ c0) (hs : ∀ i, (itAt l i).f0.size < 4294967281) (hn : l.length ≤ 1759218604391) :
    Calls Tryz.prog 79 #[.slice A l.length c0] w fun e w' => e = .returned (.bool (loneB l)) ∧ Below w.heap.size w w' := by
  obtain ⟨k, hk⟩ := (areLone_ev l hn hs).rounds
  exact impl_areLone.calls k A c0 l (loneB l) w hr hc hk
theorem diff_walk (A B : Option Addr) (c0 d0 : Nat) (a b : List It) (w : World) (hra : Kd.C k74 w A a.length a) (hrb : Kd.C k74 w B b.length b) (hca : a.length ≤ c0) (hcb : b.length ≤ d0) (hsa : ∀ i, (itAt a i).f0.size < 4294967281) (hsb : ∀ i, (itAt b i).f0.size < 4294967281)
    (hna : a.length ≤ 1759218604391) (hnb : b.length ≤ 1759218604391) :
    Calls Tryz.prog 20 #[.slice A a.length c0, .slice B b.length d0] w fun e w' => ∃ v, e = .returned (.tuple #[v, .bool (diffAns a b).2]) ∧ w'.ownsRow w.heap.size 104 18 v (diffAns a b).1.length (encChs (diffAns a b).1) ∧ Below w.heap.size w w' := by
  have h0 := lone_call A c0 a w hra hca hsa hna
  have h1 : ∀ W, Below w.heap.size w W → Calls Tryz.prog 79 #[.slice B b.length d0] W fun e w' => e = .returned (.bool (loneB b)) ∧ Below W.heap.size W w' := fun W hW => lone_call B d0 b W (Kd.C_below hrb hW) hcb hsb hnb
  have hnil : ∀ w' : World, w'.ownsRow w.heap.size 104 18 (.slice none 0 0) ([] : List Ch).length (encChs []) := fun _ => ⟨rfl, .inl ⟨rfl, rfl⟩⟩
  cases ea : loneB a with
  | false =>
    rw [ea] at h0
    rw [show diffAns a b = ([], false) from by unfold diffAns; rw [ea]; simp]
    refine (diff_bad1 A B a.length c0 b.length d0 w h0).mono ?_
    rintro e w' ⟨rfl, hd⟩
    exact ⟨_, rfl, hnil w', hd⟩
  | true =>
    rw [ea] at h0
    cases eb : loneB b with
    | false =>
      rw [eb] at h1
      rw [show diffAns a b = ([], false) from by unfold diffAns; rw [eb]; simp]
      refine (diff_bad2 A B a.length c0 b.length d0 w h0 h1).mono ?_
      rintro e w' ⟨rfl, hd⟩
      exact ⟨_, rfl, hnil w', hd⟩
    | true =>
      rw [eb] at h1
      rw [show diffAns a b = (diffL a b, true) from by unfold diffAns; rw [ea, eb]; simp]
      have ga : goodB a = true := by unfold loneB at ea; simp at ea; exact ea.2
      have gb : goodB b = true := by unfold loneB at eb; simp at eb; exact eb.2
      refine (diff_main A B c0 d0 a b w hra hrb hsa hsb (good_le ga) (good_le gb) h0 h1).mono ?_
      rintro e w' ⟨v, L, rfl, hs, hm, hown, hd⟩
      have eL : L = diffL a b := diffL_of (good_apart ga) (good_apart gb) hs (fun c => by
        rw [hm c]; unfold AtKeys; simp)
      rw [eL] at hown
      exact ⟨v, rfl, hown, hd⟩

end Go.Proofs.YthhmkbchdiflcaaGreatDoor.Q

/- spec.DiffItems: its answer. -/
namespace Go.Proofs.YthhmkbchdiflcaaGreatDoor.Q
open Go.RowKit Go.Proofs.YthhmkbchdiflcaaGreatDoorW.PrintWords Go.Proofs.YthhmkbchdiflcaaGreatDoorW.PrintLast Go.Proofs.YthhmkbchdiflcaaGreatDoorW.PrintMore
attribute [local go_sem] max2_int min2_int max_two min_two max_three min_three max_four min_four   -- for this text's walks alone
set_option linter.unusedVariables false
set_option linter.unusedSimpArgs false

theorem lone_loop (l : List It) (hl : l.length ≤ 40) (d : Nat) : ∀ i : Nat, i + d = l.length → Ev (fun k => spec_l18Lone.l0 k l (l.length : Int) (i : Int)) ((List.range' i d).all (fun i => (itAt l i).f6 == (i : Int))) := by
  induction d with
  | zero => intro i hi; exact Ev.step (f := fun _ => some true) (fun k => by simp only [spec_l18Lone.l0]; rw [if_neg (by omega)]) (Ev.now _)
  | succ d ih =>
    intro i hi
    have hw : wrap64 ((i : Int) + 1) = ((i + 1 : Nat) : Int) := by unfold wrap64; omega
    have hr : rd_T74 l (i : Int) = itAt l i := rfl
    have e : ∀ k, spec_l18Lone.l0 (k + 1) l (l.length : Int) (i : Int) = if (itAt l i).f6 = (i : Int) then spec_l18Lone.l0 k l (l.length : Int) ((i + 1 : Nat) : Int) else some false := fun k => by
      simp only [spec_l18Lone.l0]; rw [if_pos (by omega), if_pos (by omega), if_pos (by omega), hr, hw]
    rw [List.range'_succ, List.all_cons]
    by_cases h : (itAt l i).f6 = (i : Int)
    · rw [show ((itAt l i).f6 == (i : Int)) = true from by simpa using h, Bool.true_and]
      exact Ev.step (fun k => by rw [e k, if_pos h]) (ih (i + 1) (by omega))
    · rw [show ((itAt l i).f6 == (i : Int)) = false from by simpa using h, Bool.false_and]
      exact Ev.step (f := fun _ => some false) (fun k => by rw [e k, if_neg h]) (Ev.now _)
theorem lone_ev (l : List It) (hs0 : ∀ i, (itAt l i).f0.size < 4294967281) (hs7 : ∀ i, (itAt l i).f7.size < 4294967281) : Ev (fun k => spec_l18Lone.f k l) (loneB l) := by
  unfold spec_l18Lone.f loneB
  refine Ev.bind (l17Good_ev l hs0 hs7) ?_
  cases h : goodB l with
  | false => simp only [Bool.and_false, Bool.false_eq_true, if_false]; exact Ev.now _
  | true =>
    simp only [Bool.and_true, if_true]
    rw [List.range_eq_range']
    exact lone_loop l (good_le h) l.length 0 (by omega)
theorem at_loop (l : List It) (hl : l.length ≤ 40) (s : ByteArray) (r : Int) (d : Nat) : ∀ i : Nat, i + d = l.length →
    (∀ j, i ≤ j → j < l.length → (itAt l j).f0.toList = s.toList → (∀ m, i ≤ m → m < j → (itAt l m).f0.toList ≠ s.toList) → r = (j : Int)) →
    ((∀ j, i ≤ j → j < l.length → (itAt l j).f0.toList ≠ s.toList) → r = -1) → Ev (fun k => spec_l18At.l0 k s l (l.length : Int) (i : Int)) r := by
  induction d with
  | zero => intro i hi _ h; exact Ev.step (f := fun _ => some r) (fun k => by simp only [spec_l18At.l0]; rw [if_neg (by omega), h (fun j _ _ => by omega)]) (Ev.now _)
  | succ d ih =>
    intro i hi h1 h2
    have hw : wrap64 ((i : Int) + 1) = ((i + 1 : Nat) : Int) := by unfold wrap64; omega
    have hr : rd_T74 l (i : Int) = itAt l i := rfl
    have e : ∀ k, spec_l18At.l0 (k + 1) s l (l.length : Int) (i : Int) = if (itAt l i).f0.toList = s.toList then some (i : Int) else spec_l18At.l0 k s l (l.length : Int) ((i + 1 : Nat) : Int) := fun k => by
      simp only [spec_l18At.l0]; rw [if_pos (by omega), if_pos (by omega), if_pos (by omega), hr, hw]
    by_cases h : (itAt l i).f0.toList = s.toList
    · exact Ev.step (f := fun _ => some r) (fun k => by rw [e k, if_pos h, h1 i (Nat.le_refl _) (by omega) h (fun m _ _ => by omega)]) (Ev.now _)
    · refine Ev.step (fun k => by rw [e k, if_neg h]) (ih (i + 1) (by omega) (fun j hj hjl hjs hm => h1 j (by omega) hjl hjs (fun m hm1 hm2 => ?_)) (fun hn => h2 (fun j hj hjl => ?_)))
      · by_cases hmi : m = i
        · subst hmi; exact h
        · exact hm m (by omega) hm2
      · by_cases hji : j = i
        · subst hji; exact h
        · exact hn j (by omega) hjl
theorem at_none (l : List It) (hl : l.length ≤ 40) (s : ByteArray) (h : ∀ j, j < l.length → (itAt l j).f0.toList ≠ s.toList) : Ev (fun k => spec_l18At.f k l s) (-1) :=
  at_loop l hl s (-1) l.length 0 (by omega) (fun j _ hj e _ => absurd e (h j hj)) (fun _ => rfl)
theorem at_some (l : List It) (hl : l.length ≤ 40) (s : ByteArray) (i : Nat) (hi : i < l.length) (h : ∀ j, j < l.length → ((itAt l j).f0.toList = s.toList ↔ j = i)) : Ev (fun k => spec_l18At.f k l s) (i : Int) :=
  at_loop l hl s i l.length 0 (by omega) (fun j _ hj e _ => by rw [(h j hj).mp e]) (fun hn => absurd ((h i hi).mpr rfl) (hn i (Nat.zero_le _) hi))
theorem put_ev (l : List Ch) (c : Ch) (hl : l.length ≤ 100) : Ev (fun _ => spec_l18Put.f l c.f0 c.f1 c.f2.f0 c.f2.f1 c.f2.f2 c.f2.f3 c.f2.f4 c.f2.f5 c.f2.f6 c.f2.f7 c.f3.f0 c.f3.f1 c.f3.f2 c.f3.f3 c.f3.f4 c.f3.f5 c.f3.f6 c.f3.f7) (putL l c) := by
  have : spec_l18Put.f l c.f0 c.f1 c.f2.f0 c.f2.f1 c.f2.f2 c.f2.f3 c.f2.f4 c.f2.f5 c.f2.f6 c.f2.f7 c.f3.f0 c.f3.f1 c.f3.f2 c.f3.f3 c.f3.f4 c.f3.f5 c.f3.f6 c.f3.f7 = some (putL l c) := if_pos (by omega)
  rw [this]; exact Ev.now _
theorem at_ev {l : List It} (ha : Apart l) (hl : l.length ≤ 40) (s : ByteArray) : ((∃ m, m < l.length ∧ Ev (fun k => spec_l18At.f k l s) (m : Int) ∧ wayG l s.data.toList = some (bareI (itAt l m))) ∨ (Ev (fun k => spec_l18At.f k l s) (-1) ∧ wayG l s.data.toList = none)) := by
  by_cases h : ∃ m, m < l.length ∧ (itAt l m).f0.toList = s.toList
  · obtain ⟨m, hm, hs⟩ := h
    exact .inl ⟨m, hm, at_some l hl s m hm (fun j hj => ⟨fun e => ha j m hj hm (e.trans hs.symm), fun e => by rw [e]; exact hs⟩), way_at ha s m hm hs l.length hm (Nat.le_refl _)⟩
  · have h' : ∀ j, j < l.length → (itAt l j).f0.toList ≠ s.toList := fun j hj e => h ⟨j, hj, e⟩
    exact .inr ⟨at_none l hl s h', way_none l s l.length h'⟩
theorem l1_ev (a b : List It) (ha : Apart a) (hla : a.length ≤ 40) (hlb : b.length ≤ 40) (d : Nat) : ∀ (i : Nat) (out : List Ch), i + d = b.length → out.length ≤ 40 + i →
    Ev (fun k => spec_DiffItems.l1 k a out b (b.length : Int) (i : Int)) (((b.drop i).filterMap (fun y => stepN (wayG a) y.f0 (bareI y))).foldl putL out, true) := by
  induction d with
  | zero =>
    intro i out hi _
    refine Ev.step (f := fun _ => some _) (fun k => ?_) (Ev.now _)
    simp only [spec_DiffItems.l1]
    rw [if_neg (by omega), List.drop_eq_nil_of_le (by omega)]; rfl
  | succ d ih =>
    intro i out hi hout
    have hw : wrap64 ((i : Int) + 1) = ((i + 1 : Nat) : Int) := by unfold wrap64; omega
    have hr : rd_T74 b (i : Int) = itAt b i := rfl
    have hdrop : b.drop i = itAt b i :: b.drop (i + 1) := by
      rw [List.drop_eq_getElem_cons (by omega : i < b.length), show itAt b i = b[i] from rdI b i (by omega)]
    rw [hdrop, List.filterMap_cons]
    refine Ev.step (fun k => by simp only [spec_DiffItems.l1]; rw [if_pos (by omega), if_pos (by omega), if_pos (by omega), hr, hw]) ?_
    rcases at_ev ha hla (itAt b i).f0 with ⟨m, hm, hev, hway⟩ | ⟨hev, hway⟩
    · refine Ev.bind hev ?_
      rw [show stepN (wayG a) (itAt b i).f0 (bareI (itAt b i)) = none from by unfold stepN; rw [hway]]
      refine Ev.congr (fun k => by rw [if_neg (by omega)]) (ih (i + 1) out (by omega) (by omega))
    · refine Ev.bind hev ?_
      rw [show stepN (wayG a) (itAt b i).f0 (bareI (itAt b i)) = some (mkCh 1 (itAt b i).f0 zI (bareI (itAt b i))) from by unfold stepN; rw [hway]]
      refine Ev.congr (fun k => by rw [if_pos (by omega)]; rfl) (Ev.bind (put_ev out (mkCh 1 (itAt b i).f0 zI (bareI (itAt b i))) (by omega)) (ih (i + 1) (putL out (mkCh 1 (itAt b i).f0 zI (bareI (itAt b i)))) (by omega) (by rw [putL_length]; omega)))
theorem neq_bits (x y : It) : (!(x.f0.toList == y.f0.toList) || (!(x.f1 == y.f1) || (!(x.f2 == y.f2) || (!(x.f3 == y.f3) || (!(x.f4 == y.f4) || (!(x.f5 == y.f5) || (!(x.f6 == y.f6) || (!(x.f7.toList == y.f7.toList))))))))) = true ↔ x ≠ y := by
  obtain ⟨x0, x1, x2, x3, x4, x5, x6, x7⟩ := x
  obtain ⟨y0, y1, y2, y3, y4, y5, y6, y7⟩ := y
  have inj : ∀ {a b : ByteArray}, a.toList = b.toList → a = b := fun {a b} h => by
    rw [ByteArray.toList_eq, ByteArray.toList_eq] at h; exact data_inj h
  constructor
  · intro h e
    injection e with e0 e1 e2 e3 e4 e5 e6 e7
    subst e0 e1 e2 e3 e4 e5 e6 e7
    simp at h
  · intro h
    apply Classical.byContradiction
    intro hn
    simp at hn
    obtain ⟨h0, h1, h2, h3, h4, h5, h6, h7⟩ := hn
    have e0 := inj h0
    have e7 := inj h7
    subst e0 e7 h1 h2 h3 h4 h5 h6
    exact h rfl
theorem l0_ev (a b : List It) (ha : Apart a) (hb : Apart b) (hla : a.length ≤ 40) (hlb : b.length ≤ 40) (d : Nat) : ∀ (i : Nat) (out : List Ch), i + d = a.length → out.length ≤ i →
    Ev (fun k => spec_DiffItems.l0 k a b out a (a.length : Int) (i : Int)) (((a.drop i).filterMap (fun x => stepA (wayG b) x.f0 (bareI x)) ++ b.filterMap (fun y => stepN (wayG a) y.f0 (bareI y))).foldl putL out, true) := by
  induction d with
  | zero =>
    intro i out hi hout
    refine Ev.step (fun k => by simp only [spec_DiffItems.l0]; rw [if_neg (by omega)]) ?_
    rw [List.drop_eq_nil_of_le (by omega : a.length ≤ i)]
    exact l1_ev a b ha hla hlb b.length 0 out (by omega) (by omega)
  | succ d ih =>
    intro i out hi hout
    have hw : wrap64 ((i : Int) + 1) = ((i + 1 : Nat) : Int) := by unfold wrap64; omega
    have hr : rd_T74 a (i : Int) = itAt a i := rfl
    have hdrop : a.drop i = itAt a i :: a.drop (i + 1) := by
      rw [List.drop_eq_getElem_cons (by omega : i < a.length), show itAt a i = a[i] from rdI a i (by omega)]
    rw [hdrop, List.filterMap_cons]
    refine Ev.step (fun k => by simp only [spec_DiffItems.l0]; rw [if_pos (by omega), if_pos (by omega), if_pos (by omega), hr, hw]) ?_
    rcases at_ev hb hlb (itAt a i).f0 with ⟨m, hm, hev, hway⟩ | ⟨hev, hway⟩
    · refine Ev.bind hev ?_
      have hrm : rd_T74 b (m : Int) = itAt b m := rfl
      by_cases hxy : bareI (itAt a i) = bareI (itAt b m)
      · rw [show stepA (wayG b) (itAt a i).f0 (bareI (itAt a i)) = none from by unfold stepA; rw [hway]; exact if_pos hxy]
        refine Ev.congr (fun k => by
          rw [if_neg (by omega)]; simp only [spec_l18Bare.f, Option.bind_some]
          rw [if_pos (by omega), if_pos (by omega), hrm]; exact if_neg (fun h => (neq_bits (bareI (itAt a i)) (bareI (itAt b m))).mp h hxy)) (ih (i + 1) out (by omega) (by omega))
      · rw [show stepA (wayG b) (itAt a i).f0 (bareI (itAt a i)) = some (mkCh 3 (itAt a i).f0 (bareI (itAt a i)) (bareI (itAt b m))) from by unfold stepA; rw [hway]; exact if_neg hxy]
        refine Ev.congr (fun k => by
          rw [if_neg (by omega)]; simp only [spec_l18Bare.f, Option.bind_some]
          rw [if_pos (by omega), if_pos (by omega), hrm]; exact if_pos ((neq_bits (bareI (itAt a i)) (bareI (itAt b m))).mpr hxy)) (Ev.bind (put_ev out (mkCh 3 (itAt a i).f0 (bareI (itAt a i)) (bareI (itAt b m))) (by omega)) (ih (i + 1) (putL out (mkCh 3 (itAt a i).f0 (bareI (itAt a i)) (bareI (itAt b m)))) (by omega) (by rw [putL_length]; omega)))
    · refine Ev.bind hev ?_
      rw [show stepA (wayG b) (itAt a i).f0 (bareI (itAt a i)) = some (mkCh 2 (itAt a i).f0 (bareI (itAt a i)) zI) from by unfold stepA; rw [hway]]
      refine Ev.congr (fun k => by rw [if_pos (by omega)]; rfl) (Ev.bind (put_ev out (mkCh 2 (itAt a i).f0 (bareI (itAt a i)) zI) (by omega)) (ih (i + 1) (putL out (mkCh 2 (itAt a i).f0 (bareI (itAt a i)) zI)) (by omega) (by rw [putL_length]; omega)))
theorem diff_ev (a b : List It) (hsa : ∀ i, (itAt a i).f0.size < 4294967281) (hsa7 : ∀ i, (itAt a i).f7.size < 4294967281) (hsb : ∀ i, (itAt b i).f0.size < 4294967281) (hsb7 : ∀ i, (itAt b i).f7.size < 4294967281) : Ev (fun k => spec_DiffItems.f k a b) (diffAns a b) := by
  unfold spec_DiffItems.f
  refine Ev.bind (lone_ev a hsa hsa7) ?_
  cases h1 : loneB a with
  | false =>
    rw [show diffAns a b = ([], false) from by unfold diffAns; rw [h1]; simp]
    exact Ev.step (f := fun _ => some _) (fun k => by simp [spec_DiffItems.j0]) (Ev.now _)
  | true =>
    simp only [if_true]
    refine Ev.bind (lone_ev b hsb hsb7) ?_
    cases h2 : loneB b with
    | false =>
      rw [show diffAns a b = ([], false) from by unfold diffAns; rw [h2]; simp]
      exact Ev.step (f := fun _ => some _) (fun k => by simp [spec_DiffItems.j0]) (Ev.now _)
    | true =>
      rw [show diffAns a b = (diffL a b, true) from by unfold diffAns; rw [h1, h2]; simp]
      have ga : goodB a = true := by unfold loneB at h1; simp at h1; exact h1.2
      have gb : goodB b = true := by unfold loneB at h2; simp at h2; exact h2.2
      refine Ev.step (fun k => by simp only [spec_DiffItems.j0]; rw [if_neg (by simp)]) ?_
      exact l0_ev a b (good_apart ga) (good_apart gb) (good_le ga) (good_le gb) a.length 0 [] (by omega) (by simp)

end Go.Proofs.YthhmkbchdiflcaaGreatDoor.Q

/- What the laws over items ask beside the two functions: copies, sizes, equality. -/
namespace Go.Proofs.YthhmkbchdiflcaaGreatDoor.Q
open Go.RowKit Go.Proofs.YthhmkbchdiflcaaGreatDoorW.PrintWords Go.Proofs.YthhmkbchdiflcaaGreatDoorW.PrintLast Go.Proofs.YthhmkbchdiflcaaGreatDoorW.PrintMore
attribute [local go_sem] max2_int min2_int max_two min_two max_three min_three max_four min_four   -- for this text's walks alone
set_option linter.unusedVariables false
set_option linter.unusedSimpArgs false

theorem step_i {i n : Nat} (h : i < n) (hn : n ≤ 1759218604391) : wrap64 ((i : Int) + 1) = ((i + 1 : Nat) : Int) := by
  unfold wrap64; omega
abbrev Li := S73
theorem rdLi (xs : List Li) (i : Nat) (h : i < xs.length) : rd_T73 xs (i : Int) = xs[i] := by
  unfold rd_T73; simp [List.getD, h]
def conv (x : Li) : It := ⟨x.f0, x.f1, x.f2, x.f3, x.f4, x.f5, x.f6, x.f7⟩
theorem toItemS_loop (l0 : List Li) (hl : l0.length ≤ 1759218604391) (d : Nat) : ∀ (i : Nat) (acc : List It), i + d = l0.length → acc.length = l0.length →
    Ev (fun k => laws_toItemS.l0 k l0 acc (i : Int)) (acc.take i ++ (l0.drop i).map conv) := by
  induction d with
  | zero =>
    intro i acc hi ha
    refine Ev.step (f := fun _ => some acc) (fun k => ?_) ?_
    · simp only [laws_toItemS.l0]; rw [if_neg (by omega)]
    · have : acc.take i ++ (l0.drop i).map conv = acc := by
        rw [List.drop_of_length_le (by omega), List.take_of_length_le (by omega)]; simp
      rw [this]; exact Ev.now acc
  | succ d ih =>
    intro i acc hi ha
    have hlt : i < l0.length := by omega
    have := ih (i + 1) (acc.set i (conv l0[i])) (by omega) (by simpa using ha)
    refine Ev.step (f := fun k => laws_toItemS.l0 k l0 (acc.set i (conv l0[i])) ((i + 1 : Nat) : Int)) (fun k => ?_) ?_
    · simp only [laws_toItemS.l0]
      rw [if_pos (by omega), if_pos (by omega)]
      simp only [laws_toItem.f, Option.bind_some]
      rw [if_pos (by omega), step_i hlt hl, rdLi _ _ hlt]; rfl
    · have e : (acc.set i (conv l0[i])).take (i + 1) ++ (l0.drop (i + 1)).map conv = acc.take i ++ (l0.drop i).map conv := by
        rw [List.drop_eq_getElem_cons hlt, List.map_cons, List.take_succ_eq_append_getElem (by simp; omega), List.take_set_of_le (by omega), List.getElem_set_self, List.append_assoc]; rfl
      rw [← e]; exact this
theorem toItemS_ev (l0 : List Li) (hl : l0.length ≤ 1759218604391) : Ev (fun k => laws_toItemS.f k l0) (l0.map conv) := by
  refine Ev.congr (f := fun k => laws_toItemS.l0 k l0 (List.replicate l0.length z74) ((0 : Nat) : Int)) (fun k => ?_) ?_
  · simp only [laws_toItemS.f]
    rw [if_pos (by omega), if_pos (by omega)]; rfl
  · simpa using toItemS_loop l0 hl l0.length 0 (List.replicate l0.length z74) (by omega) (by simp)
theorem eqItem_self (a : It) : laws_eqItem.f a.f0 a.f1 a.f2 a.f3 a.f4 a.f5 a.f6 a.f7 a.f0 a.f1 a.f2 a.f3 a.f4 a.f5 a.f6 a.f7 = some true := by
  unfold laws_eqItem.f; simp
theorem eqItemS_loop (l : List It) (hl : l.length ≤ 1759218604391) (d : Nat) : ∀ i : Nat, i + d = l.length → Ev (fun k => laws_eqItemS.l0 k l l (i : Int)) true := by
  induction d with
  | zero =>
    intro i hi
    refine Ev.step (f := fun _ => some true) (fun k => ?_) (Ev.now true)
    simp only [laws_eqItemS.l0]; rw [if_neg (by omega)]
  | succ d ih =>
    intro i hi
    have hlt : i < l.length := by omega
    refine Ev.step (f := fun k => laws_eqItemS.l0 k l l ((i + 1 : Nat) : Int)) (fun k => ?_) (ih (i + 1) (by omega))
    simp only [laws_eqItemS.l0]
    rw [if_pos (by omega), if_pos (by omega), if_pos (by omega), rdI _ _ hlt, eqItem_self, step_i hlt hl]; simp only [Option.bind_some, if_true]
theorem eqItemS_ev (l : List It) (hl : l.length ≤ 1759218604391) : Ev (fun k => laws_eqItemS.f k l l) true := by
  refine Ev.congr (f := fun k => laws_eqItemS.l0 k l l ((0 : Nat) : Int)) (fun k => ?_) (eqItemS_loop l hl l.length 0 (by omega))
  simp only [laws_eqItemS.f, if_true]; rfl
theorem szItem_ev (x : Li) (a : Int) (h0 : x.f0.size ≤ maxLen) (h7 : x.f7.size ≤ maxLen) (ha : 0 ≤ a) (ha2 : a ≤ 1048576) :
    ∃ r, laws_szItem.f x.f0 x.f1 x.f2 x.f3 x.f4 x.f5 x.f6 x.f7 a = some r ∧ r ≤ 1048576 ∧ (0 ≤ r → x.f0.size ≤ 1048576 ∧ x.f7.size ≤ 1048576) := by
  unfold laws_szItem.f wrap64
  unfold maxLen at h0 h7
  split
  · exact ⟨_, rfl, by omega, by omega⟩
  · split
    · exact ⟨_, rfl, by omega, by omega⟩
    · exact ⟨_, rfl, by omega, by omega⟩
theorem szItemS_loop (l : List Li) (hl : l.length ≤ 1759218604391) (hs : ∀ x ∈ l, x.f0.size ≤ maxLen ∧ x.f7.size ≤ maxLen) (d : Nat) : ∀ (i : Nat) (a : Int), i + d = l.length → 0 ≤ a → a ≤ 1048576 →
    ∃ r, Ev (fun k => laws_szItemS.l0 k l a (i : Int)) r ∧ r ≤ 1048576 ∧ (0 ≤ r → ∀ x ∈ l.drop i, x.f0.size ≤ 1048576 ∧ x.f7.size ≤ 1048576) := by
  induction d with
  | zero =>
    intro i a hi h0 h1
    refine ⟨a, Ev.step (f := fun _ => some a) (fun k => ?_) (Ev.now a), h1, fun _ => ?_⟩
    · simp only [laws_szItemS.l0]; rw [if_neg (by omega)]
    · rw [List.drop_of_length_le (by omega)]; simp
  | succ d ih =>
    intro i a hi h0 h1
    have hlt : i < l.length := by omega
    obtain ⟨hs0, hs7⟩ := hs l[i] (List.getElem_mem hlt)
    obtain ⟨r, hr, hr1, hr2⟩ := szItem_ev l[i] a hs0 hs7 h0 h1
    have e : ∀ k, laws_szItemS.l0 (k + 1) l a (i : Int) = if r < 0 then some (-1) else laws_szItemS.l0 k l r ((i + 1 : Nat) : Int) := fun k => by
      simp only [laws_szItemS.l0]
      rw [if_pos (by omega), if_pos (by omega), rdLi _ _ hlt, hr, step_i hlt hl]; rfl
    by_cases hc : r < 0
    · exact ⟨-1, Ev.step (f := fun _ => some (-1)) (fun k => by rw [e k, if_pos hc]) (Ev.now _), by omega, by omega⟩
    · obtain ⟨q, hq, hq1, hq2⟩ := ih (i + 1) r (by omega) (by omega) hr1
      refine ⟨q, Ev.step (f := fun k => laws_szItemS.l0 k l r ((i + 1 : Nat) : Int)) (fun k => by rw [e k, if_neg hc]) hq, hq1, fun h => ?_⟩
      rw [List.drop_eq_getElem_cons hlt]
      intro x hx
      rcases List.mem_cons.mp hx with rfl | hx
      · exact hr2 (by omega)
      · exact hq2 h x hx
theorem szItemS_ev (l : List Li) (hl : l.length ≤ maxLen) (hs : ∀ x ∈ l, x.f0.size ≤ maxLen ∧ x.f7.size ≤ maxLen) (a : Int) (h0 : 0 ≤ a) (h1 : a ≤ 1048576) :
    ∃ r, Ev (fun k => laws_szItemS.f k l a) r ∧ r ≤ 1048576 ∧ (0 ≤ r → l.length ≤ 1048576 ∧ ∀ x ∈ l, x.f0.size ≤ 1048576 ∧ x.f7.size ≤ 1048576) := by
  have e : wrap64 (a - (l.length : Int)) = a - l.length := by unfold wrap64; unfold maxLen at hl; omega
  by_cases hc : a - (l.length : Int) < 0
  · exact ⟨-1, Ev.congr (f := fun _ => some (-1)) (fun k => by simp only [laws_szItemS.f]; rw [e, if_pos hc]) (Ev.now _), by omega, by omega⟩
  · obtain ⟨r, hr, h, hz⟩ := szItemS_loop l (by omega) hs l.length 0 (a - l.length) (by omega) (by omega) (by omega)
    exact ⟨r, Ev.congr (fun k => by simp only [laws_szItemS.f]; rw [e, if_neg hc]; rfl) hr, h, fun hr => ⟨by omega, by simpa using hz hr⟩⟩
theorem conv_small (l0 : List Li) (hz : ∀ x ∈ l0, x.f0.size ≤ 1048576 ∧ x.f7.size ≤ 1048576) (i : Nat) : (itAt (l0.map conv) i).f0.size < 4294967281 ∧ (itAt (l0.map conv) i).f7.size < 4294967281 := by
  by_cases hi : i < (l0.map conv).length
  · have : itAt (l0.map conv) i = (l0.map conv)[i] := rdI _ i hi
    rw [this, List.getElem_map]
    have := hz _ (List.getElem_mem (by simpa using hi))
    show (l0[i]'_).f0.size < _ ∧ (l0[i]'_).f7.size < _
    omega
  · have : itAt (l0.map conv) i = z74 := by unfold itAt rd_T74; simp [List.getD, List.getElem?_eq_none (show l0.length ≤ i by simpa using hi)]
    rw [this]; decide
end Go.Proofs.YthhmkbchdiflcaaGreatDoor.Q

/- What the laws over changes ask beside the two functions. -/
namespace Go.Proofs.YthhmkbchdiflcaaGreatDoor.Q
open Go.RowKit Go.Proofs.YthhmkbchdiflcaaGreatDoorW.PrintWords Go.Proofs.YthhmkbchdiflcaaGreatDoorW.PrintLast Go.Proofs.YthhmkbchdiflcaaGreatDoorW.PrintMore
attribute [local go_sem] max2_int min2_int max_two min_two max_three min_three max_four min_four   -- for this text's walks alone
set_option linter.unusedVariables false
set_option linter.unusedSimpArgs false

theorem eqChange_self (c : Ch) : laws_eqChange.f c.f0 c.f1 c.f2.f0 c.f2.f1 c.f2.f2 c.f2.f3 c.f2.f4 c.f2.f5 c.f2.f6 c.f2.f7 c.f3.f0 c.f3.f1 c.f3.f2 c.f3.f3 c.f3.f4 c.f3.f5 c.f3.f6 c.f3.f7 c.f0 c.f1 c.f2.f0 c.f2.f1 c.f2.f2 c.f2.f3 c.f2.f4 c.f2.f5 c.f2.f6 c.f2.f7 c.f3.f0 c.f3.f1 c.f3.f2 c.f3.f3 c.f3.f4 c.f3.f5 c.f3.f6 c.f3.f7 = some true := by
  unfold laws_eqChange.f; rw [if_pos rfl, if_pos rfl, eqItem_self c.f2]; simp only [Option.bind_some, if_true]; rw [eqItem_self c.f3]; simp
def eqCh_T : Bool × List (List Nat × List Nat) := (true, [([], []), ([], []), ([0, 1], [0, 1]), ([2], [2]), ([], []), ([], []), ([4, 5], [4, 5]), ([6], [6]), ([3, 7], [3, 7]), ([8], [8])])
def eqCh_B : List Nat := [0, 0, 3, 7, 0, 0, 48, 112, 255, 511]
theorem eqCh_tab : rtab .any (opsOf Tryz.f21 6) = eqCh_T := by kernel_rfl
theorem eqCh_bits : waitsOk eqCh_T.2 eqCh_B = true := by kernel_rfl
theorem load_any (W : World) (a : Addr) (cs : List Value) (hl : cs.length = 18) (h : ∀ j v, cs[j]? = some v → W.cell? (a.add j) = some v) : (Instr.loadAt 104 (.pointer (some a))).run Tryz.prog W = .ok (.agg cs.toArray) W := by
  have hc : (loadCells a cs.length).run Tryz.prog W = .ok cs.toArray W := run_loadCells_list W a cs h
  obtain ⟨i, hq, _, hs, _⟩ := info_parts info104
  have hagg : (isAgg 104).run Tryz.prog W = .ok true W := by
    unfold isAgg
    rw [Sem.run_bind, run_underlying Tryz.underlying104 W]
    simp
  rw [hl] at hc
  simp [Instr.loadAt, Instr.sureAddr, loadVar, Sem.run_bind, hagg, sizeOf, typeInfo, hq, hs, hc]
theorem cells_of {W : World} {A : Option Addr} {n : Nat} {L : List Ch} (h : Kd.C k104 W A n L) (i : Nat) (hi : i < n) : ∃ ad, A = some ad ∧ ∀ j v, (encCh (chAt L i))[j]? = some v → W.cell? ((ad.add (i * 18)).add j) = some v := by
  obtain ⟨ad, c, e, hl, hK, hc⟩ := Kd.C_get h z104 (i : Int) (by omega) (by omega)
  obtain rfl := k104_open hK
  refine ⟨ad, e, fun j v hv => ?_⟩
  rw [Addr.add_add]
  exact hc j v hv
set_option maxHeartbeats 8000000 in
set_option maxRecDepth 100000 in
theorem eqChangeS_walk (w : World) (A A' : Option Addr) (c c' : Nat) (L : List Ch) (hr : Kd.C k104 w A L.length L) (hr' : Kd.C k104 w A' L.length L) (hn : L.length ≤ 1000) :
    Calls Tryz.prog 21 #[.slice A L.length c, .slice A' L.length c'] w fun e w' => e = .returned (.bool true) ∧ Below w.heap.size w w' := by
  have HR := Aside0.mk hr
  have HR' := Aside0.mk hr'
  have HN := Aside0.mk hn
  clear hr hr' hn
  go_enter Tryz.func21, Tryz.ntmps21
  go_wp2
  go_loopw [5] (fun v5 wr => ∃ i : Nat, i ≤ L.length ∧ v5 = .int .i64 (i : Int) ∧ Aside0 (Below w.heap.size w wr)) (fun v5 _ => L.length - (intOf v5).toNat)
  case atStart => exact ⟨0, Nat.zero_le _, by simp, ⟨Below.refl _ _⟩⟩
  case round =>
    obtain ⟨i, hi, rfl, HB⟩ := hrel
    by_cases hlt : i < L.length
    case neg =>
      have hkl : i = L.length := by omega
      subst hkl
      have c1 : decide ((L.length : Int) < (L.length : Int)) = false := by simp
      clear hlt hi
      go_wp2
      go_ret
      exact ⟨rfl, HB.out⟩
    case pos =>
      have HI := Aside0.mk hlt
      have hc1 : decide ((i : Int) < (L.length : Int)) = true := decide_eq_true (by omega)
      have p1 : ((0 : Int) ≤ (i : Int)) = True := eq_true (by omega)
      have p3 : ((i : Int) < (L.length : Int)) = True := eq_true (by omega)
      have w19 : IntKind.i64.wrap ((i : Int) + 1) = ((i + 1 : Nat) : Int) := (i64_w _).trans (step_i hlt (by have := HN.out; omega))
      obtain ⟨ad, rfl, hx⟩ := cells_of (Kd.C_below HR.out HB.out) i hlt
      obtain ⟨bd, rfl, hy⟩ := cells_of (Kd.C_below HR'.out HB.out) i hlt
      obtain ⟨x, hxx⟩ : ∃ x, x = chAt L i := ⟨_, rfl⟩
      rw [← hxx] at hx hy
      have HX := Aside0.mk hx
      have HY := Aside0.mk hy
      have HE : Aside0 (∀ W, Calls Tryz.prog 84 #[.agg (encCh x).toArray, .agg (encCh x).toArray] W fun e w' => e = .returned (.bool true) ∧ Below W.heap.size W w') := ⟨fun W => laws_eqChange.calls _ _ _ _ _ _ _ _ _ _ _ _ _ _ _ _ _ _ _ _ _ _ _ _ _ _ _ _ _ _ _ _ _ _ _ _ true W (eqChange_self x)⟩
      have HL : Aside0 ((encCh x).length = 18) := ⟨rfl⟩
      clear hx hy hxx hlt hi
      go_upto_region 6 with (fail)
      refine start_ (n := 10) (S := fun W => (∀ j v, (encCh x)[j]? = some v → W.cell? ((ad.add (i * 18)).add j) = some v) ∧ (∀ j v, (encCh x)[j]? = some v → W.cell? ((bd.add (i * 18)).add j) = some v)) (ds := []) #[false, false, false, false, false, false, false, false, false, false] (by kernel_rfl) rfl rfl ⟨HX.out, HY.out⟩ (fun hHeld => ?_); refine with_tabW eqCh_tab eqCh_bits (fun HT_ HW_ => ?_)
      replace HB := Aside0.mk (below_drew1 HB.out)
      clear HX HY
      generalize wr.drew = W2 at HB hHeld ⊢
      refine pure_ (i := 0) (N := some 17) (v := ?_) (a' := ?_) #[true, false, false, false, false, false, false, false, false, false] rfl rfl (any_of HT_.out (by kernel_rfl)) (fun _ _ _ h => h) (Or.inl ⟨by rfl, ?_⟩) ?_ ?_
      rotate_left
      · intro w'
        go_simp
        with_reducible rfl
      rotate_left
      · simp only [Act.put, List.setIfInBounds_toArray, List.set_cons_zero, List.set_cons_succ, i64_w, i32_w]
        rfl
      refine pure_ (i := 1) (N := some 18) (v := ?_) (a' := ?_) #[true, true, false, false, false, false, false, false, false, false] rfl rfl (any_of HT_.out (by kernel_rfl)) (fun _ _ _ h => h) (Or.inl ⟨by rfl, ?_⟩) ?_ ?_
      rotate_left
      · intro w'
        go_simp
        with_reducible rfl
      rotate_left
      · simp only [Act.put, List.setIfInBounds_toArray, List.set_cons_zero, List.set_cons_succ, i64_w, i32_w]
        rfl
      refine pure_ (i := 2) (N := some 19) (v := ?_) (a' := ?_) #[true, true, true, false, false, false, false, false, false, false] rfl rfl (any_of HT_.out (by kernel_rfl)) (fun _ _ _ h => h) (Or.inl ⟨by rfl, ?_⟩) ?_ ?_
      rotate_left
      · intro w'
        go_simp
        with_reducible rfl
      rotate_left
      · simp only [Act.put, List.setIfInBounds_toArray, List.set_cons_zero, List.set_cons_succ, i64_w, i32_w]
        rfl
      refine pure_ (i := 4) (N := some 21) (v := ?_) (a' := ?_) #[true, true, true, false, true, false, false, false, false, false] rfl rfl (any_of HT_.out (by kernel_rfl)) (fun _ _ _ h => h) (Or.inl ⟨by rfl, ?_⟩) ?_ ?_
      rotate_left
      · intro w'
        go_simp
        with_reducible rfl
      rotate_left
      · simp only [Act.put, List.setIfInBounds_toArray, List.set_cons_zero, List.set_cons_succ, i64_w, i32_w]
        rfl
      refine pure_ (i := 5) (N := some 22) (v := ?_) (a' := ?_) #[true, true, true, false, true, true, false, false, false, false] rfl rfl (any_of HT_.out (by kernel_rfl)) (fun _ _ _ h => h) (Or.inl ⟨by rfl, ?_⟩) ?_ ?_
      rotate_left
      · intro w'
        go_simp
        with_reducible rfl
      rotate_left
      · simp only [Act.put, List.setIfInBounds_toArray, List.set_cons_zero, List.set_cons_succ, i64_w, i32_w]
        rfl
      refine pure_ (i := 6) (N := some 23) (v := ?_) (a' := ?_) #[true, true, true, false, true, true, true, false, false, false] rfl rfl (any_of HT_.out (by kernel_rfl)) (fun _ _ _ h => h) (Or.inl ⟨by rfl, ?_⟩) ?_ ?_
      rotate_left
      · intro w'
        go_simp
        with_reducible rfl
      rotate_left
      · simp only [Act.put, List.setIfInBounds_toArray, List.set_cons_zero, List.set_cons_succ, i64_w, i32_w]
        rfl
      refine take_ (i := 3) (N := some 20) (v := .agg (encCh x).toArray) (a' := ?_) #[true, true, true, true, true, true, true, false, false, false] rfl rfl (take_ofW HT_.out HW_.out (by kernel_rfl)) (fun _ _ _ h => h) (Or.inl ⟨by rfl, ?hy⟩) hHeld ?ha ?hh
      case ha =>
        simp only [Act.put, List.setIfInBounds_toArray, List.set_cons_zero, List.set_cons_succ, i64_w, i32_w]
        rfl
      case hy =>
        intro w' s0
        show ((do pure (Next.value (← Instr.loadAt 104 (.pointer (some (ad.add (i * 18)))))) : Sem Next)).run Tryz.prog w' = _
        rw [Sem.run_bind, load_any w' _ (encCh x) rfl s0.1]; rfl
      case hh =>
        refine take_ (i := 7) (N := some 24) (v := .agg (encCh x).toArray) (a' := ?_) #[true, true, true, true, true, true, true, true, false, false] rfl rfl (take_ofW HT_.out HW_.out (by kernel_rfl)) (fun _ _ _ h => h) (Or.inl ⟨by rfl, ?hy⟩) hHeld ?ha ?hh
        case ha =>
          simp only [Act.put, List.setIfInBounds_toArray, List.set_cons_zero, List.set_cons_succ, i64_w, i32_w]
          rfl
        case hy =>
          intro w' s0
          show ((do pure (Next.value (← Instr.loadAt 104 (.pointer (some (bd.add (i * 18)))))) : Sem Next)).run Tryz.prog w' = _
          rw [Sem.run_bind, load_any w' _ (encCh x) rfl s0.2]; rfl
        case hh =>
          refine one_ (i := 8) (N := some 25) #[true, true, true, true, true, true, true, true, true, false] rfl rfl (one_of HT_.out (by kernel_rfl)) (by decide) (fun K hK => ?_)
          refine goes_ Tryz.func84 (by kernel_rfl) rfl #[.agg (encCh x).toArray, .agg (encCh x).toArray] (by rfl) rfl rfl (by (try simp only [List.map_toArray, List.map_cons, List.map_nil]); first | done | rfl) ?_
          refine (HE.out _).mono ?_
          rintro e w3 ⟨rfl, hd⟩
          refine ⟨_, rfl, ?_⟩
          replace HB := Aside0.mk (below_step HB.out hd)
          refine hK.out _ _ ⟨fun j v hv => (hd.cell (World.block_lt_of_cell? _ _ (hHeld.1 j v hv))).trans (hHeld.1 j v hv), fun j v hv => (hd.cell (World.block_lt_of_cell? _ _ (hHeld.2 j v hv))).trans (hHeld.2 j v hv)⟩ (fun hHeld2 => ?_)
          clear hK K
          refine norm_ (a' := ?_) ?_ ?_
          rotate_left
          · show Act.put _ (some 25) _ = _
            simp only [Act.put, List.setIfInBounds_toArray, List.set_cons_zero, List.set_cons_succ, i64_w, i32_w]
            rfl
          refine pure_ (i := 9) (N := some 26) (v := ?_) (a' := ?_) #[true, true, true, true, true, true, true, true, true, true] rfl rfl (any_of HT_.out (by kernel_rfl)) (fun _ _ _ h => h) (Or.inl ⟨by rfl, ?_⟩) ?_ ?_
          rotate_left
          · intro w'
            go_simp
            with_reducible rfl
          rotate_left
          · simp only [Act.put, List.setIfInBounds_toArray, List.set_cons_zero, List.set_cons_succ, i64_w, i32_w]
            rfl
          refine done_ (done_of HT_.out (by kernel_rfl)) ?_
          clear hHeld hHeld2 hd
          go_wp2
          go_roundw
          case rel => exact ⟨i + 1, by have := HI.out; omega, by first | rfl | go_num, HB⟩
          case measure => have := HI.out; simp [intOf]; omega

end Go.Proofs.YthhmkbchdiflcaaGreatDoor.Q

/- The mark of a number. -/
namespace Go.Proofs.YthhmkbchdiflcaaGreatDoor.Q
open Go.RowKit Go.Proofs.YthhmkbchdiflcaaGreatDoorW.PrintWords Go.Proofs.YthhmkbchdiflcaaGreatDoorW.PrintLast Go.Proofs.YthhmkbchdiflcaaGreatDoorW.PrintMore
attribute [local go_sem] max2_int min2_int max_two min_two max_three min_three max_four min_four   -- for this text's walks alone
set_option linter.unusedVariables false
set_option linter.unusedSimpArgs false

theorem mark_one (n : Int) (h0 : 0 ≤ n) (h1 : n < 10) : (strOfNums ([(wrap64 (48 + n)) % 256] : List Int)).size = 1 := by
  obtain ⟨i, rfl⟩ : ∃ i : Fin 10, n = (i.val : Int) := ⟨⟨n.toNat, by omega⟩, by simp; omega⟩
  revert i
  decide +kernel
theorem markText_loop : ∀ (u : Nat) (x : ByteArray), u + x.size ≤ 4611686018427387904 → ∃ r, Ev (fun k => laws_markText.l0 k (u : Int) x) r := by
  intro u
  induction u using Nat.strongRecOn with
  | _ u ih =>
    intro x hx
    by_cases h : u = 0
    · refine ⟨(⟨#[109]⟩ : ByteArray) ++ x, Ev.step (f := fun _ => some ((⟨#[109]⟩ : ByteArray) ++ x)) (fun k => ?_) (Ev.now _)⟩
      simp only [laws_markText.l0]
      rw [if_neg (by omega), if_pos (by omega)]
    · have e1 : wrap64 (Int.tdiv (u : Int) 10) = ((u / 10 : Nat) : Int) := by
        rw [Int.tdiv_eq_ediv_of_nonneg (by omega)]; unfold wrap64; omega
      have e2 : Int.tmod (u : Int) 10 = ((u % 10 : Nat) : Int) := by
        rw [Int.tmod_eq_emod_of_nonneg (by omega)]; omega
      have e3 := mark_one ((u % 10 : Nat) : Int) (by omega) (by omega)
      obtain ⟨r, hr⟩ := ih (u / 10) (by omega) (strOfNums ([(wrap64 (48 + ((u % 10 : Nat) : Int))) % 256] : List Int) ++ x) (by rw [ByteArray.size_append, e3]; omega)
      refine ⟨r, Ev.step (fun k => ?_) hr⟩
      simp only [laws_markText.l0]
      rw [if_pos (by omega), e1, e2]
      simp only [Option.bind_some]
      rw [if_pos (by omega)]
theorem markText_ev (n : Int) (h0 : 0 ≤ n) (h1 : n ≤ 4611686018427387904) : ∃ r, Ev (fun k => laws_markText.f k n) r := by
  unfold laws_markText.f
  by_cases h : n ≤ 0
  · exact ⟨_, Ev.congr (fun k => by rw [if_pos h]) (Ev.now _)⟩
  · obtain ⟨r, hr⟩ := markText_loop n.toNat ⟨#[]⟩ (by show n.toNat + 0 ≤ _; omega)
    rw [Int.toNat_of_nonneg h0] at hr
    exact ⟨r, Ev.congr (fun k => by rw [if_neg h]) hr⟩
open Classical in
/-- The mark of a number. -/
noncomputable def markB (n : Int) : ByteArray := if h : ∃ r, Ev (fun k => laws_markText.f k n) r then Classical.choose h else ⟨#[]⟩
theorem markB_ev (n : Int) (h0 : 0 ≤ n) (h1 : n ≤ 4611686018427387904) : Ev (fun k => laws_markText.f k n) (markB n) := by
  have h := markText_ev n h0 h1
  unfold markB
  rw [dif_pos h]
  exact Classical.choose_spec h

end Go.Proofs.YthhmkbchdiflcaaGreatDoor.Q

/- Marks written into items, and read again. -/
namespace Go.Proofs.YthhmkbchdiflcaaGreatDoor.Q
open Go.RowKit Go.Proofs.YthhmkbchdiflcaaGreatDoorW.PrintWords Go.Proofs.YthhmkbchdiflcaaGreatDoorW.PrintLast Go.Proofs.YthhmkbchdiflcaaGreatDoorW.PrintMore
attribute [local go_sem] max2_int min2_int max_two min_two max_three min_three max_four min_four   -- for this text's walks alone
set_option linter.unusedVariables false
set_option linter.unusedSimpArgs false

noncomputable def markI (n : Int) : It := ⟨markB n, n + 1, n + 2, n + 3, n + 4, n + 5, n + 6, markB (n + 7)⟩
noncomputable def markIL (n : Int) : Nat → List It
  | 0 => []
  | d + 1 => markI n :: markIL (n + 8) d
theorem rd_set (l : List It) (i : Nat) (v : It) (h : i < l.length) : rd_T74 (l.set i v) (i : Int) = v := by
  rw [rdI _ _ (by rw [List.length_set]; exact h)]; simp
theorem markItemS_loop (d : Nat) : ∀ (l : List It) (i : Nat) (n : Int), i + d = l.length → l.length ≤ 1759218604391 → 0 ≤ n → n + 8 * d ≤ 4611686018427380000 →
    Ev (fun k => laws_markItemS.l0 k l n (i : Int)) (n + 8 * d, l.take i ++ markIL n d) := by
  induction d with
  | zero =>
    intro l i n hi hl h0 h1
    rw [List.take_of_length_le (by omega)]
    refine Ev.step (f := fun _ => some (n, l)) (fun k => ?_) ?_
    · simp only [laws_markItemS.l0]; rw [if_neg (by omega)]
    · have : ((n + 8 * ((0 : Nat) : Int), l ++ markIL n 0) : Int × List It) = (n, l) := by simp [markIL]
      rw [this]; exact Ev.now _
  | succ d ih =>
    intro l i n hi hl h0 h1
    have hlt : i < l.length := by omega
    have m0 := markB_ev n h0 (by omega)
    have m7 := markB_ev (n + 7) (by omega) (by omega)
    have hih := ih (l.set i (markI n)) (i + 1) (n + 8) (by rw [List.length_set]; omega) (by rw [List.length_set]; omega) (by omega) (by omega)
    have w1 : wrap64 (n + 1) = n + 1 := by unfold wrap64; omega
    have w2 : wrap64 (n + 1 + 1) = n + 2 := by unfold wrap64; omega
    have w3 : wrap64 (n + 2 + 1) = n + 3 := by unfold wrap64; omega
    have w4 : wrap64 (n + 3 + 1) = n + 4 := by unfold wrap64; omega
    have w5 : wrap64 (n + 4 + 1) = n + 5 := by unfold wrap64; omega
    have w6 : wrap64 (n + 5 + 1) = n + 6 := by unfold wrap64; omega
    have w7 : wrap64 (n + 6 + 1) = n + 7 := by unfold wrap64; omega
    have w8 : wrap64 (n + 7 + 1) = n + 8 := by unfold wrap64; omega
    refine Ev.step (f := fun k => (laws_markText.f k n).bind fun t => (laws_markText.f k (n + 7)).bind fun t2 => laws_markItemS.l0 k (l.set i ⟨t, n + 1, n + 2, n + 3, n + 4, n + 5, n + 6, t2⟩) (n + 8) ((i + 1 : Nat) : Int)) (fun k => ?_) ?_
    · simp only [laws_markItemS.l0]
      rw [if_pos (by omega)]
      congr 1
      funext t
      rw [if_pos (by omega)]
      simp only [Option.bind_some, Int.toNat_natCast, rd_set _ _ _ hlt, List.set_set, w1, w2, w3, w4, w5, w6, w7, w8, step_i hlt hl]
    · refine Ev.bind m0 (Ev.bind m7 ?_)
      have e : l.take i ++ markIL n (d + 1) = (l.set i (markI n)).take (i + 1) ++ markIL (n + 8) d := by
        rw [List.take_succ_eq_append_getElem (by simp; omega), List.take_set_of_le (by omega), List.getElem_set_self, List.append_assoc]; rfl
      rw [e, show n + 8 * ((d + 1 : Nat) : Int) = n + 8 + 8 * (d : Int) by omega]
      exact hih
end Go.Proofs.YthhmkbchdiflcaaGreatDoor.Q

/- Marks written into changes. -/
namespace Go.Proofs.YthhmkbchdiflcaaGreatDoor.Q
open Go.RowKit Go.Proofs.YthhmkbchdiflcaaGreatDoorW.PrintWords Go.Proofs.YthhmkbchdiflcaaGreatDoorW.PrintLast Go.Proofs.YthhmkbchdiflcaaGreatDoorW.PrintMore
attribute [local go_sem] max2_int min2_int max_two min_two max_three min_three max_four min_four   -- for this text's walks alone
set_option linter.unusedVariables false
set_option linter.unusedSimpArgs false

noncomputable def markC (n : Int) : Ch := ⟨n, markB (n + 1), ⟨markB (n + 2), n + 3, n + 4, n + 5, n + 6, n + 7, n + 8, markB (n + 9)⟩, ⟨markB (n + 10), n + 11, n + 12, n + 13, n + 14, n + 15, n + 16, markB (n + 17)⟩⟩
noncomputable def markCL (n : Int) : Nat → List Ch
  | 0 => []
  | d + 1 => markC n :: markCL (n + 18) d
theorem markCL_length (d : Nat) : ∀ n, (markCL n d).length = d := by
  induction d with
  | zero => intro n; rfl
  | succ d ih => intro n; simp [markCL, ih]
theorem markCL_at (d : Nat) : ∀ (n : Int) (i : Nat) (h : i < d), (markCL n d)[i]'(by rw [markCL_length]; exact h) = markC (n + 18 * i) := by
  induction d with
  | zero => intro n i h; exact absurd h (Nat.not_lt_zero i)
  | succ d ih =>
    intro n i h
    cases i with
    | zero => simp [markCL]
    | succ i =>
      have := ih (n + 18) i (by omega)
      simp only [markCL, List.getElem_cons_succ]
      rw [this]
      congr 1; omega
theorem markText_call (m : Int) (h0 : 0 ≤ m) (h1 : m ≤ 4611686018427387904) (W : World) : Calls Tryz.prog 74 #[.int .i64 m] W fun e w' => e = .returned (.string (markB m)) ∧ Below W.heap.size W w' := by
  obtain ⟨K, hK⟩ := markB_ev m h0 h1
  exact laws_markText.calls K m _ W (hK K (Nat.le_refl _))
theorem wrq {n : Int} (h0 : 0 ≤ n) (h1 : n ≤ 4611686018427387000) (k m : Int) (hk : 0 ≤ k ∧ k ≤ 100) (hm : m = k + 1) : wrap64 (n + k + 1) = n + m := by unfold wrap64; omega
theorem wr1 {N : Int} (h0 : 0 ≤ N) (h1 : N ≤ 4611686018427387000) : wrap64 (N + 1) = N + 1 := by unfold wrap64; omega
theorem wri (i : Nat) (h : i ≤ 100000) : wrap64 ((i : Int) + 1) = ((i + 1 : Nat) : Int) := by unfold wrap64; omega
/-- Block g's first o cells are E's. -/
def MkAt (W : World) (g sz : Nat) (E : List Value) (o : Nat) : Prop := ∃ cur, W.heap[g]? = some (.cells cur 104 (0, 0)) ∧ cur.size = sz ∧ ∀ m, m < o → cur[m]? = E[m]?
theorem MkAt.set {W : World} {g sz o : Nat} {E : List Value} (h : MkAt W g sz E o) (ho : o < sz) {u : Value} (hu : E[o]? = some u) : MkAt (W.setCell ⟨g, o, none⟩ u) g sz E (o + 1) := by
  obtain ⟨cur, hb, hs, hm⟩ := h
  refine ⟨_, blk_set hb o u, by rw [Array.size_setIfInBounds]; exact hs, fun m hlt => ?_⟩
  rw [Array.getElem?_setIfInBounds]
  by_cases he : o = m
  · subst he; rw [if_pos rfl, if_pos (by omega)]; exact hu.symm
  · rw [if_neg he]; exact hm m (by omega)
theorem MkAt.below {W W2 : World} {g sz o : Nat} {E : List Value} (h : MkAt W g sz E o) (hb : Below W.heap.size W W2) : MkAt W2 g sz E o := by
  obtain ⟨cur, h1, h2⟩ := h
  exact ⟨cur, (hb.block g (blk_lt h1)).trans h1, h2⟩
theorem MkAt.cell {W : World} {g sz o : Nat} {E : List Value} (h : MkAt W g sz E o) (ho : o < sz) : (∃ old, W.cell? ⟨g, o, none⟩ = some old) ∧ W.frozen? ⟨g, o, none⟩ = false := by
  obtain ⟨cur, hb, hs, _⟩ := h
  exact ⟨⟨cur[o]'(by omega), (blk_cell hb o).trans (Array.getElem?_eq_getElem (by omega))⟩, blk_frozen hb o⟩
theorem encChs_at : ∀ (L : List Ch) (i : Nat) (hi : i < L.length) (j : Nat), j < 18 → (encChs L)[i * 18 + j]? = (encCh L[i])[j]?
  | [], i, hi, _, _ => absurd hi (Nat.not_lt_zero i)
  | c :: r, 0, _, j, hj => by
    show (encCh c ++ encChs r)[0 * 18 + j]? = _
    rw [Nat.zero_mul, Nat.zero_add, List.getElem?_append_left (by exact hj)]; rfl
  | c :: r, i + 1, hi, j, hj => by
    show (encCh c ++ encChs r)[(i + 1) * 18 + j]? = _
    have hl : (encCh c).length = 18 := rfl
    rw [List.getElem?_append_right (by omega), show (i + 1) * 18 + j - (encCh c).length = i * 18 + j by omega]
    exact encChs_at r i (by simpa using hi) j hj
theorem encChs_len : ∀ L : List Ch, (encChs L).length = L.length * 18
  | [] => rfl
  | c :: r => by
    show (encCh c ++ encChs r).length = _
    rw [List.length_append, encChs_len r, List.length_cons]
    have hl : (encCh c).length = 18 := rfl
    omega
theorem reps_encChs (W : World) (base : Nat) (ok : Nat → Prop) : ∀ L : List Ch, Reps (Kd.M k104 W base ok) 18 L (encChs L)
  | [] => Reps.none _ _
  | c :: r => Reps.front (show Kd.M k104 W base ok c (encCh c) from k104_mkM W base ok c) rfl (reps_encChs W base ok r) rfl
theorem chs_R {W : World} {base : Nat} {v : Value} {L : List Ch} (h : W.ownsRow base 104 18 v L.length (encChs L)) : Kd.R k104 104 W base (fun _ => True) v L :=
  ⟨fun _ _ => trivial, _, h, reps_encChs _ _ _ L⟩
set_option maxHeartbeats 8000000 in
set_option maxRecDepth 100000 in
theorem markRow_walk (P0 : Nat → Prop) (g n cap sz : Nat) (w0 w : World) (hB : Below w0.heap.size w0 w) (hg : w0.heap.size ≤ g) (hP : P0 g) (hm : MkAt w g sz (encChs (markCL 1 n)) 0) (hsz : n * 18 ≤ sz) (hn : n ≤ 1000) :
    Calls Tryz.prog 22 #[.slice (some ⟨g, 0, none⟩) n cap, .int .i64 1] w fun e w' => e = .returned (.int .i64 (1 + 18 * (n : Int))) ∧ MkAt w' g sz (encChs (markCL 1 n)) (n * 18) ∧ Below w0.heap.size w0 w' ∧ Kept w w' P0 := by
  have hu1 := Tryz.underlying104
  have hu2 := Tryz.underlying74
  have HB := Aside0.mk hB
  have HG := Aside0.mk hg
  have HP := Aside0.mk hP
  have HM := Aside0.mk hm
  have HSZ := Aside0.mk hsz
  have HN := Aside0.mk hn
  have HK := Aside0.mk (Kept.refl w P0)
  have hEL := fun (i : Nat) (hi : i < n) (j : Nat) (hj : j < 18) => (encChs_at (markCL 1 n) i (by rw [markCL_length]; exact hi) j hj).trans (by rw [markCL_at n 1 i hi])
  obtain ⟨E, hE⟩ : ∃ E, E = encChs (markCL 1 n) := ⟨_, rfl⟩
  rw [← hE] at hEL HM ⊢
  have HEL := Aside0.mk hEL
  clear hB hg hP hm hsz hn hE hEL
  go_enter Tryz.func22, Tryz.ntmps22
  go_wp2
  go_loopw [1, 5] (fun v1 v5 wr => ∃ i : Nat, i ≤ n ∧ v1 = .int .i64 (1 + 18 * (i : Int)) ∧ v5 = .int .i64 (i : Int) ∧ Aside0 (MkAt wr g sz E (i * 18)) ∧ Aside0 (Below w0.heap.size w0 wr) ∧ Aside0 (Kept w wr P0)) (fun _ v5 _ => n - (intOf v5).toNat)
  case atStart => exact ⟨0, Nat.zero_le _, by simp, by simp, ⟨by simpa using HM.out⟩, HB, HK⟩
  case round =>
    clear HM HB HK
    obtain ⟨i, hi, rfl, rfl, HM, HB, HK⟩ := hrel
    by_cases hlt : i < n
    case neg =>
      have hkl : i = n := by omega
      subst hkl
      have c1 : decide ((i : Int) < (i : Int)) = false := by simp
      clear hlt hi
      go_wp2
      go_ret
      exact ⟨rfl, HM.out, HB.out, HK.out⟩
    case pos =>
      have HI := Aside0.mk hlt
      have HO : Aside0 (i * 18 + 18 ≤ sz) := ⟨by have := HSZ.out; omega⟩
      have hel := HEL.out i hlt
      obtain ⟨N, hN⟩ : ∃ N : Int, N = 1 + 18 * (i : Int) := ⟨_, rfl⟩
      have HNN := Aside0.mk hN
      have h0 : 0 ≤ N := by omega
      have h1 : N ≤ 4611686018427387000 := by have := HN.out; omega
      rw [← hN] at hel ⊢
      have HE := Aside0.mk hel
      have c1 : decide ((i : Int) < (n : Int)) = true := decide_eq_true (by omega)
      have p1 : ((0 : Int) ≤ (i : Int)) = True := eq_true (by omega)
      have p3 : ((i : Int) < (n : Int)) = True := eq_true (by omega)
      have w19 : IntKind.i64.wrap ((i : Int) + 1) = ((i + 1 : Nat) : Int) := (i64_w _).trans (wri i (by have := HN.out; omega))
      have MT1 := Aside0.mk (fun W => markText_call (N + 1) (by omega) (by omega) W)
      have MT2 := Aside0.mk (fun W => markText_call (N + 2) (by omega) (by omega) W)
      have MT17 := Aside0.mk (fun W => markText_call (N + 17) (by omega) (by omega) W)
      have MT9 := Aside0.mk (fun W => markText_call (N + 9) (by omega) (by omega) W)
      have MT10 := Aside0.mk (fun W => markText_call (N + 10) (by omega) (by omega) W)
      have w1 : IntKind.i64.wrap (N + 1) = N + 1 := (i64_w _).trans (wr1 h0 h1)
      have w2 : IntKind.i64.wrap (N + 1 + 1) = N + 2 := (i64_w _).trans (wrq h0 h1 1 2 (by decide) rfl)
      have w3 : IntKind.i64.wrap (N + 2 + 1) = N + 3 := (i64_w _).trans (wrq h0 h1 2 3 (by decide) rfl)
      have w4 : IntKind.i64.wrap (N + 3 + 1) = N + 4 := (i64_w _).trans (wrq h0 h1 3 4 (by decide) rfl)
      have w5 : IntKind.i64.wrap (N + 4 + 1) = N + 5 := (i64_w _).trans (wrq h0 h1 4 5 (by decide) rfl)
      have w6 : IntKind.i64.wrap (N + 5 + 1) = N + 6 := (i64_w _).trans (wrq h0 h1 5 6 (by decide) rfl)
      have w7 : IntKind.i64.wrap (N + 6 + 1) = N + 7 := (i64_w _).trans (wrq h0 h1 6 7 (by decide) rfl)
      have w8 : IntKind.i64.wrap (N + 7 + 1) = N + 8 := (i64_w _).trans (wrq h0 h1 7 8 (by decide) rfl)
      have w9 : IntKind.i64.wrap (N + 8 + 1) = N + 9 := (i64_w _).trans (wrq h0 h1 8 9 (by decide) rfl)
      have w10 : IntKind.i64.wrap (N + 9 + 1) = N + 10 := (i64_w _).trans (wrq h0 h1 9 10 (by decide) rfl)
      have w11 : IntKind.i64.wrap (N + 10 + 1) = N + 11 := (i64_w _).trans (wrq h0 h1 10 11 (by decide) rfl)
      have w12 : IntKind.i64.wrap (N + 11 + 1) = N + 12 := (i64_w _).trans (wrq h0 h1 11 12 (by decide) rfl)
      have w13 : IntKind.i64.wrap (N + 12 + 1) = N + 13 := (i64_w _).trans (wrq h0 h1 12 13 (by decide) rfl)
      have w14 : IntKind.i64.wrap (N + 13 + 1) = N + 14 := (i64_w _).trans (wrq h0 h1 13 14 (by decide) rfl)
      have w15 : IntKind.i64.wrap (N + 14 + 1) = N + 15 := (i64_w _).trans (wrq h0 h1 14 15 (by decide) rfl)
      have w16 : IntKind.i64.wrap (N + 15 + 1) = N + 16 := (i64_w _).trans (wrq h0 h1 15 16 (by decide) rfl)
      have w17 : IntKind.i64.wrap (N + 16 + 1) = N + 17 := (i64_w _).trans (wrq h0 h1 16 17 (by decide) rfl)
      have w18 : IntKind.i64.wrap (N + 17 + 1) = N + 18 := (i64_w _).trans (wrq h0 h1 17 18 (by decide) rfl)
      clear h0 h1 hN hlt hi hel
      obtain ⟨⟨old, hc⟩, hf⟩ := HM.out.cell (by have := HO.out; omega)
      go_upto_region 5 with (fail)
      have HM2 := Aside0.mk (HM.out.set (by have := HO.out; omega) (HE.out 0 (by decide)))
      change Aside0 (MkAt (wr.setCell ⟨g, i * 18, none⟩ (.int .i64 N)) g sz E (i * 18 + 1)) at HM2
      have HB2 := Aside0.mk (HB.out.setCell (p := ⟨g, i * 18, none⟩) HG.out (.int .i64 N))
      have HK2 := Aside0.mk (HK.out.setCell (p := ⟨g, i * 18, none⟩) (.inl HP.out) (.int .i64 N))
      generalize wr.setCell ⟨g, i * 18, none⟩ (.int .i64 N) = w3 at HM2 HB2 HK2 ⊢
      clear hc hf HM HB HK old
      have HM := HM2
      have HB := HB2
      have HK := HK2
      clear HM2 HB2 HK2
      obtain ⟨wr, rfl⟩ : ∃ z, z = w3 := ⟨_, rfl⟩
      go_wp2_with fail
      refine (MT1.out _).mono ?_; rintro e w2 ⟨rfl, hd⟩
      replace HM := Aside0.mk (HM.out.below hd)
      replace HB := Aside0.mk (HB.out.trans (hd.mono HB.out.size))
      replace HK := Aside0.mk (HK.out.below hd)
      clear hd
      obtain ⟨wr, rfl⟩ : ∃ z, z = w2 := ⟨_, rfl⟩
      obtain ⟨⟨old, hc⟩, hf⟩ := HM.out.cell (by have := HO.out; omega)
      go_upto_region 7 with (fail)
      have HM2 := Aside0.mk (HM.out.set (by have := HO.out; omega) (HE.out 1 (by decide)))
      change Aside0 (MkAt (wr.setCell ⟨g, i * 18 + 1, none⟩ (.string (markB (N + 1)))) g sz E (i * 18 + 2)) at HM2
      have HB2 := Aside0.mk (HB.out.setCell (p := ⟨g, i * 18 + 1, none⟩) HG.out (.string (markB (N + 1))))
      have HK2 := Aside0.mk (HK.out.setCell (p := ⟨g, i * 18 + 1, none⟩) (.inl HP.out) (.string (markB (N + 1))))
      generalize wr.setCell ⟨g, i * 18 + 1, none⟩ (.string (markB (N + 1))) = w3 at HM2 HB2 HK2 ⊢
      clear hc hf HM HB HK old
      have HM := HM2
      have HB := HB2
      have HK := HK2
      clear HM2 HB2 HK2
      obtain ⟨wr, rfl⟩ : ∃ z, z = w3 := ⟨_, rfl⟩
      go_wp2_with fail
      refine (MT2.out _).mono ?_; rintro e w2 ⟨rfl, hd⟩
      replace HM := Aside0.mk (HM.out.below hd)
      replace HB := Aside0.mk (HB.out.trans (hd.mono HB.out.size))
      replace HK := Aside0.mk (HK.out.below hd)
      clear hd
      obtain ⟨wr, rfl⟩ : ∃ z, z = w2 := ⟨_, rfl⟩
      obtain ⟨⟨old, hc⟩, hf⟩ := HM.out.cell (by have := HO.out; omega)
      go_upto_region 9 with (fail)
      have HM2 := Aside0.mk (HM.out.set (by have := HO.out; omega) (HE.out 2 (by decide)))
      change Aside0 (MkAt (wr.setCell ⟨g, i * 18 + 2, none⟩ (.string (markB (N + 2)))) g sz E (i * 18 + 3)) at HM2
      have HB2 := Aside0.mk (HB.out.setCell (p := ⟨g, i * 18 + 2, none⟩) HG.out (.string (markB (N + 2))))
      have HK2 := Aside0.mk (HK.out.setCell (p := ⟨g, i * 18 + 2, none⟩) (.inl HP.out) (.string (markB (N + 2))))
      generalize wr.setCell ⟨g, i * 18 + 2, none⟩ (.string (markB (N + 2))) = w3 at HM2 HB2 HK2 ⊢
      clear hc hf HM HB HK old
      have HM := HM2
      have HB := HB2
      have HK := HK2
      clear HM2 HB2 HK2
      obtain ⟨wr, rfl⟩ : ∃ z, z = w3 := ⟨_, rfl⟩
      obtain ⟨⟨old, hc⟩, hf⟩ := HM.out.cell (by have := HO.out; omega)
      go_upto_region 11 with (fail)
      have HM2 := Aside0.mk (HM.out.set (by have := HO.out; omega) (HE.out 3 (by decide)))
      change Aside0 (MkAt (wr.setCell ⟨g, i * 18 + 3, none⟩ (.int .i64 (N + 3))) g sz E (i * 18 + 4)) at HM2
      have HB2 := Aside0.mk (HB.out.setCell (p := ⟨g, i * 18 + 3, none⟩) HG.out (.int .i64 (N + 3)))
      have HK2 := Aside0.mk (HK.out.setCell (p := ⟨g, i * 18 + 3, none⟩) (.inl HP.out) (.int .i64 (N + 3)))
      generalize wr.setCell ⟨g, i * 18 + 3, none⟩ (.int .i64 (N + 3)) = w3 at HM2 HB2 HK2 ⊢
      clear hc hf HM HB HK old
      have HM := HM2
      have HB := HB2
      have HK := HK2
      clear HM2 HB2 HK2
      obtain ⟨wr, rfl⟩ : ∃ z, z = w3 := ⟨_, rfl⟩
      obtain ⟨⟨old, hc⟩, hf⟩ := HM.out.cell (by have := HO.out; omega)
      go_upto_region 13 with (fail)
      have HM2 := Aside0.mk (HM.out.set (by have := HO.out; omega) (HE.out 4 (by decide)))
      change Aside0 (MkAt (wr.setCell ⟨g, i * 18 + 4, none⟩ (.int .i64 (N + 4))) g sz E (i * 18 + 5)) at HM2
      have HB2 := Aside0.mk (HB.out.setCell (p := ⟨g, i * 18 + 4, none⟩) HG.out (.int .i64 (N + 4)))
      have HK2 := Aside0.mk (HK.out.setCell (p := ⟨g, i * 18 + 4, none⟩) (.inl HP.out) (.int .i64 (N + 4)))
      generalize wr.setCell ⟨g, i * 18 + 4, none⟩ (.int .i64 (N + 4)) = w3 at HM2 HB2 HK2 ⊢
      clear hc hf HM HB HK old
      have HM := HM2
      have HB := HB2
      have HK := HK2
      clear HM2 HB2 HK2
      obtain ⟨wr, rfl⟩ : ∃ z, z = w3 := ⟨_, rfl⟩
      obtain ⟨⟨old, hc⟩, hf⟩ := HM.out.cell (by have := HO.out; omega)
      go_upto_region 15 with (fail)
      have HM2 := Aside0.mk (HM.out.set (by have := HO.out; omega) (HE.out 5 (by decide)))
      change Aside0 (MkAt (wr.setCell ⟨g, i * 18 + 5, none⟩ (.int .i64 (N + 5))) g sz E (i * 18 + 6)) at HM2
      have HB2 := Aside0.mk (HB.out.setCell (p := ⟨g, i * 18 + 5, none⟩) HG.out (.int .i64 (N + 5)))
      have HK2 := Aside0.mk (HK.out.setCell (p := ⟨g, i * 18 + 5, none⟩) (.inl HP.out) (.int .i64 (N + 5)))
      generalize wr.setCell ⟨g, i * 18 + 5, none⟩ (.int .i64 (N + 5)) = w3 at HM2 HB2 HK2 ⊢
      clear hc hf HM HB HK old
      have HM := HM2
      have HB := HB2
      have HK := HK2
      clear HM2 HB2 HK2
      obtain ⟨wr, rfl⟩ : ∃ z, z = w3 := ⟨_, rfl⟩
      obtain ⟨⟨old, hc⟩, hf⟩ := HM.out.cell (by have := HO.out; omega)
      go_upto_region 17 with (fail)
      have HM2 := Aside0.mk (HM.out.set (by have := HO.out; omega) (HE.out 6 (by decide)))
      change Aside0 (MkAt (wr.setCell ⟨g, i * 18 + 6, none⟩ (.int .i64 (N + 6))) g sz E (i * 18 + 7)) at HM2
      have HB2 := Aside0.mk (HB.out.setCell (p := ⟨g, i * 18 + 6, none⟩) HG.out (.int .i64 (N + 6)))
      have HK2 := Aside0.mk (HK.out.setCell (p := ⟨g, i * 18 + 6, none⟩) (.inl HP.out) (.int .i64 (N + 6)))
      generalize wr.setCell ⟨g, i * 18 + 6, none⟩ (.int .i64 (N + 6)) = w3 at HM2 HB2 HK2 ⊢
      clear hc hf HM HB HK old
      have HM := HM2
      have HB := HB2
      have HK := HK2
      clear HM2 HB2 HK2
      obtain ⟨wr, rfl⟩ : ∃ z, z = w3 := ⟨_, rfl⟩
      obtain ⟨⟨old, hc⟩, hf⟩ := HM.out.cell (by have := HO.out; omega)
      go_upto_region 19 with (fail)
      have HM2 := Aside0.mk (HM.out.set (by have := HO.out; omega) (HE.out 7 (by decide)))
      change Aside0 (MkAt (wr.setCell ⟨g, i * 18 + 7, none⟩ (.int .i64 (N + 7))) g sz E (i * 18 + 8)) at HM2
      have HB2 := Aside0.mk (HB.out.setCell (p := ⟨g, i * 18 + 7, none⟩) HG.out (.int .i64 (N + 7)))
      have HK2 := Aside0.mk (HK.out.setCell (p := ⟨g, i * 18 + 7, none⟩) (.inl HP.out) (.int .i64 (N + 7)))
      generalize wr.setCell ⟨g, i * 18 + 7, none⟩ (.int .i64 (N + 7)) = w3 at HM2 HB2 HK2 ⊢
      clear hc hf HM HB HK old
      have HM := HM2
      have HB := HB2
      have HK := HK2
      clear HM2 HB2 HK2
      obtain ⟨wr, rfl⟩ : ∃ z, z = w3 := ⟨_, rfl⟩
      obtain ⟨⟨old, hc⟩, hf⟩ := HM.out.cell (by have := HO.out; omega)
      go_upto_region 21 with (fail)
      have HM2 := Aside0.mk (HM.out.set (by have := HO.out; omega) (HE.out 8 (by decide)))
      change Aside0 (MkAt (wr.setCell ⟨g, i * 18 + 8, none⟩ (.int .i64 (N + 8))) g sz E (i * 18 + 9)) at HM2
      have HB2 := Aside0.mk (HB.out.setCell (p := ⟨g, i * 18 + 8, none⟩) HG.out (.int .i64 (N + 8)))
      have HK2 := Aside0.mk (HK.out.setCell (p := ⟨g, i * 18 + 8, none⟩) (.inl HP.out) (.int .i64 (N + 8)))
      generalize wr.setCell ⟨g, i * 18 + 8, none⟩ (.int .i64 (N + 8)) = w3 at HM2 HB2 HK2 ⊢
      clear hc hf HM HB HK old
      have HM := HM2
      have HB := HB2
      have HK := HK2
      clear HM2 HB2 HK2
      obtain ⟨wr, rfl⟩ : ∃ z, z = w3 := ⟨_, rfl⟩
      go_wp2_with fail
      refine (MT9.out _).mono ?_; rintro e w2 ⟨rfl, hd⟩
      replace HM := Aside0.mk (HM.out.below hd)
      replace HB := Aside0.mk (HB.out.trans (hd.mono HB.out.size))
      replace HK := Aside0.mk (HK.out.below hd)
      clear hd
      obtain ⟨wr, rfl⟩ : ∃ z, z = w2 := ⟨_, rfl⟩
      obtain ⟨⟨old, hc⟩, hf⟩ := HM.out.cell (by have := HO.out; omega)
      go_upto_region 23 with (fail)
      have HM2 := Aside0.mk (HM.out.set (by have := HO.out; omega) (HE.out 9 (by decide)))
      change Aside0 (MkAt (wr.setCell ⟨g, i * 18 + 9, none⟩ (.string (markB (N + 9)))) g sz E (i * 18 + 10)) at HM2
      have HB2 := Aside0.mk (HB.out.setCell (p := ⟨g, i * 18 + 9, none⟩) HG.out (.string (markB (N + 9))))
      have HK2 := Aside0.mk (HK.out.setCell (p := ⟨g, i * 18 + 9, none⟩) (.inl HP.out) (.string (markB (N + 9))))
      generalize wr.setCell ⟨g, i * 18 + 9, none⟩ (.string (markB (N + 9))) = w3 at HM2 HB2 HK2 ⊢
      clear hc hf HM HB HK old
      have HM := HM2
      have HB := HB2
      have HK := HK2
      clear HM2 HB2 HK2
      obtain ⟨wr, rfl⟩ : ∃ z, z = w3 := ⟨_, rfl⟩
      go_wp2_with fail
      refine (MT10.out _).mono ?_; rintro e w2 ⟨rfl, hd⟩
      replace HM := Aside0.mk (HM.out.below hd)
      replace HB := Aside0.mk (HB.out.trans (hd.mono HB.out.size))
      replace HK := Aside0.mk (HK.out.below hd)
      clear hd
      obtain ⟨wr, rfl⟩ : ∃ z, z = w2 := ⟨_, rfl⟩
      obtain ⟨⟨old, hc⟩, hf⟩ := HM.out.cell (by have := HO.out; omega)
      go_upto_region 25 with (fail)
      have HM2 := Aside0.mk (HM.out.set (by have := HO.out; omega) (HE.out 10 (by decide)))
      change Aside0 (MkAt (wr.setCell ⟨g, i * 18 + 10, none⟩ (.string (markB (N + 10)))) g sz E (i * 18 + 11)) at HM2
      have HB2 := Aside0.mk (HB.out.setCell (p := ⟨g, i * 18 + 10, none⟩) HG.out (.string (markB (N + 10))))
      have HK2 := Aside0.mk (HK.out.setCell (p := ⟨g, i * 18 + 10, none⟩) (.inl HP.out) (.string (markB (N + 10))))
      generalize wr.setCell ⟨g, i * 18 + 10, none⟩ (.string (markB (N + 10))) = w3 at HM2 HB2 HK2 ⊢
      clear hc hf HM HB HK old
      have HM := HM2
      have HB := HB2
      have HK := HK2
      clear HM2 HB2 HK2
      obtain ⟨wr, rfl⟩ : ∃ z, z = w3 := ⟨_, rfl⟩
      obtain ⟨⟨old, hc⟩, hf⟩ := HM.out.cell (by have := HO.out; omega)
      go_upto_region 27 with (fail)
      have HM2 := Aside0.mk (HM.out.set (by have := HO.out; omega) (HE.out 11 (by decide)))
      change Aside0 (MkAt (wr.setCell ⟨g, i * 18 + 11, none⟩ (.int .i64 (N + 11))) g sz E (i * 18 + 12)) at HM2
      have HB2 := Aside0.mk (HB.out.setCell (p := ⟨g, i * 18 + 11, none⟩) HG.out (.int .i64 (N + 11)))
      have HK2 := Aside0.mk (HK.out.setCell (p := ⟨g, i * 18 + 11, none⟩) (.inl HP.out) (.int .i64 (N + 11)))
      generalize wr.setCell ⟨g, i * 18 + 11, none⟩ (.int .i64 (N + 11)) = w3 at HM2 HB2 HK2 ⊢
      clear hc hf HM HB HK old
      have HM := HM2
      have HB := HB2
      have HK := HK2
      clear HM2 HB2 HK2
      obtain ⟨wr, rfl⟩ : ∃ z, z = w3 := ⟨_, rfl⟩
      obtain ⟨⟨old, hc⟩, hf⟩ := HM.out.cell (by have := HO.out; omega)
      go_upto_region 29 with (fail)
      have HM2 := Aside0.mk (HM.out.set (by have := HO.out; omega) (HE.out 12 (by decide)))
      change Aside0 (MkAt (wr.setCell ⟨g, i * 18 + 12, none⟩ (.int .i64 (N + 12))) g sz E (i * 18 + 13)) at HM2
      have HB2 := Aside0.mk (HB.out.setCell (p := ⟨g, i * 18 + 12, none⟩) HG.out (.int .i64 (N + 12)))
      have HK2 := Aside0.mk (HK.out.setCell (p := ⟨g, i * 18 + 12, none⟩) (.inl HP.out) (.int .i64 (N + 12)))
      generalize wr.setCell ⟨g, i * 18 + 12, none⟩ (.int .i64 (N + 12)) = w3 at HM2 HB2 HK2 ⊢
      clear hc hf HM HB HK old
      have HM := HM2
      have HB := HB2
      have HK := HK2
      clear HM2 HB2 HK2
      obtain ⟨wr, rfl⟩ : ∃ z, z = w3 := ⟨_, rfl⟩
      obtain ⟨⟨old, hc⟩, hf⟩ := HM.out.cell (by have := HO.out; omega)
      go_upto_region 31 with (fail)
      have HM2 := Aside0.mk (HM.out.set (by have := HO.out; omega) (HE.out 13 (by decide)))
      change Aside0 (MkAt (wr.setCell ⟨g, i * 18 + 13, none⟩ (.int .i64 (N + 13))) g sz E (i * 18 + 14)) at HM2
      have HB2 := Aside0.mk (HB.out.setCell (p := ⟨g, i * 18 + 13, none⟩) HG.out (.int .i64 (N + 13)))
      have HK2 := Aside0.mk (HK.out.setCell (p := ⟨g, i * 18 + 13, none⟩) (.inl HP.out) (.int .i64 (N + 13)))
      generalize wr.setCell ⟨g, i * 18 + 13, none⟩ (.int .i64 (N + 13)) = w3 at HM2 HB2 HK2 ⊢
      clear hc hf HM HB HK old
      have HM := HM2
      have HB := HB2
      have HK := HK2
      clear HM2 HB2 HK2
      obtain ⟨wr, rfl⟩ : ∃ z, z = w3 := ⟨_, rfl⟩
      obtain ⟨⟨old, hc⟩, hf⟩ := HM.out.cell (by have := HO.out; omega)
      go_upto_region 33 with (fail)
      have HM2 := Aside0.mk (HM.out.set (by have := HO.out; omega) (HE.out 14 (by decide)))
      change Aside0 (MkAt (wr.setCell ⟨g, i * 18 + 14, none⟩ (.int .i64 (N + 14))) g sz E (i * 18 + 15)) at HM2
      have HB2 := Aside0.mk (HB.out.setCell (p := ⟨g, i * 18 + 14, none⟩) HG.out (.int .i64 (N + 14)))
      have HK2 := Aside0.mk (HK.out.setCell (p := ⟨g, i * 18 + 14, none⟩) (.inl HP.out) (.int .i64 (N + 14)))
      generalize wr.setCell ⟨g, i * 18 + 14, none⟩ (.int .i64 (N + 14)) = w3 at HM2 HB2 HK2 ⊢
      clear hc hf HM HB HK old
      have HM := HM2
      have HB := HB2
      have HK := HK2
      clear HM2 HB2 HK2
      obtain ⟨wr, rfl⟩ : ∃ z, z = w3 := ⟨_, rfl⟩
      obtain ⟨⟨old, hc⟩, hf⟩ := HM.out.cell (by have := HO.out; omega)
      go_upto_region 35 with (fail)
      have HM2 := Aside0.mk (HM.out.set (by have := HO.out; omega) (HE.out 15 (by decide)))
      change Aside0 (MkAt (wr.setCell ⟨g, i * 18 + 15, none⟩ (.int .i64 (N + 15))) g sz E (i * 18 + 16)) at HM2
      have HB2 := Aside0.mk (HB.out.setCell (p := ⟨g, i * 18 + 15, none⟩) HG.out (.int .i64 (N + 15)))
      have HK2 := Aside0.mk (HK.out.setCell (p := ⟨g, i * 18 + 15, none⟩) (.inl HP.out) (.int .i64 (N + 15)))
      generalize wr.setCell ⟨g, i * 18 + 15, none⟩ (.int .i64 (N + 15)) = w3 at HM2 HB2 HK2 ⊢
      clear hc hf HM HB HK old
      have HM := HM2
      have HB := HB2
      have HK := HK2
      clear HM2 HB2 HK2
      obtain ⟨wr, rfl⟩ : ∃ z, z = w3 := ⟨_, rfl⟩
      obtain ⟨⟨old, hc⟩, hf⟩ := HM.out.cell (by have := HO.out; omega)
      go_upto_region 37 with (fail)
      have HM2 := Aside0.mk (HM.out.set (by have := HO.out; omega) (HE.out 16 (by decide)))
      change Aside0 (MkAt (wr.setCell ⟨g, i * 18 + 16, none⟩ (.int .i64 (N + 16))) g sz E (i * 18 + 17)) at HM2
      have HB2 := Aside0.mk (HB.out.setCell (p := ⟨g, i * 18 + 16, none⟩) HG.out (.int .i64 (N + 16)))
      have HK2 := Aside0.mk (HK.out.setCell (p := ⟨g, i * 18 + 16, none⟩) (.inl HP.out) (.int .i64 (N + 16)))
      generalize wr.setCell ⟨g, i * 18 + 16, none⟩ (.int .i64 (N + 16)) = w3 at HM2 HB2 HK2 ⊢
      clear hc hf HM HB HK old
      have HM := HM2
      have HB := HB2
      have HK := HK2
      clear HM2 HB2 HK2
      obtain ⟨wr, rfl⟩ : ∃ z, z = w3 := ⟨_, rfl⟩
      go_wp2_with fail
      refine (MT17.out _).mono ?_; rintro e w2 ⟨rfl, hd⟩
      replace HM := Aside0.mk (HM.out.below hd)
      replace HB := Aside0.mk (HB.out.trans (hd.mono HB.out.size))
      replace HK := Aside0.mk (HK.out.below hd)
      clear hd
      obtain ⟨wr, rfl⟩ : ∃ z, z = w2 := ⟨_, rfl⟩
      obtain ⟨⟨old, hc⟩, hf⟩ := HM.out.cell (by have := HO.out; omega)
      go_upto_region 39 with (fail)
      have HM2 := Aside0.mk (HM.out.set (by have := HO.out; omega) (HE.out 17 (by decide)))
      change Aside0 (MkAt (wr.setCell ⟨g, i * 18 + 17, none⟩ (.string (markB (N + 17)))) g sz E (i * 18 + 18)) at HM2
      have HB2 := Aside0.mk (HB.out.setCell (p := ⟨g, i * 18 + 17, none⟩) HG.out (.string (markB (N + 17))))
      have HK2 := Aside0.mk (HK.out.setCell (p := ⟨g, i * 18 + 17, none⟩) (.inl HP.out) (.string (markB (N + 17))))
      generalize wr.setCell ⟨g, i * 18 + 17, none⟩ (.string (markB (N + 17))) = w3 at HM2 HB2 HK2 ⊢
      clear hc hf HM HB HK old
      have HM := HM2
      have HB := HB2
      have HK := HK2
      clear HM2 HB2 HK2
      obtain ⟨wr, rfl⟩ : ∃ z, z = w3 := ⟨_, rfl⟩
      go_wp2
      go_roundw
      case rel => exact ⟨i + 1, by have := HI.out; omega, by rw [HNN.out]; push_cast; first | rfl | (congr 1; omega), by first | rfl | go_num, ⟨by rw [show (i + 1) * 18 = i * 18 + 18 by omega]; exact HM.out⟩, HB, HK⟩
      case measure => have := HI.out; simp [intOf]; omega
theorem mkAt_list {W : World} {g sz m : Nat} {E : List Value} (h : MkAt W g sz E m) (hE : E.length = m) (hm : m ≤ sz) : ∃ cur, W.heap[g]? = some (.cells cur 104 (0, 0)) ∧ cur.size = sz ∧ cur.toList.take m = E := by
  obtain ⟨cur, h1, h2, h3⟩ := h
  refine ⟨cur, h1, h2, List.ext_getElem? fun j => ?_⟩
  rw [List.getElem?_take]
  by_cases hj : j < m
  · rw [if_pos hj, ← h3 j hj]; simp
  · rw [if_neg hj, List.getElem?_eq_none (by omega)]
set_option maxRecDepth 100000 in
theorem markNil_walk (w : World) : Calls Tryz.prog 22 #[.slice none 0 0, .int .i64 1] w fun e w' => e = .returned (.int .i64 1) ∧ w' = w := by
  have c1 : decide ((0 : Int) < ((0 : Nat) : Int)) = false := rfl
  go_enter Tryz.func22, Tryz.ntmps22
  go_wp2
  refine wp_loop_rounds 1 ?_
  rw [rounds_succ]
  go_wp2
  go_ret
  exact ⟨rfl, rfl⟩
theorem markChangeS_walk (P0 : Nat → Prop) (v : Value) (L : List Ch) (w0 w : World) (hB : Below w0.heap.size w0 w) (ho : Kd.R k104 104 w w0.heap.size P0 v L) (hn : L.length ≤ 1000) :
    Calls Tryz.prog 22 #[v, .int .i64 1] w fun e w' => e = .returned (.int .i64 (1 + 18 * (L.length : Int))) ∧ Kd.R k104 104 w' w0.heap.size (fun k_ => (P0 k_ ∨ w.heap.size ≤ k_)) v (markCL 1 L.length) ∧ Below w0.heap.size w0 w' ∧ Kept w w' P0 := by
  obtain ⟨hok, inner, hown, hr⟩ := ho
  rcases hown.2 with ⟨rfl, h0⟩ | ⟨g, cap, cur, rfl, hg, hb, hnc, hcm, hcs, ht⟩
  · obtain rfl := List.eq_nil_of_length_eq_zero h0
    refine (markNil_walk w).mono ?_
    rintro e w' ⟨rfl, rfl⟩
    exact ⟨by simp, Kd.R_nil _ _ _ _ _, hB, Kept.refl _ _⟩
  · have hP := hok g rfl
    have hsz : L.length * 18 ≤ cur.size := by rw [hcs]; exact Nat.mul_le_mul_right 18 hnc
    refine (markRow_walk P0 g L.length cap cur.size w0 w hB hg hP ⟨cur, hb, rfl, fun m hm => absurd hm (Nat.not_lt_zero m)⟩ hsz hn).mono ?_
    rintro e w' ⟨rfl, hM, hB', hK⟩
    refine ⟨rfl, ?_, hB', hK⟩
    have hlen : (encChs (markCL 1 L.length)).length = L.length * 18 := by rw [encChs_len, markCL_length]
    obtain ⟨cur', hb', hs', ht'⟩ := mkAt_list hM hlen hsz
    have hown' : w'.ownsRow w0.heap.size 104 18 (.slice (some ⟨g, 0, none⟩) L.length cap) L.length (encChs (markCL 1 L.length)) := ⟨hlen, .inr ⟨g, cap, cur', rfl, hg, hb', hnc, hcm, by rw [hs', hcs]; rfl, ht'⟩⟩
    refine ⟨fun k hk => .inl (hok k hk), _, by rw [markCL_length]; exact hown', reps_encChs _ _ _ _⟩

end Go.Proofs.YthhmkbchdiflcaaGreatDoor.Q

/- The marks in changes, read again. -/
namespace Go.Proofs.YthhmkbchdiflcaaGreatDoor.Q
open Go.RowKit Go.Proofs.YthhmkbchdiflcaaGreatDoorW.PrintWords Go.Proofs.YthhmkbchdiflcaaGreatDoorW.PrintLast Go.Proofs.YthhmkbchdiflcaaGreatDoorW.PrintMore
attribute [local go_sem] max2_int min2_int max_two min_two max_three min_three max_four min_four   -- for this text's walks alone
set_option linter.unusedVariables false
set_option linter.unusedSimpArgs false

set_option maxHeartbeats 8000000 in
set_option maxRecDepth 100000 in
theorem heldChangeS_walk (w : World) (A : Option Addr) (n c0 : Nat) (hr : Kd.C k104 w A n (markCL 1 n)) (hn : n ≤ 1000) :
    Calls Tryz.prog 23 #[.slice A n c0, .int .i64 1] w fun e w' => e = .returned (.int .i64 (1 + 18 * (n : Int))) ∧ Below w.heap.size w w' := by
  have hu1 := Tryz.underlying104
  have hu2 := Tryz.underlying74
  have HR := Aside0.mk hr
  have HN := Aside0.mk hn
  clear hr hn
  go_enter Tryz.func23, Tryz.ntmps23
  go_wp2
  go_loopw [1, 5] (fun v1 v5 wr => ∃ i : Nat, i ≤ n ∧ v1 = .int .i64 (1 + 18 * (i : Int)) ∧ v5 = .int .i64 (i : Int) ∧ Aside0 (Below w.heap.size w wr)) (fun _ v5 _ => n - (intOf v5).toNat)
  case atStart => exact ⟨0, Nat.zero_le _, by simp, by simp, ⟨Below.refl _ _⟩⟩
  case round =>
    obtain ⟨i, hi, rfl, rfl, HB⟩ := hrel
    by_cases hlt : i < n
    case neg =>
      have hkl : i = n := by omega
      subst hkl
      have c1 : decide ((i : Int) < (i : Int)) = false := by simp
      clear hlt hi
      go_wp2
      go_ret
      exact ⟨rfl, HB.out⟩
    case pos =>
      have HI := Aside0.mk hlt
      have hat := at_T104 HR.out (i : Int) (by omega) (by omega)
      have hrd : rd_T104 (markCL 1 n) (i : Int) = markC (1 + 18 * (i : Int)) := by
        show chAt (markCL 1 n) i = _
        rw [chAt_get _ _ (by rw [markCL_length]; exact hlt), markCL_at n 1 i hlt]
      rw [hrd] at hat
      obtain ⟨N, hN⟩ : ∃ N : Int, N = 1 + 18 * (i : Int) := ⟨_, rfl⟩
      have HNN := Aside0.mk hN
      have h0 : 0 ≤ N := by omega
      have h1 : N ≤ 4611686018427387000 := by have := HN.out; omega
      rw [← hN] at hat ⊢
      simp only [Int.toNat_natCast] at hat
      obtain ⟨ad, rfl, e0, e1, e2, e3, e4, e5, e6, e7, e8, e9, e10, e11, e12, e13, e14, e15, e16, e17⟩ := hat
      have CK0 : Aside0 (∀ W, Below w.heap.size w W → W.cell? (ad.add (i * 18)) = some (.int .i64 N)) := ⟨fun W hb => (hb.cell (World.block_lt_of_cell? w _ e0)).trans e0⟩
      have CK1 : Aside0 (∀ W, Below w.heap.size w W → W.cell? ⟨(ad.add (i * 18)).block, (ad.add (i * 18)).off + 1, none⟩ = some (.string (markB (N + 1)))) := ⟨fun W hb => (hb.cell (World.block_lt_of_cell? w _ e1)).trans e1⟩
      have CK2 : Aside0 (∀ W, Below w.heap.size w W → W.cell? ⟨(ad.add (i * 18)).block, (ad.add (i * 18)).off + 2, none⟩ = some (.string (markB (N + 2)))) := ⟨fun W hb => (hb.cell (World.block_lt_of_cell? w _ e2)).trans e2⟩
      have CK3 : Aside0 (∀ W, Below w.heap.size w W → W.cell? ⟨(ad.add (i * 18)).block, (ad.add (i * 18)).off + 3, none⟩ = some (.int .i64 (N + 3))) := ⟨fun W hb => (hb.cell (World.block_lt_of_cell? w _ e3)).trans e3⟩
      have CK4 : Aside0 (∀ W, Below w.heap.size w W → W.cell? ⟨(ad.add (i * 18)).block, (ad.add (i * 18)).off + 4, none⟩ = some (.int .i64 (N + 4))) := ⟨fun W hb => (hb.cell (World.block_lt_of_cell? w _ e4)).trans e4⟩
      have CK5 : Aside0 (∀ W, Below w.heap.size w W → W.cell? ⟨(ad.add (i * 18)).block, (ad.add (i * 18)).off + 5, none⟩ = some (.int .i64 (N + 5))) := ⟨fun W hb => (hb.cell (World.block_lt_of_cell? w _ e5)).trans e5⟩
      have CK6 : Aside0 (∀ W, Below w.heap.size w W → W.cell? ⟨(ad.add (i * 18)).block, (ad.add (i * 18)).off + 6, none⟩ = some (.int .i64 (N + 6))) := ⟨fun W hb => (hb.cell (World.block_lt_of_cell? w _ e6)).trans e6⟩
      have CK7 : Aside0 (∀ W, Below w.heap.size w W → W.cell? ⟨(ad.add (i * 18)).block, (ad.add (i * 18)).off + 7, none⟩ = some (.int .i64 (N + 7))) := ⟨fun W hb => (hb.cell (World.block_lt_of_cell? w _ e7)).trans e7⟩
      have CK8 : Aside0 (∀ W, Below w.heap.size w W → W.cell? ⟨(ad.add (i * 18)).block, (ad.add (i * 18)).off + 8, none⟩ = some (.int .i64 (N + 8))) := ⟨fun W hb => (hb.cell (World.block_lt_of_cell? w _ e8)).trans e8⟩
      have CK9 : Aside0 (∀ W, Below w.heap.size w W → W.cell? ⟨(ad.add (i * 18)).block, (ad.add (i * 18)).off + 9, none⟩ = some (.string (markB (N + 9)))) := ⟨fun W hb => (hb.cell (World.block_lt_of_cell? w _ e9)).trans e9⟩
      have CK10 : Aside0 (∀ W, Below w.heap.size w W → W.cell? ⟨(ad.add (i * 18)).block, (ad.add (i * 18)).off + 10, none⟩ = some (.string (markB (N + 10)))) := ⟨fun W hb => (hb.cell (World.block_lt_of_cell? w _ e10)).trans e10⟩
      have CK11 : Aside0 (∀ W, Below w.heap.size w W → W.cell? ⟨(ad.add (i * 18)).block, (ad.add (i * 18)).off + 11, none⟩ = some (.int .i64 (N + 11))) := ⟨fun W hb => (hb.cell (World.block_lt_of_cell? w _ e11)).trans e11⟩
      have CK12 : Aside0 (∀ W, Below w.heap.size w W → W.cell? ⟨(ad.add (i * 18)).block, (ad.add (i * 18)).off + 12, none⟩ = some (.int .i64 (N + 12))) := ⟨fun W hb => (hb.cell (World.block_lt_of_cell? w _ e12)).trans e12⟩
      have CK13 : Aside0 (∀ W, Below w.heap.size w W → W.cell? ⟨(ad.add (i * 18)).block, (ad.add (i * 18)).off + 13, none⟩ = some (.int .i64 (N + 13))) := ⟨fun W hb => (hb.cell (World.block_lt_of_cell? w _ e13)).trans e13⟩
      have CK14 : Aside0 (∀ W, Below w.heap.size w W → W.cell? ⟨(ad.add (i * 18)).block, (ad.add (i * 18)).off + 14, none⟩ = some (.int .i64 (N + 14))) := ⟨fun W hb => (hb.cell (World.block_lt_of_cell? w _ e14)).trans e14⟩
      have CK15 : Aside0 (∀ W, Below w.heap.size w W → W.cell? ⟨(ad.add (i * 18)).block, (ad.add (i * 18)).off + 15, none⟩ = some (.int .i64 (N + 15))) := ⟨fun W hb => (hb.cell (World.block_lt_of_cell? w _ e15)).trans e15⟩
      have CK16 : Aside0 (∀ W, Below w.heap.size w W → W.cell? ⟨(ad.add (i * 18)).block, (ad.add (i * 18)).off + 16, none⟩ = some (.int .i64 (N + 16))) := ⟨fun W hb => (hb.cell (World.block_lt_of_cell? w _ e16)).trans e16⟩
      have CK17 : Aside0 (∀ W, Below w.heap.size w W → W.cell? ⟨(ad.add (i * 18)).block, (ad.add (i * 18)).off + 17, none⟩ = some (.string (markB (N + 17)))) := ⟨fun W hb => (hb.cell (World.block_lt_of_cell? w _ e17)).trans e17⟩
      clear e0 e1 e2 e3 e4 e5 e6 e7 e8 e9 e10 e11 e12 e13 e14 e15 e16 e17
      have MT1 := Aside0.mk (fun W => markText_call (N + 1) (by omega) (by omega) W)
      have MT2 := Aside0.mk (fun W => markText_call (N + 2) (by omega) (by omega) W)
      have MT9 := Aside0.mk (fun W => markText_call (N + 9) (by omega) (by omega) W)
      have MT10 := Aside0.mk (fun W => markText_call (N + 10) (by omega) (by omega) W)
      have MT17 := Aside0.mk (fun W => markText_call (N + 17) (by omega) (by omega) W)
      have w1 : IntKind.i64.wrap (N + 1) = N + 1 := (i64_w _).trans (wr1 h0 h1)
      have w2 : IntKind.i64.wrap (N + 1 + 1) = N + 2 := (i64_w _).trans (wrq h0 h1 1 2 (by decide) rfl)
      have w3 : IntKind.i64.wrap (N + 2 + 1) = N + 3 := (i64_w _).trans (wrq h0 h1 2 3 (by decide) rfl)
      have w4 : IntKind.i64.wrap (N + 3 + 1) = N + 4 := (i64_w _).trans (wrq h0 h1 3 4 (by decide) rfl)
      have w5 : IntKind.i64.wrap (N + 4 + 1) = N + 5 := (i64_w _).trans (wrq h0 h1 4 5 (by decide) rfl)
      have w6 : IntKind.i64.wrap (N + 5 + 1) = N + 6 := (i64_w _).trans (wrq h0 h1 5 6 (by decide) rfl)
      have w7 : IntKind.i64.wrap (N + 6 + 1) = N + 7 := (i64_w _).trans (wrq h0 h1 6 7 (by decide) rfl)
      have w8 : IntKind.i64.wrap (N + 7 + 1) = N + 8 := (i64_w _).trans (wrq h0 h1 7 8 (by decide) rfl)
      have w9 : IntKind.i64.wrap (N + 8 + 1) = N + 9 := (i64_w _).trans (wrq h0 h1 8 9 (by decide) rfl)
      have w10 : IntKind.i64.wrap (N + 9 + 1) = N + 10 := (i64_w _).trans (wrq h0 h1 9 10 (by decide) rfl)
      have w11 : IntKind.i64.wrap (N + 10 + 1) = N + 11 := (i64_w _).trans (wrq h0 h1 10 11 (by decide) rfl)
      have w12 : IntKind.i64.wrap (N + 11 + 1) = N + 12 := (i64_w _).trans (wrq h0 h1 11 12 (by decide) rfl)
      have w13 : IntKind.i64.wrap (N + 12 + 1) = N + 13 := (i64_w _).trans (wrq h0 h1 12 13 (by decide) rfl)
      have w14 : IntKind.i64.wrap (N + 13 + 1) = N + 14 := (i64_w _).trans (wrq h0 h1 13 14 (by decide) rfl)
      have w15 : IntKind.i64.wrap (N + 14 + 1) = N + 15 := (i64_w _).trans (wrq h0 h1 14 15 (by decide) rfl)
      have w16 : IntKind.i64.wrap (N + 15 + 1) = N + 16 := (i64_w _).trans (wrq h0 h1 15 16 (by decide) rfl)
      have w17 : IntKind.i64.wrap (N + 16 + 1) = N + 17 := (i64_w _).trans (wrq h0 h1 16 17 (by decide) rfl)
      have w18 : IntKind.i64.wrap (N + 17 + 1) = N + 18 := (i64_w _).trans (wrq h0 h1 17 18 (by decide) rfl)
      have w19 : IntKind.i64.wrap ((i : Int) + 1) = ((i + 1 : Nat) : Int) := (i64_w _).trans (wri i (by have := HN.out; omega))
      have c1 : decide ((i : Int) < (n : Int)) = true := decide_eq_true (by omega)
      have p1 : ((0 : Int) ≤ (i : Int)) = True := eq_true (by omega)
      have p3 : ((i : Int) < (n : Int)) = True := eq_true (by omega)
      clear h0 h1 hN hlt hi hrd
      have b0 := CK0.out wr HB.out
      go_upto_region 7 with (fail)
      clear b0
      have b1 := CK1.out wr HB.out
      go_region_held3 (fun W => W.cell? ⟨(ad.add (i * 18)).block, (ad.add (i * 18)).off + 1, none⟩ = some (.string (markB (N + 1))))
        (first | exact b1 | exact CK1.out _ (below_step (below_drew1 HB.out) hd))
        (first | (go_at_call 74; refine (MT1.out wr.drew).mono ?_; rintro e w2 ⟨rfl, hd⟩))
      have HB2 := Aside0.mk (below_step (below_drew1 HB.out) hd)
      clear b1 hd HB
      have HB := HB2
      clear HB2
      obtain ⟨wr, rfl⟩ : ∃ z, z = w2 := ⟨_, rfl⟩
      go_upto_region 10 with (fail)
      have b2 := CK2.out wr HB.out
      go_region_held3 (fun W => W.cell? ⟨(ad.add (i * 18)).block, (ad.add (i * 18)).off + 2, none⟩ = some (.string (markB (N + 2))))
        (first | exact b2 | exact CK2.out _ (below_step (below_drew1 HB.out) hd))
        (first | (go_at_call 74; refine (MT2.out wr.drew).mono ?_; rintro e w2 ⟨rfl, hd⟩))
      have HB2 := Aside0.mk (below_step (below_drew1 HB.out) hd)
      clear b2 hd HB
      have HB := HB2
      clear HB2
      obtain ⟨wr, rfl⟩ : ∃ z, z = w2 := ⟨_, rfl⟩
      have b3 := CK3.out wr HB.out
      have b4 := CK4.out wr HB.out
      have b5 := CK5.out wr HB.out
      have b6 := CK6.out wr HB.out
      have b7 := CK7.out wr HB.out
      have b8 := CK8.out wr HB.out
      go_upto_region 31 with (fail)
      clear b3 b4 b5 b6 b7 b8
      have b9 := CK9.out wr HB.out
      go_region_held3 (fun W => W.cell? ⟨(ad.add (i * 18)).block, (ad.add (i * 18)).off + 9, none⟩ = some (.string (markB (N + 9))))
        (first | exact b9 | exact CK9.out _ (below_step (below_drew1 HB.out) hd))
        (first | (go_at_call 74; refine (MT9.out wr.drew).mono ?_; rintro e w2 ⟨rfl, hd⟩))
      have HB2 := Aside0.mk (below_step (below_drew1 HB.out) hd)
      clear b9 hd HB
      have HB := HB2
      clear HB2
      obtain ⟨wr, rfl⟩ : ∃ z, z = w2 := ⟨_, rfl⟩
      go_upto_region 34 with (fail)
      have b10 := CK10.out wr HB.out
      go_region_held3 (fun W => W.cell? ⟨(ad.add (i * 18)).block, (ad.add (i * 18)).off + 10, none⟩ = some (.string (markB (N + 10))))
        (first | exact b10 | exact CK10.out _ (below_step (below_drew1 HB.out) hd))
        (first | (go_at_call 74; refine (MT10.out wr.drew).mono ?_; rintro e w2 ⟨rfl, hd⟩))
      have HB2 := Aside0.mk (below_step (below_drew1 HB.out) hd)
      clear b10 hd HB
      have HB := HB2
      clear HB2
      obtain ⟨wr, rfl⟩ : ∃ z, z = w2 := ⟨_, rfl⟩
      have b11 := CK11.out wr HB.out
      have b12 := CK12.out wr HB.out
      have b13 := CK13.out wr HB.out
      have b14 := CK14.out wr HB.out
      have b15 := CK15.out wr HB.out
      have b16 := CK16.out wr HB.out
      go_upto_region 55 with (fail)
      clear b11 b12 b13 b14 b15 b16
      have b17 := CK17.out wr HB.out
      go_region_held3 (fun W => W.cell? ⟨(ad.add (i * 18)).block, (ad.add (i * 18)).off + 17, none⟩ = some (.string (markB (N + 17))))
        (first | exact b17 | exact CK17.out _ (below_step (below_drew1 HB.out) hd))
        (first | (go_at_call 74; refine (MT17.out wr.drew).mono ?_; rintro e w2 ⟨rfl, hd⟩))
      have HB2 := Aside0.mk (below_step (below_drew1 HB.out) hd)
      clear b17 hd HB
      have HB := HB2
      clear HB2
      obtain ⟨wr, rfl⟩ : ∃ z, z = w2 := ⟨_, rfl⟩
      go_wp2
      go_roundw
      case rel => exact ⟨i + 1, by have := HI.out; omega, by rw [HNN.out]; push_cast; first | rfl | (congr 1; omega), by first | rfl | go_num, HB⟩
      case measure => have := HI.out; simp [intOf]; omega

end Go.Proofs.YthhmkbchdiflcaaGreatDoor.Q

/- The law FnExactDiffItems, walked by hand: one way alone, the answers being known. -/
namespace Go.Proofs.YthhmkbchdiflcaaGreatDoor.Q
open Go.RowKit Go.Proofs.YthhmkbchdiflcaaGreatDoorW.PrintWords Go.Proofs.YthhmkbchdiflcaaGreatDoorW.PrintLast Go.Proofs.YthhmkbchdiflcaaGreatDoorW.PrintMore
attribute [local go_sem] max2_int min2_int max_two min_two max_three min_three max_four min_four   -- for this text's walks alone
set_option linter.unusedVariables false
set_option linter.unusedSimpArgs false

theorem R_kept {α : Type} {d : Kd α} {e base : Nat} {ok S : Nat → Prop} {W W2 : World} {v : Value} {xs : List α} (h : d.R e W base ok v xs) (hk : Kept W W2 S) (hd : ∀ k, ok k → ¬ S k) : d.R e W2 base ok v xs :=
  Kd.R_step h (fun k ho hlt => hk.2 k hlt (hd k ho))
theorem R_iv {α : Type} {d : Kd α} {e base : Nat} {ok : Nat → Prop} {W : World} {v : Value} {xs : List α} (h : d.R e W base ok v xs) : d.R e W base (fun k => base ≤ k ∧ k < W.heap.size) v xs :=
  Kd.R_mono (Kd.R_bound h) (fun _ hk => ⟨hk.2.1, hk.2.2.1⟩)
theorem changesOf_le (a b : List It) : (changesOf a b).length ≤ a.length + b.length := by
  unfold changesOf
  rw [List.length_append]
  exact Nat.add_le_add (List.length_filterMap_le _ _) (List.length_filterMap_le _ _)
theorem foldl_put_len : ∀ (xs l : List Ch), (xs.foldl putL l).length = l.length + xs.length
  | [], l => by simp
  | x :: r, l => by rw [List.foldl_cons, foldl_put_len r, putL_length, List.length_cons]; omega
theorem diffAns_le (a b : List It) : (diffAns a b).1.length ≤ 80 := by
  unfold diffAns
  split
  · rename_i h
    have ga : goodB a = true := by have := h.1; unfold loneB at this; simp at this; exact this.2
    have gb : goodB b = true := by have := h.2; unfold loneB at this; simp at this; exact this.2
    show (diffL a b).length ≤ 80
    rw [show diffL a b = (changesOf a b).foldl putL [] from rfl, foldl_put_len]
    have := changesOf_le a b; have := good_le ga; have := good_le gb
    simp; omega
  · simp
theorem markItemS_evn (l : List It) (n : Int) (hl : l.length ≤ 1759218604391) (h0 : 0 ≤ n) (h1 : n ≤ 100000000) : Ev (fun k => laws_markItemS.f k l n) (n + 8 * (l.length : Int), markIL n l.length) := by
  have := markItemS_loop l.length l 0 n (by omega) hl h0 (by omega)
  unfold laws_markItemS.f
  simpa using this
set_option maxHeartbeats 8000000 in
set_option maxRecDepth 100000 in
theorem lawDiff_walk (A0 : Option Addr) (c0 : Nat) (l0 : List Li) (A1 : Option Addr) (c1 : Nat) (l1 : List Li) (w : World) (hr0 : Kd.C k73 w A0 l0.length l0) (hc0 : l0.length ≤ c0) (hl0 : l0.length ≤ maxLen) (hs0 : ∀ x ∈ l0, x.f0.size ≤ maxLen ∧ x.f7.size ≤ maxLen)
    (hr1 : Kd.C k73 w A1 l1.length l1) (hc1 : l1.length ≤ c1) (hl1 : l1.length ≤ maxLen) (hs1 : ∀ x ∈ l1, x.f0.size ≤ maxLen ∧ x.f7.size ≤ maxLen) :
    Calls Tryz.prog 5 #[.slice A0 l0.length c0, .slice A1 l1.length c1] w fun e w' => e = .returned (.bool true) ∧ Below w.heap.size w w' := by
  obtain ⟨r0, ⟨K0, hz0⟩, hq0, hp0⟩ := szItemS_ev l0 hl0 hs0 1048576 (by omega) (by omega)
  have HSZ0 := Aside0.mk (laws_szItemS.calls K0 A0 c0 l0 1048576 r0 w hr0 hc0 (hz0 K0 (Nat.le_refl _)))
  have HR0 := Aside0.mk hr0
  have HC0 := Aside0.mk hc0
  have HR1 := Aside0.mk hr1
  have HC1 := Aside0.mk hc1
  clear hr0 hc0 hr1 hc1 hz0
  by_cases h : r0 < 0
  · clear hq0 hp0 hl0 hs0 hl1 hs1
    have h1 : decide (r0 < 0) = true := decide_eq_true h
    go_enter Tryz.func5, Tryz.ntmps5
    go_wp2_with fail
    refine HSZ0.out.mono ?_; rintro e w1 ⟨rfl, hd⟩
    go_wp2
    go_ret
    exact ⟨rfl, hd⟩
  have h1 : decide (r0 < 0) = false := decide_eq_false h
  obtain ⟨z0, z1⟩ := hp0 (by omega)
  obtain ⟨r1, ⟨K1, hz1⟩, hq1, hp1⟩ := szItemS_ev l1 hl1 hs1 r0 (by omega) (by omega)
  have HSZ1 := Aside0.mk (fun W (hb : Below w.heap.size w W) => laws_szItemS.calls K1 A1 c1 l1 r0 r1 W (Kd.C_below HR1.out hb) HC1.out (hz1 K1 (Nat.le_refl _)))
  clear hz1
  by_cases h' : r1 < 0
  · clear hq0 hp0 hl0 hs0 hl1 hs1 hp1 hq1 z0 z1 h
    have h2 : decide (r1 < 0) = true := decide_eq_true h'
    go_enter Tryz.func5, Tryz.ntmps5
    go_wp2_with fail
    refine HSZ0.out.mono ?_; rintro e w1 ⟨rfl, hd⟩
    have HB := Aside0.mk hd
    clear hd
    go_wp2_with fail
    refine (HSZ1.out _ HB.out).mono ?_; rintro e w2 ⟨rfl, hd⟩
    go_wp2
    go_ret
    exact ⟨rfl, below_step HB.out hd⟩
  have h2 : decide (r1 < 0) = false := decide_eq_false h'
  obtain ⟨z2, z3⟩ := hp1 (by omega)
  obtain ⟨a, ha⟩ : ∃ a, a = l0.map conv := ⟨_, rfl⟩
  obtain ⟨b, hb⟩ : ∃ b, b = l1.map conv := ⟨_, rfl⟩
  have lena : a.length ≤ 1048576 := by rw [ha, List.length_map]; exact z0
  have lenb : b.length ≤ 1048576 := by rw [hb, List.length_map]; exact z2
  have sa0 : ∀ i, (itAt a i).f0.size < 4294967281 := fun i => by rw [ha]; exact (conv_small l0 z1 i).1
  have sa7 : ∀ i, (itAt a i).f7.size < 4294967281 := fun i => by rw [ha]; exact (conv_small l0 z1 i).2
  have sb0 : ∀ i, (itAt b i).f0.size < 4294967281 := fun i => by rw [hb]; exact (conv_small l1 z3 i).1
  have sb7 : ∀ i, (itAt b i).f7.size < 4294967281 := fun i => by rw [hb]; exact (conv_small l1 z3 i).2
  obtain ⟨T0, t0⟩ := toItemS_ev l0 (by omega)
  obtain ⟨T1, t1⟩ := toItemS_ev l1 (by omega)
  rw [← ha] at t0
  rw [← hb] at t1
  obtain ⟨K2, e1⟩ := diff_ev a b sa0 sa7 sb0 sb7
  have hle := diffAns_le a b
  have CIM0 := fun (W : World) A c A' c' h1 h2 h3 h4 => diff_walk A A' c c' a b W h1 h2 h3 h4 sa0 sb0 (by omega) (by omega)
  obtain ⟨⟨g, q⟩, hR⟩ : ∃ R, R = diffAns a b := ⟨_, rfl⟩
  rw [← hR] at e1 hle CIM0
  simp only at hle CIM0
  obtain ⟨K4, eqA⟩ := eqItemS_ev a (by omega)
  obtain ⟨K5, eqB⟩ := eqItemS_ev b (by omega)
  obtain ⟨K6, mk0⟩ := markItemS_evn a 1 (by omega) (by omega) (by omega)
  obtain ⟨K7, mk1⟩ := markItemS_evn b (1 + 8 * (a.length : Int)) (by omega) (by omega) (by omega)
  have CT0 := Aside0.mk (fun W (hb : Below w.heap.size w W) => laws_toItemS.calls T0 A0 c0 l0 a W (Kd.C_below HR0.out hb) HC0.out (t0 T0 (Nat.le_refl _)))
  have CT1 := Aside0.mk (fun W (hb : Below w.heap.size w W) => laws_toItemS.calls T1 A1 c1 l1 b W (Kd.C_below HR1.out hb) HC1.out (t1 T1 (Nat.le_refl _)))
  have CSP := Aside0.mk (fun W A c A' c' h1 h2 h3 h4 => spec_DiffItems.calls K2 A c a A' c' b g q W h1 h2 h3 h4 (e1 K2 (Nat.le_refl _)))
  have CIM := Aside0.mk CIM0
  have CEC := Aside0.mk (fun W A c A' c' h1 h2 => eqChangeS_walk W A A' c c' g h1 h2 (by omega))
  have CEA := Aside0.mk (fun W A c A' c' h1 h2 h3 h4 => laws_eqItemS.calls K4 A c a A' c' a true W h1 h2 h3 h4 (eqA K4 (Nat.le_refl _)))
  have CEB := Aside0.mk (fun W A c A' c' h1 h2 h3 h4 => laws_eqItemS.calls K5 A c b A' c' b true W h1 h2 h3 h4 (eqB K5 (Nat.le_refl _)))
  have CMA := Aside0.mk (fun W P v hB ho => laws_markItemS.calls K6 P v a 1 _ _ w W hB ho (mk0 K6 (Nat.le_refl _)))
  have CMB := Aside0.mk (fun W P v hB ho => laws_markItemS.calls K7 P v b (1 + 8 * (a.length : Int)) _ _ w W hB ho (mk1 K7 (Nat.le_refl _)))
  have CMC := Aside0.mk (fun W P v hB ho => markChangeS_walk P v g w W hB ho (by omega))
  have CHC : Aside0 (∀ (W : World) (A : Option Addr) (c : Nat), Kd.C k104 W A (markCL 1 g.length).length (markCL 1 g.length) →
      Calls Tryz.prog 23 #[.slice A g.length c, .int .i64 1] W fun e w' => e = .returned (.int .i64 (1 + 18 * (g.length : Int))) ∧ Below W.heap.size W w') := ⟨fun W A c hr => heldChangeS_walk W A g.length c (by rw [markCL_length] at hr; exact hr) (by omega)⟩
  have q1 : decide (1 + 8 * (a.length : Int) + 8 * (b.length : Int) < 0) = false := decide_eq_false (by omega)
  have q2 : decide (1 + 18 * (g.length : Int) < 0) = false := decide_eq_false (by omega)
  clear hq0 hp0 hl0 hs0 hl1 hs1 hp1 hq1 z0 z1 z2 z3 h h' ha hb lena lenb sa0 sa7 sb0 sb7 t0 t1 e1 hle hR eqA eqB mk0 mk1 CIM0
  go_enter Tryz.func5, Tryz.ntmps5
  go_wp2_with fail
  refine (HSZ0.out).mono ?_; rintro e w1 ⟨rfl, hd⟩
  have D_w1 := Aside0.mk (hd)
  have S_w1 := Aside0.mk (show w.heap.size ≤ w1.heap.size from hd.size)
  clear hd
  go_wp2_with fail
  refine (HSZ1.out _ D_w1.out).mono ?_; rintro e w2 ⟨rfl, hd⟩
  have D_w2 := Aside0.mk (below_step D_w1.out hd)
  have S_w2 := Aside0.mk (show w1.heap.size ≤ w2.heap.size from hd.size)
  clear hd
  go_wp2_with fail
  refine (CT0.out _ D_w2.out).mono ?_; rintro e w3 ⟨v, rfl, hR, hd⟩
  have D_w3 := Aside0.mk (below_step D_w2.out hd)
  have S_w3 := Aside0.mk (show w2.heap.size ≤ w3.heap.size from hd.size)
  have R_a := Aside0.mk (R_iv hR)
  obtain ⟨A_a, c_a, rfl⟩ := Kd.R_slice hR
  clear hR
  clear hd
  go_wp2_with fail
  refine (CT1.out _ D_w3.out).mono ?_; rintro e w4 ⟨v, rfl, hR, hd⟩
  have D_w4 := Aside0.mk (below_step D_w3.out hd)
  have S_w4 := Aside0.mk (show w3.heap.size ≤ w4.heap.size from hd.size)
  replace R_a := Aside0.mk (Kd.R_below R_a.out hd)
  have R_b := Aside0.mk (R_iv hR)
  obtain ⟨A_b, c_b, rfl⟩ := Kd.R_slice hR
  clear hR
  clear hd
  go_wp2_with fail
  refine (CSP.out _ _ _ _ _ (Kd.R_reads' R_a.out).2.2 (Kd.R_reads' R_a.out).2.1 (Kd.R_reads' R_b.out).2.2 (Kd.R_reads' R_b.out).2.1).mono ?_; rintro e w5 ⟨v, rfl, hR, hd⟩
  have D_w5 := Aside0.mk (below_step D_w4.out hd)
  have S_w5 := Aside0.mk (show w4.heap.size ≤ w5.heap.size from hd.size)
  replace R_a := Aside0.mk (Kd.R_below R_a.out hd)
  replace R_b := Aside0.mk (Kd.R_below R_b.out hd)
  have R_S := Aside0.mk (R_iv hR)
  obtain ⟨A_S, c_S, rfl⟩ := Kd.R_slice hR
  clear hR
  clear hd
  clear R_a
  clear R_b
  go_wp2_with fail
  refine (CT0.out _ D_w5.out).mono ?_; rintro e w6 ⟨v, rfl, hR, hd⟩
  have D_w6 := Aside0.mk (below_step D_w5.out hd)
  have S_w6 := Aside0.mk (show w5.heap.size ≤ w6.heap.size from hd.size)
  replace R_S := Aside0.mk (Kd.R_below R_S.out hd)
  have R_x0 := Aside0.mk (R_iv hR)
  obtain ⟨A_x0, c_x0, rfl⟩ := Kd.R_slice hR
  clear hR
  clear hd
  go_wp2_with fail
  refine (CT1.out _ D_w6.out).mono ?_; rintro e w7 ⟨v, rfl, hR, hd⟩
  have D_w7 := Aside0.mk (below_step D_w6.out hd)
  have S_w7 := Aside0.mk (show w6.heap.size ≤ w7.heap.size from hd.size)
  replace R_S := Aside0.mk (Kd.R_below R_S.out hd)
  replace R_x0 := Aside0.mk (Kd.R_below R_x0.out hd)
  have R_x1 := Aside0.mk (R_iv hR)
  obtain ⟨A_x1, c_x1, rfl⟩ := Kd.R_slice hR
  clear hR
  clear hd
  go_wp2_with fail
  refine (CIM.out _ _ _ _ _ (Kd.R_reads' R_x0.out).2.2 (Kd.R_reads' R_x1.out).2.2 (Kd.R_reads' R_x0.out).2.1 (Kd.R_reads' R_x1.out).2.1).mono ?_; rintro e w8 ⟨v, rfl, hR, hd⟩
  have D_w8 := Aside0.mk (below_step D_w7.out hd)
  have S_w8 := Aside0.mk (show w7.heap.size ≤ w8.heap.size from hd.size)
  replace R_S := Aside0.mk (Kd.R_below R_S.out hd)
  replace R_x0 := Aside0.mk (Kd.R_below R_x0.out hd)
  replace R_x1 := Aside0.mk (Kd.R_below R_x1.out hd)
  replace hR := chs_R hR
  have R_G := Aside0.mk (R_iv hR)
  obtain ⟨A_G, c_G, rfl⟩ := Kd.R_slice hR
  clear hR
  clear hd
  go_wp2_with fail
  refine (CEC.out _ _ _ _ _ (Kd.R_reads' R_G.out).2.2 (Kd.R_reads' R_S.out).2.2).mono ?_; rintro e w9 ⟨rfl, hd⟩
  have D_w9 := Aside0.mk (below_step D_w8.out hd)
  have S_w9 := Aside0.mk (show w8.heap.size ≤ w9.heap.size from hd.size)
  replace R_S := Aside0.mk (Kd.R_below R_S.out hd)
  replace R_x0 := Aside0.mk (Kd.R_below R_x0.out hd)
  replace R_x1 := Aside0.mk (Kd.R_below R_x1.out hd)
  replace R_G := Aside0.mk (Kd.R_below R_G.out hd)
  clear hd
  go_wp2_with fail
  refine (CT0.out _ D_w9.out).mono ?_; rintro e w10 ⟨v, rfl, hR, hd⟩
  have D_w10 := Aside0.mk (below_step D_w9.out hd)
  have S_w10 := Aside0.mk (show w9.heap.size ≤ w10.heap.size from hd.size)
  replace R_S := Aside0.mk (Kd.R_below R_S.out hd)
  replace R_x0 := Aside0.mk (Kd.R_below R_x0.out hd)
  replace R_x1 := Aside0.mk (Kd.R_below R_x1.out hd)
  replace R_G := Aside0.mk (Kd.R_below R_G.out hd)
  have R_t := Aside0.mk (R_iv hR)
  obtain ⟨A_t, c_t, rfl⟩ := Kd.R_slice hR
  clear hR
  clear hd
  go_wp2_with fail
  refine (CEA.out _ _ _ _ _ (Kd.R_reads' R_x0.out).2.2 (Kd.R_reads' R_x0.out).2.1 (Kd.R_reads' R_t.out).2.2 (Kd.R_reads' R_t.out).2.1).mono ?_; rintro e w11 ⟨rfl, hd⟩
  have D_w11 := Aside0.mk (below_step D_w10.out hd)
  have S_w11 := Aside0.mk (show w10.heap.size ≤ w11.heap.size from hd.size)
  replace R_S := Aside0.mk (Kd.R_below R_S.out hd)
  replace R_x0 := Aside0.mk (Kd.R_below R_x0.out hd)
  replace R_x1 := Aside0.mk (Kd.R_below R_x1.out hd)
  replace R_G := Aside0.mk (Kd.R_below R_G.out hd)
  replace R_t := Aside0.mk (Kd.R_below R_t.out hd)
  clear hd
  clear R_t
  go_wp2_with fail
  refine (CT1.out _ D_w11.out).mono ?_; rintro e w12 ⟨v, rfl, hR, hd⟩
  have D_w12 := Aside0.mk (below_step D_w11.out hd)
  have S_w12 := Aside0.mk (show w11.heap.size ≤ w12.heap.size from hd.size)
  replace R_S := Aside0.mk (Kd.R_below R_S.out hd)
  replace R_x0 := Aside0.mk (Kd.R_below R_x0.out hd)
  replace R_x1 := Aside0.mk (Kd.R_below R_x1.out hd)
  replace R_G := Aside0.mk (Kd.R_below R_G.out hd)
  have R_t := Aside0.mk (R_iv hR)
  obtain ⟨A_t, c_t, rfl⟩ := Kd.R_slice hR
  clear hR
  clear hd
  go_wp2_with fail
  refine (CEB.out _ _ _ _ _ (Kd.R_reads' R_x1.out).2.2 (Kd.R_reads' R_x1.out).2.1 (Kd.R_reads' R_t.out).2.2 (Kd.R_reads' R_t.out).2.1).mono ?_; rintro e w13 ⟨rfl, hd⟩
  have D_w13 := Aside0.mk (below_step D_w12.out hd)
  have S_w13 := Aside0.mk (show w12.heap.size ≤ w13.heap.size from hd.size)
  replace R_S := Aside0.mk (Kd.R_below R_S.out hd)
  replace R_x0 := Aside0.mk (Kd.R_below R_x0.out hd)
  replace R_x1 := Aside0.mk (Kd.R_below R_x1.out hd)
  replace R_G := Aside0.mk (Kd.R_below R_G.out hd)
  replace R_t := Aside0.mk (Kd.R_below R_t.out hd)
  clear hd
  clear R_t
  go_wp2_with fail
  refine (CMA.out _ (fun k => w5.heap.size ≤ k ∧ k < w6.heap.size) _ D_w13.out (Kd.R_lower R_x0.out D_w5.out.size)).mono ?_; rintro e w14 ⟨rfl, hm, hD, hk⟩
  have D_w14 := Aside0.mk hD
  have S_w14 := Aside0.mk (show w13.heap.size ≤ w14.heap.size from hk.1)
  replace R_S := Aside0.mk (R_kept R_S.out hk (fun k hk h => by have := S_w1.out; have := S_w2.out; have := S_w3.out; have := S_w4.out; have := S_w5.out; have := S_w6.out; have := S_w7.out; have := S_w8.out; have := S_w9.out; have := S_w10.out; have := S_w11.out; have := S_w12.out; have := S_w13.out; have := hk.1; have := hk.2; have := h.1; have := h.2; omega))
  replace R_x1 := Aside0.mk (R_kept R_x1.out hk (fun k hk h => by have := S_w1.out; have := S_w2.out; have := S_w3.out; have := S_w4.out; have := S_w5.out; have := S_w6.out; have := S_w7.out; have := S_w8.out; have := S_w9.out; have := S_w10.out; have := S_w11.out; have := S_w12.out; have := S_w13.out; have := hk.1; have := hk.2; have := h.1; have := h.2; omega))
  replace R_G := Aside0.mk (R_kept R_G.out hk (fun k hk h => by have := S_w1.out; have := S_w2.out; have := S_w3.out; have := S_w4.out; have := S_w5.out; have := S_w6.out; have := S_w7.out; have := S_w8.out; have := S_w9.out; have := S_w10.out; have := S_w11.out; have := S_w12.out; have := S_w13.out; have := hk.1; have := hk.2; have := h.1; have := h.2; omega))
  clear R_x0
  have R_x0 := Aside0.mk hm
  clear hm hD hk
  clear R_x0
  go_wp2_with fail
  refine (CMB.out _ (fun k => w6.heap.size ≤ k ∧ k < w7.heap.size) _ D_w14.out (Kd.R_lower R_x1.out D_w6.out.size)).mono ?_; rintro e w15 ⟨rfl, hm, hD, hk⟩
  have D_w15 := Aside0.mk hD
  have S_w15 := Aside0.mk (show w14.heap.size ≤ w15.heap.size from hk.1)
  replace R_S := Aside0.mk (R_kept R_S.out hk (fun k hk h => by have := S_w1.out; have := S_w2.out; have := S_w3.out; have := S_w4.out; have := S_w5.out; have := S_w6.out; have := S_w7.out; have := S_w8.out; have := S_w9.out; have := S_w10.out; have := S_w11.out; have := S_w12.out; have := S_w13.out; have := S_w14.out; have := hk.1; have := hk.2; have := h.1; have := h.2; omega))
  replace R_G := Aside0.mk (R_kept R_G.out hk (fun k hk h => by have := S_w1.out; have := S_w2.out; have := S_w3.out; have := S_w4.out; have := S_w5.out; have := S_w6.out; have := S_w7.out; have := S_w8.out; have := S_w9.out; have := S_w10.out; have := S_w11.out; have := S_w12.out; have := S_w13.out; have := S_w14.out; have := hk.1; have := hk.2; have := h.1; have := h.2; omega))
  clear R_x1
  have R_x1 := Aside0.mk hm
  clear hm hD hk
  clear R_x1
  go_wp2_with fail
  refine (CEC.out _ _ _ _ _ (Kd.R_reads' R_G.out).2.2 (Kd.R_reads' R_S.out).2.2).mono ?_; rintro e w16 ⟨rfl, hd⟩
  have D_w16 := Aside0.mk (below_step D_w15.out hd)
  have S_w16 := Aside0.mk (show w15.heap.size ≤ w16.heap.size from hd.size)
  replace R_S := Aside0.mk (Kd.R_below R_S.out hd)
  replace R_G := Aside0.mk (Kd.R_below R_G.out hd)
  clear hd
  go_wp2_with fail
  refine (CMC.out _ (fun k => w7.heap.size ≤ k ∧ k < w8.heap.size) _ D_w16.out (Kd.R_lower R_G.out D_w7.out.size)).mono ?_; rintro e w17 ⟨rfl, hm, hD, hk⟩
  have D_w17 := Aside0.mk hD
  have S_w17 := Aside0.mk (show w16.heap.size ≤ w17.heap.size from hk.1)
  replace R_S := Aside0.mk (R_kept R_S.out hk (fun k hk h => by have := S_w1.out; have := S_w2.out; have := S_w3.out; have := S_w4.out; have := S_w5.out; have := S_w6.out; have := S_w7.out; have := S_w8.out; have := S_w9.out; have := S_w10.out; have := S_w11.out; have := S_w12.out; have := S_w13.out; have := S_w14.out; have := S_w15.out; have := S_w16.out; have := hk.1; have := hk.2; have := h.1; have := h.2; omega))
  clear R_G
  have R_G := Aside0.mk hm
  clear hm hD hk
  go_wp2_with fail
  refine (CHC.out _ _ _ (Kd.R_reads' R_G.out).2.2).mono ?_; rintro e w18 ⟨rfl, hd⟩
  have D_w18 := Aside0.mk (below_step D_w17.out hd)
  have S_w18 := Aside0.mk (show w17.heap.size ≤ w18.heap.size from hd.size)
  replace R_S := Aside0.mk (Kd.R_below R_S.out hd)
  replace R_G := Aside0.mk (Kd.R_below R_G.out hd)
  clear hd
  go_wp2_with fail
  refine (CT0.out _ D_w18.out).mono ?_; rintro e w19 ⟨v, rfl, hR, hd⟩
  have D_w19 := Aside0.mk (below_step D_w18.out hd)
  have S_w19 := Aside0.mk (show w18.heap.size ≤ w19.heap.size from hd.size)
  replace R_S := Aside0.mk (Kd.R_below R_S.out hd)
  replace R_G := Aside0.mk (Kd.R_below R_G.out hd)
  have R_a := Aside0.mk (R_iv hR)
  obtain ⟨A_a, c_a, rfl⟩ := Kd.R_slice hR
  clear hR
  clear hd
  go_wp2_with fail
  refine (CT1.out _ D_w19.out).mono ?_; rintro e w20 ⟨v, rfl, hR, hd⟩
  have D_w20 := Aside0.mk (below_step D_w19.out hd)
  have S_w20 := Aside0.mk (show w19.heap.size ≤ w20.heap.size from hd.size)
  replace R_S := Aside0.mk (Kd.R_below R_S.out hd)
  replace R_G := Aside0.mk (Kd.R_below R_G.out hd)
  replace R_a := Aside0.mk (Kd.R_below R_a.out hd)
  have R_b := Aside0.mk (R_iv hR)
  obtain ⟨A_b, c_b, rfl⟩ := Kd.R_slice hR
  clear hR
  clear hd
  go_wp2_with fail
  refine (CIM.out _ _ _ _ _ (Kd.R_reads' R_a.out).2.2 (Kd.R_reads' R_b.out).2.2 (Kd.R_reads' R_a.out).2.1 (Kd.R_reads' R_b.out).2.1).mono ?_; rintro e w21 ⟨v, rfl, hR, hd⟩
  have D_w21 := Aside0.mk (below_step D_w20.out hd)
  have S_w21 := Aside0.mk (show w20.heap.size ≤ w21.heap.size from hd.size)
  replace R_S := Aside0.mk (Kd.R_below R_S.out hd)
  replace R_G := Aside0.mk (Kd.R_below R_G.out hd)
  replace R_a := Aside0.mk (Kd.R_below R_a.out hd)
  replace R_b := Aside0.mk (Kd.R_below R_b.out hd)
  replace hR := chs_R hR
  have R_H := Aside0.mk (R_iv hR)
  obtain ⟨A_H, c_H, rfl⟩ := Kd.R_slice hR
  clear hR
  clear hd
  clear R_a
  clear R_b
  go_wp2_with fail
  refine (CEC.out _ _ _ _ _ (Kd.R_reads' R_H.out).2.2 (Kd.R_reads' R_S.out).2.2).mono ?_; rintro e w22 ⟨rfl, hd⟩
  have D_w22 := Aside0.mk (below_step D_w21.out hd)
  have S_w22 := Aside0.mk (show w21.heap.size ≤ w22.heap.size from hd.size)
  replace R_S := Aside0.mk (Kd.R_below R_S.out hd)
  replace R_G := Aside0.mk (Kd.R_below R_G.out hd)
  replace R_H := Aside0.mk (Kd.R_below R_H.out hd)
  clear hd
  go_wp2_with fail
  refine (CHC.out _ _ _ (Kd.R_reads' R_G.out).2.2).mono ?_; rintro e w23 ⟨rfl, hd⟩
  have D_w23 := Aside0.mk (below_step D_w22.out hd)
  have S_w23 := Aside0.mk (show w22.heap.size ≤ w23.heap.size from hd.size)
  replace R_S := Aside0.mk (Kd.R_below R_S.out hd)
  replace R_G := Aside0.mk (Kd.R_below R_G.out hd)
  replace R_H := Aside0.mk (Kd.R_below R_H.out hd)
  clear hd
  go_wp2
  go_ret
  exact ⟨rfl, D_w23.out⟩

end Go.Proofs.YthhmkbchdiflcaaGreatDoor.Q
