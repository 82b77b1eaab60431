/- Texts of this claim, merged by a program (wip/tools/merge.py): HItoa, HPackItems, Q93, HPurePack. -/
import Derived.Test.YthhmkbchdiflcaaGreatDoorK1
import Derived.Test.YthhmkbchdiflcaaGreatDoorK3
import Derived.Test.YthhmkbchdiflcaaGreatDoorK17
import Derived.Shelf.Strconv.Itoa3
import Derived.Lib.AppendIntMem
import Derived.Test.YthhmkbchdiflcaaGreatDoorK16
import Derived.Test.YthhmkbchdiflcaaGreatDoorK13
import Derived.Test.YthhmkbchdiflcaaGreatDoorK4
import Derived.Shelf.Strings.OnBuilder
import Derived.Shelf.Strings.Builder1
import Derived.StillTailTactics
import Derived.Outline
import Derived.Deep.RegionHeld3
import Derived.Deep.DeepCutAuto
import Derived.Test.YthhmkbchdiflcaaGreatDoorK12
import Derived.Test.YthhmkbchdiflcaaGreatDoorK2
import Derived.Test.YthhmkbchdiflcaaGreatDoorK10
/- strconv.Itoa at every int. -/
namespace Go.Proofs.YthhmkbchdiflcaaGreatDoor.Q
open Go.RowKit Go.Proofs.YthhmkbchdiflcaaGreatDoorW.PrintWords Go.Proofs.YthhmkbchdiflcaaGreatDoorW.PrintLast Go.Proofs.YthhmkbchdiflcaaGreatDoorW.PrintMore
attribute [local go_sem] max2_int min2_int max_two min_two max_three min_three max_four min_four   -- for this text's walks alone
set_option linter.unusedVariables false
set_option linter.unusedSimpArgs false

def strItoa.f (n : Int) : Option ByteArray := if -9223372036854775808 ≤ n ∧ n ≤ 9223372036854775807 then some ⟨(Lib.itoa n).toArray⟩ else none
theorem strItoa.calls (a0 : Int) (r : ByteArray) (w : World) (h : strItoa.f a0 = some r) (hE : EnvT w) :
    Calls Tryz.prog 61 #[.int .i64 a0] w fun e w' => e = .returned (.string r) ∧ Below w.heap.size w w' := by
  unfold strItoa.f at h
  split at h
  case isFalse => cases h
  rename_i hr
  injection h with h
  subst h
  refine (Any.strconv_Itoa Tryz.laysM171 a0 hr.1 hr.2 w hE).mono ?_
  rintro e w' ⟨rfl, k, os, rfl⟩
  exact ⟨rfl, Lib.below_grow _ _ (Nat.le_refl _) _ _⟩

end Go.Proofs.YthhmkbchdiflcaaGreatDoor.Q

/- impl.PackItems: the walk. -/
namespace Go.Proofs.YthhmkbchdiflcaaGreatDoor.Q
open Go.RowKit Go.Proofs.YthhmkbchdiflcaaGreatDoorW.PrintWords Go.Proofs.YthhmkbchdiflcaaGreatDoorW.PrintLast Go.Proofs.YthhmkbchdiflcaaGreatDoorW.PrintMore
attribute [local go_sem] max2_int min2_int max_two min_two max_three min_three max_four min_four   -- for this text's walks alone
set_option linter.unusedVariables false
set_option linter.unusedSimpArgs false

def smallItems (l : List It) : Bool := l.all fun x => decide (x.f0.size < 4294967281 ∧ x.f7.size < 4294967281)
def impl_PackItems.f (l : List It) : Option (ByteArray × Bool) := if smallItems l = true then some (packB l) else none
theorem builderXJ : Builder.Extra Tryz.prog Tryz.lays156_ren where
  sizeBuilder := by kernel_rfl
  liesBuilder := by kernel_rfl
  t5 := Tryz.underlying5
  a5 := Tryz.isAgg5
  z5 := Tryz.sizeOf5
  v5 := Tryz.zeroValue5
  infoByte := by kernel_rfl
  cellsByte := by kernel_rfl
  sizeByte := by kernel_rfl
  neB5 := by decide
/-- A builder of the call's own, of a type and a byte's type of this program. -/
abbrev Bld (B b : Nat) (l : List UInt8) (w : World) : Prop := Lib.IsBuilder 79 5 B b (Lib.byteCells l) w
theorem owns_below {w w' : World} {B e size n : Nat} {v : Value} {xs : List Value} (h : w.ownsRow B e size v n xs) (hb : Below w.heap.size w w') : w'.ownsRow B e size v n xs := by
  obtain ⟨hl, h⟩ := h
  refine ⟨hl, ?_⟩
  rcases h with h | ⟨g, cap, cur, hv, hB, hg, r⟩
  · exact .inl h
  · refine .inr ⟨g, cap, cur, hv, hB, ?_, r⟩
    have : g < w.heap.size := by
      rcases Nat.lt_or_ge g w.heap.size with h' | h'
      · exact h'
      · rw [Array.getElem?_eq_none h'] at hg; cases hg
    rw [hb.block g this]; exact hg
theorem bldAt_below {w w' : World} {T e B b : Nat} {p : Value} {bs : List Value} (h : Lib.BuilderAt T e B b p bs w) (hb : Below w.heap.size w w') : Lib.BuilderAt T e B b p bs w' := by
  have hlt := h.lt
  obtain ⟨hB, v, hk, hown, hne⟩ := h
  exact ⟨hB, v, by rw [hb.block b hlt]; exact hk, owns_below hown hb, hne⟩
theorem bld_below {w w' : World} {B b : Nat} {l : List UInt8} (h : Bld B b l w) (hb : Below w.heap.size w w') : Bld B b l w' := by
  rcases h with h | h
  · exact .inl (bldAt_below h hb)
  · exact .inr (bldAt_below h hb)
theorem bld_new {w : World} {B b : Nat} (hB : B ≤ b) (h : w.heap[b]? = some (.cells #[.pointer none, .slice none 0 0] 79 (0, 0))) : Bld B b [] w :=
  .inl ⟨hB, .slice none 0 0, h, World.ownsRow_nil _ _ _ _, by simp [Value.ownBlock]⟩
theorem write_calls (B b : Nat) (l : List UInt8) (x : List UInt8) (w : World) (h : Bld B b l w) (hlen : l.length + x.length ≤ 140737488355328) (hBw : B ≤ w.heap.size) :
    Calls Tryz.prog 63 #[.pointer (some ⟨b, 0, none⟩), .string ⟨x.toArray⟩] w fun e w' => (∃ v, e = .returned v) ∧ Bld B b (l ++ x) w' ∧ Below B w w' :=
  (Any.Builder_WriteString { Tryz.lays156 with } builderXJ B b (Lib.byteCells l) ⟨x.toArray⟩ w h (by
    have e1 : (Lib.byteCells l).length = l.length := by simp [Lib.byteCells]
    have e2 : (⟨x.toArray⟩ : ByteArray).size = x.length := by simp [ByteArray.size]
    rw [e1, e2]; exact hlen) hBw).mono fun e w' ⟨he, hb, hw⟩ => ⟨⟨_, he⟩, by
      refine Or.inr ?_
      have e3 : Lib.byteCells (l ++ x) = Lib.byteCells l ++ Lib.strCells ⟨x.toArray⟩ := by rw [Lib.strCells_toArray]; simp [Lib.byteCells]
      rw [e3]; exact hb, hw⟩
theorem string_calls (B b : Nat) (l : List UInt8) (w : World) (h : Bld B b l w) (hBw : B ≤ w.heap.size) :
    Calls Tryz.prog 65 #[.pointer (some ⟨b, 0, none⟩)] w fun e w' => e = .returned (.string ⟨l.toArray⟩) ∧ Below B w w' :=
  Any.Builder_String_any { Tryz.lays156 with } builderXJ B b l w h hBw
theorem join_calls (bk o c : Nat) (xs : List ByteArray) (sep : ByteArray) (w : World)
    (hcells : ∀ (j : Nat) x, xs[j]? = some x → w.cell? ⟨bk, o + j, none⟩ = some (.string x))
    (hbk : bk < w.heap.size) (hN : xs.length ≤ 140737488355328) (hcap : xs.length ≤ c)
    (hlen : (Lib.join (xs.map (·.data.toList)) sep.data.toList).length ≤ 140737488355328) :
    Calls Tryz.prog 64 #[.slice (some ⟨bk, o, none⟩) xs.length c, .string sep] w fun e w' => e = .returned (.string ⟨(Lib.join (xs.map (·.data.toList)) sep.data.toList).toArray⟩) ∧ Below w.heap.size w w' :=
  Any.strings_Join Tryz.lays156 builderXJ bk o c xs sep w hcells hbk hN hcap hlen
theorem strInfo : (Tryz.prog.info? 9).map (fun i => (i.zero, i.size, i.bytes)) = some (some (.string ⟨#[]⟩), 1, 16) := by kernel_rfl
set_option maxHeartbeats 1000000 in
set_option maxRecDepth 100000 in
/-- Items that are not good. -/
theorem packItems_bad (A : Option Addr) (n c0 : Nat) (w : World) (H0 : Calls Tryz.prog 38 #[.slice A n c0] w fun e w' => e = .returned (.bool false) ∧ Below w.heap.size w w') :
    Calls Tryz.prog 13 #[.slice A n c0] w fun e w' => e = .returned (.tuple #[.string ⟨#[]⟩, .bool false]) ∧ Below w.heap.size w w' := by
  have H := Aside0.mk H0
  clear H0
  go_enter Tryz.func13, Tryz.ntmps13
  go_wp2_with fail
  refine H.out.mono ?_; rintro e w1 ⟨rfl, hd⟩
  go_wp2
  go_ret2
  exact ⟨rfl, hd⟩
theorem keep2 {w W : World} {a b : Addr} {u v : Value} (h1 : w.cell? a = some u) (h2 : w.cell? b = some v) (hb : Below w.heap.size w W) : W.cell? a = some u ∧ W.cell? b = some v :=
  ⟨(hb.cell (World.block_lt_of_cell? _ _ h1)).trans h1, (hb.cell (World.block_lt_of_cell? _ _ h2)).trans h2⟩
set_option maxHeartbeats 8000000 in
set_option maxRecDepth 100000 in
theorem packItems_loop (w : World) (ad : Addr) (c0 : Nat) (l : List It) (hc0 : l.length ≤ c0) (hr : Kd.C k74 w (some ad) l.length l) (hs : smallItems l = true) (hg : goodB l = true) (hE : EnvT w) (rt : ByteArray) (rb : Bool) (hres : packB l = (rt, rb)) :
    Calls Tryz.prog 13 #[.slice (some ad) l.length c0] w fun e w' => e = .returned (.tuple #[.string rt, .bool rb]) ∧ Below w.heap.size w w' := by
  have hu1 := Tryz.underlying74
  have hu2 := Tryz.underlying26
  have hsm : ∀ x ∈ l, x.f0.size < 4294967281 ∧ x.f7.size < 4294967281 := fun x hx => by simpa [smallItems] using List.all_eq_true.mp hs x hx
  have HG := Aside0.mk (impl_GoodItems.calls (some ad) c0 l true w hr hc0 (by
    unfold impl_GoodItems.f
    rw [if_pos (List.all_eq_true.mpr fun x hx => by simpa using (hsm x hx).1), hg]))
  have hlen : l.length ≤ 40 := by unfold goodB at hg; simp at hg; exact hg.2.1
  have HN : Aside0 (∀ k, k < l.length → NumsOk (itAt l k) ∧ (itAt l k).f0.size < 4294967281 ∧ (itAt l k).f7.size < 4294967281) := ⟨fun k hk => ⟨good_nums hg hk, by
    rw [show itAt l k = l[k] from rdI l k hk]; exact hsm _ (List.getElem_mem hk)⟩⟩
  have HR := Aside0.mk hr
  have HE := Aside0.mk hE
  have HPB : Aside0 (packB l = if l.all plainB = true then (⟨(packL l).toArray⟩, true) else (⟨#[]⟩, false)) := ⟨by unfold packB; simp only [hg, true_and]⟩
  have HL := Aside0.mk hlen
  have HRES := Aside0.mk hres
  clear hr hs hg hE hsm hc0 hlen hres
  go_enter Tryz.func13, Tryz.ntmps13
  go_wp2_with fail
  refine HG.out.mono ?_; rintro e w1 ⟨rfl, hd⟩
  have HB := Aside0.mk hd
  clear hd HG
  go_upto_region 4 with (fail)
  obtain ⟨gb, hgb⟩ : ∃ x, x = w1.heap.size := ⟨_, rfl⟩
  have hBK : (w1.alloc (.cells #[.pointer none, .slice none 0 0] 79)).heap[gb]? = some (.cells #[.pointer none, .slice none 0 0] 79 (0, 0)) := by rw [hgb]; exact blk_new _ _
  have hB2 : Below w.heap.size w (w1.alloc (.cells #[.pointer none, .slice none 0 0] 79)) := below_alloc HB.out _
  rw [← hgb]
  have hgw : w.heap.size ≤ gb := by rw [hgb]; exact HB.out.size
  generalize w1.alloc (.cells #[.pointer none, .slice none 0 0] 79) = w2 at hBK hB2 ⊢
  have HBK := Aside0.mk (bld_new hgw hBK)
  have HB2 := Aside0.mk hB2
  clear hBK hB2 hgw hgb HB
  go_wp2
  go_loopw [16] (fun i wr => ∃ k : Nat, k ≤ l.length ∧ i = .int .i64 k ∧ Aside0 (Bld w.heap.size gb (packL (l.take k)) wr) ∧ Aside0 (Below w.heap.size w wr) ∧ Aside0 (∀ j, j < k → plainB (itAt l j) = true))
    (fun i _ => l.length - (intOf i).toNat)
  case atStart => exact ⟨0, Nat.zero_le _, rfl, HBK, HB2, ⟨fun j hj => absurd hj (Nat.not_lt_zero j)⟩⟩
  case round =>
    obtain ⟨k, hk, rfl, HM, HW, HT⟩ := hrel
    by_cases hlt : k < l.length
    case neg =>
      have hkl : k = l.length := by omega
      subst hkl
      have hp : packB l = (⟨(packL l).toArray⟩, true) := by
        rw [HPB.out, if_pos (List.all_eq_true.mpr fun x hx => by
          obtain ⟨j, hj, rfl⟩ := List.getElem_of_mem hx
          have := HT.out j hj
          rwa [show itAt l j = l[j] from rdI l j hj] at this)]
      have hM := HM.out
      rw [List.take_of_length_le (Nat.le_refl _)] at hM
      have HS := Aside0.mk (string_calls _ _ _ _ hM HW.out.size)
      obtain ⟨rfl, rfl⟩ := Prod.mk.inj (HRES.out.symm.trans hp)
      clear hlt hM hp
      have c1 : decide ((l.length : Int) < (l.length : Int)) = false := by simp
      go_wp2_with fail
      refine HS.out.mono ?_; rintro e w3 ⟨rfl, hd⟩
      go_wp2
      go_ret2
      exact ⟨rfl, HW.out.trans hd⟩
    case pos =>
      obtain ⟨ad', e', cx⟩ := cells_at (Kd.C_below HR.out HW.out) k hlt
      obtain rfl : ad = ad' := by injection e'
      clear e'
      obtain ⟨hN, hS0, hS7⟩ := HN.out k hlt
      have hsn := all_snoc_take l k hlt
      obtain ⟨x, hx⟩ : ∃ x, x = itAt l k := ⟨_, rfl⟩
      rw [← hx] at cx hN hS0 hS7 hsn
      have HX := Aside0.mk hx
      have HSN := Aside0.mk hsn
      have HNUM := Aside0.mk hN
      have HCA := Aside0.mk (fun W => strings_ContainsAny.calls x.f7 ⟨#[9, 10]⟩ _ W (containsTab x.f7 hS7))
      have hpl : (x.f7.data.toList.all fun c => c != 9 && c != 10) = plainB x := rfl
      rw [hpl] at HCA
      have HS7 := Aside0.mk hS7
      have HS0 := Aside0.mk hS0
      have HWD : Aside0 (lineL x = Lib.join ((wordsB x).map (·.data.toList)) [9] ++ [10]) := ⟨rfl⟩
      have hwords : wordsB x = [numB x.f1, octB x.f2, numB x.f3, numB x.f4, numB x.f5, numB x.f6, x.f0, x.f7] := rfl
      have HIT : Aside0 (∀ n : Int, 0 ≤ n → n ≤ 1000000 → ∀ W, EnvT W → Calls Tryz.prog 61 #[.int .i64 n] W fun e w' => e = .returned (.string (numB n)) ∧ Below W.heap.size W w') := ⟨fun n h0 h1 W hE => strItoa.calls n _ W (by unfold strItoa.f; rw [if_pos ⟨by omega, by omega⟩, itoa_num n h0]) hE⟩
      have hm := hN.m
      have HOC := Aside0.mk (fun W => impl_octalText.calls x.f2 _ W (octB_eq x.f2 hm.1 hm.2))
      have HWO := Aside0.mk hwords
      have p1 : ((0 : Int) ≤ (k : Int)) = True := eq_true (by omega)
      have p3 : ((k : Int) < (l.length : Int)) = True := eq_true (by omega)
      have c1 : decide ((k : Int) < (l.length : Int)) = true := by simpa using hlt
      have HPL : Aside0 (plainB x = false → packB l = (⟨#[]⟩, false)) := ⟨fun h => by
        rw [HPB.out, if_neg (fun ha => by
          have := List.all_eq_true.mp ha (itAt l k) (by rw [show itAt l k = l[k] from rdI l k hlt]; exact List.getElem_mem hlt)
          rw [← hx, h] at this; cases this)]⟩
      clear hwords hN hS0 hS7 hsn hx hm hpl
      obtain ⟨x0, x1, x2, x3, x4, x5, x6, x7⟩ := x
      obtain ⟨hx0, hx1, hx2, hx3, hx4, hx5, hx6, hx7⟩ := cx
      simp only at hx0 hx1 hx2 hx3 hx4 hx5 hx6 hx7 HOC HCA
      by_cases hq : plainB ⟨x0, x1, x2, x3, x4, x5, x6, x7⟩ = true
      case neg =>
        have hq' : plainB ⟨x0, x1, x2, x3, x4, x5, x6, x7⟩ = false := by simpa using hq
        obtain ⟨rfl, rfl⟩ := Prod.mk.inj (HRES.out.symm.trans (HPL.out hq'))
        rw [hq'] at HCA
        clear hq hq' HPL
        go_wp2_with fail
        refine (HCA.out _).mono ?_; rintro e w3 ⟨rfl, hd⟩
        have hB3 : Below wr.heap.size wr w3 := below_step (by repeat (first | exact Below.refl _ _ | apply below_alloc | apply pw_below_drewN | apply below_drew1)) hd
        clear hd hx0 hx1 hx2 hx3 hx4 hx5 hx6 hx7
        go_wp2
        go_ret2
        exact ⟨rfl, HW.out.trans (hB3.mono HW.out.size)⟩
      case pos =>
        rw [hq] at HCA
        go_wp2_with fail
        refine (HCA.out _).mono ?_; rintro e w3 ⟨rfl, hd⟩
        obtain ⟨gx, hgx⟩ : ∃ y, y = wr.heap.size := ⟨_, rfl⟩
        have hlx : gx < (wr.alloc (.cells #[.string x0, .int .i64 x1, .int .i64 x2, .int .i64 x3, .int .i64 x4, .int .i64 x5, .int .i64 x6, .string x7] 74)).heap.size := by rw [hgx]; exact alloc_lt _ _
        have hbx : w3.heap[gx]? = some (.cells #[.string x0, .int .i64 x1, .int .i64 x2, .int .i64 x3, .int .i64 x4, .int .i64 x5, .int .i64 x6, .string x7] 74 (0, 0)) := (hd.block _ hlx).trans (by rw [hgx]; exact blk_new _ _)
        have hB3 : Below wr.heap.size wr w3 := below_step (by repeat (first | exact Below.refl _ _ | apply below_alloc | apply pw_below_drewN | apply below_drew1)) hd
        have HB3 : Aside0 (Below w.heap.size w w3) := ⟨HW.out.trans (hB3.mono HW.out.size)⟩
        have HM3 := Aside0.mk (bld_below HM.out hB3)
        rw [← hgx]
        have HBX := Aside0.mk hbx
        clear hd hx0 hx1 hx2 hx3 hx4 hx5 hx6 hx7 hlx hbx hB3 hgx HM HCA HPL
        have n1 := HNUM.out.k
        have HI1 := Aside0.mk (HIT.out x1 (by simp only at n1; omega) (by simp only at n1; omega))
        have c1 : w3.cell? ⟨gx, 1, none⟩ = some (.int .i64 x1) := (blk_cell HBX.out 1).trans rfl
        have c2 : w3.cell? ⟨gx, 2, none⟩ = some (.int .i64 x2) := (blk_cell HBX.out 2).trans rfl
        have hl3 := World.block_lt_of_cell? _ _ c1
        clear n1
        go_upto_region 9 with (fail)
        go_region_held3 (fun W => W.cell? ⟨gx, 1, none⟩ = some (.int .i64 x1) ∧ W.cell? ⟨gx, 2, none⟩ = some (.int .i64 x2)) (first | exact ⟨c1, c2⟩ | exact keep2 c1 c2 (below_step (below_drew1 (Below.refl _ _)) hd) | exact keep2 c1 c2 (below_step (below_step (below_drew1 (Below.refl _ _)) hd) hd') | exact keep2 c1 c2 (below_alloc (below_step (below_step (below_drew1 (Below.refl _ _)) hd) hd') _))
          (first | (go_at_call 61; refine (HI1.out w3.drew (HE.out.below (below_drew1 HB3.out))).mono ?_; rintro e w4 ⟨rfl, hd⟩) | (go_at_call 61; refine (HI1.out _ (HE.out.below (below_step (below_drew1 HB3.out) hd))).mono ?_; rintro e w5 ⟨rfl, hd'⟩) | (go_at_call 62; refine (HOC.out w3.drew).mono ?_; rintro e w4 ⟨rfl, hd⟩) | (go_at_call 62; refine (HOC.out _).mono ?_; rintro e w5 ⟨rfl, hd'⟩))
        go_upto_region 10 with (fail)
        have hb35 : Below w3.heap.size w3 w5 := below_step (below_step (below_drew1 (Below.refl _ _)) hd) hd'
        have HB5 : Aside0 (Below w.heap.size w w5) := ⟨HB3.out.trans (hb35.mono HB3.out.size)⟩
        have HM5 := Aside0.mk (bld_below HM3.out hb35)
        have HBX5 := Aside0.mk ((hb35.block _ hl3).trans HBX.out)
        have hown := owns_new Value.string w5 9 [numB x1, octB x2] (by simp [maxLen])
        have hb6 : Below w5.heap.size w5 (w5.alloc (.cells #[.string (numB x1), .string (octB x2)] 9)) := below_alloc (Below.refl _ _) _
        change (w5.alloc (.cells #[.string (numB x1), .string (octB x2)] 9)).ownsRow w5.heap.size 9 1 (.slice (some ⟨w5.heap.size, 0, none⟩) 2 2) 2 _ at hown
        obtain ⟨gp, hgp⟩ : ∃ y, y = w5.heap.size := ⟨_, rfl⟩
        rw [← hgp] at hown hb6 ⊢
        generalize w5.alloc (.cells #[.string (numB x1), .string (octB x2)] 9) = w6 at hown hb6 ⊢
        have HO6 := Aside0.mk hown
        have HB6 := Aside0.mk hb6
        have HGP := Aside0.mk hgp
        have cz := fun o => blk_cell ((hb6.block gx (by rw [hgp]; exact blk_lt HBX5.out)).trans HBX5.out) o
        clear hd hd' hb35 HM3 HBX HI1 c1 c2 hl3 hown hb6 hgp HB3
        go_wp2_with fail
        obtain ⟨gi, hgi⟩ : ∃ y, y = w6.heap.size := ⟨_, rfl⟩
        have hbi : (w6.alloc (.cells #[.int .i64 x3, .int .i64 x4, .int .i64 x5, .int .i64 x6] 3)).heap[gi]? = some (.cells #[.int .i64 x3, .int .i64 x4, .int .i64 x5, .int .i64 x6] 3 (0, 0)) := by rw [hgi]; exact blk_new _ _
        have hO7 := HO6.out.alloc (.cells #[.int .i64 x3, .int .i64 x4, .int .i64 x5, .int .i64 x6] 3)
        have hb7 : Below gp w5 (w6.alloc (.cells #[.int .i64 x3, .int .i64 x4, .int .i64 x5, .int .i64 x6] 3)) := HB6.out.alloc (by have := HB6.out.size; have := HGP.out; omega) _
        rw [← hgi]
        generalize w6.alloc (.cells #[.int .i64 x3, .int .i64 x4, .int .i64 x5, .int .i64 x6] 3) = w7 at hbi hO7 hb7 ⊢
        have HO7 := Aside0.mk hO7
        have HB7 := Aside0.mk hb7
        have HBI := Aside0.mk hbi
        clear hgi hbi hO7 hb7 HO6 HB6 cz
        obtain ⟨i0, hi, hz0, hz1, hz2⟩ := info_parts strInfo
        go_loopw [7, 40] (fun v7 i40 wq => ∃ j : Nat, j ≤ 4 ∧ i40 = .int .i64 j ∧ Aside0 (wq.ownsRow gp 9 1 v7 (2 + j) (((wordsB ⟨x0, x1, x2, x3, x4, x5, x6, x7⟩).take (2 + j)).map Value.string)) ∧ Aside0 (Below gp w5 wq) ∧
            Aside0 (wq.heap[gi]? = some (.cells #[.int .i64 x3, .int .i64 x4, .int .i64 x5, .int .i64 x6] 3 (0, 0)))) (fun _ i _ => 4 - (intOf i).toNat)
        case atStart => exact ⟨0, by omega, rfl, HO7, HB7, HBI⟩
        case round =>
          obtain ⟨j, hj, rfl, HO, HBq, HI⟩ := hrel
          have HBw : Aside0 (Below w.heap.size w wr) := ⟨HB5.out.trans (HBq.out.mono (by have := HB5.out.size; have := HGP.out; omega))⟩
          by_cases hj4 : j < 4
          case pos =>
            obtain ⟨y, hy⟩ : ∃ y, y = [x3, x4, x5, x6].getD j 0 := ⟨_, rfl⟩
            have hyr : 0 ≤ y ∧ y ≤ 1000000 := by
              have h3 := HNUM.out.u; have h4 := HNUM.out.g; have h5 := HNUM.out.t; have h6 := HNUM.out.s
              simp only at h3 h4 h5 h6
              have : j = 0 ∨ j = 1 ∨ j = 2 ∨ j = 3 := by omega
              rcases this with rfl | rfl | rfl | rfl <;> simp at hy <;> subst hy <;> omega
            have HC := Aside0.mk (HIT.out y hyr.1 hyr.2 wr (HE.out.below HBw.out))
            have hci : wr.cell? ⟨gi, j, none⟩ = some (.int .i64 y) := by
              rw [blk_cell HI.out j, hy]
              have : j = 0 ∨ j = 1 ∨ j = 2 ∨ j = 3 := by omega
              rcases this with rfl | rfl | rfl | rfl <;> rfl
            have HTK : Aside0 ((wordsB ⟨x0, x1, x2, x3, x4, x5, x6, x7⟩).take (2 + (j + 1)) = (wordsB ⟨x0, x1, x2, x3, x4, x5, x6, x7⟩).take (2 + j) ++ [numB y]) := ⟨by
              rw [hy]
              have : j = 0 ∨ j = 1 ∨ j = 2 ∨ j = 3 := by omega
              rcases this with rfl | rfl | rfl | rfl <;> rfl⟩
            have q1 : ((0 : Int) ≤ (j : Int)) = True := eq_true (by omega)
            have q2 : ((j : Int) < 4) = True := eq_true (by omega)
            clear hy hyr
            go_wp2_with fail
            refine HC.out.mono ?_; rintro e w8 ⟨rfl, hd⟩
            have hO8 := owns_below HO.out hd
            have hs8 := hd.size
            have hsz : gp ≤ wr.heap.size := by have := HBq.out.size; have := HGP.out; omega
            go_wp2_with (first
              | (at_builtin; refine wpList_append_own _ rfl _ _ 55 rfl gp 9 i0 (.string ⟨#[]⟩) 1 16 Tryz.underlying55 hi hz0 hz1 hz2 rfl (by decide) _ _ _ rfl (hO8.alloc _) ⟨w8.heap.size, 0, none⟩ 1 1 [.string (numB y)] rfl rfl ?c1 ?c2 ?c3 ?c4 ?c5 ?_)
              | go_in)
            case c1 =>
              intro j' u hj'
              match j', hj' with
              | 0, hj' => simp at hj'; subst hj'; simp [Addr.add]
            case c2 => intro u hu; simp at hu; subst hu; rfl
            case c3 => unfold maxLen; omega
            case c4 => omega
            case c5 => have := alloc_lt w8 (.cells #[.string (numB y)] 9); omega
            intro v' w9 hown9 hgrow _
            have hb8 : Below gp w5 w8 := HBq.out.trans (hd.mono hsz)
            have hb9 : Below gp w5 w9 := (hb8.alloc (by omega) _).grown hgrow (by have := alloc_lt w8 (.cells #[.string (numB y)] 9); omega) (fun k hk => (hO8.lt k hk).1)
            have hi8 : (w8.alloc (.cells #[.string (numB y)] 9)).heap[gi]? = some (.cells #[.int .i64 x3, .int .i64 x4, .int .i64 x5, .int .i64 x6] 3 (0, 0)) := blk_alloc ((hd.block gi (blk_lt HI.out)).trans HI.out) _
            have hi9 := (hgrow.block gi (blk_lt hi8) (fun e => Lib.ownBlock_ne hO8 ((hd.block gi (blk_lt HI.out)).trans HI.out) (by decide) e.symm)).trans hi8
            have hown10 : w9.ownsRow gp 9 1 v' (2 + (j + 1)) (((wordsB ⟨x0, x1, x2, x3, x4, x5, x6, x7⟩).take (2 + (j + 1))).map Value.string) := by
              rw [HTK.out, List.map_append]
              rw [← List.map_take] at hown9
              exact hown9
            clear hgrow hown9 hO8 hi8 hb8 hd hsz hs8
            go_wp2
            go_roundw
            case rel => exact ⟨j + 1, by omega, by go_num, ⟨hown10⟩, ⟨hb9⟩, ⟨hi9⟩⟩
            case measure => simp [intOf]; omega
          case neg =>
            have hj4' : j = 4 := by omega
            subst hj4'
            have HO' : Aside0 (wr.ownsRow gp 9 1 u7 6 (((wordsB ⟨x0, x1, x2, x3, x4, x5, x6, x7⟩).take 6).map Value.string)) := ⟨HO.out⟩
            clear HO HI hj hj4
            have cz := fun o => blk_cell ((HBq.out.block gx (by rw [HGP.out]; exact blk_lt HBX5.out)).trans HBX5.out) o
            go_wp2_with (first
              | (at_builtin; refine wpList_append_own _ rfl _ _ 55 rfl gp 9 i0 (.string ⟨#[]⟩) 1 16 Tryz.underlying55 hi hz0 hz1 hz2 rfl (by decide) _ _ _ rfl (HO'.out.alloc _) ⟨wr.heap.size, 0, none⟩ 2 2 [.string x0, .string x7] rfl rfl ?d1 ?d2 ?d3 ?d4 ?d5 ?_)
              | go_in)
            case d1 =>
              intro j' u hj'
              match j', hj' with
              | 0, hj' => simp at hj'; subst hj'; simp [Addr.add]
              | 1, hj' => simp at hj'; subst hj'; simp [Addr.add]
            case d2 => intro u hu; simp at hu; rcases hu with rfl | rfl <;> rfl
            case d3 => unfold maxLen; omega
            case d4 => omega
            case d5 => have := alloc_lt wr (.cells #[.string x0, .string x7] 9); have := HBq.out.size; have := HGP.out; omega
            intro v8 w8 hown8 hgrow _
            have hb8 : Below gp w5 w8 := (HBq.out.alloc (by have := HBq.out.size; have := HGP.out; omega) _).grown hgrow (by have := alloc_lt wr (.cells #[.string x0, .string x7] 9); have := HBq.out.size; have := HGP.out; omega) (fun k hk => (HO'.out.lt k hk).1)
            have hown9 : w8.ownsRow gp 9 1 v8 8 ((wordsB ⟨x0, x1, x2, x3, x4, x5, x6, x7⟩).map Value.string) := hown8
            obtain ⟨hl8, h8⟩ := hown9
            rcases h8 with ⟨_, h0⟩ | ⟨g, cap, cur, rfl, hge, hcur, hle, hcap, hszc, htk⟩
            · cases h0
            have hcells : ∀ (j : Nat) (y : ByteArray), (wordsB ⟨x0, x1, x2, x3, x4, x5, x6, x7⟩)[j]? = some y → w8.cell? ⟨g, 0 + j, none⟩ = some (.string y) := fun j y hy => by
              have h := World.ownsRow.cells (show w8.ownsRow gp 9 1 (.slice (some ⟨g, 0, none⟩) 8 cap) 8 ((wordsB ⟨x0, x1, x2, x3, x4, x5, x6, x7⟩).map Value.string) from hown8) rfl j (.string y) (by rw [List.getElem?_map, hy]; rfl)
              rw [Nat.zero_add]
              unfold Addr.add at h
              by_cases hj0 : j = 0
              · subst hj0; simpa using h
              · simpa [hj0] using h
            have hll := lineL_le _ HNUM.out
            have hs0 := HS0.out
            have hs7 := HS7.out
            simp only at hs0 hs7 hll
            have HLL : Aside0 ((lineL ⟨x0, x1, x2, x3, x4, x5, x6, x7⟩).length ≤ 8600000000) := ⟨by omega⟩
            have hjl : (Lib.join ((wordsB ⟨x0, x1, x2, x3, x4, x5, x6, x7⟩).map (·.data.toList)) [9]).length ≤ 8600000000 := by
              have e := congrArg List.length HWD.out
              rw [List.length_append] at e
              have := HLL.out; omega
            have HJ := Aside0.mk (join_calls g 0 cap (wordsB ⟨x0, x1, x2, x3, x4, x5, x6, x7⟩) ⟨#[9]⟩ w8 hcells (blk_lt hcur) (by show 8 ≤ _; omega) hle (by show (Lib.join _ [9]).length ≤ _; omega))
            change Aside0 (Calls Tryz.prog 64 #[.slice (some ⟨g, 0, none⟩) 8 cap, .string ⟨#[9]⟩] w8 fun e w' => e = .returned (.string ⟨(Lib.join ((wordsB ⟨x0, x1, x2, x3, x4, x5, x6, x7⟩).map (·.data.toList)) [9]).toArray⟩) ∧ Below w8.heap.size w8 w') at HJ
            have hJ : (⟨(Lib.join ((wordsB ⟨x0, x1, x2, x3, x4, x5, x6, x7⟩).map (·.data.toList)) [9]).toArray⟩ : ByteArray) ++ ⟨#[10]⟩ = ⟨(lineL ⟨x0, x1, x2, x3, x4, x5, x6, x7⟩).toArray⟩ := by
              rw [HWD.out]; apply ByteArray.ext; simp [ByteArray.data_append]
            obtain ⟨J, hJJ⟩ : ∃ J : ByteArray, J = ⟨(Lib.join ((wordsB ⟨x0, x1, x2, x3, x4, x5, x6, x7⟩).map (·.data.toList)) [9]).toArray⟩ := ⟨_, rfl⟩
            rw [← hJJ] at HJ hJ
            have HJL : J.size ≤ 8600000000 := by rw [hJJ]; simpa [ByteArray.size] using hjl
            have hM8 : Bld w.heap.size gb (packL (l.take k)) w8 := bld_below HM5.out (by rw [← HGP.out]; exact hb8)
            have hB8 : Below w.heap.size w w8 := HB5.out.trans (hb8.mono (by have := HB5.out.size; have := HGP.out; omega))
            have HW8 : Aside0 (∀ W, Below w8.heap.size w8 W → Calls Tryz.prog 63 #[.pointer (some ⟨gb, 0, none⟩), .string (J ++ ⟨#[10]⟩)] W fun e w' => (∃ v, e = .returned v) ∧ Bld w.heap.size gb (packL (l.take (k + 1))) w' ∧ Below w.heap.size W w') := ⟨fun W hb => by
              rw [hJ, HSN.out, packL_snoc]
              refine write_calls _ _ _ _ W (bld_below hM8 hb) ?_ (by have := hB8.size; have := hb.size; omega)
              have h1 := packL_le (l.take k) (fun z hz => by
                obtain ⟨q, hq, rfl⟩ := List.getElem_of_mem hz
                have hq' : q < l.length := by rw [List.length_take] at hq; omega
                rw [List.getElem_take, ← show itAt l q = l[q] from rdI l q hq']
                exact HN.out q hq')
              have h2 := HLL.out
              have h3 := HL.out
              have h4 : (l.take k).length ≤ 40 := by rw [List.length_take]; omega
              omega⟩
            have HB8 := Aside0.mk hB8
            clear hJ hJJ hjl hll hs0 hs7 hcells hown8 hgrow hl8 hge hcur hle hcap hszc htk hM8 hB8 hb8 cz hi hz0 hz1 hz2
            go_wp2_with fail
            refine HJ.out.mono ?_; rintro e w9 ⟨rfl, hd⟩
            have HW9 := Aside0.mk (HW8.out w9 hd)
            have HB9 : Aside0 (Below w.heap.size w w9) := ⟨HB8.out.trans (hd.mono HB8.out.size)⟩
            clear hd HJ HW8 HB8
            go_wp2_with fail
            refine HW9.out.mono ?_; rintro e w10 ⟨⟨v10, rfl⟩, hM10, hb10⟩
            have HB10 : Aside0 (Below w.heap.size w w10) := ⟨HB9.out.trans hb10⟩
            have HM10 := Aside0.mk hM10
            have hk40 : k < 40 := by have := HL.out; omega
            clear hM10 hb10 HW9 HB9
            go_wp2
            go_roundw
            case rel => exact ⟨k + 1, by omega, by go_num, HM10, HB10, ⟨fun j hj => by
              by_cases h : j < k
              · exact HT.out j h
              · have : j = k := by omega
                subst this
                rw [← HX.out]; exact hq⟩⟩
            case measure => simp [intOf]; omega
theorem impl_PackItems.calls (A0 : Option Addr) (c0 : Nat) (l0 : List It) (r0 : ByteArray) (r1 : Bool) (w : World) (hr0 : Kd.C k74 w A0 l0.length l0) (hc0 : l0.length ≤ c0) (h : impl_PackItems.f l0 = some (r0, r1)) (hE : EnvT w) :
    Calls Tryz.prog 13 #[.slice A0 l0.length c0] w fun e w' => e = .returned (.tuple #[.string r0, .bool r1]) ∧ Below w.heap.size w w' := by
  unfold impl_PackItems.f at h
  split at h
  case isFalse => cases h
  rename_i hs
  injection h with h
  by_cases hg : goodB l0 = true
  · have hl : 1 ≤ l0.length := by unfold goodB at hg; simp at hg; exact hg.1
    obtain ⟨ad, rfl, _⟩ := cells_at hr0 0 (by omega)
    exact packItems_loop w ad c0 l0 hc0 hr0 hs hg hE r0 r1 h
  · have hg' : goodB l0 = false := by simpa using hg
    have hp : packB l0 = (⟨#[]⟩, false) := by unfold packB; rw [if_neg (by simp [hg'])]
    obtain ⟨rfl, rfl⟩ := Prod.mk.inj (h.symm.trans hp)
    refine packItems_bad A0 _ c0 w (impl_GoodItems.calls A0 c0 l0 false w hr0 hc0 ?_)
    unfold impl_GoodItems.f
    rw [if_pos (List.all_eq_true.mpr fun x hx => by
      have := List.all_eq_true.mp hs x hx
      simp only [decide_eq_true_eq] at this ⊢
      exact this.1), hg']

end Go.Proofs.YthhmkbchdiflcaaGreatDoor.Q

-- Printed by a program of this session (wip/tools/myprint.py) that runs the kit's print, hand-proved functions among the others.
namespace Go.Proofs.YthhmkbchdiflcaaGreatDoor.Q
open Go.RowKit Go.Proofs.YthhmkbchdiflcaaGreatDoorW.PrintWords Go.Proofs.YthhmkbchdiflcaaGreatDoorW.PrintLast Go.Proofs.YthhmkbchdiflcaaGreatDoorW.PrintMore
attribute [local go_sem] max2_int min2_int max_two min_two max_three min_three max_four min_four   -- for this text's walks alone
set_option linter.unusedVariables false
set_option linter.unusedSimpArgs false

/-! ### laws_FnExactPackItems: function 3 -/
def laws_FnExactPackItems.j0 : Nat → List (S73) → List (S74) → Bool → Option (Bool)
  | 0, _, _, _ => none
  | k + 1, x0, x6, x34 => if x34 = true then (some false) else ((laws_toItemS.f k x0).bind fun t322 => ((laws_eqItemS.f k x6 t322).bind fun t325 => (if t325 = true then (some true) else (some false))))
def laws_FnExactPackItems.f (k : Nat) (l0 : List (S73)) : Option (Bool) := (laws_szItemS.f k l0 1048576).bind fun t311 => (if t311 < 0 then (some true) else ((laws_toItemS.f k l0).bind fun t312 => ((spec_PackItems.f k t312).bind fun bt315 => ((laws_toItemS.f k l0).bind fun t317 => ((impl_PackItems.f t317).bind fun bt320 => (if bt320.1.toList = bt315.1.toList then (laws_FnExactPackItems.j0 k l0 t317 (bt320.2 != bt315.2)) else (laws_FnExactPackItems.j0 k l0 t317 true)))))))
theorem laws_FnExactPackItems.mono_l : ∀ k, (∀ y0 y1 y2, LeO (laws_FnExactPackItems.j0 k y0 y1 y2) (laws_FnExactPackItems.j0 (k + 1) y0 y1 y2))
  | 0 => fun _ _ _ r h => by simp [laws_FnExactPackItems.j0] at h
  | k + 1 => by
    have ih0 := laws_FnExactPackItems.mono_l k
    · intro y0 y1 y2
      unfold laws_FnExactPackItems.j0
      repeat' first
      | (with_reducible exact ih0 _ _ _)
      | (with_reducible exact laws_eqItemS.mono _ _ _)
      | (with_reducible exact laws_szItemS.mono _ _ _)
      | (with_reducible exact laws_toItemS.mono _ _)
      | (with_reducible exact spec_PackItems.mono _ _)
      | (with_reducible exact LeO.refl _)
      | (with_reducible exact LeO.none _)
      | (with_reducible refine LeO.ite ?_ ?_)
      | (with_reducible refine LeO.bind ?_ (fun _ => ?_))
      | exact ih0 _ _ _
      | exact laws_eqItemS.mono _ _ _
      | exact laws_szItemS.mono _ _ _
      | exact laws_toItemS.mono _ _
      | exact spec_PackItems.mono _ _
      | exact LeO.none _
      | refine LeO.ite ?_ ?_
      | refine LeO.bind ?_ (fun _ => ?_)
theorem laws_FnExactPackItems.mono : ∀ a0 k, LeO (laws_FnExactPackItems.f k a0) (laws_FnExactPackItems.f (k + 1) a0) := by
  intro a0 k
  have ih0 := laws_FnExactPackItems.mono_l k
  unfold laws_FnExactPackItems.f
  repeat' first
      | (with_reducible exact ih0 _ _ _)
      | (with_reducible exact laws_eqItemS.mono _ _ _)
      | (with_reducible exact laws_szItemS.mono _ _ _)
      | (with_reducible exact laws_toItemS.mono _ _)
      | (with_reducible exact spec_PackItems.mono _ _)
      | (with_reducible exact LeO.refl _)
      | (with_reducible exact LeO.none _)
      | (with_reducible refine LeO.ite ?_ ?_)
      | (with_reducible refine LeO.bind ?_ (fun _ => ?_))
      | exact ih0 _ _ _
      | exact laws_eqItemS.mono _ _ _
      | exact laws_szItemS.mono _ _ _
      | exact laws_toItemS.mono _ _
      | exact spec_PackItems.mono _ _
      | exact LeO.none _
      | refine LeO.ite ?_ ?_
      | refine LeO.bind ?_ (fun _ => ?_)
set_option maxHeartbeats 8000000 in
set_option maxRecDepth 100000 in
theorem laws_FnExactPackItems.calls (k : Nat) (A0 : Option Addr) (c0 : Nat) (l0 : List (S73)) (r : Bool) (w : World) (hr0 : Kd.C k73 w A0 l0.length l0) (hc0 : l0.length ≤ c0) (h : laws_FnExactPackItems.f k l0 = some r) (hEnvT : EnvT w) :
    Calls Tryz.prog 3 #[.slice A0 l0.length c0] w fun e w' => e = .returned (.bool r) ∧ Below w.heap.size w w' := by
  have HR0 := Aside0.mk hr0
  have HC0 := Aside0.mk hc0
  clear hr0 hc0
  have HB := Aside0.mk (Below.refl w.heap.size w)
  have H : ((laws_szItemS.f k l0 1048576).bind fun t311 => (if t311 < 0 then (some true) else ((laws_toItemS.f k l0).bind fun t312 => ((spec_PackItems.f k t312).bind fun bt315 => ((laws_toItemS.f k l0).bind fun t317 => ((impl_PackItems.f t317).bind fun bt320 => (if bt320.1.toList = bt315.1.toList then (laws_FnExactPackItems.j0 k l0 t317 (bt320.2 != bt315.2)) else (laws_FnExactPackItems.j0 k l0 t317 true)))))))) = some r := h
  clear h
  replace H := Option.bind_eq_some_iff.mp H
  obtain ⟨t311, A20, H⟩ := H
  replace H : (if t311 < 0 then (some true) else ((laws_toItemS.f k l0).bind fun t312 => ((spec_PackItems.f k t312).bind fun bt315 => ((laws_toItemS.f k l0).bind fun t317 => ((impl_PackItems.f t317).bind fun bt320 => (if bt320.1.toList = bt315.1.toList then (laws_FnExactPackItems.j0 k l0 t317 (bt320.2 != bt315.2)) else (laws_FnExactPackItems.j0 k l0 t317 true))))))) = some r := H
  have A2 := Aside0.mk A20
  clear A20
  by_cases c3 : t311 < 0
  · rw [if_pos c3] at H
    have c3b0 : decide (t311 < 0) = true := decide_eq_true c3
    clear c3
    obtain rfl := Option.some.inj H
    go_enter Tryz.func3, Tryz.ntmps3
    go_wp2_with (first | ((with_reducible refine gate_callee (f := 10) rfl ?_); refine goesL_ (some 11) rfl rfl Tryz.func10 (by kernel_rfl) rfl #[.slice A0 l0.length c0, .int .i64 1048576] rfl (by (try simp only [List.map_toArray, List.map_cons, List.map_nil]); first | done | rfl | (simp only [List.length_drop, List.length_take]; rfl)) ?_; (with_reducible refine (laws_szItemS.calls k _ _ l0 1048576 t311 _ ?side1 ?side2 A2.out).mono ?_); (case side1 => repeat (first | exact HR0.out | (with_reducible refine Kd.C_alloc ?_ _) | (with_reducible refine Kd.C_drewN ?_ _) | (with_reducible refine Kd.C_drew ?_))); (case side2 => exact HC0.out); rintro e w4 ⟨rfl, hb⟩; refine ⟨_, rfl, ?_⟩; have n0_ := Aside0.mk (below_step (by repeat (first | (with_reducible first | exact HB.out | apply below_alloc | apply pw_below_drewN | apply below_drew1) | exact HB.out)) hb); clear HB; have HB := n0_; clear n0_; (try clear hb); (try clear hb2); (try clear hk); (try clear hi)))
    go_ret
    exact ⟨by first | rfl | (simp [errW_none, errW_some] <;> rfl) | (simp [*, errW_none, errW_some] <;> rfl), by repeat (first | (with_reducible first | exact HB.out | apply below_alloc | apply pw_below_drewN | apply below_drew1) | exact HB.out)⟩
  · rw [if_neg c3] at H
    have c3b0 : decide (t311 < 0) = false := decide_eq_false c3
    clear c3
    replace H := Option.bind_eq_some_iff.mp H
    obtain ⟨t312, A50, H⟩ := H
    replace H : ((spec_PackItems.f k t312).bind fun bt315 => ((laws_toItemS.f k l0).bind fun t317 => ((impl_PackItems.f t317).bind fun bt320 => (if bt320.1.toList = bt315.1.toList then (laws_FnExactPackItems.j0 k l0 t317 (bt320.2 != bt315.2)) else (laws_FnExactPackItems.j0 k l0 t317 true))))) = some r := H
    have A5 := Aside0.mk A50
    clear A50
    replace H := Option.bind_eq_some_iff.mp H
    obtain ⟨⟨t315, t316⟩, A60, H⟩ := H
    replace H : ((laws_toItemS.f k l0).bind fun t317 => ((impl_PackItems.f t317).bind fun bt320 => (if bt320.1.toList = t315.toList then (laws_FnExactPackItems.j0 k l0 t317 (bt320.2 != t316)) else (laws_FnExactPackItems.j0 k l0 t317 true)))) = some r := H
    have A6 := Aside0.mk A60
    clear A60
    replace H := Option.bind_eq_some_iff.mp H
    obtain ⟨t317, A70, H⟩ := H
    replace H : ((impl_PackItems.f t317).bind fun bt320 => (if bt320.1.toList = t315.toList then (laws_FnExactPackItems.j0 k l0 t317 (bt320.2 != t316)) else (laws_FnExactPackItems.j0 k l0 t317 true))) = some r := H
    have A7 := Aside0.mk A70
    clear A70
    replace H := Option.bind_eq_some_iff.mp H
    obtain ⟨⟨t320, t321⟩, A80, H⟩ := H
    replace H : (if t320.toList = t315.toList then (laws_FnExactPackItems.j0 k l0 t317 (t321 != t316)) else (laws_FnExactPackItems.j0 k l0 t317 true)) = some r := H
    have A8 := Aside0.mk A80
    clear A80
    have HC9 := Aside0.mk H
    clear H
    go_enter Tryz.func3, Tryz.ntmps3
    go_upto_region 8 with (first | ((with_reducible refine gate_callee (f := 10) rfl ?_); refine goesL_ (some 11) rfl rfl Tryz.func10 (by kernel_rfl) rfl #[.slice A0 l0.length c0, .int .i64 1048576] rfl (by (try simp only [List.map_toArray, List.map_cons, List.map_nil]); first | done | rfl | (simp only [List.length_drop, List.length_take]; rfl)) ?_; (with_reducible refine (laws_szItemS.calls k _ _ l0 1048576 t311 _ ?side1 ?side2 A2.out).mono ?_); (case side1 => repeat (first | exact HR0.out | (with_reducible refine Kd.C_alloc ?_ _) | (with_reducible refine Kd.C_drewN ?_ _) | (with_reducible refine Kd.C_drew ?_))); (case side2 => exact HC0.out); rintro e w10 ⟨rfl, hb⟩; refine ⟨_, rfl, ?_⟩; have n0_ := Aside0.mk (below_step (by repeat (first | (with_reducible first | exact HB.out | apply below_alloc | apply pw_below_drewN | apply below_drew1) | exact HB.out)) hb); clear HB; have HB := n0_; clear n0_; (try clear hb); (try clear hb2); (try clear hk); (try clear hi)) | ((with_reducible refine gate_callee (f := 12) rfl ?_); refine goesL_ (some 16) rfl rfl Tryz.func12 (by kernel_rfl) rfl #[.slice A0 l0.length c0] rfl (by (try simp only [List.map_toArray, List.map_cons, List.map_nil]); first | done | rfl | (simp only [List.length_drop, List.length_take]; rfl)) ?_; (with_reducible refine (laws_toItemS.calls k _ _ l0 t312 _ ?side1 ?side2 A5.out).mono ?_); (case side1 => repeat (first | exact (Kd.C_below HR0.out HB.out) | (with_reducible refine Kd.C_alloc ?_ _) | (with_reducible refine Kd.C_drewN ?_ _) | (with_reducible refine Kd.C_drew ?_))); (case side2 => exact HC0.out); rintro e w11 ⟨v313, rfl, ho0, hb⟩; refine ⟨_, rfl, ?_⟩; have n0_ := Aside0.mk (Kd.R_lower ho0 (below_size (by repeat (first | (with_reducible first | exact HB.out | apply below_alloc | apply pw_below_drewN | apply below_drew1) | exact HB.out)))); have n1_ := Aside0.mk (below_step (by repeat (first | (with_reducible first | exact HB.out | apply below_alloc | apply pw_below_drewN | apply below_drew1) | exact HB.out)) hb); clear HB; have HO314 := n0_; have HB := n1_; clear n0_ n1_; (try clear hb); (try clear hb2); (try clear hk); (try clear hi); (try clear ho0); obtain ⟨Ao12, co12, eo12⟩ := Kd.R_slice HO314.out; subst eo12) | ((with_reducible refine gate_callee (f := 11) rfl ?_); refine goesL_ (some 17) rfl rfl Tryz.func11 (by kernel_rfl) rfl #[.slice Ao12 t312.length co12] rfl (by (try simp only [List.map_toArray, List.map_cons, List.map_nil]); first | done | rfl | (simp only [List.length_drop, List.length_take]; rfl)) ?_; (with_reducible refine (spec_PackItems.calls k _ _ t312 t315 t316 _ ?side1 ?side2 A6.out).mono ?_); (case side1 => repeat (first | exact (Kd.R_reads' HO314.out).2.2 | (with_reducible refine Kd.C_alloc ?_ _) | (with_reducible refine Kd.C_drewN ?_ _) | (with_reducible refine Kd.C_drew ?_))); (case side2 => exact (Kd.R_reads' HO314.out).2.1); rintro e w13 ⟨rfl, hb⟩; refine ⟨_, rfl, ?_⟩; have n0_ := Aside0.mk (Kd.R_below (by (with_reducible repeat (first | apply Kd.R_alloc | apply Kd.R_drewN | apply Kd.R_drew)); exact HO314.out) hb); have n1_ := Aside0.mk (below_step (by repeat (first | (with_reducible first | exact HB.out | apply below_alloc | apply pw_below_drewN | apply below_drew1) | exact HB.out)) hb); clear HO314; clear HB; have HO314 := n0_; have HB := n1_; clear n0_ n1_; (try clear hb); (try clear hb2); (try clear hk); (try clear hi)) | ((with_reducible refine gate_callee (f := 12) rfl ?_); refine goesL_ (some 21) rfl rfl Tryz.func12 (by kernel_rfl) rfl #[.slice A0 l0.length c0] rfl (by (try simp only [List.map_toArray, List.map_cons, List.map_nil]); first | done | rfl | (simp only [List.length_drop, List.length_take]; rfl)) ?_; (with_reducible refine (laws_toItemS.calls k _ _ l0 t317 _ ?side1 ?side2 A7.out).mono ?_); (case side1 => repeat (first | exact (Kd.C_below HR0.out HB.out) | (with_reducible refine Kd.C_alloc ?_ _) | (with_reducible refine Kd.C_drewN ?_ _) | (with_reducible refine Kd.C_drew ?_))); (case side2 => exact HC0.out); rintro e w14 ⟨v318, rfl, ho0, hb⟩; refine ⟨_, rfl, ?_⟩; have n0_ := Aside0.mk (Kd.R_elder' (by (with_reducible repeat (first | apply Kd.R_alloc | apply Kd.R_drewN | apply Kd.R_drew)); exact HO314.out) (Kd.R_base ho0) hb); have n1_ := Aside0.mk (Kd.R_lower (Kd.R_new' ho0 (Kd.R_lt (by (with_reducible repeat (first | apply Kd.R_alloc | apply Kd.R_drewN | apply Kd.R_drew)); exact HO314.out))) (below_size (by repeat (first | (with_reducible first | exact HB.out | apply below_alloc | apply pw_below_drewN | apply below_drew1) | exact HB.out)))); have n2_ := Aside0.mk (below_step (by repeat (first | (with_reducible first | exact HB.out | apply below_alloc | apply pw_below_drewN | apply below_drew1) | exact HB.out)) hb); clear HO314; clear HB; have HO314 := n0_; have HO319 := n1_; have HB := n2_; clear n0_ n1_ n2_; (try clear hb); (try clear hb2); (try clear hk); (try clear hi); (try clear ho0); obtain ⟨Ao15, co15, eo15⟩ := Kd.R_slice HO319.out; subst eo15) | ((with_reducible refine gate_callee (f := 13) rfl ?_); refine goesL_ (some 24) rfl rfl Tryz.func13 (by kernel_rfl) rfl #[.slice Ao15 t317.length co15] rfl (by (try simp only [List.map_toArray, List.map_cons, List.map_nil]); first | done | rfl | (simp only [List.length_drop, List.length_take]; rfl)) ?_; (with_reducible refine (impl_PackItems.calls _ _ t317 t320 t321 _ ?side1 ?side2 A8.out ?sideEnvT).mono ?_); (case sideEnvT => exact EnvT.below hEnvT (by repeat (first | (with_reducible first | exact HB.out | apply below_alloc | apply pw_below_drewN | apply below_drew1) | exact HB.out))); (case side1 => repeat (first | exact (Kd.R_reads' HO319.out).2.2 | (with_reducible refine Kd.C_alloc ?_ _) | (with_reducible refine Kd.C_drewN ?_ _) | (with_reducible refine Kd.C_drew ?_))); (case side2 => exact (Kd.R_reads' HO319.out).2.1); rintro e w16 ⟨rfl, hb⟩; refine ⟨_, rfl, ?_⟩; have n0_ := Aside0.mk (Kd.R_below (by (with_reducible repeat (first | apply Kd.R_alloc | apply Kd.R_drewN | apply Kd.R_drew)); exact HO314.out) hb); have n1_ := Aside0.mk (Kd.R_below (by (with_reducible repeat (first | apply Kd.R_alloc | apply Kd.R_drewN | apply Kd.R_drew)); exact HO319.out) hb); have n2_ := Aside0.mk (below_step (by repeat (first | (with_reducible first | exact HB.out | apply below_alloc | apply pw_below_drewN | apply below_drew1) | exact HB.out)) hb); clear HO314; clear HO319; clear HB; have HO314 := n0_; have HO319 := n1_; have HB := n2_; clear n0_ n1_ n2_; (try clear hb); (try clear hb2); (try clear hk); (try clear hi)))
    (try simp only [Act.put, List.setIfInBounds_toArray, List.set_cons_zero, List.set_cons_succ])
    go_cut [34] (fun v34 wc => ∃ (kq : Nat) (x34_8 : Bool), v34 = .bool x34_8 ∧ Aside0 (laws_FnExactPackItems.j0 kq l0 t317 x34_8 = some r) ∧ Aside0 (kq ≤ k) ∧ Aside0 (Kd.R k74 74 wc w.heap.size (fun _ => True) (.slice Ao15 t317.length co15) t317) ∧ Aside0 (Below w.heap.size w wc))
    case first =>
      have H := HC9.out
      clear HC9
      by_cases c17 : t320.toList = t315.toList
      · rw [if_pos c17] at H
        have c17b0 : (t320.toList == t315.toList) = true := beq_iff_eq.mpr c17
        have c17b1 : (t320.toList != t315.toList) = false := bne_eq_false_iff_eq.mpr c17
        clear c17
        (first | rw [c17b0] | (simp only [i64_w, i32_w]; rw [c17b0]) | skip)
        have H' := Aside0.mk H
        clear H
        go_wp2
        go_meet
        case rel => exact ⟨_, ((t321 != t316)), (by first | rfl | (simp; done) | (simp [*]; done)), H', ⟨by first | omega | exact Nat.le_refl _⟩, ⟨by (with_reducible repeat (first | apply Kd.R_alloc | apply Kd.R_drewN | apply Kd.R_drew)); exact Kd.R_mono HO319.out (fun _ hk => trivial)⟩, ⟨by repeat (first | (with_reducible first | exact HB.out | apply below_alloc | apply pw_below_drewN | apply below_drew1) | exact HB.out)⟩⟩
      · rw [if_neg c17] at H
        have c17b0 : (t320.toList == t315.toList) = false := beq_eq_false_iff_ne.mpr c17
        have c17b1 : (t320.toList != t315.toList) = true := bne_iff_ne.mpr c17
        (first | rw [c17b0] | (simp only [i64_w, i32_w]; rw [c17b0]) | skip)
        have H' := Aside0.mk H
        clear H
        go_wp2
        go_meet
        case rel => exact ⟨_, (true), (by first | rfl | (simp; done) | (simp [*]; done)), H', ⟨by first | omega | exact Nat.le_refl _⟩, ⟨by (with_reducible repeat (first | apply Kd.R_alloc | apply Kd.R_drewN | apply Kd.R_drew)); exact Kd.R_mono HO319.out (fun _ hk => trivial)⟩, ⟨by repeat (first | (with_reducible first | exact HB.out | apply below_alloc | apply pw_below_drewN | apply below_drew1) | exact HB.out)⟩⟩
    case rest =>
      clear HC9
      try clear c1
      try clear p2
      try clear c3
      try clear c3b0
      try clear c10
      try clear c11
      try clear c12
      try clear c13
      try clear c17
      try clear c17b0
      try clear c17b1
      obtain ⟨kq, x34_8, rfl, HA, HJ8, HO_6, HB⟩ := hcut
      cases kq with
      | zero => exact absurd HA.out (by simp [laws_FnExactPackItems.j0])
      | succ kj8 =>
        have H := HA.out
        clear HA
        simp only [laws_FnExactPackItems.j0] at H
        by_cases c18 : x34_8 = true
        · subst c18
          have H1 : (some false) = some r := by rw [if_pos rfl] at H; exact H
          clear H
          have H := H1
          clear H1
          obtain rfl := Option.some.inj H
          go_wp2
          go_ret
          exact ⟨by first | rfl | (simp [errW_none, errW_some] <;> rfl) | (simp [*, errW_none, errW_some] <;> rfl), by repeat (first | (with_reducible first | exact HB.out | apply below_alloc | apply pw_below_drewN | apply below_drew1) | exact HB.out)⟩
        · replace c18 := Bool.eq_false_iff.mpr c18
          subst c18
          have H1 : ((laws_toItemS.f kj8 l0).bind fun t322 => ((laws_eqItemS.f kj8 t317 t322).bind fun t325 => (if t325 = true then (some true) else (some false)))) = some r := by rw [if_neg (show ¬ (false = true) by decide)] at H; exact H
          clear H
          have H := H1
          clear H1
          replace H := Option.bind_eq_some_iff.mp H
          obtain ⟨t322, A190, H⟩ := H
          replace H : ((laws_eqItemS.f kj8 t317 t322).bind fun t325 => (if t325 = true then (some true) else (some false))) = some r := H
          have A19 := Aside0.mk A190
          clear A190
          replace H := Option.bind_eq_some_iff.mp H
          obtain ⟨t325, A200, H⟩ := H
          replace H : (if t325 = true then (some true) else (some false)) = some r := H
          have A20 := Aside0.mk A200
          clear A200
          by_cases c21 : t325 = true
          · subst c21
            have H1 : (some true) = some r := by rw [if_pos rfl] at H; exact H
            clear H
            have H := H1
            clear H1
            obtain rfl := Option.some.inj H
            go_wp2_with (first | ((with_reducible refine gate_callee (f := 12) rfl ?_); refine goesL_ (some 37) rfl rfl Tryz.func12 (by kernel_rfl) rfl #[.slice A0 l0.length c0] rfl (by (try simp only [List.map_toArray, List.map_cons, List.map_nil]); first | done | rfl | (simp only [List.length_drop, List.length_take]; rfl)) ?_; (with_reducible refine (laws_toItemS.calls kj8 _ _ l0 t322 _ ?side1 ?side2 A19.out).mono ?_); (case side1 => repeat (first | exact (Kd.C_below HR0.out HB.out) | (with_reducible refine Kd.C_alloc ?_ _) | (with_reducible refine Kd.C_drewN ?_ _) | (with_reducible refine Kd.C_drew ?_))); (case side2 => exact HC0.out); rintro e w22 ⟨v323, rfl, ho0, hb⟩; refine ⟨_, rfl, ?_⟩; have n0_ := Aside0.mk (Kd.R_elder' (by (with_reducible repeat (first | apply Kd.R_alloc | apply Kd.R_drewN | apply Kd.R_drew)); exact HO_6.out) (Kd.R_base ho0) hb); have n1_ := Aside0.mk (Kd.R_lower (Kd.R_new' ho0 (Kd.R_lt (by (with_reducible repeat (first | apply Kd.R_alloc | apply Kd.R_drewN | apply Kd.R_drew)); exact HO_6.out))) (below_size (by repeat (first | (with_reducible first | exact HB.out | apply below_alloc | apply pw_below_drewN | apply below_drew1) | exact HB.out)))); have n2_ := Aside0.mk (below_step (by repeat (first | (with_reducible first | exact HB.out | apply below_alloc | apply pw_below_drewN | apply below_drew1) | exact HB.out)) hb); clear HO_6; clear HB; have HO_6 := n0_; have HO324 := n1_; have HB := n2_; clear n0_ n1_ n2_; (try clear hb); (try clear hb2); (try clear hk); (try clear hi); (try clear ho0); obtain ⟨Ao23, co23, eo23⟩ := Kd.R_slice HO324.out; subst eo23) | ((with_reducible refine gate_callee (f := 14) rfl ?_); refine goesL_ (some 38) rfl rfl Tryz.func14 (by kernel_rfl) rfl #[.slice Ao15 t317.length co15, .slice Ao23 t322.length co23] rfl (by (try simp only [List.map_toArray, List.map_cons, List.map_nil]); first | done | rfl | (simp only [List.length_drop, List.length_take]; rfl)) ?_; (with_reducible refine (laws_eqItemS.calls kj8 _ _ t317 _ _ t322 true _ ?side1 ?side2 ?side3 ?side4 A20.out).mono ?_); (case side1 => repeat (first | exact (Kd.R_reads' HO_6.out).2.2 | (with_reducible refine Kd.C_alloc ?_ _) | (with_reducible refine Kd.C_drewN ?_ _) | (with_reducible refine Kd.C_drew ?_))); (case side2 => exact (Kd.R_reads' HO_6.out).2.1); (case side3 => repeat (first | exact (Kd.R_reads' HO324.out).2.2 | (with_reducible refine Kd.C_alloc ?_ _) | (with_reducible refine Kd.C_drewN ?_ _) | (with_reducible refine Kd.C_drew ?_))); (case side4 => exact (Kd.R_reads' HO324.out).2.1); rintro e w24 ⟨rfl, hb⟩; refine ⟨_, rfl, ?_⟩; have n0_ := Aside0.mk (Kd.R_below (by (with_reducible repeat (first | apply Kd.R_alloc | apply Kd.R_drewN | apply Kd.R_drew)); exact HO_6.out) hb); have n1_ := Aside0.mk (Kd.R_below (by (with_reducible repeat (first | apply Kd.R_alloc | apply Kd.R_drewN | apply Kd.R_drew)); exact HO324.out) hb); have n2_ := Aside0.mk (below_step (by repeat (first | (with_reducible first | exact HB.out | apply below_alloc | apply pw_below_drewN | apply below_drew1) | exact HB.out)) hb); clear HO_6; clear HO324; clear HB; have HO_6 := n0_; have HO324 := n1_; have HB := n2_; clear n0_ n1_ n2_; (try clear hb); (try clear hb2); (try clear hk); (try clear hi)))
            go_ret
            exact ⟨by first | rfl | (simp [errW_none, errW_some] <;> rfl) | (simp [*, errW_none, errW_some] <;> rfl), by repeat (first | (with_reducible first | exact HB.out | apply below_alloc | apply pw_below_drewN | apply below_drew1) | exact HB.out)⟩
          · replace c21 := Bool.eq_false_iff.mpr c21
            subst c21
            have H1 : (some false) = some r := by rw [if_neg (show ¬ (false = true) by decide)] at H; exact H
            clear H
            have H := H1
            clear H1
            obtain rfl := Option.some.inj H
            go_wp2_with (first | ((with_reducible refine gate_callee (f := 12) rfl ?_); refine goesL_ (some 37) rfl rfl Tryz.func12 (by kernel_rfl) rfl #[.slice A0 l0.length c0] rfl (by (try simp only [List.map_toArray, List.map_cons, List.map_nil]); first | done | rfl | (simp only [List.length_drop, List.length_take]; rfl)) ?_; (with_reducible refine (laws_toItemS.calls kj8 _ _ l0 t322 _ ?side1 ?side2 A19.out).mono ?_); (case side1 => repeat (first | exact (Kd.C_below HR0.out HB.out) | (with_reducible refine Kd.C_alloc ?_ _) | (with_reducible refine Kd.C_drewN ?_ _) | (with_reducible refine Kd.C_drew ?_))); (case side2 => exact HC0.out); rintro e w25 ⟨v323, rfl, ho0, hb⟩; refine ⟨_, rfl, ?_⟩; have n0_ := Aside0.mk (Kd.R_elder' (by (with_reducible repeat (first | apply Kd.R_alloc | apply Kd.R_drewN | apply Kd.R_drew)); exact HO_6.out) (Kd.R_base ho0) hb); have n1_ := Aside0.mk (Kd.R_lower (Kd.R_new' ho0 (Kd.R_lt (by (with_reducible repeat (first | apply Kd.R_alloc | apply Kd.R_drewN | apply Kd.R_drew)); exact HO_6.out))) (below_size (by repeat (first | (with_reducible first | exact HB.out | apply below_alloc | apply pw_below_drewN | apply below_drew1) | exact HB.out)))); have n2_ := Aside0.mk (below_step (by repeat (first | (with_reducible first | exact HB.out | apply below_alloc | apply pw_below_drewN | apply below_drew1) | exact HB.out)) hb); clear HO_6; clear HB; have HO_6 := n0_; have HO324 := n1_; have HB := n2_; clear n0_ n1_ n2_; (try clear hb); (try clear hb2); (try clear hk); (try clear hi); (try clear ho0); obtain ⟨Ao26, co26, eo26⟩ := Kd.R_slice HO324.out; subst eo26) | ((with_reducible refine gate_callee (f := 14) rfl ?_); refine goesL_ (some 38) rfl rfl Tryz.func14 (by kernel_rfl) rfl #[.slice Ao15 t317.length co15, .slice Ao26 t322.length co26] rfl (by (try simp only [List.map_toArray, List.map_cons, List.map_nil]); first | done | rfl | (simp only [List.length_drop, List.length_take]; rfl)) ?_; (with_reducible refine (laws_eqItemS.calls kj8 _ _ t317 _ _ t322 false _ ?side1 ?side2 ?side3 ?side4 A20.out).mono ?_); (case side1 => repeat (first | exact (Kd.R_reads' HO_6.out).2.2 | (with_reducible refine Kd.C_alloc ?_ _) | (with_reducible refine Kd.C_drewN ?_ _) | (with_reducible refine Kd.C_drew ?_))); (case side2 => exact (Kd.R_reads' HO_6.out).2.1); (case side3 => repeat (first | exact (Kd.R_reads' HO324.out).2.2 | (with_reducible refine Kd.C_alloc ?_ _) | (with_reducible refine Kd.C_drewN ?_ _) | (with_reducible refine Kd.C_drew ?_))); (case side4 => exact (Kd.R_reads' HO324.out).2.1); rintro e w27 ⟨rfl, hb⟩; refine ⟨_, rfl, ?_⟩; have n0_ := Aside0.mk (Kd.R_below (by (with_reducible repeat (first | apply Kd.R_alloc | apply Kd.R_drewN | apply Kd.R_drew)); exact HO_6.out) hb); have n1_ := Aside0.mk (Kd.R_below (by (with_reducible repeat (first | apply Kd.R_alloc | apply Kd.R_drewN | apply Kd.R_drew)); exact HO324.out) hb); have n2_ := Aside0.mk (below_step (by repeat (first | (with_reducible first | exact HB.out | apply below_alloc | apply pw_below_drewN | apply below_drew1) | exact HB.out)) hb); clear HO_6; clear HO324; clear HB; have HO_6 := n0_; have HO324 := n1_; have HB := n2_; clear n0_ n1_ n2_; (try clear hb); (try clear hb2); (try clear hk); (try clear hi)))
            go_ret
            exact ⟨by first | rfl | (simp [errW_none, errW_some] <;> rfl) | (simp [*, errW_none, errW_some] <;> rfl), by repeat (first | (with_reducible first | exact HB.out | apply below_alloc | apply pw_below_drewN | apply below_drew1) | exact HB.out)⟩

end Go.Proofs.YthhmkbchdiflcaaGreatDoor.Q

/- The reference's PackItems comes to the plain text; the law over lists alone. -/
namespace Go.Proofs.YthhmkbchdiflcaaGreatDoor.Q
open Go.RowKit Go.Proofs.YthhmkbchdiflcaaGreatDoorW.PrintWords Go.Proofs.YthhmkbchdiflcaaGreatDoorW.PrintLast Go.Proofs.YthhmkbchdiflcaaGreatDoorW.PrintMore
attribute [local go_sem] max2_int min2_int max_two min_two max_three min_three max_four min_four   -- for this text's walks alone
set_option linter.unusedVariables false
set_option linter.unusedSimpArgs false

theorem numB_one (u : Nat) (h : u < 10) : numB (u : Int) = ⟨#[UInt8.ofNat (48 + u)]⟩ := by
  unfold numB
  rw [Int.toNat_natCast, Lib.decDigits, dif_pos h]
theorem octal_ev (m : Int) (h0 : 0 ≤ m) (h1 : m ≤ 511) : Ev (fun k => spec_l1Octal.f k m) (octB m) := by
  obtain ⟨u, rfl⟩ : ∃ u : Nat, m = u := ⟨m.toNat, by omega⟩
  have e1 : wrap64 (Int.tdiv (u : Int) 64) = ((u / 64 : Nat) : Int) := by
    rw [Int.tdiv_eq_ediv_of_nonneg (by omega)]; unfold wrap64; omega
  have e2 : wrap64 (Int.tdiv (u : Int) 8) = ((u / 8 : Nat) : Int) := by
    rw [Int.tdiv_eq_ediv_of_nonneg (by omega)]; unfold wrap64; omega
  have e3 : Int.tmod ((u / 8 : Nat) : Int) 8 = ((u / 8 % 8 : Nat) : Int) := by
    rw [Int.tmod_eq_emod_of_nonneg (by omega)]; omega
  have e4 : Int.tmod (u : Int) 8 = ((u % 8 : Nat) : Int) := by
    rw [Int.tmod_eq_emod_of_nonneg (by omega)]; omega
  unfold spec_l1Octal.f
  rw [e1, e2, e3, e4]
  have n1 := l1Num_ev (u / 64) (by omega)
  have n2 := l1Num_ev (u / 8 % 8) (by omega)
  have n3 := l1Num_ev (u % 8) (by omega)
  rw [numB_one _ (by omega)] at n1 n2 n3
  refine Ev.bind n1 (Ev.bind n2 ?_)
  refine Ev.congr (fun k => by rw [if_pos (by show (1 + 1 : Nat) ≤ 9223372036854775807; decide)]) (Ev.bind n3 ?_)
  refine Ev.congr (f := fun _ => some (octB (u : Int))) (fun k => ?_) (Ev.now _)
  rw [if_pos (by rw [ByteArray.size_append]; show (1 + 1 + 1 : Nat) ≤ 9223372036854775807; decide)]
  rfl
theorem plain_loop (s : ByteArray) (hs : s.size < 4294967281) (d : Nat) : ∀ i : Nat, i + d = s.size → Ev (fun k => spec_l17Plain.l0 k s (i : Int)) ((s.data.toList.drop i).all fun c => c != 9 && c != 10) := by
  induction d with
  | zero =>
    intro i hi
    rw [List.drop_of_length_le (by rw [data_length]; omega)]
    refine Ev.step (f := fun _ => some true) (fun k => ?_) (Ev.now true)
    simp only [spec_l17Plain.l0]; rw [if_neg (by omega)]
  | succ d ih =>
    intro i hi
    have hlt : i < s.data.toList.length := by rw [data_length]; omega
    have hb : bt s (i : Int) = ((s.data.toList[i].toNat : Nat) : Int) := by
      unfold bt
      rw [dif_pos (show (i : Int).toNat < s.size by omega)]
      rfl
    have hw : wrap64 ((i : Int) + 1) = ((i + 1 : Nat) : Int) := by unfold wrap64; omega
    rw [List.drop_eq_getElem_cons hlt, List.all_cons]
    have e : ∀ k, spec_l17Plain.l0 (k + 1) s (i : Int) = if ((s.data.toList[i].toNat : Nat) : Int) = 9 then some false else if ((s.data.toList[i].toNat : Nat) : Int) = 10 then some false else spec_l17Plain.l0 k s ((i + 1 : Nat) : Int) := fun k => by
      simp only [spec_l17Plain.l0]
      rw [if_pos (by omega), if_pos (by omega), hb, hw]
    have n9 : ∀ c : UInt8, ((c.toNat : Nat) : Int) = 9 ↔ c = 9 := fun c => by
      rw [← UInt8.toNat_inj]; have : (9 : UInt8).toNat = 9 := rfl; omega
    have n10 : ∀ c : UInt8, ((c.toNat : Nat) : Int) = 10 ↔ c = 10 := fun c => by
      rw [← UInt8.toNat_inj]; have : (10 : UInt8).toNat = 10 := rfl; omega
    by_cases h9 : s.data.toList[i] = 9
    · have : (s.data.toList[i] != 9 && s.data.toList[i] != 10) = false := by rw [h9]; rfl
      rw [this, Bool.false_and]
      exact Ev.step (f := fun _ => some false) (fun k => by rw [e k, if_pos ((n9 _).mpr h9)]) (Ev.now _)
    · by_cases h10 : s.data.toList[i] = 10
      · have : (s.data.toList[i] != 9 && s.data.toList[i] != 10) = false := by rw [h10]; rfl
        rw [this, Bool.false_and]
        exact Ev.step (f := fun _ => some false) (fun k => by rw [e k, if_neg (fun h => h9 ((n9 _).mp h)), if_pos ((n10 _).mpr h10)]) (Ev.now _)
      · have : (s.data.toList[i] != 9 && s.data.toList[i] != 10) = true := by rw [bne_iff_ne.mpr h9, bne_iff_ne.mpr h10]; rfl
        rw [this, Bool.true_and]
        exact Ev.step (fun k => by rw [e k, if_neg (fun h => h9 ((n9 _).mp h)), if_neg (fun h => h10 ((n10 _).mp h))]) (ih (i + 1) (by omega))
theorem plain_ev (s : ByteArray) (hs : s.size < 4294967281) : Ev (fun k => spec_l17Plain.f k s) (s.data.toList.all fun c => c != 9 && c != 10) := by
  have := plain_loop s hs s.size 0 (by omega)
  exact this
/-- A text of bytes. -/
def mkB (l : List UInt8) : ByteArray := ⟨l.toArray⟩
theorem mkB_app (a : List UInt8) (x : ByteArray) : mkB a ++ x = mkB (a ++ x.data.toList) := by
  unfold mkB; apply ByteArray.ext; simp [ByteArray.data_append]
theorem mkB_size (a : List UInt8) : (mkB a).size = a.length := by simp [mkB, ByteArray.size]
theorem app_list (a b : ByteArray) : (a ++ b).data.toList = a.data.toList ++ b.data.toList := by
  rw [ByteArray.data_append, Array.toList_append]
theorem app_size (a b : ByteArray) : (a ++ b).size = a.size + b.size := by
  rw [← data_length, app_list, List.length_append, data_length, data_length]
/-- The last step of the inner loop: the way, the data, the line's end. -/
theorem text_last (l : List It) (n : Int) (i : Nat) (L : List UInt8) (nums : List Int) (a0 a7 : ByteArray) (a1 a2 a3 a4 a5 a6 : Int) (r : ByteArray) (hL : L.length ≤ 1000000000000) (h0 : a0.size < 4294967281) (h7 : a7.size < 4294967281)
    (h : Ev (fun k => spec_l17Text.l0 k (mkB (L ++ [9] ++ a0.data.toList ++ [9] ++ a7.data.toList ++ [10])) l n (wrap64 ((i : Int) + 1))) r) :
    Ev (fun k => spec_l17Text.l1 k (mkB L) l n (i : Int) nums 4 4 a0 a1 a2 a3 a4 a5 a6 a7) r := by
  refine Ev.step (fun k => ?_) h
  have s9 : (⟨#[9]⟩ : ByteArray).size = 1 := rfl
  have s10 : (⟨#[10]⟩ : ByteArray).size = 1 := rfl
  simp only [spec_l17Text.l1, app_size, s9, s10, mkB_size]
  rw [if_neg (by omega), if_pos (by omega), if_pos (by omega), if_pos (by omega), if_pos (by omega), if_pos (by omega), mkB_app]
  simp only [app_list, List.append_assoc]
theorem text_step (l : List It) (n : Int) (i : Nat) (L : List UInt8) (nums : List Int) (a0 a7 : ByteArray) (a1 a2 a3 a4 a5 a6 : Int) (r : ByteArray) (j : Nat) (hj : j < 4) (hn : nums.length = 4) (y : Nat) (hy : nums.getD j 0 = (y : Int)) (hy2 : y ≤ 1000000) (hL : L.length ≤ 1000000000000)
    (h : Ev (fun k => spec_l17Text.l1 k (mkB (L ++ [9] ++ (numB y).data.toList)) l n (i : Int) nums 4 ((j + 1 : Nat) : Int) a0 a1 a2 a3 a4 a5 a6 a7) r) :
    Ev (fun k => spec_l17Text.l1 k (mkB L) l n (i : Int) nums 4 (j : Int) a0 a1 a2 a3 a4 a5 a6 a7) r := by
  have s9 : (⟨#[9]⟩ : ByteArray).size = 1 := rfl
  have hz := numB_le (y : Int) (by omega) (by omega)
  rw [data_length] at hz
  refine Ev.step (f := fun k => (spec_l1Num.f k (y : Int)).bind fun t => if 1 + t.size ≤ 9223372036854775807 then (if (mkB L).size + ((⟨#[9]⟩ : ByteArray) ++ t).size ≤ 9223372036854775807 then spec_l17Text.l1 k (mkB L ++ ((⟨#[9]⟩ : ByteArray) ++ t)) l n (i : Int) nums 4 ((j + 1 : Nat) : Int) a0 a1 a2 a3 a4 a5 a6 a7 else none) else none) (fun k => ?_) ?_
  · have hr : rd nums (j : Int) = (y : Int) := by unfold rd; rw [Int.toNat_natCast]; exact hy
    have hw : wrap64 ((j : Int) + 1) = ((j + 1 : Nat) : Int) := by unfold wrap64; omega
    simp only [spec_l17Text.l1]
    rw [if_pos (by omega), if_pos (by omega), if_pos (by omega), hr, hw]
  · refine Ev.bind (l1Num_ev y (by omega)) ?_
    refine Ev.congr (fun k => ?_) h
    rw [if_pos (by omega), if_pos (by rw [app_size, mkB_size, s9]; omega), mkB_app, app_list, List.append_assoc]
theorem text_loop (l : List It) (hl : l.length ≤ 40) (hN : ∀ i, i < l.length → NumsOk (itAt l i) ∧ (itAt l i).f0.size < 4294967281 ∧ (itAt l i).f7.size < 4294967281) (d : Nat) : ∀ (i : Nat) (L : List UInt8), i + d = l.length → L.length ≤ i * 8600000000 →
    Ev (fun k => spec_l17Text.l0 k (mkB L) l (l.length : Int) (i : Int)) (mkB (L ++ packL (l.drop i))) := by
  induction d with
  | zero =>
    intro i L hi hL
    rw [List.drop_of_length_le (by omega)]
    refine Ev.step (f := fun _ => some (mkB L)) (fun k => ?_) (by rw [show packL [] = [] from rfl, List.append_nil]; exact Ev.now _)
    simp only [spec_l17Text.l0]; rw [if_neg (by omega)]
  | succ d ih =>
    intro i L hi hL
    have hlt : i < l.length := by omega
    obtain ⟨hn, hs0, hs7⟩ := hN i hlt
    have hle := lineL_le _ hn
    have hxe : itAt l i = l[i] := rdI l i hlt
    have hr : rd_T74 l (i : Int) = itAt l i := rfl
    rw [List.drop_eq_getElem_cons hlt, show packL (l[i] :: l.drop (i + 1)) = lineL l[i] ++ packL (l.drop (i + 1)) from rfl, ← hxe]
    have hih := ih (i + 1) (L ++ lineL (itAt l i)) (by omega) (by rw [List.length_append]; omega)
    obtain ⟨x, hx⟩ : ∃ x, x = itAt l i := ⟨_, rfl⟩
    rw [← hx] at hn hs0 hs7 hle hih hr ⊢
    have hk := hn.k; have hm := hn.m; have hu := hn.u; have hg := hn.g; have ht := hn.t; have hs := hn.s
    obtain ⟨u1, e1⟩ : ∃ u : Nat, x.f1 = u := ⟨x.f1.toNat, by omega⟩
    obtain ⟨u3, e3⟩ : ∃ u : Nat, x.f3 = u := ⟨x.f3.toNat, by omega⟩
    obtain ⟨u4, e4⟩ : ∃ u : Nat, x.f4 = u := ⟨x.f4.toNat, by omega⟩
    obtain ⟨u5, e5⟩ : ∃ u : Nat, x.f5 = u := ⟨x.f5.toNat, by omega⟩
    obtain ⟨u6, e6⟩ : ∃ u : Nat, x.f6 = u := ⟨x.f6.toNat, by omega⟩
    have z1 := numB_le x.f1 (by omega) (by omega); rw [data_length] at z1
    have z3 := numB_le x.f3 (by omega) (by omega); rw [data_length] at z3
    have z4 := numB_le x.f4 (by omega) (by omega); rw [data_length] at z4
    have z5 := numB_le x.f5 (by omega) (by omega); rw [data_length] at z5
    have z6 := numB_le x.f6 (by omega) (by omega); rw [data_length] at z6
    have s9 : (⟨#[9]⟩ : ByteArray).size = 1 := rfl
    refine Ev.step (f := fun k => (spec_l1Num.f k x.f1).bind fun t214 => if t214.size + 1 ≤ 9223372036854775807 then ((spec_l1Octal.f k x.f2).bind fun t215 => if (t214 ++ (⟨#[9]⟩ : ByteArray)).size + t215.size ≤ 9223372036854775807 then (if (mkB L).size + ((t214 ++ (⟨#[9]⟩ : ByteArray)) ++ t215).size ≤ 9223372036854775807 then spec_l17Text.l1 k (mkB L ++ ((t214 ++ (⟨#[9]⟩ : ByteArray)) ++ t215)) l (l.length : Int) (i : Int) [x.f3, x.f4, x.f5, x.f6] 4 ((0 : Nat) : Int) x.f0 x.f1 x.f2 x.f3 x.f4 x.f5 x.f6 x.f7 else none) else none) else none) (fun k => ?_) ?_
    · simp only [spec_l17Text.l0]
      rw [if_pos (by omega), if_pos (by omega), if_pos (by omega), hr]
      rfl
    · rw [e1]
      refine Ev.bind (l1Num_ev u1 (by omega)) ?_
      rw [← e1]
      refine Ev.congr (fun k => by rw [if_pos (by omega)]) (Ev.bind (octal_ev x.f2 hm.1 hm.2) ?_)
      have so := octB_size x.f2
      refine Ev.congr (fun k => by rw [if_pos (by rw [app_size, s9]; omega), if_pos (by rw [app_size, app_size, mkB_size, s9]; omega), mkB_app, app_list, app_list]) ?_
      have w3 := data_length (numB x.f3); have w4 := data_length (numB x.f4); have w5 := data_length (numB x.f5); have w6 := data_length (numB x.f6); have w1 := data_length (numB x.f1); have wo := data_length (octB x.f2)
      refine text_step l _ i _ _ x.f0 x.f7 _ _ _ _ _ _ _ 0 (by omega) rfl u3 e3 (by omega) (by simp only [List.length_append, List.length_cons, List.length_nil]; omega) ?_
      rw [← e3]
      refine text_step l _ i _ _ x.f0 x.f7 _ _ _ _ _ _ _ 1 (by omega) rfl u4 e4 (by omega) (by simp only [List.length_append, List.length_cons, List.length_nil]; omega) ?_
      rw [← e4]
      refine text_step l _ i _ _ x.f0 x.f7 _ _ _ _ _ _ _ 2 (by omega) rfl u5 e5 (by omega) (by simp only [List.length_append, List.length_cons, List.length_nil]; omega) ?_
      rw [← e5]
      refine text_step l _ i _ _ x.f0 x.f7 _ _ _ _ _ _ _ 3 (by omega) rfl u6 e6 (by omega) (by simp only [List.length_append, List.length_cons, List.length_nil]; omega) ?_
      rw [← e6]
      refine text_last l _ i _ _ x.f0 x.f7 _ _ _ _ _ _ _ (by simp only [List.length_append, List.length_cons, List.length_nil]; omega) hs0 hs7 ?_
      rw [show wrap64 ((i : Int) + 1) = ((i + 1 : Nat) : Int) by unfold wrap64; omega]
      have e : L ++ ((numB x.f1).data.toList ++ (⟨#[9]⟩ : ByteArray).data.toList ++ (octB x.f2).data.toList) ++ [9] ++ (numB x.f3).data.toList ++ [9] ++ (numB x.f4).data.toList ++ [9] ++ (numB x.f5).data.toList ++ [9] ++ (numB x.f6).data.toList ++ [9] ++ x.f0.data.toList ++ [9] ++ x.f7.data.toList ++ [10] = L ++ lineL x := by
        rw [lineL_eq]; simp only [List.append_assoc]
      rw [e, ← List.append_assoc]
      exact hih
theorem pack_loop (l : List It) (hl : l.length ≤ 40) (hN : ∀ i, i < l.length → NumsOk (itAt l i) ∧ (itAt l i).f0.size < 4294967281 ∧ (itAt l i).f7.size < 4294967281) (d : Nat) : ∀ i : Nat, i + d = l.length →
    Ev (fun k => spec_PackItems.l0 k l l (l.length : Int) (i : Int)) (if (l.drop i).all plainB = true then (mkB (packL l), true) else (⟨#[]⟩, false)) := by
  induction d with
  | zero =>
    intro i hi
    rw [List.drop_of_length_le (by omega), if_pos (show ([] : List It).all plainB = true from rfl)]
    have ht := text_loop l hl hN l.length 0 [] (by omega) (by simp)
    refine Ev.step (f := fun k => (spec_l17Text.f k l).bind fun t => some (t, true)) (fun k => ?_) (Ev.bind (f := fun _ t => some (t, true)) ht (Ev.now _))
    simp only [spec_PackItems.l0]; rw [if_neg (by omega)]
  | succ d ih =>
    intro i hi
    have hlt : i < l.length := by omega
    have hp := plain_ev (itAt l i).f7 (hN i hlt).2.2
    have hw : wrap64 ((i : Int) + 1) = ((i + 1 : Nat) : Int) := by unfold wrap64; omega
    have hr : rd_T74 l (i : Int) = itAt l i := rfl
    refine Ev.step (f := fun k => (spec_l17Plain.f k (itAt l i).f7).bind fun t => if t = true then spec_PackItems.l0 k l l (l.length : Int) ((i + 1 : Nat) : Int) else some (⟨#[]⟩, false)) (fun k => ?_) (Ev.bind hp ?_)
    · simp only [spec_PackItems.l0]; rw [if_pos (by omega), if_pos (by omega), if_pos (by omega), hr, hw]
    · rw [List.drop_eq_getElem_cons hlt, List.all_cons, ← show itAt l i = l[i] from rdI l i hlt]
      cases hq : plainB (itAt l i) with
      | true =>
        rw [Bool.true_and]
        exact Ev.congr (fun k => by rw [if_pos (show ((itAt l i).f7.data.toList.all fun c => c != 9 && c != 10) = true from hq)]) (ih (i + 1) (by omega))
      | false =>
        rw [Bool.false_and, if_neg (by simp)]
        exact Ev.congr (f := fun _ => some (⟨#[]⟩, false)) (fun k => by rw [if_neg (by rw [show ((itAt l i).f7.data.toList.all fun c => c != 9 && c != 10) = plainB (itAt l i) from rfl, hq]; simp)]) (Ev.now _)
theorem pack_ev (l : List It) (hs0 : ∀ i, (itAt l i).f0.size < 4294967281) (hs7 : ∀ i, (itAt l i).f7.size < 4294967281) : Ev (fun k => spec_PackItems.f k l) (packB l) := by
  unfold spec_PackItems.f packB
  refine Ev.bind (l17Good_ev l hs0 hs7) ?_
  cases hg : goodB l with
  | false => exact Ev.congr (f := fun _ => some (⟨#[]⟩, false)) (fun k => by rw [if_neg (by simp)]) (by rw [if_neg (by simp)]; exact Ev.now _)
  | true =>
    have hlen : l.length ≤ 40 := by unfold goodB at hg; simp at hg; exact hg.2.1
    have := pack_loop l hlen (fun i hi => ⟨good_nums hg hi, hs0 i, hs7 i⟩) l.length 0 (by omega)
    refine Ev.congr (fun k => by rw [if_pos rfl]) ?_
    simp only [true_and]
    exact this
/-- The law over lists alone. -/
theorem purePackItems (l0 : List Li) (h0 : l0.length ≤ maxLen) (hs0 : ∀ x ∈ l0, x.f0.size ≤ maxLen ∧ x.f7.size ≤ maxLen) : ∃ k, laws_FnExactPackItems.f k l0 = some true := by
  refine Ev.rounds ?_
  unfold laws_FnExactPackItems.f
  obtain ⟨r, hr, hr1, hr2⟩ := szItemS_ev l0 h0 hs0 1048576 (by omega) (by omega)
  refine Ev.bind hr ?_
  by_cases hc : r < 0
  · exact Ev.congr (f := fun _ => some true) (fun k => by rw [if_pos hc]) (Ev.now _)
  refine Ev.congr (fun k => by rw [if_neg hc]) ?_
  obtain ⟨b0, hz⟩ := hr2 (by omega)
  have t0 := toItemS_ev l0 (by omega)
  have hsm := conv_small l0 hz
  have hspec := pack_ev (l0.map conv) (fun i => (hsm i).1) (fun i => (hsm i).2)
  have himpl : Ev (fun _ => impl_PackItems.f (l0.map conv)) (packB (l0.map conv)) := by
    unfold impl_PackItems.f
    have hs : smallItems (l0.map conv) = true := List.all_eq_true.mpr fun x hx => by
      obtain ⟨i, hi, rfl⟩ := List.getElem_of_mem hx
      rw [← rdI _ i hi]
      exact decide_eq_true (hsm i)
    rw [if_pos hs]
    exact Ev.now _
  refine Ev.bind t0 (Ev.bind hspec (Ev.bind t0 (Ev.bind himpl ?_)))
  refine Ev.congr (f := fun k => laws_FnExactPackItems.j0 k l0 (l0.map conv) false) (fun k => by rw [if_pos rfl]; simp) ?_
  refine Ev.step (f := fun k => ((laws_toItemS.f k l0).bind fun t348 => ((laws_eqItemS.f k (l0.map conv) t348).bind fun t351 => (if t351 = true then (some true) else (some false))))) (fun k => ?_) ?_
  · simp only [laws_FnExactPackItems.j0]; rw [if_neg (by simp)]
  refine Ev.bind t0 (Ev.bind (eqItemS_ev _ (by rw [List.length_map]; omega)) ?_)
  exact Ev.congr (f := fun _ => some true) (fun k => by rw [if_pos rfl]) (Ev.now _)

end Go.Proofs.YthhmkbchdiflcaaGreatDoor.Q
