/- Texts of this claim, merged by a program (wip/tools/merge.py): HReadItem. -/
import Derived.Test.YthhmkbchdiflcaaGreatDoorR1
import Derived.Test.YthhmkbchdiflcaaGreatDoorR21
import Derived.Test.YthhmkbchdiflcaaGreatDoorR24
import Derived.StillTailTactics
import Derived.Outline
import Derived.Deep.RegionHeld3
import Derived.Deep.DeepCutAuto
/- impl.readItem: the walk, at eight words. -/
namespace Go.Proofs.YthhmkbchdiflcaaGreatDoor.Q
open Go.RowKit Go.Proofs.YthhmkbchdiflcaaGreatDoorW.PrintWords Go.Proofs.YthhmkbchdiflcaaGreatDoorW.PrintLast Go.Proofs.YthhmkbchdiflcaaGreatDoorW.PrintMore
attribute [local go_sem] max2_int min2_int max_two min_two max_three min_three max_four min_four   -- for this text's walks alone
set_option linter.unusedVariables false
set_option linter.unusedSimpArgs false

def wd (l : List ByteArray) (j : Nat) : ByteArray := rdOf ByteArray.empty l (j : Int)
def numsOf (l : List ByteArray) : List ByteArray := [wd l 0, wd l 2, wd l 3, wd l 4, wd l 5]
def okItem (l : List ByteArray) : Bool := (octR (wd l 1)).2 && (numsOf l).all sevB
def impl_readItem.f (l : List ByteArray) : Option (ByteArray × Int × Int × Int × Int × Int × Int × ByteArray × Bool) :=
  if l.length = 8 ∧ (l.all fun x => decide (x.size < 4294967281)) = true then
    some (wd l 6, sevV (wd l 0), (octR (wd l 1)).1, sevV (wd l 2), sevV (wd l 3), sevV (wd l 4), sevV (wd l 5), wd l 7, okItem l) else none
theorem intInfo : (Tryz.prog.info? 3).map (fun i => (i.zero, i.size, i.bytes)) = some (some (.int .i64 0), 1, 8) := by kernel_rfl
abbrev zeroItem : Array Value := #[.string (⟨#[]⟩ : ByteArray), .int .i64 0, .int .i64 0, .int .i64 0, .int .i64 0, .int .i64 0, .int .i64 0, .string (⟨#[]⟩ : ByteArray)]
def riT10 : Bool × List (List Nat × List Nat) := (true, [([], []), ([0], [0]), ([1], [1]), ([], []), ([3], [3]), ([4], [4]), ([], []), ([], []), ([7], [7]), ([8], [8]), ([], []), ([10], [10]), ([11], [11]), ([], []), ([13], [13]), ([14], [14]), ([], []), ([16], [16]), ([17], [17]), ([], []), ([19], [19]), ([20], [20]), ([2, 5, 6, 9, 12, 15, 18, 21], [2, 5, 6, 9, 12, 15, 18, 21]), ([], []), ([22, 0, 1, 2, 3, 4, 5, 6, 7, 8, 9, 10, 11, 12, 13, 14, 15, 16, 17, 18, 19, 20, 21, 22], [22]), ([23, 24, 0, 1, 2, 3, 4, 5, 6, 7, 8, 9, 10, 11, 12, 13, 14, 15, 16, 17, 18, 19, 20, 21, 22, 23, 24], [23])])
def riB10 : List Nat := [0, 1, 3, 0, 8, 24, 0, 0, 128, 384, 0, 1024, 3072, 0, 8192, 24576, 0, 65536, 196608, 0, 524288, 1572864, 4194303, 0, 8388607, 33554431]
theorem riTab10 : rtab .any (opsOf Tryz.f73 10) = riT10 := by kernel_rfl
theorem riBits10 : waitsOk riT10.2 riB10 = true := by kernel_rfl
theorem far8 {W : World} {gr : Nat} {a : Addr} {x v0 v1 v2 v3 v4 v5 v6 v7 : Value} (h : W.cell? a = some x) (hne : a.block ≠ gr) :
    ((((((((W.setCell ⟨gr, 0, none⟩ v0).setCell ⟨gr, 1, none⟩ v1).setCell ⟨gr, 2, none⟩ v2).setCell ⟨gr, 3, none⟩ v3).setCell ⟨gr, 4, none⟩ v4).setCell ⟨gr, 5, none⟩ v5).setCell ⟨gr, 6, none⟩ v6).setCell ⟨gr, 7, none⟩ v7).cell? a = some x := by
  have key : ∀ (X : World) (o : Nat) (v : Value), (X.setCell ⟨gr, o, none⟩ v).cell? a = X.cell? a := fun X o v => World.cell?_setCell_other X ⟨gr, o, none⟩ a v (fun e => hne (by rw [← e]))
  rw [key, key, key, key, key, key, key, key]; exact h
theorem keep5 {w W : World} {a b c d f : Addr} {x y z u v : Value} (h1 : w.cell? a = some x) (h2 : w.cell? b = some y) (h3 : w.cell? c = some z) (h4 : w.cell? d = some u) (h5 : w.cell? f = some v) (hb : Below w.heap.size w W) :
    W.cell? a = some x ∧ W.cell? b = some y ∧ W.cell? c = some z ∧ W.cell? d = some u ∧ W.cell? f = some v :=
  ⟨(hb.cell (World.block_lt_of_cell? _ _ h1)).trans h1, (hb.cell (World.block_lt_of_cell? _ _ h2)).trans h2, (hb.cell (World.block_lt_of_cell? _ _ h3)).trans h3, (hb.cell (World.block_lt_of_cell? _ _ h4)).trans h4, (hb.cell (World.block_lt_of_cell? _ _ h5)).trans h5⟩
set_option maxHeartbeats 8000000 in
set_option maxRecDepth 100000 in
theorem readItem_walk (ad : Addr) (c0 : Nat) (l : List ByteArray) (hl : l.length = 8) (w : World) (hr : Kd.C Kd.string w (some ad) l.length l) (hs : ∀ x ∈ l, x.size < 4294967281) (hE : EnvR w) :
    Calls Tryz.prog 73 #[.slice (some ad) 8 c0] w fun e w' => e = .returned (.tuple #[.agg #[.string (wd l 6), .int .i64 (sevV (wd l 0)), .int .i64 (octR (wd l 1)).1, .int .i64 (sevV (wd l 2)), .int .i64 (sevV (wd l 3)), .int .i64 (sevV (wd l 4)), .int .i64 (sevV (wd l 5)), .string (wd l 7)], .bool (okItem l)]) ∧ Below w.heap.size w w' := by
  have hu1 := Tryz.underlying74
  have hcell : ∀ j : Nat, j < 8 → w.cell? (ad.add j) = some (.string (wd l j)) := fun j hj => by
    obtain ⟨ad', e, hx⟩ := Kd.at_string hr (j : Int) (by omega) (by omega)
    injection e with e
    subst e
    rw [Int.toNat_natCast] at hx
    exact hx
  have hsz : ∀ j : Nat, j < 8 → (wd l j).size < 4294967281 := fun j hj => by
    unfold wd rdOf
    rw [Int.toNat_natCast, List.getD_eq_getElem?_getD, List.getElem?_eq_getElem (by omega)]
    exact hs _ (List.getElem_mem _)
  have HSZ := Aside0.mk hsz
  have HE := Aside0.mk hE
  obtain ⟨K, hK⟩ := Ev.rounds (implOct_ev (wd l 1))
  have HO := Aside0.mk (fun W => impl_ReadOctal.calls K (wd l 1) (octR (wd l 1)).1 (octR (wd l 1)).2 W hK)
  have a0 : w.cell? ad = some (.string (wd l 0)) := by have := hcell 0 (by omega); rwa [show ad.add 0 = ad by cases ad; rfl] at this
  have ha : ∀ j : Nat, 0 < j → ad.add j = ⟨ad.block, ad.off + j, none⟩ := fun j hj => by
    unfold Addr.add; rw [if_neg (by omega)]
  have hcell' : ∀ j : Nat, 0 < j → j < 8 → w.cell? ⟨ad.block, ad.off + j, none⟩ = some (.string (wd l j)) := fun j h0 hj => by rw [← ha j h0]; exact hcell j hj
  have a1 := hcell' 1 (by omega) (by omega)
  have HLT := Aside0.mk (World.block_lt_of_cell? _ _ a0)
  have a1' := fun o => ((below_alloc (Below.refl w.heap.size w) o).cell (p := ⟨ad.block, ad.off + 1, none⟩) HLT.out).trans a1
  have HCELL := Aside0.mk hcell'
  have HA0 := Aside0.mk a0
  obtain ⟨on, hon⟩ : ∃ x, x = (octR (wd l 1)).1 := ⟨_, rfl⟩
  obtain ⟨ob, hob⟩ : ∃ x, x = (octR (wd l 1)).2 := ⟨_, rfl⟩
  have HOK : Aside0 (okItem l = (ob && (numsOf l).all sevB)) := ⟨by rw [hob]; rfl⟩
  rw [← hon, ← hob] at HO
  rw [← hon]
  obtain ⟨okr, hokr⟩ : ∃ x, x = okItem l := ⟨_, rfl⟩
  have HOKR := Aside0.mk hokr
  rw [← hokr]
  clear hr hs hE hcell hcell' hsz hl a0 a1 ha hK hon hob hokr
  go_enter Tryz.func73, Tryz.ntmps73
  go_wp2_with fail
  refine (HO.out _).mono ?_; rintro e w1 ⟨rfl, hd⟩
  go_upto_region 3 with (fail)
  obtain ⟨gr, hgr⟩ : ∃ y, y = w.heap.size := ⟨_, rfl⟩
  have hbr : w1.heap[gr]? = some (.cells zeroItem 74 (0, 0)) := by
    rw [hgr]; exact (hd.block _ (alloc_lt _ _)).trans (blk_new _ _)
  have hb1 : Below w.heap.size w w1 := below_step (below_alloc (Below.refl _ _) _) hd
  have hown := World.ownsRow_made (base := w1.heap.size) (size := 1) w1 #[] 0 (e := 3) (Nat.le_refl _) (by unfold maxLen; omega) rfl
  have hb2 : Below w1.heap.size w1 (w1.alloc (.cells #[] 3)) := below_alloc (Below.refl _ _) _
  rw [← hgr]
  generalize w1.alloc (.cells #[] 3) = w2 at hown hb2 ⊢
  generalize Value.slice (some ⟨w1.heap.size, 0, none⟩) 0 0 = v6 at hown ⊢
  obtain ⟨gp, hgp⟩ : ∃ y, y = w1.heap.size := ⟨_, rfl⟩
  rw [← hgp] at hown hb2
  have HGR : Aside0 (gr = w.heap.size ∧ gr < gp) := ⟨hgr, by rw [hgp]; exact blk_lt hbr⟩
  have HGP := Aside0.mk hgp
  have HBR := Aside0.mk hbr
  have HB1 := Aside0.mk hb1
  have hbw2 : Below w.heap.size w w2 := hb1.trans (hb2.mono (by have := hb1.size; omega))
  have HB2 := Aside0.mk hb2
  have HO2 := Aside0.mk hown
  have k0 := (hbw2.cell HLT.out).trans HA0.out
  have k2 := (hbw2.cell (p := ⟨ad.block, ad.off + 2, none⟩) HLT.out).trans (HCELL.out 2 (by omega) (by omega))
  have k3 := (hbw2.cell (p := ⟨ad.block, ad.off + 3, none⟩) HLT.out).trans (HCELL.out 3 (by omega) (by omega))
  have k4 := (hbw2.cell (p := ⟨ad.block, ad.off + 4, none⟩) HLT.out).trans (HCELL.out 4 (by omega) (by omega))
  have k5 := (hbw2.cell (p := ⟨ad.block, ad.off + 5, none⟩) HLT.out).trans (HCELL.out 5 (by omega) (by omega))
  clear hd hgr hbr hb1 hown hb2 hgp a1' hbw2
  go_region_held3 (fun W => W.cell? ad = some (.string (wd l 0)) ∧ W.cell? ⟨ad.block, ad.off + 2, none⟩ = some (.string (wd l 2)) ∧ W.cell? ⟨ad.block, ad.off + 3, none⟩ = some (.string (wd l 3)) ∧ W.cell? ⟨ad.block, ad.off + 4, none⟩ = some (.string (wd l 4)) ∧ W.cell? ⟨ad.block, ad.off + 5, none⟩ = some (.string (wd l 5)))
    (first | exact ⟨k0, k2, k3, k4, k5⟩ | exact keep5 k0 k2 k3 k4 k5 (below_alloc (below_drew1 (Below.refl _ _)) _)) (first | fail)
  go_wp2_with fail
  obtain ⟨gi, hgi⟩ : ∃ y, y = w2.heap.size := ⟨_, rfl⟩
  have hbi : (w2.alloc (.cells #[.string (wd l 0), .string (wd l 2), .string (wd l 3), .string (wd l 4), .string (wd l 5)] 9)).drew.heap[gi]? = some (.cells #[.string (wd l 0), .string (wd l 2), .string (wd l 3), .string (wd l 4), .string (wd l 5)] 9 (0, 0)) := by rw [hgi]; exact blk_new _ _
  have hO3 : (w2.alloc (.cells #[.string (wd l 0), .string (wd l 2), .string (wd l 3), .string (wd l 4), .string (wd l 5)] 9)).drew.ownsRow gp 3 1 v6 0 [] := HO2.out.alloc (.cells #[.string (wd l 0), .string (wd l 2), .string (wd l 3), .string (wd l 4), .string (wd l 5)] 9)
  have hb3 : Below gp w1 (w2.alloc (.cells #[.string (wd l 0), .string (wd l 2), .string (wd l 3), .string (wd l 4), .string (wd l 5)] 9)).drew := below_drew1 (HB2.out.alloc (by have := HB2.out.size; have := HGP.out; omega) _)
  rw [← hgi]
  generalize (w2.alloc (.cells #[.string (wd l 0), .string (wd l 2), .string (wd l 3), .string (wd l 4), .string (wd l 5)] 9)).drew = w3 at hbi hO3 hb3 ⊢
  have HO3 := Aside0.mk hO3
  have HB3 := Aside0.mk hb3
  have HBI := Aside0.mk hbi
  clear hgi hbi hO3 hb3 HO2 HB2 k0 k2 k3 k4 k5
  obtain ⟨i0, hi, hz0, hz1, hz2⟩ := info_parts intInfo
  go_loopw [5, 6, 36] (fun v5 v6 i wq => ∃ (j : Nat) (b : Bool), j ≤ 5 ∧ i = .int .i64 j ∧ v5 = .bool b ∧ Aside0 (b = (ob && ((numsOf l).take j).all sevB)) ∧ Aside0 (wq.ownsRow gp 3 1 v6 j (((numsOf l).take j).map fun x => .int .i64 (sevV x))) ∧ Aside0 (Below gp w1 wq) ∧
      Aside0 (wq.heap[gi]? = some (.cells #[.string (wd l 0), .string (wd l 2), .string (wd l 3), .string (wd l 4), .string (wd l 5)] 9 (0, 0)))) (fun _ _ i _ => 5 - (intOf i).toNat)
  case atStart => exact ⟨0, ob, by omega, rfl, rfl, ⟨by simp⟩, HO3, HB3, HBI⟩
  case round =>
    obtain ⟨j, b, hj, rfl, rfl, HQ, HO', HBq, HI⟩ := hrel
    have HBw : Aside0 (Below w.heap.size w wr) := ⟨HB1.out.trans (HBq.out.mono (by have := HB1.out.size; have := HGP.out; omega))⟩
    by_cases hj5 : j < 5
    case pos =>
      obtain ⟨y, hy⟩ : ∃ y, y = (numsOf l).getD j ByteArray.empty := ⟨_, rfl⟩
      have h5 : j = 0 ∨ j = 1 ∨ j = 2 ∨ j = 3 ∨ j = 4 := by omega
      have hys : y.size < 4294967281 := by
        rw [hy]
        rcases h5 with rfl | rfl | rfl | rfl | rfl
        · exact HSZ.out 0 (by omega)
        · exact HSZ.out 2 (by omega)
        · exact HSZ.out 3 (by omega)
        · exact HSZ.out 4 (by omega)
        · exact HSZ.out 5 (by omega)
      have HC := Aside0.mk (seven_calls y hys wr (HE.out.below HBw.out))
      have hci : wr.cell? ⟨gi, j, none⟩ = some (.string y) := by
        rw [blk_cell HI.out j, hy]
        rcases h5 with rfl | rfl | rfl | rfl | rfl <;> rfl
      have HTK : Aside0 ((numsOf l).take (j + 1) = (numsOf l).take j ++ [y]) := ⟨by
        rw [hy]
        rcases h5 with rfl | rfl | rfl | rfl | rfl <;> rfl⟩
      have q1 : ((0 : Int) ≤ (j : Int)) = True := eq_true (by omega)
      have q2 : ((j : Int) < 5) = True := eq_true (by omega)
      obtain ⟨sv, hsv⟩ : ∃ x, x = sevV y := ⟨_, rfl⟩
      obtain ⟨sb, hsb⟩ : ∃ x, x = sevB y := ⟨_, rfl⟩
      rw [← hsv, ← hsb] at HC
      have HSV := Aside0.mk hsv
      have HQ2 : Aside0 ((b && sb) = (ob && ((numsOf l).take (j + 1)).all sevB)) := ⟨by
        rw [HTK.out, List.all_append, HQ.out, hsb]; simp [Bool.and_assoc]⟩
      clear hy hys h5 hsv hsb
      cases b
      all_goals
        go_wp2_with fail
        refine HC.out.mono ?_; rintro e w8 ⟨rfl, hd⟩
        have hO8 := owns_below HO'.out hd
        have hsz : gp ≤ wr.heap.size := by have := HBq.out.size; have := HGP.out; omega
        go_wp2_with (first
          | (at_builtin; refine wpList_append_own _ rfl _ _ 82 rfl gp 3 i0 (.int .i64 0) 1 8 Tryz.underlying82 hi hz0 hz1 hz2 rfl (by decide) _ _ _ rfl (hO8.alloc _) ⟨w8.heap.size, 0, none⟩ 1 1 [.int .i64 sv] rfl rfl (by intro j' u hj'; match j', hj' with | 0, hj' => (simp at hj'; subst hj'; simp [Addr.add])) (by intro u hu; simp at hu; subst hu; rfl) (by unfold maxLen; omega) (by omega) (by have := alloc_lt w8 (.cells #[.int .i64 sv] 3); have := hd.size; omega) ?_)
          | go_in)
        intro v' w9 hown9 hgrow _
        have hb8 : Below gp w1 w8 := HBq.out.trans (hd.mono hsz)
        have hb9 : Below gp w1 w9 := (hb8.alloc (by have := hd.size; omega) _).grown hgrow (by have := alloc_lt w8 (.cells #[.int .i64 sv] 3); have := hd.size; omega) (fun k hk => (hO8.lt k hk).1)
        have hi8 : (w8.alloc (.cells #[.int .i64 sv] 3)).heap[gi]? = some (.cells #[.string (wd l 0), .string (wd l 2), .string (wd l 3), .string (wd l 4), .string (wd l 5)] 9 (0, 0)) := blk_alloc ((hd.block gi (blk_lt HI.out)).trans HI.out) _
        have hi9 := (hgrow.block gi (blk_lt hi8) (fun e => Lib.ownBlock_ne hO8 ((hd.block gi (blk_lt HI.out)).trans HI.out) (by decide) e.symm)).trans hi8
        have hown10 : w9.ownsRow gp 3 1 v' (j + 1) (((numsOf l).take (j + 1)).map fun x => .int .i64 (sevV x)) := by
          rw [HTK.out, List.map_append]
          rw [HSV.out] at hown9
          first | exact hown9 | (rw [← List.map_take] at hown9; exact hown9)
        clear hgrow hown9 hO8 hi8 hb8 hd hsz
        go_wp2
        go_roundw
        case rel => exact ⟨j + 1, _, by omega, by go_num, rfl, HQ2, ⟨hown10⟩, ⟨hb9⟩, ⟨hi9⟩⟩
        case measure => simp [intOf]; omega
    case neg =>
      have hj5' : j = 5 := by omega
      subst hj5'
      have HO5 : Aside0 (wr.ownsRow gp 3 1 u6 5 ((numsOf l).map fun x => .int .i64 (sevV x))) := ⟨HO'.out⟩
      have hq : b = okr := by rw [HQ.out, HOKR.out, HOK.out]; rfl
      subst hq
      have hbr := (HBq.out.block gr HGR.out.2).trans HBR.out
      have k6 := (HBw.out.cell (p := ⟨ad.block, ad.off + 6, none⟩) HLT.out).trans (HCELL.out 6 (by omega) (by omega))
      have k7 := (HBw.out.cell (p := ⟨ad.block, ad.off + 7, none⟩) HLT.out).trans (HCELL.out 7 (by omega) (by omega))
      have hcells := fun (g : Nat) (hg : u6.ownBlock = some g) => World.ownsRow.cells HO5.out hg
      obtain ⟨hl5, h5⟩ := HO5.out
      rcases h5 with ⟨_, h0⟩ | ⟨g, cap, cur, rfl, hge, hcur, hle, hcap, hszc, htk⟩
      · cases h0
      have hc2 := hcells g rfl
      have n0 : wr.cell? ⟨g, 0, none⟩ = some (.int .i64 (sevV (wd l 0))) := hc2 0 _ rfl
      have n1 : wr.cell? ⟨g, 1, none⟩ = some (.int .i64 (sevV (wd l 2))) := by simpa [Addr.add] using hc2 1 _ rfl
      have n2 : wr.cell? ⟨g, 2, none⟩ = some (.int .i64 (sevV (wd l 3))) := by simpa [Addr.add] using hc2 2 _ rfl
      have n3 : wr.cell? ⟨g, 3, none⟩ = some (.int .i64 (sevV (wd l 4))) := by simpa [Addr.add] using hc2 3 _ rfl
      have n4 : wr.cell? ⟨g, 4, none⟩ = some (.int .i64 (sevV (wd l 5))) := by simpa [Addr.add] using hc2 4 _ rfl
      have HBR5 := Aside0.mk (blk_drew hbr)
      have HNE : Aside0 (ad.block ≠ gr ∧ g ≠ gr) := ⟨by have := HLT.out; have := HGR.out; omega, by have := HGR.out; omega⟩
      have HBW5 : Aside0 (Below w.heap.size w wr.drew) := ⟨below_drew1 HBw.out⟩
      clear hbr hcells hl5 hge hcur hle hcap hszc htk hc2 hi hz0 hz1 hz2 hj HI HO' hj5
      go_upto_region 10 with (fail)
      refine start_ (n := 26) (S := fun X => X.cell? ⟨ad.block, ad.off + 6, none⟩ = some (.string (wd l 6)) ∧ X.cell? ⟨ad.block, ad.off + 7, none⟩ = some (.string (wd l 7)) ∧ X.cell? ⟨g, 0, none⟩ = some (.int .i64 (sevV (wd l 0))) ∧ X.cell? ⟨g, 1, none⟩ = some (.int .i64 (sevV (wd l 2))) ∧ X.cell? ⟨g, 2, none⟩ = some (.int .i64 (sevV (wd l 3))) ∧ X.cell? ⟨g, 3, none⟩ = some (.int .i64 (sevV (wd l 4))) ∧ X.cell? ⟨g, 4, none⟩ = some (.int .i64 (sevV (wd l 5)))) (ds := []) #[false, false, false, false, false, false, false, false, false, false, false, false, false, false, false, false, false, false, false, false, false, false, false, false, false, false] (by kernel_rfl) rfl rfl ⟨k6, k7, n0, n1, n2, n3, n4⟩ (fun hHeld => ?_); refine with_tabW riTab10 riBits10 (fun HT_ HW_ => ?_)
      generalize wr.drew = W at HBR5 HBW5 hHeld ⊢
      refine pure_ (i := 0) (N := some 54) (v := ?_) (a' := ?_) #[true, false, false, false, false, false, false, false, false, false, false, false, false, false, false, false, false, false, false, false, false, false, false, false, false, false] rfl rfl (any_of HT_.out (by kernel_rfl)) (fun _ _ _ h => h) (Or.inl ⟨by rfl, ?_⟩) ?_ ?_
      rotate_left
      · intro w'
        go_simp
        with_reducible rfl
      rotate_left
      · simp only [Act.put, List.setIfInBounds_toArray, List.set_cons_zero, List.set_cons_succ, i64_w, i32_w]
        rfl
      refine pure_ (i := 1) (N := some 55) (v := ?_) (a' := ?_) #[true, true, false, false, false, false, false, false, false, false, false, false, false, false, false, false, false, false, false, false, false, false, false, false, false, false] rfl rfl (any_of HT_.out (by kernel_rfl)) (fun _ _ _ h => h) (Or.inl ⟨by rfl, ?_⟩) ?_ ?_
      rotate_left
      · intro w'
        go_simp
        with_reducible rfl
      rotate_left
      · simp only [Act.put, List.setIfInBounds_toArray, List.set_cons_zero, List.set_cons_succ, i64_w, i32_w]
        rfl
      refine pure_ (i := 3) (N := some 57) (v := ?_) (a' := ?_) #[true, true, false, true, false, false, false, false, false, false, false, false, false, false, false, false, false, false, false, false, false, false, false, false, false, false] rfl rfl (any_of HT_.out (by kernel_rfl)) (fun _ _ _ h => h) (Or.inl ⟨by rfl, ?_⟩) ?_ ?_
      rotate_left
      · intro w'
        go_simp
        with_reducible rfl
      rotate_left
      · simp only [Act.put, List.setIfInBounds_toArray, List.set_cons_zero, List.set_cons_succ, i64_w, i32_w]
        rfl
      refine pure_ (i := 4) (N := some 58) (v := ?_) (a' := ?_) #[true, true, false, true, true, false, false, false, false, false, false, false, false, false, false, false, false, false, false, false, false, false, false, false, false, false] rfl rfl (any_of HT_.out (by kernel_rfl)) (fun _ _ _ h => h) (Or.inl ⟨by rfl, ?_⟩) ?_ ?_
      rotate_left
      · intro w'
        go_simp
        with_reducible rfl
      rotate_left
      · simp only [Act.put, List.setIfInBounds_toArray, List.set_cons_zero, List.set_cons_succ, i64_w, i32_w]
        rfl
      refine pure_ (i := 6) (N := some 60) (v := ?_) (a' := ?_) #[true, true, false, true, true, false, true, false, false, false, false, false, false, false, false, false, false, false, false, false, false, false, false, false, false, false] rfl rfl (any_of HT_.out (by kernel_rfl)) (fun _ _ _ h => h) (Or.inl ⟨by rfl, ?_⟩) ?_ ?_
      rotate_left
      · intro w'
        go_simp
        with_reducible rfl
      rotate_left
      · simp only [Act.put, List.setIfInBounds_toArray, List.set_cons_zero, List.set_cons_succ, i64_w, i32_w]
        rfl
      refine pure_ (i := 7) (N := some 61) (v := ?_) (a' := ?_) #[true, true, false, true, true, false, true, true, false, false, false, false, false, false, false, false, false, false, false, false, false, false, false, false, false, false] rfl rfl (any_of HT_.out (by kernel_rfl)) (fun _ _ _ h => h) (Or.inl ⟨by rfl, ?_⟩) ?_ ?_
      rotate_left
      · intro w'
        go_simp
        with_reducible rfl
      rotate_left
      · simp only [Act.put, List.setIfInBounds_toArray, List.set_cons_zero, List.set_cons_succ, i64_w, i32_w]
        rfl
      refine pure_ (i := 8) (N := some 62) (v := ?_) (a' := ?_) #[true, true, false, true, true, false, true, true, true, false, false, false, false, false, false, false, false, false, false, false, false, false, false, false, false, false] rfl rfl (any_of HT_.out (by kernel_rfl)) (fun _ _ _ h => h) (Or.inl ⟨by rfl, ?_⟩) ?_ ?_
      rotate_left
      · intro w'
        go_simp
        with_reducible rfl
      rotate_left
      · simp only [Act.put, List.setIfInBounds_toArray, List.set_cons_zero, List.set_cons_succ, i64_w, i32_w]
        rfl
      refine pure_ (i := 10) (N := some 64) (v := ?_) (a' := ?_) #[true, true, false, true, true, false, true, true, true, false, true, false, false, false, false, false, false, false, false, false, false, false, false, false, false, false] rfl rfl (any_of HT_.out (by kernel_rfl)) (fun _ _ _ h => h) (Or.inl ⟨by rfl, ?_⟩) ?_ ?_
      rotate_left
      · intro w'
        go_simp
        with_reducible rfl
      rotate_left
      · simp only [Act.put, List.setIfInBounds_toArray, List.set_cons_zero, List.set_cons_succ, i64_w, i32_w]
        rfl
      refine pure_ (i := 11) (N := some 65) (v := ?_) (a' := ?_) #[true, true, false, true, true, false, true, true, true, false, true, true, false, false, false, false, false, false, false, false, false, false, false, false, false, false] rfl rfl (any_of HT_.out (by kernel_rfl)) (fun _ _ _ h => h) (Or.inl ⟨by rfl, ?_⟩) ?_ ?_
      rotate_left
      · intro w'
        go_simp
        with_reducible rfl
      rotate_left
      · simp only [Act.put, List.setIfInBounds_toArray, List.set_cons_zero, List.set_cons_succ, i64_w, i32_w]
        rfl
      refine pure_ (i := 13) (N := some 67) (v := ?_) (a' := ?_) #[true, true, false, true, true, false, true, true, true, false, true, true, false, true, false, false, false, false, false, false, false, false, false, false, false, false] rfl rfl (any_of HT_.out (by kernel_rfl)) (fun _ _ _ h => h) (Or.inl ⟨by rfl, ?_⟩) ?_ ?_
      rotate_left
      · intro w'
        go_simp
        with_reducible rfl
      rotate_left
      · simp only [Act.put, List.setIfInBounds_toArray, List.set_cons_zero, List.set_cons_succ, i64_w, i32_w]
        rfl
      refine pure_ (i := 14) (N := some 68) (v := ?_) (a' := ?_) #[true, true, false, true, true, false, true, true, true, false, true, true, false, true, true, false, false, false, false, false, false, false, false, false, false, false] rfl rfl (any_of HT_.out (by kernel_rfl)) (fun _ _ _ h => h) (Or.inl ⟨by rfl, ?_⟩) ?_ ?_
      rotate_left
      · intro w'
        go_simp
        with_reducible rfl
      rotate_left
      · simp only [Act.put, List.setIfInBounds_toArray, List.set_cons_zero, List.set_cons_succ, i64_w, i32_w]
        rfl
      refine pure_ (i := 16) (N := some 70) (v := ?_) (a' := ?_) #[true, true, false, true, true, false, true, true, true, false, true, true, false, true, true, false, true, false, false, false, false, false, false, false, false, false] rfl rfl (any_of HT_.out (by kernel_rfl)) (fun _ _ _ h => h) (Or.inl ⟨by rfl, ?_⟩) ?_ ?_
      rotate_left
      · intro w'
        go_simp
        with_reducible rfl
      rotate_left
      · simp only [Act.put, List.setIfInBounds_toArray, List.set_cons_zero, List.set_cons_succ, i64_w, i32_w]
        rfl
      refine pure_ (i := 17) (N := some 71) (v := ?_) (a' := ?_) #[true, true, false, true, true, false, true, true, true, false, true, true, false, true, true, false, true, true, false, false, false, false, false, false, false, false] rfl rfl (any_of HT_.out (by kernel_rfl)) (fun _ _ _ h => h) (Or.inl ⟨by rfl, ?_⟩) ?_ ?_
      rotate_left
      · intro w'
        go_simp
        with_reducible rfl
      rotate_left
      · simp only [Act.put, List.setIfInBounds_toArray, List.set_cons_zero, List.set_cons_succ, i64_w, i32_w]
        rfl
      refine pure_ (i := 19) (N := some 73) (v := ?_) (a' := ?_) #[true, true, false, true, true, false, true, true, true, false, true, true, false, true, true, false, true, true, false, true, false, false, false, false, false, false] rfl rfl (any_of HT_.out (by kernel_rfl)) (fun _ _ _ h => h) (Or.inl ⟨by rfl, ?_⟩) ?_ ?_
      rotate_left
      · intro w'
        go_simp
        with_reducible rfl
      rotate_left
      · simp only [Act.put, List.setIfInBounds_toArray, List.set_cons_zero, List.set_cons_succ, i64_w, i32_w]
        rfl
      refine pure_ (i := 20) (N := some 74) (v := ?_) (a' := ?_) #[true, true, false, true, true, false, true, true, true, false, true, true, false, true, true, false, true, true, false, true, true, false, false, false, false, false] rfl rfl (any_of HT_.out (by kernel_rfl)) (fun _ _ _ h => h) (Or.inl ⟨by rfl, ?_⟩) ?_ ?_
      rotate_left
      · intro w'
        go_simp
        with_reducible rfl
      rotate_left
      · simp only [Act.put, List.setIfInBounds_toArray, List.set_cons_zero, List.set_cons_succ, i64_w, i32_w]
        rfl
      refine pure_ (i := 23) (N := some 77) (v := ?_) (a' := ?_) #[true, true, false, true, true, false, true, true, true, false, true, true, false, true, true, false, true, true, false, true, true, false, false, true, false, false] rfl rfl (any_of HT_.out (by kernel_rfl)) (fun _ _ _ h => h) (Or.inl ⟨by rfl, ?_⟩) ?_ ?_
      rotate_left
      · intro w'
        go_simp
        with_reducible rfl
      rotate_left
      · simp only [Act.put, List.setIfInBounds_toArray, List.set_cons_zero, List.set_cons_succ, i64_w, i32_w]
        rfl
      refine take_ (i := 2) (N := some 56) (v := ?_) (a' := ?_) #[true, true, true, true, true, false, true, true, true, false, true, true, false, true, true, false, true, true, false, true, true, false, false, true, false, false] rfl rfl (take_ofW HT_.out HW_.out (by kernel_rfl)) (fun _ _ _ h => h) (Or.inl ⟨by rfl, ?_⟩) hHeld ?_ ?_
      rotate_left
      · rintro w' ⟨s0, s1, s2, s3, s4, s5, s6⟩
        go_simp
        with_reducible rfl
      rotate_left
      · simp only [Act.put, List.setIfInBounds_toArray, List.set_cons_zero, List.set_cons_succ, i64_w, i32_w]
        rfl
      refine take_ (i := 5) (N := some 59) (v := ?_) (a' := ?_) #[true, true, true, true, true, true, true, true, true, false, true, true, false, true, true, false, true, true, false, true, true, false, false, true, false, false] rfl rfl (take_ofW HT_.out HW_.out (by kernel_rfl)) (fun _ _ _ h => h) (Or.inl ⟨by rfl, ?_⟩) hHeld ?_ ?_
      rotate_left
      · rintro w' ⟨s0, s1, s2, s3, s4, s5, s6⟩
        go_simp
        with_reducible rfl
      rotate_left
      · simp only [Act.put, List.setIfInBounds_toArray, List.set_cons_zero, List.set_cons_succ, i64_w, i32_w]
        rfl
      refine take_ (i := 9) (N := some 63) (v := ?_) (a' := ?_) #[true, true, true, true, true, true, true, true, true, true, true, true, false, true, true, false, true, true, false, true, true, false, false, true, false, false] rfl rfl (take_ofW HT_.out HW_.out (by kernel_rfl)) (fun _ _ _ h => h) (Or.inl ⟨by rfl, ?_⟩) hHeld ?_ ?_
      rotate_left
      · rintro w' ⟨s0, s1, s2, s3, s4, s5, s6⟩
        go_simp
        with_reducible rfl
      rotate_left
      · simp only [Act.put, List.setIfInBounds_toArray, List.set_cons_zero, List.set_cons_succ, i64_w, i32_w]
        rfl
      refine take_ (i := 12) (N := some 66) (v := ?_) (a' := ?_) #[true, true, true, true, true, true, true, true, true, true, true, true, true, true, true, false, true, true, false, true, true, false, false, true, false, false] rfl rfl (take_ofW HT_.out HW_.out (by kernel_rfl)) (fun _ _ _ h => h) (Or.inl ⟨by rfl, ?_⟩) hHeld ?_ ?_
      rotate_left
      · rintro w' ⟨s0, s1, s2, s3, s4, s5, s6⟩
        go_simp
        with_reducible rfl
      rotate_left
      · simp only [Act.put, List.setIfInBounds_toArray, List.set_cons_zero, List.set_cons_succ, i64_w, i32_w]
        rfl
      refine take_ (i := 15) (N := some 69) (v := ?_) (a' := ?_) #[true, true, true, true, true, true, true, true, true, true, true, true, true, true, true, true, true, true, false, true, true, false, false, true, false, false] rfl rfl (take_ofW HT_.out HW_.out (by kernel_rfl)) (fun _ _ _ h => h) (Or.inl ⟨by rfl, ?_⟩) hHeld ?_ ?_
      rotate_left
      · rintro w' ⟨s0, s1, s2, s3, s4, s5, s6⟩
        go_simp
        with_reducible rfl
      rotate_left
      · simp only [Act.put, List.setIfInBounds_toArray, List.set_cons_zero, List.set_cons_succ, i64_w, i32_w]
        rfl
      refine take_ (i := 18) (N := some 72) (v := ?_) (a' := ?_) #[true, true, true, true, true, true, true, true, true, true, true, true, true, true, true, true, true, true, true, true, true, false, false, true, false, false] rfl rfl (take_ofW HT_.out HW_.out (by kernel_rfl)) (fun _ _ _ h => h) (Or.inl ⟨by rfl, ?_⟩) hHeld ?_ ?_
      rotate_left
      · rintro w' ⟨s0, s1, s2, s3, s4, s5, s6⟩
        go_simp
        with_reducible rfl
      rotate_left
      · simp only [Act.put, List.setIfInBounds_toArray, List.set_cons_zero, List.set_cons_succ, i64_w, i32_w]
        rfl
      refine take_ (i := 21) (N := some 75) (v := ?_) (a' := ?_) #[true, true, true, true, true, true, true, true, true, true, true, true, true, true, true, true, true, true, true, true, true, true, false, true, false, false] rfl rfl (take_ofW HT_.out HW_.out (by kernel_rfl)) (fun _ _ _ h => h) (Or.inl ⟨by rfl, ?_⟩) hHeld ?_ ?_
      rotate_left
      · rintro w' ⟨s0, s1, s2, s3, s4, s5, s6⟩
        go_simp
        with_reducible rfl
      rotate_left
      · simp only [Act.put, List.setIfInBounds_toArray, List.set_cons_zero, List.set_cons_succ, i64_w, i32_w]
        rfl
      refine pure_ (i := 22) (N := some 76) (v := ?_) (a' := ?_) #[true, true, true, true, true, true, true, true, true, true, true, true, true, true, true, true, true, true, true, true, true, true, true, true, false, false] rfl rfl (any_of HT_.out (by kernel_rfl)) (fun _ _ _ h => h) (Or.inl ⟨by rfl, ?_⟩) ?_ ?_
      rotate_left
      · intro w'
        go_simp
        with_reducible rfl
      rotate_left
      · simp only [Act.put, List.setIfInBounds_toArray, List.set_cons_zero, List.set_cons_succ, i64_w, i32_w]
        rfl
      refine one_ (i := 24) (N := none) #[true, true, true, true, true, true, true, true, true, true, true, true, true, true, true, true, true, true, true, true, true, true, true, true, true, false] rfl rfl (one_of HT_.out (by kernel_rfl)) (by decide) (fun K hK => ?_)
      have cz0 := (blk_cell HBR5.out 0).trans (show _ = some (.string (⟨#[]⟩ : ByteArray)) from rfl)
      have fz0 := blk_frozen HBR5.out 0
      have cz1 := (blk_cell HBR5.out 1).trans (show _ = some (.int .i64 0) from rfl)
      have fz1 := blk_frozen HBR5.out 1
      have cz2 := (blk_cell HBR5.out 2).trans (show _ = some (.int .i64 0) from rfl)
      have fz2 := blk_frozen HBR5.out 2
      have cz3 := (blk_cell HBR5.out 3).trans (show _ = some (.int .i64 0) from rfl)
      have fz3 := blk_frozen HBR5.out 3
      have cz4 := (blk_cell HBR5.out 4).trans (show _ = some (.int .i64 0) from rfl)
      have fz4 := blk_frozen HBR5.out 4
      have cz5 := (blk_cell HBR5.out 5).trans (show _ = some (.int .i64 0) from rfl)
      have fz5 := blk_frozen HBR5.out 5
      have cz6 := (blk_cell HBR5.out 6).trans (show _ = some (.int .i64 0) from rfl)
      have fz6 := blk_frozen HBR5.out 6
      have cz7 := (blk_cell HBR5.out 7).trans (show _ = some (.string (⟨#[]⟩ : ByteArray)) from rfl)
      have fz7 := blk_frozen HBR5.out 7
      refine skip_ (w1 := ?_) (by rfl) rfl ?_ ?_
      rotate_left
      · go_simp
        rfl
      obtain ⟨s0, s1, s2, s3, s4, s5, s6⟩ := hHeld
      refine hK.out _ _ ⟨far8 s0 HNE.out.1, far8 s1 HNE.out.1, far8 s2 HNE.out.2, far8 s3 HNE.out.2, far8 s4 HNE.out.2, far8 s5 HNE.out.2, far8 s6 HNE.out.2⟩ (fun hHeld => ?_)
      clear hK K s0 s1 s2 s3 s4 s5 s6 cz0 fz0 cz1 fz1 cz2 fz2 cz3 fz3 cz4 fz4 cz5 fz5 cz6 fz6 cz7 fz7
      refine pure_ (i := 25) (N := some 3) (v := ?_) (a' := ?_) #[true, true, true, true, true, true, true, true, true, true, true, true, true, true, true, true, true, true, true, true, true, true, true, true, true, true] rfl rfl (any_of HT_.out (by kernel_rfl)) (fun _ _ _ h => h) (Or.inl ⟨by rfl, ?_⟩) ?_ ?_
      rotate_left
      · intro w'
        go_simp
        with_reducible rfl
      rotate_left
      · simp only [Act.put, List.setIfInBounds_toArray, List.set_cons_zero, List.set_cons_succ, i64_w, i32_w]
        rfl
      refine done_ (done_of HT_.out (by kernel_rfl)) ?_
      try go_wp2
      refine bodyPost_ret (results_ct rfl _ _ gr 74 #[.string (wd l 6), .int .i64 (sevV (wd l 0)), .int .i64 on, .int .i64 (sevV (wd l 2)), .int .i64 (sevV (wd l 3)), .int .i64 (sevV (wd l 4)), .int .i64 (sevV (wd l 5)), .string (wd l 7)] (0, 0) _ rfl (by
          refine blk_put (cs := #[.string (wd l 6), .int .i64 (sevV (wd l 0)), .int .i64 on, .int .i64 (sevV (wd l 2)), .int .i64 (sevV (wd l 3)), .int .i64 (sevV (wd l 4)), .int .i64 (sevV (wd l 5)), .string (⟨#[]⟩ : ByteArray)]) ?_ 7 _ rfl
          refine blk_put (cs := #[.string (wd l 6), .int .i64 (sevV (wd l 0)), .int .i64 on, .int .i64 (sevV (wd l 2)), .int .i64 (sevV (wd l 3)), .int .i64 (sevV (wd l 4)), .int .i64 0, .string (⟨#[]⟩ : ByteArray)]) ?_ 6 _ rfl
          refine blk_put (cs := #[.string (wd l 6), .int .i64 (sevV (wd l 0)), .int .i64 on, .int .i64 (sevV (wd l 2)), .int .i64 (sevV (wd l 3)), .int .i64 0, .int .i64 0, .string (⟨#[]⟩ : ByteArray)]) ?_ 5 _ rfl
          refine blk_put (cs := #[.string (wd l 6), .int .i64 (sevV (wd l 0)), .int .i64 on, .int .i64 (sevV (wd l 2)), .int .i64 0, .int .i64 0, .int .i64 0, .string (⟨#[]⟩ : ByteArray)]) ?_ 4 _ rfl
          refine blk_put (cs := #[.string (wd l 6), .int .i64 (sevV (wd l 0)), .int .i64 on, .int .i64 0, .int .i64 0, .int .i64 0, .int .i64 0, .string (⟨#[]⟩ : ByteArray)]) ?_ 3 _ rfl
          refine blk_put (cs := #[.string (wd l 6), .int .i64 (sevV (wd l 0)), .int .i64 0, .int .i64 0, .int .i64 0, .int .i64 0, .int .i64 0, .string (⟨#[]⟩ : ByteArray)]) ?_ 2 _ rfl
          refine blk_put (cs := #[.string (wd l 6), .int .i64 0, .int .i64 0, .int .i64 0, .int .i64 0, .int .i64 0, .int .i64 0, .string (⟨#[]⟩ : ByteArray)]) ?_ 1 _ rfl
          refine blk_put (cs := #[.string (⟨#[]⟩ : ByteArray), .int .i64 0, .int .i64 0, .int .i64 0, .int .i64 0, .int .i64 0, .int .i64 0, .string (⟨#[]⟩ : ByteArray)]) ?_ 0 _ rfl
          exact HBR5.out) hu1 rfl (by kernel_rfl)) rfl ?_
      exact ⟨rfl, by
        iterate 8 refine Below.setCell (p := ⟨gr, _, none⟩) ?_ (Nat.le_of_eq HGR.out.1.symm) _
        exact HBW5.out⟩
theorem impl_readItem.calls (A0 : Option Addr) (c0 : Nat) (l0 : List ByteArray) (r1 : ByteArray) (r2 : Int) (r3 : Int) (r4 : Int) (r5 : Int) (r6 : Int) (r7 : Int) (r8 : ByteArray) (r9 : Bool) (w : World) (hr0 : Kd.C Kd.string w A0 l0.length l0) (hc0 : l0.length ≤ c0) (h : impl_readItem.f l0 = some (r1, r2, r3, r4, r5, r6, r7, r8, r9)) (hE : EnvR w) :
    Calls Tryz.prog 73 #[.slice A0 l0.length c0] w fun e w' => e = .returned (.tuple #[.agg #[.string r1, .int .i64 r2, .int .i64 r3, .int .i64 r4, .int .i64 r5, .int .i64 r6, .int .i64 r7, .string r8], .bool r9]) ∧ Below w.heap.size w w' := by
  unfold impl_readItem.f at h
  split at h
  case isFalse => cases h
  rename_i hc
  obtain ⟨hl, hs⟩ := hc
  injection h with h
  simp only [Prod.mk.injEq] at h
  obtain ⟨rfl, rfl, rfl, rfl, rfl, rfl, rfl, rfl, rfl⟩ := h
  obtain ⟨ad, rfl, _⟩ := Kd.at_string hr0 0 (by omega) (by omega)
  have := readItem_walk ad c0 l0 hl w hr0 (fun x hx => by simpa using List.all_eq_true.mp hs x hx) hE
  rw [hl]
  exact this

end Go.Proofs.YthhmkbchdiflcaaGreatDoor.Q
