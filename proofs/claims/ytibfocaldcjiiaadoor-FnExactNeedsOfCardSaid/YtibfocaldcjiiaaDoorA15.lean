/- Texts of this claim, merged by a program (wip/tools/merge.py): HGoodItems. -/
import Derived.Test.YtibfocaldcjiiaaDoorA1
import Derived.Test.YtibfocaldcjiiaaDoorA3
import Derived.Test.YtibfocaldcjiiaaDoorA8
import Derived.Test.YtibfocaldcjiiaaDoorA14
import Derived.Test.YtibfocaldcjiiaaDoorA13
import Derived.Maps.OwnOps
import Derived.Maps.Views
import Derived.StillTailTactics
import Derived.Deep.QuietTactic
import Derived.BigQuiet
/- impl.GoodItems: the walk. -/
namespace Go.Proofs.YtibfocaldcjiiaaDoor.Q
open Go.RowKit Go.Proofs.YtibfocaldcjiiaaDoorW.PrintWords Go.Proofs.YtibfocaldcjiiaaDoorW.PrintLast Go.Proofs.YtibfocaldcjiiaaDoorW.PrintMore
attribute [local go_sem] max2_int min2_int max_two min_two max_three min_three max_four min_four   -- for this text's walks alone
set_option linter.unusedVariables false
set_option linter.unusedSimpArgs false

open Go.Maps Go.WideMaps
def impl_GoodItems.f (l : List It) : Option Bool := if (l.all fun x => decide (x.f0.size < 4294967281)) = true then some (goodB l) else none
theorem keyLaw : Keyed Tryd.prog 9 := string_keyed Tryd.underlying9
theorem zeroBool (w : World) : (zeroValue 4).run Tryd.prog w = .ok (.bool false) w := by kernel_rfl
theorem key_of (s : ByteArray) (hs : s.size < 4294967281) : keyOf Tryd.prog 9 (.string s) = some (.string s.data.toList) :=
  keyOf_string_mk Tryd.underlying9 (by unfold maxLen; omega)
/-- The call's own map: what it tells of a way. -/
def MapIs (w : World) (b n : Nat) (p : List UInt8 → Bool) : Prop :=
  ∃ D : DataW Unit, w.ownsMap Tryd.prog 9 (plainElem Tryd.prog 4) b n D ∧ IsMap D ∧ ∀ s : List UInt8, D.atKey (.string s) (.lit (.bool false)) = .lit (.bool (p s))
theorem MapIs.below {w w' : World} {b n : Nat} {p : List UInt8 → Bool} {B : Nat} (h : MapIs w b n p) (hb : Below B w w') (hlt : b < B) : MapIs w' b n p := by
  obtain ⟨D, ho, h1, h2⟩ := h
  refine ⟨D, ?_, h1, h2⟩
  unfold World.ownsMap at ho ⊢
  rw [hb.block b hlt]
  exact ho
theorem MapIs.empty (w : World) : MapIs (w.alloc (.map #[] 0)) w.heap.size 0 (fun _ => false) :=
  ⟨.map [], World.ownsMap_made _ _ _ _, isMap_empty, fun _ => rfl⟩
set_option maxRecDepth 100000 in
theorem bool_inv {v : Value} {z : DataW Unit × List MemPlace} (h : plainElem Tryd.prog 4 v = some z) : ∃ a, v = .bool a ∧ z = (.lit (.bool a), []) := by
  unfold plainElem at h
  rw [Tryd.underlying4] at h
  cases v <;> simp at h
  exact ⟨_, rfl, h.symm⟩
set_option maxRecDepth 100000 in
theorem MapIs.look {w : World} {b n : Nat} {p : List UInt8 → Bool} (h : MapIs w b n p) (s : ByteArray) (hs : s.size < 4294967281) :
    (Instr.lookup 53 (.map (some b)) (.string s) false).run Tryd.prog w = .ok (.bool (p s.toList)) w := by
  obtain ⟨D, ho, h1, h2⟩ := h
  obtain ⟨v, ps, hrun, hv⟩ := ho.lookup keyLaw Tryd.underlying53 (zeroBool w) (plainElem_bool Tryd.underlying4 false) (key_of s hs)
  obtain ⟨c, rfl, hc⟩ := bool_inv hv
  simp only [Prod.mk.injEq] at hc
  have := (h2 s.data.toList).symm.trans hc.1
  injection this with this
  injection this with this
  rw [hrun, ByteArray.toList_eq, this]
theorem MapIs.put {D : DataW Unit} {w : World} {b n : Nat} {p : List UInt8 → Bool} (h1 : IsMap D) (h2 : ∀ s : List UInt8, D.atKey (.string s) (.lit (.bool false)) = .lit (.bool (p s))) (k : ByteArray) (v : Bool)
    (h : w.ownsMap Tryd.prog 9 (plainElem Tryd.prog 4) b n (D.put (.string k.data.toList) (.lit (.bool v)))) : MapIs w b n (fun s => if k.toList = s then v else p s) := by
  refine ⟨_, h, h1.put _ _, fun s => ?_⟩
  by_cases hk : k.toList = s
  · simp only
    rw [if_pos hk, ← hk, ByteArray.toList_eq]
    exact atKey_put_same h1 (show WideAt.IsKeyLit (.string k.data.toList) from trivial) _ _
  · simp only
    rw [if_neg hk, ← h2 s]
    refine atKey_put_other ?_ _ _
    intro e
    injection e with e
    exact hk (by rw [ByteArray.toList_eq]; exact e.symm)
theorem stepsB_succ (l : List It) (k : Nat) : stepsB l (k + 1) = (stepsB l k && stepB l k) := by
  unfold stepsB
  rw [List.range_succ, List.all_append]
  simp
theorem stepsB_false (l : List It) (k : Nat) (h : stepB l k = false) : ∀ n, k < n → stepsB l n = false
  | 0, h0 => absurd h0 (by omega)
  | n + 1, h0 => by
    rw [stepsB_succ]
    by_cases hk : k = n
    · subst hk; rw [h, Bool.and_false]
    · rw [stepsB_false l k h n (by omega), Bool.false_and]
theorem alloc_lt (w : World) (o : Obj) : w.heap.size < (w.alloc o).heap.size := by unfold World.alloc; simp
set_option maxHeartbeats 8000000 in
set_option maxRecDepth 100000 in
theorem goodItems_loop (w : World) (ad : Addr) (c0 : Nat) (l : List It) (hl : 1 ≤ l.length ∧ l.length ≤ 40) (hc0 : l.length ≤ c0) (hr : Kd.C k50 w (some ad) l.length l) (hs : ∀ i, (itAt l i).f0.size < 4294967281)
   (x0 : ByteArray) (hx0 : w.cell? ad = some (.string x0)) (h0 : x0.toList = [46]) (r : Bool) (hres : stepsB l l.length = r) :
    Calls Tryd.prog 11 #[.slice (some ad) l.length c0] w fun e w' => e = .returned (.bool r) ∧ Below w.heap.size w w' := by
  have hu1 := Tryd.underlying50
  have hu2 := Tryd.underlying25
  have HW := Aside0.mk (fun W => impl_within.calls (l.length : Int) 1 40 _ W (within_f (l.length : Int) 1 40))
  rw [show inB 1 40 (l.length : Int) = true by unfold inB; simp; omega] at HW
  have HR := Aside0.mk hr
  have HS := Aside0.mk hs
  have p2 : ((0 : Int) < (l.length : Int)) = True := eq_true (by omega)
  have ha : ad.add 0 = ad := by cases ad; rfl
  have h0' : (x0.toList == [46]) = true := by simpa using h0
  have hres' := Aside0.mk hres
  clear hr hs h0 hres
  have hmm := @run_makeMap Tryd.prog
  go_enter Tryd.func11, Tryd.ntmps11
  go_wp2_with fail
  refine (HW.out _).mono ?_; rintro e w1 ⟨rfl, ⟨n1, rfl⟩⟩
  go_wp2
  go_loopw [22] (fun i wr => ∃ k : Nat, k ≤ l.length ∧ i = .int .i64 k ∧ Aside0 (MapIs wr w.heap.size k (dirAt l k)) ∧ Aside0 (Below w.heap.size w wr) ∧ Aside0 (w.heap.size < wr.heap.size) ∧ Aside0 (stepsB l k = true))
    (fun i _ => l.length - (intOf i).toNat)
  case atStart => exact ⟨0, Nat.zero_le _, rfl, ⟨MapIs.empty _⟩, ⟨by repeat (first | exact Below.refl _ _ | apply below_alloc | apply pw_below_drewN | apply below_drew1)⟩, ⟨by simp [World.alloc]⟩, ⟨rfl⟩⟩
  case round =>
    obtain ⟨k, hk, rfl, HM, HB, HZ, HT⟩ := hrel
    by_cases hlt : k < l.length
    case neg =>
      have hkl : k = l.length := by omega
      subst hkl
      have hr1 := HT.out.symm.trans hres'.out
      subst hr1
      clear hx0 hlt
      have c1 : decide ((l.length : Int) < (l.length : Int)) = false := by simp
      go_wp2
      go_ret
      exact ⟨rfl, HB.out⟩
    case pos =>
      obtain ⟨ad', e', cx⟩ := cells_at (Kd.C_below HR.out HB.out) k hlt
      obtain rfl : ad = ad' := by injection e'
      clear e' hx0
      have hstep : Aside0 (stepB l k = false → r = false) := ⟨fun h => hres'.out.symm.trans (stepsB_false l k h _ hlt)⟩
      have hS := HS.out k
      have hI := Aside0.mk (fun (W : World) (hb : Below w.heap.size w W) => impl_isGoodItem.calls (some ad) c0 l (k : Int) (goodItemB l k) W (Kd.C_below HR.out hb) hc0 (by unfold impl_isGoodItem.f; rw [if_pos ⟨by omega, by omega, by omega⟩, Int.toNat_natCast]))
      obtain ⟨x, hx⟩ : ∃ x, x = itAt l k := ⟨_, rfl⟩
      rw [← hx] at cx hS
      have HX := Aside0.mk hx
      clear hx
      have hN := Aside0.mk (fun (W : World) => impl_namesOf.calls x.f0 _ _ W (namesOf_f x.f0 hS))
      have hA := Aside0.mk (fun (W : World) => aboveOf_still x.f0 hS W)
      have hsB : Aside0 (stepB l k = (namesOk x.f0 && (goodItemB l k && (decide (k = 0) || (dirAt l k (aboveB x.f0).toList && decide (cmpW (itAt l (k - 1)).f0 x.f0 < 0)))))) := ⟨by unfold stepB; rw [← HX.out]⟩
      have hcmp := Aside0.mk (fun (W : World) => compareWays_ev (itAt l (k - 1)).f0 x.f0 (HS.out _) hS)
      have hput : Aside0 (∀ s, (if x.f0.toList = s then x.f1 == 2 else dirAt l k s) = dirAt l (k + 1) s) := ⟨fun s => by simp only [dirAt]; rw [← HX.out]⟩
      have hSz : Aside0 (x.f0.size < 4294967281 ∧ (aboveB x.f0).size < 4294967281) := ⟨hS, by
        unfold aboveB; split
        · simp only [ByteArray.size_extract]; omega
        · decide⟩
      have hkey := key_of x.f0 hS
      obtain ⟨x0', x1, x2, x3, x4, x5, x6, x7⟩ := x
      obtain ⟨hx0, hx1, hx2, hx3, hx4, hx5, hx6, hx7⟩ := cx
      simp only at hx0 hx1 hx2 hx3 hx4 hx5 hx6 hx7 hN hA hsB hput hSz hkey
      have p1 : ((0 : Int) ≤ (k : Int)) = True := eq_true (by omega)
      have p3 : ((k : Int) < (l.length : Int)) = True := eq_true (by omega)
      have c1 : decide ((k : Int) < (l.length : Int)) = true := by simpa using hlt
      clear hS HX
      go_wp2_with fail
      refine (hN.out _).mono ?_
      rintro e w1 ⟨v0, rfl, -, hd⟩
      have hz0 : wr.heap.size < (wr.alloc (Obj.cells #[.string x0', .int .i64 x1, .int .i64 x2, .int .i64 x3, .int .i64 x4, .int .i64 x5, .int .i64 x6, .string x7] 50)).heap.size := alloc_lt _ _
      have hB1 : Below wr.heap.size wr w1 := below_step (by repeat (first | exact Below.refl _ _ | apply below_alloc | apply pw_below_drewN | apply below_drew1)) hd
      have hz1 : wr.heap.size < w1.heap.size := Nat.lt_of_lt_of_le hz0 hd.size
      have d0 : w1.cell? ⟨wr.heap.size, 0, none⟩ = some (.string x0') := (Below.cell hd (p := ⟨wr.heap.size, 0, none⟩) hz0).trans (by go_simp)
      have d1 : w1.cell? ⟨wr.heap.size, 1, none⟩ = some (.int .i64 x1) := (Below.cell hd (p := ⟨wr.heap.size, 1, none⟩) hz0).trans (by go_simp)
      have hB1' : Below w.heap.size w w1 := HB.out.trans (hB1.mono HB.out.size)
      clear hd hz0 hx0 hx1 hx2 hx3 hx4 hx5 hx6 hx7
      by_cases hq1 : namesOk x0' = true
      case neg =>
        have hq1' : namesOk x0' = false := by simpa using hq1
        have hr1 : r = false := hstep.out (by rw [hsB.out, hq1']; rfl)
        subst hr1
        clear hq1 hstep hsB
        go_wp2
        go_ret
        exact ⟨rfl, hB1'⟩
      case pos =>
        go_wp2_with fail
        refine (hI.out _ hB1').mono ?_
        rintro e w2 ⟨rfl, hd⟩
        have e0 : w2.cell? ⟨wr.heap.size, 0, none⟩ = some (.string x0') := (Below.cell hd (p := ⟨wr.heap.size, 0, none⟩) hz1).trans d0
        have e1 : w2.cell? ⟨wr.heap.size, 1, none⟩ = some (.int .i64 x1) := (Below.cell hd (p := ⟨wr.heap.size, 1, none⟩) hz1).trans d1
        have hB2 : Below wr.heap.size wr w2 := hB1.trans (hd.mono hB1.size)
        have hz2 : wr.heap.size < w2.heap.size := Nat.lt_of_lt_of_le hz1 hd.size
        have hB2' : Below w.heap.size w w2 := HB.out.trans (hB2.mono HB.out.size)
        have HM2 : MapIs w2 w.heap.size k (dirAt l k) := HM.out.below hB2 HZ.out
        clear d0 d1 hd hz1 hB1 hB1'
        by_cases hq2 : goodItemB l k = true
        case neg =>
          have hq2' : goodItemB l k = false := by simpa using hq2
          have hr1 : r = false := hstep.out (by rw [hsB.out, hq1, hq2']; rfl)
          subst hr1
          clear hq2 hstep hsB
          go_wp2
          go_ret
          exact ⟨rfl, hB2'⟩
        case pos =>
          by_cases hk0 : k = 0
          case pos =>
            have hsk : stepsB l (k + 1) = true := by rw [stepsB_succ, HT.out, hsB.out, hq1, hq2, hk0]; rfl
            have hg0 : decide ((0 : Int) < (k : Int)) = false := by simp; omega
            have hg1 : decide (0 < k) = false := by simp; omega
            obtain ⟨D, hown, h1, h2⟩ := HM2
            clear hk0
            go_wp2_with fail
            go_quiet (fail)
            go_wp2_with (first
              | (at_mapUpdate; refine wpList_mapUpdate_own _ rfl _ _ _ 53 rfl 9 4 keyLaw Tryd.underlying53 _ w.heap.size k _ rfl (show World.ownsMap _ _ _ _ _ _ _ from hown) (by unfold maxLen; omega) _ _ _ rfl rfl hkey _ [] (plainElem_bool Tryd.underlying4 _) ?_)
              | go_in)
            have hB3 : Below w.heap.size w (w2.drewN nq) := by apply pw_below_drewN; exact hB2'
            intro w4 hown4 hgrow
            have hB4 := hB3.grown hgrow hB3.size (fun j hj => by cases hj; exact Nat.le_refl _)
            have hM4 := MapIs.put h1 h2 _ _ hown4
            clear hgrow
            go_wp2
            go_roundw
            case rel => exact ⟨k + 1, by omega, by first | rfl | go_num, ⟨by rw [show dirAt l (k + 1) = _ from (funext hput.out).symm]; exact hM4⟩, ⟨hB4⟩, ⟨hown4.lt⟩, ⟨hsk⟩⟩
            case measure => simp [intOf]; omega
          case neg =>
            have hg0 : decide ((0 : Int) < (k : Int)) = true := by simp; omega
            have hg1 : decide (0 < k) = true := by simp; omega
            have hg2 : 0 < k := by omega
            have hlk : ∀ n, (Instr.lookup 53 (.map (some w.heap.size)) (.string (aboveB x0')) false).run Tryd.prog (w2.drewN n) = .ok (.bool (dirAt l k (aboveB x0').toList)) (w2.drewN n) := fun n => MapIs.look (w := w2.drewN n) HM2 _ hSz.out.2
            by_cases hq3 : dirAt l k (aboveB x0').toList = true
            case neg =>
              have hq3' : dirAt l k (aboveB x0').toList = false := by simpa using hq3
              have hr1 : r = false := hstep.out (by rw [hsB.out, hq1, hq2, hq3', decide_eq_false hk0]; rfl)
              rw [hq3'] at hlk
              subst hr1
              clear hq3 hstep hsB hcmp hk0
              go_wp2_with fail
              go_quiet ((go_at_call 34; refine Calls.quiet_of_same (hA.out _)))
              go_wp2
              go_ret
              exact ⟨rfl, by apply pw_below_drewN; exact hB2'⟩
            case pos =>
              rw [hq3] at hlk
              have hlk0 := hlk 0
              obtain ⟨m, hm⟩ : ∃ m : Nat, k = m + 1 := ⟨k - 1, by omega⟩
              have hmz : (k : Int) - 1 = (m : Int) := by omega
              have hms : IntKind.i64.wrap ((k : Int) - 1) = (m : Int) := by rw [IntKind.wrap_i64]; omega
              have hms2 : IntKind.i64.wrap (m : Int) = (m : Int) := by rw [IntKind.wrap_i64]; omega
              have hmn : k - 1 = m := by omega
              rw [hmn] at hcmp hsB
              obtain ⟨ad', e', cy⟩ := cells_at (Kd.C_below HR.out hB2') m (by omega)
              obtain rfl : ad = ad' := by injection e'
              have hy0 := cy.h0
              clear e' cy hmn hm
              obtain ⟨kc, hkc⟩ := Ev.rounds (hcmp.out w)
              have hC := Aside0.mk (fun (W : World) => impl_compareWays.calls kc (itAt l m).f0 x0' _ W hkc)
              clear hkc hcmp
              generalize cmpW (itAt l m).f0 x0' = cm at hC hsB
              generalize (itAt l m).f0 = y0 at hC hy0
              have p5 : ((0 : Int) ≤ (m : Int)) = True := eq_true (by omega)
              have p6 : ((m : Int) < (l.length : Int)) = True := eq_true (by omega)
              have hlkd : (Instr.lookup 53 (.map (some w.heap.size)) (.string (aboveB x0')) false).run Tryd.prog w2 = .ok (.bool true) w2 := hlk0
              have hlke : (Instr.lookup 53 (.map (some w.heap.size)) (.string (aboveB x0')) false).run Tryd.prog w2.drew = .ok (.bool true) w2.drew := hlk 1
              by_cases hcm : cm < 0
              case neg =>
                have hcm1 : decide (0 ≤ cm) = true := by simp; omega
                have hr1 : r = false := hstep.out (by rw [hsB.out, hq1, hq2, hq3, decide_eq_false hcm, Bool.and_false, decide_eq_false hk0]; rfl)
                subst hr1
                clear hstep hsB hk0
                go_wp2_with fail
                go_still_tail 18, (by kernel_rfl)
                still_call (hA.out _)
                repeat still_step
                refine wpStill_nil ?_
                change wpList _ _ _ _ _ w2.drew
                go_wp2_with fail
                refine (hC.out _).mono ?_
                rintro e w3 ⟨rfl, hd⟩
                have hB3 : Below w.heap.size w w3 := (show Below w.heap.size w w2.drew from below_drew1 hB2').trans (hd.mono hB2'.size)
                clear hd
                go_wp2
                go_ret
                exact ⟨rfl, hB3⟩
              case pos =>
                have hcm1 : decide (0 ≤ cm) = false := by simp; omega
                have hsk : stepsB l (k + 1) = true := by rw [stepsB_succ, HT.out, hsB.out, hq1, hq2, hq3, decide_eq_true hcm, Bool.and_true, Bool.or_true]; rfl
                have hz0 := hSz.out.1
                clear hstep hsB hk0
                go_wp2_with fail
                go_still_tail 18, (by kernel_rfl)
                still_call (hA.out _)
                repeat still_step
                refine wpStill_nil ?_
                change wpList _ _ _ _ _ w2.drew
                go_wp2_with fail
                refine (hC.out _).mono ?_
                rintro e w3 ⟨rfl, hd⟩
                have hB3 : Below w.heap.size w w3 := (show Below w.heap.size w w2.drew from below_drew1 hB2').trans (hd.mono hB2'.size)
                have HM3 : MapIs w3 w.heap.size k (dirAt l k) := MapIs.below (w := w2.drew) HM2 hd (Nat.lt_of_lt_of_le HZ.out hB2.size)
                have f0 : w3.cell? ⟨wr.heap.size, 0, none⟩ = some (.string x0') := (Below.cell hd (p := ⟨wr.heap.size, 0, none⟩) hz2).trans e0
                have f1 : w3.cell? ⟨wr.heap.size, 1, none⟩ = some (.int .i64 x1) := (Below.cell hd (p := ⟨wr.heap.size, 1, none⟩) hz2).trans e1
                obtain ⟨D, hown, h1, h2⟩ := HM3
                clear hd e0 e1 HM2 hlk hlk0 hlkd hlke
                go_wp2_with (first
                  | (at_mapUpdate; refine wpList_mapUpdate_own _ rfl _ _ _ 53 rfl 9 4 keyLaw Tryd.underlying53 _ w.heap.size k _ rfl (show World.ownsMap _ _ _ _ _ _ _ from hown) (by unfold maxLen; omega) _ _ _ rfl rfl hkey _ [] (plainElem_bool Tryd.underlying4 _) ?_)
                  | go_in)
                intro w4 hown4 hgrow
                have hB4 := hB3.grown hgrow hB3.size (fun j hj => by cases hj; exact Nat.le_refl _)
                have hM4 := MapIs.put h1 h2 _ _ hown4
                clear hgrow
                go_wp2
                go_roundw
                case rel => exact ⟨k + 1, by omega, by first | rfl | go_num, ⟨by rw [show dirAt l (k + 1) = _ from (funext hput.out).symm]; exact hM4⟩, ⟨hB4⟩, ⟨hown4.lt⟩, ⟨hsk⟩⟩
                case measure => simp [intOf]; omega
set_option maxHeartbeats 1000000 in
set_option maxRecDepth 100000 in
theorem goodItems_empty (w : World) (A : Option Addr) (n c0 : Nat) (hn : inB 1 40 (n : Int) = false) : Calls Tryd.prog 11 #[.slice A n c0] w fun e w' => e = .returned (.bool false) ∧ Below w.heap.size w w' := by
  have HW := Aside0.mk (fun W => impl_within.calls (n : Int) 1 40 _ W (within_f (n : Int) 1 40))
  rw [hn] at HW
  clear hn
  go_enter Tryd.func11, Tryd.ntmps11
  go_wp2_with fail
  refine (HW.out _).mono ?_; rintro e w1 ⟨rfl, ⟨n1, rfl⟩⟩
  go_wp2
  go_ret
  exact ⟨rfl, by repeat (first | exact Below.refl _ _ | apply below_alloc | apply pw_below_drewN | apply below_drew1)⟩
set_option maxHeartbeats 1000000 in
set_option maxRecDepth 100000 in
theorem goodItems_root (w : World) (ad : Addr) (n c0 : Nat) (hn : inB 1 40 (n : Int) = true) (x0 : ByteArray) (hx0 : w.cell? ad = some (.string x0)) (h0 : (x0.toList == [46]) = false) :
    Calls Tryd.prog 11 #[.slice (some ad) n c0] w fun e w' => e = .returned (.bool false) ∧ Below w.heap.size w w' := by
  have hu1 := Tryd.underlying50
  have hu2 := Tryd.underlying25
  have HW := Aside0.mk (fun W => impl_within.calls (n : Int) 1 40 _ W (within_f (n : Int) 1 40))
  rw [hn] at HW
  have p2 : ((0 : Int) < (n : Int)) = True := eq_true (by unfold inB at hn; simp at hn; omega)
  have p3 : 0 < n := by unfold inB at hn; simp at hn; omega
  have ha : ad.add 0 = ad := by cases ad; rfl
  clear hn
  go_enter Tryd.func11, Tryd.ntmps11
  go_wp2_with fail
  refine (HW.out _).mono ?_; rintro e w1 ⟨rfl, ⟨n1, rfl⟩⟩
  go_wp2
  go_ret
  exact ⟨rfl, by repeat (first | exact Below.refl _ _ | apply below_alloc | apply pw_below_drewN | apply below_drew1)⟩
theorem impl_GoodItems.calls (A0 : Option Addr) (c0 : Nat) (l0 : List It) (r : Bool) (w : World) (hr0 : Kd.C k50 w A0 l0.length l0) (hc0 : l0.length ≤ c0) (h : impl_GoodItems.f l0 = some r) :
    Calls Tryd.prog 11 #[.slice A0 l0.length c0] w fun e w' => e = .returned (.bool r) ∧ Below w.heap.size w w' := by
  unfold impl_GoodItems.f at h
  split at h
  case isFalse => exact absurd h (by simp)
  rename_i hsz
  injection h with h
  by_cases hn : inB 1 40 (l0.length : Int) = true
  · have hl : 1 ≤ l0.length ∧ l0.length ≤ 40 := by unfold inB at hn; simp at hn; omega
    obtain ⟨ad, rfl, cx⟩ := cells_at hr0 0 (by omega)
    have hx0 := cx.h0
    have ha : ad.add (0 * 8) = ad := by cases ad; rfl
    rw [ha] at hx0
    have hg : goodB l0 = ((itAt l0 0).f0.toList == [46] && stepsB l0 l0.length) := by
      unfold goodB
      rw [decide_eq_true hl.1, decide_eq_true hl.2]; rfl
    by_cases h0 : ((itAt l0 0).f0.toList == [46]) = true
    · refine goodItems_loop w ad c0 l0 hl hc0 hr0 (fun i => ?_) _ hx0 (by simpa using h0) r ?_
      · by_cases hi : i < l0.length
        · have : itAt l0 i = l0[i] := rdI l0 i hi
          rw [this]
          simpa using List.all_eq_true.mp hsz _ (List.getElem_mem hi)
        · have : itAt l0 i = z50 := by unfold itAt rd_T50; simp [List.getD, List.getElem?_eq_none (show l0.length ≤ i by omega)]
          rw [this]; decide
      · rw [← h, hg, h0, Bool.true_and]
    · have h0' : ((itAt l0 0).f0.toList == [46]) = false := by simpa using h0
      have : r = false := by rw [← h, hg, h0', Bool.false_and]
      subst this
      exact goodItems_root w ad _ c0 hn _ hx0 h0'
  · have hn' : inB 1 40 (l0.length : Int) = false := by simpa using hn
    have : r = false := by
      rw [← h]; unfold goodB
      unfold inB at hn'
      by_cases h1 : 1 ≤ l0.length
      · have : ¬ l0.length ≤ 40 := by intro h2; simp at hn'; omega
        rw [decide_eq_false this, Bool.false_and, Bool.and_false]
      · rw [decide_eq_false h1, Bool.false_and]
    subst this
    exact goodItems_empty w A0 _ c0 hn'

end Go.Proofs.YtibfocaldcjiiaaDoor.Q
