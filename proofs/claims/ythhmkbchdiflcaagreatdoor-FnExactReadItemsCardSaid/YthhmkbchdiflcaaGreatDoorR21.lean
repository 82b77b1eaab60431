/- Texts of this claim, merged by a program (wip/tools/merge.py): HSeven. -/
import Derived.Test.YthhmkbchdiflcaaGreatDoorR1
import Derived.Test.YthhmkbchdiflcaaGreatDoorR12
import Derived.Test.YthhmkbchdiflcaaGreatDoorR19
import Derived.Test.YthhmkbchdiflcaaGreatDoorR20
import Derived.OwnWalk
import Derived.Lib.AtoiAllCases
/- impl.seven: the walk. -/
namespace Go.Proofs.YthhmkbchdiflcaaGreatDoor.Q
open Go.RowKit Go.Proofs.YthhmkbchdiflcaaGreatDoorW.PrintWords Go.Proofs.YthhmkbchdiflcaaGreatDoorW.PrintLast Go.Proofs.YthhmkbchdiflcaaGreatDoorW.PrintMore
attribute [local go_sem] max2_int min2_int max_two min_two max_three min_three max_four min_four   -- for this text's walks alone
set_option linter.unusedVariables false
set_option linter.unusedSimpArgs false

/-- The number that Atoi hands back, a fault or not. -/
def sevV (x : ByteArray) : Int := match Lib.atoiAll x.data.toList with
  | .ok v => v
  | .range => Lib.atoiSat x.data.toList
  | _ => 0
theorem sevV_ok {x : ByteArray} {n : Nat} (h : sevL x.data.toList = some n) : sevV x = n := by
  obtain ⟨h1, h2, h3⟩ := sevL_some h
  unfold sevV
  rw [Lib.atoiAll_short _ (by omega)]
  have ha : Lib.atoi x.data.toList = some (n : Int) := by
    generalize x.data.toList = l at h1 h3
    cases l with
    | nil => exact absurd h1 (dec_ne n)
    | cons b r =>
      have hb := dec_digits n b (by rw [h1]; simp)
      unfold Lib.atoi
      have n45 : (b == 45) = false := by
        rw [beq_eq_false_iff_ne]; rintro rfl; have : (45 : UInt8).toNat = 45 := rfl; omega
      have n43 : (b == 43) = false := by
        rw [beq_eq_false_iff_ne]; rintro rfl; have : (43 : UInt8).toNat = 43 := rfl; omega
      simp only [n45, n43, Bool.false_eq_true, if_false, h3, Option.map_some]
  rw [ha]; rfl
set_option maxHeartbeats 4000000 in
set_option maxRecDepth 100000 in
theorem seven_err (x : ByteArray) (v : Int) (W : World) (t : TypeId)
    (H : Calls Tryz.prog 121 #[.string x] W fun e w' => ∃ N, e = .returned (.tuple #[.int .i64 v, .iface t (.pointer (some ⟨N, 0, none⟩))]) ∧ Below W.heap.size W w') :
    Calls Tryz.prog 136 #[.string x] W fun e w' => e = .returned (.tuple #[.int .i64 v, .bool false]) ∧ Below W.heap.size W w' := by
  have HC := Aside0.mk H
  clear H
  go_enter Tryz.func136, Tryz.ntmps136
  go_wp2_with fail
  refine HC.out.mono ?_; rintro e w1 ⟨N, rfl, hd⟩
  go_wp2
  go_ret2
  exact ⟨rfl, hd⟩
set_option maxHeartbeats 4000000 in
set_option maxRecDepth 100000 in
theorem seven_ok (x : ByteArray) (v : Int) (hx : x.size < 4294967281) (W : World) (r : Bool)
    (H : Calls Tryz.prog 121 #[.string x] W fun e w' => e = .returned (.tuple #[.int .i64 v, .nilIface]) ∧ Below W.heap.size W w')
    (HI : ∀ X, Below W.heap.size W X → Calls Tryz.prog 61 #[.int .i64 v] X fun e w' => e = .returned (.string ⟨(Lib.itoa v).toArray⟩) ∧ Below X.heap.size X w')
    (hr : (decide (0 ≤ v) && (decide (x.size ≤ 7) && ((⟨(Lib.itoa v).toArray⟩ : ByteArray).toList == x.toList))) = r) :
    Calls Tryz.prog 136 #[.string x] W fun e w' => e = .returned (.tuple #[.int .i64 v, .bool r]) ∧ Below W.heap.size W w' := by
  have HC := Aside0.mk H
  have HI := Aside0.mk HI
  generalize (⟨(Lib.itoa v).toArray⟩ : ByteArray) = z at HI hr
  clear H
  by_cases h0 : 0 ≤ v
  · by_cases h7 : x.size ≤ 7
    · have hr' : r = (z.toList == x.toList) := by rw [← hr, decide_eq_true h0, decide_eq_true h7]; rfl
      have HR := Aside0.mk hr'
      have d0 : decide (0 ≤ v) = true := decide_eq_true h0
      have d7 : decide (x.size ≤ 7) = true := decide_eq_true h7
      have d8 : ((x.size : Int) ≤ 7) = True := eq_true (by omega)
      clear hr hr' hx
      go_enter Tryz.func136, Tryz.ntmps136
      go_wp2_with fail
      refine HC.out.mono ?_; rintro e w1 ⟨rfl, hd⟩
      have HB := Aside0.mk hd
      have HI1 := Aside0.mk (HI.out w1 hd)
      clear hd
      go_wp2_with fail
      refine HI1.out.mono ?_; rintro e w2 ⟨rfl, hd⟩
      go_wp2
      go_ret2
      exact ⟨by rw [HR.out]; rfl, below_step HB.out hd⟩
    · have hr' : r = false := by rw [← hr, decide_eq_false h7]; simp
      subst hr'
      have d0 : decide (0 ≤ v) = true := decide_eq_true h0
      have d7 : decide (x.size ≤ 7) = false := decide_eq_false h7
      have d8 : ((x.size : Int) ≤ 7) = False := eq_false (by omega)
      clear hr hx HI
      go_enter Tryz.func136, Tryz.ntmps136
      go_wp2_with fail
      refine HC.out.mono ?_; rintro e w1 ⟨rfl, hd⟩
      go_wp2
      go_ret2
      exact ⟨rfl, hd⟩
  · have hr' : r = false := by rw [← hr, decide_eq_false h0]; simp
    subst hr'
    have d0 : decide (0 ≤ v) = false := decide_eq_false h0
    have d8 : (0 ≤ v) = False := eq_false h0
    clear hr hx HI
    go_enter Tryz.func136, Tryz.ntmps136
    go_wp2_with fail
    refine HC.out.mono ?_; rintro e w1 ⟨rfl, hd⟩
    go_wp2
    go_ret2
    exact ⟨rfl, hd⟩
theorem seven_calls (x : ByteArray) (hs : x.size < 4294967281) (W : World) (h : EnvR W) :
    Calls Tryz.prog 136 #[.string x] W fun e w' => e = .returned (.tuple #[.int .i64 (sevV x), .bool (sevB x)]) ∧ Below W.heap.size W w' := by
  unfold sevV sevB
  rcases hq : Lib.atoiAll x.data.toList with v | _ | _
  · simp only
    have hv := Lib.atoiAll_bounds hq
    refine seven_ok x v hs W _ ?_ (fun X hb => strItoa.calls v _ X (by unfold strItoa.f; rw [if_pos ⟨by omega, by omega⟩]) (h.below hb).t) rfl
    refine (Any.strconv_Atoi_ok Tryz.lays172 x (by omega) v hq W).mono ?_
    rintro e w' ⟨rfl, hw⟩
    refine ⟨rfl, ?_⟩
    rcases hw with rfl | ⟨t, rfl⟩
    · exact Below.refl _ _
    · exact bytes_below W _ t
  · obtain ⟨ev, h1, h2⟩ := h.e.s
    refine seven_err x 0 W (Tryz.lays172_ren.t 168) ?_
    refine (Any.strconv_Atoi_syntax Tryz.lays172 x (by omega) hq ev W h1 h2).mono ?_
    rintro e w' ⟨N, rfl, _, _, hb⟩
    exact ⟨_, rfl, hb⟩
  · obtain ⟨ev, h1, h2⟩ := h.e.r
    refine seven_err x _ W (Tryz.lays172_ren.t 168) ?_
    refine (Any.strconv_Atoi_range Tryz.lays172 x (by omega) hq ev W h1 h2).mono ?_
    rintro e w' ⟨N, rfl, _, _, hb⟩
    exact ⟨_, rfl, hb⟩
end Go.Proofs.YthhmkbchdiflcaaGreatDoor.Q
