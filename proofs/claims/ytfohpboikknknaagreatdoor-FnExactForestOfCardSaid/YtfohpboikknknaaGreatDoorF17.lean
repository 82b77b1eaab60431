/- Texts of this claim, merged by a program (wip/tools/merge.py): HFind4, HGrow, HAdd, HWoodOf, HForest, HTree4, HForest4. -/
import Derived.Test.YtfohpboikknknaaGreatDoorF2
import Derived.Test.YtfohpboikknknaaGreatDoorF3
import Derived.Test.YtfohpboikknknaaGreatDoorF4
import Derived.Test.YtfohpboikknknaaGreatDoorF16
import Derived.Outline
import Derived.BigQuiet
import Derived.Deep.QuietTactic
import Derived.Deep.RegionHeld3
import Derived.Deep.DeepCutAuto
import Derived.Test.YtfohpboikknknaaGreatDoorF5
import Derived.Test.YtfohpboikknknaaGreatDoorF15
namespace Go.Proofs.YtfohpboikknknaaGreatDoor.Q
open Go.RowKit Go.Proofs.YtfohpboikknknaaGreatDoorW.PrintWords Go.Proofs.YtfohpboikknknaaGreatDoorW.PrintLast Go.Proofs.YtfohpboikknknaaGreatDoorW.PrintMore
attribute [local go_sem] max2_int min2_int max_two min_two max_three min_three max_four min_four
set_option linter.unusedVariables false
set_option linter.unusedSimpArgs false
theorem find22 {W : World} {a b T T' : Nat} {u0 u1 v0 v1 : Value} (h2 : W.heap[a]? = some (.cells #[u0, u1] T (0, 0))) (h8 : W.heap[b]? = some (.cells #[v0, v1] T' (0, 0))) :
    W.cell? ⟨a, 0, none⟩ = some u0 ∧ W.cell? ⟨a, 1, none⟩ = some u1 ∧ W.cell? ⟨b, 0, none⟩ = some v0 ∧ W.cell? ⟨b, 1, none⟩ = some v1 := ⟨blk_cell h2 0, blk_cell h2 1, blk_cell h8 0, blk_cell h8 1⟩
def measW (g : Nat) (W : World) : Nat := match W.cell? ⟨g, 5, none⟩, W.cell? ⟨g, 6, none⟩ with
  | some (.slice _ n _), some (.int _ h) => measF n h.toNat
  | _, _ => 0
theorem stepF_code {ns : List Nd} {cu cg : Int} {fol : Bool} {a : Int} {p : ByteArray} {rest : List ByteArray} {hops : Nat} {c : Int} (e : stepF ns cu cg fol a p rest hops = .inl c) : 2 ≤ c := by
  unfold stepF at e
  repeat' split at e
  all_goals first | (injection e with e; omega) | cases e
theorem measW_at {g : Nat} {W : World} {A0 : Option Addr} {n c0 : Nat} {room cu cg a : Int} {ps : List ByteArray} {hops : Nat} (h : LookAt W g A0 n c0 room cu cg a ps hops) : measW g W = measF ps.length hops := by
  obtain ⟨A, c, hb, -, -, -⟩ := h.at_
  unfold measW
  rw [show W.cell? ⟨g, 5, none⟩ = some (.slice A ps.length c) from (blk_cell hb 5).trans rfl, show W.cell? ⟨g, 6, none⟩ = some (.int .i64 (hops : Int)) from (blk_cell hb 6).trans rfl]
  rfl
def find4_T4 : Bool × List (List Nat × List Nat) := (true, [([], []), ([], []), ([], []), ([2], [2]), ([0, 1, 3], [0, 1, 3]), ([4], [4]), ([5, 3, 0, 1, 2, 3, 4, 5], [5])])
def find4_B4 : List Nat := [0, 0, 0, 4, 15, 31, 63]
theorem find4_tab4 : rtab .any (opsOf Tryz.f77 4) = find4_T4 := by kernel_rfl
theorem find4_bits4 : waitsOk find4_T4.2 find4_B4 = true := by kernel_rfl
set_option maxHeartbeats 8000000 in
set_option maxRecDepth 100000 in
theorem find4_walk (ns : List Nd) (A0 : Option Addr) (c0 : Nat) (room cu cg : Int) (path : ByteArray) (fol : Bool) (w : World) (hr0 : Kd.C k85 w A0 ns.length ns) (hc0 : ns.length ≤ c0) (hf : FsFit ns) (hg : SGood ns room) (hp : path.size < 4294967281) :
    Calls Tryz.prog 77 #[.agg #[.slice A0 ns.length c0, .int .i64 room], .agg #[.int .i64 cu, .int .i64 cg], .string path, .bool fol] w fun e w' => e = .returned (.tuple #[.int .i64 (findR ns cu cg path fol).1, .int .i64 (findR ns cu cg path fol).2]) ∧ Below w.heap.size w w' := by
  have hu1 := Tryz.underlying34
  have hu2 := Tryz.underlying36
  have hu3 := Tryz.underlying29
  have hu4 := Tryz.underlying160
  have hu5 := Tryz.underlying85
  obtain ⟨kw, hkw⟩ := (l2Whole_ev path hp).rounds
  have HIW := Aside0.mk (fun (W : World) => spec_l2Whole.calls kw path _ W hkw)
  have HF := Aside0.mk hf
  have HG := Aside0.mk hg
  have HR0 := Aside0.mk hr0
  have HC0 := Aside0.mk hc0
  have HP := Aside0.mk hp
  clear hkw
  unfold findR
  cases hw : wholeB path with
  | false =>
    rw [hw] at HIW
    rw [if_neg (by simp)]
    clear hr0 hc0 hf hg hp
    go_enter Tryz.func77, Tryz.ntmps77
    go_upto_region 1 with (fail)
    obtain ⟨W2, hW2⟩ : ∃ W, W = (w.alloc (.cells #[.slice A0 ns.length c0, .int .i64 room] 34 (0, 0))).alloc (.cells #[.int .i64 cu, .int .i64 cg] 36 (0, 0)) := ⟨_, rfl⟩
    have HB2 := Aside0.mk (show Below w.heap.size w W2 from by rw [hW2]; exact below_alloc (below_alloc (Below.refl _ _) _) _)
    rw [← hW2]
    clear hW2
    go_wp2_with fail
    refine (HIW.out W2).mono ?_; rintro e W3 ⟨rfl, hd⟩
    go_wp2
    go_ret2
    exact ⟨rfl, below_step HB2.out hd⟩
  | true =>
    rw [hw] at HIW
    rw [if_pos rfl]
    have hsz : 1 ≤ path.size ∧ path.size ≤ 60 := by unfold wholeB at hw; rw [Bool.and_eq_true] at hw; exact goodPath_size hw.1
    obtain ⟨kp, hkp⟩ := (l2Parts_ev path hp).rounds
    have HPO := Aside0.mk (fun (W : World) => spec_l2Parts.calls kp path _ W hkp)
    obtain ⟨ends, hen⟩ : ∃ e, e = endsB path := ⟨_, rfl⟩
    have hends : (bt path ((path.size : Int) - 1) == 47) = ends := hen.symm
    rw [← hen]
    obtain ⟨R, hR⟩ : ∃ R, R = goF ns cu cg (fol || ends) ends 2000 0 (partsL path) 0 := ⟨_, rfl⟩
    rw [← hR]
    obtain ⟨fe, hfe⟩ : ∃ b, b = (fol || ends) := ⟨_, rfl⟩
    have HFE : Aside0 ((fol = true ∧ fe = true) ∨ (fol = false ∧ fe = ends)) := ⟨by rw [hfe]; cases fol <;> simp⟩
    rw [← hfe] at hR
    have HGF : Aside0 (goF ns cu cg fe ends 2000 0 (partsL path) 0 = R ∧ measF (partsL path).length 0 < 2000 ∧ 2000 ≤ 2000) := ⟨hR.symm, by
      have := parts_few path
      unfold measF; omega, Nat.le_refl _⟩
    obtain ⟨j, hj⟩ : ∃ j : Int, j = (path.size : Int) - 1 := ⟨_, rfl⟩
    have w1 : IntKind.i64.wrap ((path.size : Int) - 1) = j := (i64_w _).trans (by unfold wrap64; omega)
    have s0 : ((0 : Int) ≤ j) = True := eq_true (by omega)
    have s1 : (j.toNat < path.size) = True := eq_true (by omega)
    have s2 : (j < (path.size : Int)) = True := eq_true (by omega)
    have hx := bt_at path j
    rw [← hj] at hends
    clear hr0 hc0 hf hg hp hw hsz hen hR hkp hj hfe
    go_enter Tryz.func77, Tryz.ntmps77
    go_upto_region 1 with (fail)
    obtain ⟨W2, hW2⟩ : ∃ W, W = (w.alloc (.cells #[.slice A0 ns.length c0, .int .i64 room] 34 (0, 0))).alloc (.cells #[.int .i64 cu, .int .i64 cg] 36 (0, 0)) := ⟨_, rfl⟩
    have HB2 := Aside0.mk (show Below w.heap.size w W2 from by rw [hW2]; exact below_alloc (below_alloc (Below.refl _ _) _) _)
    have BF2 := Aside0.mk (show W2.heap[w.heap.size]? = some (.cells #[.slice A0 ns.length c0, .int .i64 room] 34 (0, 0)) from by rw [hW2]; exact blk_alloc (blk_new _ _) _)
    have BC2 := Aside0.mk (show W2.heap[w.heap.size + 1]? = some (.cells #[.int .i64 cu, .int .i64 cg] 36 (0, 0)) from by rw [hW2]; have h := blk_new (w.alloc (.cells #[.slice A0 ns.length c0, .int .i64 room] 34 (0, 0))) (.cells #[.int .i64 cu, .int .i64 cg] 36 (0, 0)); rwa [World.size_alloc] at h)
    rw [← hW2]
    clear hW2
    go_wp2_with fail
    refine (HIW.out W2).mono ?_; rintro e W3 ⟨rfl, hd⟩
    have HB3 := Aside0.mk (below_step HB2.out hd)
    have BF3 := Aside0.mk (blk_below BF2.out hd)
    have BC3 := Aside0.mk (blk_below BC2.out hd)
    clear hd HIW HB2 BF2 BC2
    obtain ⟨f0, f1, q0, q1⟩ := find22 BF3.out BC3.out
    go_upto_region 4 with (fail)
    refine start_ (n := 7) (S := fun w' => w'.cell? ⟨w.heap.size, 0, none⟩ = some (.slice A0 ns.length c0) ∧ w'.cell? ⟨w.heap.size, 1, none⟩ = some (.int .i64 room) ∧ w'.cell? ⟨w.heap.size + 1, 0, none⟩ = some (.int .i64 cu) ∧ w'.cell? ⟨w.heap.size + 1, 1, none⟩ = some (.int .i64 cg)) (ds := []) #[false, false, false, false, false, false, false] (by kernel_rfl) rfl rfl ⟨(blk_cell (blk_drew BF3.out) 0).trans rfl, (blk_cell (blk_drew BF3.out) 1).trans rfl, (blk_cell (blk_drew BC3.out) 0).trans rfl, (blk_cell (blk_drew BC3.out) 1).trans rfl⟩ (fun hHeld => ?_)
    refine with_tabW find4_tab4 find4_bits4 (fun HT_ HW_ => ?_)
    refine pure_ (i := 2) (N := some 24) (v := ?_) (a' := ?_) #[false, false, true, false, false, false, false] rfl rfl (any_of HT_.out (by kernel_rfl)) (fun _ _ _ h => h) (Or.inl ⟨by rfl, ?_⟩) ?_ ?_
    rotate_left
    · intro w'
      go_simp
      with_reducible rfl
    rotate_left
    · simp only [Act.put, List.setIfInBounds_toArray, List.set_cons_zero, List.set_cons_succ, i64_w, i32_w]
      rfl
    refine take_ (i := 0) (N := some 22) (v := ?_) (a' := ?_) #[true, false, true, false, false, false, false] rfl rfl (take_ofW HT_.out HW_.out (by kernel_rfl)) (fun _ _ _ h => h) (Or.inl ⟨by rfl, ?_⟩) hHeld ?_ ?_
    rotate_left
    · rintro w' ⟨s0, s1, s2, s3⟩
      go_simp
      with_reducible rfl
    rotate_left
    · simp only [Act.put, List.setIfInBounds_toArray, List.set_cons_zero, List.set_cons_succ, i64_w, i32_w]
      rfl
    refine take_ (i := 1) (N := some 23) (v := ?_) (a' := ?_) #[true, true, true, false, false, false, false] rfl rfl (take_ofW HT_.out HW_.out (by kernel_rfl)) (fun _ _ _ h => h) (Or.inl ⟨by rfl, ?_⟩) hHeld ?_ ?_
    rotate_left
    · rintro w' ⟨s0, s1, s2, s3⟩
      go_simp
      with_reducible rfl
    rotate_left
    · simp only [Act.put, List.setIfInBounds_toArray, List.set_cons_zero, List.set_cons_succ, i64_w, i32_w]
      rfl
    refine one_ (i := 3) (N := some 25) #[true, true, true, true, false, false, false] rfl rfl (one_of HT_.out (by kernel_rfl)) (by decide) (fun K hK => ?_)
    refine goes_ Tryz.func102 (by kernel_rfl) rfl #[.string path] (by rfl) rfl rfl (by simp only [List.map_toArray, List.map_cons, List.map_nil]; rfl) ?_
    with_reducible refine (HPO.out _).mono ?_
    rintro e w4 ⟨v4, rfl, ho4, hd4⟩
    refine ⟨_, rfl, ?_⟩
    have D4 := Aside0.mk (show Below W3.heap.size W3 w4 from below_step (below_drew1 (Below.refl W3.heap.size W3)) hd4)
    obtain ⟨A4, c4, rfl⟩ := Kd.R_slice ho4
    refine hK.out _ _ ⟨pw_cell_below hd4 hHeld.1, pw_cell_below hd4 hHeld.2.1, pw_cell_below hd4 hHeld.2.2.1, pw_cell_below hd4 hHeld.2.2.2⟩ (fun hHeld => ?_)
    clear hK K
    refine norm_ (a' := ?_) ?_ ?_
    rotate_left
    · show Act.put _ (some 25) _ = _
      simp only [Act.put, List.setIfInBounds_toArray, List.set_cons_zero, List.set_cons_succ, i64_w, i32_w]
      rfl
    refine pure_ (i := 4) (N := some 26) (v := ?_) (a' := ?_) #[true, true, true, true, true, false, false] rfl rfl (any_of HT_.out (by kernel_rfl)) (fun _ _ _ h => h) (Or.inl ⟨by rfl, ?_⟩) ?_ ?_
    rotate_left
    · intro w'
      go_simp
      with_reducible rfl
    rotate_left
    · simp only [Act.put, List.setIfInBounds_toArray, List.set_cons_zero, List.set_cons_succ, i64_w, i32_w]
      rfl
    refine one_ (i := 5) (N := some 27) #[true, true, true, true, true, true, false] rfl rfl (one_of HT_.out (by kernel_rfl)) (by decide) (fun K hK => ?_)
    refine value_ (w1 := ?_) (v := ?_) (by rfl) rfl ?_ ?_
    rotate_left 2
    · go_simp
      constructor
      · rfl
      · rfl
    refine hK.out _ _ ⟨pw_cell_below (below_alloc (Below.refl _ _) _) hHeld.1, pw_cell_below (below_alloc (Below.refl _ _) _) hHeld.2.1, pw_cell_below (below_alloc (Below.refl _ _) _) hHeld.2.2.1, pw_cell_below (below_alloc (Below.refl _ _) _) hHeld.2.2.2⟩ (fun hHeld => ?_)
    clear hK K
    refine norm_ (a' := ?_) ?_ ?_
    rotate_left
    · show Act.put _ (some 27) _ = _
      simp only [Act.put, List.setIfInBounds_toArray, List.set_cons_zero, List.set_cons_succ, i64_w, i32_w]
      rfl
    refine pure_ (i := 6) (N := some 11) (v := ?_) (a' := ?_) #[true, true, true, true, true, true, true] rfl rfl (any_of HT_.out (by kernel_rfl)) (fun _ _ _ h => h) (Or.inl ⟨by rfl, ?_⟩) ?_ ?_
    rotate_left
    · intro w'
      go_simp
      with_reducible rfl
    rotate_left
    · simp only [Act.put, List.setIfInBounds_toArray, List.set_cons_zero, List.set_cons_succ, i64_w, i32_w]
      rfl
    refine done_ (done_of HT_.out (by kernel_rfl)) ?_
    obtain ⟨g, hg⟩ : ∃ k, k = w4.heap.size := ⟨_, rfl⟩
    obtain ⟨W5, hW5⟩ : ∃ W, W = w4.alloc (.cells #[.slice A0 ns.length c0, .int .i64 room, .int .i64 cu, .int .i64 cg, .int .i64 0, .slice A4 (partsL path).length c4, .int .i64 0] 160 (0, 0)) := ⟨_, rfl⟩
    have hb5 : Below w4.heap.size w4 W5 := by rw [hW5]; exact below_alloc (Below.refl _ _) _
    have D5 := Aside0.mk (below_step (below_step HB3.out D4.out) hb5)
    have BF5 := Aside0.mk (blk_below (blk_below BF3.out D4.out) hb5)
    have HGG : Aside0 (w.heap.size + 1 < g) := ⟨by have h := blk_lt (blk_below BC3.out D4.out); omega⟩
    have LK5 : Aside0 (LookAt W5 g A0 ns.length c0 room cu cg 0 (partsL path) 0) := ⟨⟨A4, c4, by rw [hW5, hg]; exact blk_new _ _, Kd.C_below (Kd.R_reads' ho4).2.2 hb5, (Kd.R_reads' ho4).2.1, fun ad had hl => by
      subst had
      have h := Kd.R_lt ho4 ad.block rfl
      omega⟩⟩
    rw [← hW5, ← hg]
    clear hW5 hb5 hg ho4 hd4 D4 hHeld HB3 BF3 BC3 f0 f1 q0 q1 HPO w1 s0 s1 s2 hx hends
    go_wp2
    go_loopw [12] (fun v12 wr => ∃ (n : Nat) (a : Int) (ps : List ByteArray) (hops : Nat), Aside0 (LookAt wr g A0 ns.length c0 room cu cg a ps hops) ∧ Aside0 (a ∈ allN ns.length ∧ hops ≤ 8) ∧ Aside0 (goF ns cu cg fe ends n a ps hops = R ∧ measF ps.length hops < n ∧ n ≤ 2000) ∧ Aside0 (wr.heap[w.heap.size]? = some (.cells #[.slice A0 ns.length c0, .int .i64 room] 34 (0, 0))) ∧ Aside0 (Below w.heap.size w wr)) (fun _ wr => measW g wr)
    case atStart => exact ⟨2000, 0, partsL path, 0, LK5, ⟨zero_all HG.out.len.1, Nat.zero_le _⟩, HGF, BF5, D5⟩
    case round =>
      clear LK5 HGF BF5 D5
      obtain ⟨n, a, ps, hops, LK, HI, HGo, BF, HB⟩ := hrel
      obtain ⟨A, c, hbk, -, -, -⟩ := LK.out.at_
      obtain ⟨-, -, -, -, l4, l5, -⟩ := look7 hbk
      clear hbk
      cases ps with
      | nil =>
        have p0 : decide ((0 : Int) < (0 : Int)) = false := by simp
        have hgo := HGo.out.1
        rw [goF_nil] at hgo
        have hai := HI.out.1
        cases hends : ends with
        | false =>
          rw [hends] at hgo
          have hres : R = (a, 0) := by rw [← hgo]; unfold endF; rw [if_neg (by simp)]
          clear hgo hai HI HGo BF LK
          subst hends
          go_wp2
          go_region
          go_wp2
          go_ret2
          rw [hres]
          exact ⟨rfl, below_drew1 HB.out⟩
        | true =>
          rw [hends] at hgo
          obtain ⟨bd, By, dy, hbd, hna, -, -⟩ := node_at HR0.out a hai
          subst hbd
          obtain ⟨y0, y1⟩ := (allN_mem _ _).mp hai
          have q0 : ((0 : Int) ≤ a) = True := eq_true y0
          have q1 : (a < (ns.length : Int)) = True := eq_true y1
          have n0 := (hna.below HB.out).e0
          have f0 : wr.cell? ⟨w.heap.size, 0, none⟩ = some (.slice (some bd) ns.length c0) := (blk_cell BF.out 0).trans rfl
          subst hends
          by_cases hk : (ndR ns a).f0 = 2
          · have hb : ((ndR ns a).f0 != 2) = false := by simpa using hk
            have hb2 : decide ((ndR ns a).f0 = 2) = true := decide_eq_true hk
            have hres : R = (a, 0) := by rw [← hgo]; unfold endF; rw [if_neg (fun h => h.2 hk)]
            clear hgo hai HI HGo BF LK hk hna y0 y1
            go_wp2
            go_region
            go_wp2
            go_ret2
            rw [hres]
            exact ⟨rfl, below_drew1 HB.out⟩
          · have hb : ((ndR ns a).f0 != 2) = true := by simpa using hk
            have hb2 : decide ((ndR ns a).f0 = 2) = false := decide_eq_false hk
            have hres : R = (0, 3) := by rw [← hgo]; unfold endF; rw [if_pos ⟨rfl, hk⟩]
            clear hgo hai HI HGo BF LK hk hna y0 y1
            go_wp2
            go_region
            go_wp2
            go_ret2
            rw [hres]
            exact ⟨rfl, below_drew1 HB.out⟩
      | cons p rest =>
        have p0 : decide ((0 : Int) < ((p :: rest).length : Int)) = true := decide_eq_true (by simp only [List.length_cons]; omega)
        have p1 : ((0 : Int) < ((p :: rest).length : Int)) = True := eq_true (by simp only [List.length_cons]; omega)
        obtain ⟨m, rfl⟩ : ∃ m, n = m + 1 := ⟨n - 1, by have := HGo.out.2.1; omega⟩
        have HM : Aside0 (measF (rest.length + 1) hops < m + 1 ∧ m + 1 ≤ 2000) := ⟨HGo.out.2⟩
        have HST := Aside0.mk (step_walk ns A0 c0 room cu cg w HR0.out HC0.out HF.out HG.out fe a p rest hops g wr HB.out (by have := HGG.out; omega) HI.out.1 (by have := HM.out; unfold measF at this; omega) HI.out.2 LK.out)
        have HMW := Aside0.mk (measW_at LK.out)
        rcases goF_step HGo.out.1 with ⟨c', e1, hR⟩ | ⟨a', ps', h', e1, hgo⟩
        · have hc := stepF_code e1
          have z1 : (c' != 0) = true := by simp; omega
          have z2 : decide (c' = 0) = false := decide_eq_false (by omega)
          rw [e1] at HST
          clear e1 hc LK HI HGo BF HM HMW l4
          rcases HFE.out with ⟨hfo, hfe⟩ | ⟨hfo, hfe⟩ <;> subst hfo <;> subst hfe <;> (
            go_wp2_with fail
            refine (HST.out).mono ?_; rintro e w2 ⟨hkb, rfl⟩
            have HB2 := Aside0.mk (HB.out.trans (hkb.low.mono (by have := HGG.out; omega)))
            clear hkb HST HB l5
            go_wp2
            go_ret2
            rw [hR]
            exact ⟨rfl, HB2.out⟩)
        · have hok := stepF_ok (fun x hx => ((nodeB_iff ns x).mp (HG.out.node x hx)).1) (tree_of HG.out).sub HG.out.len.1 cu cg fe a HI.out.1 p rest hops HI.out.2 a' ps' h' e1
          have HI2 : Aside0 (a' ∈ allN ns.length ∧ h' ≤ 8) := ⟨hok.1, hok.2.1⟩
          have HG2 : Aside0 (goF ns cu cg fe ends m a' ps' h' = R ∧ measF ps'.length h' < m ∧ m ≤ 2000) := ⟨hgo, by have := HM.out; omega, by have := HM.out; omega⟩
          have HME : Aside0 (measF ps'.length h' < measW g wr) := ⟨by rw [HMW.out]; exact hok.2.2.1⟩
          rw [e1] at HST
          clear e1 hok hgo LK HI HGo HM HMW l4
          rcases HFE.out with ⟨hfo, hfe⟩ | ⟨hfo, hfe⟩ <;> subst hfo <;> subst hfe <;> (
            go_wp2_with fail
            refine (HST.out).mono ?_; rintro e w2 ⟨hkb, rfl, hlk⟩
            have HB2 := Aside0.mk (HB.out.trans (hkb.low.mono (by have := HGG.out; omega)))
            have BF2 := Aside0.mk (blk_kept BF.out hkb.kept (by have := HGG.out; omega))
            have LK2 := Aside0.mk hlk
            have HME2 : Aside0 (measW g w2 < measW g wr) := ⟨by rw [measW_at hlk]; exact HME.out⟩
            clear hkb hlk HST HB BF l5
            go_wp2
            go_roundw
            case rel => exact ⟨m, a', ps', h', LK2, HI2, HG2, BF2, HB2⟩
            case measure => exact HME2.out)
def grow_T2 : Bool × List (List Nat × List Nat) := (true, [([], []), ([], []), ([], []), ([], []), ([3], [3]), ([4], [4]), ([5], [5]), ([], []), ([7], [7]), ([6, 8], [6, 8]), ([], []), ([10], [10]), ([11], [11]), ([12], [12]), ([], []), ([14], [14]), ([13, 15, 9], [13, 15]), ([], []), ([17], [17]), ([18], [18]), ([19], [19]), ([], []), ([21], [21]), ([20, 22, 16], [20, 22]), ([0, 0, 3, 4, 5, 6, 7, 8, 9, 13, 16, 20, 23], [0]), ([24, 0, 3, 4, 5, 6, 7, 8, 9, 13, 16, 20, 23], [24]), ([25, 9, 23, 0, 3, 4, 5, 6, 7, 8, 9, 13, 16, 20, 23], [9, 25]), ([1, 0, 1, 3, 4, 5, 6, 7, 8, 9, 10, 11, 12, 13, 14, 15, 16, 20, 23, 24, 25, 26], [1]), ([27, 0, 1, 3, 4, 5, 6, 7, 8, 9, 10, 11, 12, 13, 14, 15, 16, 20, 23, 24, 25, 26], [27]), ([28, 16, 26, 0, 1, 3, 4, 5, 6, 7, 8, 9, 10, 11, 12, 13, 14, 15, 16, 20, 23, 24, 25, 26], [16, 28]), ([2, 0, 1, 2, 3, 4, 5, 6, 7, 8, 9, 10, 11, 12, 13, 14, 15, 16, 17, 18, 19, 20, 21, 22, 23, 24, 25, 26, 27, 28, 29], [2]), ([30, 0, 1, 2, 3, 4, 5, 6, 7, 8, 9, 10, 11, 12, 13, 14, 15, 16, 17, 18, 19, 20, 21, 22, 23, 24, 25, 26, 27, 28, 29], [30]), ([31, 23, 29, 0, 1, 2, 3, 4, 5, 6, 7, 8, 9, 10, 11, 12, 13, 14, 15, 16, 17, 18, 19, 20, 21, 22, 23, 24, 25, 26, 27, 28, 29], [23, 31])])
def grow_B2 : List Nat := [0, 0, 0, 0, 8, 24, 56, 0, 128, 504, 0, 1024, 3072, 7168, 0, 16384, 65528, 0, 131072, 393216, 917504, 0, 2097152, 8388600, 16777209, 33554425, 67108857, 134217723, 268435451, 536870907, 1073741823, 2147483647, 4294967295]
theorem grow_tab2 : rtab .any (opsOf Tryz.f82 2) = grow_T2 := by kernel_rfl
theorem grow_bits2 : waitsOk grow_T2.2 grow_B2 = true := by kernel_rfl
theorem slash_f (a b : ByteArray) (h0 : 0 < a.size) (ha : a.size ≤ 2000000000) (hb : b.size ≤ 2000000) : impl_slash.f a b = some (slashP a b) := by
  unfold impl_slash.f slashP
  rw [hasSuffix_f a h0 (by omega)]
  simp only [Option.bind_some]
  split
  · rw [if_pos (by omega)]
  · rw [if_pos (by omega), if_pos (by rw [ByteArray.size_append]; simp only [ByteArray.size, List.size_toArray, List.length_cons, List.length_nil] at *; omega)]
theorem slashP_size (a b : ByteArray) : (slashP a b).size ≤ a.size + b.size + 1 ∧ a.size ≤ (slashP a b).size := by
  unfold slashP
  split
  · rw [ByteArray.size_append]; omega
  · rw [ByteArray.size_append, ByteArray.size_append]; simp only [ByteArray.size, List.size_toArray, List.length_cons, List.length_nil]; omega
theorem keepWd {W : World} {g7 g8 g6 T7 T8 T6 : Nat} {v0 v1 u0 u1 t0 t1 : Value} (b7 : W.heap[g7]? = some (.cells #[v0, v1] T7 (0, 0))) (b8 : W.heap[g8]? = some (.cells #[u0, u1] T8 (0, 0))) (b6 : W.heap[g6]? = some (.cells #[t0, t1] T6 (0, 0))) :
    W.cell? ⟨g7, 0, none⟩ = some v0 ∧ W.cell? ⟨g7, 1, none⟩ = some v1 ∧ W.cell? ⟨g8, 0, none⟩ = some u0 ∧ W.cell? ⟨g8, 1, none⟩ = some u1 ∧ W.cell? ⟨g6, 0, none⟩ = some t0 ∧ W.cell? ⟨g6, 1, none⟩ = some t1 :=
  ⟨(blk_cell b7 0).trans rfl, (blk_cell b7 1).trans rfl, (blk_cell b8 0).trans rfl, (blk_cell b8 1).trans rfl, (blk_cell b6 0).trans rfl, (blk_cell b6 1).trans rfl⟩
theorem below_drawn0 {W W2 : World} (h : Drawn0 W W2) : Below W.heap.size W W2 := by obtain ⟨n, hn⟩ := h; rw [hn]; exact pw_below_drewN (Below.refl _ _) n
theorem mayLook_f {ns : List Nd} (room cu cg y : Int) (hy : y ∈ allN ns.length) : impl_Fs_mayLook.f ns room cu cg y = some (mayB cu cg (ndR ns y) 5) := by
  unfold impl_Fs_mayLook.f
  rw [mayAt_f room cu cg y 5 hy]; rfl
set_option maxHeartbeats 8000000 in
set_option maxRecDepth 100000 in
theorem grow_calls (room cu cg : Int) (A0 : Option Addr) (c0 : Nat) (ns : List Nd) (w0 : World) (hr0 : Kd.C k85 w0 A0 ns.length ns) (hc0 : ns.length ≤ c0) (hf : FsFit ns) (hgood : SGood ns room) (g : Nat) (hg : w0.heap.size ≤ g) (d : Nat) : ∀ (p : ByteArray) (x above : Int) (P0 : Nat → Prop) (acc acc' : List Tk) (w : World),
    growD (chT ns cu cg) d acc x above p = some acc' → x ∈ allN ns.length → 0 < p.size → p.size + d * 1048577 ≤ 1000000000 → acc'.length ≤ 100000000 → ¬ P0 g → WoodAt w0.heap.size w0 g w P0 acc →
    Calls Tryz.prog 82 #[.pointer (some ⟨g, 0, none⟩), .agg #[.slice A0 ns.length c0, .int .i64 room], .agg #[.int .i64 cu, .int .i64 cg], .int .i64 x, .int .i64 above, .string p] w fun e w' => ∃ u, e = .returned u ∧ WoodAt w0.heap.size w0 g w' (fun k => P0 k ∨ w.heap.size ≤ k) acc' ∧ Kept w w' (fun k => P0 k ∨ k = g) := by
  have hu1 := Tryz.underlying34
  have hu2 := Tryz.underlying85
  have hu3 := Tryz.underlying144
  have hu4 := Tryz.underlying70
  have hu5 := Tryz.underlying36
  have HR0 := Aside0.mk hr0
  have HC0 := Aside0.mk hc0
  have HFIT := Aside0.mk hf
  have HGD := Aside0.mk hgood
  have HG := Aside0.mk hg
  clear hr0 hc0 hf hgood hg
  induction d with
  | zero => intro p x above P0 acc acc' w h; cases h
  | succ d ih =>
    intro p x above P0 acc acc' w h hx hp0 hsz hl hP ho
    have HIH := Aside0.mk ih
    clear ih
    unfold growD at h
    have hlen := growL_len _ _ _ _ _ _ _ h
    simp only [List.length_append, List.length_cons, List.length_nil] at hlen
    have HLN : Aside0 (acc.length ≤ 100000000) := ⟨by omega⟩
    have HLL : Aside0 (acc'.length ≤ 100000000) := ⟨hl⟩
    have HGR := Aside0.mk h
    obtain ⟨u1, u2, u3, hbox, ra, rb, rc, s12, s13, s23⟩ := ho.at_
    have HGL := Aside0.mk (blk_lt hbox)
    have HX := Aside0.mk hx
    have HSZ := Aside0.mk hsz
    have HP0 := Aside0.mk hp0
    have HP := Aside0.mk hP
    have HO := Aside0.mk ho.below
    have HS12 := Aside0.mk s12
    have HS13 := Aside0.mk s13
    have HS23 := Aside0.mk s23
    obtain ⟨Au, cc, hU⟩ := Kd.R_slice ra
    have b0 : w.cell? ⟨g, 0, none⟩ = some (.slice Au acc.length cc) := by have h : w.cell? ⟨g, 0, none⟩ = some u1 := (blk_cell hbox 0).trans rfl; rw [hU, List.length_map] at h; exact h
    have HBOX := Aside0.mk hbox
    have HRA := Aside0.mk ra
    have HRB := Aside0.mk rb
    have HRC := Aside0.mk rc
    have HBF := Aside0.mk (HO.out.size)
    have hgl : g < w.heap.size := HGL.out
    clear h hlen hx hsz hl hP ho hbox ra rb rc s12 s13 s23 hU hp0
    go_enter Tryz.func82, Tryz.ntmps82
    go_upto_region 2 with (fail)
    obtain ⟨W1, hW1⟩ : ∃ W, W = (w.alloc (.cells #[.slice A0 ns.length c0, .int .i64 room] 34 (0, 0))).alloc (.cells #[.int .i64 cu, .int .i64 cg] 36 (0, 0)) := ⟨_, rfl⟩
    have hb1 : Below w.heap.size w W1 := by rw [hW1]; exact below_alloc (below_alloc (Below.refl _ _) _) _
    have bk7 : W1.heap[w.heap.size]? = some (.cells #[.slice A0 ns.length c0, .int .i64 room] 34 (0, 0)) := by rw [hW1]; exact blk_alloc (blk_new _ _) _
    have bk8 : W1.heap[w.heap.size + 1]? = some (.cells #[.int .i64 cu, .int .i64 cg] 36 (0, 0)) := by rw [hW1]; have h := blk_new (w.alloc (.cells #[.slice A0 ns.length c0, .int .i64 room] 34 (0, 0))) (.cells #[.int .i64 cu, .int .i64 cg] 36 (0, 0)); rwa [World.size_alloc] at h
    obtain ⟨g7, hg7⟩ : ∃ k, k = w.heap.size := ⟨_, rfl⟩
    obtain ⟨g8, hg8⟩ : ∃ k, k = w.heap.size + 1 := ⟨_, rfl⟩
    rw [← hg7] at bk7
    rw [← hg8] at bk8
    rw [← hW1, ← hg8, ← hg7]
    have BK7 := Aside0.mk bk7
    have BK8 := Aside0.mk bk8
    have HG78 : Aside0 (w.heap.size ≤ g7 ∧ w.heap.size ≤ g8 ∧ g7 < W1.heap.size ∧ g8 < W1.heap.size) := ⟨by omega, by omega, blk_lt bk7, blk_lt bk8⟩
    have HWS : Aside0 (w.heap.size ≤ W1.heap.size) := ⟨hb1.size⟩
    obtain ⟨P1, hP1⟩ : ∃ P : Nat → Prop, P = fun k => (P0 k ∧ k < w.heap.size) ∨ W1.heap.size ≤ k := ⟨_, rfl⟩
    have HF1 : Aside0 (∀ k, W1.heap.size ≤ k → P1 k) := ⟨fun k hk => by rw [hP1]; exact .inr hk⟩
    have HPG : Aside0 (∀ k, P1 k → k ≠ g) := ⟨fun k hk e => by rw [hP1] at hk; subst e; rcases hk with h | h; exact HP.out h.1; have := HWS.out; omega⟩
    have HPU : Aside0 (∀ k, P0 k → k < w.heap.size → P1 k) := ⟨fun k hk hl => by rw [hP1]; exact .inl ⟨hk, hl⟩⟩
    have HP1 : Aside0 (∀ k, P1 k → (P0 k ∧ k < w.heap.size) ∨ W1.heap.size ≤ k) := ⟨fun k hk => by rw [hP1] at hk; exact hk⟩
    have HU1 : Aside0 ((∀ k, u1.ownBlock = some k → P0 k) ∧ ∀ k, u1.ownBlock = some k → k < W1.heap.size) := ⟨HRA.out.1, fun k hk => Nat.lt_of_lt_of_le (Kd.R_lt HRA.out k hk) HWS.out⟩
    have HU2 : Aside0 ((∀ k, u2.ownBlock = some k → P0 k) ∧ ∀ k, u2.ownBlock = some k → k < W1.heap.size) := ⟨HRB.out.1, fun k hk => Nat.lt_of_lt_of_le (Kd.R_lt HRB.out k hk) HWS.out⟩
    have HU3 : Aside0 ((∀ k, u3.ownBlock = some k → P0 k) ∧ ∀ k, u3.ownBlock = some k → k < W1.heap.size) := ⟨HRC.out.1, fun k hk => Nat.lt_of_lt_of_le (Kd.R_lt HRC.out k hk) HWS.out⟩
    have BEL := Aside0.mk (HO.out.trans (hb1.mono HBF.out))
    have KEP : Aside0 (Kept w W1 (fun k => P0 k ∨ k = g)) := ⟨Kept.of_below hb1 _⟩
    have SIZ : Aside0 (W1.heap.size ≤ W1.heap.size) := ⟨Nat.le_refl _⟩
    have BOX0 := Aside0.mk (blk_below HBOX.out hb1)
    have RA0 := Aside0.mk (Kd.R_below (Kd.R_mono (Kd.R_bound HRA.out) (fun k hk => HPU.out k hk.1 hk.2.2.1)) hb1)
    have RB0 := Aside0.mk (Kd.R_below (Kd.R_mono (Kd.R_bound HRB.out) (fun k hk => HPU.out k hk.1 hk.2.2.1)) hb1)
    have RC0 := Aside0.mk (Kd.R_below (Kd.R_mono (Kd.R_bound HRC.out) (fun k hk => HPU.out k hk.1 hk.2.2.1)) hb1)
    have BKF := Aside0.mk (And.intro bk7 bk8)
    have HGN : Aside0 (g7 ≠ g ∧ g8 ≠ g) := ⟨by have := HGL.out; omega, by have := HGL.out; omega⟩
    have HUG1 : Aside0 (u1.ownBlock ≠ some g7 ∧ u1.ownBlock ≠ some g8) := ⟨fun e => by have := Kd.R_lt HRA.out _ e; omega, fun e => by have := Kd.R_lt HRA.out _ e; omega⟩
    have HUG2 : Aside0 (u2.ownBlock ≠ some g7 ∧ u2.ownBlock ≠ some g8) := ⟨fun e => by have := Kd.R_lt HRB.out _ e; omega, fun e => by have := Kd.R_lt HRB.out _ e; omega⟩
    have HUG3 : Aside0 (u3.ownBlock ≠ some g7 ∧ u3.ownBlock ≠ some g8) := ⟨fun e => by have := Kd.R_lt HRC.out _ e; omega, fun e => by have := Kd.R_lt HRC.out _ e; omega⟩
    clear hW1 hb1 bk7 bk8 hg7 hg8 hP1 b0 HBOX HRA HRB HRC hgl
    refine start_ (n := 33) (S := fun w' => True) (ds := []) #[false, false, false, false, false, false, false, false, false, false, false, false, false, false, false, false, false, false, false, false, false, false, false, false, false, false, false, false, false, false, false, false, false] (by kernel_rfl) rfl rfl trivial (fun hHeld => ?_)
    refine with_tabW grow_tab2 grow_bits2 (fun HT_ HW_ => ?_)
    refine pure_ (i := 0) (N := some 20) (v := ?_) (a' := ?_) #[true, false, false, false, false, false, false, false, false, false, false, false, false, false, false, false, false, false, false, false, false, false, false, false, false, false, false, false, false, false, false, false, false] rfl rfl (any_of HT_.out (by kernel_rfl)) (fun _ _ _ h => h) (Or.inl ⟨by rfl, ?_⟩) ?_ ?_
    rotate_left
    · intro w'
      go_simp
      with_reducible rfl
    rotate_left
    · simp only [Act.put, List.setIfInBounds_toArray, List.set_cons_zero, List.set_cons_succ, i64_w, i32_w]
      rfl
    refine pure_ (i := 1) (N := some 21) (v := ?_) (a' := ?_) #[true, true, false, false, false, false, false, false, false, false, false, false, false, false, false, false, false, false, false, false, false, false, false, false, false, false, false, false, false, false, false, false, false] rfl rfl (any_of HT_.out (by kernel_rfl)) (fun _ _ _ h => h) (Or.inl ⟨by rfl, ?_⟩) ?_ ?_
    rotate_left
    · intro w'
      go_simp
      with_reducible rfl
    rotate_left
    · simp only [Act.put, List.setIfInBounds_toArray, List.set_cons_zero, List.set_cons_succ, i64_w, i32_w]
      rfl
    refine pure_ (i := 2) (N := some 22) (v := ?_) (a' := ?_) #[true, true, true, false, false, false, false, false, false, false, false, false, false, false, false, false, false, false, false, false, false, false, false, false, false, false, false, false, false, false, false, false, false] rfl rfl (any_of HT_.out (by kernel_rfl)) (fun _ _ _ h => h) (Or.inl ⟨by rfl, ?_⟩) ?_ ?_
    rotate_left
    · intro w'
      go_simp
      with_reducible rfl
    rotate_left
    · simp only [Act.put, List.setIfInBounds_toArray, List.set_cons_zero, List.set_cons_succ, i64_w, i32_w]
      rfl
    refine pure_ (i := 3) (N := some 23) (v := ?_) (a' := ?_) #[true, true, true, true, false, false, false, false, false, false, false, false, false, false, false, false, false, false, false, false, false, false, false, false, false, false, false, false, false, false, false, false, false] rfl rfl (any_of HT_.out (by kernel_rfl)) (fun _ _ _ h => h) (Or.inl ⟨by rfl, ?_⟩) ?_ ?_
    rotate_left
    · intro w'
      go_simp
      with_reducible rfl
    rotate_left
    · simp only [Act.put, List.setIfInBounds_toArray, List.set_cons_zero, List.set_cons_succ, i64_w, i32_w]
      rfl
    refine pure_ (i := 4) (N := some 24) (v := ?_) (a' := ?_) #[true, true, true, true, true, false, false, false, false, false, false, false, false, false, false, false, false, false, false, false, false, false, false, false, false, false, false, false, false, false, false, false, false] rfl rfl (any_of HT_.out (by kernel_rfl)) (fun _ _ _ h => h) (Or.inl ⟨by rfl, ?_⟩) ?_ ?_
    rotate_left
    · intro w'
      go_simp
      with_reducible rfl
    rotate_left
    · simp only [Act.put, List.setIfInBounds_toArray, List.set_cons_zero, List.set_cons_succ, i64_w, i32_w]
      rfl
    refine pure_ (i := 5) (N := some 25) (v := ?_) (a' := ?_) #[true, true, true, true, true, true, false, false, false, false, false, false, false, false, false, false, false, false, false, false, false, false, false, false, false, false, false, false, false, false, false, false, false] rfl rfl (any_of HT_.out (by kernel_rfl)) (fun _ _ _ h => h) (Or.inl ⟨by rfl, ?_⟩) ?_ ?_
    rotate_left
    · intro w'
      go_simp
      with_reducible rfl
    rotate_left
    · simp only [Act.put, List.setIfInBounds_toArray, List.set_cons_zero, List.set_cons_succ, i64_w, i32_w]
      rfl
    refine pure_ (i := 7) (N := some 27) (v := ?_) (a' := ?_) #[true, true, true, true, true, true, false, true, false, false, false, false, false, false, false, false, false, false, false, false, false, false, false, false, false, false, false, false, false, false, false, false, false] rfl rfl (any_of HT_.out (by kernel_rfl)) (fun _ _ _ h => h) (Or.inl ⟨by rfl, ?_⟩) ?_ ?_
    rotate_left
    · intro w'
      go_simp
      with_reducible rfl
    rotate_left
    · simp only [Act.put, List.setIfInBounds_toArray, List.set_cons_zero, List.set_cons_succ, i64_w, i32_w]
      rfl
    refine pure_ (i := 10) (N := some 30) (v := ?_) (a' := ?_) #[true, true, true, true, true, true, false, true, false, false, true, false, false, false, false, false, false, false, false, false, false, false, false, false, false, false, false, false, false, false, false, false, false] rfl rfl (any_of HT_.out (by kernel_rfl)) (fun _ _ _ h => h) (Or.inl ⟨by rfl, ?_⟩) ?_ ?_
    rotate_left
    · intro w'
      go_simp
      with_reducible rfl
    rotate_left
    · simp only [Act.put, List.setIfInBounds_toArray, List.set_cons_zero, List.set_cons_succ, i64_w, i32_w]
      rfl
    refine pure_ (i := 11) (N := some 31) (v := ?_) (a' := ?_) #[true, true, true, true, true, true, false, true, false, false, true, true, false, false, false, false, false, false, false, false, false, false, false, false, false, false, false, false, false, false, false, false, false] rfl rfl (any_of HT_.out (by kernel_rfl)) (fun _ _ _ h => h) (Or.inl ⟨by rfl, ?_⟩) ?_ ?_
    rotate_left
    · intro w'
      go_simp
      with_reducible rfl
    rotate_left
    · simp only [Act.put, List.setIfInBounds_toArray, List.set_cons_zero, List.set_cons_succ, i64_w, i32_w]
      rfl
    refine pure_ (i := 12) (N := some 32) (v := ?_) (a' := ?_) #[true, true, true, true, true, true, false, true, false, false, true, true, true, false, false, false, false, false, false, false, false, false, false, false, false, false, false, false, false, false, false, false, false] rfl rfl (any_of HT_.out (by kernel_rfl)) (fun _ _ _ h => h) (Or.inl ⟨by rfl, ?_⟩) ?_ ?_
    rotate_left
    · intro w'
      go_simp
      with_reducible rfl
    rotate_left
    · simp only [Act.put, List.setIfInBounds_toArray, List.set_cons_zero, List.set_cons_succ, i64_w, i32_w]
      rfl
    refine pure_ (i := 14) (N := some 34) (v := ?_) (a' := ?_) #[true, true, true, true, true, true, false, true, false, false, true, true, true, false, true, false, false, false, false, false, false, false, false, false, false, false, false, false, false, false, false, false, false] rfl rfl (any_of HT_.out (by kernel_rfl)) (fun _ _ _ h => h) (Or.inl ⟨by rfl, ?_⟩) ?_ ?_
    rotate_left
    · intro w'
      go_simp
      with_reducible rfl
    rotate_left
    · simp only [Act.put, List.setIfInBounds_toArray, List.set_cons_zero, List.set_cons_succ, i64_w, i32_w]
      rfl
    refine pure_ (i := 17) (N := some 37) (v := ?_) (a' := ?_) #[true, true, true, true, true, true, false, true, false, false, true, true, true, false, true, false, false, true, false, false, false, false, false, false, false, false, false, false, false, false, false, false, false] rfl rfl (any_of HT_.out (by kernel_rfl)) (fun _ _ _ h => h) (Or.inl ⟨by rfl, ?_⟩) ?_ ?_
    rotate_left
    · intro w'
      go_simp
      with_reducible rfl
    rotate_left
    · simp only [Act.put, List.setIfInBounds_toArray, List.set_cons_zero, List.set_cons_succ, i64_w, i32_w]
      rfl
    refine pure_ (i := 18) (N := some 38) (v := ?_) (a' := ?_) #[true, true, true, true, true, true, false, true, false, false, true, true, true, false, true, false, false, true, true, false, false, false, false, false, false, false, false, false, false, false, false, false, false] rfl rfl (any_of HT_.out (by kernel_rfl)) (fun _ _ _ h => h) (Or.inl ⟨by rfl, ?_⟩) ?_ ?_
    rotate_left
    · intro w'
      go_simp
      with_reducible rfl
    rotate_left
    · simp only [Act.put, List.setIfInBounds_toArray, List.set_cons_zero, List.set_cons_succ, i64_w, i32_w]
      rfl
    refine pure_ (i := 19) (N := some 39) (v := ?_) (a' := ?_) #[true, true, true, true, true, true, false, true, false, false, true, true, true, false, true, false, false, true, true, true, false, false, false, false, false, false, false, false, false, false, false, false, false] rfl rfl (any_of HT_.out (by kernel_rfl)) (fun _ _ _ h => h) (Or.inl ⟨by rfl, ?_⟩) ?_ ?_
    rotate_left
    · intro w'
      go_simp
      with_reducible rfl
    rotate_left
    · simp only [Act.put, List.setIfInBounds_toArray, List.set_cons_zero, List.set_cons_succ, i64_w, i32_w]
      rfl
    refine pure_ (i := 21) (N := some 41) (v := ?_) (a' := ?_) #[true, true, true, true, true, true, false, true, false, false, true, true, true, false, true, false, false, true, true, true, false, true, false, false, false, false, false, false, false, false, false, false, false] rfl rfl (any_of HT_.out (by kernel_rfl)) (fun _ _ _ h => h) (Or.inl ⟨by rfl, ?_⟩) ?_ ?_
    rotate_left
    · intro w'
      go_simp
      with_reducible rfl
    rotate_left
    · simp only [Act.put, List.setIfInBounds_toArray, List.set_cons_zero, List.set_cons_succ, i64_w, i32_w]
      rfl
    refine inv_at [6, 8, 9, 13, 15, 16, 20, 22, 23, 24, 25, 26, 27, 28, 29, 30, 31, 32] (fun a0_ b a w' => ∃ (k8 : Nat) (k15 : Nat) (k22 : Nat) (v9 : Value) (v16 : Value) (v23 : Value) (m8_ : Value) (m15_ : Value) (m22_ : Value), a = putSel a0_ b [(6, 26, u1), (8, 28, m8_), (9, 29, v9), (13, 33, u2), (15, 35, m15_), (16, 36, v16), (20, 40, u3), (22, 42, m22_), (23, 43, v23), (24, 44, .pointer (some ⟨g, 0, none⟩)), (25, 45, .pointer (some ⟨g, 0, none⟩)), (27, 46, .pointer (some ⟨g, 0, none⟩)), (28, 47, .pointer (some ⟨g, 1, none⟩)), (30, 48, .pointer (some ⟨g, 0, none⟩)), (31, 49, .pointer (some ⟨g, 2, none⟩))] ∧ (Below w0.heap.size w0 w') ∧ (Kept w w' (fun k => P0 k ∨ k = g)) ∧ (W1.heap.size ≤ w'.heap.size) ∧ (w'.heap[g7]? = some (.cells #[.slice A0 ns.length c0, .int .i64 room] 34 (0, 0)) ∧ w'.heap[g8]? = some (.cells #[.int .i64 cu, .int .i64 cg] 36 (0, 0))) ∧ (b 26 = false → w'.heap[g]? = some (.cells #[u1, u2, u3] 70 (0, 0))) ∧ (b 26 = true → b 29 = false → w'.heap[g]? = some (.cells #[v9, u2, u3] 70 (0, 0))) ∧ (b 29 = true → b 32 = false → w'.heap[g]? = some (.cells #[v9, v16, u3] 70 (0, 0))) ∧ (b 32 = true → w'.heap[g]? = some (.cells #[v9, v16, v23] 70 (0, 0))) ∧ (b 9 = false → Kd.R (Kd.int .i64) 3 w' w0.heap.size P1 u1 (acc.map (·.1))) ∧ (b 9 = true → Kd.R (Kd.int .i64) 3 w' w0.heap.size P1 v9 (acc.map (·.1) ++ [above])) ∧ (b 16 = false → Kd.R Kd.string 9 w' w0.heap.size P1 u2 (acc.map (·.2.1))) ∧ (b 16 = true → Kd.R Kd.string 9 w' w0.heap.size P1 v16 (acc.map (·.2.1) ++ [p])) ∧ (b 23 = false → Kd.R (Kd.int .i64) 3 w' w0.heap.size P1 u3 (acc.map (·.2.2))) ∧ (b 23 = true → Kd.R (Kd.int .i64) 3 w' w0.heap.size P1 v23 (acc.map (·.2.2) ++ [x])) ∧ (b 8 = true → b 9 = false → w'.heap[k8]? = some (.cells #[.int .i64 above] 3 (0, 0)) ∧ W1.heap.size ≤ k8) ∧ (b 15 = true → b 16 = false → w'.heap[k15]? = some (.cells #[.string p] 9 (0, 0)) ∧ W1.heap.size ≤ k15) ∧ (b 22 = true → b 23 = false → w'.heap[k22]? = some (.cells #[.int .i64 x] 3 (0, 0)) ∧ W1.heap.size ≤ k22) ∧ (b 9 = true → Sep v9 u2 ∧ Sep v9 u3) ∧ (b 16 = true → Sep v16 u3 ∧ Sep v9 v16) ∧ (b 23 = true → Sep v9 v23 ∧ Sep v16 v23) ∧ (b 8 = true → (m8_ : Value) = .slice (some ⟨k8, 0, none⟩) 1 1) ∧ (b 15 = true → (m15_ : Value) = .slice (some ⟨k15, 0, none⟩) 1 1) ∧ (b 22 = true → (m22_ : Value) = .slice (some ⟨k22, 0, none⟩) 1 1)) HT_.out HW_.out (by kernel_rfl) (by kernel_rfl) ?_ ?_ ?_
    · exact ⟨0, 0, 0, .bool false, .bool false, .bool false, .bool false, .bool false, .bool false, by simp only [putSel, Bool.false_eq_true, if_false], below_drew1 BEL.out, KEP.out.drew, Nat.le_refl _, ⟨blk_drew BKF.out.1, blk_drew BKF.out.2⟩, fun _ => blk_drew BOX0.out, fun h_ => absurd h_ (by decide), fun h_ => absurd h_ (by decide), fun h_ => absurd h_ (by decide), fun _ => Kd.R_below RA0.out (below_drew1 (Below.refl _ _)), fun h_ => absurd h_ (by decide), fun _ => Kd.R_below RB0.out (below_drew1 (Below.refl _ _)), fun h_ => absurd h_ (by decide), fun _ => Kd.R_below RC0.out (below_drew1 (Below.refl _ _)), fun h_ => absurd h_ (by decide), fun h_ => absurd h_ (by decide), fun h_ => absurd h_ (by decide), fun h_ => absurd h_ (by decide), fun h_ => absurd h_ (by decide), fun h_ => absurd h_ (by decide), fun h_ => absurd h_ (by decide), fun h_ => absurd h_ (by decide), fun h_ => absurd h_ (by decide), fun h_ => absurd h_ (by decide)⟩
    · skip
      clear BEL BKF BOX0 KEP RA0 RB0 RC0 SIZ
      refine steps_cons ?_ ?_
      · rintro b a w' ⟨k8, k15, k22, v9, v16, v23, m8_, m15_, m22_, ha, Q_BEL, Q_KEP, Q_SIZ, Q_BKF, Q_BOX0, Q_BOX1, Q_BOX2, Q_BOX3, Q_RA0, Q_RA1, Q_RB0, Q_RB1, Q_RC0, Q_RC1, Q_L8, Q_L15, Q_L22, Q_N9, Q_N16, Q_N23, Q_X8_, Q_X15_, Q_X22_⟩ hb_ hon hoff
        refine ⟨_, rfl, fun K hK => ?_⟩
        have e25 : a.tmps[25]? = some (.pointer (some ⟨g, 0, none⟩)) := by rw [ha]; exact (putSel_off rfl).trans rfl
        replace ha := Aside0.mk ha
        have BEL := Aside0.mk Q_BEL
        have KEP := Aside0.mk Q_KEP
        have SIZ := Aside0.mk Q_SIZ
        have BKF := Aside0.mk Q_BKF
        have BOX0 := Aside0.mk (Q_BOX0 (hoff 26 (by kernel_rfl)))
        have RA0 := Aside0.mk (Q_RA0 (hoff 9 (by kernel_rfl)))
        have RB0 := Aside0.mk (Q_RB0 (hoff 16 (by kernel_rfl)))
        have RC0 := Aside0.mk (Q_RC0 (hoff 23 (by kernel_rfl)))
        have c_ : w'.cell? ⟨g, 0, none⟩ = some (u1) := (blk_cell BOX0.out 0).trans rfl
        refine value_ (w1 := w') (v := u1) (by rfl) rfl ?_ ?_
        · go_simp
          (try simp only [i64_w])
          try rfl
        refine hK.out _ _ ⟨k8, k15, k22, v9, v16, v23, m8_, m15_, m22_, (by rw [ha.out]; exact putSel_upk 0 hb_ rfl rfl rfl), Q_BEL, Q_KEP, Q_SIZ, Q_BKF, Q_BOX0, fun h0_ _ => absurd ((hoff 26 (by kernel_rfl)).symm.trans h0_) (by decide), fun h0_ _ => absurd ((hoff 29 (by kernel_rfl)).symm.trans h0_) (by decide), fun h0_ => absurd ((hoff 32 (by kernel_rfl)).symm.trans h0_) (by decide), Q_RA0, fun h0_ => absurd ((hoff 9 (by kernel_rfl)).symm.trans h0_) (by decide), Q_RB0, fun h0_ => absurd ((hoff 16 (by kernel_rfl)).symm.trans h0_) (by decide), Q_RC0, fun h0_ => absurd ((hoff 23 (by kernel_rfl)).symm.trans h0_) (by decide), Q_L8, Q_L15, Q_L22, fun h0_ => absurd ((hoff 9 (by kernel_rfl)).symm.trans h0_) (by decide), fun h0_ => absurd ((hoff 16 (by kernel_rfl)).symm.trans h0_) (by decide), fun h0_ => absurd ((hoff 23 (by kernel_rfl)).symm.trans h0_) (by decide), Q_X8_, Q_X15_, Q_X22_⟩
      refine steps_cons ?_ ?_
      · rintro b a w' ⟨k8, k15, k22, v9, v16, v23, m8_, m15_, m22_, ha, Q_BEL, Q_KEP, Q_SIZ, Q_BKF, Q_BOX0, Q_BOX1, Q_BOX2, Q_BOX3, Q_RA0, Q_RA1, Q_RB0, Q_RB1, Q_RC0, Q_RC1, Q_L8, Q_L15, Q_L22, Q_N9, Q_N16, Q_N23, Q_X8_, Q_X15_, Q_X22_⟩ hb_ hon hoff
        refine ⟨_, rfl, fun K hK => ?_⟩
        have e27 : a.tmps[27]? = some (.int .i64 above) := by rw [ha]; exact (putSel_off rfl).trans rfl
        replace ha := Aside0.mk ha
        have BEL := Aside0.mk Q_BEL
        have KEP := Aside0.mk Q_KEP
        have SIZ := Aside0.mk Q_SIZ
        have BKF := Aside0.mk Q_BKF
        have BOX0 := Aside0.mk (Q_BOX0 (hoff 26 (by kernel_rfl)))
        have RA0 := Aside0.mk (Q_RA0 (hoff 9 (by kernel_rfl)))
        have RB0 := Aside0.mk (Q_RB0 (hoff 16 (by kernel_rfl)))
        have RC0 := Aside0.mk (Q_RC0 (hoff 23 (by kernel_rfl)))
        refine value_ (w1 := w'.alloc (.cells #[.int .i64 above] 3 (0, 0))) (v := .slice (some ⟨w'.heap.size, 0, none⟩) 1 1) (by rfl) rfl ?_ ?_
        · go_simp
          try rfl
        refine hK.out _ _ ⟨w'.heap.size, k15, k22, v9, v16, v23, (.slice (some ⟨w'.heap.size, 0, none⟩) 1 1), m15_, m22_, (by rw [ha.out]; exact putSel_upk 1 hb_ rfl rfl rfl), below_alloc BEL.out _, KEP.out.alloc _, Nat.le_trans SIZ.out (Below.size (below_alloc (Below.refl _ _) _)), ⟨blk_alloc BKF.out.1 _, blk_alloc BKF.out.2 _⟩, fun _ => blk_alloc BOX0.out _, fun h0_ _ => absurd ((hoff 26 (by kernel_rfl)).symm.trans h0_) (by decide), fun h0_ _ => absurd ((hoff 29 (by kernel_rfl)).symm.trans h0_) (by decide), fun h0_ => absurd ((hoff 32 (by kernel_rfl)).symm.trans h0_) (by decide), fun _ => Kd.R_below RA0.out (below_alloc (Below.refl _ _) _), fun h0_ => absurd ((hoff 9 (by kernel_rfl)).symm.trans h0_) (by decide), fun _ => Kd.R_below RB0.out (below_alloc (Below.refl _ _) _), fun h0_ => absurd ((hoff 16 (by kernel_rfl)).symm.trans h0_) (by decide), fun _ => Kd.R_below RC0.out (below_alloc (Below.refl _ _) _), fun h0_ => absurd ((hoff 23 (by kernel_rfl)).symm.trans h0_) (by decide), fun _ _ => ⟨blk_new w' _, SIZ.out⟩, fun h0_ h1_ => ⟨blk_alloc (Q_L15 h0_ h1_).1 _, (Q_L15 h0_ h1_).2⟩, fun h0_ h1_ => ⟨blk_alloc (Q_L22 h0_ h1_).1 _, (Q_L22 h0_ h1_).2⟩, fun h0_ => absurd ((hoff 9 (by kernel_rfl)).symm.trans h0_) (by decide), fun h0_ => absurd ((hoff 16 (by kernel_rfl)).symm.trans h0_) (by decide), fun h0_ => absurd ((hoff 23 (by kernel_rfl)).symm.trans h0_) (by decide), fun _ => rfl, Q_X15_, Q_X22_⟩
      refine steps_cons ?_ ?_
      · rintro b a w' ⟨k8, k15, k22, v9, v16, v23, m8_, m15_, m22_, ha, Q_BEL, Q_KEP, Q_SIZ, Q_BKF, Q_BOX0, Q_BOX1, Q_BOX2, Q_BOX3, Q_RA0, Q_RA1, Q_RB0, Q_RB1, Q_RC0, Q_RC1, Q_L8, Q_L15, Q_L22, Q_N9, Q_N16, Q_N23, Q_X8_, Q_X15_, Q_X22_⟩ hb_ hon hoff
        refine ⟨_, rfl, fun K hK => ?_⟩
        have e26 : a.tmps[26]? = some (u1) := by rw [ha]; exact putSel_on (e := (6, 26, u1)) 0 rfl rfl (hon 6 (by kernel_rfl)) rfl
        have e28 : a.tmps[28]? = some (m8_) := by rw [ha]; exact putSel_on (e := (8, 28, m8_)) 1 rfl rfl (hon 8 (by kernel_rfl)) rfl
        rw [Q_X8_ (hon 8 (by kernel_rfl))] at e28
        replace ha := Aside0.mk ha
        have BEL := Aside0.mk Q_BEL
        have KEP := Aside0.mk Q_KEP
        have SIZ := Aside0.mk Q_SIZ
        have BKF := Aside0.mk Q_BKF
        have BOX0 := Aside0.mk (Q_BOX0 (hoff 26 (by kernel_rfl)))
        have RA0 := Aside0.mk (Q_RA0 hb_)
        have RB0 := Aside0.mk (Q_RB0 (hoff 16 (by kernel_rfl)))
        have RC0 := Aside0.mk (Q_RC0 (hoff 23 (by kernel_rfl)))
        have L8 := Aside0.mk (Q_L8 (hon 8 (by kernel_rfl)) hb_)
        refine Kd.R_append_rows_step (Kd.int .i64) (w0 := w0) w0.heap.size (by rfl) (.tmp 26) (.tmp 28) 28 3 (.int .i64 0) 8 rfl Tryz.underlying28 intInfoW rfl (by decide) (by decide) u1 (acc.map (·.1)) [above] (some ⟨k8, 0, none⟩) 1 1 P1 (fun _ => False) (eval_of e26) (eval_of e28) RA0.out (C_one (Value.int .i64) L8.out.1) (fun _ _ h => h) (fun _ h => h.elim) (fun k hk => HF1.out k (Nat.le_trans SIZ.out hk)) BEL.out BEL.out.size ?hl ?_
        case hl => have h := HLN.out; simp only [List.length_map]; omega
        intro v9_ w9 ho9 hb9 hg9 hat9
        refine hK.out _ _ ⟨k8, k15, k22, v9_, v16, v23, m8_, m15_, m22_, (by rw [ha.out]; exact putSel_upk 2 hb_ rfl rfl rfl), hb9, Kept.of_grown hg9 KEP.out (fun k hk => .inl (.inl (HU1.out.1 k hk))), Nat.le_trans SIZ.out hg9.size, ⟨(hg9.block g7 (blk_lt BKF.out.1) (fun e => HUG1.out.1 e.symm)).trans BKF.out.1, (hg9.block g8 (blk_lt BKF.out.2) (fun e => HUG1.out.2 e.symm)).trans BKF.out.2⟩, fun _ => (hg9.block g (blk_lt BOX0.out) (fun e => HP.out (HU1.out.1 g e.symm))).trans BOX0.out, fun h0_ _ => absurd ((hoff 26 (by kernel_rfl)).symm.trans h0_) (by decide), fun h0_ _ => absurd ((hoff 29 (by kernel_rfl)).symm.trans h0_) (by decide), fun h0_ => absurd ((hoff 32 (by kernel_rfl)).symm.trans h0_) (by decide), fun h0_ => absurd ((up_self b 9).symm.trans h0_) (by decide), fun _ => ho9, fun _ => Kd.R_growF RB0.out hg9 HS12.out.symm, fun h0_ => absurd ((hoff 16 (by kernel_rfl)).symm.trans h0_) (by decide), fun _ => Kd.R_growF RC0.out hg9 HS13.out.symm, fun h0_ => absurd ((hoff 23 (by kernel_rfl)).symm.trans h0_) (by decide), fun _ h1_ => absurd ((up_self b 9).symm.trans h1_) (by decide), fun h0_ h1_ => ⟨(hg9.block _ (blk_lt (Q_L15 h0_ h1_).1) (fun e => Nat.not_lt.mpr (Q_L15 h0_ h1_).2 (HU1.out.2 _ e.symm))).trans (Q_L15 h0_ h1_).1, (Q_L15 h0_ h1_).2⟩, fun h0_ h1_ => ⟨(hg9.block _ (blk_lt (Q_L22 h0_ h1_).1) (fun e => Nat.not_lt.mpr (Q_L22 h0_ h1_).2 (HU1.out.2 _ e.symm))).trans (Q_L22 h0_ h1_).1, (Q_L22 h0_ h1_).2⟩, fun _ => ⟨hat9.elim (fun e => Sep.of_eq e HS12.out) (fun ⟨b, hb, hle⟩ => Sep.of_new hb (fun k hk => Nat.lt_of_lt_of_le (HU2.out.2 k hk) (Nat.le_trans SIZ.out hle))), hat9.elim (fun e => Sep.of_eq e HS13.out) (fun ⟨b, hb, hle⟩ => Sep.of_new hb (fun k hk => Nat.lt_of_lt_of_le (HU3.out.2 k hk) (Nat.le_trans SIZ.out hle)))⟩, fun h0_ => absurd ((hoff 16 (by kernel_rfl)).symm.trans h0_) (by decide), fun h0_ => absurd ((hoff 23 (by kernel_rfl)).symm.trans h0_) (by decide), Q_X8_, Q_X15_, Q_X22_⟩
      refine steps_cons ?_ ?_
      · rintro b a w' ⟨k8, k15, k22, v9, v16, v23, m8_, m15_, m22_, ha, Q_BEL, Q_KEP, Q_SIZ, Q_BKF, Q_BOX0, Q_BOX1, Q_BOX2, Q_BOX3, Q_RA0, Q_RA1, Q_RB0, Q_RB1, Q_RC0, Q_RC1, Q_L8, Q_L15, Q_L22, Q_N9, Q_N16, Q_N23, Q_X8_, Q_X15_, Q_X22_⟩ hb_ hon hoff
        refine ⟨_, rfl, fun K hK => ?_⟩
        have e32 : a.tmps[32]? = some (.pointer (some ⟨g, 1, none⟩)) := by rw [ha]; exact (putSel_off rfl).trans rfl
        replace ha := Aside0.mk ha
        have BEL := Aside0.mk Q_BEL
        have KEP := Aside0.mk Q_KEP
        have SIZ := Aside0.mk Q_SIZ
        have BKF := Aside0.mk Q_BKF
        have BOX0 := Aside0.mk (Q_BOX0 (hoff 26 (by kernel_rfl)))
        have RB0 := Aside0.mk (Q_RB0 (hoff 16 (by kernel_rfl)))
        have RC0 := Aside0.mk (Q_RC0 (hoff 23 (by kernel_rfl)))
        have c_ : w'.cell? ⟨g, 1, none⟩ = some (u2) := (blk_cell BOX0.out 1).trans rfl
        refine value_ (w1 := w') (v := u2) (by rfl) rfl ?_ ?_
        · go_simp
          (try simp only [i64_w])
          try rfl
        refine hK.out _ _ ⟨k8, k15, k22, v9, v16, v23, m8_, m15_, m22_, (by rw [ha.out]; exact putSel_upk 3 hb_ rfl rfl rfl), Q_BEL, Q_KEP, Q_SIZ, Q_BKF, Q_BOX0, fun h0_ _ => absurd ((hoff 26 (by kernel_rfl)).symm.trans h0_) (by decide), fun h0_ _ => absurd ((hoff 29 (by kernel_rfl)).symm.trans h0_) (by decide), fun h0_ => absurd ((hoff 32 (by kernel_rfl)).symm.trans h0_) (by decide), Q_RA0, Q_RA1, Q_RB0, fun h0_ => absurd ((hoff 16 (by kernel_rfl)).symm.trans h0_) (by decide), Q_RC0, fun h0_ => absurd ((hoff 23 (by kernel_rfl)).symm.trans h0_) (by decide), Q_L8, Q_L15, Q_L22, Q_N9, fun h0_ => absurd ((hoff 16 (by kernel_rfl)).symm.trans h0_) (by decide), fun h0_ => absurd ((hoff 23 (by kernel_rfl)).symm.trans h0_) (by decide), Q_X8_, Q_X15_, Q_X22_⟩
      refine steps_cons ?_ ?_
      · rintro b a w' ⟨k8, k15, k22, v9, v16, v23, m8_, m15_, m22_, ha, Q_BEL, Q_KEP, Q_SIZ, Q_BKF, Q_BOX0, Q_BOX1, Q_BOX2, Q_BOX3, Q_RA0, Q_RA1, Q_RB0, Q_RB1, Q_RC0, Q_RC1, Q_L8, Q_L15, Q_L22, Q_N9, Q_N16, Q_N23, Q_X8_, Q_X15_, Q_X22_⟩ hb_ hon hoff
        refine ⟨_, rfl, fun K hK => ?_⟩
        have e34 : a.tmps[34]? = some (.string p) := by rw [ha]; exact (putSel_off rfl).trans rfl
        replace ha := Aside0.mk ha
        have BEL := Aside0.mk Q_BEL
        have KEP := Aside0.mk Q_KEP
        have SIZ := Aside0.mk Q_SIZ
        have BKF := Aside0.mk Q_BKF
        have BOX0 := Aside0.mk (Q_BOX0 (hoff 26 (by kernel_rfl)))
        have RB0 := Aside0.mk (Q_RB0 (hoff 16 (by kernel_rfl)))
        have RC0 := Aside0.mk (Q_RC0 (hoff 23 (by kernel_rfl)))
        refine value_ (w1 := w'.alloc (.cells #[.string p] 9 (0, 0))) (v := .slice (some ⟨w'.heap.size, 0, none⟩) 1 1) (by rfl) rfl ?_ ?_
        · go_simp
          try rfl
        refine hK.out _ _ ⟨k8, w'.heap.size, k22, v9, v16, v23, m8_, (.slice (some ⟨w'.heap.size, 0, none⟩) 1 1), m22_, (by rw [ha.out]; exact putSel_upk 4 hb_ rfl rfl rfl), below_alloc BEL.out _, KEP.out.alloc _, Nat.le_trans SIZ.out (Below.size (below_alloc (Below.refl _ _) _)), ⟨blk_alloc BKF.out.1 _, blk_alloc BKF.out.2 _⟩, fun _ => blk_alloc BOX0.out _, fun h0_ _ => absurd ((hoff 26 (by kernel_rfl)).symm.trans h0_) (by decide), fun h0_ _ => absurd ((hoff 29 (by kernel_rfl)).symm.trans h0_) (by decide), fun h0_ => absurd ((hoff 32 (by kernel_rfl)).symm.trans h0_) (by decide), fun h0_ => Kd.R_below (Q_RA0 h0_) (below_alloc (Below.refl _ _) _), fun h0_ => Kd.R_below (Q_RA1 h0_) (below_alloc (Below.refl _ _) _), fun _ => Kd.R_below RB0.out (below_alloc (Below.refl _ _) _), fun h0_ => absurd ((hoff 16 (by kernel_rfl)).symm.trans h0_) (by decide), fun _ => Kd.R_below RC0.out (below_alloc (Below.refl _ _) _), fun h0_ => absurd ((hoff 23 (by kernel_rfl)).symm.trans h0_) (by decide), fun h0_ h1_ => ⟨blk_alloc (Q_L8 h0_ h1_).1 _, (Q_L8 h0_ h1_).2⟩, fun _ _ => ⟨blk_new w' _, SIZ.out⟩, fun h0_ h1_ => ⟨blk_alloc (Q_L22 h0_ h1_).1 _, (Q_L22 h0_ h1_).2⟩, Q_N9, fun h0_ => absurd ((hoff 16 (by kernel_rfl)).symm.trans h0_) (by decide), fun h0_ => absurd ((hoff 23 (by kernel_rfl)).symm.trans h0_) (by decide), Q_X8_, fun _ => rfl, Q_X22_⟩
      refine steps_cons ?_ ?_
      · rintro b a w' ⟨k8, k15, k22, v9, v16, v23, m8_, m15_, m22_, ha, Q_BEL, Q_KEP, Q_SIZ, Q_BKF, Q_BOX0, Q_BOX1, Q_BOX2, Q_BOX3, Q_RA0, Q_RA1, Q_RB0, Q_RB1, Q_RC0, Q_RC1, Q_L8, Q_L15, Q_L22, Q_N9, Q_N16, Q_N23, Q_X8_, Q_X15_, Q_X22_⟩ hb_ hon hoff
        refine ⟨_, rfl, fun K hK => ?_⟩
        have e33 : a.tmps[33]? = some (u2) := by rw [ha]; exact putSel_on (e := (13, 33, u2)) 3 rfl rfl (hon 13 (by kernel_rfl)) rfl
        have e35 : a.tmps[35]? = some (m15_) := by rw [ha]; exact putSel_on (e := (15, 35, m15_)) 4 rfl rfl (hon 15 (by kernel_rfl)) rfl
        rw [Q_X15_ (hon 15 (by kernel_rfl))] at e35
        replace ha := Aside0.mk ha
        have BEL := Aside0.mk Q_BEL
        have KEP := Aside0.mk Q_KEP
        have SIZ := Aside0.mk Q_SIZ
        have BKF := Aside0.mk Q_BKF
        have BOX0 := Aside0.mk (Q_BOX0 (hoff 26 (by kernel_rfl)))
        have RA1 := Aside0.mk (Q_RA1 (hon 9 (by kernel_rfl)))
        have RB0 := Aside0.mk (Q_RB0 hb_)
        have RC0 := Aside0.mk (Q_RC0 (hoff 23 (by kernel_rfl)))
        have L15 := Aside0.mk (Q_L15 (hon 15 (by kernel_rfl)) hb_)
        have N9 := Aside0.mk (Q_N9 (hon 9 (by kernel_rfl)))
        refine Kd.R_append_rows_step Kd.string (w0 := w0) w0.heap.size (by rfl) (.tmp 33) (.tmp 35) 29 9 (.string ⟨#[]⟩) 16 rfl Tryz.underlying29 strInfoW rfl (by decide) (by decide) u2 (acc.map (·.2.1)) [p] (some ⟨k15, 0, none⟩) 1 1 P1 (fun _ => False) (eval_of e33) (eval_of e35) RB0.out (C_one Value.string L15.out.1) (fun _ _ h => h) (fun _ h => h.elim) (fun k hk => HF1.out k (Nat.le_trans SIZ.out hk)) BEL.out BEL.out.size ?hl ?_
        case hl => have h := HLN.out; simp only [List.length_map]; omega
        intro v16_ w9 ho9 hb9 hg9 hat9
        refine hK.out _ _ ⟨k8, k15, k22, v9, v16_, v23, m8_, m15_, m22_, (by rw [ha.out]; exact putSel_upk 5 hb_ rfl rfl rfl), hb9, Kept.of_grown hg9 KEP.out (fun k hk => .inl (.inl (HU2.out.1 k hk))), Nat.le_trans SIZ.out hg9.size, ⟨(hg9.block g7 (blk_lt BKF.out.1) (fun e => HUG2.out.1 e.symm)).trans BKF.out.1, (hg9.block g8 (blk_lt BKF.out.2) (fun e => HUG2.out.2 e.symm)).trans BKF.out.2⟩, fun _ => (hg9.block g (blk_lt BOX0.out) (fun e => HP.out (HU2.out.1 g e.symm))).trans BOX0.out, fun h0_ _ => absurd ((hoff 26 (by kernel_rfl)).symm.trans h0_) (by decide), fun h0_ _ => absurd ((hoff 29 (by kernel_rfl)).symm.trans h0_) (by decide), fun h0_ => absurd ((hoff 32 (by kernel_rfl)).symm.trans h0_) (by decide), fun h0_ => absurd ((hon 9 (by kernel_rfl)).symm.trans h0_) (by decide), fun _ => Kd.R_growF RA1.out hg9 N9.out.1, fun h0_ => absurd ((up_self b 16).symm.trans h0_) (by decide), fun _ => ho9, fun _ => Kd.R_growF RC0.out hg9 HS23.out.symm, fun h0_ => absurd ((hoff 23 (by kernel_rfl)).symm.trans h0_) (by decide), fun _ h1_ => absurd ((hon 9 (by kernel_rfl)).symm.trans h1_) (by decide), fun _ h1_ => absurd ((up_self b 16).symm.trans h1_) (by decide), fun h0_ h1_ => ⟨(hg9.block _ (blk_lt (Q_L22 h0_ h1_).1) (fun e => Nat.not_lt.mpr (Q_L22 h0_ h1_).2 (HU2.out.2 _ e.symm))).trans (Q_L22 h0_ h1_).1, (Q_L22 h0_ h1_).2⟩, Q_N9, fun _ => ⟨hat9.elim (fun e => Sep.of_eq e HS23.out) (fun ⟨b, hb, hle⟩ => Sep.of_new hb (fun k hk => Nat.lt_of_lt_of_le (HU3.out.2 k hk) (Nat.le_trans SIZ.out hle))), hat9.elim (fun e => (Sep.of_eq e N9.out.1.symm).symm) (fun ⟨b, hb, hle⟩ => (Sep.of_new hb (fun k hk => Nat.lt_of_lt_of_le (Kd.R_lt RA1.out k hk) hle)).symm)⟩, fun h0_ => absurd ((hoff 23 (by kernel_rfl)).symm.trans h0_) (by decide), Q_X8_, Q_X15_, Q_X22_⟩
      refine steps_cons ?_ ?_
      · rintro b a w' ⟨k8, k15, k22, v9, v16, v23, m8_, m15_, m22_, ha, Q_BEL, Q_KEP, Q_SIZ, Q_BKF, Q_BOX0, Q_BOX1, Q_BOX2, Q_BOX3, Q_RA0, Q_RA1, Q_RB0, Q_RB1, Q_RC0, Q_RC1, Q_L8, Q_L15, Q_L22, Q_N9, Q_N16, Q_N23, Q_X8_, Q_X15_, Q_X22_⟩ hb_ hon hoff
        refine ⟨_, rfl, fun K hK => ?_⟩
        have e39 : a.tmps[39]? = some (.pointer (some ⟨g, 2, none⟩)) := by rw [ha]; exact (putSel_off rfl).trans rfl
        replace ha := Aside0.mk ha
        have BEL := Aside0.mk Q_BEL
        have KEP := Aside0.mk Q_KEP
        have SIZ := Aside0.mk Q_SIZ
        have BKF := Aside0.mk Q_BKF
        have BOX0 := Aside0.mk (Q_BOX0 (hoff 26 (by kernel_rfl)))
        have RC0 := Aside0.mk (Q_RC0 (hoff 23 (by kernel_rfl)))
        have c_ : w'.cell? ⟨g, 2, none⟩ = some (u3) := (blk_cell BOX0.out 2).trans rfl
        refine value_ (w1 := w') (v := u3) (by rfl) rfl ?_ ?_
        · go_simp
          (try simp only [i64_w])
          try rfl
        refine hK.out _ _ ⟨k8, k15, k22, v9, v16, v23, m8_, m15_, m22_, (by rw [ha.out]; exact putSel_upk 6 hb_ rfl rfl rfl), Q_BEL, Q_KEP, Q_SIZ, Q_BKF, Q_BOX0, fun h0_ _ => absurd ((hoff 26 (by kernel_rfl)).symm.trans h0_) (by decide), fun h0_ _ => absurd ((hoff 29 (by kernel_rfl)).symm.trans h0_) (by decide), fun h0_ => absurd ((hoff 32 (by kernel_rfl)).symm.trans h0_) (by decide), Q_RA0, Q_RA1, Q_RB0, Q_RB1, Q_RC0, fun h0_ => absurd ((hoff 23 (by kernel_rfl)).symm.trans h0_) (by decide), Q_L8, Q_L15, Q_L22, Q_N9, Q_N16, fun h0_ => absurd ((hoff 23 (by kernel_rfl)).symm.trans h0_) (by decide), Q_X8_, Q_X15_, Q_X22_⟩
      refine steps_cons ?_ ?_
      · rintro b a w' ⟨k8, k15, k22, v9, v16, v23, m8_, m15_, m22_, ha, Q_BEL, Q_KEP, Q_SIZ, Q_BKF, Q_BOX0, Q_BOX1, Q_BOX2, Q_BOX3, Q_RA0, Q_RA1, Q_RB0, Q_RB1, Q_RC0, Q_RC1, Q_L8, Q_L15, Q_L22, Q_N9, Q_N16, Q_N23, Q_X8_, Q_X15_, Q_X22_⟩ hb_ hon hoff
        refine ⟨_, rfl, fun K hK => ?_⟩
        have e41 : a.tmps[41]? = some (.int .i64 x) := by rw [ha]; exact (putSel_off rfl).trans rfl
        replace ha := Aside0.mk ha
        have BEL := Aside0.mk Q_BEL
        have KEP := Aside0.mk Q_KEP
        have SIZ := Aside0.mk Q_SIZ
        have BKF := Aside0.mk Q_BKF
        have BOX0 := Aside0.mk (Q_BOX0 (hoff 26 (by kernel_rfl)))
        have RC0 := Aside0.mk (Q_RC0 (hoff 23 (by kernel_rfl)))
        refine value_ (w1 := w'.alloc (.cells #[.int .i64 x] 3 (0, 0))) (v := .slice (some ⟨w'.heap.size, 0, none⟩) 1 1) (by rfl) rfl ?_ ?_
        · go_simp
          try rfl
        refine hK.out _ _ ⟨k8, k15, w'.heap.size, v9, v16, v23, m8_, m15_, (.slice (some ⟨w'.heap.size, 0, none⟩) 1 1), (by rw [ha.out]; exact putSel_upk 7 hb_ rfl rfl rfl), below_alloc BEL.out _, KEP.out.alloc _, Nat.le_trans SIZ.out (Below.size (below_alloc (Below.refl _ _) _)), ⟨blk_alloc BKF.out.1 _, blk_alloc BKF.out.2 _⟩, fun _ => blk_alloc BOX0.out _, fun h0_ _ => absurd ((hoff 26 (by kernel_rfl)).symm.trans h0_) (by decide), fun h0_ _ => absurd ((hoff 29 (by kernel_rfl)).symm.trans h0_) (by decide), fun h0_ => absurd ((hoff 32 (by kernel_rfl)).symm.trans h0_) (by decide), fun h0_ => Kd.R_below (Q_RA0 h0_) (below_alloc (Below.refl _ _) _), fun h0_ => Kd.R_below (Q_RA1 h0_) (below_alloc (Below.refl _ _) _), fun h0_ => Kd.R_below (Q_RB0 h0_) (below_alloc (Below.refl _ _) _), fun h0_ => Kd.R_below (Q_RB1 h0_) (below_alloc (Below.refl _ _) _), fun _ => Kd.R_below RC0.out (below_alloc (Below.refl _ _) _), fun h0_ => absurd ((hoff 23 (by kernel_rfl)).symm.trans h0_) (by decide), fun h0_ h1_ => ⟨blk_alloc (Q_L8 h0_ h1_).1 _, (Q_L8 h0_ h1_).2⟩, fun h0_ h1_ => ⟨blk_alloc (Q_L15 h0_ h1_).1 _, (Q_L15 h0_ h1_).2⟩, fun _ _ => ⟨blk_new w' _, SIZ.out⟩, Q_N9, Q_N16, fun h0_ => absurd ((hoff 23 (by kernel_rfl)).symm.trans h0_) (by decide), Q_X8_, Q_X15_, fun _ => rfl⟩
      refine steps_cons ?_ ?_
      · rintro b a w' ⟨k8, k15, k22, v9, v16, v23, m8_, m15_, m22_, ha, Q_BEL, Q_KEP, Q_SIZ, Q_BKF, Q_BOX0, Q_BOX1, Q_BOX2, Q_BOX3, Q_RA0, Q_RA1, Q_RB0, Q_RB1, Q_RC0, Q_RC1, Q_L8, Q_L15, Q_L22, Q_N9, Q_N16, Q_N23, Q_X8_, Q_X15_, Q_X22_⟩ hb_ hon hoff
        refine ⟨_, rfl, fun K hK => ?_⟩
        have e40 : a.tmps[40]? = some (u3) := by rw [ha]; exact putSel_on (e := (20, 40, u3)) 6 rfl rfl (hon 20 (by kernel_rfl)) rfl
        have e42 : a.tmps[42]? = some (m22_) := by rw [ha]; exact putSel_on (e := (22, 42, m22_)) 7 rfl rfl (hon 22 (by kernel_rfl)) rfl
        rw [Q_X22_ (hon 22 (by kernel_rfl))] at e42
        replace ha := Aside0.mk ha
        have BEL := Aside0.mk Q_BEL
        have KEP := Aside0.mk Q_KEP
        have SIZ := Aside0.mk Q_SIZ
        have BKF := Aside0.mk Q_BKF
        have BOX0 := Aside0.mk (Q_BOX0 (hoff 26 (by kernel_rfl)))
        have RA1 := Aside0.mk (Q_RA1 (hon 9 (by kernel_rfl)))
        have RB1 := Aside0.mk (Q_RB1 (hon 16 (by kernel_rfl)))
        have RC0 := Aside0.mk (Q_RC0 hb_)
        have L22 := Aside0.mk (Q_L22 (hon 22 (by kernel_rfl)) hb_)
        have N9 := Aside0.mk (Q_N9 (hon 9 (by kernel_rfl)))
        have N16 := Aside0.mk (Q_N16 (hon 16 (by kernel_rfl)))
        refine Kd.R_append_rows_step (Kd.int .i64) (w0 := w0) w0.heap.size (by rfl) (.tmp 40) (.tmp 42) 28 3 (.int .i64 0) 8 rfl Tryz.underlying28 intInfoW rfl (by decide) (by decide) u3 (acc.map (·.2.2)) [x] (some ⟨k22, 0, none⟩) 1 1 P1 (fun _ => False) (eval_of e40) (eval_of e42) RC0.out (C_one (Value.int .i64) L22.out.1) (fun _ _ h => h) (fun _ h => h.elim) (fun k hk => HF1.out k (Nat.le_trans SIZ.out hk)) BEL.out BEL.out.size ?hl ?_
        case hl => have h := HLN.out; simp only [List.length_map]; omega
        intro v23_ w9 ho9 hb9 hg9 hat9
        refine hK.out _ _ ⟨k8, k15, k22, v9, v16, v23_, m8_, m15_, m22_, (by rw [ha.out]; exact putSel_upk 8 hb_ rfl rfl rfl), hb9, Kept.of_grown hg9 KEP.out (fun k hk => .inl (.inl (HU3.out.1 k hk))), Nat.le_trans SIZ.out hg9.size, ⟨(hg9.block g7 (blk_lt BKF.out.1) (fun e => HUG3.out.1 e.symm)).trans BKF.out.1, (hg9.block g8 (blk_lt BKF.out.2) (fun e => HUG3.out.2 e.symm)).trans BKF.out.2⟩, fun _ => (hg9.block g (blk_lt BOX0.out) (fun e => HP.out (HU3.out.1 g e.symm))).trans BOX0.out, fun h0_ _ => absurd ((hoff 26 (by kernel_rfl)).symm.trans h0_) (by decide), fun h0_ _ => absurd ((hoff 29 (by kernel_rfl)).symm.trans h0_) (by decide), fun h0_ => absurd ((hoff 32 (by kernel_rfl)).symm.trans h0_) (by decide), fun h0_ => absurd ((hon 9 (by kernel_rfl)).symm.trans h0_) (by decide), fun _ => Kd.R_growF RA1.out hg9 N9.out.2, fun h0_ => absurd ((hon 16 (by kernel_rfl)).symm.trans h0_) (by decide), fun _ => Kd.R_growF RB1.out hg9 N16.out.1, fun h0_ => absurd ((up_self b 23).symm.trans h0_) (by decide), fun _ => ho9, fun _ h1_ => absurd ((hon 9 (by kernel_rfl)).symm.trans h1_) (by decide), fun _ h1_ => absurd ((hon 16 (by kernel_rfl)).symm.trans h1_) (by decide), fun _ h1_ => absurd ((up_self b 23).symm.trans h1_) (by decide), Q_N9, Q_N16, fun _ => ⟨hat9.elim (fun e => (Sep.of_eq e N9.out.2.symm).symm) (fun ⟨b, hb, hle⟩ => (Sep.of_new hb (fun k hk => Nat.lt_of_lt_of_le (Kd.R_lt RA1.out k hk) hle)).symm), hat9.elim (fun e => (Sep.of_eq e N16.out.1.symm).symm) (fun ⟨b, hb, hle⟩ => (Sep.of_new hb (fun k hk => Nat.lt_of_lt_of_le (Kd.R_lt RB1.out k hk) hle)).symm)⟩, Q_X8_, Q_X15_, Q_X22_⟩
      refine steps_cons ?_ ?_
      · rintro b a w' ⟨k8, k15, k22, v9, v16, v23, m8_, m15_, m22_, ha, Q_BEL, Q_KEP, Q_SIZ, Q_BKF, Q_BOX0, Q_BOX1, Q_BOX2, Q_BOX3, Q_RA0, Q_RA1, Q_RB0, Q_RB1, Q_RC0, Q_RC1, Q_L8, Q_L15, Q_L22, Q_N9, Q_N16, Q_N23, Q_X8_, Q_X15_, Q_X22_⟩ hb_ hon hoff
        refine ⟨_, rfl, fun K hK => ?_⟩
        have e20 : a.tmps[20]? = some (.pointer (some ⟨g, 0, none⟩)) := by rw [ha]; exact (putSel_off rfl).trans rfl
        replace ha := Aside0.mk ha
        have BEL := Aside0.mk Q_BEL
        have KEP := Aside0.mk Q_KEP
        have SIZ := Aside0.mk Q_SIZ
        have BKF := Aside0.mk Q_BKF
        have BOX0 := Aside0.mk (Q_BOX0 (hoff 26 (by kernel_rfl)))
        have RA1 := Aside0.mk (Q_RA1 (hon 9 (by kernel_rfl)))
        have RB1 := Aside0.mk (Q_RB1 (hon 16 (by kernel_rfl)))
        have RC1 := Aside0.mk (Q_RC1 (hon 23 (by kernel_rfl)))
        have N9 := Aside0.mk (Q_N9 (hon 9 (by kernel_rfl)))
        have N16 := Aside0.mk (Q_N16 (hon 16 (by kernel_rfl)))
        have N23 := Aside0.mk (Q_N23 (hon 23 (by kernel_rfl)))
        refine value_ (w1 := w') (v := .pointer (some ⟨g, 0, none⟩)) (by rfl) rfl ?_ ?_
        · go_simp
          (try simp only [i64_w])
          try rfl
        refine hK.out _ _ ⟨k8, k15, k22, v9, v16, v23, m8_, m15_, m22_, (by rw [ha.out]; exact putSel_upk 9 hb_ rfl rfl rfl), Q_BEL, Q_KEP, Q_SIZ, Q_BKF, Q_BOX0, fun h0_ _ => absurd ((hoff 26 (by kernel_rfl)).symm.trans h0_) (by decide), fun h0_ _ => absurd ((hoff 29 (by kernel_rfl)).symm.trans h0_) (by decide), fun h0_ => absurd ((hoff 32 (by kernel_rfl)).symm.trans h0_) (by decide), fun h0_ => absurd ((hon 9 (by kernel_rfl)).symm.trans h0_) (by decide), Q_RA1, fun h0_ => absurd ((hon 16 (by kernel_rfl)).symm.trans h0_) (by decide), Q_RB1, fun h0_ => absurd ((hon 23 (by kernel_rfl)).symm.trans h0_) (by decide), Q_RC1, fun _ h1_ => absurd ((hon 9 (by kernel_rfl)).symm.trans h1_) (by decide), fun _ h1_ => absurd ((hon 16 (by kernel_rfl)).symm.trans h1_) (by decide), fun _ h1_ => absurd ((hon 23 (by kernel_rfl)).symm.trans h1_) (by decide), Q_N9, Q_N16, Q_N23, Q_X8_, Q_X15_, Q_X22_⟩
      refine steps_cons ?_ ?_
      · rintro b a w' ⟨k8, k15, k22, v9, v16, v23, m8_, m15_, m22_, ha, Q_BEL, Q_KEP, Q_SIZ, Q_BKF, Q_BOX0, Q_BOX1, Q_BOX2, Q_BOX3, Q_RA0, Q_RA1, Q_RB0, Q_RB1, Q_RC0, Q_RC1, Q_L8, Q_L15, Q_L22, Q_N9, Q_N16, Q_N23, Q_X8_, Q_X15_, Q_X22_⟩ hb_ hon hoff
        refine ⟨_, rfl, fun K hK => ?_⟩
        have e44 : a.tmps[44]? = some (.pointer (some ⟨g, 0, none⟩)) := by rw [ha]; exact putSel_on (e := (24, 44, .pointer (some ⟨g, 0, none⟩))) 9 rfl rfl (hon 24 (by kernel_rfl)) rfl
        replace ha := Aside0.mk ha
        have BEL := Aside0.mk Q_BEL
        have KEP := Aside0.mk Q_KEP
        have SIZ := Aside0.mk Q_SIZ
        have BKF := Aside0.mk Q_BKF
        have BOX0 := Aside0.mk (Q_BOX0 (hoff 26 (by kernel_rfl)))
        have RA1 := Aside0.mk (Q_RA1 (hon 9 (by kernel_rfl)))
        have RB1 := Aside0.mk (Q_RB1 (hon 16 (by kernel_rfl)))
        have RC1 := Aside0.mk (Q_RC1 (hon 23 (by kernel_rfl)))
        have N9 := Aside0.mk (Q_N9 (hon 9 (by kernel_rfl)))
        have N16 := Aside0.mk (Q_N16 (hon 16 (by kernel_rfl)))
        have N23 := Aside0.mk (Q_N23 (hon 23 (by kernel_rfl)))
        refine value_ (w1 := w') (v := .pointer (some ⟨g, 0, none⟩)) (by rfl) rfl ?_ ?_
        · go_simp
          (try simp only [i64_w])
          try rfl
        refine hK.out _ _ ⟨k8, k15, k22, v9, v16, v23, m8_, m15_, m22_, (by rw [ha.out]; exact putSel_upk 10 hb_ rfl rfl rfl), Q_BEL, Q_KEP, Q_SIZ, Q_BKF, Q_BOX0, fun h0_ _ => absurd ((hoff 26 (by kernel_rfl)).symm.trans h0_) (by decide), fun h0_ _ => absurd ((hoff 29 (by kernel_rfl)).symm.trans h0_) (by decide), fun h0_ => absurd ((hoff 32 (by kernel_rfl)).symm.trans h0_) (by decide), fun h0_ => absurd ((hon 9 (by kernel_rfl)).symm.trans h0_) (by decide), Q_RA1, fun h0_ => absurd ((hon 16 (by kernel_rfl)).symm.trans h0_) (by decide), Q_RB1, fun h0_ => absurd ((hon 23 (by kernel_rfl)).symm.trans h0_) (by decide), Q_RC1, fun _ h1_ => absurd ((hon 9 (by kernel_rfl)).symm.trans h1_) (by decide), fun _ h1_ => absurd ((hon 16 (by kernel_rfl)).symm.trans h1_) (by decide), fun _ h1_ => absurd ((hon 23 (by kernel_rfl)).symm.trans h1_) (by decide), Q_N9, Q_N16, Q_N23, Q_X8_, Q_X15_, Q_X22_⟩
      refine steps_cons ?_ ?_
      · rintro b a w' ⟨k8, k15, k22, v9, v16, v23, m8_, m15_, m22_, ha, Q_BEL, Q_KEP, Q_SIZ, Q_BKF, Q_BOX0, Q_BOX1, Q_BOX2, Q_BOX3, Q_RA0, Q_RA1, Q_RB0, Q_RB1, Q_RC0, Q_RC1, Q_L8, Q_L15, Q_L22, Q_N9, Q_N16, Q_N23, Q_X8_, Q_X15_, Q_X22_⟩ hb_ hon hoff
        refine ⟨_, rfl, fun K hK => ?_⟩
        have e45 : a.tmps[45]? = some (.pointer (some ⟨g, 0, none⟩)) := by rw [ha]; exact putSel_on (e := (25, 45, .pointer (some ⟨g, 0, none⟩))) 10 rfl rfl (hon 25 (by kernel_rfl)) rfl
        have e29 : a.tmps[29]? = some (v9) := by rw [ha]; exact putSel_on (e := (9, 29, v9)) 2 rfl rfl (hon 9 (by kernel_rfl)) rfl
        replace ha := Aside0.mk ha
        have BEL := Aside0.mk Q_BEL
        have KEP := Aside0.mk Q_KEP
        have SIZ := Aside0.mk Q_SIZ
        have BKF := Aside0.mk Q_BKF
        have BOX0 := Aside0.mk (Q_BOX0 hb_)
        have RA1 := Aside0.mk (Q_RA1 (hon 9 (by kernel_rfl)))
        have RB1 := Aside0.mk (Q_RB1 (hon 16 (by kernel_rfl)))
        have RC1 := Aside0.mk (Q_RC1 (hon 23 (by kernel_rfl)))
        have N9 := Aside0.mk (Q_N9 (hon 9 (by kernel_rfl)))
        have N16 := Aside0.mk (Q_N16 (hon 16 (by kernel_rfl)))
        have N23 := Aside0.mk (Q_N23 (hon 23 (by kernel_rfl)))
        have c_ := (blk_cell BOX0.out 0).trans rfl
        have f_ : w'.frozen? ⟨g, 0, none⟩ = false := blk_frozen BOX0.out 0
        obtain ⟨Aq_, cq_, eq_⟩ := Kd.R_slice RA1.out
        refine skip_ (w1 := w'.setCell ⟨g, 0, none⟩ v9) (by rfl) rfl ?_ ?_
        · rw [eq_] at e29 ⊢
          go_simp
        refine hK.out _ _ ⟨k8, k15, k22, v9, v16, v23, m8_, m15_, m22_, (by rw [ha.out]; exact putSel_none (v := undef) rfl), BEL.out.setCell (p := ⟨g, 0, none⟩) HG.out _, Kept.setCell (p := ⟨g, 0, none⟩) KEP.out (.inl (.inr rfl)) _, Nat.le_trans SIZ.out (Below.setCell (B := 0) (Below.refl _ _) (Nat.zero_le _) _).size, ⟨blk_far BKF.out.1 (p := ⟨g, 0, none⟩) HGN.out.1 _, blk_far BKF.out.2 (p := ⟨g, 0, none⟩) HGN.out.2 _⟩, fun h0_ => absurd ((up_self b 26).symm.trans h0_) (by decide), fun _ _ => blk_put BOX0.out 0 _ rfl, fun h0_ _ => absurd ((hoff 29 (by kernel_rfl)).symm.trans h0_) (by decide), fun h0_ => absurd ((hoff 32 (by kernel_rfl)).symm.trans h0_) (by decide), fun h0_ => absurd ((hon 9 (by kernel_rfl)).symm.trans h0_) (by decide), fun _ => Kd.R_far (p := ⟨g, 0, none⟩) RA1.out HPG.out _, fun h0_ => absurd ((hon 16 (by kernel_rfl)).symm.trans h0_) (by decide), fun _ => Kd.R_far (p := ⟨g, 0, none⟩) RB1.out HPG.out _, fun h0_ => absurd ((hon 23 (by kernel_rfl)).symm.trans h0_) (by decide), fun _ => Kd.R_far (p := ⟨g, 0, none⟩) RC1.out HPG.out _, fun _ h1_ => absurd ((hon 9 (by kernel_rfl)).symm.trans h1_) (by decide), fun _ h1_ => absurd ((hon 16 (by kernel_rfl)).symm.trans h1_) (by decide), fun _ h1_ => absurd ((hon 23 (by kernel_rfl)).symm.trans h1_) (by decide), Q_N9, Q_N16, Q_N23, Q_X8_, Q_X15_, Q_X22_⟩
      refine steps_cons ?_ ?_
      · rintro b a w' ⟨k8, k15, k22, v9, v16, v23, m8_, m15_, m22_, ha, Q_BEL, Q_KEP, Q_SIZ, Q_BKF, Q_BOX0, Q_BOX1, Q_BOX2, Q_BOX3, Q_RA0, Q_RA1, Q_RB0, Q_RB1, Q_RC0, Q_RC1, Q_L8, Q_L15, Q_L22, Q_N9, Q_N16, Q_N23, Q_X8_, Q_X15_, Q_X22_⟩ hb_ hon hoff
        refine ⟨_, rfl, fun K hK => ?_⟩
        have e21 : a.tmps[21]? = some (.pointer (some ⟨g, 0, none⟩)) := by rw [ha]; exact (putSel_off rfl).trans rfl
        replace ha := Aside0.mk ha
        have BEL := Aside0.mk Q_BEL
        have KEP := Aside0.mk Q_KEP
        have SIZ := Aside0.mk Q_SIZ
        have BKF := Aside0.mk Q_BKF
        have BOX1 := Aside0.mk (Q_BOX1 (hon 26 (by kernel_rfl)) (hoff 29 (by kernel_rfl)))
        have RA1 := Aside0.mk (Q_RA1 (hon 9 (by kernel_rfl)))
        have RB1 := Aside0.mk (Q_RB1 (hon 16 (by kernel_rfl)))
        have RC1 := Aside0.mk (Q_RC1 (hon 23 (by kernel_rfl)))
        have N9 := Aside0.mk (Q_N9 (hon 9 (by kernel_rfl)))
        have N16 := Aside0.mk (Q_N16 (hon 16 (by kernel_rfl)))
        have N23 := Aside0.mk (Q_N23 (hon 23 (by kernel_rfl)))
        refine value_ (w1 := w') (v := .pointer (some ⟨g, 0, none⟩)) (by rfl) rfl ?_ ?_
        · go_simp
          (try simp only [i64_w])
          try rfl
        refine hK.out _ _ ⟨k8, k15, k22, v9, v16, v23, m8_, m15_, m22_, (by rw [ha.out]; exact putSel_upk 11 hb_ rfl rfl rfl), Q_BEL, Q_KEP, Q_SIZ, Q_BKF, fun h0_ => absurd ((hon 26 (by kernel_rfl)).symm.trans h0_) (by decide), Q_BOX1, fun h0_ _ => absurd ((hoff 29 (by kernel_rfl)).symm.trans h0_) (by decide), fun h0_ => absurd ((hoff 32 (by kernel_rfl)).symm.trans h0_) (by decide), fun h0_ => absurd ((hon 9 (by kernel_rfl)).symm.trans h0_) (by decide), Q_RA1, fun h0_ => absurd ((hon 16 (by kernel_rfl)).symm.trans h0_) (by decide), Q_RB1, fun h0_ => absurd ((hon 23 (by kernel_rfl)).symm.trans h0_) (by decide), Q_RC1, fun _ h1_ => absurd ((hon 9 (by kernel_rfl)).symm.trans h1_) (by decide), fun _ h1_ => absurd ((hon 16 (by kernel_rfl)).symm.trans h1_) (by decide), fun _ h1_ => absurd ((hon 23 (by kernel_rfl)).symm.trans h1_) (by decide), Q_N9, Q_N16, Q_N23, Q_X8_, Q_X15_, Q_X22_⟩
      refine steps_cons ?_ ?_
      · rintro b a w' ⟨k8, k15, k22, v9, v16, v23, m8_, m15_, m22_, ha, Q_BEL, Q_KEP, Q_SIZ, Q_BKF, Q_BOX0, Q_BOX1, Q_BOX2, Q_BOX3, Q_RA0, Q_RA1, Q_RB0, Q_RB1, Q_RC0, Q_RC1, Q_L8, Q_L15, Q_L22, Q_N9, Q_N16, Q_N23, Q_X8_, Q_X15_, Q_X22_⟩ hb_ hon hoff
        refine ⟨_, rfl, fun K hK => ?_⟩
        have e46 : a.tmps[46]? = some (.pointer (some ⟨g, 0, none⟩)) := by rw [ha]; exact putSel_on (e := (27, 46, .pointer (some ⟨g, 0, none⟩))) 11 rfl rfl (hon 27 (by kernel_rfl)) rfl
        replace ha := Aside0.mk ha
        have BEL := Aside0.mk Q_BEL
        have KEP := Aside0.mk Q_KEP
        have SIZ := Aside0.mk Q_SIZ
        have BKF := Aside0.mk Q_BKF
        have BOX1 := Aside0.mk (Q_BOX1 (hon 26 (by kernel_rfl)) (hoff 29 (by kernel_rfl)))
        have RA1 := Aside0.mk (Q_RA1 (hon 9 (by kernel_rfl)))
        have RB1 := Aside0.mk (Q_RB1 (hon 16 (by kernel_rfl)))
        have RC1 := Aside0.mk (Q_RC1 (hon 23 (by kernel_rfl)))
        have N9 := Aside0.mk (Q_N9 (hon 9 (by kernel_rfl)))
        have N16 := Aside0.mk (Q_N16 (hon 16 (by kernel_rfl)))
        have N23 := Aside0.mk (Q_N23 (hon 23 (by kernel_rfl)))
        refine value_ (w1 := w') (v := .pointer (some ⟨g, 1, none⟩)) (by rfl) rfl ?_ ?_
        · go_simp
          (try simp only [i64_w])
          try rfl
        refine hK.out _ _ ⟨k8, k15, k22, v9, v16, v23, m8_, m15_, m22_, (by rw [ha.out]; exact putSel_upk 12 hb_ rfl rfl rfl), Q_BEL, Q_KEP, Q_SIZ, Q_BKF, fun h0_ => absurd ((hon 26 (by kernel_rfl)).symm.trans h0_) (by decide), Q_BOX1, fun h0_ _ => absurd ((hoff 29 (by kernel_rfl)).symm.trans h0_) (by decide), fun h0_ => absurd ((hoff 32 (by kernel_rfl)).symm.trans h0_) (by decide), fun h0_ => absurd ((hon 9 (by kernel_rfl)).symm.trans h0_) (by decide), Q_RA1, fun h0_ => absurd ((hon 16 (by kernel_rfl)).symm.trans h0_) (by decide), Q_RB1, fun h0_ => absurd ((hon 23 (by kernel_rfl)).symm.trans h0_) (by decide), Q_RC1, fun _ h1_ => absurd ((hon 9 (by kernel_rfl)).symm.trans h1_) (by decide), fun _ h1_ => absurd ((hon 16 (by kernel_rfl)).symm.trans h1_) (by decide), fun _ h1_ => absurd ((hon 23 (by kernel_rfl)).symm.trans h1_) (by decide), Q_N9, Q_N16, Q_N23, Q_X8_, Q_X15_, Q_X22_⟩
      refine steps_cons ?_ ?_
      · rintro b a w' ⟨k8, k15, k22, v9, v16, v23, m8_, m15_, m22_, ha, Q_BEL, Q_KEP, Q_SIZ, Q_BKF, Q_BOX0, Q_BOX1, Q_BOX2, Q_BOX3, Q_RA0, Q_RA1, Q_RB0, Q_RB1, Q_RC0, Q_RC1, Q_L8, Q_L15, Q_L22, Q_N9, Q_N16, Q_N23, Q_X8_, Q_X15_, Q_X22_⟩ hb_ hon hoff
        refine ⟨_, rfl, fun K hK => ?_⟩
        have e47 : a.tmps[47]? = some (.pointer (some ⟨g, 1, none⟩)) := by rw [ha]; exact putSel_on (e := (28, 47, .pointer (some ⟨g, 1, none⟩))) 12 rfl rfl (hon 28 (by kernel_rfl)) rfl
        have e36 : a.tmps[36]? = some (v16) := by rw [ha]; exact putSel_on (e := (16, 36, v16)) 5 rfl rfl (hon 16 (by kernel_rfl)) rfl
        replace ha := Aside0.mk ha
        have BEL := Aside0.mk Q_BEL
        have KEP := Aside0.mk Q_KEP
        have SIZ := Aside0.mk Q_SIZ
        have BKF := Aside0.mk Q_BKF
        have BOX1 := Aside0.mk (Q_BOX1 (hon 26 (by kernel_rfl)) hb_)
        have RA1 := Aside0.mk (Q_RA1 (hon 9 (by kernel_rfl)))
        have RB1 := Aside0.mk (Q_RB1 (hon 16 (by kernel_rfl)))
        have RC1 := Aside0.mk (Q_RC1 (hon 23 (by kernel_rfl)))
        have N9 := Aside0.mk (Q_N9 (hon 9 (by kernel_rfl)))
        have N16 := Aside0.mk (Q_N16 (hon 16 (by kernel_rfl)))
        have N23 := Aside0.mk (Q_N23 (hon 23 (by kernel_rfl)))
        have c_ := (blk_cell BOX1.out 1).trans rfl
        have f_ : w'.frozen? ⟨g, 1, none⟩ = false := blk_frozen BOX1.out 1
        obtain ⟨Aq_, cq_, eq_⟩ := Kd.R_slice RB1.out
        refine skip_ (w1 := w'.setCell ⟨g, 1, none⟩ v16) (by rfl) rfl ?_ ?_
        · rw [eq_] at e36 ⊢
          go_simp
        refine hK.out _ _ ⟨k8, k15, k22, v9, v16, v23, m8_, m15_, m22_, (by rw [ha.out]; exact putSel_none (v := undef) rfl), BEL.out.setCell (p := ⟨g, 1, none⟩) HG.out _, Kept.setCell (p := ⟨g, 1, none⟩) KEP.out (.inl (.inr rfl)) _, Nat.le_trans SIZ.out (Below.setCell (B := 0) (Below.refl _ _) (Nat.zero_le _) _).size, ⟨blk_far BKF.out.1 (p := ⟨g, 1, none⟩) HGN.out.1 _, blk_far BKF.out.2 (p := ⟨g, 1, none⟩) HGN.out.2 _⟩, fun h0_ => absurd ((hon 26 (by kernel_rfl)).symm.trans h0_) (by decide), fun _ h1_ => absurd ((up_self b 29).symm.trans h1_) (by decide), fun _ _ => blk_put BOX1.out 1 _ rfl, fun h0_ => absurd ((hoff 32 (by kernel_rfl)).symm.trans h0_) (by decide), fun h0_ => absurd ((hon 9 (by kernel_rfl)).symm.trans h0_) (by decide), fun _ => Kd.R_far (p := ⟨g, 1, none⟩) RA1.out HPG.out _, fun h0_ => absurd ((hon 16 (by kernel_rfl)).symm.trans h0_) (by decide), fun _ => Kd.R_far (p := ⟨g, 1, none⟩) RB1.out HPG.out _, fun h0_ => absurd ((hon 23 (by kernel_rfl)).symm.trans h0_) (by decide), fun _ => Kd.R_far (p := ⟨g, 1, none⟩) RC1.out HPG.out _, fun _ h1_ => absurd ((hon 9 (by kernel_rfl)).symm.trans h1_) (by decide), fun _ h1_ => absurd ((hon 16 (by kernel_rfl)).symm.trans h1_) (by decide), fun _ h1_ => absurd ((hon 23 (by kernel_rfl)).symm.trans h1_) (by decide), Q_N9, Q_N16, Q_N23, Q_X8_, Q_X15_, Q_X22_⟩
      refine steps_cons ?_ ?_
      · rintro b a w' ⟨k8, k15, k22, v9, v16, v23, m8_, m15_, m22_, ha, Q_BEL, Q_KEP, Q_SIZ, Q_BKF, Q_BOX0, Q_BOX1, Q_BOX2, Q_BOX3, Q_RA0, Q_RA1, Q_RB0, Q_RB1, Q_RC0, Q_RC1, Q_L8, Q_L15, Q_L22, Q_N9, Q_N16, Q_N23, Q_X8_, Q_X15_, Q_X22_⟩ hb_ hon hoff
        refine ⟨_, rfl, fun K hK => ?_⟩
        have e22 : a.tmps[22]? = some (.pointer (some ⟨g, 0, none⟩)) := by rw [ha]; exact (putSel_off rfl).trans rfl
        replace ha := Aside0.mk ha
        have BEL := Aside0.mk Q_BEL
        have KEP := Aside0.mk Q_KEP
        have SIZ := Aside0.mk Q_SIZ
        have BKF := Aside0.mk Q_BKF
        have BOX2 := Aside0.mk (Q_BOX2 (hon 29 (by kernel_rfl)) (hoff 32 (by kernel_rfl)))
        have RA1 := Aside0.mk (Q_RA1 (hon 9 (by kernel_rfl)))
        have RB1 := Aside0.mk (Q_RB1 (hon 16 (by kernel_rfl)))
        have RC1 := Aside0.mk (Q_RC1 (hon 23 (by kernel_rfl)))
        have N9 := Aside0.mk (Q_N9 (hon 9 (by kernel_rfl)))
        have N16 := Aside0.mk (Q_N16 (hon 16 (by kernel_rfl)))
        have N23 := Aside0.mk (Q_N23 (hon 23 (by kernel_rfl)))
        refine value_ (w1 := w') (v := .pointer (some ⟨g, 0, none⟩)) (by rfl) rfl ?_ ?_
        · go_simp
          (try simp only [i64_w])
          try rfl
        refine hK.out _ _ ⟨k8, k15, k22, v9, v16, v23, m8_, m15_, m22_, (by rw [ha.out]; exact putSel_upk 13 hb_ rfl rfl rfl), Q_BEL, Q_KEP, Q_SIZ, Q_BKF, fun h0_ => absurd ((hon 26 (by kernel_rfl)).symm.trans h0_) (by decide), fun _ h1_ => absurd ((hon 29 (by kernel_rfl)).symm.trans h1_) (by decide), Q_BOX2, fun h0_ => absurd ((hoff 32 (by kernel_rfl)).symm.trans h0_) (by decide), fun h0_ => absurd ((hon 9 (by kernel_rfl)).symm.trans h0_) (by decide), Q_RA1, fun h0_ => absurd ((hon 16 (by kernel_rfl)).symm.trans h0_) (by decide), Q_RB1, fun h0_ => absurd ((hon 23 (by kernel_rfl)).symm.trans h0_) (by decide), Q_RC1, fun _ h1_ => absurd ((hon 9 (by kernel_rfl)).symm.trans h1_) (by decide), fun _ h1_ => absurd ((hon 16 (by kernel_rfl)).symm.trans h1_) (by decide), fun _ h1_ => absurd ((hon 23 (by kernel_rfl)).symm.trans h1_) (by decide), Q_N9, Q_N16, Q_N23, Q_X8_, Q_X15_, Q_X22_⟩
      refine steps_cons ?_ ?_
      · rintro b a w' ⟨k8, k15, k22, v9, v16, v23, m8_, m15_, m22_, ha, Q_BEL, Q_KEP, Q_SIZ, Q_BKF, Q_BOX0, Q_BOX1, Q_BOX2, Q_BOX3, Q_RA0, Q_RA1, Q_RB0, Q_RB1, Q_RC0, Q_RC1, Q_L8, Q_L15, Q_L22, Q_N9, Q_N16, Q_N23, Q_X8_, Q_X15_, Q_X22_⟩ hb_ hon hoff
        refine ⟨_, rfl, fun K hK => ?_⟩
        have e48 : a.tmps[48]? = some (.pointer (some ⟨g, 0, none⟩)) := by rw [ha]; exact putSel_on (e := (30, 48, .pointer (some ⟨g, 0, none⟩))) 13 rfl rfl (hon 30 (by kernel_rfl)) rfl
        replace ha := Aside0.mk ha
        have BEL := Aside0.mk Q_BEL
        have KEP := Aside0.mk Q_KEP
        have SIZ := Aside0.mk Q_SIZ
        have BKF := Aside0.mk Q_BKF
        have BOX2 := Aside0.mk (Q_BOX2 (hon 29 (by kernel_rfl)) (hoff 32 (by kernel_rfl)))
        have RA1 := Aside0.mk (Q_RA1 (hon 9 (by kernel_rfl)))
        have RB1 := Aside0.mk (Q_RB1 (hon 16 (by kernel_rfl)))
        have RC1 := Aside0.mk (Q_RC1 (hon 23 (by kernel_rfl)))
        have N9 := Aside0.mk (Q_N9 (hon 9 (by kernel_rfl)))
        have N16 := Aside0.mk (Q_N16 (hon 16 (by kernel_rfl)))
        have N23 := Aside0.mk (Q_N23 (hon 23 (by kernel_rfl)))
        refine value_ (w1 := w') (v := .pointer (some ⟨g, 2, none⟩)) (by rfl) rfl ?_ ?_
        · go_simp
          (try simp only [i64_w])
          try rfl
        refine hK.out _ _ ⟨k8, k15, k22, v9, v16, v23, m8_, m15_, m22_, (by rw [ha.out]; exact putSel_upk 14 hb_ rfl rfl rfl), Q_BEL, Q_KEP, Q_SIZ, Q_BKF, fun h0_ => absurd ((hon 26 (by kernel_rfl)).symm.trans h0_) (by decide), fun _ h1_ => absurd ((hon 29 (by kernel_rfl)).symm.trans h1_) (by decide), Q_BOX2, fun h0_ => absurd ((hoff 32 (by kernel_rfl)).symm.trans h0_) (by decide), fun h0_ => absurd ((hon 9 (by kernel_rfl)).symm.trans h0_) (by decide), Q_RA1, fun h0_ => absurd ((hon 16 (by kernel_rfl)).symm.trans h0_) (by decide), Q_RB1, fun h0_ => absurd ((hon 23 (by kernel_rfl)).symm.trans h0_) (by decide), Q_RC1, fun _ h1_ => absurd ((hon 9 (by kernel_rfl)).symm.trans h1_) (by decide), fun _ h1_ => absurd ((hon 16 (by kernel_rfl)).symm.trans h1_) (by decide), fun _ h1_ => absurd ((hon 23 (by kernel_rfl)).symm.trans h1_) (by decide), Q_N9, Q_N16, Q_N23, Q_X8_, Q_X15_, Q_X22_⟩
      refine steps_cons ?_ ?_
      · rintro b a w' ⟨k8, k15, k22, v9, v16, v23, m8_, m15_, m22_, ha, Q_BEL, Q_KEP, Q_SIZ, Q_BKF, Q_BOX0, Q_BOX1, Q_BOX2, Q_BOX3, Q_RA0, Q_RA1, Q_RB0, Q_RB1, Q_RC0, Q_RC1, Q_L8, Q_L15, Q_L22, Q_N9, Q_N16, Q_N23, Q_X8_, Q_X15_, Q_X22_⟩ hb_ hon hoff
        refine ⟨_, rfl, fun K hK => ?_⟩
        have e49 : a.tmps[49]? = some (.pointer (some ⟨g, 2, none⟩)) := by rw [ha]; exact putSel_on (e := (31, 49, .pointer (some ⟨g, 2, none⟩))) 14 rfl rfl (hon 31 (by kernel_rfl)) rfl
        have e43 : a.tmps[43]? = some (v23) := by rw [ha]; exact putSel_on (e := (23, 43, v23)) 8 rfl rfl (hon 23 (by kernel_rfl)) rfl
        replace ha := Aside0.mk ha
        have BEL := Aside0.mk Q_BEL
        have KEP := Aside0.mk Q_KEP
        have SIZ := Aside0.mk Q_SIZ
        have BKF := Aside0.mk Q_BKF
        have BOX2 := Aside0.mk (Q_BOX2 (hon 29 (by kernel_rfl)) hb_)
        have RA1 := Aside0.mk (Q_RA1 (hon 9 (by kernel_rfl)))
        have RB1 := Aside0.mk (Q_RB1 (hon 16 (by kernel_rfl)))
        have RC1 := Aside0.mk (Q_RC1 (hon 23 (by kernel_rfl)))
        have N9 := Aside0.mk (Q_N9 (hon 9 (by kernel_rfl)))
        have N16 := Aside0.mk (Q_N16 (hon 16 (by kernel_rfl)))
        have N23 := Aside0.mk (Q_N23 (hon 23 (by kernel_rfl)))
        have c_ := (blk_cell BOX2.out 2).trans rfl
        have f_ : w'.frozen? ⟨g, 2, none⟩ = false := blk_frozen BOX2.out 2
        obtain ⟨Aq_, cq_, eq_⟩ := Kd.R_slice RC1.out
        refine skip_ (w1 := w'.setCell ⟨g, 2, none⟩ v23) (by rfl) rfl ?_ ?_
        · rw [eq_] at e43 ⊢
          go_simp
        refine hK.out _ _ ⟨k8, k15, k22, v9, v16, v23, m8_, m15_, m22_, (by rw [ha.out]; exact putSel_none (v := undef) rfl), BEL.out.setCell (p := ⟨g, 2, none⟩) HG.out _, Kept.setCell (p := ⟨g, 2, none⟩) KEP.out (.inl (.inr rfl)) _, Nat.le_trans SIZ.out (Below.setCell (B := 0) (Below.refl _ _) (Nat.zero_le _) _).size, ⟨blk_far BKF.out.1 (p := ⟨g, 2, none⟩) HGN.out.1 _, blk_far BKF.out.2 (p := ⟨g, 2, none⟩) HGN.out.2 _⟩, fun h0_ => absurd ((hon 26 (by kernel_rfl)).symm.trans h0_) (by decide), fun _ h1_ => absurd ((hon 29 (by kernel_rfl)).symm.trans h1_) (by decide), fun _ h1_ => absurd ((up_self b 32).symm.trans h1_) (by decide), fun _ => blk_put BOX2.out 2 _ rfl, fun h0_ => absurd ((hon 9 (by kernel_rfl)).symm.trans h0_) (by decide), fun _ => Kd.R_far (p := ⟨g, 2, none⟩) RA1.out HPG.out _, fun h0_ => absurd ((hon 16 (by kernel_rfl)).symm.trans h0_) (by decide), fun _ => Kd.R_far (p := ⟨g, 2, none⟩) RB1.out HPG.out _, fun h0_ => absurd ((hon 23 (by kernel_rfl)).symm.trans h0_) (by decide), fun _ => Kd.R_far (p := ⟨g, 2, none⟩) RC1.out HPG.out _, fun _ h1_ => absurd ((hon 9 (by kernel_rfl)).symm.trans h1_) (by decide), fun _ h1_ => absurd ((hon 16 (by kernel_rfl)).symm.trans h1_) (by decide), fun _ h1_ => absurd ((hon 23 (by kernel_rfl)).symm.trans h1_) (by decide), Q_N9, Q_N16, Q_N23, Q_X8_, Q_X15_, Q_X22_⟩
      exact steps_nil
    rintro b a w' hall ⟨k8, k15, k22, v9, v16, v23, m8_, m15_, m22_, ha, Q_BEL, Q_KEP, Q_SIZ, Q_BKF, Q_BOX0, Q_BOX1, Q_BOX2, Q_BOX3, Q_RA0, Q_RA1, Q_RB0, Q_RB1, Q_RC0, Q_RC1, Q_L8, Q_L15, Q_L22, Q_N9, Q_N16, Q_N23, Q_X8_, Q_X15_, Q_X22_⟩
    clear BEL BKF BOX0 KEP RA0 RB0 RC0 SIZ
    have hb6_ := hall 6 (by kernel_rfl)
    have hb8_ := hall 8 (by kernel_rfl)
    have hb9_ := hall 9 (by kernel_rfl)
    have hb13_ := hall 13 (by kernel_rfl)
    have hb15_ := hall 15 (by kernel_rfl)
    have hb16_ := hall 16 (by kernel_rfl)
    have hb20_ := hall 20 (by kernel_rfl)
    have hb22_ := hall 22 (by kernel_rfl)
    have hb23_ := hall 23 (by kernel_rfl)
    have hb24_ := hall 24 (by kernel_rfl)
    have hb25_ := hall 25 (by kernel_rfl)
    have hb26_ := hall 26 (by kernel_rfl)
    have hb27_ := hall 27 (by kernel_rfl)
    have hb28_ := hall 28 (by kernel_rfl)
    have hb29_ := hall 29 (by kernel_rfl)
    have hb30_ := hall 30 (by kernel_rfl)
    have hb31_ := hall 31 (by kernel_rfl)
    have hb32_ := hall 32 (by kernel_rfl)
    subst ha
    obtain rfl := Q_X8_ hb8_
    obtain rfl := Q_X15_ hb15_
    obtain rfl := Q_X22_ hb22_
    simp only [putSel, hb6_, hb8_, hb9_, hb13_, hb15_, hb16_, hb20_, hb22_, hb23_, hb24_, hb25_, hb26_, hb27_, hb28_, hb29_, hb30_, hb31_, hb32_, if_true, Act.put, List.setIfInBounds_toArray, List.set_cons_zero, List.set_cons_succ]
    have BEL := Aside0.mk Q_BEL
    clear Q_BEL
    have KEP := Aside0.mk Q_KEP
    clear Q_KEP
    have SIZ := Aside0.mk Q_SIZ
    clear Q_SIZ
    have BKF := Aside0.mk Q_BKF
    clear Q_BKF
    clear Q_BOX0
    clear Q_BOX1
    clear Q_BOX2
    have BOX3 := Aside0.mk (Q_BOX3 hb32_)
    clear Q_BOX3
    clear Q_RA0
    have RA1 := Aside0.mk (Q_RA1 hb9_)
    clear Q_RA1
    clear Q_RB0
    have RB1 := Aside0.mk (Q_RB1 hb16_)
    clear Q_RB1
    clear Q_RC0
    have RC1 := Aside0.mk (Q_RC1 hb23_)
    clear Q_RC1
    clear Q_L8
    clear Q_L15
    clear Q_L22
    have N9 := Aside0.mk (Q_N9 hb9_)
    clear Q_N9
    have N16 := Aside0.mk (Q_N16 hb16_)
    clear Q_N16
    have N23 := Aside0.mk (Q_N23 hb23_)
    clear Q_N23
    clear hall hb6_ hb8_ hb9_ hb13_ hb15_ hb16_ hb20_ hb22_ hb23_ hb24_ hb25_ hb26_ hb27_ hb28_ hb29_ hb30_ hb31_ hb32_
    have O2 : Aside0 (WoodAt w0.heap.size w0 g w' P1 (acc ++ [(above, p, x)])) := ⟨⟨⟨v9, v16, v23, BOX3.out, by rw [List.map_append]; exact RA1.out, by rw [List.map_append]; exact RB1.out, by rw [List.map_append]; exact RC1.out, N16.out.2, N23.out.1, N23.out.2⟩, BEL.out⟩⟩
    have BK73 := Aside0.mk (show w'.heap[g7]? = some (.cells #[.slice A0 ns.length c0, .int .i64 room] 34 (0, 0)) from BKF.out.1)
    have BK83 := Aside0.mk (show w'.heap[g8]? = some (.cells #[.int .i64 cu, .int .i64 cg] 36 (0, 0)) from BKF.out.2)
    have K2 := Aside0.mk KEP.out
    have HS2 := Aside0.mk SIZ.out
    clear BEL KEP SIZ BOX3 RA1 RB1 RC1 N9 N16 N23 HU1 HU2 HU3 HUG1 HUG2 HUG3 HS12 HS13 HS23 BK7 BK8 BKF
    obtain ⟨w2, hw2⟩ : ∃ W, W = w' := ⟨_, rfl⟩
    rw [← hw2] at O2 BK73 BK83 K2 HS2 ⊢
    clear hw2
    have B2 := Aside0.mk O2.out.below
    have HDI := Aside0.mk (fun (W : World) (hb : Below w0.heap.size w0 W) => impl_Fs_isDir.calls A0 c0 ns room x _ W (Kd.C_below HR0.out hb) HC0.out (isDir_f room x HX.out))
    have HML := Aside0.mk (fun (W : World) (hb : Below w0.heap.size w0 W) => impl_Fs_mayLook.calls A0 c0 ns room cu cg x _ W (Kd.C_below HR0.out hb) HC0.out (mayLook_f room cu cg x HX.out))
    obtain ⟨m0, m1, n0, n1⟩ := find22 BK73.out BK83.out
    by_cases hk : (ndR ns x).f0 = 2
    case neg =>
      have hb : ((ndR ns x).f0 == 2) = false := by simpa using hk
      rw [hb] at HDI
      have hch : chT ns cu cg x = [] := by unfold chT; rw [if_neg (fun h => hk h.1)]
      have hacc := HGR.out
      rw [hch] at hacc
      unfold growL at hacc
      injection hacc with hacc
      have HACC := Aside0.mk hacc
      clear hk hb hch hacc HGR HML
      go_wp2_with fail
      refine (HDI.out _ B2.out).mono ?_; rintro e w3 ⟨rfl, hd⟩
      go_wp2
      go_end0
      refine ⟨_, rfl, ?_, K2.out.below hd⟩
      rw [← HACC.out]
      exact (O2.out.step hd B2.out.size).weak (fun k hk => (HP1.out k hk).elim (fun h => .inl h.1) (fun h => .inr (Nat.le_trans HWS.out h)))
    case pos =>
      have hb : ((ndR ns x).f0 == 2) = true := by simpa using hk
      rw [hb] at HDI
      cases hm : mayB cu cg (ndR ns x) 5 with
      | false =>
        rw [hm] at HML
        have hch : chT ns cu cg x = [] := by unfold chT; rw [if_neg (fun h => by rw [hm] at h; exact Bool.false_ne_true h.2)]
        have hacc := HGR.out
        rw [hch] at hacc
        unfold growL at hacc
        injection hacc with hacc
        have HACC := Aside0.mk hacc
        clear hk hb hch hacc HGR hm
        go_wp2_with fail
        refine (HDI.out _ B2.out).mono ?_; rintro e w3 ⟨rfl, hd⟩
        have B3 := Aside0.mk (B2.out.trans (hd.mono B2.out.size))
        obtain ⟨m0', m1', n0', n1'⟩ := find22 (blk_below BK73.out hd) (blk_below BK83.out hd)
        clear m0 m1 n0 n1
        go_wp2_with fail
        refine (HML.out _ B3.out).mono ?_; rintro e w4 ⟨rfl, hd2⟩
        go_wp2
        go_end0
        refine ⟨_, rfl, ?_, K2.out.below (below_step hd hd2)⟩
        rw [← HACC.out]
        exact (O2.out.step (below_step hd hd2) B2.out.size).weak (fun k hk => (HP1.out k hk).elim (fun h => .inl h.1) (fun h => .inr (Nat.le_trans HWS.out h)))
      | true =>
        rw [hm] at HML
        have hch : chT ns cu cg x = (ndR ns x).f6 := by unfold chT; rw [if_pos ⟨hk, hm⟩]
        have hgr := HGR.out
        rw [hch] at hgr
        obtain ⟨bd, B6, d6, hbd, hna, hd6, hC6⟩ := node_at HR0.out x HX.out
        subst hbd
        obtain ⟨L, hLL⟩ : ∃ L, L = (ndR ns x).f6 := ⟨_, rfl⟩
        have hmem : (∃ y, y ∈ ns ∧ L = y.f6) ∨ L = [] := by
          cases hL : L with
          | nil => exact .inr rfl
          | cons e0 l0 => exact .inl ⟨_, ndR_mem (y := x) (e := e0) (by rw [← hLL, hL]; simp), by rw [← hL]; exact hLL⟩
        have hlen : L.length ≤ 1048576 := by
          rcases hmem with ⟨y, hy, rfl⟩ | h
          · exact HFIT.out.list y hy
          · rw [h]; simp
        have hnm : ∀ e, e ∈ L → e.f0.size ≤ 1048576 := by
          intro e he
          rcases hmem with ⟨y, hy, rfl⟩ | h
          · exact HFIT.out.name y hy e he
          · rw [h] at he; simp at he
        have hsub := (tree_of HGD.out).sub x HX.out
        change ∀ y, y ∈ (ndR ns x).f6.map (·.f1) → _ at hsub
        have he6 := hna.e6
        rw [← hLL] at hgr hsub hC6 he6
        have HLEN := Aside0.mk hlen
        have HNM := Aside0.mk hnm
        have HSUB := Aside0.mk hsub
        have HGR2 := Aside0.mk hgr
        have HC6 := Aside0.mk hC6
        have HE6 := Aside0.mk he6
        obtain ⟨y0, y1⟩ := (allN_mem _ _).mp HX.out
        have q1 : ((0 : Int) ≤ x) = True := eq_true y0
        have q2 : (x < (ns.length : Int)) = True := eq_true y1
        clear hk hb hch hgr hm hLL hmem hlen hnm hsub hna hd6 hC6 he6 y0 y1 HGR
        go_wp2_with fail
        refine (HDI.out _ B2.out).mono ?_; rintro e w3 ⟨rfl, hd⟩
        have B3 := Aside0.mk (B2.out.trans (hd.mono B2.out.size))
        obtain ⟨m0', m1', n0', n1'⟩ := find22 (blk_below BK73.out hd) (blk_below BK83.out hd)
        clear m0 m1 n0 n1
        go_wp2_with fail
        refine (HML.out _ B3.out).mono ?_; rintro e w4 ⟨rfl, hd2⟩
        have hdd := below_step hd hd2
        have O4 := Aside0.mk (O2.out.step hdd B2.out.size)
        have K4 := Aside0.mk (K2.out.below hdd)
        have BK74 := Aside0.mk (blk_below BK73.out hdd)
        have BK84 := Aside0.mk (blk_below BK83.out hdd)
        have HS4 : Aside0 (W1.heap.size ≤ w4.heap.size) := ⟨Nat.le_trans HS2.out hdd.size⟩
        have m0 : w4.cell? ⟨g7, 0, none⟩ = some (.slice (some bd) ns.length c0) := (blk_cell BK74.out 0).trans rfl
        have h6 := cell_from O4.out.below HE6.out
        clear m0' m1' n0' n1' hd hd2 hdd O2 K2 BK73 BK83 HS2 B2 B3 HDI HML
        go_wp2
        go_loopw [66] (fun v66 wr => ∃ (i : Nat) (ac : List Tk), i ≤ L.length ∧ v66 = .int .i64 (i : Int) ∧ Aside0 (WoodAt w0.heap.size w0 g wr P1 ac) ∧ Aside0 (growL (growD (chT ns cu cg) d) (acc.length : Int) p (L.drop i) ac = some acc') ∧ Aside0 (Kept w wr (fun k => P0 k ∨ k = g)) ∧ Aside0 (wr.heap[g7]? = some (.cells #[.slice (some bd) ns.length c0, .int .i64 room] 34 (0, 0))) ∧ Aside0 (wr.heap[g8]? = some (.cells #[.int .i64 cu, .int .i64 cg] 36 (0, 0))) ∧ Aside0 (W1.heap.size ≤ wr.heap.size)) (fun v66 _ => L.length - (intOf v66).toNat)
        case atStart => exact ⟨0, _, Nat.zero_le _, rfl, O4, ⟨by rw [List.drop_zero]; exact HGR2.out⟩, K4, BK74, BK84, HS4⟩
        case round =>
          clear O4 K4 BK74 BK84 HS4 HGR2 h6 m0
          obtain ⟨i, ac, hi, rfl, O, HF, KK, BK7, BK8, HS⟩ := hrel
          by_cases hlt : i < L.length
          case neg =>
            have hil : i = L.length := by omega
            subst hil
            have p9 : decide ((L.length : Int) < (L.length : Int)) = false := by simp
            have HR : Aside0 (ac = acc') := ⟨by
              have h := HF.out
              rw [List.drop_length] at h
              unfold growL at h
              injection h⟩
            clear hlt hi
            go_wp2
            go_end0
            exact ⟨_, rfl, by rw [← HR.out]; exact O.out.weak (fun k hk => (HP1.out k hk).elim (fun h => .inl h.1) (fun h => .inr (Nat.le_trans HWS.out h))), KK.out⟩
          case pos =>
            have HLT := Aside0.mk hlt
            have p9 : decide ((i : Int) < (L.length : Int)) = true := decide_eq_true (by omega)
            have p8 : ((i : Int) < (L.length : Int)) = True := eq_true (by omega)
            have p7 : ((0 : Int) ≤ (i : Int)) = True := eq_true (by omega)
            obtain ⟨be, rfl, hn0, hn1⟩ := at_T144 (Kd.C_below HC6.out O.out.below) (i : Int) (by omega) (by omega)
            rw [Int.toNat_natCast] at hn0 hn1
            have hLi : rd_T144 L (i : Int) = L[i] := by unfold rd_T144; simp [List.getD, hlt]
            rw [hLi] at hn0 hn1
            have hF := HF.out
            rw [List.drop_eq_getElem_cons hlt] at hF
            have hin := HSUB.out L[i].f1 (List.mem_map.mpr ⟨L[i], List.getElem_mem hlt, rfl⟩)
            have hnm := HNM.out L[i] (List.getElem_mem hlt)
            obtain ⟨y, hy1, hy2⟩ := growL_cons hF
            generalize L[i].f0 = nm at hn0 hy1 hnm
            generalize L[i].f1 = nd at hn1 hy1 hin
            have HY1 := Aside0.mk hy1
            have HY2 := Aside0.mk hy2
            have HYL : Aside0 (y.length ≤ 100000000) := ⟨Nat.le_trans (growL_len _ _ _ _ _ _ _ hy2) HLL.out⟩
            have HIN := Aside0.mk hin
            have HPS : Aside0 (p.size + nm.size + 1 + d * 1048577 ≤ 1000000000 ∧ nm.size ≤ 1048576) := ⟨by have := HSZ.out; have e : (d + 1) * 1048577 = d * 1048577 + 1048577 := Nat.succ_mul d 1048577; omega, hnm⟩
            have HSL := Aside0.mk (fun W => impl_slash.calls p nm (slashP p nm) W (slash_f p nm HP0.out (by have := HPS.out; omega) (by have := HPS.out; omega)))
            have hw1 : IntKind.i64.wrap ((i : Int) + 1) = ((i + 1 : Nat) : Int) := wrap_upM hlt (by have := HLEN.out; omega)
            clear hLi hlt hi hF hin hnm hy1 hy2 HF
            go_upto_region 7 with (fail)
            have hb5 : Below wr.heap.size wr (wr.alloc (.cells #[.string nm, .int .i64 nd] 144 (0, 0))) := below_alloc (Below.refl _ _) _
            have bk6 := blk_new wr (.cells #[.string nm, .int .i64 nd] 144 (0, 0))
            obtain ⟨g6, hg6⟩ : ∃ g, g = wr.heap.size := ⟨_, rfl⟩
            obtain ⟨W5, hW5⟩ : ∃ W, W = wr.alloc (.cells #[.string nm, .int .i64 nd] 144 (0, 0)) := ⟨_, rfl⟩
            rw [← hW5] at hb5 bk6
            rw [← hg6] at bk6
            rw [← hW5, ← hg6]
            have HG6 : Aside0 (W1.heap.size ≤ g6 ∧ wr.heap.size = g6 ∧ g < W1.heap.size) := ⟨by have := HS.out; omega, hg6.symm, by have := HGL.out; have := HWS.out; omega⟩
            have O5 := Aside0.mk (O.out.bound.step hb5 O.out.below.size)
            have K5 := Aside0.mk (KK.out.below hb5)
            have BK75 := Aside0.mk (blk_below BK7.out hb5)
            have BK85 := Aside0.mk (blk_below BK8.out hb5)
            have BK65 := Aside0.mk bk6
            have HS5 : Aside0 (wr.heap.size ≤ W5.heap.size) := ⟨hb5.size⟩
            clear hb5 bk6 hW5 hg6 O KK BK7 BK8 hn0 hn1
            have HN7 : Aside0 (¬ ((P1 g7 ∧ g7 < wr.heap.size) ∨ g7 = g)) := ⟨fun h => by have h1 := HG78.out; have h2 := HGN.out; rcases h with h | h; rcases HP1.out g7 h.1 with h3 | h3; omega; omega; exact h2.1 h⟩
            have HN8 : Aside0 (¬ ((P1 g8 ∧ g8 < wr.heap.size) ∨ g8 = g)) := ⟨fun h => by have h1 := HG78.out; have h2 := HGN.out; rcases h with h | h; rcases HP1.out g8 h.1 with h3 | h3; omega; omega; exact h2.2 h⟩
            have HN6 : Aside0 (¬ ((P1 g6 ∧ g6 < wr.heap.size) ∨ g6 = g)) := ⟨fun h => by have h1 := HG6.out; rcases h with h | h; omega; omega⟩
            have HPG5 : Aside0 (¬ (fun k => P1 k ∧ k < wr.heap.size) g) := ⟨fun h => HPG.out g h.1 rfl⟩
            have HPZ : Aside0 (0 < (slashP p nm).size ∧ (slashP p nm).size + d * 1048577 ≤ 1000000000) := ⟨by have h1 := slashP_size p nm; have h2 := HPS.out; have h3 := HP0.out; omega⟩
            have HB5 : Aside0 (w0.heap.size ≤ W5.heap.size) := ⟨O5.out.below.size⟩
            go_wp2_with fail
            go_region_held3 (fun W => W.cell? ⟨g7, 0, none⟩ = some (.slice (some bd) ns.length c0) ∧ W.cell? ⟨g7, 1, none⟩ = some (.int .i64 room) ∧ W.cell? ⟨g8, 0, none⟩ = some (.int .i64 cu) ∧ W.cell? ⟨g8, 1, none⟩ = some (.int .i64 cg) ∧ W.cell? ⟨g6, 0, none⟩ = some (.string nm) ∧ W.cell? ⟨g6, 1, none⟩ = some (.int .i64 nd)) (first | exact keepWd (blk_drew BK75.out) (blk_drew BK85.out) (blk_drew BK65.out) | exact keepWd (blk_kept (blk_below (blk_drew BK75.out) hd) hk6 HN7.out) (blk_kept (blk_below (blk_drew BK85.out) hd) hk6 HN8.out) (blk_kept (blk_below (blk_drew BK65.out) hd) hk6 HN6.out) | exact keepWd (blk_below (blk_drew BK75.out) hd) (blk_below (blk_drew BK85.out) hd) (blk_below (blk_drew BK65.out) hd)) (first | (go_at_call 133; refine (HSL.out _).mono ?_; rintro e w2' ⟨rfl, hd0⟩; have hd := below_drawn0 hd0) | (go_at_call 82; refine (HIH.out (slashP p nm) nd (acc.length : Int) (fun k => P1 k ∧ k < wr.heap.size) ac y w2' HY1.out HIN.out HPZ.out.1 HPZ.out.2 HYL.out HPG5.out (O5.out.step (below_step (below_drew1 (Below.refl _ _)) hd) HB5.out)).mono ?_; rintro e w6 ⟨u6, rfl, ho6, hk6⟩))
            have hd2 : Below W5.heap.size W5 w2' := below_step (below_drew1 (Below.refl _ _)) hd
            have HSZ6 : Aside0 (W1.heap.size ≤ w2'.heap.size ∧ w2'.heap.size ≤ w6.heap.size) := ⟨Nat.le_trans HS.out (Nat.le_trans HS5.out hd2.size), hk6.1⟩
            have O6 : Aside0 (WoodAt w0.heap.size w0 g w6 P1 y) := ⟨ho6.weak (fun k hk => hk.elim (fun h => h.1) (fun h => HF1.out k (Nat.le_trans HSZ6.out.1 h)))⟩
            have K6 : Aside0 (Kept w w6 (fun k => P0 k ∨ k = g)) := ⟨(K5.out.below hd2).then_ hk6 (fun k hk => hk.elim (fun h => (HP1.out k h.1).elim (fun h => .inl (.inl h.1)) (fun h => .inr (Nat.le_trans HWS.out h))) (fun h => .inl (.inr h)))⟩
            have BK76 := Aside0.mk (blk_kept (blk_below BK75.out hd2) hk6 HN7.out)
            have BK86 := Aside0.mk (blk_kept (blk_below BK85.out hd2) hk6 HN8.out)
            have HS6 : Aside0 (W1.heap.size ≤ w6.heap.size) := ⟨Nat.le_trans HSZ6.out.1 HSZ6.out.2⟩
            clear hd2 hd hd0 ho6 hk6 BK75 BK85 BK65 O5 K5
            go_wp2
            go_roundw
            case rel => exact ⟨i + 1, y, HLT.out, by first | rfl | go_num, O6, HY2, K6, BK76, BK86, HS6⟩
            case measure => have := HLT.out; simp [intOf]; omega
def add_T6 : Bool × List (List Nat × List Nat) := (true, [([], []), ([], []), ([1], [1]), ([2], [2]), ([3], [3]), ([], []), ([5], [5]), ([4, 6], [4, 6]), ([0, 0, 1, 2, 3, 4, 5, 6, 7], [0]), ([8, 0, 1, 2, 3, 4, 5, 6, 7], [8]), ([9, 7, 7, 0, 1, 2, 3, 4, 5, 6, 7], [7, 9])])
def add_B6 : List Nat := [0, 0, 2, 6, 14, 0, 32, 126, 255, 511, 1023]
theorem add_tab6 : rtab .any (opsOf Tryz.f78 6) = add_T6 := by kernel_rfl
theorem add_bits6 : waitsOk add_T6.2 add_B6 = true := by kernel_rfl
abbrev Stp := Int × ByteArray × Bool
abbrev kStp : Kd Stp := Kd.pair (Kd.int .i64) (Kd.pair Kd.string Kd.bool)
theorem stpInfo : (Tryz.prog.info? 67).map (fun i => (i.zero, i.size, i.bytes)) = some (some (.agg #[.int .i64 0, .string ⟨#[]⟩, .bool false]), 3, 32) := by kernel_rfl
theorem C_stp {W : World} {k T : Nat} {x : Int} {p : ByteArray} {sh : Bool} (h : W.heap[k]? = some (.cells #[.int .i64 x, .string p, .bool sh] T (0, 0))) : kStp.C W (some ⟨k, 0, none⟩) 1 [(x, p, sh)] := by
  refine ⟨rfl, by omega, fun _ => ⟨⟨k, 0, none⟩, rfl, fun j q hj => ?_⟩⟩
  have hj0 : j = 0 := by have := (List.getElem?_eq_some_iff.1 hj).1; simp at this; exact this
  subst hj0
  have hp : (x, p, sh) = q := by simpa using hj
  subst hp
  refine ⟨[.int .i64 x, .string p, .bool sh], rfl, ⟨[.int .i64 x], [.string p, .bool sh], rfl, rfl, [.string p], [.bool sh], rfl, rfl, rfl⟩, fun i u hu => ?_⟩
  have e : ∀ o : Nat, (⟨k, 0, none⟩ : Addr).add (0 * kStp.sz + o) = ⟨k, o, none⟩ := fun o => by simp [Addr.add]; omega
  rw [e]
  rw [blk_cell h i, ← hu]
  simp
theorem Kd.R_growS {e base : Nat} {ok : Nat → Prop} {w w1 : World} {v u : Value} {xs : List Stp} (h : kStp.R e w base ok v xs) (hg : w.grownBy w1 u.ownBlock) (hs : Sep v u) : kStp.R e w1 base ok v xs :=
  Kd.R_flat (fun h => h) (Kd.R_grown (Kd.R_flat (ok' := fun k => v.ownBlock = some k) (fun h => h) h (fun k hk _ => hk)) hg (fun k hk e => hs k hk e.symm)) (fun k hk _ => h.1 k hk)
structure TreeAt (B : Nat) (w0 : World) (g : Nat) (W : World) (P : Nat → Prop) (us : List Int) (ss : List Stp) : Prop where
  at_ : ∃ u1 u2 : Value, W.heap[g]? = some (.cells #[u1, u2] 65 (0, 0)) ∧ Kd.R (Kd.int .i64) 3 W B P u1 us ∧ kStp.R 67 W B P u2 ss ∧ Sep u1 u2
  below : Below B w0 W
theorem TreeAt.weak {B g : Nat} {w0 W : World} {P P2 : Nat → Prop} {us : List Int} {ss : List Stp} (h : TreeAt B w0 g W P us ss) (hp : ∀ k, P k → P2 k) : TreeAt B w0 g W P2 us ss := by
  obtain ⟨u1, u2, hb, h1, h2, s⟩ := h.at_
  exact ⟨⟨u1, u2, hb, Kd.R_mono h1 hp, Kd.R_mono h2 hp, s⟩, h.below⟩
theorem TreeAt.bound {B g : Nat} {w0 W : World} {P : Nat → Prop} {us : List Int} {ss : List Stp} (h : TreeAt B w0 g W P us ss) : TreeAt B w0 g W (fun k => P k ∧ k < W.heap.size) us ss := by
  obtain ⟨u1, u2, hb, h1, h2, s⟩ := h.at_
  exact ⟨⟨u1, u2, hb, Kd.R_mono (Kd.R_bound h1) (fun _ hk => ⟨hk.1, hk.2.2.1⟩), Kd.R_mono (Kd.R_bound h2) (fun _ hk => ⟨hk.1, hk.2.2.1⟩), s⟩, h.below⟩
theorem TreeAt.step {B g : Nat} {w0 W W2 : World} {P : Nat → Prop} {us : List Int} {ss : List Stp} (h : TreeAt B w0 g W P us ss) (hb : Below W.heap.size W W2) (hB : B ≤ W.heap.size) : TreeAt B w0 g W2 P us ss := by
  obtain ⟨u1, u2, hbk, h1, h2, s⟩ := h.at_
  exact ⟨⟨u1, u2, blk_below hbk hb, Kd.R_below h1 hb, Kd.R_below h2 hb, s⟩, h.below.trans (hb.mono hB)⟩
def shutB (ns : List Nd) (cu cg : Int) (x : Int) : Bool := ((ndR ns x).f0 == 2) && !mayB cu cg (ndR ns x) 5
def stpOf (ns : List Nd) (cu cg : Int) (t : Tk) : Stp := (t.2.2, t.2.1, shutB ns cu cg t.2.2)
theorem l8Join_f (a b : ByteArray) (h0 : 0 < a.size) (ha : a.size ≤ 2000000000) (hb : b.size ≤ 2000000) : spec_l8Join.f a b = some (slashP a b) := by
  unfold spec_l8Join.f slashP endsB
  have e : wrap64 ((a.size : Int) - 1) = (a.size : Int) - 1 := by unfold wrap64; omega
  rw [e, if_pos (by omega), if_pos (by omega)]
  by_cases h : bt a ((a.size : Int) - 1) = 47
  · rw [if_pos h, if_pos (by omega), if_pos (by simpa using h)]
  · rw [if_neg h, if_pos (by omega), if_pos (by rw [ByteArray.size_append]; simp only [ByteArray.size, List.size_toArray, List.length_cons, List.length_nil] at *; omega), if_neg (by simpa using h)]
set_option maxHeartbeats 8000000 in
set_option maxRecDepth 100000 in
theorem add_calls (room cu cg : Int) (A0 : Option Addr) (c0 : Nat) (ns : List Nd) (w0 : World) (hr0 : Kd.C k85 w0 A0 ns.length ns) (hc0 : ns.length ≤ c0) (hf : FsFit ns) (hgood : SGood ns room) (g : Nat) (hg : w0.heap.size ≤ g) (d : Nat) : ∀ (p : ByteArray) (x above : Int) (P0 : Nat → Prop) (acc acc' : List Tk) (w : World),
    growD (chT ns cu cg) d acc x above p = some acc' → x ∈ allN ns.length → 0 < p.size → p.size + d * 1048577 ≤ 1000000000 → acc'.length ≤ 100000000 → ¬ P0 g → TreeAt w0.heap.size w0 g w P0 (acc.map (·.1)) (acc.map (stpOf ns cu cg)) →
    Calls Tryz.prog 78 #[.pointer (some ⟨g, 0, none⟩), .agg #[.slice A0 ns.length c0, .int .i64 room], .agg #[.int .i64 cu, .int .i64 cg], .int .i64 x, .string p, .int .i64 above] w fun e w' => ∃ u, e = .returned u ∧ TreeAt w0.heap.size w0 g w' (fun k => P0 k ∨ w.heap.size ≤ k) (acc'.map (·.1)) (acc'.map (stpOf ns cu cg)) ∧ Kept w w' (fun k => P0 k ∨ k = g) := by
  have hu1 := Tryz.underlying34
  have hu2 := Tryz.underlying85
  have hu3 := Tryz.underlying144
  have hu4 := Tryz.underlying65
  have hu5 := Tryz.underlying36
  have hu6 := Tryz.underlying67
  have HR0 := Aside0.mk hr0
  have HC0 := Aside0.mk hc0
  have HFIT := Aside0.mk hf
  have HGD := Aside0.mk hgood
  have HG := Aside0.mk hg
  clear hr0 hc0 hf hgood hg
  induction d with
  | zero => intro p x above P0 acc acc' w h; cases h
  | succ d ih =>
    intro p x above P0 acc acc' w h hx hp0 hsz hl hP ho
    have HIH := Aside0.mk ih
    clear ih
    unfold growD at h
    have hlen := growL_len _ _ _ _ _ _ _ h
    simp only [List.length_append, List.length_cons, List.length_nil] at hlen
    have HLN : Aside0 (acc.length ≤ 100000000) := ⟨by omega⟩
    have HLL : Aside0 (acc'.length ≤ 100000000) := ⟨hl⟩
    have HGR := Aside0.mk h
    obtain ⟨u1, u2, hbox, ra, rb, s12⟩ := ho.at_
    have HGL := Aside0.mk (blk_lt hbox)
    have HX := Aside0.mk hx
    have HSZ := Aside0.mk hsz
    have HP0 := Aside0.mk hp0
    have HP := Aside0.mk hP
    have HO := Aside0.mk ho.below
    have HS12 := Aside0.mk s12
    obtain ⟨Au, cc, hU⟩ := Kd.R_slice ra
    rw [List.length_map] at hU
    subst hU
    have HBOX := Aside0.mk hbox
    have HRA := Aside0.mk ra
    have HRB := Aside0.mk rb
    have HBF := Aside0.mk (HO.out.size)
    have HRBL : Aside0 (∀ k, u2.ownBlock = some k → k < w.heap.size) := ⟨fun k hk => Kd.R_lt rb k hk⟩
    have hgl : g < w.heap.size := HGL.out
    have b0 : w.cell? ⟨g, 0, none⟩ = some (.slice Au acc.length cc) := (blk_cell hbox 0).trans rfl
    clear h hlen hx hsz hl hP ho hbox ra rb s12 hp0
    go_enter Tryz.func78, Tryz.ntmps78
    go_upto_region 2 with (fail)
    obtain ⟨W1, hW1⟩ : ∃ W, W = (w.alloc (.cells #[.slice A0 ns.length c0, .int .i64 room] 34 (0, 0))).alloc (.cells #[.int .i64 cu, .int .i64 cg] 36 (0, 0)) := ⟨_, rfl⟩
    have hb1 : Below w.heap.size w W1 := by rw [hW1]; exact below_alloc (below_alloc (Below.refl _ _) _) _
    have bk7 : W1.heap[w.heap.size]? = some (.cells #[.slice A0 ns.length c0, .int .i64 room] 34 (0, 0)) := by rw [hW1]; exact blk_alloc (blk_new _ _) _
    have bk8 : W1.heap[w.heap.size + 1]? = some (.cells #[.int .i64 cu, .int .i64 cg] 36 (0, 0)) := by rw [hW1]; have h := blk_new (w.alloc (.cells #[.slice A0 ns.length c0, .int .i64 room] 34 (0, 0))) (.cells #[.int .i64 cu, .int .i64 cg] 36 (0, 0)); rwa [World.size_alloc] at h
    obtain ⟨g7, hg7⟩ : ∃ k, k = w.heap.size := ⟨_, rfl⟩
    obtain ⟨g8, hg8⟩ : ∃ k, k = w.heap.size + 1 := ⟨_, rfl⟩
    rw [← hg7] at bk7
    rw [← hg8] at bk8
    rw [← hW1, ← hg8, ← hg7]
    have BK7 := Aside0.mk bk7
    have BK8 := Aside0.mk bk8
    have HG78 : Aside0 (w.heap.size ≤ g7 ∧ w.heap.size ≤ g8 ∧ g7 < W1.heap.size ∧ g8 < W1.heap.size ∧ g7 ≠ g ∧ g8 ≠ g) := ⟨by omega, by omega, blk_lt bk7, blk_lt bk8, by omega, by omega⟩
    have HWS : Aside0 (w.heap.size ≤ W1.heap.size) := ⟨hb1.size⟩
    have HU1 : Aside0 (∀ k, (Value.slice Au acc.length cc).ownBlock = some k → P0 k ∧ k < w.heap.size) := ⟨fun k hk => ⟨HRA.out.1 k hk, Kd.R_lt HRA.out k hk⟩⟩
    have BEL1 := Aside0.mk (HO.out.trans (hb1.mono HBF.out))
    have BX1 := Aside0.mk (blk_below HBOX.out hb1)
    have RA1 := Aside0.mk (Kd.R_below (Kd.R_mono (ok' := fun k => (P0 k ∧ k < w.heap.size) ∨ W1.heap.size ≤ k) (Kd.R_bound HRA.out) (fun k hk => .inl ⟨hk.1, hk.2.2.1⟩)) hb1)
    have RB1 := Aside0.mk (Kd.R_below (Kd.R_mono (ok' := fun k => (P0 k ∧ k < w.heap.size) ∨ W1.heap.size ≤ k) (Kd.R_bound HRB.out) (fun k hk => .inl ⟨hk.1, hk.2.2.1⟩)) hb1)
    have K1 : Aside0 (Kept w W1 (fun k => P0 k ∨ k = g)) := ⟨Kept.of_below hb1 _⟩
    have c1 : W1.cell? ⟨g, 0, none⟩ = some (.slice Au acc.length cc) := (blk_cell BX1.out 0).trans rfl
    have f1 : W1.frozen? ⟨g, 0, none⟩ = false := blk_frozen BX1.out 0
    clear hW1 hb1 bk7 bk8 hg7 hg8 b0 HBOX HRA HRB hgl
    go_upto_region 4 with (first | ((with_reducible refine gate_dst (N := 29) rfl ?_); refine Kd.R_append (Kd.int .i64) (w0 := w0) (W := W1) w0.heap.size rfl (.tmp 26) (.tmp 28) 28 3 (.int .i64 0) 8 rfl Tryz.underlying28 intInfoW rfl (by decide) (by decide) (.slice Au acc.length cc) (acc.map (·.1)) above [.int .i64 above] (fun k => (P0 k ∧ k < w.heap.size) ∨ W1.heap.size ≤ k) (fun _ => False) rfl rfl rfl (fun _ h => h.elim) ?hf RA1.out BEL1.out ?hz ?hl ?_; (case hf => (intro j hj; exact Or.inr hj)); (case hz => exact BEL1.out.size); (case hl => (have h := HLN.out; simp only [List.length_map]; omega)); intro v2 w2 ho2 hb2 hg2 hat2; obtain ⟨A2q, c2q, e2⟩ := Kd.R_slice ho2; subst e2; have bk2 := (hg2.block g (Nat.lt_of_lt_of_le HGL.out HWS.out) (fun e => HP.out (HU1.out g e.symm).1)).trans BX1.out; have c2 : w2.cell? ⟨g, 0, none⟩ = some (.slice Au acc.length cc) := (blk_cell bk2 0).trans rfl; have f2 : w2.frozen? ⟨g, 0, none⟩ = false := blk_frozen bk2 0))
    obtain ⟨P1, hP1⟩ : ∃ P : Nat → Prop, P = fun k => (P0 k ∧ k < w.heap.size) ∨ W1.heap.size ≤ k := ⟨_, rfl⟩
    rw [← hP1] at ho2 RA1 RB1
    have HF1 : Aside0 (∀ k, W1.heap.size ≤ k → P1 k) := ⟨fun k hk => by rw [hP1]; exact .inr hk⟩
    have HP1 : Aside0 (∀ k, P1 k → (P0 k ∧ k < w.heap.size) ∨ W1.heap.size ≤ k) := ⟨fun k hk => by rw [hP1] at hk; exact hk⟩
    have HPG : Aside0 (∀ k, P1 k → k ≠ g) := ⟨fun k hk e => by rcases HP1.out k hk with h | h; exact HP.out (e ▸ h.1); have h1 := HWS.out; have h2 := HGL.out; omega⟩
    have hll : (acc.map (·.1) ++ [above]).length = acc.length + 1 := by simp
    rw [hll] at ho2 hat2
    obtain ⟨V, hV⟩ : ∃ W, W = w2.setCell ⟨g, 0, none⟩ (.slice A2q (acc.length + 1) c2q) := ⟨_, rfl⟩
    have HUO : Aside0 (∀ k, u2.ownBlock = some k → k < w.heap.size) := ⟨fun k hk => by
      have h0 := RB1.out.1 k hk
      have h1 := HRBL.out k hk
      exact h1⟩
    have T2 : Aside0 (TreeAt w0.heap.size w0 g V P1 (acc.map (·.1) ++ [above]) (acc.map (stpOf ns cu cg))) := ⟨⟨⟨.slice A2q (acc.length + 1) c2q, u2, by rw [hV]; exact blk_put bk2 0 _ rfl, by rw [hV]; exact Kd.R_far (p := ⟨g, 0, none⟩) ho2 HPG.out _, by rw [hV]; exact Kd.R_far (p := ⟨g, 0, none⟩) (Kd.R_growS RB1.out hg2 HS12.out.symm) HPG.out _,
      hat2.elim (fun e => Sep.of_eq e HS12.out) (fun ⟨b, hb, hle⟩ => Sep.of_new hb (fun k hk => by have h1 := HUO.out k hk; have h2 := HWS.out; omega))⟩, by rw [hV]; exact hb2.setCell (p := ⟨g, 0, none⟩) HG.out _⟩⟩
    have KV : Aside0 (Kept w V (fun k => P0 k ∨ k = g)) := ⟨by rw [hV]; exact Kept.setCell (p := ⟨g, 0, none⟩) (Kept.of_grown hg2 K1.out (fun k hk => .inl (.inl (HU1.out k hk).1))) (.inl (.inr rfl)) _⟩
    have BV7 := Aside0.mk (show V.heap[g7]? = some (.cells #[.slice A0 ns.length c0, .int .i64 room] 34 (0, 0)) from by rw [hV]; exact blk_far ((hg2.block g7 (blk_lt BK7.out) (fun e => by have h1 := (HU1.out g7 e.symm).2; have h2 := HG78.out; omega)).trans BK7.out) (p := ⟨g, 0, none⟩) HG78.out.2.2.2.2.1 _)
    have BV8 := Aside0.mk (show V.heap[g8]? = some (.cells #[.int .i64 cu, .int .i64 cg] 36 (0, 0)) from by rw [hV]; exact blk_far ((hg2.block g8 (blk_lt BK8.out) (fun e => by have h1 := (HU1.out g8 e.symm).2; have h2 := HG78.out; omega)).trans BK8.out) (p := ⟨g, 0, none⟩) HG78.out.2.2.2.2.2 _)
    have HSV : Aside0 (W1.heap.size ≤ V.heap.size) := ⟨by rw [hV]; exact Nat.le_trans hg2.size (Below.setCell (B := 0) (Below.refl _ _) (Nat.zero_le _) _).size⟩
    have hsz2 : w2.heap.size = V.heap.size := by rw [hV]; simp [World.setCell]
    rw [← hV, hsz2]
    clear hV hsz2 ho2 hb2 hg2 hat2 bk2 c2 f2 c1 f1 RA1 RB1 BX1 K1 BEL1 BK7 BK8 HU1 HS12 hll
    obtain ⟨gs, hgs⟩ : ∃ k, k = V.heap.size := ⟨_, rfl⟩
    obtain ⟨W4, hW4⟩ : ∃ W, W = V.alloc (.cells #[.int .i64 x, .string p, .bool false] 67 (0, 0)) := ⟨_, rfl⟩
    have D4 := Aside0.mk (show Below V.heap.size V W4 from by rw [hW4]; exact below_alloc (Below.refl _ _) _)
    have BS4 := Aside0.mk (show W4.heap[gs]? = some (.cells #[.int .i64 x, .string p, .bool false] 67 (0, 0)) from by rw [hW4, hgs]; exact blk_new _ _)
    have HGS : Aside0 (V.heap.size ≤ gs ∧ gs ≠ g ∧ gs < W4.heap.size) := ⟨by omega, by have h1 := blk_lt (T2.out.at_).choose_spec.choose_spec.1; omega, blk_lt BS4.out⟩
    rw [← hW4, ← hgs]
    clear hW4 hgs
    obtain ⟨bd, B6, d6, hbd, hna, hd6, hC6⟩ := node_at HR0.out x HX.out
    subst hbd
    obtain ⟨nd, hnd⟩ : ∃ y, y = ndR ns x := ⟨_, rfl⟩
    rw [← hnd] at hna hd6 hC6
    have HND := Aside0.mk (show ndR ns x = nd from hnd.symm)
    have HC6 := Aside0.mk hC6
    obtain ⟨y0, y1⟩ := (allN_mem _ _).mp HX.out
    have q1 : ((0 : Int) ≤ x) = True := eq_true y0
    have q2 : (x < (ns.length : Int)) = True := eq_true y1
    have B4 := Aside0.mk (T2.out.below.trans (D4.out.mono T2.out.below.size))
    obtain ⟨a0, a1, a2, a3, a4, a5, a6⟩ := hna.below B4.out
    have m0 : W4.cell? ⟨g7, 0, none⟩ = some (.slice (some bd) ns.length c0) := (blk_cell (blk_below BV7.out D4.out) 0).trans rfl
    clear hnd hd6 hC6 hna y0 y1
    go_upto_region 5 with (fail)
    obtain ⟨gx, hgx⟩ : ∃ k, k = W4.heap.size := ⟨_, rfl⟩
    obtain ⟨W5, hW5⟩ : ∃ W, W = W4.alloc (.cells #[.int .i64 nd.f0, .int .i64 nd.f1, .int .i64 nd.f2, .int .i64 nd.f3, .int .i64 nd.f4, .string nd.f5, .slice B6 nd.f6.length d6] 85 (0, 0)) := ⟨_, rfl⟩
    have hb5 : Below W4.heap.size W4 W5 := by rw [hW5]; exact below_alloc (Below.refl _ _) _
    have D5 := Aside0.mk (below_step D4.out hb5)
    have B5 := Aside0.mk (B4.out.trans (hb5.mono B4.out.size))
    have BX5 := Aside0.mk (show W5.heap[gx]? = some (.cells #[.int .i64 nd.f0, .int .i64 nd.f1, .int .i64 nd.f2, .int .i64 nd.f3, .int .i64 nd.f4, .string nd.f5, .slice B6 nd.f6.length d6] 85 (0, 0)) from by rw [hW5, hgx]; exact blk_new _ _)
    have BS5 := Aside0.mk (blk_below BS4.out hb5)
    have HGX : Aside0 (V.heap.size ≤ gx ∧ gx ≠ gs ∧ gx ≠ g) := ⟨by have := D4.out.size; omega, by have := HGS.out; omega, by have h1 := blk_lt (T2.out.at_).choose_spec.choose_spec.1; have := D4.out.size; omega⟩
    rw [← hW5, ← hgx]
    have n0 : W5.cell? ⟨gx, 0, none⟩ = some (.int .i64 nd.f0) := (blk_cell BX5.out 0).trans rfl
    obtain ⟨m0', m1', n0', n1'⟩ := find22 (blk_below BV7.out D5.out) (blk_below BV8.out D5.out)
    have s2 : W5.cell? ⟨gs, 2, none⟩ = some (.bool false) := (blk_cell BS5.out 2).trans rfl
    have f2 : W5.frozen? ⟨gs, 2, none⟩ = false := blk_frozen BS5.out 2
    clear hW5 hgx hb5 D4 B4 BS4 a0 a1 a2 a3 a4 a5 a6 m0 q1 q2
    obtain ⟨sh, hsh⟩ : ∃ b, b = shutB ns cu cg x := ⟨_, rfl⟩
    have HSH := Aside0.mk hsh
    clear hsh
    go_cut [49] (fun v49 wc => v49 = .bool sh ∧ Aside0 (Below V.heap.size V wc) ∧ Aside0 (wc.heap[gs]? = some (.cells #[.int .i64 x, .string p, .bool sh] 67 (0, 0))) ∧ Aside0 (wc.heap[gx]? = some (.cells #[.int .i64 nd.f0, .int .i64 nd.f1, .int .i64 nd.f2, .int .i64 nd.f3, .int .i64 nd.f4, .string nd.f5, .slice B6 nd.f6.length d6] 85 (0, 0))))
    case first =>
      by_cases hk : nd.f0 = 2
      · have hb : (nd.f0 == 2) = true := by simpa using hk
        have hb2 : decide (nd.f0 = 2) = true := decide_eq_true hk
        have HMA := Aside0.mk (spec_l4May.calls (some bd) c0 ns room cu cg x 5 _ W5 (Kd.C_below HR0.out B5.out) HC0.out (l4May_f room cu cg x 5 (fun y hy => ((nodeB_iff ns y).mp (HGD.out.node y hy)).1) HX.out (by decide) (by decide)))
        rw [HND.out] at HMA
        have hsh : sh = !mayB cu cg nd 5 := by rw [HSH.out]; unfold shutB; rw [HND.out, hb, Bool.true_and]
        cases hm : mayB cu cg nd 5 <;> rw [hm] at HMA hsh <;> (
          have HS1 := Aside0.mk hsh
          clear hk hm hsh
          go_wp2_with fail
          refine (HMA.out).mono ?_; rintro e w6 ⟨rfl, hd⟩
          have BS6 := Aside0.mk (blk_below BS5.out hd)
          have s2' : w6.cell? ⟨gs, 2, none⟩ = some (.bool false) := (blk_cell BS6.out 2).trans rfl
          have f2' : w6.frozen? ⟨gs, 2, none⟩ = false := blk_frozen BS6.out 2
          clear s2 f2
          go_wp2
          go_meet
          case rel => exact ⟨by rw [HS1.out]; rfl, ⟨(below_step D5.out hd).setCell (p := ⟨gs, 2, none⟩) HGS.out.1 _⟩, ⟨by rw [HS1.out]; exact blk_put BS6.out 2 _ rfl⟩, ⟨blk_far (blk_below BX5.out hd) (p := ⟨gs, 2, none⟩) HGX.out.2.1 _⟩⟩)
      · have hb : (nd.f0 == 2) = false := by simpa using hk
        have hb2 : decide (nd.f0 = 2) = false := decide_eq_false hk
        have HS1 : Aside0 (sh = false) := ⟨by rw [HSH.out]; unfold shutB; rw [HND.out, hb, Bool.false_and]⟩
        clear hk
        go_wp2
        go_meet
        case rel => exact ⟨by rw [HS1.out], ⟨D5.out.setCell (p := ⟨gs, 2, none⟩) HGS.out.1 _⟩, ⟨by rw [HS1.out]; exact blk_put BS5.out 2 _ rfl⟩, ⟨blk_far BX5.out (p := ⟨gs, 2, none⟩) HGX.out.2.1 _⟩⟩
    case rest =>
    clear D5 B5 BX5 BS5 n0 m0' m1' n0' n1' s2 f2
    obtain ⟨rfl, D5, BS, BX⟩ := hcut
    obtain ⟨W5, hW5⟩ : ∃ W, W = wc := ⟨_, rfl⟩
    rw [← hW5] at D5 BS BX ⊢
    clear hW5
    have T5 := Aside0.mk (T2.out.step D5.out T2.out.below.size)
    obtain ⟨u1', u2', hbg, r1, r2, hsep⟩ := T5.out.at_
    obtain ⟨A2, c2, hU2⟩ := Kd.R_slice r2
    subst hU2
    obtain ⟨ss, hss⟩ : ∃ s, s = acc.map (stpOf ns cu cg) := ⟨_, rfl⟩
    rw [← hss] at hbg r2 hsep
    have HSS := Aside0.mk hss
    have BG := Aside0.mk hbg
    have R1 := Aside0.mk r1
    have RS := Aside0.mk r2
    have HSP := Aside0.mk hsep
    have BEL := Aside0.mk T5.out.below
    have HWS5 : Aside0 (W1.heap.size ≤ W5.heap.size) := ⟨Nat.le_trans HSV.out D5.out.size⟩
    have HSL : Aside0 (ss.length ≤ 100000000) := ⟨by rw [hss, List.length_map]; exact HLN.out⟩
    have HPS1 : Aside0 ((Value.slice A2 ss.length c2).ownBlock ≠ some gs) := ⟨fun e => by
      obtain ⟨v1, v2, hb', -, r2', -⟩ := T2.out.at_
      have e2 := (blk_below hb' D5.out).symm.trans hbg
      injection e2 with e2
      injection e2 with e2 _
      have e3 : v2 = .slice A2 ss.length c2 := by injection e2 with e2; injection e2 with _ e2; injection e2
      rw [← e3] at e
      have := Kd.R_lt r2' _ e
      have := HGS.out
      omega⟩
    have HPX : Aside0 ((Value.slice A2 ss.length c2).ownBlock ≠ some gx) := ⟨fun e => by
      obtain ⟨v1, v2, hb', -, r2', -⟩ := T2.out.at_
      have e2 := (blk_below hb' D5.out).symm.trans hbg
      injection e2 with e2
      injection e2 with e2 _
      have e3 : v2 = .slice A2 ss.length c2 := by injection e2 with e2; injection e2 with _ e2; injection e2
      rw [← e3] at e
      have := Kd.R_lt r2' _ e
      have := HGX.out
      omega⟩
    clear hss hbg r1 r2 hsep
    go_upto_region 6 with (fail)
    refine start_ (n := 11) (S := fun w' => w'.cell? ⟨g, 1, none⟩ = some (.slice A2 ss.length c2) ∧ w'.cell? ⟨gs, 0, none⟩ = some (.int .i64 x) ∧ w'.cell? ⟨gs, 1, none⟩ = some (.string p) ∧ w'.cell? ⟨gs, 2, none⟩ = some (.bool sh)) (ds := [10]) #[false, false, false, false, false, false, false, false, false, false, false] (by kernel_rfl) rfl rfl ⟨(blk_cell (blk_drew BG.out) 1).trans rfl, (blk_cell (blk_drew BS.out) 0).trans rfl, (blk_cell (blk_drew BS.out) 1).trans rfl, (blk_cell (blk_drew BS.out) 2).trans rfl⟩ (fun hHeld => ?_)
    refine with_tabW add_tab6 add_bits6 (fun HT_ HW_ => ?_)
    refine pure_ (i := 0) (N := some 51) (v := ?_) (a' := ?_) #[true, false, false, false, false, false, false, false, false, false, false] rfl rfl (any_of HT_.out (by kernel_rfl)) (fun _ _ _ h => h) (Or.inl ⟨by rfl, ?_⟩) ?_ ?_
    rotate_left
    · intro w'
      go_simp
      with_reducible rfl
    rotate_left
    · simp only [Act.put, List.setIfInBounds_toArray, List.set_cons_zero, List.set_cons_succ, i64_w, i32_w]
      rfl
    refine pure_ (i := 1) (N := some 52) (v := ?_) (a' := ?_) #[true, true, false, false, false, false, false, false, false, false, false] rfl rfl (any_of HT_.out (by kernel_rfl)) (fun _ _ _ h => h) (Or.inl ⟨by rfl, ?_⟩) ?_ ?_
    rotate_left
    · intro w'
      go_simp
      with_reducible rfl
    rotate_left
    · simp only [Act.put, List.setIfInBounds_toArray, List.set_cons_zero, List.set_cons_succ, i64_w, i32_w]
      rfl
    refine pure_ (i := 2) (N := some 53) (v := ?_) (a' := ?_) #[true, true, true, false, false, false, false, false, false, false, false] rfl rfl (any_of HT_.out (by kernel_rfl)) (fun _ _ _ h => h) (Or.inl ⟨by rfl, ?_⟩) ?_ ?_
    rotate_left
    · intro w'
      go_simp
      with_reducible rfl
    rotate_left
    · simp only [Act.put, List.setIfInBounds_toArray, List.set_cons_zero, List.set_cons_succ, i64_w, i32_w]
      rfl
    refine pure_ (i := 3) (N := some 54) (v := ?_) (a' := ?_) #[true, true, true, true, false, false, false, false, false, false, false] rfl rfl (any_of HT_.out (by kernel_rfl)) (fun _ _ _ h => h) (Or.inl ⟨by rfl, ?_⟩) ?_ ?_
    rotate_left
    · intro w'
      go_simp
      with_reducible rfl
    rotate_left
    · simp only [Act.put, List.setIfInBounds_toArray, List.set_cons_zero, List.set_cons_succ, i64_w, i32_w]
      rfl
    refine take_ (i := 4) (N := some 55) (v := ?_) (a' := ?_) #[true, true, true, true, true, false, false, false, false, false, false] rfl rfl (take_ofW HT_.out HW_.out (by kernel_rfl)) (fun _ _ _ h => h) (Or.inl ⟨by rfl, ?_⟩) hHeld ?_ ?_
    rotate_left
    · rintro w' ⟨s0, s1, s2, s3⟩
      go_simp
      with_reducible rfl
    rotate_left
    · simp only [Act.put, List.setIfInBounds_toArray, List.set_cons_zero, List.set_cons_succ, i64_w, i32_w]
      rfl
    refine take_ (i := 5) (N := some 56) (v := ?_) (a' := ?_) #[true, true, true, true, true, true, false, false, false, false, false] rfl rfl (take_ofW HT_.out HW_.out (by kernel_rfl)) (fun _ _ _ h => h) (Or.inl ⟨by rfl, ?_⟩) hHeld ?_ ?_
    rotate_left
    · rintro w' ⟨s0, s1, s2, s3⟩
      go_simp
      with_reducible rfl
    rotate_left
    · simp only [Act.put, List.setIfInBounds_toArray, List.set_cons_zero, List.set_cons_succ, i64_w, i32_w]
      rfl
    refine one_ (i := 6) (N := some 57) #[true, true, true, true, true, true, true, false, false, false, false] rfl rfl (one_of HT_.out (by kernel_rfl)) (by decide) (fun K hK => ?_)
    refine value_ (w1 := W5.drew.alloc (.cells #[.int .i64 x, .string p, .bool sh] 67 (0, 0))) (v := .slice (some ⟨W5.heap.size, 0, none⟩) 1 1) (by rfl) rfl ?_ ?_
    · go_simp
      try rfl
    have D6 := Aside0.mk (show Below W5.heap.size W5 (W5.drew.alloc (.cells #[.int .i64 x, .string p, .bool sh] 67 (0, 0))) from below_alloc (below_drew1 (Below.refl _ _)) _)
    have L6 := Aside0.mk (show (W5.drew.alloc (.cells #[.int .i64 x, .string p, .bool sh] 67 (0, 0))).heap[W5.heap.size]? = some (.cells #[.int .i64 x, .string p, .bool sh] 67 (0, 0)) from blk_new _ _)
    generalize W5.drew.alloc (.cells #[.int .i64 x, .string p, .bool sh] 67 (0, 0)) = w6 at D6 L6 ⊢
    refine hK.out _ _ ⟨(blk_cell (blk_below BG.out D6.out) 1).trans rfl, (blk_cell (blk_below BS.out D6.out) 0).trans rfl, (blk_cell (blk_below BS.out D6.out) 1).trans rfl, (blk_cell (blk_below BS.out D6.out) 2).trans rfl⟩ (fun hHeld => ?_)
    clear hK K
    refine norm_ (a' := ?_) ?_ ?_
    rotate_left
    · show Act.put _ (some 57) _ = _
      simp only [Act.put, List.setIfInBounds_toArray, List.set_cons_zero, List.set_cons_succ, i64_w, i32_w]
      rfl
    refine one_ (i := 7) (N := some 58) #[true, true, true, true, true, true, true, true, false, false, false] rfl rfl (one_of HT_.out (by kernel_rfl)) (by decide) (fun K hK => ?_)
    refine Kd.R_append_rows_step kStp (w0 := w0) w0.heap.size (by rfl) (.tmp 55) (.tmp 57) 63 67 (.agg #[.int .i64 0, .string ⟨#[]⟩, .bool false]) 32 rfl Tryz.underlying63 stpInfo rfl (by decide) (by decide) (.slice A2 ss.length c2) ss [(x, p, sh)] (some ⟨W5.heap.size, 0, none⟩) 1 1 P1 (fun _ => False) rfl rfl (Kd.R_below RS.out D6.out) (C_stp L6.out) (fun _ _ h => h) (fun _ h => h.elim) (fun k hk => HF1.out k (Nat.le_trans HWS5.out (Nat.le_trans D6.out.size hk))) (BEL.out.trans (D6.out.mono BEL.out.size)) (Nat.le_trans BEL.out.size D6.out.size) ?hl ?_
    case hl => have h := HSL.out; omega
    intro v7 w7 ho7 hb7 hg7 hat7
    refine hK.out _ _ ⟨(blk_cell ((hg7.block g (Nat.lt_of_lt_of_le (blk_lt BG.out) D6.out.size) (fun e => HPG.out g (RS.out.1 g e.symm) rfl)).trans (blk_below BG.out D6.out)) 1).trans rfl, (blk_cell ((hg7.block gs (Nat.lt_of_lt_of_le (blk_lt BS.out) D6.out.size) (fun e => HPS1.out e.symm)).trans (blk_below BS.out D6.out)) 0).trans rfl, (blk_cell ((hg7.block gs (Nat.lt_of_lt_of_le (blk_lt BS.out) D6.out.size) (fun e => HPS1.out e.symm)).trans (blk_below BS.out D6.out)) 1).trans rfl, (blk_cell ((hg7.block gs (Nat.lt_of_lt_of_le (blk_lt BS.out) D6.out.size) (fun e => HPS1.out e.symm)).trans (blk_below BS.out D6.out)) 2).trans rfl⟩ (fun hHeld => ?_)
    clear hK K
    refine norm_ (a' := ?_) ?_ ?_
    rotate_left
    · show Act.put _ (some 58) _ = _
      simp only [Act.put, List.setIfInBounds_toArray, List.set_cons_zero, List.set_cons_succ, i64_w, i32_w]
      rfl
    refine pure_ (i := 8) (N := some 59) (v := ?_) (a' := ?_) #[true, true, true, true, true, true, true, true, true, false, false] rfl rfl (any_of HT_.out (by kernel_rfl)) (fun _ _ _ h => h) (Or.inl ⟨by rfl, ?_⟩) ?_ ?_
    rotate_left
    · intro w'
      go_simp
      with_reducible rfl
    rotate_left
    · simp only [Act.put, List.setIfInBounds_toArray, List.set_cons_zero, List.set_cons_succ, i64_w, i32_w]
      rfl
    refine pure_ (i := 9) (N := some 60) (v := ?_) (a' := ?_) #[true, true, true, true, true, true, true, true, true, true, false] rfl rfl (any_of HT_.out (by kernel_rfl)) (fun _ _ _ h => h) (Or.inl ⟨by rfl, ?_⟩) ?_ ?_
    rotate_left
    · intro w'
      go_simp
      with_reducible rfl
    rotate_left
    · simp only [Act.put, List.setIfInBounds_toArray, List.set_cons_zero, List.set_cons_succ, i64_w, i32_w]
      rfl
    refine last_ (i := 10) (N := none) #[true, true, true, true, true, true, true, true, true, true, true] rfl rfl (one_of HT_.out (by kernel_rfl)) (by decide) (fun K hK => ?_)
    have BG7 := Aside0.mk ((hg7.block g (Nat.lt_of_lt_of_le (blk_lt BG.out) D6.out.size) (fun e => HPG.out g (RS.out.1 g e.symm) rfl)).trans (blk_below BG.out D6.out))
    have c_ := hHeld.1
    have f_ : w7.frozen? ⟨g, 1, none⟩ = false := blk_frozen BG7.out 1
    obtain ⟨A7, c7, e7⟩ := Kd.R_slice ho7
    subst e7
    refine skip_ (w1 := ?_) (by rfl) rfl ?_ ?_
    rotate_left
    · go_simp
      rfl
    refine hK.out _ _ ?_
    clear hK K
    refine done_ (done_of HT_.out (by kernel_rfl)) ?_
    have hl7 : (ss ++ [(x, p, sh)]).length = ss.length + 1 := by simp
    rw [hl7] at ho7 hat7
    obtain ⟨W8, hW8⟩ : ∃ W, W = w7.setCell ⟨g, 1, none⟩ (.slice A7 (ss.length + 1) c7) := ⟨_, rfl⟩
    have T8 : Aside0 (TreeAt w0.heap.size w0 g W8 P1 ((acc ++ [(above, p, x)]).map (·.1)) ((acc ++ [(above, p, x)]).map (stpOf ns cu cg))) := ⟨⟨⟨u1', .slice A7 (ss.length + 1) c7, by rw [hW8]; exact blk_put BG7.out 1 _ rfl, by
      rw [List.map_append, hW8]
      exact Kd.R_far (p := ⟨g, 1, none⟩) (Kd.R_growF (Kd.R_below R1.out D6.out) hg7 HSP.out) HPG.out _, by
      have e : (acc ++ [(above, p, x)]).map (stpOf ns cu cg) = ss ++ [(x, p, sh)] := by rw [List.map_append, HSS.out, HSH.out]; rfl
      rw [e, hW8]
      exact Kd.R_far (p := ⟨g, 1, none⟩) ho7 HPG.out _,
      hat7.elim (fun e => (Sep.of_eq e HSP.out.symm).symm) (fun ⟨b, hb, hle⟩ => (Sep.of_new hb (fun k hk => by have h1 := Kd.R_lt (Kd.R_below R1.out D6.out) k hk; omega)).symm)⟩, by rw [hW8]; exact hb7.setCell (p := ⟨g, 1, none⟩) HG.out _⟩⟩
    have OW := Aside0.mk (fun k (hk : (Value.slice A2 ss.length c2).ownBlock = some k) => RS.out.1 k hk)
    have K8 : Aside0 (Kept w W8 (fun k => P0 k ∨ k = g)) := ⟨by rw [hW8]; exact Kept.setCell (p := ⟨g, 1, none⟩) (Kept.of_grown hg7 (KV.out.below (below_step D5.out D6.out)) (fun k hk => (HP1.out k (OW.out k hk)).elim (fun h => .inl (.inl h.1)) (fun h => .inr (Nat.le_trans HWS.out h)))) (.inl (.inr rfl)) _⟩
    have HOG : Aside0 ((Value.slice A2 ss.length c2).ownBlock ≠ some g7 ∧ (Value.slice A2 ss.length c2).ownBlock ≠ some g8) := ⟨fun e => by have h1 := HG78.out; rcases HP1.out g7 (OW.out g7 e) with h | h; omega; omega, fun e => by have h1 := HG78.out; rcases HP1.out g8 (OW.out g8 e) with h | h; omega; omega⟩
    have hbk7 := blk_below (blk_below BV7.out D5.out) D6.out
    have hbk8 := blk_below (blk_below BV8.out D5.out) D6.out
    have hbs := blk_below BS.out D6.out
    have BK78 := Aside0.mk (show W8.heap[g7]? = some (.cells #[.slice (some bd) ns.length c0, .int .i64 room] 34 (0, 0)) from by rw [hW8]; exact blk_far ((hg7.block g7 (blk_lt hbk7) (fun e => HOG.out.1 e.symm)).trans hbk7) (p := ⟨g, 1, none⟩) HG78.out.2.2.2.2.1 _)
    have BK88 := Aside0.mk (show W8.heap[g8]? = some (.cells #[.int .i64 cu, .int .i64 cg] 36 (0, 0)) from by rw [hW8]; exact blk_far ((hg7.block g8 (blk_lt hbk8) (fun e => HOG.out.2 e.symm)).trans hbk8) (p := ⟨g, 1, none⟩) HG78.out.2.2.2.2.2 _)
    have BS8 := Aside0.mk (show W8.heap[gs]? = some (.cells #[.int .i64 x, .string p, .bool sh] 67 (0, 0)) from by rw [hW8]; exact blk_far ((hg7.block gs (blk_lt hbs) (fun e => HPS1.out e.symm)).trans hbs) (p := ⟨g, 1, none⟩) HGS.out.2.1 _)
    have HS8 : Aside0 (W1.heap.size ≤ W8.heap.size) := ⟨by rw [hW8]; exact Nat.le_trans HWS5.out (Nat.le_trans D6.out.size (Nat.le_trans hg7.size (Below.setCell (B := 0) (Below.refl _ _) (Nat.zero_le _) _).size))⟩
    rw [← hW8]
    have s2 : W8.cell? ⟨gs, 2, none⟩ = some (.bool sh) := (blk_cell BS8.out 2).trans rfl
    have HXL : Aside0 (W8.cell? ⟨gx, 6, none⟩ = some (.slice B6 nd.f6.length d6)) := ⟨by
      have hbx := blk_below BX.out D6.out
      have hn : (Value.slice A2 ss.length c2).ownBlock ≠ some gx := HPX.out
      rw [hW8]
      exact (blk_cell (blk_far ((hg7.block gx (blk_lt hbx) (fun e => hn e.symm)).trans hbx) (p := ⟨g, 1, none⟩) HGX.out.2.2 _) 6).trans rfl⟩
    clear hW8 ho7 hb7 hg7 hat7 hl7 BG7 c_ f_ hHeld hbk7 hbk8 hbs L6 D6 T5 R1 RS HSP BEL BG BS BX D5 OW HOG HPS1 HPX HSS HSL T2 KV BV7 BV8 HSV HWS5
    cases hsv : sh with
    | true =>
      rw [hsv] at s2
      have hch : chT ns cu cg x = [] := by
        have h := HSH.out
        rw [hsv] at h
        unfold shutB at h
        unfold chT
        rw [if_neg (fun q => by rw [q.2] at h; simp at h)]
      have hacc := HGR.out
      rw [hch] at hacc
      unfold growL at hacc
      injection hacc with hacc
      have HACC := Aside0.mk hacc
      clear hch hacc HGR hsv BS8 HXL BK78 BK88
      go_wp2
      (try simp only [Exit.inBlock, Exit.then])
      refine bodyPost_ret (results_none rfl _ _ _) rfl ?_
      refine ⟨⟨_, rfl⟩, ?_, K8.out⟩
      rw [← HACC.out]
      exact T8.out.weak (fun k hk => (HP1.out k hk).elim (fun h => .inl h.1) (fun h => .inr (Nat.le_trans HWS.out h)))
    | false =>
      rw [hsv] at s2
      have hch : chT ns cu cg x = nd.f6 := by
        have h := HSH.out
        rw [hsv] at h
        unfold shutB at h
        unfold chT
        by_cases hk : (ndR ns x).f0 = 2
        · rw [show ((ndR ns x).f0 == 2) = true by simpa using hk, Bool.true_and] at h
          rw [if_pos ⟨hk, by simpa using h.symm⟩, HND.out]
        · rw [if_neg (fun q => hk q.1)]
          rw [← HND.out]
          cases hL : (ndR ns x).f6 with
          | nil => rfl
          | cons e0 l0 =>
            have hd := ((good_sc (fun y hy => ((nodeB_iff ns y).mp (HGD.out.node y hy)).1) x e0.f1 (by unfold scN; rw [hL]; simp)).2)
            unfold dirN at hd
            exact absurd (by simpa using hd) hk
      have hgr := HGR.out
      rw [hch] at hgr
      obtain ⟨L, hLL⟩ : ∃ L, L = nd.f6 := ⟨_, rfl⟩
      have hLL2 : L = (ndR ns x).f6 := by rw [HND.out]; exact hLL
      have hmem : (∃ y, y ∈ ns ∧ L = y.f6) ∨ L = [] := by
        cases hL : L with
        | nil => exact .inr rfl
        | cons e0 l0 => exact .inl ⟨_, ndR_mem (y := x) (e := e0) (by rw [← hLL2, hL]; simp), by rw [← hL]; exact hLL2⟩
      have hlen : L.length ≤ 1048576 := by
        rcases hmem with ⟨y, hy, rfl⟩ | h
        · exact HFIT.out.list y hy
        · rw [h]; simp
      have hnm : ∀ e, e ∈ L → e.f0.size ≤ 1048576 := by
        intro e he
        rcases hmem with ⟨y, hy, rfl⟩ | h
        · exact HFIT.out.name y hy e he
        · rw [h] at he; simp at he
      have hsub := (tree_of HGD.out).sub x HX.out
      change ∀ y, y ∈ (ndR ns x).f6.map (·.f1) → _ at hsub
      rw [← hLL2] at hsub
      rw [← hLL] at hgr
      have HC6' := HC6.out
      have h6 := HXL.out
      rw [← hLL] at HC6' h6
      clear HC6
      have HC6 := Aside0.mk HC6'
      have HLEN := Aside0.mk hlen
      have HNM := Aside0.mk hnm
      have HSUB := Aside0.mk hsub
      have HGR2 := Aside0.mk hgr
      have hgl : g < W8.heap.size := blk_lt (T8.out.at_).choose_spec.choose_spec.1
      clear hch hgr hLL hLL2 hmem hlen hnm hsub HC6' HXL HGR hsv hgl BS8
      go_wp2
      go_loopw [66] (fun v66 wr => ∃ (i : Nat) (ac : List Tk), i ≤ L.length ∧ v66 = .int .i64 (i : Int) ∧ Aside0 (TreeAt w0.heap.size w0 g wr P1 (ac.map (·.1)) (ac.map (stpOf ns cu cg))) ∧ Aside0 (growL (growD (chT ns cu cg) d) (acc.length : Int) p (L.drop i) ac = some acc') ∧ Aside0 (Kept w wr (fun k => P0 k ∨ k = g)) ∧ Aside0 (wr.heap[g7]? = some (.cells #[.slice (some bd) ns.length c0, .int .i64 room] 34 (0, 0))) ∧ Aside0 (wr.heap[g8]? = some (.cells #[.int .i64 cu, .int .i64 cg] 36 (0, 0))) ∧ Aside0 (W1.heap.size ≤ wr.heap.size)) (fun v66 _ => L.length - (intOf v66).toNat)
      case atStart => exact ⟨0, _, Nat.zero_le _, rfl, T8, ⟨by rw [List.drop_zero]; exact HGR2.out⟩, K8, BK78, BK88, HS8⟩
      case round =>
        clear T8 K8 BK78 BK88 HS8 HGR2 h6 s2
        obtain ⟨i, ac, hi, rfl, O, HF, KK, BK7, BK8, HS⟩ := hrel
        by_cases hlt : i < L.length
        case neg =>
          have hil : i = L.length := by omega
          subst hil
          have p9 : decide ((L.length : Int) < (L.length : Int)) = false := by simp
          have HR : Aside0 (ac = acc') := ⟨by
            have h := HF.out
            rw [List.drop_length] at h
            unfold growL at h
            injection h⟩
          clear hlt hi
          go_wp2
          go_end0
          exact ⟨_, rfl, by rw [← HR.out]; exact O.out.weak (fun k hk => (HP1.out k hk).elim (fun h => .inl h.1) (fun h => .inr (Nat.le_trans HWS.out h))), KK.out⟩
        case pos =>
          have HLT := Aside0.mk hlt
          have p9 : decide ((i : Int) < (L.length : Int)) = true := decide_eq_true (by omega)
          have p8 : ((i : Int) < (L.length : Int)) = True := eq_true (by omega)
          have p7 : ((0 : Int) ≤ (i : Int)) = True := eq_true (by omega)
          obtain ⟨be, rfl, hn0, hn1⟩ := at_T144 (Kd.C_below HC6.out O.out.below) (i : Int) (by omega) (by omega)
          rw [Int.toNat_natCast] at hn0 hn1
          have hLi : rd_T144 L (i : Int) = L[i] := by unfold rd_T144; simp [List.getD, hlt]
          rw [hLi] at hn0 hn1
          have hF := HF.out
          rw [List.drop_eq_getElem_cons hlt] at hF
          have hin := HSUB.out L[i].f1 (List.mem_map.mpr ⟨L[i], List.getElem_mem hlt, rfl⟩)
          have hnm := HNM.out L[i] (List.getElem_mem hlt)
          obtain ⟨y, hy1, hy2⟩ := growL_cons hF
          generalize L[i].f0 = nm at hn0 hy1 hnm
          generalize L[i].f1 = nd at hn1 hy1 hin
          have HY1 := Aside0.mk hy1
          have HY2 := Aside0.mk hy2
          have HYL : Aside0 (y.length ≤ 100000000) := ⟨Nat.le_trans (growL_len _ _ _ _ _ _ _ hy2) HLL.out⟩
          have HIN := Aside0.mk hin
          have HPS : Aside0 (p.size + nm.size + 1 + d * 1048577 ≤ 1000000000 ∧ nm.size ≤ 1048576) := ⟨by have := HSZ.out; have e : (d + 1) * 1048577 = d * 1048577 + 1048577 := Nat.succ_mul d 1048577; omega, hnm⟩
          have HSL := Aside0.mk (fun W => spec_l8Join.calls p nm (slashP p nm) W (l8Join_f p nm HP0.out (by have := HPS.out; omega) (by have := HPS.out; omega)))
          have hw1 : IntKind.i64.wrap ((i : Int) + 1) = ((i + 1 : Nat) : Int) := wrap_upM hlt (by have := HLEN.out; omega)
          clear hLi hlt hi hF hin hnm hy1 hy2 HF
          go_upto_region 11 with (fail)
          have hb5 : Below wr.heap.size wr (wr.alloc (.cells #[.string nm, .int .i64 nd] 144 (0, 0))) := below_alloc (Below.refl _ _) _
          have bk6 := blk_new wr (.cells #[.string nm, .int .i64 nd] 144 (0, 0))
          obtain ⟨g6, hg6⟩ : ∃ g, g = wr.heap.size := ⟨_, rfl⟩
          obtain ⟨W5, hW5⟩ : ∃ W, W = wr.alloc (.cells #[.string nm, .int .i64 nd] 144 (0, 0)) := ⟨_, rfl⟩
          rw [← hW5] at hb5 bk6
          rw [← hg6] at bk6
          rw [← hW5, ← hg6]
          have HG6 : Aside0 (W1.heap.size ≤ g6 ∧ wr.heap.size = g6 ∧ g < W1.heap.size) := ⟨by have := HS.out; omega, hg6.symm, by have := HGL.out; have := HWS.out; omega⟩
          have O5 := Aside0.mk (O.out.bound.step hb5 O.out.below.size)
          have K5 := Aside0.mk (KK.out.below hb5)
          have BK75 := Aside0.mk (blk_below BK7.out hb5)
          have BK85 := Aside0.mk (blk_below BK8.out hb5)
          have BK65 := Aside0.mk bk6
          have HS5 : Aside0 (wr.heap.size ≤ W5.heap.size) := ⟨hb5.size⟩
          clear hb5 bk6 hW5 hg6 O KK BK7 BK8 hn0 hn1
          have HN7 : Aside0 (¬ ((P1 g7 ∧ g7 < wr.heap.size) ∨ g7 = g)) := ⟨fun h => by have h1 := HG78.out; rcases h with h | h; rcases HP1.out g7 h.1 with h3 | h3; omega; omega; exact h1.2.2.2.2.1 h⟩
          have HN8 : Aside0 (¬ ((P1 g8 ∧ g8 < wr.heap.size) ∨ g8 = g)) := ⟨fun h => by have h1 := HG78.out; rcases h with h | h; rcases HP1.out g8 h.1 with h3 | h3; omega; omega; exact h1.2.2.2.2.2 h⟩
          have HN6 : Aside0 (¬ ((P1 g6 ∧ g6 < wr.heap.size) ∨ g6 = g)) := ⟨fun h => by have h1 := HG6.out; rcases h with h | h; omega; omega⟩
          have HPG5 : Aside0 (¬ (fun k => P1 k ∧ k < wr.heap.size) g) := ⟨fun h => HPG.out g h.1 rfl⟩
          have HPZ : Aside0 (0 < (slashP p nm).size ∧ (slashP p nm).size + d * 1048577 ≤ 1000000000) := ⟨by have h1 := slashP_size p nm; have h2 := HPS.out; have h3 := HP0.out; omega⟩
          have HB5 : Aside0 (w0.heap.size ≤ W5.heap.size) := ⟨O5.out.below.size⟩
          go_wp2_with fail
          go_region_held3 (fun W => W.cell? ⟨g7, 0, none⟩ = some (.slice (some bd) ns.length c0) ∧ W.cell? ⟨g7, 1, none⟩ = some (.int .i64 room) ∧ W.cell? ⟨g8, 0, none⟩ = some (.int .i64 cu) ∧ W.cell? ⟨g8, 1, none⟩ = some (.int .i64 cg) ∧ W.cell? ⟨g6, 0, none⟩ = some (.string nm) ∧ W.cell? ⟨g6, 1, none⟩ = some (.int .i64 nd)) (first | exact keepWd (blk_drew BK75.out) (blk_drew BK85.out) (blk_drew BK65.out) | exact keepWd (blk_kept (blk_below (blk_drew BK75.out) hd) hk6 HN7.out) (blk_kept (blk_below (blk_drew BK85.out) hd) hk6 HN8.out) (blk_kept (blk_below (blk_drew BK65.out) hd) hk6 HN6.out) | exact keepWd (blk_below (blk_drew BK75.out) hd) (blk_below (blk_drew BK85.out) hd) (blk_below (blk_drew BK65.out) hd)) (first | (go_at_call 125; refine (HSL.out _).mono ?_; rintro e w2' ⟨rfl, hd0⟩; have hd := below_drawn0 hd0) | (go_at_call 78; refine (HIH.out (slashP p nm) nd (acc.length : Int) (fun k => P1 k ∧ k < wr.heap.size) ac y w2' HY1.out HIN.out HPZ.out.1 HPZ.out.2 HYL.out HPG5.out (O5.out.step (below_step (below_drew1 (Below.refl _ _)) hd) HB5.out)).mono ?_; rintro e w6 ⟨u6, rfl, ho6, hk6⟩))
          have hd2 : Below W5.heap.size W5 w2' := below_step (below_drew1 (Below.refl _ _)) hd
          have HSZ6 : Aside0 (W1.heap.size ≤ w2'.heap.size ∧ w2'.heap.size ≤ w6.heap.size) := ⟨Nat.le_trans HS.out (Nat.le_trans HS5.out hd2.size), hk6.1⟩
          have O6 : Aside0 (TreeAt w0.heap.size w0 g w6 P1 (y.map (·.1)) (y.map (stpOf ns cu cg))) := ⟨ho6.weak (fun k hk => hk.elim (fun h => h.1) (fun h => HF1.out k (Nat.le_trans HSZ6.out.1 h)))⟩
          have K6 : Aside0 (Kept w w6 (fun k => P0 k ∨ k = g)) := ⟨(K5.out.below hd2).then_ hk6 (fun k hk => hk.elim (fun h => (HP1.out k h.1).elim (fun h => .inl (.inl h.1)) (fun h => .inr (Nat.le_trans HWS.out h))) (fun h => .inl (.inr h)))⟩
          have BK76 := Aside0.mk (blk_kept (blk_below BK75.out hd2) hk6 HN7.out)
          have BK86 := Aside0.mk (blk_kept (blk_below BK85.out hd2) hk6 HN8.out)
          have HS6 : Aside0 (W1.heap.size ≤ w6.heap.size) := ⟨Nat.le_trans HSZ6.out.1 HSZ6.out.2⟩
          clear hd2 hd hd0 ho6 hk6 BK75 BK85 BK65 O5 K5
          go_wp2
          go_roundw
          case rel => exact ⟨i + 1, y, HLT.out, by first | rfl | go_num, O6, HY2, K6, BK76, BK86, HS6⟩
          case measure => have := HLT.out; simp [intOf]; omega
def woodOf_T8 : Bool × List (List Nat × List Nat) := (true, [([], []), ([], []), ([1], [1]), ([2], [2]), ([3], [3]), ([0, 0], [0]), ([4, 5, 0, 1, 2, 3, 4, 5], [4])])
def woodOf_B8 : List Nat := [0, 0, 2, 6, 14, 1, 63]
theorem woodOf_tab8 : rtab .any (opsOf Tryz.f40 8) = woodOf_T8 := by kernel_rfl
theorem woodOf_bits8 : waitsOk woodOf_T8.2 woodOf_B8 = true := by kernel_rfl
def woodT (ns : List Nd) (cu cg : Int) (path : ByteArray) : List Tk := woodR ns cu cg (findR ns cu cg path false).1 path
def woodOkB (ns : List Nd) (room cu cg : Int) (path : ByteArray) : Bool := askB ns room cu cg && ((findR ns cu cg path false).2 == 0 && decide ((woodT ns cu cg path).length ≤ 40))
theorem sc_sum {ns : List Nd} (hfit : FsFit ns) : ∀ l : List Int, (l.flatMap (scN ns)).length ≤ 1048576 * l.length
  | [] => by simp
  | a :: l => by
    have h1 := sc_sum hfit l
    have h2 := ndR_list hfit a
    rw [List.flatMap_cons, List.length_append, List.length_cons]
    unfold scN at *
    rw [List.length_map] at *
    omega
theorem goF_in {ns : List Nd} {room : Int} (hg : SGood ns room) (cu cg : Int) (fol ends : Bool) : ∀ (n : Nat) (a : Int) (ps : List ByteArray) (hops : Nat), a ∈ allN ns.length → hops ≤ 8 → (goF ns cu cg fol ends n a ps hops).1 ∈ allN ns.length
  | n, a, [], hops, ha, _ => by
    rw [goF_nil]
    unfold endF
    split
    · exact zero_all hg.len.1
    · exact ha
  | 0, _, _ :: _, _, _, _ => zero_all hg.len.1
  | n + 1, a, p :: rest, hops, ha, hh => by
    unfold goF
    cases e : stepF ns cu cg fol a p rest hops with
    | inl c => exact zero_all hg.len.1
    | inr t =>
      obtain ⟨a', ps, h'⟩ := t
      have h := stepF_ok (fun x hx => ((nodeB_iff ns x).mp (hg.node x hx)).1) (tree_of hg).sub hg.len.1 cu cg fol a ha p rest hops hh a' ps h' e
      exact goF_in hg cu cg fol ends n a' ps h' h.1 h.2.1
theorem findR_in {ns : List Nd} {room : Int} (hg : SGood ns room) (cu cg : Int) (path : ByteArray) (fol : Bool) : (findR ns cu cg path fol).1 ∈ allN ns.length := by
  unfold findR
  split
  · exact goF_in hg cu cg _ _ _ _ _ _ (zero_all hg.len.1) (Nat.zero_le _)
  · exact zero_all hg.len.1
theorem findR_whole {ns : List Nd} {cu cg : Int} {path : ByteArray} {fol : Bool} (h : (findR ns cu cg path fol).2 = 0) : wholeB path = true := by
  cases hw : wholeB path with
  | true => rfl
  | false =>
    unfold findR at h
    rw [hw, if_neg (by simp)] at h
    cases h
theorem woodT_len {ns : List Nd} {room : Int} (hf : FsFit ns) (hg : SGood ns room) (cu cg : Int) (path : ByteArray) : (woodT ns cu cg path).length ≤ 100000000 := by
  have h1 := woodR_len hf hg cu cg _ (findR_in hg cu cg path false) path
  have h2 := sc_sum hf (allN ns.length)
  rw [allN_len] at h2
  have h3 := hg.len
  unfold woodT
  omega
def WoodOut (ns : List Nd) (room cu cg : Int) (path : ByteArray) (w : World) (e : Ending) (w' : World) : Prop :=
  ∃ (u1 u2 u3 : Value) (acc : List Tk), e = .returned (.tuple #[.agg #[u1, u2, u3], .bool (woodOkB ns room cu cg path)]) ∧ (woodOkB ns room cu cg path = true → acc = woodT ns cu cg path) ∧
    Kd.R (Kd.int .i64) 3 w' w.heap.size (fun _ => True) u1 (acc.map (·.1)) ∧ Kd.R Kd.string 9 w' w.heap.size (fun _ => True) u2 (acc.map (·.2.1)) ∧ Kd.R (Kd.int .i64) 3 w' w.heap.size (fun _ => True) u3 (acc.map (·.2.2)) ∧ Sep u1 u2 ∧ Sep u1 u3 ∧ Sep u2 u3 ∧ Below w.heap.size w w'
theorem Kd.R_far3 {α : Type} {d : Kd α} {e base g : Nat} {ok : Nat → Prop} {w : World} {v u0 u1 u2 : Value} {xs : List α} (h : d.R e w base ok v xs) (hok : ∀ k, ok k → k ≠ g) : d.R e (((w.setCell ⟨g, 0, none⟩ u0).setCell ⟨g, 1, none⟩ u1).setCell ⟨g, 2, none⟩ u2) base ok v xs :=
  Kd.R_far (p := ⟨g, 2, none⟩) (Kd.R_far (p := ⟨g, 1, none⟩) (Kd.R_far (p := ⟨g, 0, none⟩) h hok _) hok _) hok _
theorem Sep.nil (v : Value) : Sep (.slice none 0 0) v := fun k hk => by simp [Value.ownBlock] at hk
theorem WoodOut.no {ns : List Nd} {room cu cg : Int} {path : ByteArray} {w w' : World} (h : woodOkB ns room cu cg path = false) (hb : Below w.heap.size w w') : WoodOut ns room cu cg path w (.returned (.tuple #[.agg #[.slice none 0 0, .slice none 0 0, .slice none 0 0], .bool false])) w' :=
  ⟨_, _, _, [], by rw [h], fun e => absurd (h.symm.trans e) (by simp), Kd.R_nil _ _ _ _ _, Kd.R_nil _ _ _ _ _, Kd.R_nil _ _ _ _ _, Sep.nil _, Sep.nil _, Sep.nil _, hb⟩
set_option maxHeartbeats 8000000 in
set_option maxRecDepth 100000 in
theorem woodOf_walk (ns : List Nd) (A0 : Option Addr) (c0 : Nat) (room cu cg : Int) (path : ByteArray) (w : World) (hr0 : Kd.C k85 w A0 ns.length ns) (hc0 : ns.length ≤ c0) (hf : FsFit ns) (hp : path.size < 4294967281) :
    Calls Tryz.prog 40 #[.agg #[.slice A0 ns.length c0, .int .i64 room], .agg #[.int .i64 cu, .int .i64 cg], .string path] w fun e w' => WoodOut ns room cu cg path w e w' := by
  have hu1 := Tryz.underlying34
  have hu2 := Tryz.underlying36
  have hu4 := Tryz.underlying70
  have HIA := Aside0.mk (fun (W : World) (hb : Below w.heap.size w W) => impl_isAsked.calls A0 c0 ns room cu cg _ W (Kd.C_below hr0 hb) hc0 (isAsked_f room cu cg hf))
  have HF := Aside0.mk hf
  have HR0 := Aside0.mk hr0
  have HC0 := Aside0.mk hc0
  have HP := Aside0.mk hp
  clear hr0 hc0 hf hp
  cases ha : askB ns room cu cg with
  | false =>
    rw [ha] at HIA
    have HNO : Aside0 (woodOkB ns room cu cg path = false) := ⟨by unfold woodOkB; rw [ha]; rfl⟩
    go_enter Tryz.func40, Tryz.ntmps40
    go_upto_region 1 with (fail)
    obtain ⟨W2, hW2⟩ : ∃ W, W = ((w.alloc (.cells #[.slice A0 ns.length c0, .int .i64 room] 34 (0, 0))).alloc (.cells #[.int .i64 cu, .int .i64 cg] 36 (0, 0))).alloc (.cells #[(.slice none 0 0), (.slice none 0 0), (.slice none 0 0)] 70 (0, 0)) := ⟨_, rfl⟩
    have HB2 := Aside0.mk (show Below w.heap.size w W2 from by rw [hW2]; exact below_alloc (below_alloc (below_alloc (Below.refl _ _) _) _) _)
    have BF2 := Aside0.mk (show W2.heap[w.heap.size]? = some (.cells #[.slice A0 ns.length c0, .int .i64 room] 34 (0, 0)) from by rw [hW2]; exact blk_alloc (blk_alloc (blk_new _ _) _) _)
    have BC2 := Aside0.mk (show W2.heap[w.heap.size + 1]? = some (.cells #[.int .i64 cu, .int .i64 cg] 36 (0, 0)) from by rw [hW2]; have h := blk_new (w.alloc (.cells #[.slice A0 ns.length c0, .int .i64 room] 34 (0, 0))) (.cells #[.int .i64 cu, .int .i64 cg] 36 (0, 0)); rw [World.size_alloc] at h; exact blk_alloc h _)
    have BR2 := Aside0.mk (show W2.heap[w.heap.size + 1 + 1]? = some (.cells #[(.slice none 0 0), (.slice none 0 0), (.slice none 0 0)] 70 (0, 0)) from by rw [hW2]; have h := blk_new ((w.alloc (.cells #[.slice A0 ns.length c0, .int .i64 room] 34 (0, 0))).alloc (.cells #[.int .i64 cu, .int .i64 cg] 36 (0, 0))) (.cells #[(.slice none 0 0), (.slice none 0 0), (.slice none 0 0)] 70 (0, 0)); rw [World.size_alloc, World.size_alloc] at h; exact h)
    obtain ⟨g3, hg3⟩ : ∃ k, k = w.heap.size := ⟨_, rfl⟩
    obtain ⟨g4, hg4⟩ : ∃ k, k = w.heap.size + 1 := ⟨_, rfl⟩
    obtain ⟨g6, hg6⟩ : ∃ k, k = w.heap.size + 1 + 1 := ⟨_, rfl⟩
    rw [← hg3] at BF2
    rw [← hg4] at BC2
    rw [← hg6] at BR2
    rw [← hW2, ← hg6, ← hg4, ← hg3]
    have HGG : Aside0 (w.heap.size ≤ g3 ∧ w.heap.size ≤ g4 ∧ w.heap.size ≤ g6) := ⟨by omega, by omega, by omega⟩
    clear hW2 hg3 hg4 hg6
    obtain ⟨f0, f1, q0, q1⟩ := find22 BF2.out BC2.out
    go_wp2_with fail
    refine (HIA.out _ HB2.out).mono ?_; rintro e W3 ⟨rfl, hd⟩
    have HB3 := Aside0.mk (below_step HB2.out hd)
    have BR3 := Aside0.mk (blk_below BR2.out hd)
    have c0_ := (blk_cell BR3.out 0).trans rfl
    have f0_ : W3.frozen? ⟨g6, 0, none⟩ = false := blk_frozen BR3.out 0
    have c1_ := (blk_cell BR3.out 1).trans rfl
    have f1_ : W3.frozen? ⟨g6, 1, none⟩ = false := blk_frozen BR3.out 1
    have c2_ := (blk_cell BR3.out 2).trans rfl
    have f2_ : W3.frozen? ⟨g6, 2, none⟩ = false := blk_frozen BR3.out 2
    clear hd HIA HB2 BR2 f0 f1 q0 q1
    go_wp2
    (try simp only [Exit.inBlock, Exit.then])
    refine bodyPost_ret (results_list (rs := [.cell 6 70, .tmp 7]) rfl (by simp) (.cell g6 70 #[(.slice none 0 0), (.slice none 0 0), (.slice none 0 0)] (0, 0) _ rfl (blk_put (cs := _) (blk_put (cs := _) (blk_put BR3.out 0 _ rfl) 1 _ rfl) 2 _ rfl) Tryz.underlying70 rfl (by kernel_rfl) (.tmp .nil))) rfl ?_
    exact WoodOut.no HNO.out (((HB3.out.setCell (p := ⟨g6, 0, none⟩) HGG.out.2.2 _).setCell (p := ⟨g6, 1, none⟩) HGG.out.2.2 _).setCell (p := ⟨g6, 2, none⟩) HGG.out.2.2 _)
  | true =>
    rw [ha] at HIA
    have hgd : sGoodB ns room = true := by unfold askB at ha; rw [Bool.and_eq_true] at ha; exact ha.1
    have HGD := Aside0.mk ((sGoodB_iff ns room).mp hgd)
    obtain ⟨⟨nd, cd⟩, hR⟩ : ∃ R, R = findR ns cu cg path false := ⟨_, rfl⟩
    have HFI := Aside0.mk (fun (W : World) (hb : Below w.heap.size w W) => find_walk ns A0 c0 room cu cg path false W (Kd.C_below HR0.out hb) HC0.out HF.out HGD.out HP.out)
    rw [← hR] at HFI
    have HRR := Aside0.mk hR
    by_cases hcd : cd ≠ 0
    · have z1 : (cd != 0) = true := by simpa using hcd
      have z2 : decide (cd = 0) = false := decide_eq_false hcd
      have HNO : Aside0 (woodOkB ns room cu cg path = false) := ⟨by unfold woodOkB; rw [← hR]; simp [hcd]⟩
      clear ha hgd hR hcd
      go_enter Tryz.func40, Tryz.ntmps40
      go_upto_region 1 with (fail)
      obtain ⟨W2, hW2⟩ : ∃ W, W = ((w.alloc (.cells #[.slice A0 ns.length c0, .int .i64 room] 34 (0, 0))).alloc (.cells #[.int .i64 cu, .int .i64 cg] 36 (0, 0))).alloc (.cells #[(.slice none 0 0), (.slice none 0 0), (.slice none 0 0)] 70 (0, 0)) := ⟨_, rfl⟩
      have HB2 := Aside0.mk (show Below w.heap.size w W2 from by rw [hW2]; exact below_alloc (below_alloc (below_alloc (Below.refl _ _) _) _) _)
      have BF2 := Aside0.mk (show W2.heap[w.heap.size]? = some (.cells #[.slice A0 ns.length c0, .int .i64 room] 34 (0, 0)) from by rw [hW2]; exact blk_alloc (blk_alloc (blk_new _ _) _) _)
      have BC2 := Aside0.mk (show W2.heap[w.heap.size + 1]? = some (.cells #[.int .i64 cu, .int .i64 cg] 36 (0, 0)) from by rw [hW2]; have h := blk_new (w.alloc (.cells #[.slice A0 ns.length c0, .int .i64 room] 34 (0, 0))) (.cells #[.int .i64 cu, .int .i64 cg] 36 (0, 0)); rw [World.size_alloc] at h; exact blk_alloc h _)
      have BR2 := Aside0.mk (show W2.heap[w.heap.size + 1 + 1]? = some (.cells #[(.slice none 0 0), (.slice none 0 0), (.slice none 0 0)] 70 (0, 0)) from by rw [hW2]; have h := blk_new ((w.alloc (.cells #[.slice A0 ns.length c0, .int .i64 room] 34 (0, 0))).alloc (.cells #[.int .i64 cu, .int .i64 cg] 36 (0, 0))) (.cells #[(.slice none 0 0), (.slice none 0 0), (.slice none 0 0)] 70 (0, 0)); rw [World.size_alloc, World.size_alloc] at h; exact h)
      obtain ⟨g3, hg3⟩ : ∃ k, k = w.heap.size := ⟨_, rfl⟩
      obtain ⟨g4, hg4⟩ : ∃ k, k = w.heap.size + 1 := ⟨_, rfl⟩
      obtain ⟨g6, hg6⟩ : ∃ k, k = w.heap.size + 1 + 1 := ⟨_, rfl⟩
      rw [← hg3] at BF2
      rw [← hg4] at BC2
      rw [← hg6] at BR2
      rw [← hW2, ← hg6, ← hg4, ← hg3]
      have HGG : Aside0 (w.heap.size ≤ g3 ∧ w.heap.size ≤ g4 ∧ w.heap.size ≤ g6) := ⟨by omega, by omega, by omega⟩
      clear hW2 hg3 hg4 hg6
      obtain ⟨f0, f1, q0, q1⟩ := find22 BF2.out BC2.out
      go_wp2_with fail
      refine (HIA.out _ HB2.out).mono ?_; rintro e W3 ⟨rfl, hd⟩
      have HB3 := Aside0.mk (below_step HB2.out hd)
      have BR3 := Aside0.mk (blk_below BR2.out hd)
      obtain ⟨f0', f1', q0', q1'⟩ := find22 (blk_below BF2.out hd) (blk_below BC2.out hd)
      clear hd HIA HB2 BR2 f0 f1 q0 q1
      go_wp2_with fail
      refine (HFI.out _ HB3.out).mono ?_; rintro e W4 ⟨rfl, hd⟩
      have HB4 := Aside0.mk (below_step HB3.out hd)
      have BR4 := Aside0.mk (blk_below BR3.out hd)
      have c0_ := (blk_cell BR4.out 0).trans rfl
      have f0_ : W4.frozen? ⟨g6, 0, none⟩ = false := blk_frozen BR4.out 0
      have c1_ := (blk_cell BR4.out 1).trans rfl
      have f1_ : W4.frozen? ⟨g6, 1, none⟩ = false := blk_frozen BR4.out 1
      have c2_ := (blk_cell BR4.out 2).trans rfl
      have f2_ : W4.frozen? ⟨g6, 2, none⟩ = false := blk_frozen BR4.out 2
      clear hd HFI HB3 BR3 f0' f1' q0' q1'
      go_wp2
      (try simp only [Exit.inBlock, Exit.then])
      refine bodyPost_ret (results_list (rs := [.cell 6 70, .tmp 7]) rfl (by simp) (.cell g6 70 #[(.slice none 0 0), (.slice none 0 0), (.slice none 0 0)] (0, 0) _ rfl (blk_put (cs := _) (blk_put (cs := _) (blk_put BR4.out 0 _ rfl) 1 _ rfl) 2 _ rfl) Tryz.underlying70 rfl (by kernel_rfl) (.tmp .nil))) rfl ?_
      exact WoodOut.no HNO.out (((HB4.out.setCell (p := ⟨g6, 0, none⟩) HGG.out.2.2 _).setCell (p := ⟨g6, 1, none⟩) HGG.out.2.2 _).setCell (p := ⟨g6, 2, none⟩) HGG.out.2.2 _)
    · have hcd : cd = 0 := Classical.byContradiction hcd
      subst hcd
      have hnd : nd ∈ allN ns.length := by have h := findR_in HGD.out cu cg path false; rw [← hR] at h; exact h
      have hwp : wholeB path = true := findR_whole (ns := ns) (cu := cu) (cg := cg) (fol := false) (by rw [← hR])
      have hsz : 1 ≤ path.size ∧ path.size ≤ 60 := by unfold wholeB at hwp; rw [Bool.and_eq_true] at hwp; exact goodPath_size hwp.1
      have hwt : woodT ns cu cg path = woodR ns cu cg nd path := by unfold woodT; rw [← hR]
      have HWL := Aside0.mk (woodT_len HF.out HGD.out cu cg path)
      have HGW := Aside0.mk (woodR_ok HGD.out cu cg nd hnd path)
      rw [← hwt] at HGW
      have HND := Aside0.mk hnd
      have HSZ : Aside0 (0 < path.size ∧ path.size + (ns.length + 1) * 1048577 ≤ 1000000000) := ⟨by omega, by have := HGD.out.len; omega⟩
      have HOK : Aside0 (woodOkB ns room cu cg path = decide ((woodT ns cu cg path).length ≤ 40)) := ⟨by unfold woodOkB; rw [ha, ← hR]; rfl⟩
      clear ha hgd hR hnd hwp hsz hwt
      go_enter Tryz.func40, Tryz.ntmps40
      go_upto_region 1 with (fail)
      obtain ⟨W2, hW2⟩ : ∃ W, W = ((w.alloc (.cells #[.slice A0 ns.length c0, .int .i64 room] 34 (0, 0))).alloc (.cells #[.int .i64 cu, .int .i64 cg] 36 (0, 0))).alloc (.cells #[(.slice none 0 0), (.slice none 0 0), (.slice none 0 0)] 70 (0, 0)) := ⟨_, rfl⟩
      have HB2 := Aside0.mk (show Below w.heap.size w W2 from by rw [hW2]; exact below_alloc (below_alloc (below_alloc (Below.refl _ _) _) _) _)
      have BF2 := Aside0.mk (show W2.heap[w.heap.size]? = some (.cells #[.slice A0 ns.length c0, .int .i64 room] 34 (0, 0)) from by rw [hW2]; exact blk_alloc (blk_alloc (blk_new _ _) _) _)
      have BC2 := Aside0.mk (show W2.heap[w.heap.size + 1]? = some (.cells #[.int .i64 cu, .int .i64 cg] 36 (0, 0)) from by rw [hW2]; have h := blk_new (w.alloc (.cells #[.slice A0 ns.length c0, .int .i64 room] 34 (0, 0))) (.cells #[.int .i64 cu, .int .i64 cg] 36 (0, 0)); rw [World.size_alloc] at h; exact blk_alloc h _)
      have BR2 := Aside0.mk (show W2.heap[w.heap.size + 1 + 1]? = some (.cells #[(.slice none 0 0), (.slice none 0 0), (.slice none 0 0)] 70 (0, 0)) from by rw [hW2]; have h := blk_new ((w.alloc (.cells #[.slice A0 ns.length c0, .int .i64 room] 34 (0, 0))).alloc (.cells #[.int .i64 cu, .int .i64 cg] 36 (0, 0))) (.cells #[(.slice none 0 0), (.slice none 0 0), (.slice none 0 0)] 70 (0, 0)); rw [World.size_alloc, World.size_alloc] at h; exact h)
      obtain ⟨g3, hg3⟩ : ∃ k, k = w.heap.size := ⟨_, rfl⟩
      obtain ⟨g4, hg4⟩ : ∃ k, k = w.heap.size + 1 := ⟨_, rfl⟩
      obtain ⟨g6, hg6⟩ : ∃ k, k = w.heap.size + 1 + 1 := ⟨_, rfl⟩
      rw [← hg3] at BF2
      rw [← hg4] at BC2
      rw [← hg6] at BR2
      rw [← hW2, ← hg6, ← hg4, ← hg3]
      have HGG : Aside0 (w.heap.size ≤ g3 ∧ w.heap.size ≤ g4 ∧ w.heap.size ≤ g6) := ⟨by omega, by omega, by omega⟩
      clear hW2 hg3 hg4 hg6
      obtain ⟨f0, f1, q0, q1⟩ := find22 BF2.out BC2.out
      go_wp2_with fail
      refine (HIA.out _ HB2.out).mono ?_; rintro e W3 ⟨rfl, hd⟩
      have HB3 := Aside0.mk (below_step HB2.out hd)
      have BR3 := Aside0.mk (blk_below BR2.out hd)
      have BF3 := Aside0.mk (blk_below BF2.out hd)
      have BC3 := Aside0.mk (blk_below BC2.out hd)
      obtain ⟨f0', f1', q0', q1'⟩ := find22 BF3.out BC3.out
      clear hd HIA HB2 BR2 f0 f1 q0 q1 BF2 BC2
      go_wp2_with fail
      refine (HFI.out _ HB3.out).mono ?_; rintro e W4 ⟨rfl, hd⟩
      have HB4 := Aside0.mk (below_step HB3.out hd)
      have BR4 := Aside0.mk (blk_below BR3.out hd)
      have BF4 := Aside0.mk (blk_below BF3.out hd)
      have BC4 := Aside0.mk (blk_below BC3.out hd)
      clear hd HFI HB3 BR3 f0' f1' q0' q1' BF3 BC3
      go_upto_region 7 with (fail)
      obtain ⟨g10, hg10⟩ : ∃ k, k = W4.heap.size := ⟨_, rfl⟩
      obtain ⟨W5, hW5⟩ : ∃ W, W = W4.alloc (.cells #[(.slice none 0 0), (.slice none 0 0), (.slice none 0 0)] 70 (0, 0)) := ⟨_, rfl⟩
      have hb5 : Below W4.heap.size W4 W5 := by rw [hW5]; exact below_alloc (Below.refl _ _) _
      have HB5 := Aside0.mk (below_step HB4.out hb5)
      have BG5 : Aside0 (WoodAt w.heap.size w g10 W5 (fun _ => False) []) := ⟨⟨⟨_, _, _, by rw [hW5, hg10]; exact blk_new _ _, Kd.R_nil _ _ _ _ _, Kd.R_nil _ _ _ _ _, Kd.R_nil _ _ _ _ _, Sep.nil _, Sep.nil _, Sep.nil _⟩, HB5.out⟩⟩
      have BR5 := Aside0.mk (blk_below BR4.out hb5)
      have HG1 : Aside0 (w.heap.size ≤ g10 ∧ g6 ≠ g10) := ⟨by have := HB4.out.size; omega, by have := blk_lt BR4.out; omega⟩
      have HG65 : Aside0 (g6 < W5.heap.size) := ⟨blk_lt BR5.out⟩
      obtain ⟨f0, f1, q0, q1⟩ := find22 (blk_below BF4.out hb5) (blk_below BC4.out hb5)
      rw [← hW5, ← hg10]
      clear hW5 hg10 hb5 HB4 BR4 BF4 BC4
      go_wp2_with fail
      refine (grow_calls room cu cg A0 c0 ns w HR0.out HC0.out HF.out HGD.out g10 HG1.out.1 (ns.length + 1) path nd (-1) (fun _ => False) [] (woodT ns cu cg path) W5 HGW.out HND.out HSZ.out.1 HSZ.out.2 HWL.out (fun h => h) BG5.out).mono ?_; rintro e w6 ⟨u6, rfl, ho6, hk6⟩
      have BR6 := Aside0.mk (blk_kept BR5.out hk6 (fun h => h.elim (fun h => h) (fun h => HG1.out.2 h)))
      obtain ⟨u1, u2, u3, hbg, r1, r2, r3, s12, s13, s23⟩ := ho6.at_
      obtain ⟨acc, hacc⟩ : ∃ l, l = woodT ns cu cg path := ⟨_, rfl⟩
      rw [← hacc] at r1 r2 r3 HOK
      have HACC := Aside0.mk hacc
      obtain ⟨A1, c1, hU⟩ := Kd.R_slice r1
      rw [List.length_map] at hU
      obtain ⟨A2, c2, hU2⟩ := Kd.R_slice r2
      rw [List.length_map] at hU2
      obtain ⟨A3, c3, hU3⟩ := Kd.R_slice r3
      rw [List.length_map] at hU3
      subst hU hU2 hU3
      have BG6 := Aside0.mk hbg
      have R1 := Aside0.mk r1
      have R2 := Aside0.mk r2
      have R3 := Aside0.mk r3
      have HSS := Aside0.mk (And.intro s12 (And.intro s13 s23))
      have BL6 := Aside0.mk ho6.below
      have HNE := Aside0.mk (fun (v : Value) (k : Nat) (h : k = g6) => h)
      clear ho6 hk6 hbg r1 r2 r3 s12 s13 s23 hacc f0 f1 q0 q1 BG5 BR5 HB5
      go_upto_region 8 with (fail)
      refine start_ (n := 7) (S := fun w' => w'.cell? ⟨g10, 0, none⟩ = some (.slice A1 acc.length c1) ∧ w'.cell? ⟨g10, 1, none⟩ = some (.slice A2 acc.length c2) ∧ w'.cell? ⟨g10, 2, none⟩ = some (.slice A3 acc.length c3)) (ds := []) #[false, false, false, false, false, false, false] (by kernel_rfl) rfl rfl ⟨(blk_cell (blk_drew BG6.out) 0).trans rfl, (blk_cell (blk_drew BG6.out) 1).trans rfl, (blk_cell (blk_drew BG6.out) 2).trans rfl⟩ (fun hHeld => ?_)
      refine with_tabW woodOf_tab8 woodOf_bits8 (fun HT_ HW_ => ?_)
      refine pure_ (i := 1) (N := some 33) (v := ?_) (a' := ?_) #[false, true, false, false, false, false, false] rfl rfl (any_of HT_.out (by kernel_rfl)) (fun _ _ _ h => h) (Or.inl ⟨by rfl, ?_⟩) ?_ ?_
      rotate_left
      · intro w'
        go_simp
        with_reducible rfl
      rotate_left
      · simp only [Act.put, List.setIfInBounds_toArray, List.set_cons_zero, List.set_cons_succ, i64_w, i32_w]
        rfl
      refine take_ (i := 0) (N := some 32) (v := ?_) (a' := ?_) #[true, true, false, false, false, false, false] rfl rfl (take_ofW HT_.out HW_.out (by kernel_rfl)) (fun _ _ _ h => h) (Or.inl ⟨by rfl, ?_⟩) hHeld ?_ ?_
      rotate_left
      · rintro w' ⟨s0, s1, s2⟩
        go_simp
        with_reducible rfl
      rotate_left
      · simp only [Act.put, List.setIfInBounds_toArray, List.set_cons_zero, List.set_cons_succ, i64_w, i32_w]
        rfl
      refine take_ (i := 2) (N := some 34) (v := ?_) (a' := ?_) #[true, true, true, false, false, false, false] rfl rfl (take_ofW HT_.out HW_.out (by kernel_rfl)) (fun _ _ _ h => h) (Or.inl ⟨by rfl, ?_⟩) hHeld ?_ ?_
      rotate_left
      · rintro w' ⟨s0, s1, s2⟩
        go_simp
        with_reducible rfl
      rotate_left
      · simp only [Act.put, List.setIfInBounds_toArray, List.set_cons_zero, List.set_cons_succ, i64_w, i32_w]
        rfl
      refine pure_ (i := 3) (N := some 35) (v := ?_) (a' := ?_) #[true, true, true, true, false, false, false] rfl rfl (any_of HT_.out (by kernel_rfl)) (fun _ _ _ h => h) (Or.inl ⟨by rfl, ?_⟩) ?_ ?_
      rotate_left
      · intro w'
        go_simp
        with_reducible rfl
      rotate_left
      · simp only [Act.put, List.setIfInBounds_toArray, List.set_cons_zero, List.set_cons_succ, i64_w, i32_w]
        rfl
      refine pure_ (i := 4) (N := some 36) (v := ?_) (a' := ?_) #[true, true, true, true, true, false, false] rfl rfl (any_of HT_.out (by kernel_rfl)) (fun _ _ _ h => h) (Or.inl ⟨by rfl, ?_⟩) ?_ ?_
      rotate_left
      · intro w'
        go_simp
        with_reducible rfl
      rotate_left
      · simp only [Act.put, List.setIfInBounds_toArray, List.set_cons_zero, List.set_cons_succ, i64_w, i32_w]
        rfl
      refine one_ (i := 5) (N := none) #[true, true, true, true, true, true, false] rfl rfl (one_of HT_.out (by kernel_rfl)) (by decide) (fun K hK => ?_)
      have c0_ : w6.cell? ⟨g6, 0, none⟩ = some (.slice none 0 0) := (blk_cell BR6.out 0).trans rfl
      have c1_ : w6.cell? ⟨g6, 1, none⟩ = some (.slice none 0 0) := (blk_cell BR6.out 1).trans rfl
      have c2_ : w6.cell? ⟨g6, 2, none⟩ = some (.slice none 0 0) := (blk_cell BR6.out 2).trans rfl
      have f0_ : w6.frozen? ⟨g6, 0, none⟩ = false := blk_frozen BR6.out 0
      have f1_ : w6.frozen? ⟨g6, 1, none⟩ = false := blk_frozen BR6.out 1
      have f2_ : w6.frozen? ⟨g6, 2, none⟩ = false := blk_frozen BR6.out 2
      refine skip_ (w1 := ?_) (by rfl) rfl ?_ ?_
      rotate_left
      · go_simp
        rfl
      refine hK.out _ _ ⟨(blk_cell (blk_far (blk_far (blk_far (blk_drew BG6.out) (p := ⟨g6, 0, none⟩) HG1.out.2.symm _) (p := ⟨g6, 1, none⟩) HG1.out.2.symm _) (p := ⟨g6, 2, none⟩) HG1.out.2.symm _) 0).trans rfl, (blk_cell (blk_far (blk_far (blk_far (blk_drew BG6.out) (p := ⟨g6, 0, none⟩) HG1.out.2.symm _) (p := ⟨g6, 1, none⟩) HG1.out.2.symm _) (p := ⟨g6, 2, none⟩) HG1.out.2.symm _) 1).trans rfl, (blk_cell (blk_far (blk_far (blk_far (blk_drew BG6.out) (p := ⟨g6, 0, none⟩) HG1.out.2.symm _) (p := ⟨g6, 1, none⟩) HG1.out.2.symm _) (p := ⟨g6, 2, none⟩) HG1.out.2.symm _) 2).trans rfl⟩ (fun hHeld => ?_)
      clear hK K
      refine pure_ (i := 6) (N := some 7) (v := ?_) (a' := ?_) #[true, true, true, true, true, true, true] rfl rfl (any_of HT_.out (by kernel_rfl)) (fun _ _ _ h => h) (Or.inl ⟨by rfl, ?_⟩) ?_ ?_
      rotate_left
      · intro w'
        go_simp
        with_reducible rfl
      rotate_left
      · simp only [Act.put, List.setIfInBounds_toArray, List.set_cons_zero, List.set_cons_succ, i64_w, i32_w]
        rfl
      refine done_ (done_of HT_.out (by kernel_rfl)) ?_
      have hok : decide ((acc.length : Int) ≤ 40) = woodOkB ns room cu cg path := by rw [HOK.out]; exact decide_eq_decide.mpr (by omega)
      have HN1 : Aside0 (∀ k, (False ∨ W5.heap.size ≤ k) → k ≠ g6) := ⟨fun k hk e => by have h1 := HG65.out; rcases hk with h | h; exact h; omega⟩
      rw [hok]
      clear hok HT_ HW_ hHeld
      go_wp2
      (try simp only [Exit.inBlock, Exit.then])
      refine bodyPost_ret (results_list (rs := [.cell 6 70, .tmp 7]) rfl (by simp) (.cell g6 70 #[.slice A1 acc.length c1, .slice A2 acc.length c2, .slice A3 acc.length c3] (0, 0) _ rfl (blk_put (cs := _) (blk_put (cs := _) (blk_put (blk_drew BR6.out) 0 _ rfl) 1 _ rfl) 2 _ rfl) Tryz.underlying70 rfl (by kernel_rfl) (.tmp .nil))) rfl ?_
      exact ⟨_, _, _, acc, rfl, fun _ => HACC.out, Kd.R_mono (Kd.R_far3 R1.out HN1.out) (fun _ _ => trivial), Kd.R_mono (Kd.R_far3 R2.out HN1.out) (fun _ _ => trivial), Kd.R_mono (Kd.R_far3 R3.out HN1.out) (fun _ _ => trivial), HSS.out.1, HSS.out.2.1, HSS.out.2.2, (((below_drew1 BL6.out).setCell (p := ⟨g6, 0, none⟩) HGG.out.2.2 _).setCell (p := ⟨g6, 1, none⟩) HGG.out.2.2 _).setCell (p := ⟨g6, 2, none⟩) HGG.out.2.2 _⟩
def forestR (ns : List Nd) (room cu cg : Int) (path : ByteArray) : List Int × List ByteArray × Bool :=
  if woodOkB ns room cu cg path = true then ((woodT ns cu cg path).map (·.1), (woodT ns cu cg path).map (·.2.1), true) else ([], [], false)
set_option maxHeartbeats 8000000 in
set_option maxRecDepth 100000 in
theorem forest_walk (ns : List Nd) (A0 : Option Addr) (c0 : Nat) (room cu cg : Int) (path : ByteArray) (w : World) (hr0 : Kd.C k85 w A0 ns.length ns) (hc0 : ns.length ≤ c0) (hf : FsFit ns) (hp : path.size < 4294967281) :
    Calls Tryz.prog 13 #[.agg #[.slice A0 ns.length c0, .int .i64 room], .agg #[.int .i64 cu, .int .i64 cg], .string path] w fun e w' => ∃ v1 v2, e = .returned (.tuple #[v1, v2, .bool (forestR ns room cu cg path).2.2]) ∧ Kd.R (Kd.int .i64) 3 w' w.heap.size (fun _ => True) v1 (forestR ns room cu cg path).1 ∧ Kd.R Kd.string 9 w' w.heap.size (fun _ => True) v2 (forestR ns room cu cg path).2.1 ∧ Below w.heap.size w w' := by
  have hu1 := Tryz.underlying34
  have hu2 := Tryz.underlying36
  have hu4 := Tryz.underlying70
  have HWO := Aside0.mk (fun (W : World) (hb : Below w.heap.size w W) => woodOf_walk ns A0 c0 room cu cg path W (Kd.C_below hr0 hb) hc0 hf hp)
  clear hr0 hc0 hf hp
  go_enter Tryz.func13, Tryz.ntmps13
  go_upto_region 1 with (fail)
  obtain ⟨W2, hW2⟩ : ∃ W, W = (w.alloc (.cells #[.slice A0 ns.length c0, .int .i64 room] 34 (0, 0))).alloc (.cells #[.int .i64 cu, .int .i64 cg] 36 (0, 0)) := ⟨_, rfl⟩
  have HB2 := Aside0.mk (show Below w.heap.size w W2 from by rw [hW2]; exact below_alloc (below_alloc (Below.refl _ _) _) _)
  have BF2 := Aside0.mk (show W2.heap[w.heap.size]? = some (.cells #[.slice A0 ns.length c0, .int .i64 room] 34 (0, 0)) from by rw [hW2]; exact blk_alloc (blk_new _ _) _)
  have BC2 := Aside0.mk (show W2.heap[w.heap.size + 1]? = some (.cells #[.int .i64 cu, .int .i64 cg] 36 (0, 0)) from by rw [hW2]; have h := blk_new (w.alloc (.cells #[.slice A0 ns.length c0, .int .i64 room] 34 (0, 0))) (.cells #[.int .i64 cu, .int .i64 cg] 36 (0, 0)); rwa [World.size_alloc] at h)
  rw [← hW2]
  clear hW2
  obtain ⟨f0, f1, q0, q1⟩ := find22 BF2.out BC2.out
  go_wp2_with fail
  refine (HWO.out _ HB2.out).mono ?_
  rintro e W3 hwo
  unfold WoodOut at hwo
  obtain ⟨u1, u2, u3, acc, he, ha, r1, r2, r3, s12, s13, s23, hb3⟩ := hwo
  subst he
  obtain ⟨A1, c1, e1⟩ := Kd.R_slice r1
  obtain ⟨A2, c2, e2⟩ := Kd.R_slice r2
  obtain ⟨A3, c3, e3⟩ := Kd.R_slice r3
  subst e1
  subst e2
  subst e3
  have R1 := Aside0.mk r1
  have R2 := Aside0.mk r2
  have HA := Aside0.mk ha
  have HB3 := Aside0.mk (below_step HB2.out hb3)
  obtain ⟨ok, hok⟩ : ∃ b, b = woodOkB ns room cu cg path := ⟨_, rfl⟩
  rw [← hok]
  have HOK := Aside0.mk hok
  have HB2S : Aside0 (w.heap.size ≤ W2.heap.size) := ⟨HB2.out.size⟩
  clear r1 r2 r3 s12 s13 s23 hb3 ha hok HB2 BF2 BC2 HWO f0 f1 q0 q1
  cases ok with
  | false =>
    have HFR : Aside0 (forestR ns room cu cg path = ([], [], false)) := ⟨by unfold forestR; rw [if_neg (by rw [← HOK.out]; simp)]⟩
    go_wp2
    go_ret3
    rw [HFR.out]
    exact ⟨_, _, rfl, Kd.R_nil _ _ _ _ _, Kd.R_nil _ _ _ _ _, by first | exact below_alloc HB3.out _ | exact HB3.out⟩
  | true =>
    have HFR : Aside0 (forestR ns room cu cg path = (acc.map (·.1), acc.map (·.2.1), true)) := ⟨by unfold forestR; rw [if_pos HOK.out.symm, HA.out HOK.out.symm]⟩
    go_upto_region 4 with (fail)
    obtain ⟨g9, hg9⟩ : ∃ k, k = W3.heap.size := ⟨_, rfl⟩
    obtain ⟨W4, hW4⟩ : ∃ W, W = W3.alloc (.cells #[.slice A1 (acc.map (·.1)).length c1, .slice A2 (acc.map (·.2.1)).length c2, .slice A3 (acc.map (·.2.2)).length c3] 70 (0, 0)) := ⟨_, rfl⟩
    simp only [List.length_map] at hW4
    have hb4 : Below W3.heap.size W3 W4 := by rw [hW4]; exact below_alloc (Below.refl _ _) _
    have BG4 := Aside0.mk (show W4.heap[g9]? = some (.cells #[.slice A1 acc.length c1, .slice A2 acc.length c2, .slice A3 acc.length c3] 70 (0, 0)) from by rw [hW4, hg9]; exact blk_new _ _)
    have HB4 := Aside0.mk (below_step HB3.out hb4)
    have HR1 := Aside0.mk (Kd.R_below R1.out hb4)
    have HR2 := Aside0.mk (Kd.R_below R2.out hb4)
    rw [← hW4, ← hg9]
    have c0_ : W4.cell? ⟨g9, 0, none⟩ = some (.slice A1 acc.length c1) := (blk_cell BG4.out 0).trans rfl
    have c1_ : W4.cell? ⟨g9, 1, none⟩ = some (.slice A2 acc.length c2) := (blk_cell BG4.out 1).trans rfl
    clear hW4 hg9 hb4 R1 R2 HB3 HA
    go_region
    go_wp2
    go_ret3
    rw [HFR.out]
    have h1 := HR1.out
    have h2 := HR2.out
    rw [List.length_map] at h1 h2
    exact ⟨_, _, rfl, Kd.R_lower (Kd.R_below h1 (below_drew1 (Below.refl _ _))) HB2S.out, Kd.R_lower (Kd.R_below h2 (below_drew1 (Below.refl _ _))) HB2S.out, below_drew1 HB4.out⟩
def TreeOut (ns : List Nd) (room cu cg : Int) (path : ByteArray) (w : World) (e : Ending) (w' : World) : Prop :=
  ∃ (g : Nat) (us : List Int) (ss : List Stp), e = .returned (.tuple #[.pointer (some ⟨g, 0, none⟩), .bool (woodOkB ns room cu cg path)]) ∧ (woodOkB ns room cu cg path = true → us = (woodT ns cu cg path).map (·.1) ∧ ss = (woodT ns cu cg path).map (stpOf ns cu cg)) ∧
    TreeAt w.heap.size w g w' (fun k => w.heap.size ≤ k ∧ k ≠ g) us ss ∧ w.heap.size ≤ g
theorem TreeOut.no {ns : List Nd} {room cu cg : Int} {path : ByteArray} {w w' : World} {g : Nat} (h : woodOkB ns room cu cg path = false) (hg : w.heap.size ≤ g) (hb : TreeAt w.heap.size w g w' (fun _ => False) [] []) : TreeOut ns room cu cg path w (.returned (.tuple #[.pointer (some ⟨g, 0, none⟩), .bool false])) w' :=
  ⟨g, [], [], by rw [h], fun e => absurd (h.symm.trans e) (by simp), hb.weak (fun _ h => h.elim), hg⟩
theorem findR_whole2 {ns : List Nd} {cu cg : Int} {path : ByteArray} {fol : Bool} (h : wholeB path = false) : (findR ns cu cg path fol).2 ≠ 0 := fun e => by
  have := findR_whole e
  rw [h] at this
  cases this
set_option maxHeartbeats 8000000 in
set_option maxRecDepth 100000 in
theorem tree4_walk (ns : List Nd) (A0 : Option Addr) (c0 : Nat) (room cu cg : Int) (path : ByteArray) (w : World) (hr0 : Kd.C k85 w A0 ns.length ns) (hc0 : ns.length ≤ c0) (hf : FsFit ns) (hp : path.size < 4294967281) :
    Calls Tryz.prog 38 #[.agg #[.slice A0 ns.length c0, .int .i64 room], .agg #[.int .i64 cu, .int .i64 cg], .string path] w fun e w' => TreeOut ns room cu cg path w e w' := by
  have hu1 := Tryz.underlying34
  have hu2 := Tryz.underlying36
  have hu4 := Tryz.underlying65
  have HIA := Aside0.mk (fun (W : World) (hb : Below w.heap.size w W) => spec_l4Asked.calls A0 c0 ns room cu cg _ W (Kd.C_below hr0 hb) hc0 (l4Asked_f room cu cg hf))
  obtain ⟨kw, hkw⟩ := (l2Whole_ev path hp).rounds
  have HIW := Aside0.mk (fun (W : World) (_ : Below w.heap.size w W) => spec_l2Whole.calls kw path _ W hkw)
  have HF := Aside0.mk hf
  have HR0 := Aside0.mk hr0
  have HC0 := Aside0.mk hc0
  have HP := Aside0.mk hp
  clear hr0 hc0 hf hp hkw
  cases ha : askB ns room cu cg with
  | false =>
    rw [ha] at HIA
    have HNO : Aside0 (woodOkB ns room cu cg path = false) := ⟨by unfold woodOkB; rw [ha]; rfl⟩
    go_enter Tryz.func38, Tryz.ntmps38
    go_upto_region 2 with (fail)
    obtain ⟨W2, hW2⟩ : ∃ W, W = ((w.alloc (.cells #[.slice A0 ns.length c0, .int .i64 room] 34 (0, 0))).alloc (.cells #[.int .i64 cu, .int .i64 cg] 36 (0, 0))).alloc (.cells #[(.slice none 0 0), (.slice none 0 0)] 65 (0, 0)) := ⟨_, rfl⟩
    have HB2 := Aside0.mk (show Below w.heap.size w W2 from by rw [hW2]; exact below_alloc (below_alloc (below_alloc (Below.refl _ _) _) _) _)
    have BF2 := Aside0.mk (show W2.heap[w.heap.size]? = some (.cells #[.slice A0 ns.length c0, .int .i64 room] 34 (0, 0)) from by rw [hW2]; exact blk_alloc (blk_alloc (blk_new _ _) _) _)
    have BC2 := Aside0.mk (show W2.heap[w.heap.size + 1]? = some (.cells #[.int .i64 cu, .int .i64 cg] 36 (0, 0)) from by rw [hW2]; have h := blk_new (w.alloc (.cells #[.slice A0 ns.length c0, .int .i64 room] 34 (0, 0))) (.cells #[.int .i64 cu, .int .i64 cg] 36 (0, 0)); rw [World.size_alloc] at h; exact blk_alloc h _)
    obtain ⟨g, hg⟩ : ∃ k, k = w.heap.size + 1 + 1 := ⟨_, rfl⟩
    have BT2 : Aside0 (TreeAt w.heap.size w g W2 (fun _ => False) [] []) := ⟨⟨⟨_, _, by rw [hW2, hg]; have h := blk_new ((w.alloc (.cells #[.slice A0 ns.length c0, .int .i64 room] 34 (0, 0))).alloc (.cells #[.int .i64 cu, .int .i64 cg] 36 (0, 0))) (.cells #[(.slice none 0 0), (.slice none 0 0)] 65 (0, 0)); rw [World.size_alloc, World.size_alloc] at h; exact h, Kd.R_nil _ _ _ _ _, Kd.R_nil _ _ _ _ _, Sep.nil _⟩, HB2.out⟩⟩
    have HGG : Aside0 (w.heap.size ≤ g) := ⟨by omega⟩
    rw [← hW2, ← hg]
    clear hW2 hg
    obtain ⟨f0, f1, q0, q1⟩ := find22 BF2.out BC2.out
    go_wp2_with fail
    refine (HIA.out _ HB2.out).mono ?_; rintro e W3 ⟨rfl, hd⟩
    have HB3 := Aside0.mk (below_step HB2.out hd)
    clear HIA f0 f1 q0 q1
    go_wp2
    go_ret2
    exact TreeOut.no HNO.out HGG.out (BT2.out.step hd HB2.out.size)
  | true =>
    rw [ha] at HIA
    cases hw : wholeB path with
    | false =>
      rw [hw] at HIW
      have HNO : Aside0 (woodOkB ns room cu cg path = false) := ⟨by unfold woodOkB; have h := findR_whole2 (ns := ns) (cu := cu) (cg := cg) (fol := false) hw; simp [h]⟩
      clear ha hw
      go_enter Tryz.func38, Tryz.ntmps38
      go_upto_region 2 with (fail)
      obtain ⟨W2, hW2⟩ : ∃ W, W = ((w.alloc (.cells #[.slice A0 ns.length c0, .int .i64 room] 34 (0, 0))).alloc (.cells #[.int .i64 cu, .int .i64 cg] 36 (0, 0))).alloc (.cells #[(.slice none 0 0), (.slice none 0 0)] 65 (0, 0)) := ⟨_, rfl⟩
      have HB2 := Aside0.mk (show Below w.heap.size w W2 from by rw [hW2]; exact below_alloc (below_alloc (below_alloc (Below.refl _ _) _) _) _)
      have BF2 := Aside0.mk (show W2.heap[w.heap.size]? = some (.cells #[.slice A0 ns.length c0, .int .i64 room] 34 (0, 0)) from by rw [hW2]; exact blk_alloc (blk_alloc (blk_new _ _) _) _)
      have BC2 := Aside0.mk (show W2.heap[w.heap.size + 1]? = some (.cells #[.int .i64 cu, .int .i64 cg] 36 (0, 0)) from by rw [hW2]; have h := blk_new (w.alloc (.cells #[.slice A0 ns.length c0, .int .i64 room] 34 (0, 0))) (.cells #[.int .i64 cu, .int .i64 cg] 36 (0, 0)); rw [World.size_alloc] at h; exact blk_alloc h _)
      obtain ⟨g, hg⟩ : ∃ k, k = w.heap.size + 1 + 1 := ⟨_, rfl⟩
      have BT2 : Aside0 (TreeAt w.heap.size w g W2 (fun _ => False) [] []) := ⟨⟨⟨_, _, by rw [hW2, hg]; have h := blk_new ((w.alloc (.cells #[.slice A0 ns.length c0, .int .i64 room] 34 (0, 0))).alloc (.cells #[.int .i64 cu, .int .i64 cg] 36 (0, 0))) (.cells #[(.slice none 0 0), (.slice none 0 0)] 65 (0, 0)); rw [World.size_alloc, World.size_alloc] at h; exact h, Kd.R_nil _ _ _ _ _, Kd.R_nil _ _ _ _ _, Sep.nil _⟩, HB2.out⟩⟩
      have HGG : Aside0 (w.heap.size ≤ g) := ⟨by omega⟩
      rw [← hW2, ← hg]
      clear hW2 hg
      obtain ⟨f0, f1, q0, q1⟩ := find22 BF2.out BC2.out
      go_wp2_with fail
      refine (HIA.out _ HB2.out).mono ?_; rintro e W3 ⟨rfl, hd⟩
      have HB3 := Aside0.mk (below_step HB2.out hd)
      clear HIA f0 f1 q0 q1
      go_wp2_with fail
      refine (HIW.out _ HB3.out).mono ?_; rintro e W4 ⟨rfl, hd2⟩
      have HB4 := Aside0.mk (below_step HB3.out hd2)
      clear HIW
      go_wp2
      go_ret2
      exact TreeOut.no HNO.out HGG.out (BT2.out.step (below_step hd hd2) HB2.out.size)
    | true =>
      rw [hw] at HIW
      have hgd : sGoodB ns room = true := by unfold askB at ha; rw [Bool.and_eq_true] at ha; exact ha.1
      have HGD := Aside0.mk ((sGoodB_iff ns room).mp hgd)
      obtain ⟨⟨nd, cd⟩, hR⟩ : ∃ R, R = findR ns cu cg path false := ⟨_, rfl⟩
      have HFI := Aside0.mk (fun (W : World) (hb : Below w.heap.size w W) => find4_walk ns A0 c0 room cu cg path false W (Kd.C_below HR0.out hb) HC0.out HF.out HGD.out HP.out)
      rw [← hR] at HFI
      by_cases hcd : cd ≠ 0
      · have z1 : (cd != 0) = true := by simpa using hcd
        have z2 : decide (cd = 0) = false := decide_eq_false hcd
        have HNO : Aside0 (woodOkB ns room cu cg path = false) := ⟨by unfold woodOkB; rw [← hR]; simp [hcd]⟩
        clear ha hgd hR hcd hw
        go_enter Tryz.func38, Tryz.ntmps38
        go_upto_region 2 with (fail)
        obtain ⟨W2, hW2⟩ : ∃ W, W = ((w.alloc (.cells #[.slice A0 ns.length c0, .int .i64 room] 34 (0, 0))).alloc (.cells #[.int .i64 cu, .int .i64 cg] 36 (0, 0))).alloc (.cells #[(.slice none 0 0), (.slice none 0 0)] 65 (0, 0)) := ⟨_, rfl⟩
        have HB2 := Aside0.mk (show Below w.heap.size w W2 from by rw [hW2]; exact below_alloc (below_alloc (below_alloc (Below.refl _ _) _) _) _)
        have BF2 := Aside0.mk (show W2.heap[w.heap.size]? = some (.cells #[.slice A0 ns.length c0, .int .i64 room] 34 (0, 0)) from by rw [hW2]; exact blk_alloc (blk_alloc (blk_new _ _) _) _)
        have BC2 := Aside0.mk (show W2.heap[w.heap.size + 1]? = some (.cells #[.int .i64 cu, .int .i64 cg] 36 (0, 0)) from by rw [hW2]; have h := blk_new (w.alloc (.cells #[.slice A0 ns.length c0, .int .i64 room] 34 (0, 0))) (.cells #[.int .i64 cu, .int .i64 cg] 36 (0, 0)); rw [World.size_alloc] at h; exact blk_alloc h _)
        obtain ⟨g, hg⟩ : ∃ k, k = w.heap.size + 1 + 1 := ⟨_, rfl⟩
        have BT2 : Aside0 (TreeAt w.heap.size w g W2 (fun _ => False) [] []) := ⟨⟨⟨_, _, by rw [hW2, hg]; have h := blk_new ((w.alloc (.cells #[.slice A0 ns.length c0, .int .i64 room] 34 (0, 0))).alloc (.cells #[.int .i64 cu, .int .i64 cg] 36 (0, 0))) (.cells #[(.slice none 0 0), (.slice none 0 0)] 65 (0, 0)); rw [World.size_alloc, World.size_alloc] at h; exact h, Kd.R_nil _ _ _ _ _, Kd.R_nil _ _ _ _ _, Sep.nil _⟩, HB2.out⟩⟩
        have HGG : Aside0 (w.heap.size ≤ g) := ⟨by omega⟩
        rw [← hW2, ← hg]
        clear hW2 hg
        obtain ⟨f0, f1, q0, q1⟩ := find22 BF2.out BC2.out
        go_wp2_with fail
        refine (HIA.out _ HB2.out).mono ?_; rintro e W3 ⟨rfl, hd⟩
        have HB3 := Aside0.mk (below_step HB2.out hd)
        clear HIA f0 f1 q0 q1
        go_wp2_with fail
        refine (HIW.out _ HB3.out).mono ?_; rintro e W4 ⟨rfl, hd2⟩
        have HB4 := Aside0.mk (below_step HB3.out hd2)
        obtain ⟨f0', f1', q0', q1'⟩ := find22 (blk_below (blk_below BF2.out hd) hd2) (blk_below (blk_below BC2.out hd) hd2)
        clear HIW
        go_wp2_with fail
        refine (HFI.out _ HB4.out).mono ?_; rintro e W5 ⟨rfl, hd3⟩
        have HB5 := Aside0.mk (below_step HB4.out hd3)
        clear HFI f0' f1' q0' q1'
        go_wp2
        go_ret2
        exact TreeOut.no HNO.out HGG.out (BT2.out.step (below_step (below_step hd hd2) hd3) HB2.out.size)
      · have hcd : cd = 0 := Classical.byContradiction hcd
        subst hcd
        have hnd : nd ∈ allN ns.length := by have h := findR_in HGD.out cu cg path false; rw [← hR] at h; exact h
        have hsz : 1 ≤ path.size ∧ path.size ≤ 60 := by have hwp := hw; unfold wholeB at hwp; rw [Bool.and_eq_true] at hwp; exact goodPath_size hwp.1
        have hwt : woodT ns cu cg path = woodR ns cu cg nd path := by unfold woodT; rw [← hR]
        have HWL := Aside0.mk (woodT_len HF.out HGD.out cu cg path)
        have HGW := Aside0.mk (woodR_ok HGD.out cu cg nd hnd path)
        rw [← hwt] at HGW
        have HND := Aside0.mk hnd
        have HSZ : Aside0 (0 < path.size ∧ path.size + (ns.length + 1) * 1048577 ≤ 1000000000) := ⟨by omega, by have := HGD.out.len; omega⟩
        have HOK : Aside0 (woodOkB ns room cu cg path = decide ((woodT ns cu cg path).length ≤ 40)) := ⟨by unfold woodOkB; rw [ha, ← hR]; rfl⟩
        clear ha hgd hR hnd hw hsz hwt
        go_enter Tryz.func38, Tryz.ntmps38
        go_upto_region 2 with (fail)
        obtain ⟨W2, hW2⟩ : ∃ W, W = ((w.alloc (.cells #[.slice A0 ns.length c0, .int .i64 room] 34 (0, 0))).alloc (.cells #[.int .i64 cu, .int .i64 cg] 36 (0, 0))).alloc (.cells #[(.slice none 0 0), (.slice none 0 0)] 65 (0, 0)) := ⟨_, rfl⟩
        have HB2 := Aside0.mk (show Below w.heap.size w W2 from by rw [hW2]; exact below_alloc (below_alloc (below_alloc (Below.refl _ _) _) _) _)
        have BF2 := Aside0.mk (show W2.heap[w.heap.size]? = some (.cells #[.slice A0 ns.length c0, .int .i64 room] 34 (0, 0)) from by rw [hW2]; exact blk_alloc (blk_alloc (blk_new _ _) _) _)
        have BC2 := Aside0.mk (show W2.heap[w.heap.size + 1]? = some (.cells #[.int .i64 cu, .int .i64 cg] 36 (0, 0)) from by rw [hW2]; have h := blk_new (w.alloc (.cells #[.slice A0 ns.length c0, .int .i64 room] 34 (0, 0))) (.cells #[.int .i64 cu, .int .i64 cg] 36 (0, 0)); rw [World.size_alloc] at h; exact blk_alloc h _)
        obtain ⟨g, hg⟩ : ∃ k, k = w.heap.size + 1 + 1 := ⟨_, rfl⟩
        have BT2 : Aside0 (TreeAt w.heap.size w g W2 (fun _ => False) [] []) := ⟨⟨⟨_, _, by rw [hW2, hg]; have h := blk_new ((w.alloc (.cells #[.slice A0 ns.length c0, .int .i64 room] 34 (0, 0))).alloc (.cells #[.int .i64 cu, .int .i64 cg] 36 (0, 0))) (.cells #[(.slice none 0 0), (.slice none 0 0)] 65 (0, 0)); rw [World.size_alloc, World.size_alloc] at h; exact h, Kd.R_nil _ _ _ _ _, Kd.R_nil _ _ _ _ _, Sep.nil _⟩, HB2.out⟩⟩
        have HGG : Aside0 (w.heap.size ≤ g) := ⟨by omega⟩
        rw [← hW2, ← hg]
        clear hW2 hg
        obtain ⟨f0, f1, q0, q1⟩ := find22 BF2.out BC2.out
        go_wp2_with fail
        refine (HIA.out _ HB2.out).mono ?_; rintro e W3 ⟨rfl, hd⟩
        have HB3 := Aside0.mk (below_step HB2.out hd)
        clear HIA f0 f1 q0 q1
        go_wp2_with fail
        refine (HIW.out _ HB3.out).mono ?_; rintro e W4 ⟨rfl, hd2⟩
        have HB4 := Aside0.mk (below_step HB3.out hd2)
        have BF4 := Aside0.mk (blk_below (blk_below BF2.out hd) hd2)
        have BC4 := Aside0.mk (blk_below (blk_below BC2.out hd) hd2)
        have BT4 := Aside0.mk (BT2.out.step (below_step hd hd2) HB2.out.size)
        obtain ⟨f0', f1', q0', q1'⟩ := find22 BF4.out BC4.out
        clear HIW hd hd2 HB2 BF2 BC2 BT2 HB3
        go_wp2_with fail
        refine (HFI.out _ HB4.out).mono ?_; rintro e W5 ⟨rfl, hd⟩
        have HB5 := Aside0.mk (below_step HB4.out hd)
        have BT5 := Aside0.mk (BT4.out.step hd HB4.out.size)
        obtain ⟨f0, f1, q0, q1⟩ := find22 (blk_below BF4.out hd) (blk_below BC4.out hd)
        clear HFI f0' f1' q0' q1' hd BF4 BC4 BT4 HB4
        go_wp2_with fail
        refine (add_calls room cu cg A0 c0 ns w HR0.out HC0.out HF.out HGD.out g HGG.out (ns.length + 1) path nd (-1) (fun _ => False) [] (woodT ns cu cg path) W5 HGW.out HND.out HSZ.out.1 HSZ.out.2 HWL.out (fun h => h) BT5.out).mono ?_; rintro e w6 ⟨u6, rfl, ho6, hk6⟩
        have HG5 : Aside0 (g < W5.heap.size) := ⟨blk_lt (BT5.out.at_).choose_spec.choose_spec.1⟩
        have HO6 := Aside0.mk (ho6.weak (P2 := fun k => w.heap.size ≤ k ∧ k ≠ g) (fun k hk => hk.elim (fun h => h.elim) (fun h => ⟨Nat.le_trans HB5.out.size h, by have := HG5.out; omega⟩)))
        obtain ⟨u1, u2, hbg, r1, -, -⟩ := ho6.at_
        obtain ⟨A1, c1, hU⟩ := Kd.R_slice r1
        rw [List.length_map] at hU
        subst hU
        have c0_ : w6.cell? ⟨g, 0, none⟩ = some (.slice A1 (woodT ns cu cg path).length c1) := (blk_cell hbg 0).trans rfl
        clear ho6 hk6 hbg r1 f0 f1 q0 q1 BT5
        go_upto_region 8 with (fail)
        go_region
        have hok : decide (((woodT ns cu cg path).length : Int) ≤ 40) = woodOkB ns room cu cg path := by rw [HOK.out]; exact decide_eq_decide.mpr (by omega)
        rw [hok]
        clear hok c0_
        go_wp2
        go_ret2
        exact ⟨g, _, _, rfl, fun _ => ⟨rfl, rfl⟩, HO6.out.step (below_drew1 (Below.refl _ _)) HO6.out.below.size, HGG.out⟩
theorem at_stp {W : World} {A : Option Addr} {n : Nat} {ss : List Stp} (h : kStp.C W A n ss) (i : Nat) (hi : i < ss.length) (hn : ss.length = n) : ∃ ad : Addr, A = some ad ∧ W.cell? (ad.add (i * 3)) = some (.int .i64 ss[i].1) ∧ W.cell? ⟨(ad.add (i * 3)).block, (ad.add (i * 3)).off + 1, none⟩ = some (.string ss[i].2.1) ∧ W.cell? ⟨(ad.add (i * 3)).block, (ad.add (i * 3)).off + 2, none⟩ = some (.bool ss[i].2.2) := by
  obtain ⟨ad, c, e, _, hK, hc⟩ := Kd.C_get h (0, ⟨#[]⟩, false) (i : Int) (by omega) (by omega)
  have hx : ss.getD ((i : Int)).toNat (0, ⟨#[]⟩, false) = ss[i] := by simp [List.getD, hi]
  rw [hx] at hK
  obtain ⟨c0, c1, hcc, k0, d0, d1, hd, k1, k2⟩ := hK
  have hk0 : c0 = [.int .i64 ss[i].1] := k0
  have hk1 : d0 = [.string ss[i].2.1] := k1
  have hk2 : d1 = [.bool ss[i].2.2] := k2
  subst hk0 hk1 hk2 hd hcc
  have hc' : ∀ j u, ([.int .i64 ss[i].1, .string ss[i].2.1, .bool ss[i].2.2] : List Value)[j]? = some u → W.cell? (ad.add (i * 3 + j)) = some u := fun j u hu => by have h := hc j u hu; have e3 : kStp.sz = 3 := rfl; rw [e3] at h; simpa using h
  exact ⟨ad, e, by simpa using hc' 0 _ rfl, by rw [← add_field _ _ 1 (by omega)]; exact hc' 1 _ rfl, by rw [← add_field _ _ 2 (by omega)]; exact hc' 2 _ rfl⟩
set_option maxHeartbeats 8000000 in
set_option maxRecDepth 100000 in
theorem forest4_walk (ns : List Nd) (A0 : Option Addr) (c0 : Nat) (room cu cg : Int) (path : ByteArray) (w : World) (hr0 : Kd.C k85 w A0 ns.length ns) (hc0 : ns.length ≤ c0) (hf : FsFit ns) (hp : path.size < 4294967281) :
    Calls Tryz.prog 10 #[.agg #[.slice A0 ns.length c0, .int .i64 room], .agg #[.int .i64 cu, .int .i64 cg], .string path] w fun e w' => ∃ v1 v2, e = .returned (.tuple #[v1, v2, .bool (forestR ns room cu cg path).2.2]) ∧ Kd.R (Kd.int .i64) 3 w' w.heap.size (fun _ => True) v1 (forestR ns room cu cg path).1 ∧ Kd.R Kd.string 9 w' w.heap.size (fun _ => True) v2 (forestR ns room cu cg path).2.1 ∧ Below w.heap.size w w' := by
  have hu1 := Tryz.underlying34
  have hu2 := Tryz.underlying36
  have hu4 := Tryz.underlying65
  have hu5 := Tryz.underlying67
  have HWO := Aside0.mk (fun (W : World) (hb : Below w.heap.size w W) => tree4_walk ns A0 c0 room cu cg path W (Kd.C_below hr0 hb) hc0 hf hp)
  have HTL : Aside0 (woodOkB ns room cu cg path = true → (woodT ns cu cg path).length ≤ 40) := ⟨fun h => by unfold woodOkB at h; simp only [Bool.and_eq_true, decide_eq_true_eq] at h; exact h.2.2⟩
  clear hr0 hc0 hf hp
  go_enter Tryz.func10, Tryz.ntmps10
  go_upto_region 1 with (fail)
  obtain ⟨W2, hW2⟩ : ∃ W, W = (w.alloc (.cells #[.slice A0 ns.length c0, .int .i64 room] 34 (0, 0))).alloc (.cells #[.int .i64 cu, .int .i64 cg] 36 (0, 0)) := ⟨_, rfl⟩
  have HB2 := Aside0.mk (show Below w.heap.size w W2 from by rw [hW2]; exact below_alloc (below_alloc (Below.refl _ _) _) _)
  have BF2 := Aside0.mk (show W2.heap[w.heap.size]? = some (.cells #[.slice A0 ns.length c0, .int .i64 room] 34 (0, 0)) from by rw [hW2]; exact blk_alloc (blk_new _ _) _)
  have BC2 := Aside0.mk (show W2.heap[w.heap.size + 1]? = some (.cells #[.int .i64 cu, .int .i64 cg] 36 (0, 0)) from by rw [hW2]; have h := blk_new (w.alloc (.cells #[.slice A0 ns.length c0, .int .i64 room] 34 (0, 0))) (.cells #[.int .i64 cu, .int .i64 cg] 36 (0, 0)); rwa [World.size_alloc] at h)
  rw [← hW2]
  clear hW2
  obtain ⟨f0, f1, q0, q1⟩ := find22 BF2.out BC2.out
  go_wp2_with fail
  refine (HWO.out _ HB2.out).mono ?_
  rintro e W3 hwo
  unfold TreeOut at hwo
  obtain ⟨g, us, ss, he, ha, ht, hgg⟩ := hwo
  subst he
  have HA := Aside0.mk ha
  have HT := Aside0.mk ht
  have HB3 := Aside0.mk (HB2.out.trans (ht.below.mono HB2.out.size))
  have HS2 : Aside0 (w.heap.size ≤ W2.heap.size) := ⟨HB2.out.size⟩
  obtain ⟨ok, hok⟩ : ∃ b, b = woodOkB ns room cu cg path := ⟨_, rfl⟩
  rw [← hok]
  have HOK := Aside0.mk hok
  clear ha ht hgg hok HB2 BF2 BC2 HWO f0 f1 q0 q1
  cases ok with
  | false =>
    have HFR : Aside0 (forestR ns room cu cg path = ([], [], false)) := ⟨by unfold forestR; rw [if_neg (by rw [← HOK.out]; simp)]⟩
    go_wp2
    go_ret3
    rw [HFR.out]
    exact ⟨_, _, rfl, Kd.R_nil _ _ _ _ _, Kd.R_nil _ _ _ _ _, by first | exact below_alloc HB3.out _ | exact HB3.out⟩
  | true =>
    have HFR : Aside0 (forestR ns room cu cg path = (us, ss.map (·.2.1), true)) := ⟨by
      unfold forestR
      rw [if_pos HOK.out.symm, (HA.out HOK.out.symm).1, (HA.out HOK.out.symm).2, List.map_map]
      rfl⟩
    have hsl : ss.length ≤ 40 := by rw [(HA.out HOK.out.symm).2, List.length_map]; exact HTL.out HOK.out.symm
    have HSL := Aside0.mk hsl
    obtain ⟨u1, u2, hbg, r1, r2, hsep⟩ := HT.out.at_
    obtain ⟨A1, c1, e1⟩ := Kd.R_slice r1
    obtain ⟨A2, c2, e2⟩ := Kd.R_slice r2
    subst e1
    subst e2
    have BG := Aside0.mk hbg
    have R1 := Aside0.mk r1
    have C2 := Aside0.mk (Kd.R_reads' r2).2.2
    have c1_ : W3.cell? ⟨g, 1, none⟩ = some (.slice A2 ss.length c2) := (blk_cell hbg 1).trans rfl
    clear hsl hbg r1 r2 hsep HA HT HTL
    go_wp2
    go_loopw [11, 28] (fun v11 v28 wr => ∃ (i : Nat) (v : Value), i ≤ ss.length ∧ v11 = v ∧ v28 = .int .i64 (i : Int) ∧ Aside0 (Kd.R Kd.string 9 wr W3.heap.size (fun _ => True) v ((ss.take i).map (·.2.1))) ∧ Aside0 (Below W3.heap.size W3 wr)) (fun _ v28 _ => ss.length - (intOf v28).toNat)
    case atStart => exact ⟨0, _, Nat.zero_le _, rfl, rfl, ⟨Kd.R_nil _ _ _ _ _⟩, ⟨Below.refl _ _⟩⟩
    case round =>
      clear c1_
      obtain ⟨i, vv, hi, hv11, rfl, HR, HB⟩ := hrel
      subst hv11
      by_cases hlt : i < ss.length
      case neg =>
        have hil : i = ss.length := by omega
        subst hil
        have p9 : decide ((ss.length : Int) < (ss.length : Int)) = false := by simp
        have HRE : Aside0 (Kd.R Kd.string 9 wr W3.heap.size (fun _ => True) _ (ss.map (·.2.1))) := ⟨by have h := HR.out; rw [List.take_length] at h; exact h⟩
        have c0_ : wr.cell? ⟨g, 0, none⟩ = some (.slice A1 us.length c1) := (blk_cell (blk_below BG.out HB.out) 0).trans rfl
        clear hi hlt HR
        go_wp2
        go_ret3
        rw [HFR.out]
        exact ⟨_, _, rfl, Kd.R_lower (Kd.R_mono (Kd.R_below R1.out HB.out) (fun _ _ => trivial)) HS2.out, Kd.R_lower HRE.out HB3.out.size, HB3.out.trans (HB.out.mono HB3.out.size)⟩
      case pos =>
        have HLT := Aside0.mk hlt
        have p9 : decide ((i : Int) < (ss.length : Int)) = true := decide_eq_true (by omega)
        have p8 : ((i : Int) < (ss.length : Int)) = True := eq_true (by omega)
        have p7 : ((0 : Int) ≤ (i : Int)) = True := eq_true (by omega)
        obtain ⟨ad, rfl, s0, s1, s2⟩ := at_stp (Kd.C_below C2.out HB.out) i hlt rfl
        obtain ⟨st, hst⟩ : ∃ s, s = ss[i] := ⟨_, rfl⟩
        rw [← hst] at s0 s1 s2
        have HTK : Aside0 ((ss.take i).map (·.2.1) ++ [st.2.1] = (ss.take (i + 1)).map (·.2.1)) := ⟨by rw [List.take_succ_eq_append_getElem hlt, List.map_append, ← hst]; rfl⟩
        have hw1 : IntKind.i64.wrap ((i : Int) + 1) = ((i + 1 : Nat) : Int) := wrap_upM hlt (by have := HSL.out; omega)
        obtain ⟨Av, cv, ev⟩ := Kd.R_slice HR.out
        subst ev
        clear hst hi hlt
        go_upto_region 8 with (fail)
        obtain ⟨gs, hgs⟩ : ∃ k, k = wr.heap.size := ⟨_, rfl⟩
        obtain ⟨W5, hW5⟩ : ∃ W, W = wr.alloc (.cells #[.int .i64 st.1, .string st.2.1, .bool st.2.2] 67 (0, 0)) := ⟨_, rfl⟩
        have hb5 : Below wr.heap.size wr W5 := by rw [hW5]; exact below_alloc (Below.refl _ _) _
        have bs := show W5.heap[gs]? = some (.cells #[.int .i64 st.1, .string st.2.1, .bool st.2.2] 67 (0, 0)) from by rw [hW5, hgs]; exact blk_new _ _
        have t1 : W5.cell? ⟨gs, 1, none⟩ = some (.string st.2.1) := (blk_cell bs 1).trans rfl
        have HB5 := Aside0.mk (HB.out.trans (hb5.mono HB.out.size))
        have HR5 := Aside0.mk (Kd.R_below HR.out hb5)
        rw [← hW5, ← hgs]
        clear hW5 hgs hb5 bs HB HR s0 s1 s2
        go_wp2_with (first | ((with_reducible refine gate_dst (N := 36) rfl ?_); refine Kd.R_append Kd.string (w0 := W3) (W := W5) W3.heap.size rfl (.tmp 32) (.tmp 35) 29 9 (.string ⟨#[]⟩) 16 rfl Tryz.underlying29 strInfoW rfl (by decide) (by decide) (.slice Av ((ss.take i).map (·.2.1)).length cv) ((ss.take i).map (·.2.1)) st.2.1 [.string st.2.1] (fun _ => True) (fun _ => False) (by simp [Act.eval]) rfl rfl (fun _ h => h.elim) (fun _ _ => trivial) HR5.out HB5.out HB5.out.size ?hl ?_; (case hl => (have h := HSL.out; simp only [List.length_map, List.length_take]; omega)); intro v2 w2 ho2 hb2 hg2 hat2))
        have HO2 := Aside0.mk ho2
        have HBE2 := Aside0.mk hb2
        clear ho2 hb2 hg2 hat2 t1 HR5 HB5
        go_wp2
        go_roundw
        case rel => exact ⟨i + 1, _, HLT.out, rfl, by first | rfl | go_num, ⟨by rw [← HTK.out]; exact HO2.out⟩, HBE2⟩
        case measure => have := HLT.out; simp [intOf]; omega
end Go.Proofs.YtfohpboikknknaaGreatDoor.Q
