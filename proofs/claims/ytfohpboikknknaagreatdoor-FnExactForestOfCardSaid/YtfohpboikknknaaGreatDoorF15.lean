/- Texts of this claim, merged by a program (wip/tools/merge.py): HSGood, HSGoodF, Q41, Q21, HIsNode. -/
import Derived.Test.YtfohpboikknknaaGreatDoorF2
import Derived.Test.YtfohpboikknknaaGreatDoorF3
import Derived.Test.YtfohpboikknknaaGreatDoorF14
import Derived.Test.YtfohpboikknknaaGreatDoorF4
import Derived.Outline
import Derived.BigQuiet
import Derived.Deep.QuietTactic
import Derived.Deep.RegionHeld3
import Derived.Deep.DeepCutAuto
import Derived.Test.YtfohpboikknknaaGreatDoorF10
namespace Go.Proofs.YtfohpboikknknaaGreatDoor.Q
open Go.RowKit Go.Proofs.YtfohpboikknknaaGreatDoorW.PrintWords Go.Proofs.YtfohpboikknknaaGreatDoorW.PrintLast Go.Proofs.YtfohpboikknknaaGreatDoorW.PrintMore
attribute [local go_sem] max2_int min2_int max_two min_two max_three min_three max_four min_four
set_option linter.unusedVariables false
set_option linter.unusedSimpArgs false
abbrev sGoodS (g2 n c0 : Nat) (ad : Addr) (room top : Int) (w : World) (w' : World) : Prop :=
  w'.cell? ⟨g2, 0, none⟩ = some (.slice (some ad) n c0) ∧ w'.cell? ⟨g2, 1, none⟩ = some (.int .i64 room) ∧ w'.cell? ad = some (.int .i64 top) ∧ Aside0 (Below w.heap.size w w') ∧ Aside0 (w'.heap[g2]? = some (.cells #[.slice (some ad) n c0, .int .i64 room] 34 (0, 0)))
def SPost (ns : List Nd) (room : Int) (w : World) (e : Ending) (w' : World) : Prop := ∃ b, e = .returned (.bool b) ∧ (b = true ↔ SGood ns room) ∧ Below w.heap.size w w'
theorem SPost.no {ns : List Nd} {room : Int} {w w' : World} (h : SGood ns room → False) (hb : Below w.heap.size w w') : SPost ns room w (.returned (.bool false)) w' := ⟨false, rfl, ⟨fun h => (Bool.false_ne_true h).elim, fun k => (h k).elim⟩, hb⟩
theorem SPost.yes {ns : List Nd} {room : Int} {w w' : World} (h : SGood ns room) (hb : Below w.heap.size w w') : SPost ns room w (.returned (.bool true)) w' := ⟨true, rfl, ⟨fun _ => h, fun _ => rfl⟩, hb⟩
theorem meas_upS {i n : Nat} {z : Int} (h : i < n) (hz : z = ((i + 1 : Nat) : Int)) : n - (intOf (Value.int .i64 z)).toNat < n - (intOf (Value.int .i64 (i : Int))).toNat := by subst hz; show n - (((i + 1 : Nat) : Int)).toNat < n - ((i : Int)).toNat; omega
def TailAt (ns : List Nd) (y : Int) : Prop := (y = 0 → (tgts ns).count y = 0) ∧ (y ≠ 0 → dirN ns y = true → (tgts ns).count y = 1) ∧ (freeN ns y = false → From (scN ns) 0 y)
abbrev sGoodS0 (g2 n c0 : Nat) (A0 : Option Addr) (room : Int) (w : World) (w' : World) : Prop :=
  w'.cell? ⟨g2, 0, none⟩ = some (.slice A0 n c0) ∧ w'.cell? ⟨g2, 1, none⟩ = some (.int .i64 room) ∧ Aside0 (Below w.heap.size w w')
def sGoodT : Bool × List (List Nat × List Nat) := (true, [([], []), ([0], [0]), ([1], [1]), ([2], [2]), ([3], [3]), ([4, 3], [4]), ([5], [5]), ([6, 5], [5, 6]), ([7, 5, 5], [5, 7]), ([8, 5], [5, 8]), ([5, 9], [5, 9]), ([10, 8], [10]), ([11], [11]), ([12, 11, 11], [11, 12]), ([11], [11]), ([14, 11], [11, 14]), ([13, 15, 11], [11, 13, 15]), ([11, 16], [11, 16]), ([17, 13], [17]), ([18], [18]), ([19, 18], [18, 19]), ([20, 18], [18, 20]), ([21, 18], [18, 21]), ([22, 18], [18, 22]), ([23, 18], [18, 23]), ([18, 24], [18, 24])])
theorem sGood_tab : rtab .any (opsOf Tryz.f121 1) = sGoodT := by kernel_rfl
section
variable {P : Program} {ops : Array Oper} {Q : Exit → Act → World → Prop} {S : World → Prop} {ds : List Nat} {md : Region.Mode} {T : Bool × List (List Nat × List Nat)} {B : List Nat}
theorem rg_takeAt {k : Nat} {d : Array Bool} (d' : Array Bool) {N : Option Tmp} {oi : Oper} {v : Value} {fuel : Nat} {a : Act} {w : World} (hi : ops[k]? = some oi) (hN : oi.dst = N) (hT : Aside0 (rtab md ops = T)) (hB : Aside0 (waitsOk T.2 B = true)) (hc : takeW T B ds d.toList d'.toList k = true)
    (hQ : ∀ c a w, Q (.panic c) (a.put oi.dst v) w → Q (.panic c) a w) (hy : YieldsIf P ops S oi v a) (hS : Aside0 (S w)) {a' : Act} (ha : a.put N v = a')
    (h : wpAnyLast P md ops Q S ds fuel d' a' w) : wpAnyLast P md ops Q S ds (fuel + 1) d a w :=
  take_ (i := k) d' hi hN (take_ofW hT.out hB.out hc) hQ hy hS.out ha h
theorem rg_oneAt {k : Nat} {d : Array Bool} (d' : Array Bool) {N : Option Tmp} {oi : Oper} {fuel : Nat} {a : Act} {w : World} (hi : ops[k]? = some oi) (hN : oi.dst = N) (hT : Aside0 (rtab md ops = T)) (hc : (readyT T.2 d.toList == [k] && d.toList.set k true == d'.toList) = true) (hd : k ∉ ds)
    (h : ∀ K : Act → World → Prop, Shut (∀ a' w', S w' → (S w' → wpAnyLast P md ops Q S ds fuel d' a' w') → K a' w') → if Region.wanted oi (yielded ops a.tmps) = true then Oper.wp P oi a w K Q else K (a.put N undef) w) :
    wpAnyLast P md ops Q S ds (fuel + 1) d a w :=
  one_ (i := k) d' hi hN (one_of hT.out hc) hd h
end
set_option maxHeartbeats 8000000 in
set_option maxRecDepth 100000 in
theorem sGood_walk (ns : List Nd) (A0 : Option Addr) (c0 : Nat) (room : Int) (w : World) (hr0 : Kd.C k85 w A0 ns.length ns) (hc0 : ns.length ≤ c0) (hfit : FsFit ns) :
    Calls Tryz.prog 121 #[.agg #[.slice A0 ns.length c0, .int .i64 room]] w fun e w' => SPost ns room w e w' := by
  have hu1 := Tryz.underlying34
  have hu2 := Tryz.underlying85
  have hu3 := Tryz.underlying144
  obtain ⟨kb, hkb⟩ := (l3Bytes_ev ns room hfit).rounds
  have HBy := Aside0.mk (fun W (hb : Below w.heap.size w W) => spec_l3Bytes.calls kb A0 c0 ns room _ W (Kd.C_below hr0 hb) hc0 hkb)
  have HI1 := Aside0.mk (fun W => spec_l1In.calls (ns.length : Int) 1 40 _ W (l1In_f _ 1 40))
  have HI2 := Aside0.mk (fun W => spec_l1In.calls room 0 1000 _ W (l1In_f _ 0 1000))
  have HR0 := Aside0.mk hr0
  have HC0 := Aside0.mk hc0
  have HFIT := Aside0.mk hfit
  clear hr0 hc0 hfit hkb
  go_enter Tryz.func121, Tryz.ntmps121
  go_upto_region 1 with (fail)
  obtain ⟨W, hW⟩ : ∃ W, W = w.alloc (.cells #[.slice A0 ns.length c0, .int .i64 room] 34 (0, 0)) := ⟨_, rfl⟩
  have HB : Aside0 (Below w.heap.size w W) := ⟨by rw [hW]; exact below_alloc (Below.refl _ _) _⟩
  have BK2 : Aside0 (W.heap[w.heap.size]? = some (.cells #[.slice A0 ns.length c0, .int .i64 room] 34 (0, 0))) := ⟨by rw [hW]; exact blk_new w _⟩
  rw [← hW]
  obtain ⟨g2, hg2⟩ : ∃ g, g = w.heap.size := ⟨_, rfl⟩
  rw [← hg2] at BK2
  rw [← hg2]
  have HG2 := Aside0.mk hg2
  clear hW hg2
  cases b1 : inB 1 40 (ns.length : Int) with
  | false =>
    have B1 := Aside0.mk b1
    rw [b1] at HI1
    have h20 : W.cell? ⟨g2, 0, none⟩ = some (.slice A0 ns.length c0) := (blk_cell BK2.out 0).trans rfl
    have h21 : W.cell? ⟨g2, 1, none⟩ = some (.int .i64 room) := (blk_cell BK2.out 1).trans rfl
    clear b1
    have HJ1 := Aside0.mk (fun V => (HI1.out V).mono (fun e w' (h : _ ∧ Drawn0 V w') => (⟨h.1, by obtain ⟨n, hn⟩ := h.2; rw [hn]; exact pw_below_drewN (Below.refl _ _) n⟩ : _ ∧ Below V.heap.size V w')))
    have SB : Aside0 (∀ V V' : World, sGoodS0 g2 ns.length c0 A0 room w V → Below V.heap.size V V' → sGoodS0 g2 ns.length c0 A0 room w V') := ⟨fun V V' h hd => by
      obtain ⟨a0, a1, ha⟩ := h
      exact ⟨pw_cell_below hd a0, pw_cell_below hd a1, ⟨below_step ha.out hd⟩⟩⟩
    refine rg_start (S := sGoodS0 g2 ns.length c0 A0 room w) (n := 26) (T := sGoodT) (B := []) sGood_tab (by kernel_rfl) (by kernel_rfl) rfl (by kernel_rfl) ⟨h20, h21, ⟨below_drew1 HB.out⟩⟩ (fun HT HB HS => ?_)
    clear h20 h21
    repeat (first
      | (refine rg_take (v := ?_) (a' := ?_) (by simp only [Nat.reduceAdd]; rfl) (by simp only [List.getElem?_toArray, List.getElem?_cons_succ, List.getElem?_cons_zero]; rfl) (by first | (dsimp only; done) | (dsimp only; rfl)) HT HB (by kernel_rfl) (by exact fun _ _ _ h => h) (Or.inl ⟨by rfl, ?_⟩) HS ?_ ?_
         rotate_left
         · rintro w' ⟨s0, s1, -⟩
           go_simp
           with_reducible rfl
         rotate_left
         · simp only [Act.put, List.setIfInBounds_toArray, List.set_cons_zero, List.set_cons_succ]
           rfl)
      | (refine rg_take (v := undef) (a' := ?_) (by simp only [Nat.reduceAdd]; rfl) (by simp only [List.getElem?_toArray, List.getElem?_cons_succ, List.getElem?_cons_zero]; rfl) (by first | (dsimp only; done) | (dsimp only; rfl)) HT HB (by kernel_rfl) (by exact fun _ _ _ h => h) (Or.inr ⟨by rfl, rfl⟩) HS ?_ ?_
         rotate_left
         · simp only [Act.put, List.setIfInBounds_toArray, List.set_cons_zero, List.set_cons_succ]
           rfl))
    refine rg_one (by simp only [Nat.reduceAdd]; rfl) (by simp only [List.getElem?_toArray, List.getElem?_cons_succ, List.getElem?_cons_zero]; rfl) (by first | (dsimp only; done) | (dsimp only; rfl)) HT (by kernel_rfl) (by simp) (fun K hK => ?_)
    refine goes_ Tryz.func88 (by kernel_rfl) rfl #[.int .i64 (ns.length : Int), .int .i64 1, .int .i64 40] (by rfl) rfl (by rfl) (by simp only [List.map_toArray, List.map_cons, List.map_nil]; rfl) ?_
    refine (HJ1.out _).mono ?_; rintro e w2 ⟨rfl, hd⟩
    refine ⟨_, rfl, ?_⟩
    refine hK.out _ _ (SB.out _ _ HS.out hd) (fun hH => ?_)
    clear hK K HS hd
    have HS := Aside0.mk hH
    clear hH
    simp only [Act.put, List.setIfInBounds_toArray, List.set_cons_zero, List.set_cons_succ]
    repeat (first
      | (refine rg_take (v := ?_) (a' := ?_) (by simp only [Nat.reduceAdd]; rfl) (by simp only [List.getElem?_toArray, List.getElem?_cons_succ, List.getElem?_cons_zero]; rfl) (by first | (dsimp only; done) | (dsimp only; rfl)) HT HB (by kernel_rfl) (by exact fun _ _ _ h => h) (Or.inl ⟨by rfl, ?_⟩) HS ?_ ?_
         rotate_left
         · rintro w' ⟨s0, s1, -⟩
           go_simp
           with_reducible rfl
         rotate_left
         · simp only [Act.put, List.setIfInBounds_toArray, List.set_cons_zero, List.set_cons_succ]
           rfl)
      | (refine rg_take (v := undef) (a' := ?_) (by simp only [Nat.reduceAdd]; rfl) (by simp only [List.getElem?_toArray, List.getElem?_cons_succ, List.getElem?_cons_zero]; rfl) (by first | (dsimp only; done) | (dsimp only; rfl)) HT HB (by kernel_rfl) (by exact fun _ _ _ h => h) (Or.inr ⟨by rfl, rfl⟩) HS ?_ ?_
         rotate_left
         · simp only [Act.put, List.setIfInBounds_toArray, List.set_cons_zero, List.set_cons_succ]
           rfl))
    refine done_ (done_of HT.out (by kernel_rfl)) ?_
    go_wp2
    go_ret
    exact SPost.no (fun h => by have h1 := h.len; have := (inB_iff 1 40 (ns.length : Int)).mpr ⟨by omega, by omega⟩; rw [B1.out] at this; exact Bool.false_ne_true this) HS.out.2.2.out
  | true =>
    have hlen := (inB_iff _ _ _).mp b1
    have HLEN : Aside0 (1 ≤ ns.length ∧ ns.length ≤ 40) := ⟨by omega, by omega⟩
    rw [b1] at HI1
    clear b1
    cases b2 : inB 0 1000 room with
    | false =>
      have B2 := Aside0.mk b2
      rw [b2] at HI2
      have h20 : W.cell? ⟨g2, 0, none⟩ = some (.slice A0 ns.length c0) := (blk_cell BK2.out 0).trans rfl
      have h21 : W.cell? ⟨g2, 1, none⟩ = some (.int .i64 room) := (blk_cell BK2.out 1).trans rfl
      clear b2 hlen
      have HJ1 := Aside0.mk (fun V => (HI1.out V).mono (fun e w' (h : _ ∧ Drawn0 V w') => (⟨h.1, by obtain ⟨n, hn⟩ := h.2; rw [hn]; exact pw_below_drewN (Below.refl _ _) n⟩ : _ ∧ Below V.heap.size V w')))
      have HJ2 := Aside0.mk (fun V => (HI2.out V).mono (fun e w' (h : _ ∧ Drawn0 V w') => (⟨h.1, by obtain ⟨n, hn⟩ := h.2; rw [hn]; exact pw_below_drewN (Below.refl _ _) n⟩ : _ ∧ Below V.heap.size V w')))
      have SB : Aside0 (∀ V V' : World, sGoodS0 g2 ns.length c0 A0 room w V → Below V.heap.size V V' → sGoodS0 g2 ns.length c0 A0 room w V') := ⟨fun V V' h hd => by
        obtain ⟨a0, a1, ha⟩ := h
        exact ⟨pw_cell_below hd a0, pw_cell_below hd a1, ⟨below_step ha.out hd⟩⟩⟩
      refine rg_start (S := sGoodS0 g2 ns.length c0 A0 room w) (n := 26) (T := sGoodT) (B := []) sGood_tab (by kernel_rfl) (by kernel_rfl) rfl (by kernel_rfl) ⟨h20, h21, ⟨below_drew1 HB.out⟩⟩ (fun HT HB HS => ?_)
      clear h20 h21
      repeat (first
        | (refine rg_take (v := ?_) (a' := ?_) (by simp only [Nat.reduceAdd]; rfl) (by simp only [List.getElem?_toArray, List.getElem?_cons_succ, List.getElem?_cons_zero]; rfl) (by first | (dsimp only; done) | (dsimp only; rfl)) HT HB (by kernel_rfl) (by exact fun _ _ _ h => h) (Or.inl ⟨by rfl, ?_⟩) HS ?_ ?_
           rotate_left
           · rintro w' ⟨s0, s1, -⟩
             go_simp
             with_reducible rfl
           rotate_left
           · simp only [Act.put, List.setIfInBounds_toArray, List.set_cons_zero, List.set_cons_succ]
             rfl)
        | (refine rg_take (v := undef) (a' := ?_) (by simp only [Nat.reduceAdd]; rfl) (by simp only [List.getElem?_toArray, List.getElem?_cons_succ, List.getElem?_cons_zero]; rfl) (by first | (dsimp only; done) | (dsimp only; rfl)) HT HB (by kernel_rfl) (by exact fun _ _ _ h => h) (Or.inr ⟨by rfl, rfl⟩) HS ?_ ?_
           rotate_left
           · simp only [Act.put, List.setIfInBounds_toArray, List.set_cons_zero, List.set_cons_succ]
             rfl))
      refine rg_one (by simp only [Nat.reduceAdd]; rfl) (by simp only [List.getElem?_toArray, List.getElem?_cons_succ, List.getElem?_cons_zero]; rfl) (by first | (dsimp only; done) | (dsimp only; rfl)) HT (by kernel_rfl) (by simp) (fun K hK => ?_)
      refine goes_ Tryz.func88 (by kernel_rfl) rfl #[.int .i64 (ns.length : Int), .int .i64 1, .int .i64 40] (by rfl) rfl (by rfl) (by simp only [List.map_toArray, List.map_cons, List.map_nil]; rfl) ?_
      refine (HJ1.out _).mono ?_; rintro e w2 ⟨rfl, hd⟩
      refine ⟨_, rfl, ?_⟩
      refine hK.out _ _ (SB.out _ _ HS.out hd) (fun hH => ?_)
      clear hK K HS hd
      have HS := Aside0.mk hH
      clear hH
      simp only [Act.put, List.setIfInBounds_toArray, List.set_cons_zero, List.set_cons_succ]
      repeat (first
        | (refine rg_take (v := ?_) (a' := ?_) (by simp only [Nat.reduceAdd]; rfl) (by simp only [List.getElem?_toArray, List.getElem?_cons_succ, List.getElem?_cons_zero]; rfl) (by first | (dsimp only; done) | (dsimp only; rfl)) HT HB (by kernel_rfl) (by exact fun _ _ _ h => h) (Or.inl ⟨by rfl, ?_⟩) HS ?_ ?_
           rotate_left
           · rintro w' ⟨s0, s1, -⟩
             go_simp
             with_reducible rfl
           rotate_left
           · simp only [Act.put, List.setIfInBounds_toArray, List.set_cons_zero, List.set_cons_succ]
             rfl)
        | (refine rg_take (v := undef) (a' := ?_) (by simp only [Nat.reduceAdd]; rfl) (by simp only [List.getElem?_toArray, List.getElem?_cons_succ, List.getElem?_cons_zero]; rfl) (by first | (dsimp only; done) | (dsimp only; rfl)) HT HB (by kernel_rfl) (by exact fun _ _ _ h => h) (Or.inr ⟨by rfl, rfl⟩) HS ?_ ?_
           rotate_left
           · simp only [Act.put, List.setIfInBounds_toArray, List.set_cons_zero, List.set_cons_succ]
             rfl))
      refine rg_one (by simp only [Nat.reduceAdd]; rfl) (by simp only [List.getElem?_toArray, List.getElem?_cons_succ, List.getElem?_cons_zero]; rfl) (by first | (dsimp only; done) | (dsimp only; rfl)) HT (by kernel_rfl) (by simp) (fun K hK => ?_)
      refine goes_ Tryz.func88 (by kernel_rfl) rfl #[.int .i64 room, .int .i64 0, .int .i64 1000] (by rfl) rfl (by rfl) (by simp only [List.map_toArray, List.map_cons, List.map_nil]; rfl) ?_
      refine (HJ2.out _).mono ?_; rintro e w2 ⟨rfl, hd⟩
      refine ⟨_, rfl, ?_⟩
      refine hK.out _ _ (SB.out _ _ HS.out hd) (fun hH => ?_)
      clear hK K HS hd
      have HS := Aside0.mk hH
      clear hH
      simp only [Act.put, List.setIfInBounds_toArray, List.set_cons_zero, List.set_cons_succ]
      repeat (first
        | (refine rg_take (v := ?_) (a' := ?_) (by simp only [Nat.reduceAdd]; rfl) (by simp only [List.getElem?_toArray, List.getElem?_cons_succ, List.getElem?_cons_zero]; rfl) (by first | (dsimp only; done) | (dsimp only; rfl)) HT HB (by kernel_rfl) (by exact fun _ _ _ h => h) (Or.inl ⟨by rfl, ?_⟩) HS ?_ ?_
           rotate_left
           · rintro w' ⟨s0, s1, -⟩
             go_simp
             with_reducible rfl
           rotate_left
           · simp only [Act.put, List.setIfInBounds_toArray, List.set_cons_zero, List.set_cons_succ]
             rfl)
        | (refine rg_take (v := undef) (a' := ?_) (by simp only [Nat.reduceAdd]; rfl) (by simp only [List.getElem?_toArray, List.getElem?_cons_succ, List.getElem?_cons_zero]; rfl) (by first | (dsimp only; done) | (dsimp only; rfl)) HT HB (by kernel_rfl) (by exact fun _ _ _ h => h) (Or.inr ⟨by rfl, rfl⟩) HS ?_ ?_
           rotate_left
           · simp only [Act.put, List.setIfInBounds_toArray, List.set_cons_zero, List.set_cons_succ]
             rfl))
      refine done_ (done_of HT.out (by kernel_rfl)) ?_
      go_wp2
      go_ret
      exact SPost.no (fun h => by have h1 := h.inRoom; rw [B2.out] at h1; exact Bool.false_ne_true h1) HS.out.2.2.out
    | true =>
      have B2 := Aside0.mk b2
      rw [b2] at HI2
      clear b2
      obtain ⟨ad, A6, c6, had, e0, e1, e2, e3, e4, e5, e6, hc6, hC6⟩ := at_T85 HR0.out 0 (by omega) (by omega)
      subst had
      obtain ⟨top, htop⟩ : ∃ t, t = (rd_T85 ns 0).f0 := ⟨_, rfl⟩
      rw [← htop] at e0
      have HT0 : Aside0 ((ndR ns 0).f0 = top) := ⟨htop.symm⟩
      clear htop
      have h30 : W.cell? ad = some (.int .i64 top) := (HB.out.cell (World.block_lt_of_cell? w _ e0)).trans (by simpa using e0)
      have h20 : W.cell? ⟨g2, 0, none⟩ = some (.slice (some ad) ns.length c0) := (blk_cell BK2.out 0).trans rfl
      have h21 : W.cell? ⟨g2, 1, none⟩ = some (.int .i64 room) := (blk_cell BK2.out 1).trans rfl
      have p1 : ((0 : Int) < (ns.length : Int)) = True := eq_true (by omega)
      have p2 : (0 < ns.length) = True := eq_true (by omega)
      clear e0 e1 e2 e3 e4 e5 e6 hc6 hC6 hlen
      have SB : Aside0 (∀ V V' : World, sGoodS g2 ns.length c0 ad room top w V → Below V.heap.size V V' → sGoodS g2 ns.length c0 ad room top w V') := ⟨fun V V' h hd => by
        obtain ⟨a0, a1, a2, ha, hb2⟩ := h
        exact ⟨pw_cell_below hd a0, pw_cell_below hd a1, pw_cell_below hd a2, ⟨below_step ha.out hd⟩, ⟨(hd.block _ (blk_lt hb2.out)).trans hb2.out⟩⟩⟩
      have HJ1 := Aside0.mk (fun V => (HI1.out V).mono (fun e w' (h : _ ∧ Drawn0 V w') => (⟨h.1, by obtain ⟨n, hn⟩ := h.2; rw [hn]; exact pw_below_drewN (Below.refl _ _) n⟩ : _ ∧ Below V.heap.size V w')))
      have HJ2 := Aside0.mk (fun V => (HI2.out V).mono (fun e w' (h : _ ∧ Drawn0 V w') => (⟨h.1, by obtain ⟨n, hn⟩ := h.2; rw [hn]; exact pw_below_drewN (Below.refl _ _) n⟩ : _ ∧ Below V.heap.size V w')))
      by_cases hs : room < sumB ns
      case pos =>
        have HSM := Aside0.mk hs
        have q1 : decide (room < sumB ns) = true := decide_eq_true hs
        have q2 : (room < sumB ns) = True := eq_true hs
        clear hs
        refine rg_start (S := sGoodS g2 ns.length c0 ad room top w) (n := 26) (T := sGoodT) (B := []) sGood_tab (by kernel_rfl) (by kernel_rfl) rfl (by kernel_rfl) ⟨h20, h21, h30, ⟨below_drew1 HB.out⟩, ⟨BK2.out⟩⟩ (fun HT HB HS => ?_)
        clear h20 h21 h30
        repeat (first
          | (refine rg_take (v := ?_) (a' := ?_) (by simp only [Nat.reduceAdd]; rfl) (by simp only [List.getElem?_toArray, List.getElem?_cons_succ, List.getElem?_cons_zero]; rfl) (by first | (dsimp only; done) | (dsimp only; rfl)) HT HB (by kernel_rfl) (by exact fun _ _ _ h => h) (Or.inl ⟨by rfl, ?_⟩) HS ?_ ?_
             rotate_left
             · rintro w' ⟨s0, s1, s2, -, -⟩
               go_simp
               with_reducible rfl
             rotate_left
             · simp only [Act.put, List.setIfInBounds_toArray, List.set_cons_zero, List.set_cons_succ]
               rfl)
          | (refine rg_take (v := undef) (a' := ?_) (by simp only [Nat.reduceAdd]; rfl) (by simp only [List.getElem?_toArray, List.getElem?_cons_succ, List.getElem?_cons_zero]; rfl) (by first | (dsimp only; done) | (dsimp only; rfl)) HT HB (by kernel_rfl) (by exact fun _ _ _ h => h) (Or.inr ⟨by rfl, rfl⟩) HS ?_ ?_
             rotate_left
             · simp only [Act.put, List.setIfInBounds_toArray, List.set_cons_zero, List.set_cons_succ]
               rfl))
        refine rg_one (by simp only [Nat.reduceAdd]; rfl) (by simp only [List.getElem?_toArray, List.getElem?_cons_succ, List.getElem?_cons_zero]; rfl) (by first | (dsimp only; done) | (dsimp only; rfl)) HT (by kernel_rfl) (by simp) (fun K hK => ?_)
        refine goes_ Tryz.func88 (by kernel_rfl) rfl #[.int .i64 (ns.length : Int), .int .i64 1, .int .i64 40] (by rfl) rfl (by rfl) (by simp only [List.map_toArray, List.map_cons, List.map_nil]; rfl) ?_
        refine (HJ1.out _).mono ?_; rintro e w2 ⟨rfl, hd⟩
        refine ⟨_, rfl, ?_⟩
        refine hK.out _ _ (SB.out _ _ HS.out hd) (fun hH => ?_)
        clear hK K HS hd
        have HS := Aside0.mk hH
        clear hH
        simp only [Act.put, List.setIfInBounds_toArray, List.set_cons_zero, List.set_cons_succ]
        repeat (first
          | (refine rg_take (v := ?_) (a' := ?_) (by simp only [Nat.reduceAdd]; rfl) (by simp only [List.getElem?_toArray, List.getElem?_cons_succ, List.getElem?_cons_zero]; rfl) (by first | (dsimp only; done) | (dsimp only; rfl)) HT HB (by kernel_rfl) (by exact fun _ _ _ h => h) (Or.inl ⟨by rfl, ?_⟩) HS ?_ ?_
             rotate_left
             · rintro w' ⟨s0, s1, s2, -, -⟩
               go_simp
               with_reducible rfl
             rotate_left
             · simp only [Act.put, List.setIfInBounds_toArray, List.set_cons_zero, List.set_cons_succ]
               rfl)
          | (refine rg_take (v := undef) (a' := ?_) (by simp only [Nat.reduceAdd]; rfl) (by simp only [List.getElem?_toArray, List.getElem?_cons_succ, List.getElem?_cons_zero]; rfl) (by first | (dsimp only; done) | (dsimp only; rfl)) HT HB (by kernel_rfl) (by exact fun _ _ _ h => h) (Or.inr ⟨by rfl, rfl⟩) HS ?_ ?_
             rotate_left
             · simp only [Act.put, List.setIfInBounds_toArray, List.set_cons_zero, List.set_cons_succ]
               rfl))
        refine rg_one (by simp only [Nat.reduceAdd]; rfl) (by simp only [List.getElem?_toArray, List.getElem?_cons_succ, List.getElem?_cons_zero]; rfl) (by first | (dsimp only; done) | (dsimp only; rfl)) HT (by kernel_rfl) (by simp) (fun K hK => ?_)
        refine goes_ Tryz.func88 (by kernel_rfl) rfl #[.int .i64 room, .int .i64 0, .int .i64 1000] (by rfl) rfl (by rfl) (by simp only [List.map_toArray, List.map_cons, List.map_nil]; rfl) ?_
        refine (HJ2.out _).mono ?_; rintro e w2 ⟨rfl, hd⟩
        refine ⟨_, rfl, ?_⟩
        refine hK.out _ _ (SB.out _ _ HS.out hd) (fun hH => ?_)
        clear hK K HS hd
        have HS := Aside0.mk hH
        clear hH
        simp only [Act.put, List.setIfInBounds_toArray, List.set_cons_zero, List.set_cons_succ]
        repeat (first
          | (refine rg_take (v := ?_) (a' := ?_) (by simp only [Nat.reduceAdd]; rfl) (by simp only [List.getElem?_toArray, List.getElem?_cons_succ, List.getElem?_cons_zero]; rfl) (by first | (dsimp only; done) | (dsimp only; rfl)) HT HB (by kernel_rfl) (by exact fun _ _ _ h => h) (Or.inl ⟨by rfl, ?_⟩) HS ?_ ?_
             rotate_left
             · rintro w' ⟨s0, s1, s2, -, -⟩
               go_simp
               with_reducible rfl
             rotate_left
             · simp only [Act.put, List.setIfInBounds_toArray, List.set_cons_zero, List.set_cons_succ]
               rfl)
          | (refine rg_take (v := undef) (a' := ?_) (by simp only [Nat.reduceAdd]; rfl) (by simp only [List.getElem?_toArray, List.getElem?_cons_succ, List.getElem?_cons_zero]; rfl) (by first | (dsimp only; done) | (dsimp only; rfl)) HT HB (by kernel_rfl) (by exact fun _ _ _ h => h) (Or.inr ⟨by rfl, rfl⟩) HS ?_ ?_
             rotate_left
             · simp only [Act.put, List.setIfInBounds_toArray, List.set_cons_zero, List.set_cons_succ]
               rfl))
        refine rg_takeAt (k := 14) (#[true,true,true,true,true,true,true,true,true,true,true,true,true,false,true,false,false,false,false,false,false,false,false,false,false,false]) (v := ?_) (a' := ?_) (by simp only [List.getElem?_toArray, List.getElem?_cons_succ, List.getElem?_cons_zero]; rfl) (by first | (dsimp only; done) | (dsimp only; rfl)) HT HB (by kernel_rfl) (by exact fun _ _ _ h => h) (Or.inl ⟨by rfl, ?_⟩) HS ?_ ?_
        rotate_left
        · rintro w' ⟨s0, s1, s2, -, -⟩
          go_simp
          with_reducible rfl
        rotate_left
        · simp only [Act.put, List.setIfInBounds_toArray, List.set_cons_zero, List.set_cons_succ]
          rfl
        refine rg_takeAt (k := 15) (#[true,true,true,true,true,true,true,true,true,true,true,true,true,false,true,true,false,false,false,false,false,false,false,false,false,false]) (v := ?_) (a' := ?_) (by simp only [List.getElem?_toArray, List.getElem?_cons_succ, List.getElem?_cons_zero]; rfl) (by first | (dsimp only; done) | (dsimp only; rfl)) HT HB (by kernel_rfl) (by exact fun _ _ _ h => h) (Or.inl ⟨by rfl, ?_⟩) HS ?_ ?_
        rotate_left
        · rintro w' ⟨s0, s1, s2, -, -⟩
          go_simp
          with_reducible rfl
        rotate_left
        · simp only [Act.put, List.setIfInBounds_toArray, List.set_cons_zero, List.set_cons_succ]
          rfl
        refine rg_oneAt (k := 13) (pre 26 16) (by simp only [List.getElem?_toArray, List.getElem?_cons_succ, List.getElem?_cons_zero]; rfl) (by first | (dsimp only; done) | (dsimp only; rfl)) HT (by kernel_rfl) (by simp) (fun K hK => ?_)
        refine goes_ Tryz.func93 (by kernel_rfl) rfl #[.agg #[.slice (some ad) ns.length c0, .int .i64 room]] (by rfl) rfl (by rfl) (by simp only [List.map_toArray, List.map_cons, List.map_nil]; rfl) ?_
        refine (HBy.out _ (by obtain ⟨-, -, -, ha, -⟩ := HS.out; exact ha.out)).mono ?_; rintro e w2 ⟨rfl, hd⟩
        refine ⟨_, rfl, ?_⟩
        refine hK.out _ _ (SB.out _ _ HS.out hd) (fun hH => ?_)
        clear hK K HS hd
        have HS := Aside0.mk hH
        clear hH
        simp only [Act.put, List.setIfInBounds_toArray, List.set_cons_zero, List.set_cons_succ]
        repeat (first
          | (refine rg_take (v := ?_) (a' := ?_) (by simp only [Nat.reduceAdd]; rfl) (by simp only [List.getElem?_toArray, List.getElem?_cons_succ, List.getElem?_cons_zero]; rfl) (by first | (dsimp only; done) | (dsimp only; rfl)) HT HB (by kernel_rfl) (by exact fun _ _ _ h => h) (Or.inl ⟨by rfl, ?_⟩) HS ?_ ?_
             rotate_left
             · rintro w' ⟨s0, s1, s2, -, -⟩
               go_simp
               with_reducible rfl
             rotate_left
             · simp only [Act.put, List.setIfInBounds_toArray, List.set_cons_zero, List.set_cons_succ]
               rfl)
          | (refine rg_take (v := undef) (a' := ?_) (by simp only [Nat.reduceAdd]; rfl) (by simp only [List.getElem?_toArray, List.getElem?_cons_succ, List.getElem?_cons_zero]; rfl) (by first | (dsimp only; done) | (dsimp only; rfl)) HT HB (by kernel_rfl) (by exact fun _ _ _ h => h) (Or.inr ⟨by rfl, rfl⟩) HS ?_ ?_
             rotate_left
             · simp only [Act.put, List.setIfInBounds_toArray, List.set_cons_zero, List.set_cons_succ]
               rfl))
        refine done_ (done_of HT.out (by kernel_rfl)) ?_
        go_wp2
        go_ret
        exact SPost.no (fun h => by have h1 := h.sum; have := HSM.out; omega) HS.out.2.2.2.1.out
      case neg =>
        have HSM := Aside0.mk hs
        have q1 : decide (room < sumB ns) = false := decide_eq_false hs
        have q2 : (room < sumB ns) = False := eq_false hs
        clear hs
        by_cases ht : top = 2
        case neg =>
          have HTP := Aside0.mk ht
          have q3 : (top != 2) = true := by simpa using ht
          have q4 : (top == 2) = false := by simpa using ht
          clear ht
          refine rg_start (S := sGoodS g2 ns.length c0 ad room top w) (n := 26) (T := sGoodT) (B := []) sGood_tab (by kernel_rfl) (by kernel_rfl) rfl (by kernel_rfl) ⟨h20, h21, h30, ⟨below_drew1 HB.out⟩, ⟨BK2.out⟩⟩ (fun HT HB HS => ?_)
          clear h20 h21 h30
          repeat (first
            | (refine rg_take (v := ?_) (a' := ?_) (by simp only [Nat.reduceAdd]; rfl) (by simp only [List.getElem?_toArray, List.getElem?_cons_succ, List.getElem?_cons_zero]; rfl) (by first | (dsimp only; done) | (dsimp only; rfl)) HT HB (by kernel_rfl) (by exact fun _ _ _ h => h) (Or.inl ⟨by rfl, ?_⟩) HS ?_ ?_
               rotate_left
               · rintro w' ⟨s0, s1, s2, -, -⟩
                 go_simp
                 with_reducible rfl
               rotate_left
               · simp only [Act.put, List.setIfInBounds_toArray, List.set_cons_zero, List.set_cons_succ]
                 rfl)
            | (refine rg_take (v := undef) (a' := ?_) (by simp only [Nat.reduceAdd]; rfl) (by simp only [List.getElem?_toArray, List.getElem?_cons_succ, List.getElem?_cons_zero]; rfl) (by first | (dsimp only; done) | (dsimp only; rfl)) HT HB (by kernel_rfl) (by exact fun _ _ _ h => h) (Or.inr ⟨by rfl, rfl⟩) HS ?_ ?_
               rotate_left
               · simp only [Act.put, List.setIfInBounds_toArray, List.set_cons_zero, List.set_cons_succ]
                 rfl))
          refine rg_one (by simp only [Nat.reduceAdd]; rfl) (by simp only [List.getElem?_toArray, List.getElem?_cons_succ, List.getElem?_cons_zero]; rfl) (by first | (dsimp only; done) | (dsimp only; rfl)) HT (by kernel_rfl) (by simp) (fun K hK => ?_)
          refine goes_ Tryz.func88 (by kernel_rfl) rfl #[.int .i64 (ns.length : Int), .int .i64 1, .int .i64 40] (by rfl) rfl (by rfl) (by simp only [List.map_toArray, List.map_cons, List.map_nil]; rfl) ?_
          refine (HJ1.out _).mono ?_; rintro e w2 ⟨rfl, hd⟩
          refine ⟨_, rfl, ?_⟩
          refine hK.out _ _ (SB.out _ _ HS.out hd) (fun hH => ?_)
          clear hK K HS hd
          have HS := Aside0.mk hH
          clear hH
          simp only [Act.put, List.setIfInBounds_toArray, List.set_cons_zero, List.set_cons_succ]
          repeat (first
            | (refine rg_take (v := ?_) (a' := ?_) (by simp only [Nat.reduceAdd]; rfl) (by simp only [List.getElem?_toArray, List.getElem?_cons_succ, List.getElem?_cons_zero]; rfl) (by first | (dsimp only; done) | (dsimp only; rfl)) HT HB (by kernel_rfl) (by exact fun _ _ _ h => h) (Or.inl ⟨by rfl, ?_⟩) HS ?_ ?_
               rotate_left
               · rintro w' ⟨s0, s1, s2, -, -⟩
                 go_simp
                 with_reducible rfl
               rotate_left
               · simp only [Act.put, List.setIfInBounds_toArray, List.set_cons_zero, List.set_cons_succ]
                 rfl)
            | (refine rg_take (v := undef) (a' := ?_) (by simp only [Nat.reduceAdd]; rfl) (by simp only [List.getElem?_toArray, List.getElem?_cons_succ, List.getElem?_cons_zero]; rfl) (by first | (dsimp only; done) | (dsimp only; rfl)) HT HB (by kernel_rfl) (by exact fun _ _ _ h => h) (Or.inr ⟨by rfl, rfl⟩) HS ?_ ?_
               rotate_left
               · simp only [Act.put, List.setIfInBounds_toArray, List.set_cons_zero, List.set_cons_succ]
                 rfl))
          refine rg_one (by simp only [Nat.reduceAdd]; rfl) (by simp only [List.getElem?_toArray, List.getElem?_cons_succ, List.getElem?_cons_zero]; rfl) (by first | (dsimp only; done) | (dsimp only; rfl)) HT (by kernel_rfl) (by simp) (fun K hK => ?_)
          refine goes_ Tryz.func88 (by kernel_rfl) rfl #[.int .i64 room, .int .i64 0, .int .i64 1000] (by rfl) rfl (by rfl) (by simp only [List.map_toArray, List.map_cons, List.map_nil]; rfl) ?_
          refine (HJ2.out _).mono ?_; rintro e w2 ⟨rfl, hd⟩
          refine ⟨_, rfl, ?_⟩
          refine hK.out _ _ (SB.out _ _ HS.out hd) (fun hH => ?_)
          clear hK K HS hd
          have HS := Aside0.mk hH
          clear hH
          simp only [Act.put, List.setIfInBounds_toArray, List.set_cons_zero, List.set_cons_succ]
          repeat (first
            | (refine rg_take (v := ?_) (a' := ?_) (by simp only [Nat.reduceAdd]; rfl) (by simp only [List.getElem?_toArray, List.getElem?_cons_succ, List.getElem?_cons_zero]; rfl) (by first | (dsimp only; done) | (dsimp only; rfl)) HT HB (by kernel_rfl) (by exact fun _ _ _ h => h) (Or.inl ⟨by rfl, ?_⟩) HS ?_ ?_
               rotate_left
               · rintro w' ⟨s0, s1, s2, -, -⟩
                 go_simp
                 with_reducible rfl
               rotate_left
               · simp only [Act.put, List.setIfInBounds_toArray, List.set_cons_zero, List.set_cons_succ]
                 rfl)
            | (refine rg_take (v := undef) (a' := ?_) (by simp only [Nat.reduceAdd]; rfl) (by simp only [List.getElem?_toArray, List.getElem?_cons_succ, List.getElem?_cons_zero]; rfl) (by first | (dsimp only; done) | (dsimp only; rfl)) HT HB (by kernel_rfl) (by exact fun _ _ _ h => h) (Or.inr ⟨by rfl, rfl⟩) HS ?_ ?_
               rotate_left
               · simp only [Act.put, List.setIfInBounds_toArray, List.set_cons_zero, List.set_cons_succ]
                 rfl))
          refine rg_takeAt (k := 14) (#[true,true,true,true,true,true,true,true,true,true,true,true,true,false,true,false,false,false,false,false,false,false,false,false,false,false]) (v := ?_) (a' := ?_) (by simp only [List.getElem?_toArray, List.getElem?_cons_succ, List.getElem?_cons_zero]; rfl) (by first | (dsimp only; done) | (dsimp only; rfl)) HT HB (by kernel_rfl) (by exact fun _ _ _ h => h) (Or.inl ⟨by rfl, ?_⟩) HS ?_ ?_
          rotate_left
          · rintro w' ⟨s0, s1, s2, -, -⟩
            go_simp
            with_reducible rfl
          rotate_left
          · simp only [Act.put, List.setIfInBounds_toArray, List.set_cons_zero, List.set_cons_succ]
            rfl
          refine rg_takeAt (k := 15) (#[true,true,true,true,true,true,true,true,true,true,true,true,true,false,true,true,false,false,false,false,false,false,false,false,false,false]) (v := ?_) (a' := ?_) (by simp only [List.getElem?_toArray, List.getElem?_cons_succ, List.getElem?_cons_zero]; rfl) (by first | (dsimp only; done) | (dsimp only; rfl)) HT HB (by kernel_rfl) (by exact fun _ _ _ h => h) (Or.inl ⟨by rfl, ?_⟩) HS ?_ ?_
          rotate_left
          · rintro w' ⟨s0, s1, s2, -, -⟩
            go_simp
            with_reducible rfl
          rotate_left
          · simp only [Act.put, List.setIfInBounds_toArray, List.set_cons_zero, List.set_cons_succ]
            rfl
          refine rg_oneAt (k := 13) (pre 26 16) (by simp only [List.getElem?_toArray, List.getElem?_cons_succ, List.getElem?_cons_zero]; rfl) (by first | (dsimp only; done) | (dsimp only; rfl)) HT (by kernel_rfl) (by simp) (fun K hK => ?_)
          refine goes_ Tryz.func93 (by kernel_rfl) rfl #[.agg #[.slice (some ad) ns.length c0, .int .i64 room]] (by rfl) rfl (by rfl) (by simp only [List.map_toArray, List.map_cons, List.map_nil]; rfl) ?_
          refine (HBy.out _ (by obtain ⟨-, -, -, ha, -⟩ := HS.out; exact ha.out)).mono ?_; rintro e w2 ⟨rfl, hd⟩
          refine ⟨_, rfl, ?_⟩
          refine hK.out _ _ (SB.out _ _ HS.out hd) (fun hH => ?_)
          clear hK K HS hd
          have HS := Aside0.mk hH
          clear hH
          simp only [Act.put, List.setIfInBounds_toArray, List.set_cons_zero, List.set_cons_succ]
          repeat (first
            | (refine rg_take (v := ?_) (a' := ?_) (by simp only [Nat.reduceAdd]; rfl) (by simp only [List.getElem?_toArray, List.getElem?_cons_succ, List.getElem?_cons_zero]; rfl) (by first | (dsimp only; done) | (dsimp only; rfl)) HT HB (by kernel_rfl) (by exact fun _ _ _ h => h) (Or.inl ⟨by rfl, ?_⟩) HS ?_ ?_
               rotate_left
               · rintro w' ⟨s0, s1, s2, -, -⟩
                 go_simp
                 with_reducible rfl
               rotate_left
               · simp only [Act.put, List.setIfInBounds_toArray, List.set_cons_zero, List.set_cons_succ]
                 rfl)
            | (refine rg_take (v := undef) (a' := ?_) (by simp only [Nat.reduceAdd]; rfl) (by simp only [List.getElem?_toArray, List.getElem?_cons_succ, List.getElem?_cons_zero]; rfl) (by first | (dsimp only; done) | (dsimp only; rfl)) HT HB (by kernel_rfl) (by exact fun _ _ _ h => h) (Or.inr ⟨by rfl, rfl⟩) HS ?_ ?_
               rotate_left
               · simp only [Act.put, List.setIfInBounds_toArray, List.set_cons_zero, List.set_cons_succ]
                 rfl))
          refine done_ (done_of HT.out (by kernel_rfl)) ?_
          go_wp2
          go_ret
          exact SPost.no (fun h => by exact HTP.out (HT0.out.symm.trans h.top)) HS.out.2.2.2.1.out
        case pos =>
          have HTP := Aside0.mk ht
          have q3 : (top != 2) = false := by simpa using ht
          have q4 : (top == 2) = true := by simpa using ht
          clear ht
          refine rg_start (S := sGoodS g2 ns.length c0 ad room top w) (n := 26) (T := sGoodT) (B := []) sGood_tab (by kernel_rfl) (by kernel_rfl) rfl (by kernel_rfl) ⟨h20, h21, h30, ⟨below_drew1 HB.out⟩, ⟨BK2.out⟩⟩ (fun HT HB HS => ?_)
          clear h20 h21 h30
          repeat (first
            | (refine rg_take (v := ?_) (a' := ?_) (by simp only [Nat.reduceAdd]; rfl) (by simp only [List.getElem?_toArray, List.getElem?_cons_succ, List.getElem?_cons_zero]; rfl) (by first | (dsimp only; done) | (dsimp only; rfl)) HT HB (by kernel_rfl) (by exact fun _ _ _ h => h) (Or.inl ⟨by rfl, ?_⟩) HS ?_ ?_
               rotate_left
               · rintro w' ⟨s0, s1, s2, -, -⟩
                 go_simp
                 with_reducible rfl
               rotate_left
               · simp only [Act.put, List.setIfInBounds_toArray, List.set_cons_zero, List.set_cons_succ]
                 rfl)
            | (refine rg_take (v := undef) (a' := ?_) (by simp only [Nat.reduceAdd]; rfl) (by simp only [List.getElem?_toArray, List.getElem?_cons_succ, List.getElem?_cons_zero]; rfl) (by first | (dsimp only; done) | (dsimp only; rfl)) HT HB (by kernel_rfl) (by exact fun _ _ _ h => h) (Or.inr ⟨by rfl, rfl⟩) HS ?_ ?_
               rotate_left
               · simp only [Act.put, List.setIfInBounds_toArray, List.set_cons_zero, List.set_cons_succ]
                 rfl))
          refine rg_one (by simp only [Nat.reduceAdd]; rfl) (by simp only [List.getElem?_toArray, List.getElem?_cons_succ, List.getElem?_cons_zero]; rfl) (by first | (dsimp only; done) | (dsimp only; rfl)) HT (by kernel_rfl) (by simp) (fun K hK => ?_)
          refine goes_ Tryz.func88 (by kernel_rfl) rfl #[.int .i64 (ns.length : Int), .int .i64 1, .int .i64 40] (by rfl) rfl (by rfl) (by simp only [List.map_toArray, List.map_cons, List.map_nil]; rfl) ?_
          refine (HJ1.out _).mono ?_; rintro e w2 ⟨rfl, hd⟩
          refine ⟨_, rfl, ?_⟩
          refine hK.out _ _ (SB.out _ _ HS.out hd) (fun hH => ?_)
          clear hK K HS hd
          have HS := Aside0.mk hH
          clear hH
          simp only [Act.put, List.setIfInBounds_toArray, List.set_cons_zero, List.set_cons_succ]
          repeat (first
            | (refine rg_take (v := ?_) (a' := ?_) (by simp only [Nat.reduceAdd]; rfl) (by simp only [List.getElem?_toArray, List.getElem?_cons_succ, List.getElem?_cons_zero]; rfl) (by first | (dsimp only; done) | (dsimp only; rfl)) HT HB (by kernel_rfl) (by exact fun _ _ _ h => h) (Or.inl ⟨by rfl, ?_⟩) HS ?_ ?_
               rotate_left
               · rintro w' ⟨s0, s1, s2, -, -⟩
                 go_simp
                 with_reducible rfl
               rotate_left
               · simp only [Act.put, List.setIfInBounds_toArray, List.set_cons_zero, List.set_cons_succ]
                 rfl)
            | (refine rg_take (v := undef) (a' := ?_) (by simp only [Nat.reduceAdd]; rfl) (by simp only [List.getElem?_toArray, List.getElem?_cons_succ, List.getElem?_cons_zero]; rfl) (by first | (dsimp only; done) | (dsimp only; rfl)) HT HB (by kernel_rfl) (by exact fun _ _ _ h => h) (Or.inr ⟨by rfl, rfl⟩) HS ?_ ?_
               rotate_left
               · simp only [Act.put, List.setIfInBounds_toArray, List.set_cons_zero, List.set_cons_succ]
                 rfl))
          refine rg_one (by simp only [Nat.reduceAdd]; rfl) (by simp only [List.getElem?_toArray, List.getElem?_cons_succ, List.getElem?_cons_zero]; rfl) (by first | (dsimp only; done) | (dsimp only; rfl)) HT (by kernel_rfl) (by simp) (fun K hK => ?_)
          refine goes_ Tryz.func88 (by kernel_rfl) rfl #[.int .i64 room, .int .i64 0, .int .i64 1000] (by rfl) rfl (by rfl) (by simp only [List.map_toArray, List.map_cons, List.map_nil]; rfl) ?_
          refine (HJ2.out _).mono ?_; rintro e w2 ⟨rfl, hd⟩
          refine ⟨_, rfl, ?_⟩
          refine hK.out _ _ (SB.out _ _ HS.out hd) (fun hH => ?_)
          clear hK K HS hd
          have HS := Aside0.mk hH
          clear hH
          simp only [Act.put, List.setIfInBounds_toArray, List.set_cons_zero, List.set_cons_succ]
          repeat (first
            | (refine rg_take (v := ?_) (a' := ?_) (by simp only [Nat.reduceAdd]; rfl) (by simp only [List.getElem?_toArray, List.getElem?_cons_succ, List.getElem?_cons_zero]; rfl) (by first | (dsimp only; done) | (dsimp only; rfl)) HT HB (by kernel_rfl) (by exact fun _ _ _ h => h) (Or.inl ⟨by rfl, ?_⟩) HS ?_ ?_
               rotate_left
               · rintro w' ⟨s0, s1, s2, -, -⟩
                 go_simp
                 with_reducible rfl
               rotate_left
               · simp only [Act.put, List.setIfInBounds_toArray, List.set_cons_zero, List.set_cons_succ]
                 rfl)
            | (refine rg_take (v := undef) (a' := ?_) (by simp only [Nat.reduceAdd]; rfl) (by simp only [List.getElem?_toArray, List.getElem?_cons_succ, List.getElem?_cons_zero]; rfl) (by first | (dsimp only; done) | (dsimp only; rfl)) HT HB (by kernel_rfl) (by exact fun _ _ _ h => h) (Or.inr ⟨by rfl, rfl⟩) HS ?_ ?_
               rotate_left
               · simp only [Act.put, List.setIfInBounds_toArray, List.set_cons_zero, List.set_cons_succ]
                 rfl))
          refine rg_takeAt (k := 14) (#[true,true,true,true,true,true,true,true,true,true,true,true,true,false,true,false,false,false,false,false,false,false,false,false,false,false]) (v := ?_) (a' := ?_) (by simp only [List.getElem?_toArray, List.getElem?_cons_succ, List.getElem?_cons_zero]; rfl) (by first | (dsimp only; done) | (dsimp only; rfl)) HT HB (by kernel_rfl) (by exact fun _ _ _ h => h) (Or.inl ⟨by rfl, ?_⟩) HS ?_ ?_
          rotate_left
          · rintro w' ⟨s0, s1, s2, -, -⟩
            go_simp
            with_reducible rfl
          rotate_left
          · simp only [Act.put, List.setIfInBounds_toArray, List.set_cons_zero, List.set_cons_succ]
            rfl
          refine rg_takeAt (k := 15) (#[true,true,true,true,true,true,true,true,true,true,true,true,true,false,true,true,false,false,false,false,false,false,false,false,false,false]) (v := ?_) (a' := ?_) (by simp only [List.getElem?_toArray, List.getElem?_cons_succ, List.getElem?_cons_zero]; rfl) (by first | (dsimp only; done) | (dsimp only; rfl)) HT HB (by kernel_rfl) (by exact fun _ _ _ h => h) (Or.inl ⟨by rfl, ?_⟩) HS ?_ ?_
          rotate_left
          · rintro w' ⟨s0, s1, s2, -, -⟩
            go_simp
            with_reducible rfl
          rotate_left
          · simp only [Act.put, List.setIfInBounds_toArray, List.set_cons_zero, List.set_cons_succ]
            rfl
          refine rg_oneAt (k := 13) (pre 26 16) (by simp only [List.getElem?_toArray, List.getElem?_cons_succ, List.getElem?_cons_zero]; rfl) (by first | (dsimp only; done) | (dsimp only; rfl)) HT (by kernel_rfl) (by simp) (fun K hK => ?_)
          refine goes_ Tryz.func93 (by kernel_rfl) rfl #[.agg #[.slice (some ad) ns.length c0, .int .i64 room]] (by rfl) rfl (by rfl) (by simp only [List.map_toArray, List.map_cons, List.map_nil]; rfl) ?_
          refine (HBy.out _ (by obtain ⟨-, -, -, ha, -⟩ := HS.out; exact ha.out)).mono ?_; rintro e w2 ⟨rfl, hd⟩
          refine ⟨_, rfl, ?_⟩
          refine hK.out _ _ (SB.out _ _ HS.out hd) (fun hH => ?_)
          clear hK K HS hd
          have HS := Aside0.mk hH
          clear hH
          simp only [Act.put, List.setIfInBounds_toArray, List.set_cons_zero, List.set_cons_succ]
          repeat (first
            | (refine rg_take (v := ?_) (a' := ?_) (by simp only [Nat.reduceAdd]; rfl) (by simp only [List.getElem?_toArray, List.getElem?_cons_succ, List.getElem?_cons_zero]; rfl) (by first | (dsimp only; done) | (dsimp only; rfl)) HT HB (by kernel_rfl) (by exact fun _ _ _ h => h) (Or.inl ⟨by rfl, ?_⟩) HS ?_ ?_
               rotate_left
               · rintro w' ⟨s0, s1, s2, -, -⟩
                 go_simp
                 with_reducible rfl
               rotate_left
               · simp only [Act.put, List.setIfInBounds_toArray, List.set_cons_zero, List.set_cons_succ]
                 rfl)
            | (refine rg_take (v := undef) (a' := ?_) (by simp only [Nat.reduceAdd]; rfl) (by simp only [List.getElem?_toArray, List.getElem?_cons_succ, List.getElem?_cons_zero]; rfl) (by first | (dsimp only; done) | (dsimp only; rfl)) HT HB (by kernel_rfl) (by exact fun _ _ _ h => h) (Or.inr ⟨by rfl, rfl⟩) HS ?_ ?_
               rotate_left
               · simp only [Act.put, List.setIfInBounds_toArray, List.set_cons_zero, List.set_cons_succ]
                 rfl))
          refine done_ (done_of HT.out (by kernel_rfl)) ?_
          obtain ⟨h20, h21, -, HB3, BK3⟩ := HS.out
          clear HS HT HB BK2 SB HBy HI1 HI2 HJ1 HJ2 q1 q2 q3 q4 p1 p2
          go_wp2
          go_loopw [38] (fun iv wr => ∃ i : Nat, i ≤ ns.length ∧ iv = .int .i64 (i : Int) ∧ Aside0 (∀ j, j < i → sNodeB ns (ndR ns (j : Int)) = true) ∧ Aside0 (Below w.heap.size w wr) ∧ Aside0 (wr.heap[g2]? = some (.cells #[.slice (some ad) ns.length c0, .int .i64 room] 34 (0, 0)))) (fun iv _ => ns.length - (intOf iv).toNat)
          case atStart => exact ⟨0, Nat.zero_le _, rfl, ⟨fun j h => absurd h (Nat.not_lt_zero _)⟩, HB3, BK3⟩
          case round =>
            clear h20 h21 HB3 BK3
            obtain ⟨i, hi, rfl, HN, HB, BK⟩ := hrel
            by_cases hlt : i < ns.length
            case neg =>
              have hil : i = ns.length := by omega
              subst hil
              have p9 : decide ((ns.length : Int) < (ns.length : Int)) = false := by simp
              clear hlt hi
              have HNA : Aside0 (∀ x, x ∈ ns → sNodeB ns x = true) := ⟨fun x hx => by
                obtain ⟨j, hj, rfl⟩ := List.getElem_of_mem hx
                have := HN.out j hj
                rwa [show ndR ns (j : Int) = ns[j] from rdNd ns j hj] at this⟩
              have HNI : Aside0 (∀ x, x ∈ ns → nodeB ns x = true) := ⟨fun x hx => ((nodeB_iff ns x).mp (HNA.out x hx)).1⟩
              obtain ⟨out, hdf, hso, hmo⟩ := dfs_from (scN ns) (allN ns.length) (fun x _ y hy => (good_sc HNI.out x y hy).1) 0 (zero_all HLEN.out.1) (ns.length + 1) (by rw [allN_len]; omega)
              have HMW := Aside0.mk (met_walk room (some ad) c0 ns wr (Kd.C_below HR0.out HB.out) (by have := HLEN.out; omega) (fun x => by rcases ndR_cases ns x with h | h; have := HFIT.out.list _ h; omega; rw [h]; simp) (fun x _ y hy => (good_sc HNI.out x y hy).1) (ns.length + 1) 0 [] out)
              have HDF := Aside0.mk hdf
              have HSO := Aside0.mk hso
              have HMO := Aside0.mk hmo
              have h20 : wr.cell? ⟨g2, 0, none⟩ = some (.slice (some ad) ns.length c0) := (blk_cell BK.out 0).trans rfl
              have h21 : wr.cell? ⟨g2, 1, none⟩ = some (.int .i64 room) := (blk_cell BK.out 1).trans rfl
              clear hdf hso hmo
              go_wp2_with fail
              refine (HMW.out (fun _ => False) _ wr (Below.refl _ _) (Kd.R_nil _ _ _ _ _) (zero_all HLEN.out.1) ⟨List.Pairwise.nil, fun y hy => by simp at hy⟩ HDF.out).mono ?_; rintro e W6 ⟨v6, rfl, ho6, hd6, -⟩
              obtain ⟨A7, c7, rfl⟩ := Kd.R_slice ho6
              have HMC := Aside0.mk (Kd.R_reads' ho6)
              have HOL : Aside0 (out.length ≤ 1000000) := ⟨by
                have hin : MetIn (allN ns.length) out := ⟨HSO.out, fun y hy => From.in_all (fun x _ y hy => (good_sc HNI.out x y hy).1) (zero_all HLEN.out.1) ((HMO.out y).mp hy)⟩
                have h1 := nodup_len out _ hin.nodup hin.sub
                rw [allN_len] at h1; have := HLEN.out; omega⟩
              have HB6 := Aside0.mk (below_step HB.out hd6)
              have BK6 := Aside0.mk ((hd6.block _ (blk_lt BK.out)).trans BK.out)
              have h20' : W6.cell? ⟨g2, 0, none⟩ = some (.slice (some ad) ns.length c0) := (blk_cell BK6.out 0).trans rfl
              clear ho6 hd6 HMW HDF HSO h20 h21 HB BK HN p9
              go_wp2
              go_loopw [52] (fun iv wq => ∃ i : Nat, i ≤ ns.length ∧ iv = .int .i64 (i : Int) ∧ Aside0 (∀ j, j < i → TailAt ns (j : Int)) ∧ Aside0 (Below w.heap.size w wq) ∧ Aside0 (Below W6.heap.size W6 wq) ∧ Aside0 (wq.heap[g2]? = some (.cells #[.slice (some ad) ns.length c0, .int .i64 room] 34 (0, 0)))) (fun iv _ => ns.length - (intOf iv).toNat)
              case atStart => exact ⟨0, Nat.zero_le _, rfl, ⟨fun j h => absurd h (Nat.not_lt_zero _)⟩, HB6, ⟨Below.refl _ _⟩, BK6⟩
              case round =>
                clear h20' HB6 BK6
                obtain ⟨i, hi, rfl, HT, HB, HBM, BK⟩ := hrel
                by_cases hlt : i < ns.length
                case neg =>
                  have hil : i = ns.length := by omega
                  subst hil
                  have p9 : decide ((ns.length : Int) < (ns.length : Int)) = false := by simp
                  clear hlt hi
                  go_wp2
                  go_ret
                  exact SPost.yes ⟨HLEN.out, B2.out, by have := HSM.out; omega, HT0.out.trans HTP.out, HNA.out, fun y hy => by
                    obtain ⟨h0, h1⟩ := (allN_mem _ _).mp hy
                    obtain ⟨m, rfl⟩ := Int.eq_ofNat_of_zero_le h0
                    exact HT.out m (by omega)⟩ HB.out
                case pos =>
                  have HLT := Aside0.mk hlt
                  have p9 : decide ((i : Int) < (ns.length : Int)) = true := decide_eq_true (by omega)
                  have p8 : ((i : Int) < (ns.length : Int)) = True := eq_true (by omega)
                  have p7 : ((0 : Int) ≤ (i : Int)) = True := eq_true (by omega)
                  obtain ⟨bd, B6, d6, hbd, e0, e1, e2, e3, e4, e5, e6, hd6, hC6⟩ := at_T85 (Kd.C_below HR0.out HB.out) (i : Int) (by omega) (by omega)
                  cases hbd
                  rw [Int.toNat_natCast] at e0 e1 e2 e3 e4 e5 e6
                  obtain ⟨x, hx⟩ : ∃ x, x = rd_T85 ns (i : Int) := ⟨_, rfl⟩
                  rw [← hx] at e0 e1 e2 e3 e4 e5 e6
                  have HX := Aside0.mk (show ndR ns (i : Int) = x from hx.symm)
                  obtain ⟨cn, hcn⟩ : ∃ c : Nat, c = (tgts ns).count (i : Int) := ⟨_, rfl⟩
                  have hlk := fun (W : World) (hb : Below w.heap.size w W) => links4_w ns (some ad) c0 room (i : Int) W (Kd.C_below HR0.out hb) HFIT.out
                  rw [← hcn] at hlk
                  have HLk := Aside0.mk hlk
                  clear hlk
                  obtain ⟨kh, hkh⟩ := (l1Has_ev out (i : Int) HOL.out).rounds
                  obtain ⟨hs, hhs⟩ : ∃ b, b = out.any (· == (i : Int)) := ⟨_, rfl⟩
                  rw [← hhs] at hkh
                  have HHs := Aside0.mk (fun W (hb : Below W6.heap.size W6 W) => spec_l1Has.calls kh A7 c7 out (i : Int) _ W (Kd.C_below HMC.out.2.2 hb) HMC.out.2.1 hkh)
                  have HCN := Aside0.mk hcn
                  have HHA : Aside0 (hs = true ↔ From (scN ns) 0 (i : Int)) := ⟨by
                    rw [hhs, ← HMO.out (i : Int)]
                    exact ⟨fun h => by obtain ⟨y, hy, he⟩ := List.any_eq_true.mp h; have : y = (i : Int) := by simpa using he
                                       rwa [← this], fun h => has_true h⟩⟩
                  have BKw := BK.out
                  have hw1 : IntKind.i64.wrap ((i : Int) + 1) = ((i + 1 : Nat) : Int) := wrap_upM hlt (by have := HLEN.out; omega)
                  have HW1 := Aside0.mk hw1
                  have HPOS : Aside0 (0 ≤ (i : Int)) := ⟨by omega⟩
                  clear hx hcn hkh hhs hlt hi hd6 hC6
                  go_upto_region 13 with (fail)
                  have hb5 : Below wr.heap.size wr (wr.alloc (.cells #[.int .i64 x.f0, .int .i64 x.f1, .int .i64 x.f2, .int .i64 x.f3, .int .i64 x.f4, .string x.f5, .slice B6 x.f6.length d6] 85 (0, 0))) := below_alloc (Below.refl _ _) _
                  have bk6 := blk_new wr (.cells #[.int .i64 x.f0, .int .i64 x.f1, .int .i64 x.f2, .int .i64 x.f3, .int .i64 x.f4, .string x.f5, .slice B6 x.f6.length d6] 85 (0, 0))
                  obtain ⟨g6, hg6⟩ : ∃ g, g = wr.heap.size := ⟨_, rfl⟩
                  obtain ⟨W5, hW5⟩ : ∃ W, W = wr.alloc (.cells #[.int .i64 x.f0, .int .i64 x.f1, .int .i64 x.f2, .int .i64 x.f3, .int .i64 x.f4, .string x.f5, .slice B6 x.f6.length d6] 85 (0, 0)) := ⟨_, rfl⟩
                  rw [← hW5] at hb5 bk6
                  rw [← hg6] at bk6
                  rw [← hW5, ← hg6]
                  have BK5 := Aside0.mk ((hb5.block _ (blk_lt BKw)).trans BKw)
                  have HB5 := Aside0.mk (below_step HB.out hb5)
                  have HBM5 := Aside0.mk (below_step HBM.out hb5)
                  have BK65 := Aside0.mk bk6
                  have f60 : W5.cell? ⟨g6, 0, none⟩ = some (.int .i64 x.f0) := (blk_cell bk6 0).trans rfl
                  have h61 : W5.cell? ⟨g6, 1, none⟩ = some (.int .i64 x.f1) := (blk_cell bk6 1).trans rfl
                  have h62 : W5.cell? ⟨g6, 2, none⟩ = some (.int .i64 x.f2) := (blk_cell bk6 2).trans rfl
                  have h63 : W5.cell? ⟨g6, 3, none⟩ = some (.int .i64 x.f3) := (blk_cell bk6 3).trans rfl
                  have h64 : W5.cell? ⟨g6, 4, none⟩ = some (.int .i64 x.f4) := (blk_cell bk6 4).trans rfl
                  have h65 : W5.cell? ⟨g6, 5, none⟩ = some (.string x.f5) := (blk_cell bk6 5).trans rfl
                  have h66 : W5.cell? ⟨g6, 6, none⟩ = some (.slice B6 x.f6.length d6) := (blk_cell bk6 6).trans rfl
                  have h20 : W5.cell? ⟨g2, 0, none⟩ = some (.slice (some ad) ns.length c0) := (blk_cell BK5.out 0).trans rfl
                  have h21 : W5.cell? ⟨g2, 1, none⟩ = some (.int .i64 room) := (blk_cell BK5.out 1).trans rfl
                  clear hb5 bk6 hW5 hg6 HB HBM BK BKw e0 e1 e2 e3 e4 e5 e6
                  go_wp2_with fail
                  refine (HLk.out _ HB5.out).mono ?_; rintro e W7 ⟨rfl, hd⟩
                  have HB7 := Aside0.mk (below_step HB5.out hd)
                  have HBM7 := Aside0.mk (below_step HBM5.out hd)
                  have BK7 := Aside0.mk ((hd.block _ (blk_lt BK5.out)).trans BK5.out)
                  have BKX := (hd.block _ (blk_lt BK65.out)).trans BK65.out
                  have h60 : W7.cell? ⟨g6, 0, none⟩ = some (.int .i64 x.f0) := (blk_cell BKX 0).trans rfl
                  clear hd BKX f60 h61 h62 h63 h64 h65 h66 h20 h21 HLk BK5 HB5 HBM5 BK65
                  by_cases hz : i = 0
                  case pos =>
                    have HZ := Aside0.mk hz
                    have z1 : ((i : Int) == 0) = true := by simp [hz]
                    have z2 : decide ((0 : Int) < (i : Int)) = false := decide_eq_false (by omega)
                    have z3 : decide (0 < i) = false := decide_eq_false (by omega)
                    clear hz
                    by_cases hc : cn = 0
                    case neg =>
                      have HC := Aside0.mk hc
                      have y1 : decide ((0 : Int) < (cn : Int)) = true := decide_eq_true (by omega)
                      have y2 : decide (0 < cn) = true := decide_eq_true (by omega)
                      have y3 : (0 < cn) = True := eq_true (by omega)
                      clear hc
                      go_wp2
                      go_ret
                      exact SPost.no (fun h => by have h1 := h.tail (i : Int) ((allN_mem _ _).mpr ⟨HPOS.out, by have := HLT.out; omega⟩); have := h1.1 (by have := HZ.out; omega); have := HCN.out; have := HC.out; omega) HB7.out
                    case pos =>
                      have HC := Aside0.mk hc
                      have y1 : decide ((0 : Int) < (cn : Int)) = false := decide_eq_false (by omega)
                      have y2 : decide (0 < cn) = false := decide_eq_false (by omega)
                      have y3 : (0 < cn) = False := eq_false (by omega)
                      clear hc
                      by_cases k0 : x.f0 = 0
                      case pos =>
                        have HK0 := Aside0.mk k0
                        have q5 : (x.f0 != 0) = false := by simpa using k0
                        have q6 : (x.f0 == 0) = true := by simpa using k0
                        have q7 : (x.f0 == 2) = false := by simp [k0]
                        clear k0
                        go_wp2
                        go_roundw
                        case rel => exact ⟨i + 1, HLT.out, by first | rfl | go_num, ⟨fun j hj => by
                          rcases Nat.lt_succ_iff_lt_or_eq.mp hj with h | rfl
                          · exact HT.out j h
                          · exact ⟨fun _ => by have := HCN.out; have := HC.out; omega, fun h => absurd (by have := HZ.out; omega) h, fun hf => by unfold freeN at hf; rw [HX.out] at hf; simp [HK0.out] at hf⟩⟩, HB7, HBM7, BK7⟩
                        case measure => exact meas_upS HLT.out (by first | rfl | (rw [← i64_w]; exact HW1.out) | exact HW1.out)
                      case neg =>
                        have HK0 := Aside0.mk k0
                        have q5 : (x.f0 != 0) = true := by simpa using k0
                        have q6 : (x.f0 == 0) = false := by simpa using k0
                        clear k0
                        cases hs with
                        | true =>
                          go_wp2_with fail
                          refine (HHs.out _ HBM7.out).mono ?_; rintro e W8 ⟨rfl, ⟨n8, rfl⟩⟩
                          go_wp2
                          go_roundw
                          case rel => exact ⟨i + 1, HLT.out, by first | rfl | go_num, ⟨fun j hj => by
                            rcases Nat.lt_succ_iff_lt_or_eq.mp hj with h | rfl
                            · exact HT.out j h
                            · exact ⟨fun _ => by have := HCN.out; have := HC.out; omega, fun h => absurd (by have := HZ.out; omega) h, fun _ => HHA.out.mp (by simp)⟩⟩, ⟨pw_below_drewN HB7.out _⟩, ⟨pw_below_drewN HBM7.out _⟩, ⟨blk_drewN BK7.out _⟩⟩
                          case measure => exact meas_upS HLT.out (by first | rfl | (rw [← i64_w]; exact HW1.out) | exact HW1.out)
                        | false =>
                          go_wp2_with fail
                          refine (HHs.out _ HBM7.out).mono ?_; rintro e W8 ⟨rfl, ⟨n8, rfl⟩⟩
                          go_wp2
                          go_ret
                          exact SPost.no (fun h => by have h1 := h.tail (i : Int) ((allN_mem _ _).mpr ⟨HPOS.out, by have := HLT.out; omega⟩); have h2 := HHA.out.mpr (h1.2.2 (by unfold freeN; rw [HX.out]; simpa using HK0.out)); exact Bool.false_ne_true h2) (pw_below_drewN HB7.out _)
                  case neg =>
                    have HZ := Aside0.mk hz
                    have z1 : ((i : Int) == 0) = false := by simp [hz]
                    have z2 : decide ((0 : Int) < (i : Int)) = true := decide_eq_true (by omega)
                    have z3 : decide (0 < i) = true := decide_eq_true (by omega)
                    clear hz
                    by_cases k2 : x.f0 = 2
                    case pos =>
                      have HK2 := Aside0.mk k2
                      have HK0 : Aside0 (¬ x.f0 = 0) := ⟨by omega⟩
                      have w1 : (x.f0 == 2) = true := by simp [k2]
                      have w2 : (x.f0 != 0) = true := by simp [k2]
                      have w3 : (x.f0 == 0) = false := by simp [k2]
                      clear k2
                      by_cases hc : cn = 1
                      case neg =>
                        have HC := Aside0.mk hc
                        have y1 : ((cn : Int) != 1) = true := by simp; omega
                        have y2 : ((cn : Int) == 1) = false := by simp; omega
                        clear hc
                        go_wp2
                        go_ret
                        exact SPost.no (fun h => by have h1 := h.tail (i : Int) ((allN_mem _ _).mpr ⟨HPOS.out, by have := HLT.out; omega⟩); have h2 := h1.2.1 (by have := HZ.out; omega) (by unfold dirN; rw [HX.out]; simpa using HK2.out); have := HCN.out; have := HC.out; omega) HB7.out
                      case pos =>
                        have HC := Aside0.mk hc
                        have y1 : ((cn : Int) != 1) = false := by simp [hc]
                        have y2 : ((cn : Int) == 1) = true := by simp [hc]
                        clear hc
                        cases hs with
                        | true =>
                          go_wp2_with fail
                          refine (HHs.out _ HBM7.out).mono ?_; rintro e W8 ⟨rfl, ⟨n8, rfl⟩⟩
                          go_wp2
                          go_roundw
                          case rel => exact ⟨i + 1, HLT.out, by first | rfl | go_num, ⟨fun j hj => by
                            rcases Nat.lt_succ_iff_lt_or_eq.mp hj with h | rfl
                            · exact HT.out j h
                            · exact ⟨fun h => absurd (by omega) HZ.out, fun _ _ => by have := HCN.out; have := HC.out; omega, fun _ => HHA.out.mp (by simp)⟩⟩, ⟨pw_below_drewN HB7.out _⟩, ⟨pw_below_drewN HBM7.out _⟩, ⟨blk_drewN BK7.out _⟩⟩
                          case measure => exact meas_upS HLT.out (by first | rfl | (rw [← i64_w]; exact HW1.out) | exact HW1.out)
                        | false =>
                          go_wp2_with fail
                          refine (HHs.out _ HBM7.out).mono ?_; rintro e W8 ⟨rfl, ⟨n8, rfl⟩⟩
                          go_wp2
                          go_ret
                          exact SPost.no (fun h => by have h1 := h.tail (i : Int) ((allN_mem _ _).mpr ⟨HPOS.out, by have := HLT.out; omega⟩); have h2 := HHA.out.mpr (h1.2.2 (by unfold freeN; rw [HX.out]; simpa using HK0.out)); exact Bool.false_ne_true h2) (pw_below_drewN HB7.out _)
                    case neg =>
                      have HK2 := Aside0.mk k2
                      have w1 : (x.f0 == 2) = false := by simpa using k2
                      clear k2
                      by_cases k0 : x.f0 = 0
                      case pos =>
                        have HK0 := Aside0.mk k0
                        have q5 : (x.f0 != 0) = false := by simpa using k0
                        have q6 : (x.f0 == 0) = true := by simpa using k0
                        have q7 : (x.f0 == 2) = false := by simp [k0]
                        clear k0
                        go_wp2
                        go_roundw
                        case rel => exact ⟨i + 1, HLT.out, by first | rfl | go_num, ⟨fun j hj => by
                          rcases Nat.lt_succ_iff_lt_or_eq.mp hj with h | rfl
                          · exact HT.out j h
                          · exact ⟨fun h => absurd (by omega) HZ.out, fun _ hd => absurd (by unfold dirN at hd; rw [HX.out] at hd; simpa using hd) HK2.out, fun hf => by unfold freeN at hf; rw [HX.out] at hf; simp [HK0.out] at hf⟩⟩, HB7, HBM7, BK7⟩
                        case measure => exact meas_upS HLT.out (by first | rfl | (rw [← i64_w]; exact HW1.out) | exact HW1.out)
                      case neg =>
                        have HK0 := Aside0.mk k0
                        have q5 : (x.f0 != 0) = true := by simpa using k0
                        have q6 : (x.f0 == 0) = false := by simpa using k0
                        clear k0
                        cases hs with
                        | true =>
                          go_wp2_with fail
                          refine (HHs.out _ HBM7.out).mono ?_; rintro e W8 ⟨rfl, ⟨n8, rfl⟩⟩
                          go_wp2
                          go_roundw
                          case rel => exact ⟨i + 1, HLT.out, by first | rfl | go_num, ⟨fun j hj => by
                            rcases Nat.lt_succ_iff_lt_or_eq.mp hj with h | rfl
                            · exact HT.out j h
                            · exact ⟨fun h => absurd (by omega) HZ.out, fun _ hd => absurd (by unfold dirN at hd; rw [HX.out] at hd; simpa using hd) HK2.out, fun _ => HHA.out.mp (by simp)⟩⟩, ⟨pw_below_drewN HB7.out _⟩, ⟨pw_below_drewN HBM7.out _⟩, ⟨blk_drewN BK7.out _⟩⟩
                          case measure => exact meas_upS HLT.out (by first | rfl | (rw [← i64_w]; exact HW1.out) | exact HW1.out)
                        | false =>
                          go_wp2_with fail
                          refine (HHs.out _ HBM7.out).mono ?_; rintro e W8 ⟨rfl, ⟨n8, rfl⟩⟩
                          go_wp2
                          go_ret
                          exact SPost.no (fun h => by have h1 := h.tail (i : Int) ((allN_mem _ _).mpr ⟨HPOS.out, by have := HLT.out; omega⟩); have h2 := HHA.out.mpr (h1.2.2 (by unfold freeN; rw [HX.out]; simpa using HK0.out)); exact Bool.false_ne_true h2) (pw_below_drewN HB7.out _)
            case pos =>
              have HLT := Aside0.mk hlt
              have p9 : decide ((i : Int) < (ns.length : Int)) = true := decide_eq_true (by omega)
              have p8 : ((i : Int) < (ns.length : Int)) = True := eq_true (by omega)
              have p7 : ((0 : Int) ≤ (i : Int)) = True := eq_true (by omega)
              obtain ⟨bd, B6, d6, hbd, e0, e1, e2, e3, e4, e5, e6, hd6, hC6⟩ := at_T85 (Kd.C_below HR0.out HB.out) (i : Int) (by omega) (by omega)
              cases hbd
              rw [Int.toNat_natCast] at e0 e1 e2 e3 e4 e5 e6
              obtain ⟨x, hx⟩ : ∃ x, x = rd_T85 ns (i : Int) := ⟨_, rfl⟩
              rw [← hx] at e0 e1 e2 e3 e4 e5 e6 hd6 hC6
              have HXM : Aside0 (x ∈ ns) := ⟨by rw [hx, rdNd ns i hlt]; exact List.getElem_mem hlt⟩
              have HX := Aside0.mk (show ndR ns (i : Int) = x from hx.symm)
              have hfx := l3Node_ev ns room x (by have := HLEN.out; omega) (by have := HFIT.out.data x HXM.out; omega) (by have := HFIT.out.list x HXM.out; omega) (fun e he => by have := HFIT.out.name x HXM.out e he; omega)
              obtain ⟨kx, hkx⟩ := hfx.rounds
              have HNd := Aside0.mk (fun W (hb : Below w.heap.size w W) (hb2 : Below wr.heap.size wr W) => spec_l3Node.calls kx (some ad) c0 ns room x.f0 x.f1 x.f2 x.f3 x.f4 x.f5 B6 d6 x.f6 _ W (Kd.C_below HR0.out hb) HC0.out (Kd.C_below hC6 hb2) hd6 hkx)
              have BKw := BK.out
              have HD6 := Aside0.mk hd6
              have hw1 : IntKind.i64.wrap ((i : Int) + 1) = ((i + 1 : Nat) : Int) := wrap_upM hlt (by have := HLEN.out; omega)
              have HW1 := Aside0.mk hw1
              clear hx hfx hkx hlt hi hd6 hC6
              go_upto_region 6 with (fail)
              have hb5 : Below wr.heap.size wr (wr.alloc (.cells #[.int .i64 x.f0, .int .i64 x.f1, .int .i64 x.f2, .int .i64 x.f3, .int .i64 x.f4, .string x.f5, .slice B6 x.f6.length d6] 85 (0, 0))) := below_alloc (Below.refl _ _) _
              have bk6 := blk_new wr (.cells #[.int .i64 x.f0, .int .i64 x.f1, .int .i64 x.f2, .int .i64 x.f3, .int .i64 x.f4, .string x.f5, .slice B6 x.f6.length d6] 85 (0, 0))
              obtain ⟨g6, hg6⟩ : ∃ g, g = wr.heap.size := ⟨_, rfl⟩
              obtain ⟨W5, hW5⟩ : ∃ W, W = wr.alloc (.cells #[.int .i64 x.f0, .int .i64 x.f1, .int .i64 x.f2, .int .i64 x.f3, .int .i64 x.f4, .string x.f5, .slice B6 x.f6.length d6] 85 (0, 0)) := ⟨_, rfl⟩
              rw [← hW5] at hb5 bk6
              rw [← hg6] at bk6
              rw [← hW5, ← hg6]
              have BK5 := Aside0.mk ((hb5.block _ (blk_lt BKw)).trans BKw)
              have HB5 := Aside0.mk (below_step HB.out hb5)
              have HCALL := Aside0.mk (HNd.out W5 HB5.out hb5)
              have h60 : W5.cell? ⟨g6, 0, none⟩ = some (.int .i64 x.f0) := (blk_cell bk6 0).trans rfl
              have h61 : W5.cell? ⟨g6, 1, none⟩ = some (.int .i64 x.f1) := (blk_cell bk6 1).trans rfl
              have h62 : W5.cell? ⟨g6, 2, none⟩ = some (.int .i64 x.f2) := (blk_cell bk6 2).trans rfl
              have h63 : W5.cell? ⟨g6, 3, none⟩ = some (.int .i64 x.f3) := (blk_cell bk6 3).trans rfl
              have h64 : W5.cell? ⟨g6, 4, none⟩ = some (.int .i64 x.f4) := (blk_cell bk6 4).trans rfl
              have h65 : W5.cell? ⟨g6, 5, none⟩ = some (.string x.f5) := (blk_cell bk6 5).trans rfl
              have h66 : W5.cell? ⟨g6, 6, none⟩ = some (.slice B6 x.f6.length d6) := (blk_cell bk6 6).trans rfl
              have h20 : W5.cell? ⟨g2, 0, none⟩ = some (.slice (some ad) ns.length c0) := (blk_cell BK5.out 0).trans rfl
              have h21 : W5.cell? ⟨g2, 1, none⟩ = some (.int .i64 room) := (blk_cell BK5.out 1).trans rfl
              clear hb5 bk6 hW5 hg6 HB BK BKw HNd e0 e1 e2 e3 e4 e5 e6
              go_wp2_with fail
              refine (HCALL.out).mono ?_; rintro e w2 ⟨rfl, hd⟩
              have HB6 := Aside0.mk (below_step HB5.out hd)
              have BK6 := Aside0.mk ((hd.block _ (blk_lt BK5.out)).trans BK5.out)
              clear hd h60 h61 h62 h63 h64 h65 h66 h20 h21 HCALL BK5 HB5
              cases hs : sNodeB ns x with
              | false =>
                have HS0 := Aside0.mk hs
                clear hs
                go_wp2
                go_ret
                exact SPost.no (fun h => by have h1 := h.node x HXM.out; rw [HS0.out] at h1; exact Bool.false_ne_true h1) HB6.out
              | true =>
                have HS0 := Aside0.mk hs
                clear hs
                go_wp2
                go_roundw
                case rel => exact ⟨i + 1, HLT.out, by first | rfl | go_num, ⟨fun j hj => by rcases Nat.lt_succ_iff_lt_or_eq.mp hj with h | rfl; exact HN.out j h; rw [HX.out]; exact HS0.out⟩, HB6, BK6⟩
                case measure => exact meas_upS HLT.out (by first | rfl | (rw [← i64_w]; exact HW1.out) | exact HW1.out)
def fitB (ns : List Nd) : Bool := decide (ns.length ≤ 1048576) && ns.all (fun x => decide (x.f5.size ≤ 1048576) && (decide (x.f6.length ≤ 1048576) && x.f6.all (fun e => decide (e.f0.size ≤ 1048576))))
theorem fitB_ok {ns : List Nd} (h : fitB ns = true) : FsFit ns := by
  unfold fitB at h
  simp only [Bool.and_eq_true, decide_eq_true_eq, List.all_eq_true] at h
  exact ⟨h.1, fun x hx => (h.2 x hx).1, fun x hx => (h.2 x hx).2.1, fun x hx => (h.2 x hx).2.2⟩
def tailB (ns : List Nd) (out : List Int) (y : Int) : Bool :=
  (y != 0 || (tgts ns).count y == 0) && ((y == 0 || (!dirN ns y || (tgts ns).count y == 1)) && (freeN ns y || out.any (· == y)))
def sGoodB (ns : List Nd) (room : Int) : Bool :=
  (decide (1 ≤ ns.length) && decide (ns.length ≤ 40)) && (inB 0 1000 room && (decide (sumB ns ≤ room) && (((ndR ns 0).f0 == 2) && (ns.all (sNodeB ns) &&
    match dfs (scN ns) (ns.length + 1) 0 [] with
    | some out => (allN ns.length).all (tailB ns out)
    | none => false))))
theorem sGoodB_iff (ns : List Nd) (room : Int) : sGoodB ns room = true ↔ SGood ns room := by
  have key : 1 ≤ ns.length → (∀ x, x ∈ ns → sNodeB ns x = true) → ((match dfs (scN ns) (ns.length + 1) 0 [] with
    | some out => (allN ns.length).all (tailB ns out)
    | none => false) = true ↔ ∀ y, y ∈ allN ns.length → TailAt ns y) := by
    intro hl hn
    obtain ⟨out, h1, -, h3⟩ := dfs_from (scN ns) (allN ns.length) (fun x _ y hy => (good_sc (fun x hx => ((nodeB_iff ns x).mp (hn x hx)).1) x y hy).1) 0 (zero_all hl) (ns.length + 1) (by rw [allN_len]; omega)
    rw [h1]
    simp only [List.all_eq_true]
    refine forall_congr' fun y => forall_congr' fun _ => ?_
    have hm : out.any (· == y) = true ↔ From (scN ns) 0 y := by
      rw [← h3 y]
      exact ⟨fun h => by obtain ⟨z, hz, he⟩ := List.any_eq_true.mp h; have e : z = y := by simpa using he
                         rwa [← e], fun h => has_true h⟩
    unfold tailB TailAt
    rw [← hm]
    cases out.any (· == y) <;> cases freeN ns y <;> cases dirN ns y <;> by_cases hy : y = 0 <;> simp [hy]
  unfold sGoodB
  simp only [Bool.and_eq_true, decide_eq_true_eq, beq_iff_eq, List.all_eq_true]
  constructor
  · rintro ⟨h1, h2, h3, h4, h5, h6⟩
    exact ⟨h1, h2, h3, h4, h5, (key h1.1 h5).mp h6⟩
  · intro h
    exact ⟨h.len, h.inRoom, h.sum, h.top, h.node, (key h.len.1 h.node).mpr h.tail⟩
def spec_l3Good.f (l0_0 : List Nd) (a0_1 : Int) : Option Bool := if fitB l0_0 = true then some (sGoodB l0_0 a0_1) else none
theorem spec_l3Good.calls (A0_0 : Option Addr) (c0_0 : Nat) (l0_0 : List Nd) (a0_1 : Int) (r : Bool) (w : World) (hr0_0 : Kd.C k85 w A0_0 l0_0.length l0_0) (hc0_0 : l0_0.length ≤ c0_0) (h : spec_l3Good.f l0_0 a0_1 = some r) :
    Calls Tryz.prog 121 #[.agg #[.slice A0_0 l0_0.length c0_0, .int .i64 a0_1]] w fun e w' => e = .returned (.bool r) ∧ Below w.heap.size w w' := by
  unfold spec_l3Good.f at h
  split at h
  · rename_i hf
    rw [← Option.some.inj h]
    refine (sGood_walk l0_0 A0_0 c0_0 a0_1 w hr0_0 hc0_0 (fitB_ok hf)).mono ?_
    rintro e w' ⟨b, he, hb, hB⟩
    refine ⟨?_, hB⟩
    rw [he, Bool.eq_iff_iff.mpr (hb.trans (sGoodB_iff l0_0 a0_1).symm)]
  · cases h
def spec_l4Asked.f (l0_0 : List (S85)) (a0_1 : Int) (a1_0 : Int) (a1_1 : Int) : Option (Bool) := (spec_l3Good.f l0_0 a0_1).bind fun t210 => (if t210 = true then ((spec_l1Cred.f a1_0 a1_1).bind fun t211 => (some t211)) else (some false))
set_option maxHeartbeats 8000000 in
set_option maxRecDepth 100000 in
theorem spec_l4Asked.calls (A0_0 : Option Addr) (c0_0 : Nat) (l0_0 : List (S85)) (a0_1 : Int) (a1_0 : Int) (a1_1 : Int) (r : Bool) (w : World) (hr0_0 : Kd.C k85 w A0_0 l0_0.length l0_0) (hc0_0 : l0_0.length ≤ c0_0) (h : spec_l4Asked.f l0_0 a0_1 a1_0 a1_1 = some r) :
  Calls Tryz.prog 75 #[.agg #[.slice A0_0 l0_0.length c0_0, .int .i64 a0_1], .agg #[.int .i64 a1_0, .int .i64 a1_1]] w fun e w' => e = .returned (.bool r) ∧ Below w.heap.size w w' := by
 have hu34 := Tryz.underlying34
 have hu36 := Tryz.underlying36
 have HR0_0 := Aside0.mk hr0_0
 have HC0_0 := Aside0.mk hc0_0
 clear hr0_0 hc0_0
 have HB := Aside0.mk (Below.refl w.heap.size w)
 have H : ((spec_l3Good.f l0_0 a0_1).bind fun t210 => (if t210 = true then ((spec_l1Cred.f a1_0 a1_1).bind fun t211 => (some t211)) else (some false))) = some r := h
 clear h
 replace H := Option.bind_eq_some_iff.mp H
 obtain ⟨t210, A30, H⟩ := H
 try dsimp only at H
 have A3 := Aside0.mk A30
 clear A30
 by_cases c4 : t210 = true
 ·subst c4
  have H1 := H
  rw [if_pos rfl] at H1
  clear H
  have H := H1
  clear H1
  replace H := Option.bind_eq_some_iff.mp H
  obtain ⟨t211, A50, H⟩ := H
  try dsimp only at H
  have A5 := Aside0.mk A50
  clear A50
  obtain rfl := Option.some.inj H
  go_enter Tryz.func75, Tryz.ntmps75
  go_wp2_with (first | ((with_reducible refine gate_dst (N := 2) rfl ?_); refine box_event rfl (N := 2) rfl (cs := #[.slice A0_0 l0_0.length c0_0, .int .i64 a0_1]) (t := 34) (by first | (go_simp; done) | (go_simp; rfl)) ?_; intro gb208 hg w6 hbox hb; have BK208 := Aside0.mk (hbox); have GW208 := Aside0.mk (Gtr.gz hg (Gtr.bw HB.out)); have GE208 := GW208; replace HB := Aside0.mk (below_step (Gtr.bw HB.out) hb); clear hb hbox hg) | ((with_reducible refine gate_dst (N := 3) rfl ?_); refine box_event rfl (N := 3) rfl (cs := #[.int .i64 a1_0, .int .i64 a1_1]) (t := 36) (by first | (go_simp; done) | (go_simp; rfl)) ?_; intro gb209 hg w7 hbox hb; have BK209 := Aside0.mk (hbox); have GW209 := Aside0.mk (Gtr.gz hg (Gtr.bw HB.out)); have GE209 := GW209; replace HB := Aside0.mk (below_step (Gtr.bw HB.out) hb); have NB208_209 := Aside0.mk (Gtr.nl hg (Gtr.bk BK208.out)); have NB209_208 := Aside0.mk NB208_209.out.symm; replace BK208 := Aside0.mk (blk_below (Gtr.bk BK208.out) hb); clear hb hbox hg; have hnb8 := NB208_209.out; have hnc8 := NB209_208.out; have hcz9_0 := fun o_ => blk_cell BK208.out o_; have hfz9_0 := fun o_ => blk_frozen BK208.out o_) | ((with_reducible refine gate_callee (f := 121) rfl ?_); refine goesL_ (some 6) rfl rfl Tryz.func121 (by kernel_rfl) rfl #[.agg #[.slice A0_0 l0_0.length c0_0, .int .i64 a0_1]] rfl (by (try simp only [List.map_toArray, List.map_cons, List.map_nil]); first | done | rfl | (simp only [List.length_drop, List.length_take]; rfl)) ?_; (with_reducible refine (spec_l3Good.calls _ _ l0_0 a0_1 true _ ?side1 ?side2 A3.out).mono ?_); (case side1 => repeat (first | exact (Kd.C_below HR0_0.out HB.out) | (with_reducible refine Kd.C_alloc ?_ _) | (with_reducible refine Kd.C_drewN ?_ _) | (with_reducible refine Kd.C_drew ?_))); (case side2 => exact HC0_0.out); rintro e w10 ⟨rfl, hb⟩; refine ⟨_, rfl, ?_⟩; replace BK208 := Aside0.mk (blk_below (Gtr.bk BK208.out) hb); replace BK209 := Aside0.mk (blk_below (Gtr.bk BK209.out) hb); replace HB := Aside0.mk (below_step (Gtr.bw HB.out) hb); (try clear hb); (try clear hb2); (try clear hk); (try clear hi); have hcz11_0 := fun o_ => blk_cell BK209.out o_; have hfz11_0 := fun o_ => blk_frozen BK209.out o_) | (go_at_call 122; (with_reducible refine (spec_l1Cred.calls a1_0 a1_1 t211 _ A5.out).mono ?_); rintro e w12 ⟨rfl, hb⟩; replace BK208 := Aside0.mk (blk_below (Gtr.bk BK208.out) hb); replace BK209 := Aside0.mk (blk_below (Gtr.bk BK209.out) hb); replace HB := Aside0.mk (below_step (Gtr.bw HB.out) hb); (try clear hb); (try clear hb2); (try clear hk); (try clear hi)))
  go_ret
  exact ⟨Gtr.fe, (Gtr.bw HB.out)⟩
 ·replace c4 := Bool.eq_false_iff.mpr c4
  subst c4
  have H1 : (some false) = some r := by rw [if_neg (show ¬ (false = true) by decide)] at H; exact H
  clear H
  have H := H1
  clear H1
  obtain rfl := Option.some.inj H
  go_enter Tryz.func75, Tryz.ntmps75
  go_wp2_with (first | ((with_reducible refine gate_dst (N := 2) rfl ?_); refine box_event rfl (N := 2) rfl (cs := #[.slice A0_0 l0_0.length c0_0, .int .i64 a0_1]) (t := 34) (by first | (go_simp; done) | (go_simp; rfl)) ?_; intro gb208 hg w13 hbox hb; have BK208 := Aside0.mk (hbox); have GW208 := Aside0.mk (Gtr.gz hg (Gtr.bw HB.out)); have GE208 := GW208; replace HB := Aside0.mk (below_step (Gtr.bw HB.out) hb); clear hb hbox hg) | ((with_reducible refine gate_dst (N := 3) rfl ?_); refine box_event rfl (N := 3) rfl (cs := #[.int .i64 a1_0, .int .i64 a1_1]) (t := 36) (by first | (go_simp; done) | (go_simp; rfl)) ?_; intro gb209 hg w14 hbox hb; have BK209 := Aside0.mk (hbox); have GW209 := Aside0.mk (Gtr.gz hg (Gtr.bw HB.out)); have GE209 := GW209; replace HB := Aside0.mk (below_step (Gtr.bw HB.out) hb); have NB208_209 := Aside0.mk (Gtr.nl hg (Gtr.bk BK208.out)); have NB209_208 := Aside0.mk NB208_209.out.symm; replace BK208 := Aside0.mk (blk_below (Gtr.bk BK208.out) hb); clear hb hbox hg; have hnb15 := NB208_209.out; have hnc15 := NB209_208.out; have hcz16_0 := fun o_ => blk_cell BK208.out o_; have hfz16_0 := fun o_ => blk_frozen BK208.out o_) | ((with_reducible refine gate_callee (f := 121) rfl ?_); refine goesL_ (some 6) rfl rfl Tryz.func121 (by kernel_rfl) rfl #[.agg #[.slice A0_0 l0_0.length c0_0, .int .i64 a0_1]] rfl (by (try simp only [List.map_toArray, List.map_cons, List.map_nil]); first | done | rfl | (simp only [List.length_drop, List.length_take]; rfl)) ?_; (with_reducible refine (spec_l3Good.calls _ _ l0_0 a0_1 false _ ?side1 ?side2 A3.out).mono ?_); (case side1 => repeat (first | exact (Kd.C_below HR0_0.out HB.out) | (with_reducible refine Kd.C_alloc ?_ _) | (with_reducible refine Kd.C_drewN ?_ _) | (with_reducible refine Kd.C_drew ?_))); (case side2 => exact HC0_0.out); rintro e w17 ⟨rfl, hb⟩; refine ⟨_, rfl, ?_⟩; replace BK208 := Aside0.mk (blk_below (Gtr.bk BK208.out) hb); replace BK209 := Aside0.mk (blk_below (Gtr.bk BK209.out) hb); replace HB := Aside0.mk (below_step (Gtr.bw HB.out) hb); (try clear hb); (try clear hb2); (try clear hk); (try clear hi)))
  go_ret
  exact ⟨Gtr.fe, (Gtr.bw HB.out)⟩
def impl_isWhole.f (a0 : ByteArray) : Option (Bool) := (impl_GoodPath.f a0).bind fun t104 => (if t104 = true then (if 0 < (a0.size : Int) then (some ((bt a0 0) == 47)) else (none)) else (some false))
set_option maxHeartbeats 8000000 in
set_option maxRecDepth 100000 in
theorem impl_isWhole.calls (a0 : ByteArray) (r : Bool) (w : World) (h : impl_isWhole.f a0 = some r) :
  Calls Tryz.prog 108 #[.string a0] w fun e w' => e = .returned (.bool r) ∧ Below w.heap.size w w' := by
 have HB := Aside0.mk (Below.refl w.heap.size w)
 have H : ((impl_GoodPath.f a0).bind fun t104 => (if t104 = true then (if 0 < (a0.size : Int) then (some ((bt a0 0) == 47)) else (none)) else (some false))) = some r := h
 clear h
 replace H := Option.bind_eq_some_iff.mp H
 obtain ⟨t104, A20, H⟩ := H
 try dsimp only at H
 have A2 := Aside0.mk A20
 clear A20
 by_cases c3 : t104 = true
 ·subst c3
  have H1 := H
  rw [if_pos rfl] at H1
  clear H
  have H := H1
  clear H1
  refine Or.elim (Classical.em (0 < (a0.size : Int))) (fun c4 => ?_) (fun c4 => by rw [if_neg c4] at H; exact absurd H (by simp))
  rw [if_pos c4] at H
  have c4b0 : decide (0 < (a0.size : Int)) = true := decide_eq_true c4
  have c4b1 : decide (0 < a0.size) = true := decide_eq_true (by omega)
  clear c4
  obtain rfl := Option.some.inj H
  go_enter Tryz.func108, Tryz.ntmps108
  go_wp2_with (first | ((with_reducible refine gate_callee (f := 62) rfl ?_); refine goesL_ (some 4) rfl rfl Tryz.func62 (by kernel_rfl) rfl #[.string a0] rfl (by (try simp only [List.map_toArray, List.map_cons, List.map_nil]); first | done | rfl | (simp only [List.length_drop, List.length_take]; rfl)) ?_; (with_reducible refine (impl_GoodPath.calls a0 true _ A2.out).mono ?_); rintro e w6 ⟨rfl, hb⟩; refine ⟨_, rfl, ?_⟩; replace HB := Aside0.mk (below_step (Gtr.bw HB.out) hb); (try clear hb); (try clear hb2); (try clear hk); (try clear hi); have p5 : 0 ≤ (0 : Int) := (by omega); have q5 : 0 < a0.size := (by have : (0 : Int) < (a0.size : Int) := Gtr.od; omega); have hx5 : ∀ h : 0 < a0.size, ((a0[0]'h).toNat : Int) = bt a0 0 := bt_at a0 0; clear p5; have qi5 : (0 < (a0.size : Int)) = True := eq_true (Gtr.od); replace q5 := eq_true q5))
  go_ret
  exact ⟨Gtr.fe, (Gtr.bw HB.out)⟩
 ·replace c3 := Bool.eq_false_iff.mpr c3
  subst c3
  have H1 : (some false) = some r := by rw [if_neg (show ¬ (false = true) by decide)] at H; exact H
  clear H
  have H := H1
  clear H1
  obtain rfl := Option.some.inj H
  go_enter Tryz.func108, Tryz.ntmps108
  go_wp2_with (first | ((with_reducible refine gate_callee (f := 62) rfl ?_); refine goesL_ (some 4) rfl rfl Tryz.func62 (by kernel_rfl) rfl #[.string a0] rfl (by (try simp only [List.map_toArray, List.map_cons, List.map_nil]); first | done | rfl | (simp only [List.length_drop, List.length_take]; rfl)) ?_; (with_reducible refine (impl_GoodPath.calls a0 false _ A2.out).mono ?_); rintro e w7 ⟨rfl, hb⟩; refine ⟨_, rfl, ?_⟩; replace HB := Aside0.mk (below_step (Gtr.bw HB.out) hb); (try clear hb); (try clear hb2); (try clear hk); (try clear hi)))
  go_ret
  exact ⟨Gtr.fe, (Gtr.bw HB.out)⟩
theorem nil_isEmpty (l : List UInt8) : (l == []) = l.isEmpty := by cases l <;> rfl
theorem size_alloc1 (w : World) (o : Obj) : (w.alloc o).heap.size = w.heap.size + 1 := by simp
theorem drewN_two (w : World) (a b : Nat) : (w.drewN a).drewN b = w.drewN (a + b) := by
  show ({ { w with drawn := w.drawn + a } with drawn := w.drawn + a + b } : World) = { w with drawn := w.drawn + (a + b) }
  rw [Nat.add_assoc]
theorem wrap_up {i n : Nat} (h : i < n) (hn : n ≤ 4294967296) : wrap64 ((i : Int) + 1) = ((i + 1 : Nat) : Int) := by unfold wrap64; omega
theorem wrap_dn {i m n : Nat} (hm : i = m + 1) (h : i < n) (hn : n ≤ 4294967296) : wrap64 ((i : Int) - 1) = (m : Int) := by unfold wrap64; omega
theorem wrap_at {m n : Nat} (h : m < n) (hn : n ≤ 4294967296) : wrap64 (m : Int) = (m : Int) := by unfold wrap64; omega
theorem meas_up {i n : Nat} {z : Int} (h : i < n) (hz : z = ((i + 1 : Nat) : Int)) : n - (intOf (Value.int .i64 z)).toNat < n - (intOf (Value.int .i64 (i : Int))).toNat := by subst hz; show n - (((i + 1 : Nat) : Int)).toNat < n - ((i : Int)).toNat; omega
theorem entsB_false {ns : List Nd} {l : List En} {n m : Nat} (h : entsB ns l n = false) (hm : n ≤ m) : entsB ns l m = false := by
  induction m with
  | zero => rw [show n = 0 by omega] at h; exact h
  | succ k ih =>
    by_cases hk : n = k + 1
    · rw [← hk]; exact h
    · show (entsB ns l k && entB ns l k) = false
      rw [ih (by omega), Bool.false_and]
abbrev isNodeS (g2 g3 g6 : Nat) (A0 A1 : Option Addr) (c0 c1 k0 k1 : Nat) (room x0 x1 x2 x3 x4 nd : Int) (x5 nm : ByteArray) (w : World) (w' : World) : Prop :=
  w'.cell? ⟨g6, 0, none⟩ = some (.string nm) ∧ w'.cell? ⟨g6, 1, none⟩ = some (.int .i64 nd) ∧ w'.cell? ⟨g3, 6, none⟩ = some (.slice A1 k1 c1) ∧ w'.cell? ⟨g2, 0, none⟩ = some (.slice A0 k0 c0) ∧ w'.cell? ⟨g2, 1, none⟩ = some (.int .i64 room) ∧ Aside0 (Below w.heap.size w w') ∧ Aside0 (w'.heap[g2]? = some (.cells #[.slice A0 k0 c0, .int .i64 room] 34 (0, 0))) ∧ Aside0 (w'.heap[g3]? = some (.cells #[.int .i64 x0, .int .i64 x1, .int .i64 x2, .int .i64 x3, .int .i64 x4, .string x5, .slice A1 k1 c1] 85 (0, 0)))
def isNodeT : Bool × List (List Nat × List Nat) := (true, [([], []), ([0], [0]), ([1], [1]), ([2], [2]), ([3, 2], [3]), ([4], [4]), ([5, 4], [4, 5]), ([6, 4, 4], [4, 6]), ([7], [7]), ([8, 7], [7, 8]), ([7], [7]), ([10, 7], [7, 10]), ([9, 11, 7], [7, 9, 11]), ([12, 7], [7, 12]), ([13, 7], [7, 13]), ([7], [7]), ([15, 7], [7, 15]), ([14, 16, 7], [7, 14, 16]), ([7, 17, 4], [4, 7, 17]), ([4, 18], [4, 18]), ([19, 7], [19]), ([20], [20]), ([20], [20]), ([22, 20], [20, 22]), ([21, 23, 20, 20], [20, 21, 23]), ([24, 20], [20, 24]), ([20, 25], [20, 25])])
theorem isNode_tab : rtab .any (opsOf Tryz.f169 14) = isNodeT := by kernel_rfl
set_option maxHeartbeats 8000000 in
set_option maxRecDepth 100000 in
theorem isNode_walk (ns : List Nd) (A0 : Option Addr) (c0 : Nat) (room : Int) (x0 x1 x2 x3 x4 : Int) (x5 : ByteArray) (A1 : Option Addr) (c1 : Nat) (l : List En) (w : World)
    (hr0 : Kd.C k85 w A0 ns.length ns) (hc0 : ns.length ≤ c0) (hr1 : Kd.C k144 w A1 l.length l) (hc1 : l.length ≤ c1) (hl0 : ns.length ≤ 4294967296) (hl1 : l.length ≤ 4294967296) :
    Calls Tryz.prog 169 #[.agg #[.slice A0 ns.length c0, .int .i64 room], .agg #[.int .i64 x0, .int .i64 x1, .int .i64 x2, .int .i64 x3, .int .i64 x4, .string x5, .slice A1 l.length c1]] w
      fun e w' => e = .returned (.bool (nodeB ns ⟨x0, x1, x2, x3, x4, x5, l⟩)) ∧ Below w.heap.size w w' := by
  have hu1 := Tryz.underlying34
  have hu2 := Tryz.underlying85
  have hu3 := Tryz.underlying144
  obtain ⟨x, hx⟩ : ∃ x : Nd, x = ⟨x0, x1, x2, x3, x4, x5, l⟩ := ⟨_, rfl⟩
  have HF := Aside0.mk (fun W (hb : Below w.heap.size w W) => impl_Node_isFree.calls x0 x1 x2 x3 x4 x5 A1 c1 l _ W (Kd.C_below hr1 hb) hc1 (isFree_f ⟨x0, x1, x2, x3, x4, x5, l⟩))
  have HM := Aside0.mk (fun W => impl_isMode.calls x1 _ W (isMode_f x1))
  have HU := Aside0.mk (fun W => impl_isId.calls x2 _ W (isId_f x2))
  have HG := Aside0.mk (fun W => impl_isId.calls x3 _ W (isId_f x3))
  have HT := Aside0.mk (fun W => impl_isTime.calls x4 _ W (isTime_f x4))
  have HP := Aside0.mk (fun W => impl_GoodPath.calls x5 _ W (GoodPath_f x5))
  have HN := Aside0.mk (fun W y => impl_GoodName.calls y _ W (GoodName_f y))
  have HI := Aside0.mk (fun W k (hb : Below w.heap.size w W) => impl_Fs_isThere.calls A0 c0 ns room k _ W (Kd.C_below hr0 hb) hc0 (isThere_f ns room k hl0))
  have HR1 := Aside0.mk hr1
  have HL1 := Aside0.mk hl1
  have HX := Aside0.mk hx
  rw [← hx]
  clear hr0 hr1 hc0 hc1 hl0 hl1 hx
  go_enter Tryz.func169, Tryz.ntmps169
  go_upto_region 1 with (fail)
  obtain ⟨W, hW⟩ : ∃ W, W = (w.alloc (.cells #[.slice A0 ns.length c0, .int .i64 room] 34 (0, 0))).alloc (.cells #[.int .i64 x0, .int .i64 x1, .int .i64 x2, .int .i64 x3, .int .i64 x4, .string x5, .slice A1 l.length c1] 85 (0, 0)) := ⟨_, rfl⟩
  have BK2 : Aside0 (W.heap[w.heap.size]? = some (.cells #[.slice A0 ns.length c0, .int .i64 room] 34 (0, 0))) := ⟨by rw [hW]; exact blk_alloc (blk_new w _) _⟩
  have BK3 : Aside0 (W.heap[w.heap.size + 1]? = some (.cells #[.int .i64 x0, .int .i64 x1, .int .i64 x2, .int .i64 x3, .int .i64 x4, .string x5, .slice A1 l.length c1] 85 (0, 0))) := ⟨by rw [hW]; have := blk_new (w.alloc (.cells #[.slice A0 ns.length c0, .int .i64 room] 34 (0, 0))) (.cells #[.int .i64 x0, .int .i64 x1, .int .i64 x2, .int .i64 x3, .int .i64 x4, .string x5, .slice A1 l.length c1] 85 (0, 0)); rw [size_alloc1] at this; exact this⟩
  have HB : Aside0 (Below w.heap.size w W) := ⟨by rw [hW]; exact below_alloc (below_alloc (Below.refl _ _) _) _⟩
  rw [← hW]
  obtain ⟨g2, hg2⟩ : ∃ g, g = w.heap.size := ⟨_, rfl⟩
  obtain ⟨g3, hg3⟩ : ∃ g, g = w.heap.size + 1 := ⟨_, rfl⟩
  rw [← hg3] at BK3
  rw [← hg2] at BK2
  rw [← hg3, ← hg2]
  have HW2 : Aside0 (g2 = w.heap.size) := ⟨hg2⟩
  have HG3 : Aside0 (w.heap.size ≤ g3) := ⟨by omega⟩
  clear hW hg2 hg3
  have cz := fun o => blk_cell BK3.out o
  by_cases h0 : x0 = 0
  · have q0 : (x0 == 0) = true := by simpa using h0
    have HR : Aside0 (nodeB ns x = freeB ⟨x0, x1, x2, x3, x4, x5, l⟩) := ⟨by rw [HX.out]; unfold nodeB; rw [if_pos h0]⟩
    clear h0
    go_wp2_with fail
    refine (HF.out _ HB.out).mono ?_; rintro e w1 ⟨rfl, hd⟩
    go_wp2
    go_ret
    exact ⟨by rw [HR.out]; rfl, below_step HB.out hd⟩
  have q0 : (x0 == 0) = false := by simpa using h0
  have HR : Aside0 (nodeB ns x = (frontB x && backB ns x)) := ⟨by rw [HX.out]; unfold nodeB; rw [if_neg h0]⟩
  clear HF h0
  go_upto_region 3 with (fail)
  clear cz
  go_cut [44] (fun v44 wc => v44 = .bool (!frontB x) ∧ ∃ n, wc = W.drewN n)
  case first =>
    have HFR : Aside0 (frontB x = (inB 0 511 x1 && (inB 0 99 x2 && (inB 0 99 x3 && (inB 0 1000000 x4 && ((x0 == 2) || (l.length == 0))))))) := ⟨by rw [HX.out]; rfl⟩
    have cz := fun o => blk_cell BK3.out o
    cases b1 : inB 0 511 x1 with
    | false =>
      rw [b1] at HM
      have B1 := Aside0.mk b1
      clear b1
      go_wp2_with fail
      refine (HM.out _).mono ?_; rintro e w1 ⟨rfl, ⟨n1, rfl⟩⟩
      go_wp2_with fail
      go_meet
      case rel => exact ⟨by rw [HFR.out, B1.out]; rfl, _, by first | rfl | (simp only [drewN_two]; rfl)⟩
    | true =>
      rw [b1] at HM
      have B1 := Aside0.mk b1
      clear b1
      cases b2 : inB 0 99 x2 with
      | false =>
        rw [b2] at HU
        have B2 := Aside0.mk b2
        clear b2
        go_wp2_with fail
        refine (HM.out _).mono ?_; rintro e w1 ⟨rfl, ⟨n1, rfl⟩⟩
        go_wp2_with fail
        refine (HU.out _).mono ?_; rintro e w1 ⟨rfl, ⟨n2, rfl⟩⟩
        go_wp2_with fail
        go_meet
        case rel => exact ⟨by rw [HFR.out, B1.out, B2.out]; rfl, _, by first | rfl | (simp only [drewN_two]; rfl)⟩
      | true =>
        rw [b2] at HU
        have B2 := Aside0.mk b2
        clear b2
        cases b3 : inB 0 99 x3 with
        | false =>
          rw [b3] at HG
          have B3 := Aside0.mk b3
          clear b3
          go_wp2_with fail
          refine (HM.out _).mono ?_; rintro e w1 ⟨rfl, ⟨n1, rfl⟩⟩
          go_wp2_with fail
          refine (HU.out _).mono ?_; rintro e w1 ⟨rfl, ⟨n2, rfl⟩⟩
          go_wp2_with fail
          refine (HG.out _).mono ?_; rintro e w1 ⟨rfl, ⟨n3, rfl⟩⟩
          go_wp2_with fail
          go_meet
          case rel => exact ⟨by rw [HFR.out, B1.out, B2.out, B3.out]; rfl, _, by first | rfl | (simp only [drewN_two]; rfl)⟩
        | true =>
          rw [b3] at HG
          have B3 := Aside0.mk b3
          clear b3
          cases b4 : inB 0 1000000 x4 with
          | false =>
            rw [b4] at HT
            have B4 := Aside0.mk b4
            clear b4
            go_wp2_with fail
            refine (HM.out _).mono ?_; rintro e w1 ⟨rfl, ⟨n1, rfl⟩⟩
            go_wp2_with fail
            refine (HU.out _).mono ?_; rintro e w1 ⟨rfl, ⟨n2, rfl⟩⟩
            go_wp2_with fail
            refine (HG.out _).mono ?_; rintro e w1 ⟨rfl, ⟨n3, rfl⟩⟩
            go_wp2_with fail
            refine (HT.out _).mono ?_; rintro e w1 ⟨rfl, ⟨n4, rfl⟩⟩
            go_wp2_with fail
            go_meet
            case rel => exact ⟨by rw [HFR.out, B1.out, B2.out, B3.out, B4.out]; rfl, _, by first | rfl | (simp only [drewN_two]; rfl)⟩
          | true =>
            rw [b4] at HT
            have B4 := Aside0.mk b4
            clear b4
            cases b5 : (x0 == 2) with
            | true =>
              have q5 : (x0 != 2) = false := by simpa using b5
              have B5 := Aside0.mk b5
              go_wp2_with fail
              refine (HM.out _).mono ?_; rintro e w1 ⟨rfl, ⟨n1, rfl⟩⟩
              go_wp2_with fail
              refine (HU.out _).mono ?_; rintro e w1 ⟨rfl, ⟨n2, rfl⟩⟩
              go_wp2_with fail
              refine (HG.out _).mono ?_; rintro e w1 ⟨rfl, ⟨n3, rfl⟩⟩
              go_wp2_with fail
              refine (HT.out _).mono ?_; rintro e w1 ⟨rfl, ⟨n4, rfl⟩⟩
              go_wp2_with fail
              go_meet
              case rel => exact ⟨by rw [HFR.out, B1.out, B2.out, B3.out, B4.out, B5.out]; rfl, _, by first | rfl | (simp only [drewN_two]; rfl)⟩
            | false =>
              have q5 : (x0 != 2) = true := by simpa using b5
              have B5 := Aside0.mk b5
              cases b6 : (l.length == 0) with
              | true =>
                have B6 := Aside0.mk b6
                have hp : l.length = 0 := by simpa using b6
                have q6 : ((0 : Int) < (l.length : Int)) = False := eq_false (by omega)
                have q7 : decide ((0 : Int) < (l.length : Int)) = false := decide_eq_false (by omega)
                have q8 : decide (0 < l.length) = false := decide_eq_false (by omega)
                clear b6 hp
                go_wp2_with fail
                refine (HM.out _).mono ?_; rintro e w1 ⟨rfl, ⟨n1, rfl⟩⟩
                go_wp2_with fail
                refine (HU.out _).mono ?_; rintro e w1 ⟨rfl, ⟨n2, rfl⟩⟩
                go_wp2_with fail
                refine (HG.out _).mono ?_; rintro e w1 ⟨rfl, ⟨n3, rfl⟩⟩
                go_wp2_with fail
                refine (HT.out _).mono ?_; rintro e w1 ⟨rfl, ⟨n4, rfl⟩⟩
                go_wp2_with fail
                go_meet
                case rel => exact ⟨by rw [HFR.out, B1.out, B2.out, B3.out, B4.out, B5.out, B6.out]; rfl, _, by first | rfl | (simp only [drewN_two]; rfl)⟩
              | false =>
                have B6 := Aside0.mk b6
                have hp : 0 < l.length := Nat.pos_of_ne_zero (by simpa using b6)
                have q6 : ((0 : Int) < (l.length : Int)) = True := eq_true (by omega)
                have q7 : decide ((0 : Int) < (l.length : Int)) = true := decide_eq_true (by omega)
                have q8 : decide (0 < l.length) = true := decide_eq_true hp
                clear b6
                go_wp2_with fail
                refine (HM.out _).mono ?_; rintro e w1 ⟨rfl, ⟨n1, rfl⟩⟩
                go_wp2_with fail
                refine (HU.out _).mono ?_; rintro e w1 ⟨rfl, ⟨n2, rfl⟩⟩
                go_wp2_with fail
                refine (HG.out _).mono ?_; rintro e w1 ⟨rfl, ⟨n3, rfl⟩⟩
                go_wp2_with fail
                refine (HT.out _).mono ?_; rintro e w1 ⟨rfl, ⟨n4, rfl⟩⟩
                go_wp2_with fail
                go_meet
                case rel => exact ⟨by rw [HFR.out, B1.out, B2.out, B3.out, B4.out, B5.out, B6.out]; rfl, _, by first | rfl | (simp only [drewN_two]; rfl)⟩
  case rest =>
    obtain ⟨rfl, n, rfl⟩ := hcut
    have BK2' := Aside0.mk (blk_drewN BK2.out n)
    have BK3' := Aside0.mk (blk_drewN BK3.out n)
    have HB' := Aside0.mk (pw_below_drewN HB.out n)
    obtain ⟨V, hV⟩ : ∃ V, V = W.drewN n := ⟨_, rfl⟩
    rw [← hV] at BK2' BK3' HB' ⊢
    clear hV BK2 BK3 HB HM HU HG HT
    have cz := fun o => blk_cell BK3'.out o
    cases hfr : frontB x with
    | false =>
      have HN0 : Aside0 (nodeB ns x = false) := ⟨by rw [HR.out, hfr]; rfl⟩
      clear hfr
      go_wp2
      go_ret
      exact ⟨by rw [HN0.out]; rfl, HB'.out⟩
    | true =>
      have HN1 : Aside0 (nodeB ns x = backB ns x) := ⟨by rw [HR.out, hfr]; rfl⟩
      clear hfr HR
      by_cases k1 : x0 = 1
      · have p1 : (x0 == 1) = true := by simpa using k1
        have HN2 : Aside0 (nodeB ns x = decide (x5.size ≤ 60)) := ⟨by rw [HN1.out, HX.out]; unfold backB; rw [if_pos k1]⟩
        clear k1
        go_wp2
        go_ret
        exact ⟨by rw [HN2.out]; simp; omega, HB'.out⟩
      by_cases k3 : x0 = 3
      · have p1 : (x0 == 1) = false := by simpa using k1
        have p3 : (x0 == 3) = true := by simpa using k3
        have HN2 : Aside0 (nodeB ns x = goodPathB x5) := ⟨by rw [HN1.out, HX.out]; unfold backB; rw [if_neg k1, if_pos k3]⟩
        clear k1 k3
        go_wp2_with fail
        refine (HP.out _).mono ?_; rintro e w1 ⟨rfl, hd⟩
        go_wp2
        go_ret
        exact ⟨by rw [HN2.out]; rfl, below_step HB'.out hd⟩
      have p1 : (x0 == 1) = false := by simpa using k1
      have p3 : (x0 == 3) = false := by simpa using k3
      by_cases k2 : x0 = 2
      case neg =>
        have p2 : (x0 == 2) = false := by simpa using k2
        have HN2 : Aside0 (nodeB ns x = false) := ⟨by rw [HN1.out, HX.out]; unfold backB; rw [if_neg k1, if_neg k3, if_neg k2]⟩
        clear k1 k3 k2
        go_wp2
        go_ret
        exact ⟨by rw [HN2.out]; rfl, HB'.out⟩
      case pos =>
        have p2 : (x0 == 2) = true := by simpa using k2
        have HN2 : Aside0 (nodeB ns x = (entsB ns l l.length && (x5.toList == []))) := ⟨by rw [HN1.out, HX.out]; unfold backB; rw [if_neg k1, if_neg k3, if_pos k2]⟩
        clear k1 k3 k2
        go_wp2_with fail
        go_loopw [63] (fun iv wr => ∃ i : Nat, i ≤ l.length ∧ iv = .int .i64 i ∧ Aside0 (entsB ns l i = true) ∧ Aside0 (Below w.heap.size w wr) ∧ Aside0 (wr.heap[g2]? = some (.cells #[.slice A0 ns.length c0, .int .i64 room] 34 (0, 0))) ∧ Aside0 (wr.heap[g3]? = some (.cells #[.int .i64 x0, .int .i64 x1, .int .i64 x2, .int .i64 x3, .int .i64 x4, .string x5, .slice A1 l.length c1] 85 (0, 0)))) (fun iv _ => l.length - (intOf iv).toNat)
        case atStart => exact ⟨0, Nat.zero_le _, rfl, ⟨rfl⟩, HB', BK2', BK3'⟩
        case round =>
          obtain ⟨i, hi, rfl, HE, HBr, BK2r, BK3r⟩ := hrel
          clear cz
          have cz := fun o => blk_cell BK3r.out o
          by_cases hlt : i < l.length
          case neg =>
            have hil : i = l.length := by omega
            have HN3 : Aside0 (nodeB ns x = (x5.toList == [])) := ⟨by rw [HN2.out, ← hil, HE.out]; rfl⟩
            have p9 : ((i : Int) < (l.length : Int)) = False := eq_false (by omega)
            clear hil hlt hi
            go_wp2
            go_ret
            exact ⟨by rw [HN3.out, nil_isEmpty]; rfl, HBr.out⟩
          case pos =>
            have p9 : ((i : Int) < (l.length : Int)) = True := eq_true (by omega)
            have hLL := HL1.out
            have HSTEP : Aside0 (entsB ns l (i + 1) = (entsB ns l i && entB ns l i)) := ⟨rfl⟩
            obtain ⟨ad, had, hn0, hn1⟩ := at_T144 (Kd.C_below HR1.out HBr.out) (i : Int) (by omega) (by omega)
            have HENT : Aside0 (entB ns l i = (nameOkB (enR l (i : Int)).f0 && (upB l i && thereB ns (enR l (i : Int)).f1))) := ⟨rfl⟩
            rw [Int.toNat_natCast] at hn0 hn1
            obtain ⟨nm, hnm⟩ : ∃ nm, (rd_T144 l (i : Int)).f0 = nm := ⟨_, rfl⟩
            rw [hnm] at hn0 HENT
            have HNM := Aside0.mk hnm
            clear hnm
            generalize (rd_T144 l (i : Int)).f1 = nd at hn1 HENT
            clear hLL
            go_upto_region 14 with (fail)
            have HB5' : Below wr.heap.size wr (wr.alloc (.cells #[.string nm, .int .i64 nd] 144 (0, 0))) := below_alloc (Below.refl _ _) _
            have BK6' := blk_new wr (.cells #[.string nm, .int .i64 nd] 144 (0, 0))
            obtain ⟨g6, hg6⟩ : ∃ g, g = wr.heap.size := ⟨_, rfl⟩
            obtain ⟨W5, hW5⟩ : ∃ W, W = wr.alloc (.cells #[.string nm, .int .i64 nd] 144 (0, 0)) := ⟨_, rfl⟩
            rw [← hW5] at HB5' BK6'
            rw [← hg6] at BK6'
            rw [← hW5, ← hg6]
            have HB5 := Aside0.mk (below_step HBr.out HB5')
            have B25 := Aside0.mk ((HB5'.block _ (blk_lt BK2r.out)).trans BK2r.out)
            have B35 := Aside0.mk ((HB5'.block _ (blk_lt BK3r.out)).trans BK3r.out)
            have BK6 := Aside0.mk BK6'
            have HADW := Aside0.mk had
            clear HB5' BK6' hW5 hg6 cz HBr BK2r BK3r hn0 hn1 hi
            go_cut [94] (fun v94 wc => v94 = .bool (!entB ns l i) ∧ Aside0 (Below w.heap.size w wc) ∧ Aside0 (wc.heap[g2]? = some (.cells #[.slice A0 ns.length c0, .int .i64 room] 34 (0, 0))) ∧ Aside0 (wc.heap[g3]? = some (.cells #[.int .i64 x0, .int .i64 x1, .int .i64 x2, .int .i64 x3, .int .i64 x4, .string x5, .slice A1 l.length c1] 85 (0, 0))))
            case first =>
              have h60 : W5.cell? ⟨g6, 0, none⟩ = some (.string nm) := (blk_cell BK6.out 0).trans rfl
              have h61 : W5.cell? ⟨g6, 1, none⟩ = some (.int .i64 nd) := (blk_cell BK6.out 1).trans rfl
              have h36 : W5.cell? ⟨g3, 6, none⟩ = some (.slice A1 l.length c1) := (blk_cell B35.out 6).trans rfl
              have h20 : W5.cell? ⟨g2, 0, none⟩ = some (.slice A0 ns.length c0) := (blk_cell B25.out 0).trans rfl
              have h21 : W5.cell? ⟨g2, 1, none⟩ = some (.int .i64 room) := (blk_cell B25.out 1).trans rfl
              have SB : Aside0 (∀ W W' : World, (isNodeS g2 g3 g6 A0 A1 c0 c1 ns.length l.length room x0 x1 x2 x3 x4 nd x5 nm w) W → Below W.heap.size W W' → (isNodeS g2 g3 g6 A0 A1 c0 c1 ns.length l.length room x0 x1 x2 x3 x4 nd x5 nm w) W') := ⟨fun W W' h hd => by
                obtain ⟨a0, a1, a2, a3, a4, ha, hb2, hb3⟩ := h
                exact ⟨pw_cell_below hd a0, pw_cell_below hd a1, pw_cell_below hd a2, pw_cell_below hd a3, pw_cell_below hd a4, ⟨below_step ha.out hd⟩, ⟨(hd.block _ (blk_lt hb2.out)).trans hb2.out⟩, ⟨(hd.block _ (blk_lt hb3.out)).trans hb3.out⟩⟩⟩
              have HNn := Aside0.mk (fun W => HN.out W nm)
              clear HN
              cases b1 : nameOkB nm with
              | false =>
                have B1 := Aside0.mk b1
                rw [b1] at HNn
                clear b1
                refine rg_start (S := (isNodeS g2 g3 g6 A0 A1 c0 c1 ns.length l.length room x0 x1 x2 x3 x4 nd x5 nm w)) (n := 27) (T := isNodeT) (B := []) isNode_tab (by kernel_rfl) (by kernel_rfl) rfl (by kernel_rfl) ⟨h60, h61, h36, h20, h21, ⟨below_drew1 HB5.out⟩, ⟨B25.out⟩, ⟨B35.out⟩⟩ (fun HT HB HS => ?_)
                clear h60 h61 h36 h20 h21
                repeat (first
                  | (refine rg_take (v := ?_) (a' := ?_) (by simp only [Nat.reduceAdd]; rfl) (by simp only [List.getElem?_toArray, List.getElem?_cons_succ, List.getElem?_cons_zero]; rfl) (by first | (dsimp only; done) | (dsimp only; rfl)) HT HB (by kernel_rfl) (by exact fun _ _ _ h => h) (Or.inl ⟨by rfl, ?_⟩) HS ?_ ?_
                     rotate_left
                     · rintro w' ⟨s0, s1, s2, s3, s4, -, -, -⟩
                       go_simp
                       with_reducible rfl
                     rotate_left
                     · simp only [Act.put, List.setIfInBounds_toArray, List.set_cons_zero, List.set_cons_succ]
                       rfl)
                  | (refine rg_take (v := undef) (a' := ?_) (by simp only [Nat.reduceAdd]; rfl) (by simp only [List.getElem?_toArray, List.getElem?_cons_succ, List.getElem?_cons_zero]; rfl) (by first | (dsimp only; done) | (dsimp only; rfl)) HT HB (by kernel_rfl) (by exact fun _ _ _ h => h) (Or.inr ⟨by rfl, rfl⟩) HS ?_ ?_
                     rotate_left
                     · simp only [Act.put, List.setIfInBounds_toArray, List.set_cons_zero, List.set_cons_succ]
                       rfl))
                refine rg_one (by simp only [Nat.reduceAdd]; rfl) (by simp only [List.getElem?_toArray, List.getElem?_cons_succ, List.getElem?_cons_zero]; rfl) (by first | (dsimp only; done) | (dsimp only; rfl)) HT (by kernel_rfl) (by simp) (fun K hK => ?_)
                refine goes_ Tryz.func109 (by kernel_rfl) rfl #[.string nm] (by rfl) rfl (by rfl) (by simp only [List.map_toArray, List.map_cons, List.map_nil]; rfl) ?_
                refine (HNn.out _).mono ?_; rintro e w2 ⟨rfl, hd⟩
                refine ⟨_, rfl, ?_⟩
                refine hK.out _ _ (SB.out _ _ HS.out hd) (fun hH => ?_)
                clear hK K HS hd
                have HS := Aside0.mk hH
                clear hH
                simp only [Act.put, List.setIfInBounds_toArray, List.set_cons_zero, List.set_cons_succ]
                repeat (first
                  | (refine rg_take (v := ?_) (a' := ?_) (by simp only [Nat.reduceAdd]; rfl) (by simp only [List.getElem?_toArray, List.getElem?_cons_succ, List.getElem?_cons_zero]; rfl) (by first | (dsimp only; done) | (dsimp only; rfl)) HT HB (by kernel_rfl) (by exact fun _ _ _ h => h) (Or.inl ⟨by rfl, ?_⟩) HS ?_ ?_
                     rotate_left
                     · rintro w' ⟨s0, s1, s2, s3, s4, -, -, -⟩
                       go_simp
                       with_reducible rfl
                     rotate_left
                     · simp only [Act.put, List.setIfInBounds_toArray, List.set_cons_zero, List.set_cons_succ]
                       rfl)
                  | (refine rg_take (v := undef) (a' := ?_) (by simp only [Nat.reduceAdd]; rfl) (by simp only [List.getElem?_toArray, List.getElem?_cons_succ, List.getElem?_cons_zero]; rfl) (by first | (dsimp only; done) | (dsimp only; rfl)) HT HB (by kernel_rfl) (by exact fun _ _ _ h => h) (Or.inr ⟨by rfl, rfl⟩) HS ?_ ?_
                     rotate_left
                     · simp only [Act.put, List.setIfInBounds_toArray, List.set_cons_zero, List.set_cons_succ]
                       rfl))
                refine done_ (done_of HT.out (by kernel_rfl)) ?_
                go_wp2_with fail
                go_meet
                case rel =>
                  obtain ⟨-, -, -, -, -, ha, hb2, hb3⟩ := HS.out
                  exact ⟨by rw [HENT.out, B1.out]; rfl, ha, hb2, hb3⟩
              | true =>
                have B1 := Aside0.mk b1
                rw [b1] at HNn
                clear b1
                by_cases hz : i = 0
                case pos =>
                  have p0 : decide ((0 : Int) < (i : Int)) = false := decide_eq_false (by omega)
                  have p1 : ((0 : Int) < (i : Int)) = False := eq_false (by omega)
                  have p2 : decide (0 < i) = false := decide_eq_false (by omega)
                  have p3 : (0 < i) = False := eq_false (by omega)
                  have UP : Aside0 (upB l i = true) := ⟨by unfold upB; rw [hz]; rfl⟩
                  clear hz
                  refine rg_start (S := (isNodeS g2 g3 g6 A0 A1 c0 c1 ns.length l.length room x0 x1 x2 x3 x4 nd x5 nm w)) (n := 27) (T := isNodeT) (B := []) isNode_tab (by kernel_rfl) (by kernel_rfl) rfl (by kernel_rfl) ⟨h60, h61, h36, h20, h21, ⟨below_drew1 HB5.out⟩, ⟨B25.out⟩, ⟨B35.out⟩⟩ (fun HT HB HS => ?_)
                  clear h60 h61 h36 h20 h21
                  repeat (first
                    | (refine rg_take (v := ?_) (a' := ?_) (by simp only [Nat.reduceAdd]; rfl) (by simp only [List.getElem?_toArray, List.getElem?_cons_succ, List.getElem?_cons_zero]; rfl) (by first | (dsimp only; done) | (dsimp only; rfl)) HT HB (by kernel_rfl) (by exact fun _ _ _ h => h) (Or.inl ⟨by rfl, ?_⟩) HS ?_ ?_
                       rotate_left
                       · rintro w' ⟨s0, s1, s2, s3, s4, -, -, -⟩
                         go_simp
                         with_reducible rfl
                       rotate_left
                       · simp only [Act.put, List.setIfInBounds_toArray, List.set_cons_zero, List.set_cons_succ]
                         rfl)
                    | (refine rg_take (v := undef) (a' := ?_) (by simp only [Nat.reduceAdd]; rfl) (by simp only [List.getElem?_toArray, List.getElem?_cons_succ, List.getElem?_cons_zero]; rfl) (by first | (dsimp only; done) | (dsimp only; rfl)) HT HB (by kernel_rfl) (by exact fun _ _ _ h => h) (Or.inr ⟨by rfl, rfl⟩) HS ?_ ?_
                       rotate_left
                       · simp only [Act.put, List.setIfInBounds_toArray, List.set_cons_zero, List.set_cons_succ]
                         rfl))
                  refine rg_one (by simp only [Nat.reduceAdd]; rfl) (by simp only [List.getElem?_toArray, List.getElem?_cons_succ, List.getElem?_cons_zero]; rfl) (by first | (dsimp only; done) | (dsimp only; rfl)) HT (by kernel_rfl) (by simp) (fun K hK => ?_)
                  refine goes_ Tryz.func109 (by kernel_rfl) rfl #[.string nm] (by rfl) rfl (by rfl) (by simp only [List.map_toArray, List.map_cons, List.map_nil]; rfl) ?_
                  refine (HNn.out _).mono ?_; rintro e w2 ⟨rfl, hd⟩
                  refine ⟨_, rfl, ?_⟩
                  refine hK.out _ _ (SB.out _ _ HS.out hd) (fun hH => ?_)
                  clear hK K HS hd
                  have HS := Aside0.mk hH
                  clear hH
                  simp only [Act.put, List.setIfInBounds_toArray, List.set_cons_zero, List.set_cons_succ]
                  repeat (first
                    | (refine rg_take (v := ?_) (a' := ?_) (by simp only [Nat.reduceAdd]; rfl) (by simp only [List.getElem?_toArray, List.getElem?_cons_succ, List.getElem?_cons_zero]; rfl) (by first | (dsimp only; done) | (dsimp only; rfl)) HT HB (by kernel_rfl) (by exact fun _ _ _ h => h) (Or.inl ⟨by rfl, ?_⟩) HS ?_ ?_
                       rotate_left
                       · rintro w' ⟨s0, s1, s2, s3, s4, -, -, -⟩
                         go_simp
                         with_reducible rfl
                       rotate_left
                       · simp only [Act.put, List.setIfInBounds_toArray, List.set_cons_zero, List.set_cons_succ]
                         rfl)
                    | (refine rg_take (v := undef) (a' := ?_) (by simp only [Nat.reduceAdd]; rfl) (by simp only [List.getElem?_toArray, List.getElem?_cons_succ, List.getElem?_cons_zero]; rfl) (by first | (dsimp only; done) | (dsimp only; rfl)) HT HB (by kernel_rfl) (by exact fun _ _ _ h => h) (Or.inr ⟨by rfl, rfl⟩) HS ?_ ?_
                       rotate_left
                       · simp only [Act.put, List.setIfInBounds_toArray, List.set_cons_zero, List.set_cons_succ]
                         rfl))
                  refine rg_one (by simp only [Nat.reduceAdd]; rfl) (by simp only [List.getElem?_toArray, List.getElem?_cons_succ, List.getElem?_cons_zero]; rfl) (by first | (dsimp only; done) | (dsimp only; rfl)) HT (by kernel_rfl) (by simp) (fun K hK => ?_)
                  refine goes_ Tryz.func197 (by kernel_rfl) rfl #[.agg #[.slice A0 ns.length c0, .int .i64 room], .int .i64 nd] (by rfl) rfl (by rfl) (by simp only [List.map_toArray, List.map_cons, List.map_nil]; rfl) ?_
                  refine (HI.out _ nd (by obtain ⟨-, -, -, -, -, ha, -, -⟩ := HS.out; exact ha.out)).mono ?_; rintro e w2 ⟨rfl, hd⟩
                  refine ⟨_, rfl, ?_⟩
                  refine hK.out _ _ (SB.out _ _ HS.out hd) (fun hH => ?_)
                  clear hK K HS hd
                  have HS := Aside0.mk hH
                  clear hH
                  simp only [Act.put, List.setIfInBounds_toArray, List.set_cons_zero, List.set_cons_succ]
                  repeat (first
                    | (refine rg_take (v := ?_) (a' := ?_) (by simp only [Nat.reduceAdd]; rfl) (by simp only [List.getElem?_toArray, List.getElem?_cons_succ, List.getElem?_cons_zero]; rfl) (by first | (dsimp only; done) | (dsimp only; rfl)) HT HB (by kernel_rfl) (by exact fun _ _ _ h => h) (Or.inl ⟨by rfl, ?_⟩) HS ?_ ?_
                       rotate_left
                       · rintro w' ⟨s0, s1, s2, s3, s4, -, -, -⟩
                         go_simp
                         with_reducible rfl
                       rotate_left
                       · simp only [Act.put, List.setIfInBounds_toArray, List.set_cons_zero, List.set_cons_succ]
                         rfl)
                    | (refine rg_take (v := undef) (a' := ?_) (by simp only [Nat.reduceAdd]; rfl) (by simp only [List.getElem?_toArray, List.getElem?_cons_succ, List.getElem?_cons_zero]; rfl) (by first | (dsimp only; done) | (dsimp only; rfl)) HT HB (by kernel_rfl) (by exact fun _ _ _ h => h) (Or.inr ⟨by rfl, rfl⟩) HS ?_ ?_
                       rotate_left
                       · simp only [Act.put, List.setIfInBounds_toArray, List.set_cons_zero, List.set_cons_succ]
                         rfl))
                  refine done_ (done_of HT.out (by kernel_rfl)) ?_
                  go_wp2_with fail
                  go_meet
                  case rel =>
                    obtain ⟨-, -, -, -, -, ha, hb2, hb3⟩ := HS.out
                    exact ⟨by rw [HENT.out, B1.out, UP.out]; simp, ha, hb2, hb3⟩
                case neg =>
                  obtain ⟨m, hm⟩ : ∃ m, i = m + 1 := ⟨i - 1, by omega⟩
                  have p0 : decide ((0 : Int) < (i : Int)) = true := decide_eq_true (by omega)
                  have p1 : ((0 : Int) < (i : Int)) = True := eq_true (by omega)
                  have p2 : decide (0 < i) = true := decide_eq_true (by omega)
                  have p3 : (0 < i) = True := eq_true (by omega)
                  have p4 : wrap64 ((i : Int) - 1) = (m : Int) := wrap_dn hm hlt HL1.out
                  obtain ⟨ad', had', hp0, -⟩ := at_T144 (Kd.C_below HR1.out HB5.out) (m : Int) (by omega) (by omega)
                  have ea : ad' = ad := by have := had'.symm.trans HADW.out; injection this
                  rw [ea] at hp0
                  clear ea
                  rw [Int.toNat_natCast] at hp0
                  have UP0 : upB l i = (false || Op.bytesLess (enR l (m : Int)).f0.toList (enR l (i : Int)).f0.toList) := by unfold upB; rw [show (i == 0) = false by simpa using hz, show ((i : Int) - 1) = (m : Int) by omega]
                  generalize (rd_T144 l (m : Int)).f0 = pv at hp0 UP0
                  rw [HNM.out] at UP0
                  have q9 : ((m : Int) < (l.length : Int)) = True := eq_true (by omega)
                  have q10 : (m < l.length) = True := eq_true (by omega)
                  have h70 : W5.cell? (ad.add (m * 2)) = some (.string pv) := hp0
                  have SB2 : Aside0 (∀ W W' : World, (fun w' => w'.cell? (ad.add (m * 2)) = some (.string pv) ∧ isNodeS g2 g3 g6 A0 A1 c0 c1 ns.length l.length room x0 x1 x2 x3 x4 nd x5 nm w w') W → Below W.heap.size W W' → (fun w' => w'.cell? (ad.add (m * 2)) = some (.string pv) ∧ isNodeS g2 g3 g6 A0 A1 c0 c1 ns.length l.length room x0 x1 x2 x3 x4 nd x5 nm w w') W') := ⟨fun W W' h hd => ⟨pw_cell_below hd h.1, SB.out W W' h.2 hd⟩⟩
                  have p7 : wrap64 (m : Int) = (m : Int) := wrap_at (by omega) HL1.out
                  have p6 : IntKind.wrap .i64 (m : Int) = (m : Int) := by rw [i64_w]; exact p7
                  have p5 : IntKind.wrap .i64 ((i : Int) - 1) = (m : Int) := by rw [i64_w]; exact p4
                  clear SB hz hp0 had' hm
                  cases b2 : Op.bytesLess pv.toList nm.toList with
                  | false =>
                    have UP : Aside0 (upB l i = false) := ⟨by rw [UP0, b2]; rfl⟩
                    clear UP0
                    refine rg_start (S := (fun w' => w'.cell? (ad.add (m * 2)) = some (.string pv) ∧ isNodeS g2 g3 g6 A0 A1 c0 c1 ns.length l.length room x0 x1 x2 x3 x4 nd x5 nm w w')) (n := 27) (T := isNodeT) (B := []) isNode_tab (by kernel_rfl) (by kernel_rfl) rfl (by kernel_rfl) ⟨h70, h60, h61, h36, h20, h21, ⟨below_drew1 HB5.out⟩, ⟨B25.out⟩, ⟨B35.out⟩⟩ (fun HT HB HS => ?_)
                    clear h60 h61 h36 h20 h21
                    repeat (first
                      | (refine rg_take (v := ?_) (a' := ?_) (by simp only [Nat.reduceAdd]; rfl) (by simp only [List.getElem?_toArray, List.getElem?_cons_succ, List.getElem?_cons_zero]; rfl) (by first | (dsimp only; done) | (dsimp only; rfl)) HT HB (by kernel_rfl) (by exact fun _ _ _ h => h) (Or.inl ⟨by rfl, ?_⟩) HS ?_ ?_
                         rotate_left
                         · rintro w' ⟨s5, s0, s1, s2, s3, s4, -, -, -⟩
                           go_simp
                           with_reducible rfl
                         rotate_left
                         · simp only [Act.put, List.setIfInBounds_toArray, List.set_cons_zero, List.set_cons_succ]
                           rfl)
                      | (refine rg_take (v := undef) (a' := ?_) (by simp only [Nat.reduceAdd]; rfl) (by simp only [List.getElem?_toArray, List.getElem?_cons_succ, List.getElem?_cons_zero]; rfl) (by first | (dsimp only; done) | (dsimp only; rfl)) HT HB (by kernel_rfl) (by exact fun _ _ _ h => h) (Or.inr ⟨by rfl, rfl⟩) HS ?_ ?_
                         rotate_left
                         · simp only [Act.put, List.setIfInBounds_toArray, List.set_cons_zero, List.set_cons_succ]
                           rfl))
                    refine rg_one (by simp only [Nat.reduceAdd]; rfl) (by simp only [List.getElem?_toArray, List.getElem?_cons_succ, List.getElem?_cons_zero]; rfl) (by first | (dsimp only; done) | (dsimp only; rfl)) HT (by kernel_rfl) (by simp) (fun K hK => ?_)
                    refine goes_ Tryz.func109 (by kernel_rfl) rfl #[.string nm] (by rfl) rfl (by rfl) (by simp only [List.map_toArray, List.map_cons, List.map_nil]; rfl) ?_
                    refine (HNn.out _).mono ?_; rintro e w2 ⟨rfl, hd⟩
                    refine ⟨_, rfl, ?_⟩
                    refine hK.out _ _ (SB2.out _ _ HS.out hd) (fun hH => ?_)
                    clear hK K HS hd
                    have HS := Aside0.mk hH
                    clear hH
                    simp only [Act.put, List.setIfInBounds_toArray, List.set_cons_zero, List.set_cons_succ]
                    repeat (first
                      | (refine rg_take (v := ?_) (a' := ?_) (by simp only [Nat.reduceAdd]; rfl) (by simp only [List.getElem?_toArray, List.getElem?_cons_succ, List.getElem?_cons_zero]; rfl) (by first | (dsimp only; done) | (dsimp only; rfl)) HT HB (by kernel_rfl) (by exact fun _ _ _ h => h) (Or.inl ⟨by rfl, ?_⟩) HS ?_ ?_
                         rotate_left
                         · rintro w' ⟨s5, s0, s1, s2, s3, s4, -, -, -⟩
                           go_simp
                           with_reducible rfl
                         rotate_left
                         · simp only [Act.put, List.setIfInBounds_toArray, List.set_cons_zero, List.set_cons_succ]
                           rfl)
                      | (refine rg_take (v := undef) (a' := ?_) (by simp only [Nat.reduceAdd]; rfl) (by simp only [List.getElem?_toArray, List.getElem?_cons_succ, List.getElem?_cons_zero]; rfl) (by first | (dsimp only; done) | (dsimp only; rfl)) HT HB (by kernel_rfl) (by exact fun _ _ _ h => h) (Or.inr ⟨by rfl, rfl⟩) HS ?_ ?_
                         rotate_left
                         · simp only [Act.put, List.setIfInBounds_toArray, List.set_cons_zero, List.set_cons_succ]
                           rfl))
                    refine done_ (done_of HT.out (by kernel_rfl)) ?_
                    clear had
                    go_wp2_with fail
                    go_meet
                    case rel =>
                      obtain ⟨-, -, -, -, -, -, ha, hb2, hb3⟩ := HS.out
                      exact ⟨by rw [HENT.out, B1.out, UP.out]; rfl, ha, hb2, hb3⟩
                  | true =>
                    have UP : Aside0 (upB l i = true) := ⟨by rw [UP0, b2]; rfl⟩
                    clear UP0
                    refine rg_start (S := (fun w' => w'.cell? (ad.add (m * 2)) = some (.string pv) ∧ isNodeS g2 g3 g6 A0 A1 c0 c1 ns.length l.length room x0 x1 x2 x3 x4 nd x5 nm w w')) (n := 27) (T := isNodeT) (B := []) isNode_tab (by kernel_rfl) (by kernel_rfl) rfl (by kernel_rfl) ⟨h70, h60, h61, h36, h20, h21, ⟨below_drew1 HB5.out⟩, ⟨B25.out⟩, ⟨B35.out⟩⟩ (fun HT HB HS => ?_)
                    clear h60 h61 h36 h20 h21
                    repeat (first
                      | (refine rg_take (v := ?_) (a' := ?_) (by simp only [Nat.reduceAdd]; rfl) (by simp only [List.getElem?_toArray, List.getElem?_cons_succ, List.getElem?_cons_zero]; rfl) (by first | (dsimp only; done) | (dsimp only; rfl)) HT HB (by kernel_rfl) (by exact fun _ _ _ h => h) (Or.inl ⟨by rfl, ?_⟩) HS ?_ ?_
                         rotate_left
                         · rintro w' ⟨s5, s0, s1, s2, s3, s4, -, -, -⟩
                           go_simp
                           with_reducible rfl
                         rotate_left
                         · simp only [Act.put, List.setIfInBounds_toArray, List.set_cons_zero, List.set_cons_succ]
                           rfl)
                      | (refine rg_take (v := undef) (a' := ?_) (by simp only [Nat.reduceAdd]; rfl) (by simp only [List.getElem?_toArray, List.getElem?_cons_succ, List.getElem?_cons_zero]; rfl) (by first | (dsimp only; done) | (dsimp only; rfl)) HT HB (by kernel_rfl) (by exact fun _ _ _ h => h) (Or.inr ⟨by rfl, rfl⟩) HS ?_ ?_
                         rotate_left
                         · simp only [Act.put, List.setIfInBounds_toArray, List.set_cons_zero, List.set_cons_succ]
                           rfl))
                    refine rg_one (by simp only [Nat.reduceAdd]; rfl) (by simp only [List.getElem?_toArray, List.getElem?_cons_succ, List.getElem?_cons_zero]; rfl) (by first | (dsimp only; done) | (dsimp only; rfl)) HT (by kernel_rfl) (by simp) (fun K hK => ?_)
                    refine goes_ Tryz.func109 (by kernel_rfl) rfl #[.string nm] (by rfl) rfl (by rfl) (by simp only [List.map_toArray, List.map_cons, List.map_nil]; rfl) ?_
                    refine (HNn.out _).mono ?_; rintro e w2 ⟨rfl, hd⟩
                    refine ⟨_, rfl, ?_⟩
                    refine hK.out _ _ (SB2.out _ _ HS.out hd) (fun hH => ?_)
                    clear hK K HS hd
                    have HS := Aside0.mk hH
                    clear hH
                    simp only [Act.put, List.setIfInBounds_toArray, List.set_cons_zero, List.set_cons_succ]
                    repeat (first
                      | (refine rg_take (v := ?_) (a' := ?_) (by simp only [Nat.reduceAdd]; rfl) (by simp only [List.getElem?_toArray, List.getElem?_cons_succ, List.getElem?_cons_zero]; rfl) (by first | (dsimp only; done) | (dsimp only; rfl)) HT HB (by kernel_rfl) (by exact fun _ _ _ h => h) (Or.inl ⟨by rfl, ?_⟩) HS ?_ ?_
                         rotate_left
                         · rintro w' ⟨s5, s0, s1, s2, s3, s4, -, -, -⟩
                           go_simp
                           with_reducible rfl
                         rotate_left
                         · simp only [Act.put, List.setIfInBounds_toArray, List.set_cons_zero, List.set_cons_succ]
                           rfl)
                      | (refine rg_take (v := undef) (a' := ?_) (by simp only [Nat.reduceAdd]; rfl) (by simp only [List.getElem?_toArray, List.getElem?_cons_succ, List.getElem?_cons_zero]; rfl) (by first | (dsimp only; done) | (dsimp only; rfl)) HT HB (by kernel_rfl) (by exact fun _ _ _ h => h) (Or.inr ⟨by rfl, rfl⟩) HS ?_ ?_
                         rotate_left
                         · simp only [Act.put, List.setIfInBounds_toArray, List.set_cons_zero, List.set_cons_succ]
                           rfl))
                    refine rg_one (by simp only [Nat.reduceAdd]; rfl) (by simp only [List.getElem?_toArray, List.getElem?_cons_succ, List.getElem?_cons_zero]; rfl) (by first | (dsimp only; done) | (dsimp only; rfl)) HT (by kernel_rfl) (by simp) (fun K hK => ?_)
                    refine goes_ Tryz.func197 (by kernel_rfl) rfl #[.agg #[.slice A0 ns.length c0, .int .i64 room], .int .i64 nd] (by rfl) rfl (by rfl) (by simp only [List.map_toArray, List.map_cons, List.map_nil]; rfl) ?_
                    refine (HI.out _ nd (by obtain ⟨-, -, -, -, -, -, ha, -, -⟩ := HS.out; exact ha.out)).mono ?_; rintro e w2 ⟨rfl, hd⟩
                    refine ⟨_, rfl, ?_⟩
                    refine hK.out _ _ (SB2.out _ _ HS.out hd) (fun hH => ?_)
                    clear hK K HS hd
                    have HS := Aside0.mk hH
                    clear hH
                    simp only [Act.put, List.setIfInBounds_toArray, List.set_cons_zero, List.set_cons_succ]
                    repeat (first
                      | (refine rg_take (v := ?_) (a' := ?_) (by simp only [Nat.reduceAdd]; rfl) (by simp only [List.getElem?_toArray, List.getElem?_cons_succ, List.getElem?_cons_zero]; rfl) (by first | (dsimp only; done) | (dsimp only; rfl)) HT HB (by kernel_rfl) (by exact fun _ _ _ h => h) (Or.inl ⟨by rfl, ?_⟩) HS ?_ ?_
                         rotate_left
                         · rintro w' ⟨s5, s0, s1, s2, s3, s4, -, -, -⟩
                           go_simp
                           with_reducible rfl
                         rotate_left
                         · simp only [Act.put, List.setIfInBounds_toArray, List.set_cons_zero, List.set_cons_succ]
                           rfl)
                      | (refine rg_take (v := undef) (a' := ?_) (by simp only [Nat.reduceAdd]; rfl) (by simp only [List.getElem?_toArray, List.getElem?_cons_succ, List.getElem?_cons_zero]; rfl) (by first | (dsimp only; done) | (dsimp only; rfl)) HT HB (by kernel_rfl) (by exact fun _ _ _ h => h) (Or.inr ⟨by rfl, rfl⟩) HS ?_ ?_
                         rotate_left
                         · simp only [Act.put, List.setIfInBounds_toArray, List.set_cons_zero, List.set_cons_succ]
                           rfl))
                    refine done_ (done_of HT.out (by kernel_rfl)) ?_
                    clear had
                    go_wp2_with fail
                    go_meet
                    case rel =>
                      obtain ⟨-, -, -, -, -, -, ha, hb2, hb3⟩ := HS.out
                      exact ⟨by rw [HENT.out, B1.out, UP.out]; simp, ha, hb2, hb3⟩
            case rest =>
              obtain ⟨rfl, HB6, B26, B36⟩ := hcut
              cases be : entB ns l i with
              | false =>
                have HE1 : Aside0 (entsB ns l (i + 1) = false) := ⟨by rw [HSTEP.out, be, Bool.and_false]⟩
                have HN3 : Aside0 (nodeB ns x = false) := ⟨by rw [HN2.out, entsB_false HE1.out (by omega), Bool.false_and]⟩
                clear be
                go_wp2_with fail
                go_ret
                exact ⟨by rw [HN3.out]; rfl, HB6.out⟩
              | true =>
                have HE1 : Aside0 (entsB ns l (i + 1) = true) := ⟨by rw [HSTEP.out, be, HE.out]; rfl⟩
                clear be
                have hw1 : wrap64 ((i : Int) + 1) = ((i + 1 : Nat) : Int) := wrap_up hlt HL1.out
                go_wp2_with fail
                go_roundw
                case rel => exact ⟨i + 1, by omega, by first | rfl | go_num, HE1, HB6, B26, B36⟩
                case measure =>
                  exact meas_up hlt hw1
end Go.Proofs.YtfohpboikknknaaGreatDoor.Q
