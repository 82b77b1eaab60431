/- Texts of this claim, merged by a program (wip/tools/merge.py): HIGood, HIGoodF, Q73, HTreeOf, HGoodF, HNdMem, HFindDef, HFindOk, HWoodDef, HFind, HFindF, HWoodMem, HStep4. -/
import Derived.Test.YtfohpboikknknaaGreatDoorF2
import Derived.Test.YtfohpboikknknaaGreatDoorF3
import Derived.Test.YtfohpboikknknaaGreatDoorF4
import Derived.Test.YtfohpboikknknaaGreatDoorF14
import Derived.Test.YtfohpboikknknaaGreatDoorF15
import Derived.Outline
import Derived.BigQuiet
import Derived.Deep.QuietTactic
import Derived.Deep.RegionHeld3
import Derived.Deep.DeepCutAuto
import Derived.Test.YtfohpboikknknaaGreatDoorF5
import Derived.Test.YtfohpboikknknaaGreatDoorF8
import Derived.Test.YtfohpboikknknaaGreatDoorF13
import Derived.StillTailTactics
namespace Go.Proofs.YtfohpboikknknaaGreatDoor.Q
open Go.RowKit Go.Proofs.YtfohpboikknknaaGreatDoorW.PrintWords Go.Proofs.YtfohpboikknknaaGreatDoorW.PrintLast Go.Proofs.YtfohpboikknknaaGreatDoorW.PrintMore
attribute [local go_sem] max2_int min2_int max_two min_two max_three min_three max_four min_four
set_option linter.unusedVariables false
set_option linter.unusedSimpArgs false
def GPost (ns : List Nd) (room : Int) (w : World) (e : Ending) (w' : World) : Prop := ∃ b, e = .returned (.bool b) ∧ (b = true ↔ IGood ns room) ∧ Below w.heap.size w w'
theorem GPost.no {ns : List Nd} {room : Int} {w w' : World} (h : IGood ns room → False) (hb : Below w.heap.size w w') : GPost ns room w (.returned (.bool false)) w' := ⟨false, rfl, ⟨fun h => (Bool.false_ne_true h).elim, fun k => (h k).elim⟩, hb⟩
theorem GPost.yes {ns : List Nd} {room : Int} {w w' : World} (h : IGood ns room) (hb : Below w.heap.size w w') : GPost ns room w (.returned (.bool true)) w' := ⟨true, rfl, ⟨fun _ => h, fun _ => rfl⟩, hb⟩
theorem meas_upG {i n : Nat} {z : Int} (h : i < n) (hz : z = ((i + 1 : Nat) : Int)) : n - (intOf (Value.int .i64 z)).toNat < n - (intOf (Value.int .i64 (i : Int))).toNat := by subst hz; show n - (((i + 1 : Nat) : Int)).toNat < n - ((i : Int)).toNat; omega
def LinkAt (ns : List Nd) (y : Int) : Prop := freeN ns y = false → if y = 0 then (tgts ns).count y = 0 else 1 ≤ (tgts ns).count y ∧ (dirN ns y = true → (tgts ns).count y ≤ 1)
theorem boolInfo : (Tryz.prog.info? 4).map (fun i => (i.zero, i.size, i.bytes)) = some (some (.bool false), 1, 1) := by kernel_rfl
theorem intInfo3 : (Tryz.prog.info? 3).map (fun i => (i.zero, i.size, i.bytes)) = some (some (.int .i64 0), 1, 8) := by kernel_rfl
theorem inB_false {lo hi n : Int} (h : inB lo hi n = false) (h1 : lo ≤ n) (h2 : n ≤ hi) : False := Bool.false_ne_true (h.symm.trans ((inB_iff _ _ _).mpr ⟨h1, h2⟩))
theorem tgts_len {ns : List Nd} (h : FsFit ns) : (tgts ns).length ≤ 1048576 * ns.length := by
  have k : ∀ l : List Nd, (∀ x, x ∈ l → x.f6.length ≤ 1048576) → (tgts l).length ≤ 1048576 * l.length := by
    intro l
    induction l with
    | nil => intro _; simp [tgts]
    | cons a l ih =>
      intro hl
      have h1 := ih (fun x hx => hl x (List.mem_cons_of_mem _ hx))
      have h2 := hl a (by simp)
      rw [show tgts (a :: l) = a.f6.map (·.f1) ++ tgts l from rfl, List.length_append, List.length_map, List.length_cons]
      omega
  exact k ns h.list
theorem keepG {w W : World} {a b : Addr} {u v : Value} (h1 : w.cell? a = some u) (h2 : w.cell? b = some v) (hb : Below w.heap.size w W) : W.cell? a = some u ∧ W.cell? b = some v :=
  ⟨(hb.cell (World.block_lt_of_cell? _ _ h1)).trans h1, (hb.cell (World.block_lt_of_cell? _ _ h2)).trans h2⟩
theorem own_shape {α : Type} {d : Kd α} {e base : Nat} {ok : Nat → Prop} {w : World} {v : Value} {xs : List α} (h : Kd.R d e w base ok v xs) (hx : 0 < xs.length) : ∃ g c, v = .slice (some ⟨g, 0, none⟩) xs.length c ∧ ok g ∧ g < w.heap.size ∧ base ≤ g := by
  obtain ⟨inner, ho⟩ := Kd.R_own h
  rcases ho.2 with ⟨_, h0⟩ | ⟨g, cap, cur, rfl, hg, hh, r⟩
  · omega
  · exact ⟨g, cap, rfl, h.1 g rfl, blk_lt hh, hg⟩
def hasL (l : List Int) (y : Int) : Bool := l.any (· == y)
def metL (l : List Int) (n : Nat) : List Bool := (List.range n).map (fun (t : Nat) => hasL l (t : Int))
theorem metL_len (l : List Int) (n : Nat) : (metL l n).length = n := by simp [metL]
theorem metL_nil (n : Nat) : List.replicate n false = metL [] n := by
  apply List.ext_getElem
  · simp [metL]
  · intro i h1 h2; simp [metL, hasL]
theorem metL_rd (l : List Int) (n : Nat) (z : Int) (h0 : 0 ≤ z) (h1 : z < n) : rdOf false (metL l n) z = hasL l z := by
  obtain ⟨m, rfl⟩ := Int.eq_ofNat_of_zero_le h0
  unfold rdOf metL
  rw [List.getD_eq_getElem?_getD, List.getElem?_map, List.getElem?_range (by omega : (m : Int).toNat < n)]
  simp
theorem metL_set (l : List Int) (n : Nat) (z : Int) (h0 : 0 ≤ z) (h1 : z < n) : (metL l n).set z.toNat true = metL (l ++ [z]) n := by
  obtain ⟨m, rfl⟩ := Int.eq_ofNat_of_zero_le h0
  apply List.ext_getElem
  · simp [metL]
  · intro i h2 h3
    rw [List.getElem_set]
    by_cases hi : (m : Int).toNat = i
    · have hm : m = i := by omega
      subst hm
      rw [if_pos hi]; simp [metL, hasL]
    · rw [if_neg hi]
      have : ((m : Int) == (i : Int)) = false := by simp; omega
      simp [metL, hasL, this]
theorem hasL_iff (l : List Int) (y : Int) : hasL l y = true ↔ y ∈ l := by unfold hasL; simp [List.any_eq_true]
set_option maxHeartbeats 8000000 in
set_option maxRecDepth 100000 in
theorem goodFs_walk (ns : List Nd) (A0 : Option Addr) (c0 : Nat) (room : Int) (w : World) (hr0 : Kd.C k85 w A0 ns.length ns) (hc0 : ns.length ≤ c0) (hfit : FsFit ns) :
    Calls Tryz.prog 127 #[.agg #[.slice A0 ns.length c0, .int .i64 room]] w fun e w' => GPost ns room w e w' := by
  have hu1 := Tryz.underlying34
  have hu2 := Tryz.underlying85
  have hu3 := Tryz.underlying144
  obtain ⟨kb, hkb⟩ := (bytesIn_ev ns room hfit).rounds
  have HBy := Aside0.mk (fun W (hb : Below w.heap.size w W) => impl_Fs_bytesIn.calls kb A0 c0 ns room _ W (Kd.C_below hr0 hb) hc0 hkb)
  have HI1 := Aside0.mk (fun W => impl_within.calls (ns.length : Int) 1 40 _ W (within_f _ 1 40))
  have HI2 := Aside0.mk (fun W => impl_isRoom.calls room _ W (isRoom_f _))
  have HR0 := Aside0.mk hr0
  have HC0 := Aside0.mk hc0
  have HFIT := Aside0.mk hfit
  clear hr0 hc0 hfit hkb
  go_enter Tryz.func127, Tryz.ntmps127
  go_upto_region 1 with (fail)
  obtain ⟨W, hW⟩ : ∃ W, W = w.alloc (.cells #[.slice A0 ns.length c0, .int .i64 room] 34 (0, 0)) := ⟨_, rfl⟩
  have HB : Aside0 (Below w.heap.size w W) := ⟨by rw [hW]; exact below_alloc (Below.refl _ _) _⟩
  have BK2 : Aside0 (W.heap[w.heap.size]? = some (.cells #[.slice A0 ns.length c0, .int .i64 room] 34 (0, 0))) := ⟨by rw [hW]; exact blk_new w _⟩
  rw [← hW]
  obtain ⟨g2, hg2⟩ : ∃ g, g = w.heap.size := ⟨_, rfl⟩
  rw [← hg2] at BK2
  rw [← hg2]
  have HG2 := Aside0.mk hg2
  clear hW hg2
  have h20 : W.cell? ⟨g2, 0, none⟩ = some (.slice A0 ns.length c0) := (blk_cell BK2.out 0).trans rfl
  have h21 : W.cell? ⟨g2, 1, none⟩ = some (.int .i64 room) := (blk_cell BK2.out 1).trans rfl
  cases b1 : inB 1 40 (ns.length : Int) with
  | false =>
    have B1 := Aside0.mk b1
    rw [b1] at HI1
    clear b1
    go_wp2_with fail
    refine (HI1.out _).mono ?_; rintro e W1 ⟨rfl, ⟨n1, rfl⟩⟩
    go_wp2
    go_ret
    exact GPost.no (fun h => by have h1 := h.len; have := (inB_iff 1 40 (ns.length : Int)).mpr ⟨by omega, by omega⟩; rw [B1.out] at this; exact Bool.false_ne_true this) (pw_below_drewN HB.out _)
  | true =>
    have hlen := (inB_iff _ _ _).mp b1
    have HLEN : Aside0 (1 ≤ ns.length ∧ ns.length ≤ 40) := ⟨by omega, by omega⟩
    rw [b1] at HI1
    clear b1
    cases b2 : inB 0 1000 room with
    | false =>
      have B2 := Aside0.mk b2
      rw [b2] at HI2
      clear b2 hlen
      go_wp2_with fail
      refine (HI1.out _).mono ?_; rintro e W1 ⟨rfl, ⟨n1, rfl⟩⟩
      go_wp2_with fail
      refine (HI2.out _).mono ?_; rintro e W2 ⟨rfl, ⟨n2, rfl⟩⟩
      go_wp2
      go_ret
      exact GPost.no (fun h => by have h1 := h.inRoom; rw [B2.out] at h1; exact Bool.false_ne_true h1) (pw_below_drewN HB.out _)
    | true =>
      have B2 := Aside0.mk b2
      rw [b2] at HI2
      clear b2
      obtain ⟨ad, A6, c6, had, e0, e1, e2, e3, e4, e5, e6, hc6, hC6⟩ := at_T85 HR0.out 0 (by omega) (by omega)
      subst had
      obtain ⟨top, htop⟩ : ∃ t, t = (rd_T85 ns 0).f0 := ⟨_, rfl⟩
      rw [← htop] at e0
      have HT0 : Aside0 ((ndR ns 0).f0 = top) := ⟨htop.symm⟩
      clear htop
      have h30 : W.cell? ad = some (.int .i64 top) := (HB.out.cell (World.block_lt_of_cell? w _ e0)).trans (by simpa using e0)
      have p1 : ((0 : Int) < (ns.length : Int)) = True := eq_true (by omega)
      have p2 : (0 < ns.length) = True := eq_true (by omega)
      clear e0 e1 e2 e3 e4 e5 e6 hc6 hC6 hlen
      by_cases ht : top = 2
      case neg =>
        have HTP := Aside0.mk ht
        have q3 : (top != 2) = true := by simpa using ht
        have q4 : (top == 2) = false := by simpa using ht
        clear ht
        go_wp2_with fail
        refine (HI1.out _).mono ?_; rintro e W1 ⟨rfl, ⟨n1, rfl⟩⟩
        go_wp2_with fail
        refine (HI2.out _).mono ?_; rintro e W2 ⟨rfl, ⟨n2, rfl⟩⟩
        go_wp2
        go_ret
        exact GPost.no (fun h => by exact HTP.out (HT0.out.symm.trans h.top)) (pw_below_drewN HB.out _)
      case pos =>
        have HTP := Aside0.mk ht
        have q3 : (top != 2) = false := by simpa using ht
        have q4 : (top == 2) = true := by simpa using ht
        clear ht
        go_wp2_with fail
        refine (HI1.out _).mono ?_; rintro e W1 ⟨rfl, ⟨n1, rfl⟩⟩
        go_wp2_with fail
        refine (HI2.out _).mono ?_; rintro e W2 ⟨rfl, ⟨n2, rfl⟩⟩
        have HBx : Aside0 (Below w.heap.size w (W.drewN (n1 + n2))) := ⟨pw_below_drewN HB.out _⟩
        have BKx : Aside0 ((W.drewN (n1 + n2)).heap[g2]? = some (.cells #[.slice (some ad) ns.length c0, .int .i64 room] 34 (0, 0))) := ⟨blk_drewN BK2.out _⟩
        clear HB BK2 HI1 HI2
        go_wp2
        clear p1 p2
        go_loopw [38] (fun iv wr => ∃ i : Nat, i ≤ ns.length ∧ iv = .int .i64 (i : Int) ∧ Aside0 (∀ j, j < i → nodeB ns (ndR ns (j : Int)) = true) ∧ Aside0 (Below w.heap.size w wr) ∧ Aside0 (wr.heap[g2]? = some (.cells #[.slice (some ad) ns.length c0, .int .i64 room] 34 (0, 0)))) (fun iv _ => ns.length - (intOf iv).toNat)
        case atStart => exact ⟨0, Nat.zero_le _, rfl, ⟨fun j h => absurd h (Nat.not_lt_zero _)⟩, HBx, BKx⟩
        case round =>
          clear h20 h21 h30 HBx BKx
          obtain ⟨i, hi, rfl, HN, HB, BK⟩ := hrel
          by_cases hlt : i < ns.length
          case pos =>
            have HLT := Aside0.mk hlt
            have p9 : decide ((i : Int) < (ns.length : Int)) = true := decide_eq_true (by omega)
            have p8 : ((i : Int) < (ns.length : Int)) = True := eq_true (by omega)
            have p7 : ((0 : Int) ≤ (i : Int)) = True := eq_true (by omega)
            obtain ⟨bd, B6, d6, hbd, e0, e1, e2, e3, e4, e5, e6, hd6, hC6⟩ := at_T85 (Kd.C_below HR0.out HB.out) (i : Int) (by omega) (by omega)
            cases hbd
            rw [Int.toNat_natCast] at e0 e1 e2 e3 e4 e5 e6
            obtain ⟨x, hx⟩ : ∃ x, x = rd_T85 ns (i : Int) := ⟨_, rfl⟩
            rw [← hx] at e0 e1 e2 e3 e4 e5 e6 hd6 hC6
            have HXM : Aside0 (x ∈ ns) := ⟨by rw [hx, rdNd ns i hlt]; exact List.getElem_mem hlt⟩
            have HX := Aside0.mk (show ndR ns (i : Int) = x from hx.symm)
            have BKw := BK.out
            have hw1 : IntKind.i64.wrap ((i : Int) + 1) = ((i + 1 : Nat) : Int) := wrap_upM hlt (by have := HLEN.out; omega)
            have HW1 := Aside0.mk hw1
            have HD6 := Aside0.mk hd6
            have HNd := Aside0.mk (fun W (hb : Below w.heap.size w W) (hb2 : Below wr.heap.size wr W) => isNode_walk ns (some ad) c0 room x.f0 x.f1 x.f2 x.f3 x.f4 x.f5 B6 d6 x.f6 W (Kd.C_below HR0.out hb) HC0.out (Kd.C_below hC6 hb2) hd6 (by have := HLEN.out; omega) (by have := HFIT.out.list x HXM.out; omega))
            clear hx hlt hi hd6 hC6
            go_upto_region 6 with (fail)
            have hb5 : Below wr.heap.size wr (wr.alloc (.cells #[.int .i64 x.f0, .int .i64 x.f1, .int .i64 x.f2, .int .i64 x.f3, .int .i64 x.f4, .string x.f5, .slice B6 x.f6.length d6] 85 (0, 0))) := below_alloc (Below.refl _ _) _
            have bk6 := blk_new wr (.cells #[.int .i64 x.f0, .int .i64 x.f1, .int .i64 x.f2, .int .i64 x.f3, .int .i64 x.f4, .string x.f5, .slice B6 x.f6.length d6] 85 (0, 0))
            obtain ⟨g6, hg6⟩ : ∃ g, g = wr.heap.size := ⟨_, rfl⟩
            obtain ⟨W5, hW5⟩ : ∃ W, W = wr.alloc (.cells #[.int .i64 x.f0, .int .i64 x.f1, .int .i64 x.f2, .int .i64 x.f3, .int .i64 x.f4, .string x.f5, .slice B6 x.f6.length d6] 85 (0, 0)) := ⟨_, rfl⟩
            rw [← hW5] at hb5 bk6
            rw [← hg6] at bk6
            rw [← hW5, ← hg6]
            have BK5 := Aside0.mk ((hb5.block _ (blk_lt BKw)).trans BKw)
            have HB5 := Aside0.mk (below_step HB.out hb5)
            have BK65 := Aside0.mk bk6
            have HCALL := Aside0.mk (HNd.out W5 HB5.out hb5)
            have h60 : W5.cell? ⟨g6, 0, none⟩ = some (.int .i64 x.f0) := (blk_cell bk6 0).trans rfl
            have h61 : W5.cell? ⟨g6, 1, none⟩ = some (.int .i64 x.f1) := (blk_cell bk6 1).trans rfl
            have h62 : W5.cell? ⟨g6, 2, none⟩ = some (.int .i64 x.f2) := (blk_cell bk6 2).trans rfl
            have h63 : W5.cell? ⟨g6, 3, none⟩ = some (.int .i64 x.f3) := (blk_cell bk6 3).trans rfl
            have h64 : W5.cell? ⟨g6, 4, none⟩ = some (.int .i64 x.f4) := (blk_cell bk6 4).trans rfl
            have h65 : W5.cell? ⟨g6, 5, none⟩ = some (.string x.f5) := (blk_cell bk6 5).trans rfl
            have h66 : W5.cell? ⟨g6, 6, none⟩ = some (.slice B6 x.f6.length d6) := (blk_cell bk6 6).trans rfl
            have h20 : W5.cell? ⟨g2, 0, none⟩ = some (.slice (some ad) ns.length c0) := (blk_cell BK5.out 0).trans rfl
            have h21 : W5.cell? ⟨g2, 1, none⟩ = some (.int .i64 room) := (blk_cell BK5.out 1).trans rfl
            clear hb5 bk6 hW5 hg6 HB BK BKw HNd e0 e1 e2 e3 e4 e5 e6 BK65
            go_wp2_with fail
            refine (HCALL.out).mono ?_; rintro e w2 ⟨rfl, hd⟩
            have HB6 := Aside0.mk (below_step HB5.out hd)
            have BK6 := Aside0.mk ((hd.block _ (blk_lt BK5.out)).trans BK5.out)
            clear hd h60 h61 h62 h63 h64 h65 h66 h20 h21 HCALL BK5 HB5
            cases hs : nodeB ns x with
            | false =>
              have HS0 := Aside0.mk hs
              clear hs
              go_wp2
              go_ret
              exact GPost.no (fun h => by have h1 := h.node x HXM.out; rw [HS0.out] at h1; exact Bool.false_ne_true h1) HB6.out
            | true =>
              have HS0 := Aside0.mk hs
              clear hs
              go_wp2
              go_roundw
              case rel => exact ⟨i + 1, HLT.out, by first | rfl | go_num, ⟨fun j hj => by rcases Nat.lt_succ_iff_lt_or_eq.mp hj with h | rfl; exact HN.out j h; rw [HX.out]; exact HS0.out⟩, HB6, BK6⟩
              case measure => exact meas_upG HLT.out (by first | rfl | (rw [← i64_w]; exact HW1.out) | exact HW1.out)
          case neg =>
            have hil : i = ns.length := by omega
            subst hil
            have p9 : decide ((ns.length : Int) < (ns.length : Int)) = false := by simp
            clear hlt hi
            have HNI : Aside0 (∀ x, x ∈ ns → nodeB ns x = true) := ⟨fun x hx => by
              obtain ⟨j, hj, rfl⟩ := List.getElem_of_mem hx
              have := HN.out j hj
              rwa [show ndR ns (j : Int) = ns[j] from rdNd ns j hj] at this⟩
            have HSC : Aside0 (∀ x, x ∈ allN ns.length → ∀ y, y ∈ scN ns x → y ∈ allN ns.length) := ⟨fun x _ y hy => (good_sc HNI.out x y hy).1⟩
            clear HN
            have h20 : wr.cell? ⟨g2, 0, none⟩ = some (.slice (some ad) ns.length c0) := (blk_cell BK.out 0).trans rfl
            have h21 : wr.cell? ⟨g2, 1, none⟩ = some (.int .i64 room) := (blk_cell BK.out 1).trans rfl
            by_cases hs : room < sumB ns
            case pos =>
              have HSM := Aside0.mk hs
              have q1 : decide (room < sumB ns) = true := decide_eq_true hs
              have q2 : (room < sumB ns) = True := eq_true hs
              clear hs
              go_wp2_with fail
              go_region_held3 (fun W => W.cell? ⟨g2, 0, none⟩ = some (.slice (some ad) ns.length c0) ∧ W.cell? ⟨g2, 1, none⟩ = some (.int .i64 room)) (first | exact ⟨h20, h21⟩ | exact keepG h20 h21 (below_step (below_drew1 (Below.refl _ _)) hd)) (first | (go_at_call 100; refine (HBy.out _ (below_drew1 HB.out)).mono ?_; rintro e w2 ⟨rfl, hd⟩))
              go_wp2
              go_ret
              exact GPost.no (fun h => by have h1 := h.sum; have := HSM.out; omega) (below_step (below_drew1 HB.out) hd)
            case neg =>
              have HSM := Aside0.mk hs
              have q1 : decide (room < sumB ns) = false := decide_eq_false hs
              have q2 : (room < sumB ns) = False := eq_false hs
              clear hs
              obtain ⟨kl, hkl⟩ := (links_ev ns room HFIT.out (fun x hx e he => by
                obtain ⟨j, hj, rfl⟩ := List.getElem_of_mem hx
                have := (good_sc HNI.out (j : Int) e.f1 (by unfold scN; rw [show ndR ns (j : Int) = ns[j] from rdNd ns j hj]; exact List.mem_map.mpr ⟨e, he, rfl⟩)).1
                exact (allN_mem _ _).mp this)).rounds
              have HLk := Aside0.mk (fun W (hb : Below w.heap.size w W) => impl_Fs_links.calls kl (some ad) c0 ns room _ W (Kd.C_below HR0.out hb) HC0.out hkl)
              clear hkl
              go_wp2_with fail
              go_region_held3 (fun W => W.cell? ⟨g2, 0, none⟩ = some (.slice (some ad) ns.length c0) ∧ W.cell? ⟨g2, 1, none⟩ = some (.int .i64 room)) (first | exact ⟨h20, h21⟩ | exact keepG h20 h21 (below_step (below_drew1 (Below.refl _ _)) hd)) (first | (go_at_call 100; refine (HBy.out _ (below_drew1 HB.out)).mono ?_; rintro e w2 ⟨rfl, hd⟩))
              have HB3 := Aside0.mk (below_step (below_drew1 HB.out) hd)
              have BK3 : Aside0 (w2.heap[g2]? = some (.cells #[.slice (some ad) ns.length c0, .int .i64 room] 34 (0, 0))) := ⟨(hd.block _ (blk_lt (blk_drew BK.out))).trans (blk_drew BK.out)⟩
              clear hd h20 h21 HB BK HBy q1 q2 p9
              have h20 : w2.cell? ⟨g2, 0, none⟩ = some (.slice (some ad) ns.length c0) := (blk_cell BK3.out 0).trans rfl
              have h21 : w2.cell? ⟨g2, 1, none⟩ = some (.int .i64 room) := (blk_cell BK3.out 1).trans rfl
              go_wp2_with fail
              refine (HLk.out _ HB3.out).mono ?_; rintro e w3 ⟨v5, rfl, ho5, hd⟩
              obtain ⟨A5, c5, rfl⟩ := Kd.R_slice ho5
              rw [linksL_len] at ho5 ⊢
              have HMC := Aside0.mk (Kd.R_reads' ho5)
              have HB4 := Aside0.mk (below_step HB3.out hd)
              have BK4 : Aside0 (w3.heap[g2]? = some (.cells #[.slice (some ad) ns.length c0, .int .i64 room] 34 (0, 0))) := ⟨(hd.block _ (blk_lt BK3.out)).trans BK3.out⟩
              clear hd ho5 h20 h21 HB3 BK3 HLk
              have h20 : w3.cell? ⟨g2, 0, none⟩ = some (.slice (some ad) ns.length c0) := (blk_cell BK4.out 0).trans rfl
              go_wp2
              go_loopw [57] (fun iv wr => ∃ i : Nat, i ≤ ns.length ∧ iv = .int .i64 (i : Int) ∧ Aside0 (∀ j, j < i → LinkAt ns (j : Int)) ∧ Aside0 (Below w.heap.size w wr) ∧ Aside0 (Below w3.heap.size w3 wr) ∧ Aside0 (wr.heap[g2]? = some (.cells #[.slice (some ad) ns.length c0, .int .i64 room] 34 (0, 0)))) (fun iv _ => ns.length - (intOf iv).toNat)
              case atStart => exact ⟨0, Nat.zero_le _, rfl, ⟨fun j h => absurd h (Nat.not_lt_zero _)⟩, HB4, ⟨Below.refl _ _⟩, BK4⟩
              case round =>
                clear h20 HB4 BK4
                obtain ⟨i, hi, rfl, HN, HB, HBM, BK⟩ := hrel
                by_cases hlt : i < ns.length
                case pos =>
                  have HLT := Aside0.mk hlt
                  have p9 : decide ((i : Int) < (ns.length : Int)) = true := decide_eq_true (by omega)
                  have p8 : ((i : Int) < (ns.length : Int)) = True := eq_true (by omega)
                  have p7 : ((0 : Int) ≤ (i : Int)) = True := eq_true (by omega)
                  obtain ⟨bd, B6, d6, hbd, e0, e1, e2, e3, e4, e5, e6, hd6, hC6⟩ := at_T85 (Kd.C_below HR0.out HB.out) (i : Int) (by omega) (by omega)
                  cases hbd
                  rw [Int.toNat_natCast] at e0 e1 e2 e3 e4 e5 e6
                  obtain ⟨x, hx⟩ : ∃ x, x = rd_T85 ns (i : Int) := ⟨_, rfl⟩
                  rw [← hx] at e0 e1 e2 e3 e4 e5 e6 hd6 hC6
                  have HXM : Aside0 (x ∈ ns) := ⟨by rw [hx, rdNd ns i hlt]; exact List.getElem_mem hlt⟩
                  have HX := Aside0.mk (show ndR ns (i : Int) = x from hx.symm)
                  have BKw := BK.out
                  have hw1 : IntKind.i64.wrap ((i : Int) + 1) = ((i + 1 : Nat) : Int) := wrap_upM hlt (by have := HLEN.out; omega)
                  have HW1 := Aside0.mk hw1
                  have HD6 := Aside0.mk hd6
                  obtain ⟨cd, hcd, hlc⟩ := Kd.at_int (Kd.C_below HMC.out.2.2 HBM.out) (i : Int) (by omega) (by rw [linksL_len]; omega)
                  rw [linksL_rd _ _ _ (by omega) (by omega)] at hlc
                  subst hcd
                  obtain ⟨cn, hcn⟩ : ∃ c : Nat, c = (tgts ns).count (i : Int) := ⟨_, rfl⟩
                  rw [← hcn] at hlc
                  have HCN := Aside0.mk hcn
                  have HPOS : Aside0 (0 ≤ (i : Int)) := ⟨by omega⟩
                  have HCB : Aside0 (cn ≤ 1152921504606846976) := ⟨by have h1 := count_len (tgts ns) (i : Int); have h2 := tgts_len HFIT.out; have := HLEN.out; omega⟩
                  have HLC := Aside0.mk hlc
                  have HWi := Aside0.mk (fun (lo hi : Int) W => impl_within.calls (cn : Int) lo hi _ W (within_f _ lo hi))
                  clear hcn hlc
                  clear hx hlt hi hd6 hC6
                  go_upto_region 15 with (fail)
                  have hb5 : Below wr.heap.size wr (wr.alloc (.cells #[.int .i64 x.f0, .int .i64 x.f1, .int .i64 x.f2, .int .i64 x.f3, .int .i64 x.f4, .string x.f5, .slice B6 x.f6.length d6] 85 (0, 0))) := below_alloc (Below.refl _ _) _
                  have bk6 := blk_new wr (.cells #[.int .i64 x.f0, .int .i64 x.f1, .int .i64 x.f2, .int .i64 x.f3, .int .i64 x.f4, .string x.f5, .slice B6 x.f6.length d6] 85 (0, 0))
                  obtain ⟨g6, hg6⟩ : ∃ g, g = wr.heap.size := ⟨_, rfl⟩
                  obtain ⟨W5, hW5⟩ : ∃ W, W = wr.alloc (.cells #[.int .i64 x.f0, .int .i64 x.f1, .int .i64 x.f2, .int .i64 x.f3, .int .i64 x.f4, .string x.f5, .slice B6 x.f6.length d6] 85 (0, 0)) := ⟨_, rfl⟩
                  rw [← hW5] at hb5 bk6
                  rw [← hg6] at bk6
                  rw [← hW5, ← hg6]
                  have BK5 := Aside0.mk ((hb5.block _ (blk_lt BKw)).trans BKw)
                  have HB5 := Aside0.mk (below_step HB.out hb5)
                  have BK65 := Aside0.mk bk6
                  have HBM5 := Aside0.mk (below_step HBM.out hb5)
                  obtain ⟨lo, hlo⟩ : ∃ lo : Int, lo = (if (1 : Int) < (i : Int) then 1 else (i : Int)) := ⟨_, rfl⟩
                  have HLO : Aside0 ((1 < i ∧ lo = 1) ∨ (i ≤ 1 ∧ lo = (i : Int))) := ⟨by rw [hlo]; by_cases h : 1 < i; exact .inl ⟨h, if_pos (by omega)⟩; exact .inr ⟨by omega, if_neg (by omega)⟩⟩
                  have mn1 := hlo.symm
                  have mn2 : (if 1 < i then (1 : Int) else (i : Int)) = lo := by rw [hlo]; by_cases h : 1 < i; rw [if_pos h, if_pos (by omega)]; rw [if_neg h, if_neg (by omega)]
                  clear hlo
                  have hlc : W5.cell? (cd.add i) = some (.int .i64 (cn : Int)) := by simpa only [Int.toNat_natCast] using (hb5.cell (World.block_lt_of_cell? _ _ HLC.out)).trans HLC.out
                  have h60 : W5.cell? ⟨g6, 0, none⟩ = some (.int .i64 x.f0) := (blk_cell bk6 0).trans rfl
                  have h61 : W5.cell? ⟨g6, 1, none⟩ = some (.int .i64 x.f1) := (blk_cell bk6 1).trans rfl
                  have h62 : W5.cell? ⟨g6, 2, none⟩ = some (.int .i64 x.f2) := (blk_cell bk6 2).trans rfl
                  have h63 : W5.cell? ⟨g6, 3, none⟩ = some (.int .i64 x.f3) := (blk_cell bk6 3).trans rfl
                  have h64 : W5.cell? ⟨g6, 4, none⟩ = some (.int .i64 x.f4) := (blk_cell bk6 4).trans rfl
                  have h65 : W5.cell? ⟨g6, 5, none⟩ = some (.string x.f5) := (blk_cell bk6 5).trans rfl
                  have h66 : W5.cell? ⟨g6, 6, none⟩ = some (.slice B6 x.f6.length d6) := (blk_cell bk6 6).trans rfl
                  have h20 : W5.cell? ⟨g2, 0, none⟩ = some (.slice (some ad) ns.length c0) := (blk_cell BK5.out 0).trans rfl
                  have h21 : W5.cell? ⟨g2, 1, none⟩ = some (.int .i64 room) := (blk_cell BK5.out 1).trans rfl
                  clear hb5 bk6 hW5 hg6 HB HBM BK BKw e0 e1 e2 e3 e4 e5 e6 BK65 h61 h62 h63 h64 h65 h66 h20 h21 HLC
                  by_cases hz : i = 0
                  case pos =>
                    have HZ := Aside0.mk hz
                    have z1 : ((i : Int) == 0) = true := by simp [hz]
                    have z2 : (i == 0) = true := by simp [hz]
                    clear hz
                    by_cases k0 : x.f0 = 0
                    case pos =>
                      have HK0 := Aside0.mk k0
                      have q5 : (x.f0 != 0) = false := by simpa using k0
                      have q6 : (x.f0 == 0) = true := by simpa using k0
                      have q7 : (x.f0 == 2) = false := by simp [k0]
                      clear k0
                      go_wp2
                      go_roundw
                      case rel => exact ⟨i + 1, HLT.out, by first | rfl | go_num, ⟨fun j hj => by
                        rcases Nat.lt_succ_iff_lt_or_eq.mp hj with h | rfl
                        · exact HN.out j h
                        · exact fun hf => by unfold freeN at hf; rw [HX.out] at hf; simp [HK0.out] at hf⟩, HB5, HBM5, BK5⟩
                      case measure => exact meas_upG HLT.out (by first | rfl | (rw [← i64_w]; exact HW1.out) | exact HW1.out)
                    case neg =>
                      have HK0 := Aside0.mk k0
                      have q5 : (x.f0 != 0) = true := by simpa using k0
                      have q6 : (x.f0 == 0) = false := by simpa using k0
                      clear k0
                      go_wp2_with fail
                      refine (HWi.out _ _ _).mono ?_; rintro e W8 ⟨rfl, ⟨n8, rfl⟩⟩
                      generalize hb : inB _ _ (cn : Int) = b
                      cases b with
                      | true =>
                        have HBT := Aside0.mk hb
                        clear hb
                        go_wp2
                        go_roundw
                        case rel => exact ⟨i + 1, HLT.out, by first | rfl | go_num, ⟨fun j hj => by
                          rcases Nat.lt_succ_iff_lt_or_eq.mp hj with h | rfl
                          · exact HN.out j h
                          · exact fun _ => by rw [if_pos (by have := HZ.out; have := HLO.out; omega)]; have h1 := HCN.out; have h2 := (inB_iff _ _ _).mp HBT.out; have := HLO.out; omega⟩, ⟨pw_below_drewN HB5.out _⟩, ⟨pw_below_drewN HBM5.out _⟩, ⟨blk_drewN BK5.out _⟩⟩
                        case measure => exact meas_upG HLT.out (by first | rfl | (rw [← i64_w]; exact HW1.out) | exact HW1.out)
                      | false =>
                        have HBF := Aside0.mk hb
                        clear hb
                        go_wp2
                        go_ret
                        exact GPost.no (fun h => by have h1 := h.links (i : Int) ((allN_mem _ _).mpr ⟨HPOS.out, by have := HLT.out; omega⟩) (by unfold freeN; rw [HX.out]; simpa using HK0.out); rw [if_pos (by have := HZ.out; have := HLO.out; omega)] at h1; have := HCN.out; rw [← this] at h1; exact inB_false HBF.out (by have := HZ.out; have := HLO.out; omega) (by have := HZ.out; have := HLO.out; omega)) (pw_below_drewN HB5.out _)
                  case neg =>
                    have HZ := Aside0.mk hz
                    have z1 : ((i : Int) == 0) = false := by simp [hz]
                    have z2 : (i == 0) = false := by simp [hz]
                    clear hz
                    by_cases k2 : x.f0 = 2
                    case pos =>
                      have HK2 := Aside0.mk k2
                      have HK0 : Aside0 (¬ x.f0 = 0) := ⟨by omega⟩
                      have w1 : (x.f0 == 2) = true := by simp [k2]
                      have w2 : (x.f0 != 0) = true := by simp [k2]
                      have w3 : (x.f0 == 0) = false := by simp [k2]
                      clear k2
                      go_wp2_with fail
                      refine (HWi.out _ _ _).mono ?_; rintro e W8 ⟨rfl, ⟨n8, rfl⟩⟩
                      generalize hb : inB _ _ (cn : Int) = b
                      cases b with
                      | true =>
                        have HBT := Aside0.mk hb
                        clear hb
                        go_wp2
                        go_roundw
                        case rel => exact ⟨i + 1, HLT.out, by first | rfl | go_num, ⟨fun j hj => by
                          rcases Nat.lt_succ_iff_lt_or_eq.mp hj with h | rfl
                          · exact HN.out j h
                          · exact fun _ => by rw [if_neg (by have := HZ.out; have := HLO.out; omega)]; have h1 := HCN.out; have h2 := (inB_iff _ _ _).mp HBT.out; have := HZ.out; have := HLO.out; exact ⟨by omega, fun _ => by omega⟩⟩, ⟨pw_below_drewN HB5.out _⟩, ⟨pw_below_drewN HBM5.out _⟩, ⟨blk_drewN BK5.out _⟩⟩
                        case measure => exact meas_upG HLT.out (by first | rfl | (rw [← i64_w]; exact HW1.out) | exact HW1.out)
                      | false =>
                        have HBF := Aside0.mk hb
                        clear hb
                        go_wp2
                        go_ret
                        exact GPost.no (fun h => by have h1 := h.links (i : Int) ((allN_mem _ _).mpr ⟨HPOS.out, by have := HLT.out; omega⟩) (by unfold freeN; rw [HX.out]; simpa using HK0.out); rw [if_neg (by have := HZ.out; have := HLO.out; omega)] at h1; have h4 := h1.2 (by unfold dirN; rw [HX.out]; simpa using HK2.out); have := HCN.out; rw [← this] at h1 h4; exact inB_false HBF.out (by have := HZ.out; have := HLO.out; have := h1.1; omega) (by have := HZ.out; have := HLO.out; have := h1.1; omega)) (pw_below_drewN HB5.out _)
                    case neg =>
                      have HK2 := Aside0.mk k2
                      have w1 : (x.f0 == 2) = false := by simpa using k2
                      clear k2
                      by_cases k0 : x.f0 = 0
                      case pos =>
                        have HK0 := Aside0.mk k0
                        have q5 : (x.f0 != 0) = false := by simpa using k0
                        have q6 : (x.f0 == 0) = true := by simpa using k0
                        clear k0
                        go_wp2
                        go_roundw
                        case rel => exact ⟨i + 1, HLT.out, by first | rfl | go_num, ⟨fun j hj => by
                          rcases Nat.lt_succ_iff_lt_or_eq.mp hj with h | rfl
                          · exact HN.out j h
                          · exact fun hf => by unfold freeN at hf; rw [HX.out] at hf; simp [HK0.out] at hf⟩, HB5, HBM5, BK5⟩
                        case measure => exact meas_upG HLT.out (by first | rfl | (rw [← i64_w]; exact HW1.out) | exact HW1.out)
                      case neg =>
                        have HK0 := Aside0.mk k0
                        have q5 : (x.f0 != 0) = true := by simpa using k0
                        have q6 : (x.f0 == 0) = false := by simpa using k0
                        clear k0
                        go_wp2_with fail
                        refine (HWi.out _ _ _).mono ?_; rintro e W8 ⟨rfl, ⟨n8, rfl⟩⟩
                        generalize hb : inB _ _ (cn : Int) = b
                        cases b with
                        | true =>
                          have HBT := Aside0.mk hb
                          clear hb
                          go_wp2
                          go_roundw
                          case rel => exact ⟨i + 1, HLT.out, by first | rfl | go_num, ⟨fun j hj => by
                            rcases Nat.lt_succ_iff_lt_or_eq.mp hj with h | rfl
                            · exact HN.out j h
                            · exact fun _ => by rw [if_neg (by have := HZ.out; have := HLO.out; omega)]; have h1 := HCN.out; have h2 := (inB_iff _ _ _).mp HBT.out; have := HZ.out; have := HLO.out; exact ⟨by omega, fun hd => absurd (by unfold dirN at hd; rw [HX.out] at hd; simpa using hd) HK2.out⟩⟩, ⟨pw_below_drewN HB5.out _⟩, ⟨pw_below_drewN HBM5.out _⟩, ⟨blk_drewN BK5.out _⟩⟩
                          case measure => exact meas_upG HLT.out (by first | rfl | (rw [← i64_w]; exact HW1.out) | exact HW1.out)
                        | false =>
                          have HBF := Aside0.mk hb
                          clear hb
                          go_wp2
                          go_ret
                          exact GPost.no (fun h => by have h1 := h.links (i : Int) ((allN_mem _ _).mpr ⟨HPOS.out, by have := HLT.out; omega⟩) (by unfold freeN; rw [HX.out]; simpa using HK0.out); rw [if_neg (by have := HZ.out; have := HLO.out; omega)] at h1; have := HCN.out; rw [← this] at h1; have h5 := HCB.out; exact inB_false HBF.out (by have := HZ.out; have := HLO.out; have := h1.1; omega) (by have := HZ.out; have := HLO.out; have := h1.1; omega)) (pw_below_drewN HB5.out _)
                case neg =>
                  have hil : i = ns.length := by omega
                  subst hil
                  have p9 : decide ((ns.length : Int) < (ns.length : Int)) = false := by simp
                  clear hlt hi
                  have HLA : Aside0 (∀ y, y ∈ allN ns.length → LinkAt ns y) := ⟨fun y hy => by
                    obtain ⟨h0, h1⟩ := (allN_mem _ _).mp hy
                    obtain ⟨m, rfl⟩ := Int.eq_ofNat_of_zero_le h0
                    exact HN.out m (by omega)⟩
                  clear HN HBM HMC
                  have h20 : wr.cell? ⟨g2, 0, none⟩ = some (.slice (some ad) ns.length c0) := (blk_cell BK.out 0).trans rfl
                  go_upto_region 24 with (first | ((with_reducible refine gate_dst (N := 87) rfl ?_); refine Kd.R_make Kd.bool _ 4 rfl (N := 87) rfl 170 _ _ rfl (ns.length : Int) rfl rfl Tryz.underlying170 (.bool false) 1 boolInfo rfl (by decide) (by omega) false (ok := fun _ => True) (okp := fun _ => True) rfl (fun _ hk => hk) trivial ?h0 ?hl (Below.refl _ _) (Nat.le_refl _) ?_; (case h0 => omega); (case hl => (have := HLEN.out; simp only [Int.toNat_natCast]; omega)); intro v9 w4 ho9 hb9 hg_ hnew_; clear hg_ hnew_))
                  rw [Int.toNat_natCast, metL_nil] at ho9
                  obtain ⟨gm, cm, rfl, -, hgl, hgb⟩ := own_shape ho9 (by rw [metL_len]; have := HLEN.out; omega)
                  rw [metL_len] at ho9 ⊢
                  have HGM : Aside0 (w.heap.size ≤ gm) := ⟨Nat.le_trans HB.out.size hgb⟩
                  have HGL := Aside0.mk hgl
                  have HNE : Aside0 (g2 ≠ gm) := ⟨by have := blk_lt BK.out; omega⟩
                  have HM4 : Aside0 (Kd.R Kd.bool 4 w4 w.heap.size (fun k => k = gm) (.slice (some ⟨gm, 0, none⟩) ns.length cm) (metL [] ns.length)) := ⟨Kd.R_of_own (Kd.own_of_R (Kd.R_lower ho9 HB.out.size)) (fun k hk => by simp [Value.ownBlock] at hk; exact hk.symm)⟩
                  have HB4 := Aside0.mk (below_step HB.out hb9)
                  have BK4 : Aside0 (w4.heap[g2]? = some (.cells #[.slice (some ad) ns.length c0, .int .i64 room] 34 (0, 0))) := ⟨(hb9.block _ (blk_lt BK.out)).trans BK.out⟩
                  clear ho9 hb9 hgl hgb h20 HB BK p9
                  go_upto_region 25 with (first | ((with_reducible refine gate_dst (N := 88) rfl ?_); refine Kd.R_lit (Kd.int .i64) _ 3 ?hg (N := 88) ?hd (xs := [(0 : Int)]) (inner := [.int .i64 0]) (ok := fun k => k ≠ gm) (okp := fun _ => False) ?hr ?hp (fun _ hk => hk.elim) ?hf (Below.refl _ _) (Nat.le_refl _) (by simp) ?_; (case hd => rfl); (case hg => rfl); (case hr => first | (go_simp; done) | (go_simp; rfl)); (case hp => exact Kd.reps_scalar _); (case hf => (show _ ≠ _; have := HGL.out; omega)); intro v10 w5 ho10 hb10 hg_ hnew_; clear hg_ hnew_))
                  have HQ5 := Aside0.mk (Kd.R_lower ho10 HB4.out.size)
                  have HM5 := Aside0.mk (Kd.R_below HM4.out hb10)
                  have HB5 := Aside0.mk (below_step HB4.out hb10)
                  have BK5 : Aside0 (w5.heap[g2]? = some (.cells #[.slice (some ad) ns.length c0, .int .i64 room] 34 (0, 0))) := ⟨(hb10.block _ (blk_lt BK4.out)).trans BK4.out⟩
                  have HGL5 : Aside0 (gm < w5.heap.size) := ⟨Nat.lt_of_lt_of_le HGL.out hb10.size⟩
                  have HD0 : Aside0 (dirN ns 0 = true) := ⟨by unfold dirN; rw [HT0.out, HTP.out]; rfl⟩
                  clear ho10 hb10 HM4 HB4 BK4 HGL
                  go_wp2
                  go_loopw [10, 11] (fun v10 v11 wr => ∃ (k : Nat) (Q : List Int), v11 = .int .i64 (k : Int) ∧ Aside0 (k ≤ Q.length) ∧ Aside0 (Kd.R (Kd.int .i64) 3 wr w.heap.size (fun j => j ≠ gm) v10 Q) ∧ Aside0 (Kd.R Kd.bool 4 wr w.heap.size (fun j => j = gm) (.slice (some ⟨gm, 0, none⟩) ns.length cm) (metL (Q.take k) ns.length)) ∧ Aside0 (Bfs (scN ns) (dirN ns) (allN ns.length) Q k []) ∧ Aside0 (Below w.heap.size w wr) ∧ Aside0 (wr.heap[g2]? = some (.cells #[.slice (some ad) ns.length c0, .int .i64 room] 34 (0, 0))) ∧ Aside0 (gm < wr.heap.size)) (fun _ v11 _ => ns.length - (intOf v11).toNat)
                  case atStart => exact ⟨0, [0], rfl, ⟨by simp⟩, HQ5, HM5, ⟨Bfs.start _ _ _ HD0.out (zero_all HLEN.out.1)⟩, HB5, BK5, HGL5⟩
                  case round =>
                    clear HQ5 HM5 HB5 BK5 HGL5
                    obtain ⟨k, Q, rfl, HK, HQ, HM, HF, HB, BK, HGL⟩ := hrel
                    have HQN : Aside0 (Q.length ≤ ns.length) := ⟨by have := HF.out.len; rwa [allN_len] at this⟩
                    by_cases hlt : k < Q.length
                    case pos =>
                      obtain ⟨gq, cq, rfl, hgq, -, -⟩ := own_shape HQ.out (by omega)
                      obtain ⟨x, hx⟩ : ∃ x, x = Q[k] := ⟨_, rfl⟩
                      have hxq : Q[k]? = some x := by rw [List.getElem?_eq_getElem hlt, hx]
                      have hqc := (Kd.R_cell (0 : Int) HQ.out (k : Int) (by omega) (by omega)).1
                      rw [show rdOf (0 : Int) Q (k : Int) = x by rw [hx]; unfold rdOf; simp [List.getD_eq_getElem?_getD, hlt], Int.toNat_natCast] at hqc
                      have hxa : x ∈ allN ns.length := (HF.out.from_ x (hx ▸ List.getElem_mem hlt)).2.2
                      obtain ⟨x0, x1⟩ := (allN_mem _ _).mp hxa
                      obtain ⟨hmc, hmf⟩ := Kd.R_celln false HM.out x x0 x1
                      obtain ⟨bd, A6, c6, hbd, e0, e1, e2, e3, e4, e5, e6, hc6, hC6⟩ := at_T85 HR0.out x x0 x1
                      cases hbd
                      have HC6 := Aside0.mk hC6
                      have HXQ := Aside0.mk hxq
                      have HXA := Aside0.mk hxa
                      have HKN : Aside0 (k < ns.length) := ⟨by have := HQN.out; omega⟩
                      have p1 : ((0 : Int) ≤ (k : Int)) = True := eq_true (by omega)
                      have p2 : ((k : Int) < (Q.length : Int)) = True := eq_true (by omega)
                      have p3 : decide ((k : Int) < (Q.length : Int)) = true := decide_eq_true (by omega)
                      have p4 : (0 ≤ x) = True := eq_true x0
                      have p5 : (x < (ns.length : Int)) = True := eq_true x1
                      have hw1 : IntKind.i64.wrap ((k : Int) + 1) = ((k + 1 : Nat) : Int) := wrap_upM HKN.out (by have := HLEN.out; omega)
                      have HW1 := Aside0.mk hw1
                      have HT1 : Aside0 (Q.take (k + 1) = Q.take k ++ [x]) := ⟨by rw [List.take_succ_eq_append_getElem hlt, ← hx]⟩
                      clear hx hxq hxa hlt hC6 hc6 e0 e1 e2 e3 e4 e5
                      go_upto_region 29 with (fail)
                      obtain ⟨W1, hW1⟩ : ∃ V, V = wr.setCell ⟨gm, x.toNat, none⟩ (.bool true) := ⟨_, rfl⟩
                      have HQ1 : Aside0 (Kd.R (Kd.int .i64) 3 W1 w.heap.size (fun j => j ≠ gm) (.slice (some ⟨gq, 0, none⟩) Q.length cq) Q) := ⟨by rw [hW1]; exact Kd.R_far HQ.out (fun j hj => hj) _⟩
                      have HM1 : Aside0 (Kd.R Kd.bool 4 W1 w.heap.size (fun j => j = gm) (.slice (some ⟨gm, 0, none⟩) ns.length cm) (metL (Q.take (k + 1)) ns.length)) := ⟨by rw [hW1, HT1.out, ← metL_set _ _ _ x0 x1]; exact Kd.R_putn HM.out x true⟩
                      have HB1 : Aside0 (Below w.heap.size w W1) := ⟨by rw [hW1]; exact below_set HB.out HGM.out⟩
                      have BK1 : Aside0 (W1.heap[g2]? = some (.cells #[.slice (some ad) ns.length c0, .int .i64 room] 34 (0, 0))) := ⟨by rw [hW1]; exact blk_far BK.out HNE.out _⟩
                      have HGL1 : Aside0 (gm < W1.heap.size) := ⟨by rw [hW1]; have := HGL.out; simpa using this⟩
                      rw [← hW1]
                      clear hW1 HQ HM HB BK HGL hmc hmf hqc
                      have hqc := (Kd.R_cell (0 : Int) HQ1.out (k : Int) (by omega) (by have := HXQ.out; have := (List.getElem?_eq_some_iff.mp this).1; omega)).1
                      rw [show rdOf (0 : Int) Q (k : Int) = x by unfold rdOf; rw [List.getD_eq_getElem?_getD, Int.toNat_natCast, HXQ.out]; rfl, Int.toNat_natCast] at hqc
                      have h20 : W1.cell? ⟨g2, 0, none⟩ = some (.slice (some ad) ns.length c0) := (blk_cell BK1.out 0).trans rfl
                      have h66 := (HB1.out.cell (World.block_lt_of_cell? w _ e6)).trans e6
                      obtain ⟨L, hLL⟩ : ∃ L, L = (rd_T85 ns x).f6 := ⟨_, rfl⟩
                      have hll : L.length ≤ 1048576 := by
                        rw [hLL]
                        rcases ndR_cases ns x with h | h
                        · exact HFIT.out.list _ h
                        · change (rd_T85 ns x).f6 = [] at h; rw [h]; simp
                      rw [← hLL] at h66 HC6
                      have HSX : Aside0 (scN ns x = L.map (·.f1)) := ⟨by rw [hLL]; rfl⟩
                      have HLL := Aside0.mk hll
                      have HQL : Aside0 (k < Q.length) := ⟨(List.getElem?_eq_some_iff.mp HXQ.out).1⟩
                      clear hLL hll e6
                      go_quiet (fail)
                      obtain ⟨W2, hW2⟩ : ∃ V, V = W1.drewN nq := ⟨_, rfl⟩
                      have HQ2 : Aside0 (Kd.R (Kd.int .i64) 3 W2 w.heap.size (fun j => j ≠ gm) (.slice (some ⟨gq, 0, none⟩) Q.length cq) Q) := ⟨by rw [hW2]; exact Kd.R_drewN HQ1.out _⟩
                      have HM2 : Aside0 (Kd.R Kd.bool 4 W2 w.heap.size (fun j => j = gm) (.slice (some ⟨gm, 0, none⟩) ns.length cm) (metL (Q.take (k + 1)) ns.length)) := ⟨by rw [hW2]; exact Kd.R_drewN HM1.out _⟩
                      have HB2 : Aside0 (Below w.heap.size w W2) := ⟨by rw [hW2]; exact pw_below_drewN HB1.out _⟩
                      have BK2 : Aside0 (W2.heap[g2]? = some (.cells #[.slice (some ad) ns.length c0, .int .i64 room] 34 (0, 0))) := ⟨by rw [hW2]; exact blk_drewN BK1.out _⟩
                      have HGL2 : Aside0 (gm < W2.heap.size) := ⟨by rw [hW2]; exact HGL1.out⟩
                      rw [← hW2]
                      clear hW2 HQ1 HM1 HB1 BK1 HGL1 h20 h66 hqc
                      go_wp2
                      clear p1 p2 p3 p4 p5
                      go_loopw [10, 111] (fun v10 v111 wq => ∃ (j : Nat) (Q1 : List Int), v111 = .int .i64 (j : Int) ∧ Aside0 (j ≤ L.length) ∧ Aside0 (Q1[k]? = some x) ∧ Aside0 (Kd.R (Kd.int .i64) 3 wq w.heap.size (fun j => j ≠ gm) v10 Q1) ∧ Aside0 (Kd.R Kd.bool 4 wq w.heap.size (fun j => j = gm) (.slice (some ⟨gm, 0, none⟩) ns.length cm) (metL (Q1.take (k + 1)) ns.length)) ∧ Aside0 (Bfs (scN ns) (dirN ns) (allN ns.length) Q1 k ((L.map (·.f1)).take j)) ∧ Aside0 (Below w.heap.size w wq) ∧ Aside0 (wq.heap[g2]? = some (.cells #[.slice (some ad) ns.length c0, .int .i64 room] 34 (0, 0))) ∧ Aside0 (gm < wq.heap.size)) (fun _ v111 _ => L.length - (intOf v111).toNat)
                      case atStart => exact ⟨0, Q, rfl, ⟨Nat.zero_le _⟩, HXQ, HQ2, HM2, HF, HB2, BK2, HGL2⟩
                      case round =>
                        clear HQ2 HM2 HF HB2 BK2 HGL2 HXQ HT1 HQN HQL HK
                        obtain ⟨j, Q1, rfl, HJ, HXQ, HQ, HM, HF, HB, BK, HGL⟩ := hrel
                        by_cases hlt : j < L.length
                        case neg =>
                          have hjl : j = L.length := by have := HJ.out; omega
                          subst hjl
                          have p9 : decide ((L.length : Int) < (L.length : Int)) = false := by simp
                          have HF2 : Aside0 (Bfs (scN ns) (dirN ns) (allN ns.length) Q1 (k + 1) []) := ⟨by
                            have h := HF.out
                            rw [List.take_of_length_le (by simp), ← HSX.out] at h
                            exact h.next HXQ.out⟩
                          clear hlt HF
                          go_wp2
                          go_roundw
                          case rel => exact ⟨k + 1, Q1, by first | rfl | go_num, ⟨(List.getElem?_eq_some_iff.mp HXQ.out).1⟩, HQ, HM, HF2, HB, BK, HGL⟩
                          case measure => exact meas_upG HKN.out (by first | rfl | (rw [← i64_w]; exact HW1.out) | exact HW1.out)
                        case pos =>
                          have HLT := Aside0.mk hlt
                          have p9 : decide ((j : Int) < (L.length : Int)) = true := decide_eq_true (by omega)
                          have p8 : ((j : Int) < (L.length : Int)) = True := eq_true (by omega)
                          have p7 : ((0 : Int) ≤ (j : Int)) = True := eq_true (by omega)
                          obtain ⟨ed, rfl, hn0, hn1⟩ := at_T144 (Kd.C_below HC6.out HB.out) (j : Int) (by omega) (by omega)
                          rw [Int.toNat_natCast] at hn0 hn1
                          have hLi : rd_T144 L (j : Int) = L[j] := by unfold rd_T144; simp [List.getD, hlt]
                          rw [hLi] at hn0 hn1
                          have hin := HSC.out x HXA.out L[j].f1 (by rw [HSX.out]; exact List.mem_map.mpr ⟨L[j], List.getElem_mem hlt, rfl⟩)
                          have hcut : L.map (·.f1) = (L.map (·.f1)).take j ++ L[j].f1 :: (L.map (·.f1)).drop (j + 1) := by
                            have h := (List.take_append_drop j (L.map (·.f1))).symm
                            rw [List.drop_eq_getElem_cons (by simpa using hlt), List.getElem_map] at h
                            exact h
                          have htk : (L.map (·.f1)).take (j + 1) = (L.map (·.f1)).take j ++ [L[j].f1] := by rw [List.take_succ_eq_append_getElem (by simpa using hlt), List.getElem_map]
                          generalize L[j].f0 = nm at hn0
                          generalize L[j].f1 = nd at hn1 hin hcut htk
                          obtain ⟨y0, y1⟩ := (allN_mem _ _).mp hin
                          obtain ⟨td, B6, d6, htd, e0, e1, e2, e3, e4, e5, e6, hd6, hD6⟩ := at_T85 HR0.out nd y0 y1
                          cases htd
                          obtain ⟨kd, hkd⟩ : ∃ z, z = (rd_T85 ns nd).f0 := ⟨_, rfl⟩
                          rw [← hkd] at e0
                          have HKD : Aside0 (dirN ns nd = (kd == 2)) := ⟨by unfold dirN; rw [hkd]⟩
                          have hmc := (Kd.R_celln false HM.out nd y0 y1).1
                          rw [metL_rd _ _ _ y0 y1] at hmc
                          have HMC := Aside0.mk hmc
                          have HIN := Aside0.mk hin
                          have HCUT := Aside0.mk hcut
                          have HTK := Aside0.mk htk
                          have p1 : (0 ≤ nd) = True := eq_true y0
                          have p2 : (nd < (ns.length : Int)) = True := eq_true y1
                          have hw1 : IntKind.i64.wrap ((j : Int) + 1) = ((j + 1 : Nat) : Int) := wrap_upM hlt (by have := HLL.out; omega)
                          have HW2 := Aside0.mk hw1
                          have BKw := BK.out
                          clear hLi hin hcut htk hkd hmc hlt e1 e2 e3 e4 e5 e6 hd6 hD6
                          go_upto_region 32 with (fail)
                          have hb5 : Below wr.heap.size wr (wr.alloc (.cells #[.string nm, .int .i64 nd] 144 (0, 0))) := below_alloc (Below.refl _ _) _
                          have bk6 := blk_new wr (.cells #[.string nm, .int .i64 nd] 144 (0, 0))
                          obtain ⟨g6, hg6⟩ : ∃ g, g = wr.heap.size := ⟨_, rfl⟩
                          obtain ⟨W5, hW5⟩ : ∃ W, W = wr.alloc (.cells #[.string nm, .int .i64 nd] 144 (0, 0)) := ⟨_, rfl⟩
                          rw [← hW5] at hb5 bk6
                          rw [← hg6] at bk6
                          rw [← hW5, ← hg6]
                          have BK5 := Aside0.mk ((hb5.block _ (blk_lt BKw)).trans BKw)
                          have HB5 := Aside0.mk (below_step HB.out hb5)
                          have HQ5 := Aside0.mk (Kd.R_below HQ.out hb5)
                          have HM5 := Aside0.mk (Kd.R_below HM.out hb5)
                          have HGL5 : Aside0 (gm < W5.heap.size) := ⟨Nat.lt_of_lt_of_le HGL.out hb5.size⟩
                          have h61 : W5.cell? ⟨g6, 1, none⟩ = some (.int .i64 nd) := (blk_cell bk6 1).trans rfl
                          have h20 : W5.cell? ⟨g2, 0, none⟩ = some (.slice (some ad) ns.length c0) := (blk_cell BK5.out 0).trans rfl
                          have h30 := (HB5.out.cell (World.block_lt_of_cell? w _ e0)).trans e0
                          have hmc := (hb5.cell (World.block_lt_of_cell? _ _ HMC.out)).trans HMC.out
                          clear hb5 bk6 hW5 hg6 HB BK HQ HM HGL BKw hn0 hn1 e0 HMC
                          by_cases k2 : kd = 2
                          case neg =>
                            have HK2 := Aside0.mk k2
                            have w1 : (kd == 2) = false := by simpa using k2
                            clear k2
                            go_wp2
                            go_roundw
                            case rel => exact ⟨j + 1, Q1, by first | rfl | go_num, HLT, HXQ, HQ5, HM5, ⟨by rw [HTK.out]; exact HF.out.skip (.inl (by rw [HKD.out]; simpa using HK2.out))⟩, HB5, BK5, HGL5⟩
                            case measure => exact meas_upG HLT.out (by first | rfl | (rw [← i64_w]; exact HW2.out) | exact HW2.out)
                          case pos =>
                            have HK2 := Aside0.mk k2
                            have w1 : (kd == 2) = true := by simp [k2]
                            clear k2
                            cases hh : hasL (Q1.take (k + 1)) nd with
                            | true =>
                              have HH := Aside0.mk hh
                              rw [hh] at hmc
                              clear hh
                              go_wp2
                              go_roundw
                              case rel => exact ⟨j + 1, Q1, by first | rfl | go_num, HLT, HXQ, HQ5, HM5, ⟨by rw [HTK.out]; exact HF.out.skip (.inr (List.mem_of_mem_take ((hasL_iff _ _).mp HH.out)))⟩, HB5, BK5, HGL5⟩
                              case measure => exact meas_upG HLT.out (by first | rfl | (rw [← i64_w]; exact HW2.out) | exact HW2.out)
                            | false =>
                              have HH := Aside0.mk hh
                              rw [hh] at hmc
                              clear hh
                              have HPU : Aside0 (Bfs (scN ns) (dirN ns) (allN ns.length) (Q1 ++ [nd]) k ((L.map (·.f1)).take (j + 1))) := ⟨by
                                rw [HTK.out]
                                refine HF.out.push (post := (L.map (·.f1)).drop (j + 1)) HXQ.out (by rw [HSX.out]; exact HCUT.out) (by rw [HKD.out]; simpa using HK2.out) HIN.out ?_
                                have hl := HLA.out nd HIN.out (by unfold freeN; have h := HKD.out; unfold dirN at h; have e : (ndR ns nd).f0 = 2 := (by have h2 := HK2.out; rw [h2] at h; simpa using h); simp [e])
                                rw [← tgts_all]
                                by_cases hz : nd = 0
                                · rw [if_pos hz] at hl ⊢; omega
                                · rw [if_neg hz] at hl ⊢; exact hl.2 (by rw [HKD.out]; simpa using HK2.out)⟩
                              have HQS : Aside0 (Q1.length ≤ 40) := ⟨by have := HF.out.len; rw [allN_len] at this; have := HLEN.out; omega⟩
                              clear HF
                              go_wp2_with (first | ((with_reducible refine gate_dst (N := 135) rfl ?_); refine Kd.R_append (Kd.int .i64) (w0 := w) (W := W5) w.heap.size rfl (.tmp 131) (.tmp 134) 28 3 (.int .i64 0) 8 rfl Tryz.underlying28 intInfo3 rfl (by decide) (by omega) _ Q1 nd [.int .i64 nd] (fun j => j ≠ gm) (fun _ => False) rfl rfl rfl (fun _ h => h.elim) ?hf HQ5.out HB5.out HB5.out.size ?hl ?_; (case hf => (intro j hj; show _ ≠ _; have := HGL5.out; omega)); (case hl => (have := HQS.out; omega)); intro v1 w1 ho1 hb1 hg1 hat1))
                              have HQ6 := Aside0.mk ho1
                              have HB6 := Aside0.mk hb1
                              have HM6 : Aside0 (Kd.R Kd.bool 4 w1 w.heap.size (fun j => j = gm) (.slice (some ⟨gm, 0, none⟩) ns.length cm) (metL ((Q1 ++ [nd]).take (k + 1)) ns.length)) := ⟨by
                                rw [List.take_append_of_le_length (List.getElem?_eq_some_iff.mp HXQ.out).1]
                                exact Kd.R_grown HM5.out hg1 (fun j hj e => HQ5.out.1 j e.symm hj)⟩
                              have BK6 : Aside0 (w1.heap[g2]? = some (.cells #[.slice (some ad) ns.length c0, .int .i64 room] 34 (0, 0))) := ⟨(hg1.block g2 (blk_lt BK5.out) (Kd.R_ne HQ5.out BK5.out (by decide))).trans BK5.out⟩
                              have HGL6 : Aside0 (gm < w1.heap.size) := ⟨Nat.lt_of_lt_of_le HGL5.out hg1.size⟩
                              have HXQ6 : Aside0 ((Q1 ++ [nd])[k]? = some x) := ⟨by rw [List.getElem?_append_left (List.getElem?_eq_some_iff.mp HXQ.out).1]; exact HXQ.out⟩
                              clear ho1 hb1 hg1 hat1 HQ5 HB5 HM5 BK5 HGL5 h61 h20 h30 hmc
                              go_wp2
                              go_roundw
                              case rel => exact ⟨j + 1, Q1 ++ [nd], by first | rfl | go_num, HLT, HXQ6, HQ6, HM6, HPU, HB6, BK6, HGL6⟩
                              case measure => exact meas_upG HLT.out (by first | rfl | (rw [← i64_w]; exact HW2.out) | exact HW2.out)
                    case neg =>
                      have hkl : k = Q.length := by have := HK.out; omega
                      subst hkl
                      have HMQ : Aside0 (Kd.R Kd.bool 4 wr w.heap.size (fun j => j = gm) (.slice (some ⟨gm, 0, none⟩) ns.length cm) (metL Q ns.length)) := ⟨by have := HM.out; rwa [List.take_length] at this⟩
                      obtain ⟨Aq, cq, rfl⟩ := Kd.R_slice HQ.out
                      have p9 : decide ((Q.length : Int) < (Q.length : Int)) = false := by simp
                      have h20 : wr.cell? ⟨g2, 0, none⟩ = some (.slice (some ad) ns.length c0) := (blk_cell BK.out 0).trans rfl
                      clear hlt HM HQ
                      go_wp2
                      clear h20 p9
                      go_loopw [140] (fun iv wq => ∃ i : Nat, i ≤ ns.length ∧ iv = .int .i64 (i : Int) ∧ Aside0 (∀ j, j < i → dirN ns (j : Int) = true → (j : Int) ∈ Q) ∧ Aside0 (Below w.heap.size w wq) ∧ Aside0 (Below wr.heap.size wr wq) ∧ Aside0 (wq.heap[g2]? = some (.cells #[.slice (some ad) ns.length c0, .int .i64 room] 34 (0, 0)))) (fun iv _ => ns.length - (intOf iv).toNat)
                      case atStart => exact ⟨0, Nat.zero_le _, rfl, ⟨fun j h => absurd h (Nat.not_lt_zero _)⟩, HB, ⟨Below.refl _ _⟩, BK⟩
                      case round =>
                        clear HB BK
                        obtain ⟨i, hi, rfl, HN, HB, HBM, BK⟩ := hrel
                        by_cases hlt : i < ns.length
                        case pos =>
                          have HLT := Aside0.mk hlt
                          have p9 : decide ((i : Int) < (ns.length : Int)) = true := decide_eq_true (by omega)
                          have p8 : ((i : Int) < (ns.length : Int)) = True := eq_true (by omega)
                          have p7 : ((0 : Int) ≤ (i : Int)) = True := eq_true (by omega)
                          obtain ⟨bd, B6, d6, hbd, e0, e1, e2, e3, e4, e5, e6, hd6, hC6⟩ := at_T85 (Kd.C_below HR0.out HB.out) (i : Int) (by omega) (by omega)
                          cases hbd
                          rw [Int.toNat_natCast] at e0 e1 e2 e3 e4 e5 e6
                          obtain ⟨x, hx⟩ : ∃ x, x = rd_T85 ns (i : Int) := ⟨_, rfl⟩
                          rw [← hx] at e0 e1 e2 e3 e4 e5 e6 hd6 hC6
                          have HXM : Aside0 (x ∈ ns) := ⟨by rw [hx, rdNd ns i hlt]; exact List.getElem_mem hlt⟩
                          have HX := Aside0.mk (show ndR ns (i : Int) = x from hx.symm)
                          have BKw := BK.out
                          have hw1 : IntKind.i64.wrap ((i : Int) + 1) = ((i + 1 : Nat) : Int) := wrap_upM hlt (by have := HLEN.out; omega)
                          have HW1 := Aside0.mk hw1
                          have HD6 := Aside0.mk hd6
                          have hmc := (Kd.R_celln false (Kd.R_below HMQ.out HBM.out) (i : Int) (by omega) (by omega)).1
                          rw [metL_rd _ _ _ (by omega) (by omega), Int.toNat_natCast] at hmc
                          have HMC := Aside0.mk hmc
                          clear hmc
                          clear hx hlt hi hd6 hC6
                          go_upto_region 38 with (fail)
                          have hb5 : Below wr.heap.size wr (wr.alloc (.cells #[.int .i64 x.f0, .int .i64 x.f1, .int .i64 x.f2, .int .i64 x.f3, .int .i64 x.f4, .string x.f5, .slice B6 x.f6.length d6] 85 (0, 0))) := below_alloc (Below.refl _ _) _
                          have bk6 := blk_new wr (.cells #[.int .i64 x.f0, .int .i64 x.f1, .int .i64 x.f2, .int .i64 x.f3, .int .i64 x.f4, .string x.f5, .slice B6 x.f6.length d6] 85 (0, 0))
                          obtain ⟨g6, hg6⟩ : ∃ g, g = wr.heap.size := ⟨_, rfl⟩
                          obtain ⟨W5, hW5⟩ : ∃ W, W = wr.alloc (.cells #[.int .i64 x.f0, .int .i64 x.f1, .int .i64 x.f2, .int .i64 x.f3, .int .i64 x.f4, .string x.f5, .slice B6 x.f6.length d6] 85 (0, 0)) := ⟨_, rfl⟩
                          rw [← hW5] at hb5 bk6
                          rw [← hg6] at bk6
                          rw [← hW5, ← hg6]
                          have BK5 := Aside0.mk ((hb5.block _ (blk_lt BKw)).trans BKw)
                          have HB5 := Aside0.mk (below_step HB.out hb5)
                          have BK65 := Aside0.mk bk6
                          have HBM5 := Aside0.mk (below_step HBM.out hb5)
                          have hmc : W5.cell? ⟨gm, i, none⟩ = some (.bool (hasL Q (i : Int))) := (hb5.cell (World.block_lt_of_cell? _ _ HMC.out)).trans HMC.out
                          have h60 : W5.cell? ⟨g6, 0, none⟩ = some (.int .i64 x.f0) := (blk_cell bk6 0).trans rfl
                          have h61 : W5.cell? ⟨g6, 1, none⟩ = some (.int .i64 x.f1) := (blk_cell bk6 1).trans rfl
                          have h62 : W5.cell? ⟨g6, 2, none⟩ = some (.int .i64 x.f2) := (blk_cell bk6 2).trans rfl
                          have h63 : W5.cell? ⟨g6, 3, none⟩ = some (.int .i64 x.f3) := (blk_cell bk6 3).trans rfl
                          have h64 : W5.cell? ⟨g6, 4, none⟩ = some (.int .i64 x.f4) := (blk_cell bk6 4).trans rfl
                          have h65 : W5.cell? ⟨g6, 5, none⟩ = some (.string x.f5) := (blk_cell bk6 5).trans rfl
                          have h66 : W5.cell? ⟨g6, 6, none⟩ = some (.slice B6 x.f6.length d6) := (blk_cell bk6 6).trans rfl
                          have h20 : W5.cell? ⟨g2, 0, none⟩ = some (.slice (some ad) ns.length c0) := (blk_cell BK5.out 0).trans rfl
                          have h21 : W5.cell? ⟨g2, 1, none⟩ = some (.int .i64 room) := (blk_cell BK5.out 1).trans rfl
                          clear hb5 bk6 hW5 hg6 HB HBM BK BKw e0 e1 e2 e3 e4 e5 e6 BK65 h61 h62 h63 h64 h65 h66 h20 h21 HMC
                          by_cases k2 : x.f0 = 2
                          case neg =>
                            have HK2 := Aside0.mk k2
                            have w1 : (x.f0 == 2) = false := by simpa using k2
                            clear k2
                            go_wp2
                            go_roundw
                            case rel => exact ⟨i + 1, HLT.out, by first | rfl | go_num, ⟨fun j hj hd => by
                              rcases Nat.lt_succ_iff_lt_or_eq.mp hj with h | rfl
                              · exact HN.out j h hd
                              · exact absurd (by unfold dirN at hd; rw [HX.out] at hd; simpa using hd) HK2.out⟩, HB5, HBM5, BK5⟩
                            case measure => exact meas_upG HLT.out (by first | rfl | (rw [← i64_w]; exact HW1.out) | exact HW1.out)
                          case pos =>
                            have HK2 := Aside0.mk k2
                            have w1 : (x.f0 == 2) = true := by simp [k2]
                            clear k2
                            cases hh : hasL Q (i : Int) with
                            | true =>
                              have HH := Aside0.mk hh
                              rw [hh] at hmc
                              clear hh
                              go_wp2
                              go_roundw
                              case rel => exact ⟨i + 1, HLT.out, by first | rfl | go_num, ⟨fun j hj hd => by
                                rcases Nat.lt_succ_iff_lt_or_eq.mp hj with h | rfl
                                · exact HN.out j h hd
                                · exact (hasL_iff _ _).mp HH.out⟩, HB5, HBM5, BK5⟩
                              case measure => exact meas_upG HLT.out (by first | rfl | (rw [← i64_w]; exact HW1.out) | exact HW1.out)
                            | false =>
                              have HH := Aside0.mk hh
                              rw [hh] at hmc
                              clear hh
                              go_wp2
                              go_ret
                              exact GPost.no (fun h => by
                                have hd : dirN ns (i : Int) = true := by unfold dirN; rw [HX.out]; simpa using HK2.out
                                have h1 := h.met (i : Int) ((allN_mem _ _).mpr ⟨by omega, by have := HLT.out; omega⟩) hd
                                have h2 := (HF.out.done (fun x hx => by obtain ⟨y, hy⟩ := List.exists_mem_of_ne_nil _ hx; exact (good_sc HNI.out x y hy).2) (i : Int) hd).mpr h1
                                exact Bool.false_ne_true (HH.out.symm.trans ((hasL_iff _ _).mpr h2))) HB5.out
                        case neg =>
                          have hil : i = ns.length := by omega
                          subst hil
                          have p9 : decide ((ns.length : Int) < (ns.length : Int)) = false := by simp
                          clear hlt hi
                          go_wp2
                          go_ret
                          exact GPost.yes ⟨HLEN.out, B2.out, HT0.out.trans HTP.out, HNI.out, by have := HSM.out; omega, fun y hy hf => HLA.out y hy hf, fun y hy hd => by
                            obtain ⟨h0, h1⟩ := (allN_mem _ _).mp hy
                            obtain ⟨m, rfl⟩ := Int.eq_ofNat_of_zero_le h0
                            exact (HF.out.done (fun x hx => by obtain ⟨y, hy⟩ := List.exists_mem_of_ne_nil _ hx; exact (good_sc HNI.out x y hy).2) (m : Int) hd).mp (HN.out m (by omega) hd)⟩ HB.out
theorem iGoodB_iff (ns : List Nd) (room : Int) : sGoodB ns room = true ↔ IGood ns room := (sGoodB_iff ns room).trans (good_iff ns room).symm
def impl_GoodFs.f (l0_0 : List Nd) (a0_1 : Int) : Option Bool := if fitB l0_0 = true then some (sGoodB l0_0 a0_1) else none
theorem impl_GoodFs.calls (A0_0 : Option Addr) (c0_0 : Nat) (l0_0 : List Nd) (a0_1 : Int) (r : Bool) (w : World) (hr0_0 : Kd.C k85 w A0_0 l0_0.length l0_0) (hc0_0 : l0_0.length ≤ c0_0) (h : impl_GoodFs.f l0_0 a0_1 = some r) :
    Calls Tryz.prog 127 #[.agg #[.slice A0_0 l0_0.length c0_0, .int .i64 a0_1]] w fun e w' => e = .returned (.bool r) ∧ Below w.heap.size w w' := by
  unfold impl_GoodFs.f at h
  split at h
  · rename_i hf
    rw [← Option.some.inj h]
    refine (goodFs_walk l0_0 A0_0 c0_0 a0_1 w hr0_0 hc0_0 (fitB_ok hf)).mono ?_
    rintro e w' ⟨b, he, hb, hB⟩
    refine ⟨?_, hB⟩
    rw [he, Bool.eq_iff_iff.mpr (hb.trans (iGoodB_iff l0_0 a0_1).symm)]
  · cases h
def impl_isAsked.f (l0_0 : List (S85)) (a0_1 : Int) (a1_0 : Int) (a1_1 : Int) : Option (Bool) := (impl_GoodFs.f l0_0 a0_1).bind fun t308 => (if t308 = true then ((impl_GoodCred.f a1_0 a1_1).bind fun t309 => (some t309)) else (some false))
set_option maxHeartbeats 8000000 in
set_option maxRecDepth 100000 in
theorem impl_isAsked.calls (A0_0 : Option Addr) (c0_0 : Nat) (l0_0 : List (S85)) (a0_1 : Int) (a1_0 : Int) (a1_1 : Int) (r : Bool) (w : World) (hr0_0 : Kd.C k85 w A0_0 l0_0.length l0_0) (hc0_0 : l0_0.length ≤ c0_0) (h : impl_isAsked.f l0_0 a0_1 a1_0 a1_1 = some r) :
  Calls Tryz.prog 80 #[.agg #[.slice A0_0 l0_0.length c0_0, .int .i64 a0_1], .agg #[.int .i64 a1_0, .int .i64 a1_1]] w fun e w' => e = .returned (.bool r) ∧ Below w.heap.size w w' := by
 have hu34 := Tryz.underlying34
 have hu36 := Tryz.underlying36
 have HR0_0 := Aside0.mk hr0_0
 have HC0_0 := Aside0.mk hc0_0
 clear hr0_0 hc0_0
 have HB := Aside0.mk (Below.refl w.heap.size w)
 have H : ((impl_GoodFs.f l0_0 a0_1).bind fun t308 => (if t308 = true then ((impl_GoodCred.f a1_0 a1_1).bind fun t309 => (some t309)) else (some false))) = some r := h
 clear h
 replace H := Option.bind_eq_some_iff.mp H
 obtain ⟨t308, A30, H⟩ := H
 try dsimp only at H
 have A3 := Aside0.mk A30
 clear A30
 by_cases c4 : t308 = true
 ·subst c4
  have H1 := H
  rw [if_pos rfl] at H1
  clear H
  have H := H1
  clear H1
  replace H := Option.bind_eq_some_iff.mp H
  obtain ⟨t309, A50, H⟩ := H
  try dsimp only at H
  have A5 := Aside0.mk A50
  clear A50
  obtain rfl := Option.some.inj H
  go_enter Tryz.func80, Tryz.ntmps80
  go_wp2_with (first | ((with_reducible refine gate_dst (N := 2) rfl ?_); refine box_event rfl (N := 2) rfl (cs := #[.slice A0_0 l0_0.length c0_0, .int .i64 a0_1]) (t := 34) (by first | (go_simp; done) | (go_simp; rfl)) ?_; intro gb306 hg w6 hbox hb; have BK306 := Aside0.mk (hbox); have GW306 := Aside0.mk (Gtr.gz hg (Gtr.bw HB.out)); have GE306 := GW306; replace HB := Aside0.mk (below_step (Gtr.bw HB.out) hb); clear hb hbox hg) | ((with_reducible refine gate_dst (N := 3) rfl ?_); refine box_event rfl (N := 3) rfl (cs := #[.int .i64 a1_0, .int .i64 a1_1]) (t := 36) (by first | (go_simp; done) | (go_simp; rfl)) ?_; intro gb307 hg w7 hbox hb; have BK307 := Aside0.mk (hbox); have GW307 := Aside0.mk (Gtr.gz hg (Gtr.bw HB.out)); have GE307 := GW307; replace HB := Aside0.mk (below_step (Gtr.bw HB.out) hb); have NB306_307 := Aside0.mk (Gtr.nl hg (Gtr.bk BK306.out)); have NB307_306 := Aside0.mk NB306_307.out.symm; replace BK306 := Aside0.mk (blk_below (Gtr.bk BK306.out) hb); clear hb hbox hg; have hnb8 := NB306_307.out; have hnc8 := NB307_306.out; have hcz9_0 := fun o_ => blk_cell BK306.out o_; have hfz9_0 := fun o_ => blk_frozen BK306.out o_) | ((with_reducible refine gate_callee (f := 127) rfl ?_); refine goesL_ (some 6) rfl rfl Tryz.func127 (by kernel_rfl) rfl #[.agg #[.slice A0_0 l0_0.length c0_0, .int .i64 a0_1]] rfl (by (try simp only [List.map_toArray, List.map_cons, List.map_nil]); first | done | rfl | (simp only [List.length_drop, List.length_take]; rfl)) ?_; (with_reducible refine (impl_GoodFs.calls _ _ l0_0 a0_1 true _ ?side1 ?side2 A3.out).mono ?_); (case side1 => repeat (first | exact (Kd.C_below HR0_0.out HB.out) | (with_reducible refine Kd.C_alloc ?_ _) | (with_reducible refine Kd.C_drewN ?_ _) | (with_reducible refine Kd.C_drew ?_))); (case side2 => exact HC0_0.out); rintro e w10 ⟨rfl, hb⟩; refine ⟨_, rfl, ?_⟩; replace BK306 := Aside0.mk (blk_below (Gtr.bk BK306.out) hb); replace BK307 := Aside0.mk (blk_below (Gtr.bk BK307.out) hb); replace HB := Aside0.mk (below_step (Gtr.bw HB.out) hb); (try clear hb); (try clear hb2); (try clear hk); (try clear hi); have hcz11_0 := fun o_ => blk_cell BK307.out o_; have hfz11_0 := fun o_ => blk_frozen BK307.out o_) | (go_at_call 128; (with_reducible refine (impl_GoodCred.calls a1_0 a1_1 t309 _ A5.out).mono ?_); rintro e w12 ⟨rfl, hb⟩; replace BK306 := Aside0.mk (blk_below (Gtr.bk BK306.out) hb); replace BK307 := Aside0.mk (blk_below (Gtr.bk BK307.out) hb); replace HB := Aside0.mk (below_step (Gtr.bw HB.out) hb); (try clear hb); (try clear hb2); (try clear hk); (try clear hi)))
  go_ret
  exact ⟨Gtr.fe, (Gtr.bw HB.out)⟩
 ·replace c4 := Bool.eq_false_iff.mpr c4
  subst c4
  have H1 : (some false) = some r := by rw [if_neg (show ¬ (false = true) by decide)] at H; exact H
  clear H
  have H := H1
  clear H1
  obtain rfl := Option.some.inj H
  go_enter Tryz.func80, Tryz.ntmps80
  go_wp2_with (first | ((with_reducible refine gate_dst (N := 2) rfl ?_); refine box_event rfl (N := 2) rfl (cs := #[.slice A0_0 l0_0.length c0_0, .int .i64 a0_1]) (t := 34) (by first | (go_simp; done) | (go_simp; rfl)) ?_; intro gb306 hg w13 hbox hb; have BK306 := Aside0.mk (hbox); have GW306 := Aside0.mk (Gtr.gz hg (Gtr.bw HB.out)); have GE306 := GW306; replace HB := Aside0.mk (below_step (Gtr.bw HB.out) hb); clear hb hbox hg) | ((with_reducible refine gate_dst (N := 3) rfl ?_); refine box_event rfl (N := 3) rfl (cs := #[.int .i64 a1_0, .int .i64 a1_1]) (t := 36) (by first | (go_simp; done) | (go_simp; rfl)) ?_; intro gb307 hg w14 hbox hb; have BK307 := Aside0.mk (hbox); have GW307 := Aside0.mk (Gtr.gz hg (Gtr.bw HB.out)); have GE307 := GW307; replace HB := Aside0.mk (below_step (Gtr.bw HB.out) hb); have NB306_307 := Aside0.mk (Gtr.nl hg (Gtr.bk BK306.out)); have NB307_306 := Aside0.mk NB306_307.out.symm; replace BK306 := Aside0.mk (blk_below (Gtr.bk BK306.out) hb); clear hb hbox hg; have hnb15 := NB306_307.out; have hnc15 := NB307_306.out; have hcz16_0 := fun o_ => blk_cell BK306.out o_; have hfz16_0 := fun o_ => blk_frozen BK306.out o_) | ((with_reducible refine gate_callee (f := 127) rfl ?_); refine goesL_ (some 6) rfl rfl Tryz.func127 (by kernel_rfl) rfl #[.agg #[.slice A0_0 l0_0.length c0_0, .int .i64 a0_1]] rfl (by (try simp only [List.map_toArray, List.map_cons, List.map_nil]); first | done | rfl | (simp only [List.length_drop, List.length_take]; rfl)) ?_; (with_reducible refine (impl_GoodFs.calls _ _ l0_0 a0_1 false _ ?side1 ?side2 A3.out).mono ?_); (case side1 => repeat (first | exact (Kd.C_below HR0_0.out HB.out) | (with_reducible refine Kd.C_alloc ?_ _) | (with_reducible refine Kd.C_drewN ?_ _) | (with_reducible refine Kd.C_drew ?_))); (case side2 => exact HC0_0.out); rintro e w17 ⟨rfl, hb⟩; refine ⟨_, rfl, ?_⟩; replace BK306 := Aside0.mk (blk_below (Gtr.bk BK306.out) hb); replace BK307 := Aside0.mk (blk_below (Gtr.bk BK307.out) hb); replace HB := Aside0.mk (below_step (Gtr.bw HB.out) hb); (try clear hb); (try clear hb2); (try clear hk); (try clear hi)))
  go_ret
  exact ⟨Gtr.fe, (Gtr.bw HB.out)⟩
theorem tree_of {ns : List Nd} {room : Int} (h : SGood ns room) : TreeOk (scN ns) (dirN ns) (allN ns.length) := by
  have hn : ∀ x, x ∈ ns → nodeB ns x = true := fun x hx => ((nodeB_iff ns x).mp (h.node x hx)).1
  refine ⟨zero_all h.len.1, by unfold dirN; rw [h.top]; rfl, fun x _ y hy => (good_sc hn x y hy).1, fun x hx => by obtain ⟨y, hy⟩ := List.exists_mem_of_ne_nil _ hx; exact (good_sc hn x y hy).2, by rw [← tgts_all]; exact (h.tail 0 (zero_all h.len.1)).1 rfl, fun y hy hd => ?_, fun y hy hd => (h.tail y hy).2.2 (by unfold dirN at hd; unfold freeN; have e : (ndR ns y).f0 = 2 := (by simpa using hd); simp [e])⟩
  rw [← tgts_all]
  by_cases hz : y = 0
  · rw [(h.tail y hy).1 hz]; omega
  · rw [(h.tail y hy).2.1 hz hd]; omega
def bytesOf (ns : List Nd) (l : List Int) : Int := (l.map (fun k => ((ndR ns k).f5.size : Int))).sum
theorem fitB_of {ns : List Nd} (h : FsFit ns) : fitB ns = true := by
  unfold fitB
  simp only [Bool.and_eq_true, decide_eq_true_eq, List.all_eq_true]
  exact ⟨h.len, fun x hx => ⟨h.data x hx, h.list x hx, h.name x hx⟩⟩
theorem l3Good_f {ns : List Nd} (room : Int) (h : FsFit ns) : spec_l3Good.f ns room = some (sGoodB ns room) := by unfold spec_l3Good.f; rw [if_pos (fitB_of h)]
theorem GoodFs_f {ns : List Nd} (room : Int) (h : FsFit ns) : impl_GoodFs.f ns room = some (sGoodB ns room) := by unfold impl_GoodFs.f; rw [if_pos (fitB_of h)]
theorem ndR_mem {ns : List Nd} {y : Int} {e : En} (h : e ∈ (ndR ns y).f6) : ndR ns y ∈ ns := by
  unfold ndR rd_T85 at h ⊢
  by_cases hk : y.toNat < ns.length
  · rw [List.getD_eq_getElem?_getD, List.getElem?_eq_getElem hk]; exact List.getElem_mem hk
  · rw [List.getD_eq_getElem?_getD, List.getElem?_eq_none (by omega)] at h
    exact absurd h (by simp [z85])
def mayB (cu cg : Int) (x : Nd) (want : Int) : Bool :=
  if cu = 0 then true else if cu = x.f2 then (Go.bits .andNot .i64 want (x.f1 / 64)) == 0 else if cg = x.f3 then (Go.bits .andNot .i64 want (Go.bits .and .i64 (x.f1 / 8) 7)) == 0 else (Go.bits .andNot .i64 want (Go.bits .and .i64 x.f1 7)) == 0
theorem bits_same : ∀ (m : Fin 512) (v : Fin 8), ((Go.bits .and .i64 ((m.val : Int) / 64) (v.val : Int) == (v.val : Int)) = (Go.bits .andNot .i64 (v.val : Int) ((m.val : Int) / 64) == 0)) ∧
    ((Go.bits .and .i64 (Go.bits .and .i64 ((m.val : Int) / 8) 7) (v.val : Int) == (v.val : Int)) = (Go.bits .andNot .i64 (v.val : Int) (Go.bits .and .i64 ((m.val : Int) / 8) 7) == 0)) ∧
    ((Go.bits .and .i64 (Go.bits .and .i64 (m.val : Int) 7) (v.val : Int) == (v.val : Int)) = (Go.bits .andNot .i64 (v.val : Int) (Go.bits .and .i64 (m.val : Int) 7) == 0)) := by decide +kernel
theorem may_spec (cu cg : Int) (x : Nd) (want : Int) (h0 : 0 ≤ x.f1) (h1 : x.f1 ≤ 511) (w0 : 0 ≤ want) (w1 : want ≤ 7) : spec_l1May.f cu cg x.f1 x.f2 x.f3 want = some (mayB cu cg x want) := by
  obtain ⟨e1, e2, e3⟩ := bits_same ⟨x.f1.toNat, by omega⟩ ⟨want.toNat, by omega⟩
  simp only at e1 e2 e3
  rw [show ((x.f1.toNat : Nat) : Int) = x.f1 by omega, show ((want.toNat : Nat) : Int) = want by omega] at e1 e2 e3
  unfold spec_l1May.f mayB
  rw [e1, e2, e3]
  split
  · rfl
  · split
    · rfl
    · split <;> rfl
theorem may_impl (cu cg : Int) (x : Nd) (want : Int) : impl_Cred_may.f cu cg x.f1 x.f2 x.f3 want = some (mayB cu cg x want) := by
  unfold impl_Cred_may.f mayB
  split
  · rfl
  · split
    · rfl
    · split <;> rfl
theorem mode_in {ns : List Nd} (hn : ∀ x, x ∈ ns → nodeB ns x = true) (y : Int) : 0 ≤ (ndR ns y).f1 ∧ (ndR ns y).f1 ≤ 511 := by
  unfold ndR rd_T85
  by_cases hk : y.toNat < ns.length
  · rw [List.getD_eq_getElem?_getD, List.getElem?_eq_getElem hk]
    have h := hn _ (List.getElem_mem hk)
    change nodeB ns ns[y.toNat] = true at h
    show 0 ≤ (ns[y.toNat]).f1 ∧ (ns[y.toNat]).f1 ≤ 511
    unfold nodeB at h
    by_cases h0 : (ns[y.toNat]).f0 = 0
    · rw [if_pos h0] at h
      unfold freeB at h
      simp only [Bool.and_eq_true, beq_iff_eq] at h
      omega
    · rw [if_neg h0] at h
      unfold frontB at h
      simp only [Bool.and_eq_true] at h
      exact (inB_iff _ _ _).mp h.1.1
  · rw [List.getD_eq_getElem?_getD, List.getElem?_eq_none (by omega)]
    show 0 ≤ (0 : Int) ∧ (0 : Int) ≤ 511
    omega
theorem l4May_f {ns : List Nd} (room cu cg y want : Int) (hn : ∀ x, x ∈ ns → nodeB ns x = true) (hy : y ∈ allN ns.length) (w0 : 0 ≤ want) (w1 : want ≤ 7) : spec_l4May.f ns room cu cg y want = some (mayB cu cg (ndR ns y) want) := by
  obtain ⟨y0, y1⟩ := (allN_mem _ _).mp hy
  obtain ⟨m0, m1⟩ := mode_in hn y
  unfold spec_l4May.f
  rw [if_pos y0, if_pos y1]
  have h := may_spec cu cg (ndR ns y) want m0 m1 w0 w1
  change (spec_l1May.f cu cg (ndR ns y).f1 (ndR ns y).f2 (ndR ns y).f3 want).bind _ = _
  rw [h]; rfl
theorem mayAt_f {ns : List Nd} (room cu cg y want : Int) (hy : y ∈ allN ns.length) : impl_Fs_mayAt.f ns room cu cg y want = some (mayB cu cg (ndR ns y) want) := by
  obtain ⟨y0, y1⟩ := (allN_mem _ _).mp hy
  unfold impl_Fs_mayAt.f
  rw [if_pos y0, if_pos y1]
  have h := may_impl cu cg (ndR ns y) want
  change (impl_Cred_may.f cu cg (ndR ns y).f1 (ndR ns y).f2 (ndR ns y).f3 want).bind _ = _
  rw [h]; rfl
theorem parR_in (ns : List Nd) (y : Int) (h : 0 < ns.length) : ∀ d i : Nat, i + d = ns.length → parR ns y d i ∈ allN ns.length
  | 0, _, _ => (allN_mem _ _).mpr ⟨Int.le_refl _, by show (0 : Int) < _; omega⟩
  | d + 1, i, hi => by
    unfold parR
    split
    · exact (allN_mem _ _).mpr ⟨by omega, by omega⟩
    · exact parR_in ns y h d (i + 1) (by omega)
theorem parentR_in (ns : List Nd) (y : Int) (h : 0 < ns.length) : parentR ns y ∈ allN ns.length := parR_in ns y h ns.length 0 (by omega)
def entR : List En → ByteArray → Int
  | [], _ => -1
  | e :: l, p => if e.f0.toList = p.toList then e.f1 else entR l p
theorem entR_in : ∀ (l : List En) (p : ByteArray), entR l p = -1 ∨ ∃ e, e ∈ l ∧ entR l p = e.f1
  | [], _ => .inl rfl
  | e :: l, p => by
    unfold entR
    split
    · exact .inr ⟨e, List.mem_cons_self, rfl⟩
    · rcases entR_in l p with h | ⟨e2, h1, h2⟩
      · exact .inl h
      · exact .inr ⟨e2, List.mem_cons_of_mem _ h1, h2⟩
theorem l3At_any (l : List En) (hl : l.length ≤ 1048576) (p : ByteArray) (d : Nat) : ∀ j : Nat, j + d = l.length → Ev (fun k => spec_l3At.l0 k p l (l.length : Int) (j : Int)) (entR (l.drop j) p) := by
  induction d with
  | zero =>
    intro j hj
    rw [List.drop_of_length_le (by omega)]
    refine Ev.step (f := fun _ => some (-1)) (fun k => ?_) (Ev.now _)
    simp only [spec_l3At.l0]; rw [if_neg (by omega)]
  | succ d ih =>
    intro j hj
    have hlt : j < l.length := by omega
    rw [List.drop_eq_getElem_cons hlt]
    unfold entR
    by_cases hc : l[j].f0.toList = p.toList
    · rw [if_pos hc]
      refine Ev.step (f := fun _ => some l[j].f1) (fun k => ?_) (Ev.now _)
      simp only [spec_l3At.l0]
      rw [if_pos (by omega), if_pos (by omega), if_pos (by omega), rdEn l j hlt, if_pos hc]
    · rw [if_neg hc]
      refine Ev.step (fun k => ?_) (ih (j + 1) (by omega))
      simp only [spec_l3At.l0]
      rw [if_pos (by omega), if_pos (by omega), if_pos (by omega), rdEn l j hlt, if_neg hc, step_n (i := j) (n := l.length) hlt (by omega)]
theorem l3At_ev (l : List En) (hl : l.length ≤ 1048576) (p : ByteArray) : Ev (fun k => spec_l3At.f k l p) (entR l p) := l3At_any l hl p l.length 0 (by omega)
theorem entry_any (l : List En) (hl : l.length ≤ 1048576) (p : ByteArray) (d : Nat) : ∀ j : Nat, j + d = l.length → Ev (fun k => impl_Fs_entry.l0 k p l (l.length : Int) (j : Int)) (entR (l.drop j) p) := by
  induction d with
  | zero =>
    intro j hj
    rw [List.drop_of_length_le (by omega)]
    refine Ev.step (f := fun _ => some (-1)) (fun k => ?_) (Ev.now _)
    simp only [impl_Fs_entry.l0]; rw [if_neg (by omega)]
  | succ d ih =>
    intro j hj
    have hlt : j < l.length := by omega
    rw [List.drop_eq_getElem_cons hlt]
    unfold entR
    by_cases hc : l[j].f0.toList = p.toList
    · rw [if_pos hc]
      refine Ev.step (f := fun _ => some l[j].f1) (fun k => ?_) (Ev.now _)
      simp only [impl_Fs_entry.l0]
      rw [if_pos (by omega), if_pos (by omega), if_pos (by omega), rdEn l j hlt, if_pos hc]
    · rw [if_neg hc]
      refine Ev.step (fun k => ?_) (ih (j + 1) (by omega))
      simp only [impl_Fs_entry.l0]
      rw [if_pos (by omega), if_pos (by omega), if_pos (by omega), rdEn l j hlt, if_neg hc, step_n (i := j) (n := l.length) hlt (by omega)]
theorem ndR_list {ns : List Nd} (hf : FsFit ns) (y : Int) : (ndR ns y).f6.length ≤ 1048576 := by
  cases hq : (ndR ns y).f6 with
  | nil => simp
  | cons e0 l0 => rw [← hq]; exact hf.list _ (ndR_mem (e := e0) (by rw [hq]; simp))
theorem entry_ev {ns : List Nd} (room y : Int) (hf : FsFit ns) (hy : y ∈ allN ns.length) (p : ByteArray) : Ev (fun k => impl_Fs_entry.f k ns room y p) (entR (ndR ns y).f6 p) := by
  obtain ⟨y0, y1⟩ := (allN_mem _ _).mp hy
  have k := entry_any (ndR ns y).f6 (ndR_list hf y) p (ndR ns y).f6.length 0 (by omega)
  refine Ev.congr (fun k => ?_) k
  simp only [impl_Fs_entry.f]
  rw [if_pos y0, if_pos y1]; rfl
theorem isDir_f {ns : List Nd} (room y : Int) (hy : y ∈ allN ns.length) : impl_Fs_isDir.f ns room y = some ((ndR ns y).f0 == 2) := by
  obtain ⟨y0, y1⟩ := (allN_mem _ _).mp hy
  unfold impl_Fs_isDir.f
  rw [if_pos y0, if_pos y1]
def wholeB (s : ByteArray) : Bool := goodPathB s && (bt s 0 == 47)
theorem goodPath_size {s : ByteArray} (h : goodPathB s = true) : 1 ≤ s.size ∧ s.size ≤ 60 := by
  unfold goodPathB longB nilB at h
  simp only [Bool.and_eq_true, decide_eq_true_eq, Bool.not_eq_true', decide_eq_false_iff_not] at h
  omega
theorem l2Whole_ev (s : ByteArray) (hs : s.size < 4294967281) : Ev (fun k => spec_l2Whole.f k s) (wholeB s) := by
  unfold spec_l2Whole.f wholeB
  refine Ev.bind (l2Path_ev s hs) ?_
  cases h : goodPathB s with
  | false => exact Ev.congr (f := fun _ => some false) (fun k => if_neg (by simp)) (Ev.now _)
  | true =>
    have := goodPath_size h
    exact Ev.congr (f := fun _ => some (bt s 0 == 47)) (fun k => by rw [if_pos rfl, if_pos (by omega)]) (Ev.now _)
theorem isWhole_f (s : ByteArray) : impl_isWhole.f s = some (wholeB s) := by
  unfold impl_isWhole.f wholeB
  rw [GoodPath_f s]
  simp only [Option.bind_some]
  cases h : goodPathB s with
  | false => rfl
  | true =>
    have := goodPath_size h
    rw [if_pos rfl, if_pos (by omega)]; rfl
def credB (cu cg : Int) : Bool := inB 0 99 cu && inB 0 99 cg
def askB (ns : List Nd) (room cu cg : Int) : Bool := sGoodB ns room && credB cu cg
theorem isAsked_f {ns : List Nd} (room cu cg : Int) (h : FsFit ns) : impl_isAsked.f ns room cu cg = some (askB ns room cu cg) := by
  unfold impl_isAsked.f askB
  rw [GoodFs_f room h]
  cases sGoodB ns room with
  | false => rfl
  | true =>
    simp only [Option.bind_some, if_true, impl_GoodCred.f, impl_isId.f, within_f, credB, Bool.true_and]
    cases inB 0 99 cu <;> rfl
theorem l4Asked_f {ns : List Nd} (room cu cg : Int) (h : FsFit ns) : spec_l4Asked.f ns room cu cg = some (askB ns room cu cg) := by
  unfold spec_l4Asked.f askB
  rw [l3Good_f room h]
  cases sGoodB ns room with
  | false => rfl
  | true =>
    simp only [Option.bind_some, if_true, spec_l1Cred.f, l1In_f, credB, Bool.true_and]
    cases inB 0 99 cu <;> rfl
def stepF (ns : List Nd) (cu cg : Int) (fol : Bool) (a : Int) (p : ByteArray) (rest : List ByteArray) (hops : Nat) : Int ⊕ (Int × List ByteArray × Nat) :=
  if (ndR ns a).f0 ≠ 2 then .inl 3
  else if mayB cu cg (ndR ns a) 1 = false then .inl 4
  else if p.toList = [46] then .inr (a, rest, hops)
  else if p.toList = [46, 46] then .inr (parentR ns a, rest, hops)
  else if entR (ndR ns a).f6 p < 0 then .inl 2
  else if (ndR ns (entR (ndR ns a).f6 p)).f0 ≠ 3 ∨ (rest = [] ∧ fol = false) then .inr (entR (ndR ns a).f6 p, rest, hops)
  else if hops = 8 then .inl 5
  else .inr (if bt (ndR ns (entR (ndR ns a).f6 p)).f5 0 = 47 then 0 else a, partsL (ndR ns (entR (ndR ns a).f6 p)).f5 ++ rest, hops + 1)
def endF (ns : List Nd) (ends : Bool) (a : Int) : Int × Int := if ends = true ∧ (ndR ns a).f0 ≠ 2 then (0, 3) else (a, 0)
def goF (ns : List Nd) (cu cg : Int) (fol ends : Bool) : Nat → Int → List ByteArray → Nat → Int × Int
  | _, a, [], _ => endF ns ends a
  | 0, _, _ :: _, _ => (0, 0)
  | n + 1, a, p :: rest, hops => match stepF ns cu cg fol a p rest hops with
    | .inl c => (0, c)
    | .inr (a', ps, h) => goF ns cu cg fol ends n a' ps h
def endsB (s : ByteArray) : Bool := bt s ((s.size : Int) - 1) == 47
def findR (ns : List Nd) (cu cg : Int) (path : ByteArray) (fol : Bool) : Int × Int :=
  if wholeB path = true then goF ns cu cg (fol || endsB path) (endsB path) 2000 0 (partsL path) 0 else (0, 1)
def measF (parts hops : Nat) : Nat := parts + (8 - hops) * 100
theorem parts_few (s : ByteArray) : (partsL s).length ≤ s.size + 1 := by
  refine Nat.le_trans (List.length_filter_le _ _) ?_
  unfold slashL
  rw [← show segs s 47 s.size 0 0 = _ from segs_split s 47]
  have := segs_len s 47 s.size 0 0
  omega
theorem link_data {ns : List Nd} (hn : ∀ x, x ∈ ns → nodeB ns x = true) (y : Int) (hy : y ∈ allN ns.length) (h3 : (ndR ns y).f0 = 3) : goodPathB (ndR ns y).f5 = true := by
  obtain ⟨y0, y1⟩ := (allN_mem _ _).mp hy
  have hx : ndR ns y ∈ ns := by
    unfold ndR rd_T85
    rw [List.getD_eq_getElem?_getD, List.getElem?_eq_getElem (show y.toNat < ns.length by omega)]; exact List.getElem_mem _
  have h := hn _ hx
  unfold nodeB at h
  rw [if_neg (by omega)] at h
  unfold frontB backB at h
  rw [if_neg (by omega), if_pos h3] at h
  simp only [Bool.and_eq_true] at h
  exact h.2
theorem ent_in {ns : List Nd} (hall : ∀ x, x ∈ allN ns.length → ∀ y, y ∈ scN ns x → y ∈ allN ns.length) (a : Int) (ha : a ∈ allN ns.length) (p : ByteArray) (h : ¬ entR (ndR ns a).f6 p < 0) : entR (ndR ns a).f6 p ∈ allN ns.length := by
  rcases entR_in (ndR ns a).f6 p with e | ⟨e, h1, h2⟩
  · rw [e] at h; exact absurd (by decide) h
  · rw [h2]; exact hall a ha _ (List.mem_map.mpr ⟨e, h1, rfl⟩)
theorem stepF_ok {ns : List Nd} (hn : ∀ x, x ∈ ns → nodeB ns x = true) (hall : ∀ x, x ∈ allN ns.length → ∀ y, y ∈ scN ns x → y ∈ allN ns.length) (hl : 0 < ns.length) (cu cg : Int) (fol : Bool) (a : Int) (ha : a ∈ allN ns.length) (p : ByteArray) (rest : List ByteArray) (hops : Nat) (hh : hops ≤ 8)
    (a' : Int) (ps : List ByteArray) (h' : Nat) (e : stepF ns cu cg fol a p rest hops = .inr (a', ps, h')) : a' ∈ allN ns.length ∧ h' ≤ 8 ∧ measF ps.length h' < measF (rest.length + 1) hops ∧ ps.length ≤ rest.length + 61 := by
  unfold stepF at e
  by_cases c1 : (ndR ns a).f0 ≠ 2
  · rw [if_pos c1] at e; cases e
  rw [if_neg c1] at e
  by_cases c2 : mayB cu cg (ndR ns a) 1 = false
  · rw [if_pos c2] at e; cases e
  rw [if_neg c2] at e
  by_cases c3 : p.toList = [46]
  · rw [if_pos c3] at e; cases e; exact ⟨ha, hh, by unfold measF; omega, by omega⟩
  rw [if_neg c3] at e
  by_cases c4 : p.toList = [46, 46]
  · rw [if_pos c4] at e; cases e; exact ⟨parentR_in ns a hl, hh, by unfold measF; omega, by omega⟩
  rw [if_neg c4] at e
  by_cases c5 : entR (ndR ns a).f6 p < 0
  · rw [if_pos c5] at e; cases e
  rw [if_neg c5] at e
  have hx := ent_in hall a ha p c5
  by_cases c6 : (ndR ns (entR (ndR ns a).f6 p)).f0 ≠ 3 ∨ (rest = [] ∧ fol = false)
  · rw [if_pos c6] at e; cases e; exact ⟨hx, hh, by unfold measF; omega, by omega⟩
  rw [if_neg c6] at e
  by_cases c7 : hops = 8
  · rw [if_pos c7] at e; cases e
  rw [if_neg c7] at e
  have h3 : (ndR ns (entR (ndR ns a).f6 p)).f0 = 3 := Classical.byContradiction fun h => c6 (.inl h)
  have hd := goodPath_size (link_data hn _ hx h3)
  have hp := parts_few (ndR ns (entR (ndR ns a).f6 p)).f5
  cases e
  refine ⟨?_, by omega, ?_, ?_⟩
  · split
    · exact (allN_mem _ _).mpr ⟨Int.le_refl _, by show (0 : Int) < _; omega⟩
    · exact ha
  · unfold measF; rw [List.length_append]; omega
  · rw [List.length_append]; omega
theorem goF_step {ns : List Nd} {cu cg : Int} {fol ends : Bool} {n : Nat} {a : Int} {p : ByteArray} {rest : List ByteArray} {hops : Nat} {R : Int × Int} (h : goF ns cu cg fol ends (n + 1) a (p :: rest) hops = R) :
    (∃ c, stepF ns cu cg fol a p rest hops = .inl c ∧ R = (0, c)) ∨ ∃ a' ps h', stepF ns cu cg fol a p rest hops = .inr (a', ps, h') ∧ goF ns cu cg fol ends n a' ps h' = R := by
  unfold goF at h
  cases e : stepF ns cu cg fol a p rest hops with
  | inl c => rw [e] at h; exact .inl ⟨c, rfl, h.symm⟩
  | inr t => obtain ⟨a', ps, h'⟩ := t; rw [e] at h; exact .inr ⟨a', ps, h', rfl, h⟩
theorem goF_nil {ns : List Nd} {cu cg : Int} {fol ends : Bool} {n : Nat} {a : Int} {hops : Nat} : goF ns cu cg fol ends n a [] hops = endF ns ends a := by
  cases n <;> rfl
abbrev Tk := Int × ByteArray × Int
def slashP (p nm : ByteArray) : ByteArray := if endsB p = true then p ++ nm else (p ++ (⟨#[47]⟩ : ByteArray)) ++ nm
def chT (ns : List Nd) (cu cg : Int) (x : Int) : List En := if (ndR ns x).f0 = 2 ∧ mayB cu cg (ndR ns x) 5 = true then (ndR ns x).f6 else []
def growL (f : List Tk → Int → Int → ByteArray → Option (List Tk)) (above : Int) (p : ByteArray) : List En → List Tk → Option (List Tk)
  | [], acc => some acc
  | e :: l, acc => (f acc e.f1 above (slashP p e.f0)).bind fun acc' => growL f above p l acc'
def growD (ch : Int → List En) : Nat → List Tk → Int → Int → ByteArray → Option (List Tk)
  | 0, _, _, _, _ => none
  | d + 1, acc, x, above, p => growL (growD ch d) (acc.length : Int) p (ch x) (acc ++ [(above, p, x)])
theorem growL_cons {f : List Tk → Int → Int → ByteArray → Option (List Tk)} {above : Int} {p : ByteArray} {e : En} {l : List En} {acc a' : List Tk} (h : growL f above p (e :: l) acc = some a') : ∃ m, f acc e.f1 above (slashP p e.f0) = some m ∧ growL f above p l m = some a' := by
  unfold growL at h
  cases hx : f acc e.f1 above (slashP p e.f0) with
  | none => rw [hx] at h; cases h
  | some m => rw [hx] at h; exact ⟨m, rfl, h⟩
theorem growL_more {f : List Tk → Int → Int → ByteArray → Option (List Tk)} (hf : ∀ acc x ab p a', f acc x ab p = some a' → ∃ s, a' = acc ++ s) (above : Int) (p : ByteArray) : ∀ (l : List En) (acc a' : List Tk), growL f above p l acc = some a' → ∃ s, a' = acc ++ s
  | [], acc, a', h => by unfold growL at h; injection h with h; exact ⟨[], by rw [← h, List.append_nil]⟩
  | e :: l, acc, a', h => by
    obtain ⟨m, h1, h2⟩ := growL_cons h
    obtain ⟨s, rfl⟩ := hf _ _ _ _ _ h1
    obtain ⟨s2, rfl⟩ := growL_more hf above p l _ _ h2
    exact ⟨s ++ s2, by rw [List.append_assoc]⟩
theorem growD_more (ch : Int → List En) : ∀ (d : Nat) (acc : List Tk) (x ab : Int) (p : ByteArray) (a' : List Tk), growD ch d acc x ab p = some a' → ∃ s, a' = acc ++ s
  | 0, _, _, _, _, _, h => by cases h
  | d + 1, acc, x, ab, p, a', h => by
    unfold growD at h
    obtain ⟨s, rfl⟩ := growL_more (growD_more ch d) _ _ _ _ _ h
    exact ⟨[(ab, p, x)] ++ s, by rw [List.append_assoc]⟩
theorem growL_len (ch : Int → List En) (d : Nat) (above : Int) (p : ByteArray) (l : List En) (acc a' : List Tk) (h : growL (growD ch d) above p l acc = some a') : acc.length ≤ a'.length := by
  obtain ⟨s, rfl⟩ := growL_more (growD_more ch d) _ _ _ _ _ h
  rw [List.length_append]; omega
theorem growL_ok {f : List Tk → Int → Int → ByteArray → Option (List Tk)} {g : Int → Option (List Int)} (h : ∀ x r, g x = some r → ∀ acc ab p, ∃ s, f acc x ab p = some (acc ++ s) ∧ s.length ≤ r.length) (above : Int) (p : ByteArray) : ∀ (l : List En) (r : List Int), preL g (l.map (·.f1)) = some r → ∀ acc, ∃ s, growL f above p l acc = some (acc ++ s) ∧ s.length ≤ r.length
  | [], r, _, acc => ⟨[], by unfold growL; rw [List.append_nil], Nat.zero_le _⟩
  | e :: l, r, hr, acc => by
    rw [List.map_cons] at hr
    unfold preL at hr
    cases hx : g e.f1 with
    | none => rw [hx] at hr; cases hr
    | some x =>
      rw [hx] at hr
      cases hy : preL g (l.map (·.f1)) with
      | none => rw [hy] at hr; cases hr
      | some y =>
        rw [hy] at hr
        injection hr with hr
        subst hr
        obtain ⟨s, h1, h2⟩ := h e.f1 x hx acc above (slashP p e.f0)
        obtain ⟨s2, h3, h4⟩ := growL_ok h above p l y hy (acc ++ s)
        refine ⟨s ++ s2, ?_, by rw [List.length_append, List.length_append]; omega⟩
        unfold growL
        rw [h1]
        show growL f above p l (acc ++ s) = _
        rw [h3, List.append_assoc]
theorem growD_ok (ns : List Nd) (cu cg : Int) : ∀ (d : Nat) (x : Int) (r : List Int), preD (scN ns) d x = some r → ∀ acc ab p, ∃ s, growD (chT ns cu cg) d acc x ab p = some (acc ++ s) ∧ s.length ≤ r.length
  | 0, _, _, h, _, _, _ => by cases h
  | d + 1, x, r, h, acc, ab, p => by
    unfold preD at h
    cases hy : preL (preD (scN ns) d) (scN ns x) with
    | none => rw [hy] at h; cases h
    | some y =>
      rw [hy] at h
      injection h with h
      subst h
      unfold growD
      by_cases hc : (ndR ns x).f0 = 2 ∧ mayB cu cg (ndR ns x) 5 = true
      · have e : chT ns cu cg x = (ndR ns x).f6 := if_pos hc
        obtain ⟨s, h1, h2⟩ := growL_ok (growD_ok ns cu cg d) (acc.length : Int) p (ndR ns x).f6 y hy (acc ++ [(ab, p, x)])
        exact ⟨[(ab, p, x)] ++ s, by rw [e, h1, List.append_assoc], by simp only [List.length_append, List.length_cons, List.length_nil]; omega⟩
      · have e : chT ns cu cg x = [] := if_neg hc
        exact ⟨[(ab, p, x)], by rw [e]; rfl, by simp⟩
def woodR (ns : List Nd) (cu cg : Int) (node : Int) (path : ByteArray) : List Tk := (growD (chT ns cu cg) (ns.length + 1) [] node (-1) path).getD []
theorem woodR_ok {ns : List Nd} {room : Int} (hg : SGood ns room) (cu cg : Int) (node : Int) (hn : node ∈ allN ns.length) (path : ByteArray) : growD (chT ns cu cg) (ns.length + 1) [] node (-1) path = some (woodR ns cu cg node path) := by
  obtain ⟨r, hr⟩ := (tree_of hg).pre_ok node hn
  rw [allN_len] at hr
  obtain ⟨s, h1, -⟩ := growD_ok ns cu cg (ns.length + 1) node r hr [] (-1) path
  unfold woodR
  rw [h1]; rfl
theorem woodR_len {ns : List Nd} {room : Int} (hf : FsFit ns) (hg : SGood ns room) (cu cg : Int) (node : Int) (hn : node ∈ allN ns.length) (path : ByteArray) : (woodR ns cu cg node path).length ≤ ((allN ns.length).flatMap (scN ns)).length + 1 := by
  obtain ⟨r, hr⟩ := (tree_of hg).pre_ok node hn
  have hl := (tree_of hg).pre_len hn hr
  rw [allN_len] at hr
  obtain ⟨s, h1, h2⟩ := growD_ok ns cu cg (ns.length + 1) node r hr [] (-1) path
  have e : woodR ns cu cg node path = s := by unfold woodR; rw [h1]; rfl
  rw [e]; omega
theorem last_byte (s : ByteArray) (i : Nat) (h : i + 1 = s.size) : (s.extract i s.size).toList = [s[i]] := by
  rw [ByteArray.toList_eq]
  apply List.ext_getElem
  · simp [ByteArray.data_extract]; omega
  · intro j h1 h2
    have : j = 0 := by simp at h2; omega
    subst this
    simp [ByteArray.data_extract]
    rfl
theorem hasSuffix_f (s : ByteArray) (h : 0 < s.size) (h2 : s.size ≤ 4000000000000) : strings_HasSuffix.f s (⟨#[47]⟩ : ByteArray) = some (endsB s) := by
  unfold strings_HasSuffix.f stringslite_HasSuffix.f endsB
  have e1 : (((⟨#[47]⟩ : ByteArray).size : Nat) : Int) = 1 := rfl
  rw [e1]
  have e2 : wrap64 ((s.size : Int) - 1) = (s.size : Int) - 1 := by unfold wrap64; omega
  rw [e2, if_pos (by omega), if_pos (by omega), if_pos (by omega)]
  have e3 : ((s.size : Int) - 1).toNat = s.size - 1 := by omega
  have e4 : bt s ((s.size : Int) - 1) = ((s[s.size - 1]'(by omega)).toNat : Int) := by unfold bt; simp only [e3]; rw [dif_pos (by omega)]
  rw [e3, last_byte s (s.size - 1) (by omega), e4]
  simp only [Option.bind_some]
  rw [show (ByteArray.toList ⟨#[47]⟩ : List UInt8) = [47] from ByteArray.toList_eq _]
  show some ([s[s.size - 1]] == [(47 : UInt8)]) = some _
  congr 1
  rw [Bool.eq_iff_iff]
  simp only [beq_iff_eq, List.cons.injEq, and_true]
  constructor
  · intro e; rw [e]; rfl
  · intro e; apply UInt8.toNat_inj.mp; have : (47 : UInt8).toNat = 47 := rfl; omega
set_option maxHeartbeats 8000000 in
set_option maxRecDepth 100000 in
theorem find_walk (ns : List Nd) (A0 : Option Addr) (c0 : Nat) (room cu cg : Int) (path : ByteArray) (fol : Bool) (w : World) (hr0 : Kd.C k85 w A0 ns.length ns) (hc0 : ns.length ≤ c0) (hf : FsFit ns) (hg : SGood ns room) (hp : path.size < 4294967281) :
    Calls Tryz.prog 81 #[.agg #[.slice A0 ns.length c0, .int .i64 room], .agg #[.int .i64 cu, .int .i64 cg], .string path, .bool fol] w fun e w' => e = .returned (.tuple #[.int .i64 (findR ns cu cg path fol).1, .int .i64 (findR ns cu cg path fol).2]) ∧ Below w.heap.size w w' := by
  have hu1 := Tryz.underlying34
  have hu2 := Tryz.underlying36
  have hu3 := Tryz.underlying29
  have HIW := Aside0.mk (fun (W : World) => impl_isWhole.calls path _ W (isWhole_f path))
  have HF := Aside0.mk hf
  have HG := Aside0.mk hg
  have HR0 := Aside0.mk hr0
  have HC0 := Aside0.mk hc0
  have HP := Aside0.mk hp
  unfold findR
  cases hw : wholeB path with
  | false =>
    rw [hw] at HIW
    rw [if_neg (by simp)]
    clear hr0 hc0 hf hg hp
    go_enter Tryz.func81, Tryz.ntmps81
    go_upto_region 1 with (fail)
    obtain ⟨W2, hW2⟩ : ∃ W, W = (w.alloc (.cells #[.slice A0 ns.length c0, .int .i64 room] 34 (0, 0))).alloc (.cells #[.int .i64 cu, .int .i64 cg] 36 (0, 0)) := ⟨_, rfl⟩
    have HB2 := Aside0.mk (show Below w.heap.size w W2 from by rw [hW2]; exact below_alloc (below_alloc (Below.refl _ _) _) _)
    rw [← hW2]
    clear hW2
    go_wp2_with fail
    refine (HIW.out W2).mono ?_; rintro e W3 ⟨rfl, hd⟩
    have HB3 := Aside0.mk (below_step HB2.out hd)
    clear hd HIW HB2
    go_wp2
    go_ret2
    exact ⟨rfl, HB3.out⟩
  | true =>
    rw [hw] at HIW
    rw [if_pos rfl]
    have hsz : 0 < path.size := by unfold wholeB at hw; rw [Bool.and_eq_true] at hw; have := goodPath_size hw.1; omega
    have hsz2 : path.size ≤ 4000000000000 := by omega
    have HHS := Aside0.mk (fun (W : World) => strings_HasSuffix.calls path ⟨#[47]⟩ _ W (hasSuffix_f path hsz hsz2))
    have hpo : impl_partsOf.f path = some (partsL path) := by unfold impl_partsOf.f; rw [if_pos hp]
    have HPO := Aside0.mk (fun (W : World) => impl_partsOf.calls path _ W hpo)
    obtain ⟨ends, hen⟩ : ∃ e, e = endsB path := ⟨_, rfl⟩
    rw [← hen] at HHS ⊢
    obtain ⟨R, hR⟩ : ∃ R, R = goF ns cu cg (fol || ends) ends 2000 0 (partsL path) 0 := ⟨_, rfl⟩
    rw [← hR]
    have HGF : Aside0 (goF ns cu cg (fol || ends) ends 2000 0 (partsL path) 0 = R ∧ measF (partsL path).length 0 < 2000 ∧ 2000 ≤ 2000) := ⟨hR.symm, by
      have := parts_few path
      unfold wholeB at hw; rw [Bool.and_eq_true] at hw; have := goodPath_size hw.1
      unfold measF; omega, Nat.le_refl _⟩
    clear hr0 hc0 hf hg hp hw hsz hsz2 hpo hen hR
    go_enter Tryz.func81, Tryz.ntmps81
    go_upto_region 1 with (fail)
    obtain ⟨W2, hW2⟩ : ∃ W, W = (w.alloc (.cells #[.slice A0 ns.length c0, .int .i64 room] 34 (0, 0))).alloc (.cells #[.int .i64 cu, .int .i64 cg] 36 (0, 0)) := ⟨_, rfl⟩
    have HB2 := Aside0.mk (show Below w.heap.size w W2 from by rw [hW2]; exact below_alloc (below_alloc (Below.refl _ _) _) _)
    have BF2 := Aside0.mk (show W2.heap[w.heap.size]? = some (.cells #[.slice A0 ns.length c0, .int .i64 room] 34 (0, 0)) from by rw [hW2]; exact blk_alloc (blk_new _ _) _)
    have BC2 := Aside0.mk (show W2.heap[w.heap.size + 1]? = some (.cells #[.int .i64 cu, .int .i64 cg] 36 (0, 0)) from by rw [hW2]; have h := blk_new (w.alloc (.cells #[.slice A0 ns.length c0, .int .i64 room] 34 (0, 0))) (.cells #[.int .i64 cu, .int .i64 cg] 36 (0, 0)); rwa [World.size_alloc] at h)
    rw [← hW2]
    clear hW2
    go_wp2_with fail
    refine (HIW.out W2).mono ?_; rintro e W3 ⟨rfl, hd⟩
    have HB3 := Aside0.mk (below_step HB2.out hd)
    have BF3 := Aside0.mk (blk_below BF2.out hd)
    have BC3 := Aside0.mk (blk_below BC2.out hd)
    clear hd HIW HB2 BF2 BC2
    go_wp2_with fail
    refine (HHS.out W3).mono ?_; rintro e W4 ⟨rfl, hd0⟩
    have hd := Drawn0.below hd0
    have HB4 := Aside0.mk (below_step HB3.out hd)
    have BF4 := Aside0.mk (blk_below BF3.out hd)
    have BC4 := Aside0.mk (blk_below BC3.out hd)
    clear hd hd0 HHS HB3 BF3 BC3
    go_wp2_with fail
    refine (HPO.out W4).mono ?_; rintro e W5 ⟨v, rfl, ho, hd⟩
    obtain ⟨A5, c5, rfl⟩ := Kd.R_slice ho
    obtain ⟨-, hc5, hC5⟩ := Kd.R_reads' ho
    have HC5 := Aside0.mk hC5
    have HL5 := Aside0.mk hc5
    have HB5 := Aside0.mk (below_step HB4.out hd)
    have BF5 := Aside0.mk (blk_below BF4.out hd)
    have BC5 := Aside0.mk (blk_below BC4.out hd)
    clear hd ho hc5 hC5 HB4 BF4 BC4
    go_wp2
    go_loopw [11, 12, 13] (fun v11 v12 v13 wr => ∃ (A : Option Addr) (c n : Nat) (ps : List ByteArray) (a : Int) (hops : Nat), v11 = .slice A ps.length c ∧ v12 = .int .i64 a ∧ v13 = .int .i64 (hops : Int) ∧ Aside0 (Kd.C Kd.string wr A ps.length ps ∧ ps.length ≤ c) ∧ Aside0 (a ∈ allN ns.length ∧ hops ≤ 8) ∧ Aside0 (goF ns cu cg (fol || ends) ends n a ps hops = R ∧ measF ps.length hops < n ∧ n ≤ 2000) ∧ Aside0 (wr.heap[w.heap.size]? = some (.cells #[.slice A0 ns.length c0, .int .i64 room] 34 (0, 0))) ∧ Aside0 (wr.heap[w.heap.size + 1]? = some (.cells #[.int .i64 cu, .int .i64 cg] 36 (0, 0))) ∧ Aside0 (Below w.heap.size w wr)) (fun v11 _ v13 _ => measF (match v11 with | .slice _ n _ => n | _ => 0) (intOf v13).toNat)
    case atStart => exact ⟨A5, c5, 2000, partsL path, 0, 0, rfl, rfl, rfl, ⟨HC5.out, HL5.out⟩, ⟨zero_all HG.out.len.1, Nat.zero_le _⟩, HGF, BF5, BC5, HB5⟩
    case round =>
      clear HGF HC5 HL5 HB5 BF5 BC5
      obtain ⟨A, c, n, ps, a, hops, rfl, rfl, rfl, HA, HI, HGo, BF, BC, HB⟩ := hrel
      cases ps with
      | nil =>
        have p0 : decide ((0 : Int) < (0 : Int)) = false := by simp
        have hgo := HGo.out.1
        rw [goF_nil] at hgo
        have hai := HI.out.1
        cases hends : ends with
        | false =>
          rw [hends] at hgo
          have hres : R = (a, 0) := by rw [← hgo]; unfold endF; rw [if_neg (by simp)]
          clear hgo hai HA HI HGo BF BC
          subst hends
          go_wp2
          go_ret2
          rw [hres]
          exact ⟨rfl, HB.out⟩
        | true =>
          rw [hends] at hgo
          have HID := Aside0.mk (impl_Fs_isDir.calls A0 c0 ns room a _ wr (Kd.C_below HR0.out HB.out) HC0.out (isDir_f room a hai))
          have f0 : wr.cell? ⟨w.heap.size, 0, none⟩ = some (.slice A0 ns.length c0) := (blk_cell BF.out 0).trans rfl
          have f1 : wr.cell? ⟨w.heap.size, 1, none⟩ = some (.int .i64 room) := (blk_cell BF.out 1).trans rfl
          subst hends
          by_cases hk : (ndR ns a).f0 = 2
          · have hb : ((ndR ns a).f0 == 2) = true := by simpa using hk
            have hres : R = (a, 0) := by rw [← hgo]; unfold endF; rw [if_neg (fun h => h.2 hk)]
            rw [hb] at HID
            clear hgo hai HA HI HGo BF BC hk hb
            go_wp2_with fail
            refine (HID.out).mono ?_; rintro e w2 ⟨rfl, hd⟩
            have HB2 := Aside0.mk (below_step HB.out hd)
            clear hd HB HID f0 f1
            go_wp2
            go_ret2
            rw [hres]
            exact ⟨rfl, HB2.out⟩
          · have hb : ((ndR ns a).f0 == 2) = false := by simpa using hk
            have hres : R = (0, 3) := by rw [← hgo]; unfold endF; rw [if_pos ⟨rfl, hk⟩]
            rw [hb] at HID
            clear hgo hai HA HI HGo BF BC hk hb
            go_wp2_with fail
            refine (HID.out).mono ?_; rintro e w2 ⟨rfl, hd⟩
            have HB2 := Aside0.mk (below_step HB.out hd)
            clear hd HB HID f0 f1
            go_wp2
            go_ret2
            rw [hres]
            exact ⟨rfl, HB2.out⟩
      | cons p rest =>
        have p0 : decide ((0 : Int) < ((p :: rest).length : Int)) = true := decide_eq_true (by simp only [List.length_cons]; omega)
        have p1 : ((0 : Int) < ((p :: rest).length : Int)) = True := eq_true (by simp only [List.length_cons]; omega)
        obtain ⟨m, rfl⟩ : ∃ m, n = m + 1 := ⟨n - 1, by have := HGo.out.2.1; omega⟩
        have hgs := goF_step HGo.out.1
        obtain ⟨hai, hh8⟩ := HI.out
        obtain ⟨pd, cs, e, _, hK, hcell0⟩ := Kd.C_get HA.out.1 ByteArray.empty 0 (by omega) (by simp only [List.length_cons]; omega)
        subst e
        obtain rfl : cs = [.string p] := hK
        have hx : wr.cell? pd = some (.string p) := by have h := hcell0 0 (.string p) rfl; simpa [Addr.add] using h
        obtain ⟨A1, hA1⟩ : ∃ A1, A1 = (if c = 1 then some pd else some (⟨pd.block, pd.off + 1, none⟩ : Addr)) := ⟨_, rfl⟩
        have HA2 : Aside0 (Kd.C Kd.string wr A1 rest.length rest ∧ rest.length ≤ c - 1) := ⟨by
          have h := Kd.C_drop (c := c) (m := 1) HA.out.1 (by simp only [List.length_cons]; omega) HA.out.2
          rw [hA1]
          exact h, by have := HA.out.2; simp only [List.length_cons] at this; omega⟩
        have HGM : Aside0 (measF (rest.length + 1) hops < m + 1 ∧ m + 1 ≤ 2000) := ⟨HGo.out.2⟩
        have HID := Aside0.mk (fun (W : World) (hb : Below w.heap.size w W) => impl_Fs_isDir.calls A0 c0 ns room a _ W (Kd.C_below HR0.out hb) HC0.out (isDir_f room a hai))
        have f0 : wr.cell? ⟨w.heap.size, 0, none⟩ = some (.slice A0 ns.length c0) := (blk_cell BF.out 0).trans rfl
        have f1 : wr.cell? ⟨w.heap.size, 1, none⟩ = some (.int .i64 room) := (blk_cell BF.out 1).trans rfl
        clear hcell0 HA HGo
        go_upto_region 8 with (fail)
        rw [← hA1]
        clear hA1 hx
        by_cases k1 : (ndR ns a).f0 ≠ 2
        · have hb : ((ndR ns a).f0 == 2) = false := by simpa using k1
          have hs : stepF ns cu cg (fol || ends) a p rest hops = .inl 3 := by unfold stepF; rw [if_pos k1]
          have hres : R = (0, 3) := by
            rcases hgs with ⟨c', e, hR⟩ | ⟨a', ps', h', e, hR⟩
            · rw [hs] at e; cases e; exact hR
            · rw [hs] at e; cases e
          rw [hb] at HID
          have HID2 := Aside0.mk (HID.out wr HB.out)
          clear hgs hs hb k1 hai hh8 HI HID BF BC HA2 HGM
          go_wp2_with fail
          refine (HID2.out).mono ?_; rintro e w2 ⟨rfl, hd⟩
          have HB2 := Aside0.mk (below_step HB.out hd)
          clear hd HB HID2 f0 f1
          go_wp2
          go_ret2
          rw [hres]
          exact ⟨rfl, HB2.out⟩
        · have k1 : (ndR ns a).f0 = 2 := Classical.byContradiction k1
          have hb : ((ndR ns a).f0 == 2) = true := by simpa using k1
          rw [hb] at HID
          have HID2 := Aside0.mk (HID.out wr HB.out)
          have HST : Aside0 (stepF ns cu cg (fol || ends) a p rest hops = if mayB cu cg (ndR ns a) 1 = false then .inl 4
            else if p.toList = [46] then .inr (a, rest, hops) else if p.toList = [46, 46] then .inr (parentR ns a, rest, hops)
            else if entR (ndR ns a).f6 p < 0 then .inl 2
            else if (ndR ns (entR (ndR ns a).f6 p)).f0 ≠ 3 ∨ (rest = [] ∧ (fol || ends) = false) then .inr (entR (ndR ns a).f6 p, rest, hops)
            else if hops = 8 then .inl 5
            else .inr (if bt (ndR ns (entR (ndR ns a).f6 p)).f5 0 = 47 then 0 else a, partsL (ndR ns (entR (ndR ns a).f6 p)).f5 ++ rest, hops + 1)) := ⟨by unfold stepF; rw [if_neg (fun h => h k1)]⟩
          have HGS := Aside0.mk hgs
          have HAI := Aside0.mk hai
          clear hgs hb hh8 HID hai
          go_wp2_with fail
          refine (HID2.out).mono ?_; rintro e w2 ⟨rfl, hd⟩
          have HB2 := Aside0.mk (below_step HB.out hd)
          have BF2 := Aside0.mk (blk_below BF.out hd)
          have BC2 := Aside0.mk (blk_below BC.out hd)
          have HA3 := Aside0.mk (And.intro (Kd.C_below HA2.out.1 hd) HA2.out.2)
          clear hd HB HID2 f0 f1 BF BC HA2
          have f0 : w2.cell? ⟨w.heap.size, 0, none⟩ = some (.slice A0 ns.length c0) := (blk_cell BF2.out 0).trans rfl
          have f1 : w2.cell? ⟨w.heap.size, 1, none⟩ = some (.int .i64 room) := (blk_cell BF2.out 1).trans rfl
          have q0 : w2.cell? ⟨w.heap.size + 1, 0, none⟩ = some (.int .i64 cu) := (blk_cell BC2.out 0).trans rfl
          have q1 : w2.cell? ⟨w.heap.size + 1, 1, none⟩ = some (.int .i64 cg) := (blk_cell BC2.out 1).trans rfl
          have HMA := Aside0.mk (impl_Fs_mayAt.calls A0 c0 ns room cu cg a 1 _ w2 (Kd.C_below HR0.out HB2.out) HC0.out (mayAt_f room cu cg a 1 HAI.out))
          cases k2 : mayB cu cg (ndR ns a) 1 with
          | false =>
            have hres : R = (0, 4) := by
              have hs := HST.out
              rw [if_pos k2] at hs
              rcases HGS.out with ⟨c', e, hR⟩ | ⟨a', ps', h', e, hR⟩
              · rw [hs] at e; cases e; exact hR
              · rw [hs] at e; cases e
            rw [k2] at HMA
            clear HST HGS HAI HI BF2 BC2 HA3 HGM k2
            go_wp2_with fail
            refine (HMA.out).mono ?_; rintro e w3 ⟨rfl, hd⟩
            have HB3 := Aside0.mk (below_step HB2.out hd)
            clear hd HB2 HMA f0 f1 q0 q1
            go_wp2
            go_ret2
            rw [hres]
            exact ⟨rfl, HB3.out⟩
          | true =>
            rw [k2] at HMA
            go_wp2_with fail
            refine (HMA.out).mono ?_; rintro e w3 ⟨rfl, hd⟩
            have HB3 := Aside0.mk (below_step HB2.out hd)
            have BF3 := Aside0.mk (blk_below BF2.out hd)
            have BC3 := Aside0.mk (blk_below BC2.out hd)
            have HA4 := Aside0.mk (And.intro (Kd.C_below HA3.out.1 hd) HA3.out.2)
            have HST2 := HST.out
            rw [if_neg (by rw [k2]; simp)] at HST2
            have HST3 := Aside0.mk HST2
            clear hd HB2 HMA f0 f1 q0 q1 BF2 BC2 HA3 HST HST2 k2
            by_cases k3 : p.toList = [46]
            · have e3 : (p.toList == [46]) = true := by simpa using k3
              have e4 : decide (p.toList = [46]) = true := decide_eq_true k3
              have hgo : goF ns cu cg (fol || ends) ends m a rest hops = R := by
                have hs := HST3.out
                rw [if_pos k3] at hs
                rcases HGS.out with ⟨c', e, hR⟩ | ⟨a', ps', h', e, hR⟩
                · rw [hs] at e; cases e
                · rw [hs] at e; cases e; exact hR
              have HGO := Aside0.mk hgo
              clear HST3 HGS hgo
              go_wp2
              go_roundw
              case rel => exact ⟨A1, c - 1, m, rest, a, hops, rfl, rfl, rfl, HA4, HI, ⟨HGO.out, by have := HGM.out; unfold measF at *; omega⟩, BF3, BC3, HB3⟩
              case measure => simp [intOf, measF]
            · have e3 : (p.toList == [46]) = false := by simpa using k3
              have e4 : decide (p.toList = [46]) = false := decide_eq_false k3
              have HST2 := HST3.out
              rw [if_neg k3] at HST2
              have HST4 := Aside0.mk HST2
              clear HST3 HST2 k3
              by_cases k4 : p.toList = [46, 46]
              · have e5 : (p.toList == [46, 46]) = true := by simpa using k4
                have e6 : decide (p.toList = [46, 46]) = true := decide_eq_true k4
                have hgo : goF ns cu cg (fol || ends) ends m (parentR ns a) rest hops = R := by
                  have hs := HST4.out
                  rw [if_pos k4] at hs
                  rcases HGS.out with ⟨c', e, hR⟩ | ⟨a', ps', h', e, hR⟩
                  · rw [hs] at e; cases e
                  · rw [hs] at e; cases e; exact hR
                have HGO := Aside0.mk hgo
                have HPA := Aside0.mk (parent_w ns A0 c0 room a w3 (Kd.C_below HR0.out HB3.out) HF.out)
                have f0 : w3.cell? ⟨w.heap.size, 0, none⟩ = some (.slice A0 ns.length c0) := (blk_cell BF3.out 0).trans rfl
                have f1 : w3.cell? ⟨w.heap.size, 1, none⟩ = some (.int .i64 room) := (blk_cell BF3.out 1).trans rfl
                have HPI : Aside0 (parentR ns a ∈ allN ns.length ∧ hops ≤ 8) := ⟨parentR_in ns a HG.out.len.1, HI.out.2⟩
                clear HST4 HGS hgo HI
                go_wp2_with fail
                refine (HPA.out).mono ?_; rintro e w4 ⟨⟨nm, rfl⟩, hd⟩
                have HB4 := Aside0.mk (below_step HB3.out hd)
                have BF4 := Aside0.mk (blk_below BF3.out hd)
                have BC4 := Aside0.mk (blk_below BC3.out hd)
                have HA5 := Aside0.mk (And.intro (Kd.C_below HA4.out.1 hd) HA4.out.2)
                clear hd HB3 HPA f0 f1 BF3 BC3 HA4
                go_wp2
                go_roundw
                case rel => exact ⟨A1, c - 1, m, rest, parentR ns a, hops, rfl, rfl, rfl, HA5, HPI, ⟨HGO.out, by have := HGM.out; unfold measF at *; omega⟩, BF4, BC4, HB4⟩
                case measure => simp [intOf, measF]
              · have e5 : (p.toList == [46, 46]) = false := by simpa using k4
                have e6 : decide (p.toList = [46, 46]) = false := decide_eq_false k4
                have HST2 := HST4.out
                rw [if_neg k4] at HST2
                have HST5 := Aside0.mk HST2
                clear HST4 HST2 k4
                obtain ⟨nx, hnx⟩ : ∃ nx, nx = entR (ndR ns a).f6 p := ⟨_, rfl⟩
                obtain ⟨K, hent⟩ := entry_ev room a HF.out HAI.out p
                rw [← hnx] at hent
                have HNX : Aside0 (¬ nx < 0 → nx ∈ allN ns.length) := ⟨fun h => by rw [hnx] at h ⊢; exact ent_in (tree_of HG.out).sub a HAI.out p h⟩
                have HST6 := HST5.out
                rw [← hnx] at HST6
                have HST5 := Aside0.mk HST6
                clear hnx HST6
                have HEN := Aside0.mk (impl_Fs_entry.calls K A0 c0 ns room a p nx w3 (Kd.C_below HR0.out HB3.out) HC0.out (hent K (Nat.le_refl _)))
                have f0 : w3.cell? ⟨w.heap.size, 0, none⟩ = some (.slice A0 ns.length c0) := (blk_cell BF3.out 0).trans rfl
                have f1 : w3.cell? ⟨w.heap.size, 1, none⟩ = some (.int .i64 room) := (blk_cell BF3.out 1).trans rfl
                clear hent
                by_cases k5 : nx < 0
                · have e7 : decide (nx < 0) = true := decide_eq_true k5
                  have hres : R = (0, 2) := by
                    have hs := HST5.out
                    rw [if_pos k5] at hs
                    rcases HGS.out with ⟨c', e, hR⟩ | ⟨a', ps', h', e, hR⟩
                    · rw [hs] at e; cases e; exact hR
                    · rw [hs] at e; cases e
                  clear HST5 HGS HI HNX HGM k5 BF3 BC3 HA4
                  go_wp2_with fail
                  refine (HEN.out).mono ?_; rintro e w4 ⟨rfl, hd⟩
                  have HB4 := Aside0.mk (below_step HB3.out hd)
                  clear hd HB3 HEN f0 f1
                  go_wp2
                  go_ret2
                  rw [hres]
                  exact ⟨rfl, HB4.out⟩
                · have e7 : decide (nx < 0) = false := decide_eq_false k5
                  have HST6 := HST5.out
                  rw [if_neg k5] at HST6
                  have HST7 := Aside0.mk HST6
                  have hni := HNX.out k5
                  have HNI := Aside0.mk hni
                  clear HST5 HST6 HNX k5
                  go_wp2_with fail
                  refine (HEN.out).mono ?_; rintro e w4 ⟨rfl, hd⟩
                  have HB4 := Aside0.mk (below_step HB3.out hd)
                  have BF4 := Aside0.mk (blk_below BF3.out hd)
                  have BC4 := Aside0.mk (blk_below BC3.out hd)
                  have HA5 := Aside0.mk (And.intro (Kd.C_below HA4.out.1 hd) HA4.out.2)
                  clear hd HB3 HEN f0 f1 BF3 BC3 HA4
                  obtain ⟨y0, y1⟩ := (allN_mem _ _).mp hni
                  obtain ⟨bd, B6, d6, hbd, e0, e1, e2, e3', e4', e5', e6', hd6, hC6⟩ := at_T85 (Kd.C_below HR0.out HB4.out) nx y0 y1
                  subst hbd
                  obtain ⟨nd, hnd⟩ : ∃ x, x = rd_T85 ns nx := ⟨_, rfl⟩
                  rw [← hnd] at e0 e1 e2 e3' e4' e5' e6'
                  have HND := Aside0.mk (show ndR ns nx = nd from hnd.symm)
                  have f0 : w4.cell? ⟨w.heap.size, 0, none⟩ = some (.slice (some bd) ns.length c0) := (blk_cell BF4.out 0).trans rfl
                  have y0' : ((0 : Int) ≤ nx) = True := eq_true y0
                  have y1' : (nx < (ns.length : Int)) = True := eq_true y1
                  clear hnd hd6 hC6 y0 y1 hni
                  go_upto_region 19 with (fail)
                  obtain ⟨gn, hgn⟩ : ∃ g, g = w4.heap.size := ⟨_, rfl⟩
                  obtain ⟨W5', hW5⟩ : ∃ W, W = w4.alloc (.cells #[.int .i64 nd.f0, .int .i64 nd.f1, .int .i64 nd.f2, .int .i64 nd.f3, .int .i64 nd.f4, .string nd.f5, .slice B6 nd.f6.length d6] 85 (0, 0)) := ⟨_, rfl⟩
                  have hb5 : Below w4.heap.size w4 W5' := by rw [hW5]; exact below_alloc (Below.refl _ _) _
                  have bkn : W5'.heap[gn]? = some (.cells #[.int .i64 nd.f0, .int .i64 nd.f1, .int .i64 nd.f2, .int .i64 nd.f3, .int .i64 nd.f4, .string nd.f5, .slice B6 nd.f6.length d6] 85 (0, 0)) := by rw [hW5, hgn]; exact blk_new _ _
                  rw [← hW5, ← hgn]
                  have HB6 := Aside0.mk (below_step HB4.out hb5)
                  have BF6 := Aside0.mk (blk_below BF4.out hb5)
                  have BC6 := Aside0.mk (blk_below BC4.out hb5)
                  have HA6 := Aside0.mk (And.intro (Kd.C_below HA5.out.1 hb5) HA5.out.2)
                  have BN6 := Aside0.mk bkn
                  have n0 : W5'.cell? ⟨gn, 0, none⟩ = some (.int .i64 nd.f0) := (blk_cell bkn 0).trans rfl
                  clear hW5 hgn hb5 bkn f0 e0 e1 e2 e3' e4' e5' e6' HB4 BF4 BC4 HA5
                  by_cases k6 : (ndR ns nx).f0 ≠ 3 ∨ (rest = [] ∧ (fol || ends) = false)
                  · have hgo : goF ns cu cg (fol || ends) ends m nx rest hops = R := by
                      have hs := HST7.out
                      rw [if_pos k6] at hs
                      rcases HGS.out with ⟨c', e, hR⟩ | ⟨a', ps', h', e, hR⟩
                      · rw [hs] at e; cases e
                      · rw [hs] at e; cases e; exact hR
                    have HGO := Aside0.mk hgo
                    rw [HND.out] at k6
                    have HI2 : Aside0 (nx ∈ allN ns.length ∧ hops ≤ 8) := ⟨HNI.out, HI.out.2⟩
                    clear HST7 HGS hgo HI
                    by_cases k7 : nd.f0 = 3
                    · have z1 : (nd.f0 == 3) = true := by simpa using k7
                      have z2 : decide (nd.f0 = 3) = true := decide_eq_true k7
                      obtain ⟨hr0, hfe⟩ := k6.resolve_left (fun h => h k7)
                      rw [Bool.or_eq_false_iff] at hfe
                      obtain ⟨hfo, hen⟩ := hfe
                      subst hr0
                      subst hfo
                      subst hen
                      clear k6 k7
                      go_wp2
                      go_roundw
                      case rel => exact ⟨A1, c - 1, m, [], nx, hops, rfl, rfl, rfl, HA6, HI2, ⟨HGO.out, by have := HGM.out; unfold measF at *; simp at *; omega⟩, BF6, BC6, HB6⟩
                      case measure => simp [intOf, measF]
                    · have z1 : (nd.f0 == 3) = false := by simpa using k7
                      have z2 : decide (nd.f0 = 3) = false := decide_eq_false k7
                      clear k6 k7
                      go_wp2
                      go_roundw
                      case rel => exact ⟨A1, c - 1, m, rest, nx, hops, rfl, rfl, rfl, HA6, HI2, ⟨HGO.out, by have := HGM.out; unfold measF at *; omega⟩, BF6, BC6, HB6⟩
                      case measure => simp [intOf, measF]
                  · have h3 : (ndR ns nx).f0 = 3 := Classical.byContradiction fun h => k6 (.inl h)
                    have h3' := h3
                    rw [HND.out] at h3'
                    have z1 : (nd.f0 == 3) = true := by simpa using h3'
                    have z2 : decide (nd.f0 = 3) = true := decide_eq_true h3'
                    have HST8 := HST7.out
                    rw [if_neg k6] at HST8
                    have HST9 := Aside0.mk HST8
                    have hgp := link_data (fun x hx => ((nodeB_iff ns x).mp (HG.out.node x hx)).1) nx HNI.out h3
                    rw [HND.out] at hgp
                    have HGP := Aside0.mk (goodPath_size hgp)
                    have hways : (∃ q r, rest = q :: r) ∨ (rest = [] ∧ fol = true) ∨ (rest = [] ∧ fol = false ∧ ends = true) := by
                      cases rest with
                      | cons q r => exact .inl ⟨q, r, rfl⟩
                      | nil =>
                        cases fol with
                        | true => exact .inr (.inl ⟨rfl, rfl⟩)
                        | false =>
                          cases ends with
                          | true => exact .inr (.inr ⟨rfl, rfl, rfl⟩)
                          | false => exact absurd (.inr ⟨rfl, rfl⟩) k6
                    clear HST7 HST8 h3 h3' k6 hgp
                    by_cases k7 : hops = 8
                    · have hres : R = (0, 5) := by
                        have hs := HST9.out
                        rw [if_pos k7] at hs
                        rcases HGS.out with ⟨c', e, hR⟩ | ⟨a', ps', h', e, hR⟩
                        · rw [hs] at e; cases e; exact hR
                        · rw [hs] at e; cases e
                      clear HST9 HGS HI HGM HND HNI HA6 BF6 BC6 BN6 HGP
                      subst k7
                      rcases hways with ⟨q, r, rfl⟩ | ⟨rfl, rfl⟩ | ⟨rfl, rfl, rfl⟩
                      · have z3 : decide ((0 : Int) < ((q :: r).length : Int)) = true := decide_eq_true (by simp only [List.length_cons]; omega)
                        go_wp2
                        go_ret2
                        exact ⟨rfl, HB6.out⟩
                      · go_wp2
                        go_ret2
                        exact ⟨rfl, HB6.out⟩
                      · go_wp2
                        go_ret2
                        exact ⟨rfl, HB6.out⟩
                    · have hlt : hops + 1 ≤ 8 := by have := HI.out.2; omega
                      have z4 : ((hops : Int) == 8) = false := by simp; omega
                      have z5 : decide ((hops : Int) = 8) = false := decide_eq_false (by omega)
                      have wh : IntKind.i64.wrap ((hops : Int) + 1) = ((hops + 1 : Nat) : Int) := (i64_w _).trans (by unfold wrap64; omega)
                      have n5 : W5'.cell? ⟨gn, 5, none⟩ = some (.string nd.f5) := (blk_cell BN6.out 5).trans rfl
                      have HPD := Aside0.mk (impl_partsOf.calls nd.f5 _ W5' (show impl_partsOf.f nd.f5 = some (partsL nd.f5) by unfold impl_partsOf.f; rw [if_pos (by have := HGP.out; omega)]))
                      have hst := HST9.out
                      rw [if_neg k7, HND.out] at hst
                      have HST10 := Aside0.mk hst
                      clear HST9 hst k7
                      obtain ⟨cat, hcat⟩ : ∃ l, l = partsL nd.f5 ++ rest := ⟨_, rfl⟩
                      have HS0 : Aside0 (0 < nd.f5.size) := ⟨by have := HGP.out; omega⟩
                      have hcl : cat.length ≤ nd.f5.size + 1 + rest.length := by have h1 := parts_few nd.f5; rw [hcat, List.length_append]; omega
                      have HCL : Aside0 ((partsL nd.f5).length + rest.length ≤ 100000) := ⟨by have h1 := parts_few nd.f5; have h2 := HGP.out; have h3 := HGM.out; unfold measF at h3; omega⟩
                      have HHL : Aside0 (hops + 1 ≤ 8) := ⟨hlt⟩
                      have HMM : Aside0 (measF cat.length (hops + 1) < m ∧ m ≤ 2000) := ⟨by have h2 := HGP.out; have h3 := HGM.out; unfold measF at *; omega, by have := HGM.out; omega⟩
                      have HME : Aside0 (measF cat.length (hops + 1) < measF (rest.length + 1) hops) := ⟨by have h2 := HGP.out; unfold measF at *; omega⟩
                      have HGA : Aside0 (goF ns cu cg (fol || ends) ends m (if bt nd.f5 0 = 47 then 0 else a) cat (hops + 1) = R) := ⟨by
                        rcases HGS.out with ⟨c', e, hR⟩ | ⟨a', ps', h', e, hR⟩
                        · rw [HST10.out] at e; cases e
                        · rw [HST10.out, ← hcat] at e; cases e; exact hR⟩
                      have HCAT := Aside0.mk hcat
                      clear hcl hcat HST10 HGS HGM hlt HGP
                      rcases hways with ⟨q, r, hrs⟩ | ⟨hrs, rfl⟩ | ⟨hrs, rfl, rfl⟩ <;> subst hrs <;> (try have z3 : decide ((0 : Int) < ((q :: r).length : Int)) = true := decide_eq_true (by simp only [List.length_cons]; omega)) <;> (
                        go_wp2_with fail
                        refine (HPD.out).mono ?_; rintro e w6 ⟨v7, rfl, ho, hd⟩
                        obtain ⟨A7, c7, rfl⟩ := Kd.R_slice ho
                        obtain ⟨-, hc7, hC7⟩ := Kd.R_reads' ho
                        have HC7 := Aside0.mk hC7
                        have HB7 := Aside0.mk (below_step HB6.out hd)
                        have BN7 := Aside0.mk (blk_below BN6.out hd)
                        have BF7 := Aside0.mk (blk_below BF6.out hd)
                        have BC7 := Aside0.mk (blk_below BC6.out hd)
                        have HA7 := Aside0.mk (Kd.C_below HA6.out.1 hd)
                        clear ho hc7 hC7 hd n5 HPD HB6 BN6 BF6 BC6
                        go_wp2_with fail
                        refine (concat_walk w6.heap.size A7 A1 c7 (c - 1) 2 (partsL nd.f5) _ _ (blk_new _ _) (Kd.C_below HC7.out (below_alloc (Below.refl _ _) _)) (Kd.C_below HA7.out (below_alloc (Below.refl _ _) _)) HCL.out).mono ?_; rintro e w7 ⟨v8, rfl, ho8, hd8⟩
                        rw [← HCAT.out] at ho8
                        obtain ⟨A8, c8, rfl⟩ := Kd.R_slice ho8
                        obtain ⟨-, hc8, hC8⟩ := Kd.R_reads' ho8
                        have hd9 : Below w6.heap.size w6 w7 := below_step (below_alloc (Below.refl _ _) _) hd8
                        have HA8 := Aside0.mk (And.intro hC8 hc8)
                        have HB8 := Aside0.mk (below_step HB7.out hd9)
                        have BN8 := Aside0.mk (blk_below BN7.out hd9)
                        have BF8 := Aside0.mk (blk_below BF7.out hd9)
                        have BC8 := Aside0.mk (blk_below BC7.out hd9)
                        have n5 : w7.cell? ⟨gn, 5, none⟩ = some (.string nd.f5) := (blk_cell BN8.out 5).trans rfl
                        have s1 : (0 < nd.f5.size) = True := eq_true HS0.out
                        have s2 : ((0 : Int) < (nd.f5.size : Int)) = True := eq_true (by have := HS0.out; omega)
                        have hx : ∀ h : 0 < nd.f5.size, ((nd.f5[0]'h).toNat : Int) = bt nd.f5 0 := bt_at nd.f5 0
                        clear ho8 hc8 hC8 hd8 hd9 HC7 HB7 BN7 BF7 BC7 HA7
                        by_cases k8 : bt nd.f5 0 = 47
                        · have hgo := HGA.out
                          rw [if_pos k8] at hgo
                          have HGO := Aside0.mk hgo
                          have t1 : (bt nd.f5 0 == 47) = true := by simpa using k8
                          have t2 : decide (bt nd.f5 0 = 47) = true := decide_eq_true k8
                          have HI2 : Aside0 ((0 : Int) ∈ allN ns.length ∧ hops + 1 ≤ 8) := ⟨zero_all HG.out.len.1, HHL.out⟩
                          clear HGA hgo k8
                          go_wp2
                          go_roundw
                          case rel => exact ⟨A8, c8, m, cat, 0, hops + 1, rfl, rfl, rfl, HA8, HI2, ⟨HGO.out, HMM.out⟩, BF8, BC8, HB8⟩
                          case measure => have := HME.out; simpa [intOf] using this
                        · have hgo := HGA.out
                          rw [if_neg k8] at hgo
                          have HGO := Aside0.mk hgo
                          have t1 : (bt nd.f5 0 == 47) = false := by simpa using k8
                          have t2 : decide (bt nd.f5 0 = 47) = false := decide_eq_false k8
                          have HI2 : Aside0 (a ∈ allN ns.length ∧ hops + 1 ≤ 8) := ⟨HI.out.1, HHL.out⟩
                          clear HGA hgo k8
                          go_wp2
                          go_roundw
                          case rel => exact ⟨A8, c8, m, cat, a, hops + 1, rfl, rfl, rfl, HA8, HI2, ⟨HGO.out, HMM.out⟩, BF8, BC8, HB8⟩
                          case measure => have := HME.out; simpa [intOf] using this)
def Sep (u v : Value) : Prop := ∀ k, u.ownBlock = some k → v.ownBlock ≠ some k
theorem Sep.symm {u v : Value} (h : Sep u v) : Sep v u := fun k hk e => h k e hk
theorem Sep.of_eq {u v t : Value} (e : u.ownBlock = v.ownBlock) (h : Sep v t) : Sep u t := fun k hk => h k (e ▸ hk)
theorem Sep.of_new {u v : Value} {b : Nat} (hb : u.ownBlock = some b) (h : ∀ k, v.ownBlock = some k → k < b) : Sep u v := fun k hk e => by
  rw [hb] at hk
  injection hk with hk
  subst hk
  exact Nat.lt_irrefl _ (h _ e)
theorem C_one {α : Type} (enc : α → Value) {h1 : ∀ x, (enc x).oneCell' = true} {W : World} {k T : Nat} {x : α} (h : W.heap[k]? = some (.cells #[enc x] T (0, 0))) : (Kd.scalar enc h1).C W (some ⟨k, 0, none⟩) 1 [x] := by
  refine ⟨rfl, by omega, fun _ => ⟨⟨k, 0, none⟩, rfl, fun j p hj => ?_⟩⟩
  have hj0 : j = 0 := by have := (List.getElem?_eq_some_iff.1 hj).1; simp at this; exact this
  subst hj0
  have hp : x = p := by simpa using hj
  subst hp
  refine ⟨[enc x], rfl, rfl, fun i u hu => ?_⟩
  have hi0 : i = 0 := by have := (List.getElem?_eq_some_iff.1 hu).1; simp at this; exact this
  subst hi0
  have hu2 : enc x = u := by simpa using hu
  subst hu2
  exact (blk_cell h 0).trans rfl
theorem Kd.R_growF {α : Type} {enc : α → Value} {h1 : ∀ x, (enc x).oneCell' = true} {e base : Nat} {ok : Nat → Prop} {w w1 : World} {v u : Value} {xs : List α} (h : (Kd.scalar enc h1).R e w base ok v xs) (hg : w.grownBy w1 u.ownBlock) (hs : Sep v u) : (Kd.scalar enc h1).R e w1 base ok v xs :=
  Kd.R_flat (fun h => h) (Kd.R_grown (Kd.R_flat (ok' := fun k => v.ownBlock = some k) (fun h => h) h (fun k hk _ => hk)) hg (fun k hk e => hs k hk e.symm)) (fun k hk _ => h.1 k hk)
theorem intInfoW : (Tryz.prog.info? 3).map (fun i => (i.zero, i.size, i.bytes)) = some (some (.int .i64 0), 1, 8) := by kernel_rfl
theorem strInfoW : (Tryz.prog.info? 9).map (fun i => (i.zero, i.size, i.bytes)) = some (some (.string ⟨#[]⟩), 1, 16) := by kernel_rfl
structure WoodAt (B : Nat) (w0 : World) (g : Nat) (W : World) (P : Nat → Prop) (acc : List Tk) : Prop where
  at_ : ∃ u1 u2 u3 : Value, W.heap[g]? = some (.cells #[u1, u2, u3] 70 (0, 0)) ∧ Kd.R (Kd.int .i64) 3 W B P u1 (acc.map (·.1)) ∧ Kd.R Kd.string 9 W B P u2 (acc.map (·.2.1)) ∧ Kd.R (Kd.int .i64) 3 W B P u3 (acc.map (·.2.2)) ∧ Sep u1 u2 ∧ Sep u1 u3 ∧ Sep u2 u3
  below : Below B w0 W
theorem WoodAt.weak {B g : Nat} {w0 W : World} {P P2 : Nat → Prop} {acc : List Tk} (h : WoodAt B w0 g W P acc) (hp : ∀ k, P k → P2 k) : WoodAt B w0 g W P2 acc := by
  obtain ⟨u1, u2, u3, hb, h1, h2, h3, s⟩ := h.at_
  exact ⟨⟨u1, u2, u3, hb, Kd.R_mono h1 hp, Kd.R_mono h2 hp, Kd.R_mono h3 hp, s⟩, h.below⟩
theorem WoodAt.bound {B g : Nat} {w0 W : World} {P : Nat → Prop} {acc : List Tk} (h : WoodAt B w0 g W P acc) : WoodAt B w0 g W (fun k => P k ∧ k < W.heap.size) acc := by
  obtain ⟨u1, u2, u3, hb, h1, h2, h3, s⟩ := h.at_
  exact ⟨⟨u1, u2, u3, hb, Kd.R_mono (Kd.R_bound h1) (fun _ hk => ⟨hk.1, hk.2.2.1⟩), Kd.R_mono (Kd.R_bound h2) (fun _ hk => ⟨hk.1, hk.2.2.1⟩), Kd.R_mono (Kd.R_bound h3) (fun _ hk => ⟨hk.1, hk.2.2.1⟩), s⟩, h.below⟩
theorem WoodAt.step {B g : Nat} {w0 W W2 : World} {P : Nat → Prop} {acc : List Tk} (h : WoodAt B w0 g W P acc) (hb : Below W.heap.size W W2) (hB : B ≤ W.heap.size) : WoodAt B w0 g W2 P acc := by
  obtain ⟨u1, u2, u3, hbk, h1, h2, h3, s⟩ := h.at_
  exact ⟨⟨u1, u2, u3, blk_below hbk hb, Kd.R_below h1 hb, Kd.R_below h2 hb, Kd.R_below h3 hb, s⟩, h.below.trans (hb.mono hB)⟩
abbrev lookC (A0 : Option Addr) (n c0 : Nat) (room cu cg a : Int) (A : Option Addr) (m c : Nat) (hops : Nat) : Array Value :=
  #[.slice A0 n c0, .int .i64 room, .int .i64 cu, .int .i64 cg, .int .i64 a, .slice A m c, .int .i64 (hops : Int)]
structure LookAt (W : World) (g : Nat) (A0 : Option Addr) (n c0 : Nat) (room cu cg a : Int) (ps : List ByteArray) (hops : Nat) : Prop where
  at_ : ∃ (A : Option Addr) (c : Nat), W.heap[g]? = some (.cells (lookC A0 n c0 room cu cg a A ps.length c hops) 160 (0, 0)) ∧ Kd.C Kd.string W A ps.length ps ∧ ps.length ≤ c ∧ ∀ ad, A = some ad → 0 < ps.length → ad.block ≠ g
structure KB (g : Nat) (w W : World) : Prop where
  kept : Kept w W (fun k => k = g)
  low : Below g w W
theorem KB.of_below {g : Nat} {w W : World} (h : Below w.heap.size w W) (hg : g ≤ w.heap.size) : KB g w W := ⟨Kept.of_below h _, h.mono hg⟩
theorem KB.below {g : Nat} {w W W2 : World} (h : KB g w W) (hg : g ≤ w.heap.size) (hb : Below W.heap.size W W2) : KB g w W2 := ⟨h.kept.below hb, h.low.trans (hb.mono (Nat.le_trans hg h.kept.1))⟩
theorem KB.set {g : Nat} {w W : World} (h : KB g w W) (j : Nat) (u : Value) : KB g w (W.setCell ⟨g, j, none⟩ u) := ⟨Kept.setCell (S := fun k => k = g) (p := ⟨g, j, none⟩) h.kept (.inl rfl) u, h.low.setCell (p := ⟨g, j, none⟩) (Nat.le_refl _) u⟩
def StepOut (w : World) (g : Nat) (A0 : Option Addr) (n c0 : Nat) (room cu cg : Int) (r : Int ⊕ (Int × List ByteArray × Nat)) (e : Ending) (w' : World) : Prop :=
  KB g w w' ∧ match r with
  | .inl c => e = .returned (.int .i64 c)
  | .inr (a, ps, h) => e = .returned (.int .i64 0) ∧ LookAt w' g A0 n c0 room cu cg a ps h
theorem look7 {W : World} {g T : Nat} {v0 v1 v2 v3 v4 v5 v6 : Value} (h : W.heap[g]? = some (.cells #[v0, v1, v2, v3, v4, v5, v6] T (0, 0))) : W.cell? ⟨g, 0, none⟩ = some v0 ∧ W.cell? ⟨g, 1, none⟩ = some v1 ∧ W.cell? ⟨g, 2, none⟩ = some v2 ∧ W.cell? ⟨g, 3, none⟩ = some v3 ∧ W.cell? ⟨g, 4, none⟩ = some v4 ∧ W.cell? ⟨g, 5, none⟩ = some v5 ∧ W.cell? ⟨g, 6, none⟩ = some v6 :=
  ⟨(blk_cell h 0).trans rfl, (blk_cell h 1).trans rfl, (blk_cell h 2).trans rfl, (blk_cell h 3).trans rfl, (blk_cell h 4).trans rfl, (blk_cell h 5).trans rfl, (blk_cell h 6).trans rfl⟩
theorem C_keptS {w W : World} {A : Option Addr} {l : List ByteArray} {g : Nat} (h : Kd.C Kd.string w A l.length l) (hk : Kept w W (fun k => k = g)) (hne : ∀ ad, A = some ad → 0 < l.length → ad.block ≠ g) : Kd.C Kd.string W A l.length l :=
  Kd.C_keep ByteArray.empty h ⟨hk.1, fun k hlt hkg _ => hk.2 k hlt hkg⟩ hne
def step4_T24 : Bool × List (List Nat × List Nat) := (true, [([], []), ([], []), ([1], [1]), ([2], [2]), ([], []), ([4], [4]), ([5], [5]), ([6], [6]), ([3, 7, 3], [3, 7]), ([0, 0, 1, 2, 3, 4, 5, 6, 7, 8], [0]), ([9, 0, 1, 2, 3, 4, 5, 6, 7, 8], [9]), ([10, 8, 8, 0, 1, 2, 3, 4, 5, 6, 7, 8], [8, 10])])
def step4_B24 : List Nat := [0, 0, 2, 6, 0, 16, 48, 112, 254, 511, 1023, 2047]
theorem step4_tab24 : rtab .any (opsOf Tryz.f123 24) = step4_T24 := by kernel_rfl
theorem step4_bits24 : waitsOk step4_T24.2 step4_B24 = true := by kernel_rfl
theorem strInfoS : (Tryz.prog.info? 9).map (fun i => (i.zero, i.size, i.bytes)) = some (some (.string ⟨#[]⟩), 1, 16) := by kernel_rfl
set_option maxHeartbeats 8000000 in
set_option maxRecDepth 100000 in
theorem step_walk (ns : List Nd) (A0 : Option Addr) (c0 : Nat) (room cu cg : Int) (w0 : World) (hr0 : Kd.C k85 w0 A0 ns.length ns) (hc0 : ns.length ≤ c0) (hf : FsFit ns) (hg : SGood ns room) (fol : Bool) (a : Int) (p : ByteArray) (rest : List ByteArray) (hops : Nat) (g : Nat) (w : World)
    (hb : Below w0.heap.size w0 w) (hgw : w0.heap.size ≤ g) (hai : a ∈ allN ns.length) (hl : rest.length ≤ 2000) (hh : hops ≤ 8) (hk : LookAt w g A0 ns.length c0 room cu cg a (p :: rest) hops) :
    Calls Tryz.prog 123 #[.pointer (some ⟨g, 0, none⟩), .bool fol] w fun e w' => StepOut w g A0 ns.length c0 room cu cg (stepF ns cu cg fol a p rest hops) e w' := by
  have hu1 := Tryz.underlying34
  have hu2 := Tryz.underlying36
  have hu3 := Tryz.underlying29
  have hu4 := Tryz.underlying160
  have hu5 := Tryz.underlying85
  obtain ⟨A, c, hbk, hC, hc, hne⟩ := hk.at_
  have HR0 := Aside0.mk hr0
  have HC0 := Aside0.mk hc0
  have HF := Aside0.mk hf
  have HG := Aside0.mk hg
  have HB0 := Aside0.mk hb
  have HGW := Aside0.mk hgw
  have HAI := Aside0.mk hai
  have HL := Aside0.mk hl
  have HH := Aside0.mk hh
  have HCp := Aside0.mk hC
  have HLc := Aside0.mk hc
  have HNE := Aside0.mk hne
  have BK := Aside0.mk hbk
  obtain ⟨y0, y1⟩ := (allN_mem _ _).mp hai
  obtain ⟨bd, B6, d6, hbd, hna, hd6, hC6⟩ := node_at hr0 a hai
  subst hbd
  obtain ⟨nd, hnd⟩ : ∃ x, x = ndR ns a := ⟨_, rfl⟩
  rw [← hnd] at hna hd6 hC6
  have HND := Aside0.mk (show ndR ns a = nd from hnd.symm)
  obtain ⟨e0, e1, e2, e3, e4, e5, e6⟩ := hna.below hb
  have HD6 := Aside0.mk hd6
  have HC6 := Aside0.mk hC6
  have cz := fun o => blk_cell hbk o
  have c0' : w.cell? ⟨g, 0, none⟩ = some (.slice (some bd) ns.length c0) := (blk_cell hbk 0).trans rfl
  have c1' : w.cell? ⟨g, 4, none⟩ = some (.int .i64 a) := (blk_cell hbk 4).trans rfl
  have hgl : g < w.heap.size := blk_lt hbk
  have hbl : (bd.add (a.toNat * 7)).block < w.heap.size := by have h := World.block_lt_of_cell? w _ e0; simpa using h
  have y0' : ((0 : Int) ≤ a) = True := eq_true y0
  have y1' : (a < (ns.length : Int)) = True := eq_true y1
  clear hr0 hc0 hf hg hb hgw hai hl hh hk hbk hC hc hne cz hnd hd6 hC6 y0 y1 hna
  go_enter Tryz.func123, Tryz.ntmps123
  go_upto_region 1 with (fail)
  go_region
  go_upto_region 2 with (fail)
  obtain ⟨gx, hgx⟩ : ∃ k, k = w.heap.size := ⟨_, rfl⟩
  obtain ⟨W1, hW1⟩ : ∃ W, W = (w.alloc (.cells #[.int .i64 nd.f0, .int .i64 nd.f1, .int .i64 nd.f2, .int .i64 nd.f3, .int .i64 nd.f4, .string nd.f5, .slice B6 nd.f6.length d6] 85 (0, 0))).drew := ⟨_, rfl⟩
  have hb1 : Below w.heap.size w W1 := by rw [hW1]; exact below_drew1 (below_alloc (Below.refl _ _) _)
  have BX1 := Aside0.mk (show W1.heap[gx]? = some (.cells #[.int .i64 nd.f0, .int .i64 nd.f1, .int .i64 nd.f2, .int .i64 nd.f3, .int .i64 nd.f4, .string nd.f5, .slice B6 nd.f6.length d6] 85 (0, 0)) from by rw [hW1, hgx]; exact blk_drew (blk_new _ _))
  have GX : Aside0 (gx ≠ g) := ⟨by omega⟩
  have D1 := Aside0.mk hb1
  have BK1 := Aside0.mk (blk_below BK.out hb1)
  rw [← hW1, ← hgx]
  have n0 : W1.cell? ⟨gx, 0, none⟩ = some (.int .i64 nd.f0) := (blk_cell BX1.out 0).trans rfl
  clear hW1 hb1 hgx c0' c1' e0 e1 e2 e3 e4 e5 e6 hbl
  have HST : Aside0 (stepF ns cu cg fol a p rest hops = _) := ⟨by unfold stepF; rw [HND.out]⟩
  by_cases k1 : nd.f0 ≠ 2
  · have z1 : (nd.f0 != 2) = true := by simpa using k1
    have z2 : decide (nd.f0 = 2) = false := decide_eq_false k1
    have HS : Aside0 (stepF ns cu cg fol a p rest hops = .inl 3) := ⟨by rw [HST.out, if_pos k1]⟩
    clear k1
    go_wp2
    go_ret
    rw [HS.out]
    exact ⟨KB.of_below D1.out (Nat.le_of_lt hgl), rfl⟩
  · have k1 : nd.f0 = 2 := Classical.byContradiction k1
    have z1 : (nd.f0 != 2) = false := by simpa using k1
    have z2 : decide (nd.f0 = 2) = true := decide_eq_true k1
    have hs := HST.out
    rw [if_neg (fun h => h k1)] at hs
    have HS := Aside0.mk hs
    have HMA := Aside0.mk (fun (W : World) (hb : Below w.heap.size w W) => spec_l4May.calls (some bd) c0 ns room cu cg a 1 _ W (Kd.C_below HR0.out (HB0.out.trans (hb.mono HB0.out.size))) HC0.out (l4May_f room cu cg a 1 (fun x hx => ((nodeB_iff ns x).mp (HG.out.node x hx)).1) HAI.out (by decide) (by decide)))
    clear k1 HST hs
    obtain ⟨l0, l1, l2, l3, l4, l5, l6⟩ := look7 BK1.out
    go_upto_region 4 with (fail)
    clear z1 z2 n0
    cases k2 : mayB cu cg nd 1 with
    | false =>
      have HMB := HMA.out
      rw [HND.out, k2] at HMB
      have HM := Aside0.mk HMB
      have HS2 : Aside0 (stepF ns cu cg fol a p rest hops = .inl 4) := ⟨by rw [HS.out, if_pos k2]⟩
      clear HMB HMA k2 HS
      go_region_held3 (fun W => W.cell? ⟨g, 0, none⟩ = some (.slice (some bd) ns.length c0) ∧ W.cell? ⟨g, 1, none⟩ = some (.int .i64 room) ∧ W.cell? ⟨g, 2, none⟩ = some (.int .i64 cu) ∧ W.cell? ⟨g, 3, none⟩ = some (.int .i64 cg) ∧ W.cell? ⟨g, 4, none⟩ = some (.int .i64 a) ∧ W.cell? ⟨g, 5, none⟩ = some (.slice A (p :: rest).length c) ∧ W.cell? ⟨g, 6, none⟩ = some (.int .i64 (hops : Int))) (first | exact look7 (blk_drew BK1.out) | exact look7 (blk_below (blk_drew BK1.out) hd)) (first | (go_at_call 124; refine (HM.out _ (below_drew1 D1.out)).mono ?_; rintro e w2 ⟨rfl, hd⟩))
      go_wp2
      go_ret
      rw [HS2.out]
      exact ⟨KB.of_below (below_step (below_step D1.out (below_drew1 (Below.refl _ _))) hd) (Nat.le_of_lt hgl), rfl⟩
    | true =>
      have HMB := HMA.out
      rw [HND.out, k2] at HMB
      have HM := Aside0.mk HMB
      have hs := HS.out
      rw [if_neg (by rw [k2]; simp)] at hs
      have HS2 := Aside0.mk hs
      clear HMB HMA k2 HS hs
      go_region_held3 (fun W => W.cell? ⟨g, 0, none⟩ = some (.slice (some bd) ns.length c0) ∧ W.cell? ⟨g, 1, none⟩ = some (.int .i64 room) ∧ W.cell? ⟨g, 2, none⟩ = some (.int .i64 cu) ∧ W.cell? ⟨g, 3, none⟩ = some (.int .i64 cg) ∧ W.cell? ⟨g, 4, none⟩ = some (.int .i64 a) ∧ W.cell? ⟨g, 5, none⟩ = some (.slice A (p :: rest).length c) ∧ W.cell? ⟨g, 6, none⟩ = some (.int .i64 (hops : Int))) (first | exact look7 (blk_drew BK1.out) | exact look7 (blk_below (blk_drew BK1.out) hd)) (first | (go_at_call 124; refine (HM.out _ (below_drew1 D1.out)).mono ?_; rintro e w2 ⟨rfl, hd⟩))
      have hdd : Below W1.heap.size W1 w2 := below_step (below_drew1 (Below.refl _ _)) hd
      have D2 := Aside0.mk (below_step D1.out hdd)
      have BK2 := Aside0.mk (blk_below BK1.out hdd)
      have BX2 := Aside0.mk (blk_below BX1.out hdd)
      clear hd hdd BK1 BX1 D1 l0 l1 l2 l3 l4 l5 l6 HM
      have hCp := Kd.C_below HCp.out D2.out
      obtain ⟨pd, cs, e, _, hK, hcell0⟩ := Kd.C_get hCp ByteArray.empty 0 (by omega) (by simp only [List.length_cons]; omega)
      subst e
      obtain rfl : cs = [.string p] := hK
      have hx : w2.cell? pd = some (.string p) := by have h := hcell0 0 (.string p) rfl; simpa [Addr.add] using h
      obtain ⟨A1, hA1⟩ : ∃ A1, A1 = (if c = 1 then some pd else some (⟨pd.block, pd.off + 1, none⟩ : Addr)) := ⟨_, rfl⟩
      have HA2 : Aside0 (Kd.C Kd.string w2 A1 rest.length rest ∧ rest.length ≤ c - 1) := ⟨by
        have h := Kd.C_drop (c := c) (m := 1) hCp (by simp only [List.length_cons]; omega) HLc.out
        rw [hA1]
        exact h, by have := HLc.out; simp only [List.length_cons] at this; omega⟩
      have HN2 : Aside0 (∀ ad, A1 = some ad → 0 < rest.length → ad.block ≠ g) := ⟨fun ad had _ => by
        have h := HNE.out pd rfl (by simp only [List.length_cons]; omega)
        rw [hA1] at had
        split at had <;> (injection had with had; subst had; exact h)⟩
      have l5 : w2.cell? ⟨g, 5, none⟩ = some (.slice (some pd) (p :: rest).length c) := (blk_cell BK2.out 5).trans rfl
      have f5 : w2.frozen? ⟨g, 5, none⟩ = false := blk_frozen BK2.out 5
      have p1 : ((0 : Int) < ((p :: rest).length : Int)) = True := eq_true (by simp only [List.length_cons]; omega)
      clear hCp hcell0 HNE HCp
      go_upto_region 8 with (fail)
      rw [← hA1]
      obtain ⟨W3, hW3⟩ : ∃ W, W = w2.setCell ⟨g, 5, none⟩ (.slice A1 rest.length (c - 1)) := ⟨_, rfl⟩
      have K3 := Aside0.mk (show KB g w W3 from by rw [hW3]; exact (KB.of_below D2.out (Nat.le_of_lt hgl)).set 5 _)
      have B3 := Aside0.mk (show Below w0.heap.size w0 W3 from by rw [hW3]; exact (HB0.out.trans (D2.out.mono HB0.out.size)).setCell HGW.out _)
      have BK3 := Aside0.mk (show W3.heap[g]? = some (.cells (lookC (some bd) ns.length c0 room cu cg a A1 rest.length (c - 1) hops) 160 (0, 0)) from by rw [hW3]; exact blk_put BK2.out 5 _ rfl)
      have BX3 := Aside0.mk (show W3.heap[gx]? = some (.cells #[.int .i64 nd.f0, .int .i64 nd.f1, .int .i64 nd.f2, .int .i64 nd.f3, .int .i64 nd.f4, .string nd.f5, .slice B6 nd.f6.length d6] 85 (0, 0)) from by rw [hW3]; exact blk_far BX2.out (p := ⟨g, 5, none⟩) GX.out _)
      have HP3 : Aside0 (Kd.C Kd.string W3 A1 rest.length rest) := ⟨C_keptS HA2.out.1 (by rw [hW3]; exact Kept.setCell (S := fun k => k = g) (p := ⟨g, 5, none⟩) (Kept.refl w2 _) (.inl rfl) _) HN2.out⟩
      have HLE : Aside0 (rest.length ≤ c - 1) := ⟨HA2.out.2⟩
      rw [← hW3]
      clear hW3 hA1 hx l5 f5 D2 BK2 BX2 HA2 p1
      by_cases k3 : p.toList = [46]
      · have e3 : (p.toList == [46]) = true := by simpa using k3
        have e4 : decide (p.toList = [46]) = true := decide_eq_true k3
        have HS3 : Aside0 (stepF ns cu cg fol a p rest hops = .inr (a, rest, hops)) := ⟨by rw [HS2.out, if_pos k3]⟩
        clear HS2 k3
        go_wp2
        go_ret
        rw [HS3.out]
        exact ⟨K3.out, rfl, ⟨A1, c - 1, BK3.out, HP3.out, HLE.out, HN2.out⟩⟩
      · have e3 : (p.toList == [46]) = false := by simpa using k3
        have e4 : decide (p.toList = [46]) = false := decide_eq_false k3
        have hs := HS2.out
        rw [if_neg k3] at hs
        have HS3 := Aside0.mk hs
        clear HS2 k3 hs
        by_cases k4 : p.toList = [46, 46]
        · have e5 : (p.toList == [46, 46]) = true := by simpa using k4
          have e6 : decide (p.toList = [46, 46]) = true := decide_eq_true k4
          have HS4 : Aside0 (stepF ns cu cg fol a p rest hops = .inr (parentR ns a, rest, hops)) := ⟨by rw [HS3.out, if_pos k4]⟩
          have HPA := Aside0.mk (fun (W : World) (hb : Below w0.heap.size w0 W) => parent4_w ns (some bd) c0 room a W (Kd.C_below HR0.out hb) HF.out)
          obtain ⟨l0, l1, l2, l3, l4, l5, l6⟩ := look7 BK3.out
          have f4 : W3.frozen? ⟨g, 4, none⟩ = false := blk_frozen BK3.out 4
          clear HS3 k4
          go_upto_region 12 with (fail)
          go_region_with (go_at_call 149; refine (HPA.out _ (below_drew1 B3.out)).mono ?_; rintro e w4 ⟨rfl, hd⟩; have BK4 := Aside0.mk (blk_below (blk_drew BK3.out) hd); have l4 : w4.cell? ⟨g, 4, none⟩ = some (.int .i64 a) := (blk_cell BK4.out 4).trans rfl; have f4 : w4.frozen? ⟨g, 4, none⟩ = false := blk_frozen BK4.out 4)
          all_goals
            go_wp2
            go_ret
            rw [HS4.out]
            refine ⟨(K3.out.below (Nat.le_of_lt hgl) (below_step (below_drew1 (Below.refl _ _)) hd)).set 4 _, rfl, ⟨A1, c - 1, blk_put BK4.out 4 _ rfl, ?_, HLE.out, HN2.out⟩⟩
            exact C_keptS HP3.out (Kept.setCell (S := fun k => k = g) (p := ⟨g, 4, none⟩) (Kept.of_below (below_step (below_drew1 (Below.refl _ _)) hd) _) (.inl rfl) _) HN2.out
        · have e5 : (p.toList == [46, 46]) = false := by simpa using k4
          have e6 : decide (p.toList = [46, 46]) = false := decide_eq_false k4
          have hs := HS3.out
          rw [if_neg k4] at hs
          obtain ⟨nx, hnx⟩ : ∃ nx, nx = entR nd.f6 p := ⟨_, rfl⟩
          rw [← hnx] at hs
          have HS4 := Aside0.mk hs
          obtain ⟨k, hent⟩ := (l3At_ev nd.f6 (by have h := ndR_list HF.out a; rw [HND.out] at h; exact h) p).rounds
          rw [← hnx] at hent
          have HNX : Aside0 (¬ nx < 0 → nx ∈ allN ns.length) := ⟨fun h => by
            have e : entR (ndR ns a).f6 p = nx := by rw [HND.out]; exact hnx.symm
            rw [← e] at h ⊢; exact ent_in (tree_of HG.out).sub a HAI.out p h⟩
          have HEN := Aside0.mk (fun (W : World) (hb : Below w0.heap.size w0 W) => spec_l3At.calls k B6 d6 nd.f6 p nx W (Kd.C_below HC6.out hb) HD6.out hent)
          have x6 : W3.cell? ⟨gx, 6, none⟩ = some (.slice B6 nd.f6.length d6) := (blk_cell BX3.out 6).trans rfl
          clear HS3 k4 hs hnx hent
          by_cases k5 : nx < 0
          · have e7 : decide (nx < 0) = true := decide_eq_true k5
            have HS5 : Aside0 (stepF ns cu cg fol a p rest hops = .inl 2) := ⟨by rw [HS4.out, if_pos k5]⟩
            clear HS4 HNX k5
            go_wp2_with fail
            refine (HEN.out _ B3.out).mono ?_; rintro e w4 ⟨rfl, hd⟩
            go_wp2
            go_ret
            rw [HS5.out]
            exact ⟨K3.out.below (Nat.le_of_lt hgl) hd, rfl⟩
          · have e7 : decide (nx < 0) = false := decide_eq_false k5
            have hs := HS4.out
            rw [if_neg k5] at hs
            have hni := HNX.out k5
            have HNI := Aside0.mk hni
            obtain ⟨bd', By, dy, hbd, hna, -, -⟩ := node_at HR0.out nx hni
            injection hbd with hbd
            subst hbd
            obtain ⟨y, hy⟩ : ∃ x, x = ndR ns nx := ⟨_, rfl⟩
            rw [← hy] at hna hs
            have HY := Aside0.mk (show ndR ns nx = y from hy.symm)
            have HNA := Aside0.mk hna
            have HS5 := Aside0.mk hs
            obtain ⟨y0, y1⟩ := (allN_mem _ _).mp hni
            have q0 : ((0 : Int) ≤ nx) = True := eq_true y0
            have q1 : (nx < (ns.length : Int)) = True := eq_true y1
            clear HS4 HNX k5 hs hni hna hy y0 y1
            go_wp2_with fail
            refine (HEN.out _ B3.out).mono ?_; rintro e w4 ⟨rfl, hd⟩
            have K4 := Aside0.mk (K3.out.below (Nat.le_of_lt hgl) hd)
            have B4 := Aside0.mk (B3.out.trans (hd.mono B3.out.size))
            have BK4 := Aside0.mk (blk_below BK3.out hd)
            have HP4 := Aside0.mk (Kd.C_below HP3.out hd)
            obtain ⟨a0, a1, a2, a3, a4, a5, a6⟩ := HNA.out.below B4.out
            have c0' : w4.cell? ⟨g, 0, none⟩ = some (.slice (some bd) ns.length c0) := (blk_cell BK4.out 0).trans rfl
            clear hd K3 B3 BK3 BX3 HP3 x6 HEN HNA
            go_upto_region 18 with (fail)
            obtain ⟨gy, hgy⟩ : ∃ k, k = w4.heap.size := ⟨_, rfl⟩
            obtain ⟨W5, hW5⟩ : ∃ W, W = w4.alloc (.cells #[.int .i64 y.f0, .int .i64 y.f1, .int .i64 y.f2, .int .i64 y.f3, .int .i64 y.f4, .string y.f5, .slice By y.f6.length dy] 85 (0, 0)) := ⟨_, rfl⟩
            have hb5 : Below w4.heap.size w4 W5 := by rw [hW5]; exact below_alloc (Below.refl _ _) _
            have BY5 := Aside0.mk (show W5.heap[gy]? = some (.cells #[.int .i64 y.f0, .int .i64 y.f1, .int .i64 y.f2, .int .i64 y.f3, .int .i64 y.f4, .string y.f5, .slice By y.f6.length dy] 85 (0, 0)) from by rw [hW5, hgy]; exact blk_new _ _)
            have GY : Aside0 (gy ≠ g) := ⟨by have h := blk_lt BK4.out; omega⟩
            have K5 := Aside0.mk (K4.out.below (Nat.le_of_lt hgl) hb5)
            have B5 := Aside0.mk (B4.out.trans (hb5.mono B4.out.size))
            have BK5 := Aside0.mk (blk_below BK4.out hb5)
            have HP5 := Aside0.mk (Kd.C_below HP4.out hb5)
            rw [← hW5, ← hgy]
            obtain ⟨-, -, -, -, l4, l5, l6⟩ := look7 BK5.out
            have f4 : W5.frozen? ⟨g, 4, none⟩ = false := blk_frozen BK5.out 4
            have f6 : W5.frozen? ⟨g, 6, none⟩ = false := blk_frozen BK5.out 6
            have n0 : W5.cell? ⟨gy, 0, none⟩ = some (.int .i64 y.f0) := (blk_cell BY5.out 0).trans rfl
            clear hW5 hgy hb5 K4 B4 BK4 HP4 a0 a1 a2 a3 a4 a5 a6 c0' q0 q1
            by_cases k6 : y.f0 ≠ 3 ∨ (rest = [] ∧ fol = false)
            · have HS6 : Aside0 (stepF ns cu cg fol a p rest hops = .inr (nx, rest, hops)) := ⟨by rw [HS5.out, if_pos k6]⟩
              have hcs : (y.f0 != 3) = true ∨ ((y.f0 != 3) = false ∧ rest = [] ∧ fol = false) := by
                by_cases h3 : y.f0 = 3
                · exact .inr ⟨by simp [h3], k6.resolve_left (fun h => h h3)⟩
                · exact .inl (by simpa using h3)
              clear HS5 k6
              rcases hcs with z1 | ⟨z1, hr, hfo⟩ <;> (try subst hr) <;> (try subst hfo) <;> (
                go_wp2
                go_ret
                rw [HS6.out]
                exact ⟨K5.out.set 4 _, rfl, ⟨A1, c - 1, blk_put BK5.out 4 _ rfl, C_keptS HP5.out (Kept.setCell (S := fun k => k = g) (p := ⟨g, 4, none⟩) (Kept.refl _ _) (.inl rfl) _) HN2.out, HLE.out, HN2.out⟩⟩)
            · have h3 : y.f0 = 3 := Classical.byContradiction fun h => k6 (.inl h)
              have z1 : (y.f0 != 3) = false := by simp [h3]
              have hs := HS5.out
              rw [if_neg k6] at hs
              have HS6 := Aside0.mk hs
              have hgp := link_data (fun x hx => ((nodeB_iff ns x).mp (HG.out.node x hx)).1) nx HNI.out (by rw [HY.out]; exact h3)
              rw [HY.out] at hgp
              have HGP := Aside0.mk (goodPath_size hgp)
              have hcs : (rest = [] ∧ fol = true) ∨ ∃ q r, rest = q :: r := by
                cases rest with
                | cons q r => exact .inr ⟨q, r, rfl⟩
                | nil =>
                  cases fol with
                  | true => exact .inl ⟨rfl, rfl⟩
                  | false => exact absurd (.inr ⟨rfl, rfl⟩) k6
              clear HS5 hs hgp h3 k6
              by_cases k7 : hops = 8
              · have HS7 : Aside0 (stepF ns cu cg fol a p rest hops = .inl 5) := ⟨by rw [HS6.out, if_pos k7]⟩
                have z2 : ((hops : Int) == 8) = true := by rw [k7]; rfl
                have z3 : decide ((hops : Int) = 8) = true := decide_eq_true (by omega)
                clear HS6 k7
                rcases hcs with ⟨hr, hfo⟩ | ⟨q, r, hr⟩ <;> subst hr <;> (try subst hfo) <;> (
                  go_wp2
                  go_ret
                  rw [HS7.out]
                  exact ⟨K5.out, rfl⟩)
              · have z2 : ((hops : Int) == 8) = false := by simp; omega
                have z3 : decide ((hops : Int) = 8) = false := decide_eq_false (by omega)
                have wh : IntKind.i64.wrap ((hops : Int) + 1) = ((hops + 1 : Nat) : Int) := (i64_w _).trans (by have := HH.out; unfold wrap64; omega)
                have HS7 : Aside0 (stepF ns cu cg fol a p rest hops = .inr (if bt y.f5 0 = 47 then 0 else a, partsL y.f5 ++ rest, hops + 1)) := ⟨by rw [HS6.out, if_neg k7]⟩
                obtain ⟨k, hk⟩ := (l2Parts_ev y.f5 (by have := HGP.out; omega)).rounds
                have HLP := Aside0.mk (fun (W : World) => spec_l2Parts.calls k y.f5 (partsL y.f5) W hk)
                have HAL : Aside0 (((partsL y.f5).length + rest.length) * 16 ≤ 140737488355328) := ⟨by have h1 := parts_few y.f5; have h2 := HGP.out; have h3 := HL.out; omega⟩
                obtain ⟨cat, hcat⟩ : ∃ l, l = partsL y.f5 ++ rest := ⟨_, rfl⟩
                have HCAT := Aside0.mk hcat
                obtain ⟨ln, hln⟩ : ∃ n, n = rest.length := ⟨_, rfl⟩
                have HX : Aside0 (0 < y.f5.size) := ⟨by have := HGP.out; omega⟩
                rw [← hcat] at HS7
                have BK7 := Aside0.mk (show W5.heap[g]? = some (.cells (lookC (some bd) ns.length c0 room cu cg a A1 ln (c - 1) hops) 160 (0, 0)) from by rw [hln]; exact BK5.out)
                have HP7 : Aside0 (Kd.C Kd.string W5 A1 ln rest) := ⟨by rw [hln]; exact HP5.out⟩
                have HAM : Aside0 (((partsL y.f5).length + ln) * 16 ≤ 140737488355328) := ⟨by rw [hln]; exact HAL.out⟩
                clear HS6 k7 hk hcat HGP HAL hln HP5 BK5
                rcases hcs with ⟨hr, hfo⟩ | ⟨q, r, hr⟩ <;> subst hr <;> (try subst hfo) <;> (
                  go_upto_region 24 with (fail)
                  obtain ⟨W6, hW6⟩ : ∃ W, W = W5.setCell ⟨g, 6, none⟩ (.int .i64 ((hops : Int) + 1)) := ⟨_, rfl⟩
                  have K6 := Aside0.mk (show KB g w W6 from by rw [hW6]; exact K5.out.set 6 _)
                  have BK6 := Aside0.mk (show W6.heap[g]? = some (.cells (lookC (some bd) ns.length c0 room cu cg a A1 ln (c - 1) (hops + 1)) 160 (0, 0)) from by rw [hW6]; exact blk_put BK7.out 6 _ rfl)
                  have BY6 := Aside0.mk (show W6.heap[gy]? = some (.cells #[.int .i64 y.f0, .int .i64 y.f1, .int .i64 y.f2, .int .i64 y.f3, .int .i64 y.f4, .string y.f5, .slice By y.f6.length dy] 85 (0, 0)) from by rw [hW6]; exact blk_far BY5.out (p := ⟨g, 6, none⟩) GY.out _)
                  have HP6 := Aside0.mk (show Kd.C Kd.string W6 A1 ln _ from by rw [hW6]; exact Kd.C_keep ByteArray.empty HP7.out (by have h := Kept.setCell (S := fun k => k = g) (p := ⟨g, 6, none⟩) (Kept.refl W5 _) (.inl rfl) (.int .i64 ((hops : Int) + 1)); exact ⟨h.1, fun k hlt hkg _ => h.2 k hlt hkg⟩) (fun ad had hl => HN2.out ad had (by have e := HP7.out.1; omega)))
                  rw [← hW6]
                  clear hW6 K5 BK7 BY5 HP7 l4 l5 l6 f4 f6 n0
                  refine start_ (n := 12) (S := fun w' => w'.cell? ⟨gy, 5, none⟩ = some (.string y.f5) ∧ w'.cell? ⟨g, 5, none⟩ = some (.slice A1 ln (c - 1))) (ds := [11]) #[false, false, false, false, false, false, false, false, false, false, false, false] (by kernel_rfl) rfl rfl ⟨(blk_cell (blk_drew BY6.out) 5).trans rfl, (blk_cell (blk_drew BK6.out) 5).trans rfl⟩ (fun hHeld => ?_)
                  refine with_tabW step4_tab24 step4_bits24 (fun HT_ HW_ => ?_)
                  refine pure_ (i := 0) (N := some 115) (v := ?_) (a' := ?_) #[true, false, false, false, false, false, false, false, false, false, false, false] rfl rfl (any_of HT_.out (by kernel_rfl)) (fun _ _ _ h => h) (Or.inl ⟨by rfl, ?_⟩) ?_ ?_
                  rotate_left
                  · intro w'
                    go_simp
                    with_reducible rfl
                  rotate_left
                  · simp only [Act.put, List.setIfInBounds_toArray, List.set_cons_zero, List.set_cons_succ, i64_w, i32_w]
                    rfl
                  refine pure_ (i := 1) (N := some 116) (v := ?_) (a' := ?_) #[true, true, false, false, false, false, false, false, false, false, false, false] rfl rfl (any_of HT_.out (by kernel_rfl)) (fun _ _ _ h => h) (Or.inl ⟨by rfl, ?_⟩) ?_ ?_
                  rotate_left
                  · intro w'
                    go_simp
                    with_reducible rfl
                  rotate_left
                  · simp only [Act.put, List.setIfInBounds_toArray, List.set_cons_zero, List.set_cons_succ, i64_w, i32_w]
                    rfl
                  refine pure_ (i := 4) (N := some 119) (v := ?_) (a' := ?_) #[true, true, false, false, true, false, false, false, false, false, false, false] rfl rfl (any_of HT_.out (by kernel_rfl)) (fun _ _ _ h => h) (Or.inl ⟨by rfl, ?_⟩) ?_ ?_
                  rotate_left
                  · intro w'
                    go_simp
                    with_reducible rfl
                  rotate_left
                  · simp only [Act.put, List.setIfInBounds_toArray, List.set_cons_zero, List.set_cons_succ, i64_w, i32_w]
                    rfl
                  refine pure_ (i := 5) (N := some 120) (v := ?_) (a' := ?_) #[true, true, false, false, true, true, false, false, false, false, false, false] rfl rfl (any_of HT_.out (by kernel_rfl)) (fun _ _ _ h => h) (Or.inl ⟨by rfl, ?_⟩) ?_ ?_
                  rotate_left
                  · intro w'
                    go_simp
                    with_reducible rfl
                  rotate_left
                  · simp only [Act.put, List.setIfInBounds_toArray, List.set_cons_zero, List.set_cons_succ, i64_w, i32_w]
                    rfl
                  refine pure_ (i := 6) (N := some 121) (v := ?_) (a' := ?_) #[true, true, false, false, true, true, true, false, false, false, false, false] rfl rfl (any_of HT_.out (by kernel_rfl)) (fun _ _ _ h => h) (Or.inl ⟨by rfl, ?_⟩) ?_ ?_
                  rotate_left
                  · intro w'
                    go_simp
                    with_reducible rfl
                  rotate_left
                  · simp only [Act.put, List.setIfInBounds_toArray, List.set_cons_zero, List.set_cons_succ, i64_w, i32_w]
                    rfl
                  refine take_ (i := 2) (N := some 117) (v := ?_) (a' := ?_) #[true, true, true, false, true, true, true, false, false, false, false, false] rfl rfl (take_ofW HT_.out HW_.out (by kernel_rfl)) (fun _ _ _ h => h) (Or.inl ⟨by rfl, ?_⟩) hHeld ?_ ?_
                  rotate_left
                  · rintro w' ⟨s0, s1⟩
                    go_simp
                    with_reducible rfl
                  rotate_left
                  · simp only [Act.put, List.setIfInBounds_toArray, List.set_cons_zero, List.set_cons_succ, i64_w, i32_w]
                    rfl
                  refine take_ (i := 7) (N := some 122) (v := ?_) (a' := ?_) #[true, true, true, false, true, true, true, true, false, false, false, false] rfl rfl (take_ofW HT_.out HW_.out (by kernel_rfl)) (fun _ _ _ h => h) (Or.inl ⟨by rfl, ?_⟩) hHeld ?_ ?_
                  rotate_left
                  · rintro w' ⟨s0, s1⟩
                    go_simp
                    with_reducible rfl
                  rotate_left
                  · simp only [Act.put, List.setIfInBounds_toArray, List.set_cons_zero, List.set_cons_succ, i64_w, i32_w]
                    rfl
                  refine one_ (i := 3) (N := some 118) #[true, true, true, true, true, true, true, true, false, false, false, false] rfl rfl (one_of HT_.out (by kernel_rfl)) (by decide) (fun K hK => ?_)
                  refine goes_ Tryz.func102 (by kernel_rfl) rfl #[.string y.f5] (by rfl) rfl rfl (by simp only [List.map_toArray, List.map_cons, List.map_nil]; rfl) ?_
                  with_reducible refine (HLP.out _).mono ?_
                  rintro e w7 ⟨v7, rfl, ho7, hd7⟩
                  refine ⟨_, rfl, ?_⟩
                  have D7 := Aside0.mk (show Below W6.heap.size W6 w7 from below_step (below_drew1 (Below.refl W6.heap.size W6)) hd7)
                  have O7 : Aside0 (Kd.R Kd.string 9 w7 W6.heap.size (fun _ => True) v7 (partsL y.f5)) := ⟨ho7⟩
                  refine hK.out _ _ ⟨pw_cell_below hd7 hHeld.1, pw_cell_below hd7 hHeld.2⟩ (fun hHeld => ?_)
                  clear hK K
                  refine norm_ (a' := ?_) ?_ ?_
                  rotate_left
                  · show Act.put _ (some 118) _ = _
                    simp only [Act.put, List.setIfInBounds_toArray, List.set_cons_zero, List.set_cons_succ, i64_w, i32_w]
                    rfl
                  refine one_ (i := 8) (N := some 123) #[true, true, true, true, true, true, true, true, true, false, false, false] rfl rfl (one_of HT_.out (by kernel_rfl)) (by decide) (fun K hK => ?_)
                  refine Kd.R_append_rows_step Kd.string (w0 := W6) W6.heap.size (by rfl) (.tmp 118) (.tmp 122) 29 9 (.string ⟨#[]⟩) 16 rfl Tryz.underlying29 strInfoS rfl (by decide) (by decide) v7 (partsL y.f5) _ _ _ _ (fun _ => True) (fun _ => False) rfl rfl O7.out (Kd.C_below HP6.out D7.out) (fun _ _ h => h) (fun _ h => h.elim) (fun _ _ => trivial) D7.out D7.out.size ?aL ?_
                  case aL => exact HAM.out
                  intro v8 w8 ho8 hb8 hg8 hat8
                  rw [← HCAT.out] at ho8
                  clear hg8 hat8 O7 D7
                  refine hK.out _ _ ⟨(blk_cell (blk_below BY6.out hb8) 5).trans rfl, (blk_cell (blk_below BK6.out hb8) 5).trans rfl⟩ (fun hHeld => ?_)
                  clear hK K
                  refine norm_ (a' := ?_) ?_ ?_
                  rotate_left
                  · show Act.put _ (some 123) _ = _
                    simp only [Act.put, List.setIfInBounds_toArray, List.set_cons_zero, List.set_cons_succ, i64_w, i32_w]
                    rfl
                  refine pure_ (i := 9) (N := some 124) (v := ?_) (a' := ?_) #[true, true, true, true, true, true, true, true, true, true, false, false] rfl rfl (any_of HT_.out (by kernel_rfl)) (fun _ _ _ h => h) (Or.inl ⟨by rfl, ?_⟩) ?_ ?_
                  rotate_left
                  · intro w'
                    go_simp
                    with_reducible rfl
                  rotate_left
                  · simp only [Act.put, List.setIfInBounds_toArray, List.set_cons_zero, List.set_cons_succ, i64_w, i32_w]
                    rfl
                  refine pure_ (i := 10) (N := some 125) (v := ?_) (a' := ?_) #[true, true, true, true, true, true, true, true, true, true, true, false] rfl rfl (any_of HT_.out (by kernel_rfl)) (fun _ _ _ h => h) (Or.inl ⟨by rfl, ?_⟩) ?_ ?_
                  rotate_left
                  · intro w'
                    go_simp
                    with_reducible rfl
                  rotate_left
                  · simp only [Act.put, List.setIfInBounds_toArray, List.set_cons_zero, List.set_cons_succ, i64_w, i32_w]
                    rfl
                  refine last_ (i := 11) (N := none) #[true, true, true, true, true, true, true, true, true, true, true, true] rfl rfl (one_of HT_.out (by kernel_rfl)) (by decide) (fun K hK => ?_)
                  obtain ⟨A8, c8, rfl⟩ := Kd.R_slice ho8
                  have l5_ := (look7 (blk_below BK6.out hb8)).2.2.2.2.2.1
                  have f5_ : w8.frozen? ⟨g, 5, none⟩ = false := blk_frozen (blk_below BK6.out hb8) 5
                  refine skip_ (w1 := ?_) (by rfl) rfl ?_ ?_
                  rotate_left
                  · go_simp
                    rfl
                  refine hK.out _ _ ?_
                  clear hK K
                  refine done_ (done_of HT_.out (by kernel_rfl)) ?_
                  obtain ⟨W8, hW8⟩ : ∃ W, W = w8.setCell ⟨g, 5, none⟩ (.slice A8 cat.length c8) := ⟨_, rfl⟩
                  have HN8 : Aside0 (∀ ad, A8 = some ad → 0 < cat.length → ad.block ≠ g) := ⟨fun ad had _ => by
                    subst had
                    have hgl : g < W6.heap.size := blk_lt BK6.out
                    rcases Kd.R_base2 ho8 with h | ⟨k, h, hk⟩
                    · simp [Value.ownBlock] at h
                    · simp [Value.ownBlock] at h; omega⟩
                  have K8 := Aside0.mk (show KB g w W8 from by rw [hW8]; exact (K6.out.below (Nat.le_of_lt hgl) hb8).set 5 _)
                  have BK8 := Aside0.mk (show W8.heap[g]? = some (.cells (lookC (some bd) ns.length c0 room cu cg a A8 cat.length c8 (hops + 1)) 160 (0, 0)) from by rw [hW8]; exact blk_put (blk_below BK6.out hb8) 5 _ rfl)
                  have BY8 := Aside0.mk (show W8.heap[gy]? = some (.cells #[.int .i64 y.f0, .int .i64 y.f1, .int .i64 y.f2, .int .i64 y.f3, .int .i64 y.f4, .string y.f5, .slice By y.f6.length dy] 85 (0, 0)) from by rw [hW8]; exact blk_far (blk_below BY6.out hb8) (p := ⟨g, 5, none⟩) GY.out _)
                  have HP8 := Aside0.mk (show Kd.C Kd.string W8 A8 cat.length cat from by rw [hW8]; exact C_keptS (Kd.R_reads' ho8).2.2 (Kept.setCell (S := fun k => k = g) (p := ⟨g, 5, none⟩) (Kept.refl _ _) (.inl rfl) _) HN8.out)
                  have HL8 := Aside0.mk (Kd.R_reads' ho8).2.1
                  rw [← hW8]
                  have y5 : W8.cell? ⟨gy, 5, none⟩ = some (.string y.f5) := (blk_cell BY8.out 5).trans rfl
                  have l4 : W8.cell? ⟨g, 4, none⟩ = some (.int .i64 a) := (blk_cell BK8.out 4).trans rfl
                  have f4 : W8.frozen? ⟨g, 4, none⟩ = false := blk_frozen BK8.out 4
                  have s1 : (0 < y.f5.size) = True := eq_true HX.out
                  have s2 : ((0 : Int) < (y.f5.size : Int)) = True := eq_true (by have := HX.out; omega)
                  have hx : ∀ h : 0 < y.f5.size, ((y.f5[0]'h).toNat : Int) = bt y.f5 0 := bt_at y.f5 0
                  clear hW8 ho8 hb8 K6 BK6 BY6 HP6 hHeld l5_ f5_
                  by_cases k8 : bt y.f5 0 = 47
                  · have HS8 : Aside0 (stepF ns cu cg _ a p _ hops = .inr (0, cat, hops + 1)) := ⟨by have h := HS7.out; rw [if_pos k8] at h; exact h⟩
                    have t1 : (bt y.f5 0 == 47) = true := by simpa using k8
                    have t2 : decide (bt y.f5 0 = 47) = true := decide_eq_true k8
                    clear HS7 k8
                    go_wp2
                    go_ret
                    rw [HS8.out]
                    exact ⟨K8.out.set 4 _, rfl, ⟨A8, c8, blk_put BK8.out 4 _ rfl, C_keptS HP8.out (Kept.setCell (S := fun k => k = g) (p := ⟨g, 4, none⟩) (Kept.refl _ _) (.inl rfl) _) HN8.out, HL8.out, HN8.out⟩⟩
                  · have HS8 : Aside0 (stepF ns cu cg _ a p _ hops = .inr (a, cat, hops + 1)) := ⟨by have h := HS7.out; rw [if_neg k8] at h; exact h⟩
                    have t1 : (bt y.f5 0 == 47) = false := by simpa using k8
                    have t2 : decide (bt y.f5 0 = 47) = false := decide_eq_false k8
                    clear HS7 k8
                    go_wp2
                    go_ret
                    rw [HS8.out]
                    exact ⟨K8.out, rfl, ⟨A8, c8, BK8.out, HP8.out, HL8.out, HN8.out⟩⟩)
end Go.Proofs.YtfohpboikknknaaGreatDoor.Q
