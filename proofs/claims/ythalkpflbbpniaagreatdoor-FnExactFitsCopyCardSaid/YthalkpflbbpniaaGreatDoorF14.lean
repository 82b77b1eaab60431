/- Texts of this claim, merged by a program (wip/tools/merge.py): HIGood, HIGoodF, Q107, HWalk, HBelow, Q133, Q135. -/
import Derived.Test.YthalkpflbbpniaaGreatDoorF2
import Derived.Test.YthalkpflbbpniaaGreatDoorF3
import Derived.Test.YthalkpflbbpniaaGreatDoorF12
import Derived.Test.YthalkpflbbpniaaGreatDoorF13
import Derived.Outline
import Derived.BigQuiet
import Derived.Deep.QuietTactic
import Derived.Deep.RegionHeld3
import Derived.Deep.DeepCutAuto
import Derived.Test.YthalkpflbbpniaaGreatDoorF0
import Derived.Lib.OwnBridge
import Derived.Test.YthalkpflbbpniaaGreatDoorF4
/- impl.GoodFs, by hand. -/
namespace Go.Proofs.YthalkpflbbpniaaGreatDoor.Q
open Go.RowKit Go.Proofs.YthalkpflbbpniaaGreatDoorW.PrintWords Go.Proofs.YthalkpflbbpniaaGreatDoorW.PrintLast Go.Proofs.YthalkpflbbpniaaGreatDoorW.PrintMore
attribute [local go_sem] max2_int min2_int max_two min_two max_three min_three max_four min_four   -- for this text's walks alone
set_option linter.unusedVariables false
set_option linter.unusedSimpArgs false

def GPost (ns : List Nd) (room : Int) (w : World) (e : Ending) (w' : World) : Prop := ∃ b, e = .returned (.bool b) ∧ (b = true ↔ IGood ns room) ∧ Below w.heap.size w w'
theorem GPost.no {ns : List Nd} {room : Int} {w w' : World} (h : IGood ns room → False) (hb : Below w.heap.size w w') : GPost ns room w (.returned (.bool false)) w' := ⟨false, rfl, ⟨fun h => (Bool.false_ne_true h).elim, fun k => (h k).elim⟩, hb⟩
theorem GPost.yes {ns : List Nd} {room : Int} {w w' : World} (h : IGood ns room) (hb : Below w.heap.size w w') : GPost ns room w (.returned (.bool true)) w' := ⟨true, rfl, ⟨fun _ => h, fun _ => rfl⟩, hb⟩
theorem meas_upG {i n : Nat} {z : Int} (h : i < n) (hz : z = ((i + 1 : Nat) : Int)) : n - (intOf (Value.int .i64 z)).toNat < n - (intOf (Value.int .i64 (i : Int))).toNat := by subst hz; show n - (((i + 1 : Nat) : Int)).toNat < n - ((i : Int)).toNat; omega
def LinkAt (ns : List Nd) (y : Int) : Prop := freeN ns y = false → if y = 0 then (tgts ns).count y = 0 else 1 ≤ (tgts ns).count y ∧ (dirN ns y = true → (tgts ns).count y ≤ 1)
theorem boolInfo : (Tryz.prog.info? 4).map (fun i => (i.zero, i.size, i.bytes)) = some (some (.bool false), 1, 1) := by kernel_rfl
theorem intInfo3 : (Tryz.prog.info? 3).map (fun i => (i.zero, i.size, i.bytes)) = some (some (.int .i64 0), 1, 8) := by kernel_rfl
theorem inB_false {lo hi n : Int} (h : inB lo hi n = false) (h1 : lo ≤ n) (h2 : n ≤ hi) : False := Bool.false_ne_true (h.symm.trans ((inB_iff _ _ _).mpr ⟨h1, h2⟩))
theorem tgts_len {ns : List Nd} (h : FsFit ns) : (tgts ns).length ≤ 1048576 * ns.length := by
  have k : ∀ l : List Nd, (∀ x, x ∈ l → x.f6.length ≤ 1048576) → (tgts l).length ≤ 1048576 * l.length := by
    intro l
    induction l with
    | nil => intro _; simp [tgts]
    | cons a l ih =>
      intro hl
      have h1 := ih (fun x hx => hl x (List.mem_cons_of_mem _ hx))
      have h2 := hl a (by simp)
      rw [show tgts (a :: l) = a.f6.map (·.f1) ++ tgts l from rfl, List.length_append, List.length_map, List.length_cons]
      omega
  exact k ns h.list
theorem keepG {w W : World} {a b : Addr} {u v : Value} (h1 : w.cell? a = some u) (h2 : w.cell? b = some v) (hb : Below w.heap.size w W) : W.cell? a = some u ∧ W.cell? b = some v :=
  ⟨(hb.cell (World.block_lt_of_cell? _ _ h1)).trans h1, (hb.cell (World.block_lt_of_cell? _ _ h2)).trans h2⟩
/-- A row that is there lies in a block of its own. -/
theorem own_shape {α : Type} {d : Kd α} {e base : Nat} {ok : Nat → Prop} {w : World} {v : Value} {xs : List α} (h : Kd.R d e w base ok v xs) (hx : 0 < xs.length) : ∃ g c, v = .slice (some ⟨g, 0, none⟩) xs.length c ∧ ok g ∧ g < w.heap.size ∧ base ≤ g := by
  obtain ⟨inner, ho⟩ := Kd.R_own h
  rcases ho.2 with ⟨_, h0⟩ | ⟨g, cap, cur, rfl, hg, hh, r⟩
  · omega
  · exact ⟨g, cap, rfl, h.1 g rfl, blk_lt hh, hg⟩
/-- Which of so many numbers are in a list. -/
def hasL (l : List Int) (y : Int) : Bool := l.any (· == y)
def metL (l : List Int) (n : Nat) : List Bool := (List.range n).map (fun (t : Nat) => hasL l (t : Int))
theorem metL_len (l : List Int) (n : Nat) : (metL l n).length = n := by simp [metL]
theorem metL_nil (n : Nat) : List.replicate n false = metL [] n := by
  apply List.ext_getElem
  · simp [metL]
  · intro i h1 h2; simp [metL, hasL]
theorem metL_rd (l : List Int) (n : Nat) (z : Int) (h0 : 0 ≤ z) (h1 : z < n) : rdOf false (metL l n) z = hasL l z := by
  obtain ⟨m, rfl⟩ := Int.eq_ofNat_of_zero_le h0
  unfold rdOf metL
  rw [List.getD_eq_getElem?_getD, List.getElem?_map, List.getElem?_range (by omega : (m : Int).toNat < n)]
  simp
theorem metL_set (l : List Int) (n : Nat) (z : Int) (h0 : 0 ≤ z) (h1 : z < n) : (metL l n).set z.toNat true = metL (l ++ [z]) n := by
  obtain ⟨m, rfl⟩ := Int.eq_ofNat_of_zero_le h0
  apply List.ext_getElem
  · simp [metL]
  · intro i h2 h3
    rw [List.getElem_set]
    by_cases hi : (m : Int).toNat = i
    · have hm : m = i := by omega
      subst hm
      rw [if_pos hi]; simp [metL, hasL]
    · rw [if_neg hi]
      have : ((m : Int) == (i : Int)) = false := by simp; omega
      simp [metL, hasL, this]
theorem hasL_iff (l : List Int) (y : Int) : hasL l y = true ↔ y ∈ l := by unfold hasL; simp [List.any_eq_true]
set_option maxHeartbeats 8000000 in
set_option maxRecDepth 100000 in
theorem goodFs_walk (ns : List Nd) (A0 : Option Addr) (c0 : Nat) (room : Int) (w : World) (hr0 : Kd.C k70 w A0 ns.length ns) (hc0 : ns.length ≤ c0) (hfit : FsFit ns) :
    Calls Tryz.prog 57 #[.agg #[.slice A0 ns.length c0, .int .i64 room]] w fun e w' => GPost ns room w e w' := by
  have hu1 := Tryz.underlying34
  have hu2 := Tryz.underlying70
  have hu3 := Tryz.underlying101
  obtain ⟨kb, hkb⟩ := (bytesIn_ev ns room hfit).rounds
  have HBy := Aside0.mk (fun W (hb : Below w.heap.size w W) => impl_Fs_bytesIn.calls kb A0 c0 ns room _ W (Kd.C_below hr0 hb) hc0 hkb)
  have HI1 := Aside0.mk (fun W => impl_within.calls (ns.length : Int) 1 40 _ W (within_f _ 1 40))
  have HI2 := Aside0.mk (fun W => impl_isRoom.calls room _ W (isRoom_f _))
  have HR0 := Aside0.mk hr0
  have HC0 := Aside0.mk hc0
  have HFIT := Aside0.mk hfit
  clear hr0 hc0 hfit hkb
  go_enter Tryz.func57, Tryz.ntmps57
  go_upto_region 1 with (fail)
  obtain ⟨W, hW⟩ : ∃ W, W = w.alloc (.cells #[.slice A0 ns.length c0, .int .i64 room] 34 (0, 0)) := ⟨_, rfl⟩
  have HB : Aside0 (Below w.heap.size w W) := ⟨by rw [hW]; exact below_alloc (Below.refl _ _) _⟩
  have BK2 : Aside0 (W.heap[w.heap.size]? = some (.cells #[.slice A0 ns.length c0, .int .i64 room] 34 (0, 0))) := ⟨by rw [hW]; exact blk_new w _⟩
  rw [← hW]
  obtain ⟨g2, hg2⟩ : ∃ g, g = w.heap.size := ⟨_, rfl⟩
  rw [← hg2] at BK2
  rw [← hg2]
  have HG2 := Aside0.mk hg2
  clear hW hg2
  have h20 : W.cell? ⟨g2, 0, none⟩ = some (.slice A0 ns.length c0) := (blk_cell BK2.out 0).trans rfl
  have h21 : W.cell? ⟨g2, 1, none⟩ = some (.int .i64 room) := (blk_cell BK2.out 1).trans rfl
  cases b1 : inB 1 40 (ns.length : Int) with
  | false =>
    have B1 := Aside0.mk b1
    rw [b1] at HI1
    clear b1
    go_wp2_with fail
    refine (HI1.out _).mono ?_; rintro e W1 ⟨rfl, ⟨n1, rfl⟩⟩
    go_wp2
    go_ret
    exact GPost.no (fun h => by have h1 := h.len; have := (inB_iff 1 40 (ns.length : Int)).mpr ⟨by omega, by omega⟩; rw [B1.out] at this; exact Bool.false_ne_true this) (pw_below_drewN HB.out _)
  | true =>
    have hlen := (inB_iff _ _ _).mp b1
    have HLEN : Aside0 (1 ≤ ns.length ∧ ns.length ≤ 40) := ⟨by omega, by omega⟩
    rw [b1] at HI1
    clear b1
    cases b2 : inB 0 1000 room with
    | false =>
      have B2 := Aside0.mk b2
      rw [b2] at HI2
      clear b2 hlen
      go_wp2_with fail
      refine (HI1.out _).mono ?_; rintro e W1 ⟨rfl, ⟨n1, rfl⟩⟩
      go_wp2_with fail
      refine (HI2.out _).mono ?_; rintro e W2 ⟨rfl, ⟨n2, rfl⟩⟩
      go_wp2
      go_ret
      exact GPost.no (fun h => by have h1 := h.inRoom; rw [B2.out] at h1; exact Bool.false_ne_true h1) (pw_below_drewN HB.out _)
    | true =>
      have B2 := Aside0.mk b2
      rw [b2] at HI2
      clear b2
      obtain ⟨ad, A6, c6, had, e0, e1, e2, e3, e4, e5, e6, hc6, hC6⟩ := at_T70 HR0.out 0 (by omega) (by omega)
      subst had
      obtain ⟨top, htop⟩ : ∃ t, t = (rd_T70 ns 0).f0 := ⟨_, rfl⟩
      rw [← htop] at e0
      have HT0 : Aside0 ((ndR ns 0).f0 = top) := ⟨htop.symm⟩
      clear htop
      have h30 : W.cell? ad = some (.int .i64 top) := (HB.out.cell (World.block_lt_of_cell? w _ e0)).trans (by simpa using e0)
      have p1 : ((0 : Int) < (ns.length : Int)) = True := eq_true (by omega)
      have p2 : (0 < ns.length) = True := eq_true (by omega)
      clear e0 e1 e2 e3 e4 e5 e6 hc6 hC6 hlen
      by_cases ht : top = 2
      case neg =>
        have HTP := Aside0.mk ht
        have q3 : (top != 2) = true := by simpa using ht
        have q4 : (top == 2) = false := by simpa using ht
        clear ht
        go_wp2_with fail
        refine (HI1.out _).mono ?_; rintro e W1 ⟨rfl, ⟨n1, rfl⟩⟩
        go_wp2_with fail
        refine (HI2.out _).mono ?_; rintro e W2 ⟨rfl, ⟨n2, rfl⟩⟩
        go_wp2
        go_ret
        exact GPost.no (fun h => by exact HTP.out (HT0.out.symm.trans h.top)) (pw_below_drewN HB.out _)
      case pos =>
        have HTP := Aside0.mk ht
        have q3 : (top != 2) = false := by simpa using ht
        have q4 : (top == 2) = true := by simpa using ht
        clear ht
        go_wp2_with fail
        refine (HI1.out _).mono ?_; rintro e W1 ⟨rfl, ⟨n1, rfl⟩⟩
        go_wp2_with fail
        refine (HI2.out _).mono ?_; rintro e W2 ⟨rfl, ⟨n2, rfl⟩⟩
        have HBx : Aside0 (Below w.heap.size w (W.drewN (n1 + n2))) := ⟨pw_below_drewN HB.out _⟩
        have BKx : Aside0 ((W.drewN (n1 + n2)).heap[g2]? = some (.cells #[.slice (some ad) ns.length c0, .int .i64 room] 34 (0, 0))) := ⟨blk_drewN BK2.out _⟩
        clear HB BK2 HI1 HI2
        go_wp2
        clear p1 p2
        go_loopw [38] (fun iv wr => ∃ i : Nat, i ≤ ns.length ∧ iv = .int .i64 (i : Int) ∧ Aside0 (∀ j, j < i → nodeB ns (ndR ns (j : Int)) = true) ∧ Aside0 (Below w.heap.size w wr) ∧ Aside0 (wr.heap[g2]? = some (.cells #[.slice (some ad) ns.length c0, .int .i64 room] 34 (0, 0)))) (fun iv _ => ns.length - (intOf iv).toNat)
        case atStart => exact ⟨0, Nat.zero_le _, rfl, ⟨fun j h => absurd h (Nat.not_lt_zero _)⟩, HBx, BKx⟩
        case round =>
          clear h20 h21 h30 HBx BKx
          obtain ⟨i, hi, rfl, HN, HB, BK⟩ := hrel
          by_cases hlt : i < ns.length
          case pos =>
            have HLT := Aside0.mk hlt
            have p9 : decide ((i : Int) < (ns.length : Int)) = true := decide_eq_true (by omega)
            have p8 : ((i : Int) < (ns.length : Int)) = True := eq_true (by omega)
            have p7 : ((0 : Int) ≤ (i : Int)) = True := eq_true (by omega)
            obtain ⟨bd, B6, d6, hbd, e0, e1, e2, e3, e4, e5, e6, hd6, hC6⟩ := at_T70 (Kd.C_below HR0.out HB.out) (i : Int) (by omega) (by omega)
            cases hbd
            rw [Int.toNat_natCast] at e0 e1 e2 e3 e4 e5 e6
            obtain ⟨x, hx⟩ : ∃ x, x = rd_T70 ns (i : Int) := ⟨_, rfl⟩
            rw [← hx] at e0 e1 e2 e3 e4 e5 e6 hd6 hC6
            have HXM : Aside0 (x ∈ ns) := ⟨by rw [hx, rdNd ns i hlt]; exact List.getElem_mem hlt⟩
            have HX := Aside0.mk (show ndR ns (i : Int) = x from hx.symm)
            have BKw := BK.out
            have hw1 : IntKind.i64.wrap ((i : Int) + 1) = ((i + 1 : Nat) : Int) := wrap_upM hlt (by have := HLEN.out; omega)
            have HW1 := Aside0.mk hw1
            have HD6 := Aside0.mk hd6
            have HNd := Aside0.mk (fun W (hb : Below w.heap.size w W) (hb2 : Below wr.heap.size wr W) => isNode_walk ns (some ad) c0 room x.f0 x.f1 x.f2 x.f3 x.f4 x.f5 B6 d6 x.f6 W (Kd.C_below HR0.out hb) HC0.out (Kd.C_below hC6 hb2) hd6 (by have := HLEN.out; omega) (by have := HFIT.out.list x HXM.out; omega))
            clear hx hlt hi hd6 hC6
            go_upto_region 6 with (fail)
            have hb5 : Below wr.heap.size wr (wr.alloc (.cells #[.int .i64 x.f0, .int .i64 x.f1, .int .i64 x.f2, .int .i64 x.f3, .int .i64 x.f4, .string x.f5, .slice B6 x.f6.length d6] 70 (0, 0))) := below_alloc (Below.refl _ _) _
            have bk6 := blk_new wr (.cells #[.int .i64 x.f0, .int .i64 x.f1, .int .i64 x.f2, .int .i64 x.f3, .int .i64 x.f4, .string x.f5, .slice B6 x.f6.length d6] 70 (0, 0))
            obtain ⟨g6, hg6⟩ : ∃ g, g = wr.heap.size := ⟨_, rfl⟩
            obtain ⟨W5, hW5⟩ : ∃ W, W = wr.alloc (.cells #[.int .i64 x.f0, .int .i64 x.f1, .int .i64 x.f2, .int .i64 x.f3, .int .i64 x.f4, .string x.f5, .slice B6 x.f6.length d6] 70 (0, 0)) := ⟨_, rfl⟩
            rw [← hW5] at hb5 bk6
            rw [← hg6] at bk6
            rw [← hW5, ← hg6]
            have BK5 := Aside0.mk ((hb5.block _ (blk_lt BKw)).trans BKw)
            have HB5 := Aside0.mk (below_step HB.out hb5)
            have BK65 := Aside0.mk bk6
            have HCALL := Aside0.mk (HNd.out W5 HB5.out hb5)
            have h60 : W5.cell? ⟨g6, 0, none⟩ = some (.int .i64 x.f0) := (blk_cell bk6 0).trans rfl
            have h61 : W5.cell? ⟨g6, 1, none⟩ = some (.int .i64 x.f1) := (blk_cell bk6 1).trans rfl
            have h62 : W5.cell? ⟨g6, 2, none⟩ = some (.int .i64 x.f2) := (blk_cell bk6 2).trans rfl
            have h63 : W5.cell? ⟨g6, 3, none⟩ = some (.int .i64 x.f3) := (blk_cell bk6 3).trans rfl
            have h64 : W5.cell? ⟨g6, 4, none⟩ = some (.int .i64 x.f4) := (blk_cell bk6 4).trans rfl
            have h65 : W5.cell? ⟨g6, 5, none⟩ = some (.string x.f5) := (blk_cell bk6 5).trans rfl
            have h66 : W5.cell? ⟨g6, 6, none⟩ = some (.slice B6 x.f6.length d6) := (blk_cell bk6 6).trans rfl
            have h20 : W5.cell? ⟨g2, 0, none⟩ = some (.slice (some ad) ns.length c0) := (blk_cell BK5.out 0).trans rfl
            have h21 : W5.cell? ⟨g2, 1, none⟩ = some (.int .i64 room) := (blk_cell BK5.out 1).trans rfl
            clear hb5 bk6 hW5 hg6 HB BK BKw HNd e0 e1 e2 e3 e4 e5 e6 BK65
            go_wp2_with fail
            refine (HCALL.out).mono ?_; rintro e w2 ⟨rfl, hd⟩
            have HB6 := Aside0.mk (below_step HB5.out hd)
            have BK6 := Aside0.mk ((hd.block _ (blk_lt BK5.out)).trans BK5.out)
            clear hd h60 h61 h62 h63 h64 h65 h66 h20 h21 HCALL BK5 HB5
            cases hs : nodeB ns x with
            | false =>
              have HS0 := Aside0.mk hs
              clear hs
              go_wp2
              go_ret
              exact GPost.no (fun h => by have h1 := h.node x HXM.out; rw [HS0.out] at h1; exact Bool.false_ne_true h1) HB6.out
            | true =>
              have HS0 := Aside0.mk hs
              clear hs
              go_wp2
              go_roundw
              case rel => exact ⟨i + 1, HLT.out, by first | rfl | go_num, ⟨fun j hj => by rcases Nat.lt_succ_iff_lt_or_eq.mp hj with h | rfl; exact HN.out j h; rw [HX.out]; exact HS0.out⟩, HB6, BK6⟩
              case measure => exact meas_upG HLT.out (by first | rfl | (rw [← i64_w]; exact HW1.out) | exact HW1.out)
          case neg =>
            have hil : i = ns.length := by omega
            subst hil
            have p9 : decide ((ns.length : Int) < (ns.length : Int)) = false := by simp
            clear hlt hi
            have HNI : Aside0 (∀ x, x ∈ ns → nodeB ns x = true) := ⟨fun x hx => by
              obtain ⟨j, hj, rfl⟩ := List.getElem_of_mem hx
              have := HN.out j hj
              rwa [show ndR ns (j : Int) = ns[j] from rdNd ns j hj] at this⟩
            have HSC : Aside0 (∀ x, x ∈ allN ns.length → ∀ y, y ∈ scN ns x → y ∈ allN ns.length) := ⟨fun x _ y hy => (good_sc HNI.out x y hy).1⟩
            clear HN
            have h20 : wr.cell? ⟨g2, 0, none⟩ = some (.slice (some ad) ns.length c0) := (blk_cell BK.out 0).trans rfl
            have h21 : wr.cell? ⟨g2, 1, none⟩ = some (.int .i64 room) := (blk_cell BK.out 1).trans rfl
            by_cases hs : room < sumB ns
            case pos =>
              have HSM := Aside0.mk hs
              have q1 : decide (room < sumB ns) = true := decide_eq_true hs
              have q2 : (room < sumB ns) = True := eq_true hs
              clear hs
              go_wp2_with fail
              go_region_held3 (fun W => W.cell? ⟨g2, 0, none⟩ = some (.slice (some ad) ns.length c0) ∧ W.cell? ⟨g2, 1, none⟩ = some (.int .i64 room)) (first | exact ⟨h20, h21⟩ | exact keepG h20 h21 (below_step (below_drew1 (Below.refl _ _)) hd)) (first | (go_at_call 32; refine (HBy.out _ (below_drew1 HB.out)).mono ?_; rintro e w2 ⟨rfl, hd⟩))
              go_wp2
              go_ret
              exact GPost.no (fun h => by have h1 := h.sum; have := HSM.out; omega) (below_step (below_drew1 HB.out) hd)
            case neg =>
              have HSM := Aside0.mk hs
              have q1 : decide (room < sumB ns) = false := decide_eq_false hs
              have q2 : (room < sumB ns) = False := eq_false hs
              clear hs
              obtain ⟨kl, hkl⟩ := (links_ev ns room HFIT.out (fun x hx e he => by
                obtain ⟨j, hj, rfl⟩ := List.getElem_of_mem hx
                have := (good_sc HNI.out (j : Int) e.f1 (by unfold scN; rw [show ndR ns (j : Int) = ns[j] from rdNd ns j hj]; exact List.mem_map.mpr ⟨e, he, rfl⟩)).1
                exact (allN_mem _ _).mp this)).rounds
              have HLk := Aside0.mk (fun W (hb : Below w.heap.size w W) => impl_Fs_links.calls kl (some ad) c0 ns room _ W (Kd.C_below HR0.out hb) HC0.out hkl)
              clear hkl
              go_wp2_with fail
              go_region_held3 (fun W => W.cell? ⟨g2, 0, none⟩ = some (.slice (some ad) ns.length c0) ∧ W.cell? ⟨g2, 1, none⟩ = some (.int .i64 room)) (first | exact ⟨h20, h21⟩ | exact keepG h20 h21 (below_step (below_drew1 (Below.refl _ _)) hd)) (first | (go_at_call 32; refine (HBy.out _ (below_drew1 HB.out)).mono ?_; rintro e w2 ⟨rfl, hd⟩))
              have HB3 := Aside0.mk (below_step (below_drew1 HB.out) hd)
              have BK3 : Aside0 (w2.heap[g2]? = some (.cells #[.slice (some ad) ns.length c0, .int .i64 room] 34 (0, 0))) := ⟨(hd.block _ (blk_lt (blk_drew BK.out))).trans (blk_drew BK.out)⟩
              clear hd h20 h21 HB BK HBy q1 q2 p9
              have h20 : w2.cell? ⟨g2, 0, none⟩ = some (.slice (some ad) ns.length c0) := (blk_cell BK3.out 0).trans rfl
              have h21 : w2.cell? ⟨g2, 1, none⟩ = some (.int .i64 room) := (blk_cell BK3.out 1).trans rfl
              go_wp2_with fail
              refine (HLk.out _ HB3.out).mono ?_; rintro e w3 ⟨v5, rfl, ho5, hd⟩
              obtain ⟨A5, c5, rfl⟩ := Kd.R_slice ho5
              rw [linksL_len] at ho5 ⊢
              have HMC := Aside0.mk (Kd.R_reads' ho5)
              have HB4 := Aside0.mk (below_step HB3.out hd)
              have BK4 : Aside0 (w3.heap[g2]? = some (.cells #[.slice (some ad) ns.length c0, .int .i64 room] 34 (0, 0))) := ⟨(hd.block _ (blk_lt BK3.out)).trans BK3.out⟩
              clear hd ho5 h20 h21 HB3 BK3 HLk
              have h20 : w3.cell? ⟨g2, 0, none⟩ = some (.slice (some ad) ns.length c0) := (blk_cell BK4.out 0).trans rfl
              go_wp2
              go_loopw [57] (fun iv wr => ∃ i : Nat, i ≤ ns.length ∧ iv = .int .i64 (i : Int) ∧ Aside0 (∀ j, j < i → LinkAt ns (j : Int)) ∧ Aside0 (Below w.heap.size w wr) ∧ Aside0 (Below w3.heap.size w3 wr) ∧ Aside0 (wr.heap[g2]? = some (.cells #[.slice (some ad) ns.length c0, .int .i64 room] 34 (0, 0)))) (fun iv _ => ns.length - (intOf iv).toNat)
              case atStart => exact ⟨0, Nat.zero_le _, rfl, ⟨fun j h => absurd h (Nat.not_lt_zero _)⟩, HB4, ⟨Below.refl _ _⟩, BK4⟩
              case round =>
                clear h20 HB4 BK4
                obtain ⟨i, hi, rfl, HN, HB, HBM, BK⟩ := hrel
                by_cases hlt : i < ns.length
                case pos =>
                  have HLT := Aside0.mk hlt
                  have p9 : decide ((i : Int) < (ns.length : Int)) = true := decide_eq_true (by omega)
                  have p8 : ((i : Int) < (ns.length : Int)) = True := eq_true (by omega)
                  have p7 : ((0 : Int) ≤ (i : Int)) = True := eq_true (by omega)
                  obtain ⟨bd, B6, d6, hbd, e0, e1, e2, e3, e4, e5, e6, hd6, hC6⟩ := at_T70 (Kd.C_below HR0.out HB.out) (i : Int) (by omega) (by omega)
                  cases hbd
                  rw [Int.toNat_natCast] at e0 e1 e2 e3 e4 e5 e6
                  obtain ⟨x, hx⟩ : ∃ x, x = rd_T70 ns (i : Int) := ⟨_, rfl⟩
                  rw [← hx] at e0 e1 e2 e3 e4 e5 e6 hd6 hC6
                  have HXM : Aside0 (x ∈ ns) := ⟨by rw [hx, rdNd ns i hlt]; exact List.getElem_mem hlt⟩
                  have HX := Aside0.mk (show ndR ns (i : Int) = x from hx.symm)
                  have BKw := BK.out
                  have hw1 : IntKind.i64.wrap ((i : Int) + 1) = ((i + 1 : Nat) : Int) := wrap_upM hlt (by have := HLEN.out; omega)
                  have HW1 := Aside0.mk hw1
                  have HD6 := Aside0.mk hd6
                  obtain ⟨cd, hcd, hlc⟩ := Kd.at_int (Kd.C_below HMC.out.2.2 HBM.out) (i : Int) (by omega) (by rw [linksL_len]; omega)
                  rw [linksL_rd _ _ _ (by omega) (by omega)] at hlc
                  subst hcd
                  obtain ⟨cn, hcn⟩ : ∃ c : Nat, c = (tgts ns).count (i : Int) := ⟨_, rfl⟩
                  rw [← hcn] at hlc
                  have HCN := Aside0.mk hcn
                  have HPOS : Aside0 (0 ≤ (i : Int)) := ⟨by omega⟩
                  have HCB : Aside0 (cn ≤ 1152921504606846976) := ⟨by have h1 := count_len (tgts ns) (i : Int); have h2 := tgts_len HFIT.out; have := HLEN.out; omega⟩
                  have HLC := Aside0.mk hlc
                  have HWi := Aside0.mk (fun (lo hi : Int) W => impl_within.calls (cn : Int) lo hi _ W (within_f _ lo hi))
                  clear hcn hlc
                  clear hx hlt hi hd6 hC6
                  go_upto_region 15 with (fail)
                  have hb5 : Below wr.heap.size wr (wr.alloc (.cells #[.int .i64 x.f0, .int .i64 x.f1, .int .i64 x.f2, .int .i64 x.f3, .int .i64 x.f4, .string x.f5, .slice B6 x.f6.length d6] 70 (0, 0))) := below_alloc (Below.refl _ _) _
                  have bk6 := blk_new wr (.cells #[.int .i64 x.f0, .int .i64 x.f1, .int .i64 x.f2, .int .i64 x.f3, .int .i64 x.f4, .string x.f5, .slice B6 x.f6.length d6] 70 (0, 0))
                  obtain ⟨g6, hg6⟩ : ∃ g, g = wr.heap.size := ⟨_, rfl⟩
                  obtain ⟨W5, hW5⟩ : ∃ W, W = wr.alloc (.cells #[.int .i64 x.f0, .int .i64 x.f1, .int .i64 x.f2, .int .i64 x.f3, .int .i64 x.f4, .string x.f5, .slice B6 x.f6.length d6] 70 (0, 0)) := ⟨_, rfl⟩
                  rw [← hW5] at hb5 bk6
                  rw [← hg6] at bk6
                  rw [← hW5, ← hg6]
                  have BK5 := Aside0.mk ((hb5.block _ (blk_lt BKw)).trans BKw)
                  have HB5 := Aside0.mk (below_step HB.out hb5)
                  have BK65 := Aside0.mk bk6
                  have HBM5 := Aside0.mk (below_step HBM.out hb5)
                  obtain ⟨lo, hlo⟩ : ∃ lo : Int, lo = (if (1 : Int) < (i : Int) then 1 else (i : Int)) := ⟨_, rfl⟩
                  have HLO : Aside0 ((1 < i ∧ lo = 1) ∨ (i ≤ 1 ∧ lo = (i : Int))) := ⟨by rw [hlo]; by_cases h : 1 < i; exact .inl ⟨h, if_pos (by omega)⟩; exact .inr ⟨by omega, if_neg (by omega)⟩⟩
                  have mn1 := hlo.symm
                  have mn2 : (if 1 < i then (1 : Int) else (i : Int)) = lo := by rw [hlo]; by_cases h : 1 < i; rw [if_pos h, if_pos (by omega)]; rw [if_neg h, if_neg (by omega)]
                  clear hlo
                  have hlc : W5.cell? (cd.add i) = some (.int .i64 (cn : Int)) := by simpa only [Int.toNat_natCast] using (hb5.cell (World.block_lt_of_cell? _ _ HLC.out)).trans HLC.out
                  have h60 : W5.cell? ⟨g6, 0, none⟩ = some (.int .i64 x.f0) := (blk_cell bk6 0).trans rfl
                  have h61 : W5.cell? ⟨g6, 1, none⟩ = some (.int .i64 x.f1) := (blk_cell bk6 1).trans rfl
                  have h62 : W5.cell? ⟨g6, 2, none⟩ = some (.int .i64 x.f2) := (blk_cell bk6 2).trans rfl
                  have h63 : W5.cell? ⟨g6, 3, none⟩ = some (.int .i64 x.f3) := (blk_cell bk6 3).trans rfl
                  have h64 : W5.cell? ⟨g6, 4, none⟩ = some (.int .i64 x.f4) := (blk_cell bk6 4).trans rfl
                  have h65 : W5.cell? ⟨g6, 5, none⟩ = some (.string x.f5) := (blk_cell bk6 5).trans rfl
                  have h66 : W5.cell? ⟨g6, 6, none⟩ = some (.slice B6 x.f6.length d6) := (blk_cell bk6 6).trans rfl
                  have h20 : W5.cell? ⟨g2, 0, none⟩ = some (.slice (some ad) ns.length c0) := (blk_cell BK5.out 0).trans rfl
                  have h21 : W5.cell? ⟨g2, 1, none⟩ = some (.int .i64 room) := (blk_cell BK5.out 1).trans rfl
                  clear hb5 bk6 hW5 hg6 HB HBM BK BKw e0 e1 e2 e3 e4 e5 e6 BK65 h61 h62 h63 h64 h65 h66 h20 h21 HLC
                  by_cases hz : i = 0
                  case pos =>
                    have HZ := Aside0.mk hz
                    have z1 : ((i : Int) == 0) = true := by simp [hz]
                    have z2 : (i == 0) = true := by simp [hz]
                    clear hz
                    by_cases k0 : x.f0 = 0
                    case pos =>
                      have HK0 := Aside0.mk k0
                      have q5 : (x.f0 != 0) = false := by simpa using k0
                      have q6 : (x.f0 == 0) = true := by simpa using k0
                      have q7 : (x.f0 == 2) = false := by simp [k0]
                      clear k0
                      go_wp2
                      go_roundw
                      case rel => exact ⟨i + 1, HLT.out, by first | rfl | go_num, ⟨fun j hj => by
                        rcases Nat.lt_succ_iff_lt_or_eq.mp hj with h | rfl
                        · exact HN.out j h
                        · exact fun hf => by unfold freeN at hf; rw [HX.out] at hf; simp [HK0.out] at hf⟩, HB5, HBM5, BK5⟩
                      case measure => exact meas_upG HLT.out (by first | rfl | (rw [← i64_w]; exact HW1.out) | exact HW1.out)

                    case neg =>
                      have HK0 := Aside0.mk k0
                      have q5 : (x.f0 != 0) = true := by simpa using k0
                      have q6 : (x.f0 == 0) = false := by simpa using k0
                      clear k0
                      go_wp2_with fail
                      refine (HWi.out _ _ _).mono ?_; rintro e W8 ⟨rfl, ⟨n8, rfl⟩⟩
                      generalize hb : inB _ _ (cn : Int) = b
                      cases b with
                      | true =>
                        have HBT := Aside0.mk hb
                        clear hb
                        go_wp2
                        go_roundw
                        case rel => exact ⟨i + 1, HLT.out, by first | rfl | go_num, ⟨fun j hj => by
                          rcases Nat.lt_succ_iff_lt_or_eq.mp hj with h | rfl
                          · exact HN.out j h
                          · exact fun _ => by rw [if_pos (by have := HZ.out; have := HLO.out; omega)]; have h1 := HCN.out; have h2 := (inB_iff _ _ _).mp HBT.out; have := HLO.out; omega⟩, ⟨pw_below_drewN HB5.out _⟩, ⟨pw_below_drewN HBM5.out _⟩, ⟨blk_drewN BK5.out _⟩⟩
                        case measure => exact meas_upG HLT.out (by first | rfl | (rw [← i64_w]; exact HW1.out) | exact HW1.out)
                      | false =>
                        have HBF := Aside0.mk hb
                        clear hb
                        go_wp2
                        go_ret
                        exact GPost.no (fun h => by have h1 := h.links (i : Int) ((allN_mem _ _).mpr ⟨HPOS.out, by have := HLT.out; omega⟩) (by unfold freeN; rw [HX.out]; simpa using HK0.out); rw [if_pos (by have := HZ.out; have := HLO.out; omega)] at h1; have := HCN.out; rw [← this] at h1; exact inB_false HBF.out (by have := HZ.out; have := HLO.out; omega) (by have := HZ.out; have := HLO.out; omega)) (pw_below_drewN HB5.out _)

                  case neg =>
                    have HZ := Aside0.mk hz
                    have z1 : ((i : Int) == 0) = false := by simp [hz]
                    have z2 : (i == 0) = false := by simp [hz]
                    clear hz
                    by_cases k2 : x.f0 = 2
                    case pos =>
                      have HK2 := Aside0.mk k2
                      have HK0 : Aside0 (¬ x.f0 = 0) := ⟨by omega⟩
                      have w1 : (x.f0 == 2) = true := by simp [k2]
                      have w2 : (x.f0 != 0) = true := by simp [k2]
                      have w3 : (x.f0 == 0) = false := by simp [k2]
                      clear k2
                      go_wp2_with fail
                      refine (HWi.out _ _ _).mono ?_; rintro e W8 ⟨rfl, ⟨n8, rfl⟩⟩
                      generalize hb : inB _ _ (cn : Int) = b
                      cases b with
                      | true =>
                        have HBT := Aside0.mk hb
                        clear hb
                        go_wp2
                        go_roundw
                        case rel => exact ⟨i + 1, HLT.out, by first | rfl | go_num, ⟨fun j hj => by
                          rcases Nat.lt_succ_iff_lt_or_eq.mp hj with h | rfl
                          · exact HN.out j h
                          · exact fun _ => by rw [if_neg (by have := HZ.out; have := HLO.out; omega)]; have h1 := HCN.out; have h2 := (inB_iff _ _ _).mp HBT.out; have := HZ.out; have := HLO.out; exact ⟨by omega, fun _ => by omega⟩⟩, ⟨pw_below_drewN HB5.out _⟩, ⟨pw_below_drewN HBM5.out _⟩, ⟨blk_drewN BK5.out _⟩⟩
                        case measure => exact meas_upG HLT.out (by first | rfl | (rw [← i64_w]; exact HW1.out) | exact HW1.out)
                      | false =>
                        have HBF := Aside0.mk hb
                        clear hb
                        go_wp2
                        go_ret
                        exact GPost.no (fun h => by have h1 := h.links (i : Int) ((allN_mem _ _).mpr ⟨HPOS.out, by have := HLT.out; omega⟩) (by unfold freeN; rw [HX.out]; simpa using HK0.out); rw [if_neg (by have := HZ.out; have := HLO.out; omega)] at h1; have h4 := h1.2 (by unfold dirN; rw [HX.out]; simpa using HK2.out); have := HCN.out; rw [← this] at h1 h4; exact inB_false HBF.out (by have := HZ.out; have := HLO.out; have := h1.1; omega) (by have := HZ.out; have := HLO.out; have := h1.1; omega)) (pw_below_drewN HB5.out _)

                    case neg =>
                      have HK2 := Aside0.mk k2
                      have w1 : (x.f0 == 2) = false := by simpa using k2
                      clear k2
                      by_cases k0 : x.f0 = 0
                      case pos =>
                        have HK0 := Aside0.mk k0
                        have q5 : (x.f0 != 0) = false := by simpa using k0
                        have q6 : (x.f0 == 0) = true := by simpa using k0
                        clear k0
                        go_wp2
                        go_roundw
                        case rel => exact ⟨i + 1, HLT.out, by first | rfl | go_num, ⟨fun j hj => by
                          rcases Nat.lt_succ_iff_lt_or_eq.mp hj with h | rfl
                          · exact HN.out j h
                          · exact fun hf => by unfold freeN at hf; rw [HX.out] at hf; simp [HK0.out] at hf⟩, HB5, HBM5, BK5⟩
                        case measure => exact meas_upG HLT.out (by first | rfl | (rw [← i64_w]; exact HW1.out) | exact HW1.out)

                      case neg =>
                        have HK0 := Aside0.mk k0
                        have q5 : (x.f0 != 0) = true := by simpa using k0
                        have q6 : (x.f0 == 0) = false := by simpa using k0
                        clear k0
                        go_wp2_with fail
                        refine (HWi.out _ _ _).mono ?_; rintro e W8 ⟨rfl, ⟨n8, rfl⟩⟩
                        generalize hb : inB _ _ (cn : Int) = b
                        cases b with
                        | true =>
                          have HBT := Aside0.mk hb
                          clear hb
                          go_wp2
                          go_roundw
                          case rel => exact ⟨i + 1, HLT.out, by first | rfl | go_num, ⟨fun j hj => by
                            rcases Nat.lt_succ_iff_lt_or_eq.mp hj with h | rfl
                            · exact HN.out j h
                            · exact fun _ => by rw [if_neg (by have := HZ.out; have := HLO.out; omega)]; have h1 := HCN.out; have h2 := (inB_iff _ _ _).mp HBT.out; have := HZ.out; have := HLO.out; exact ⟨by omega, fun hd => absurd (by unfold dirN at hd; rw [HX.out] at hd; simpa using hd) HK2.out⟩⟩, ⟨pw_below_drewN HB5.out _⟩, ⟨pw_below_drewN HBM5.out _⟩, ⟨blk_drewN BK5.out _⟩⟩
                          case measure => exact meas_upG HLT.out (by first | rfl | (rw [← i64_w]; exact HW1.out) | exact HW1.out)
                        | false =>
                          have HBF := Aside0.mk hb
                          clear hb
                          go_wp2
                          go_ret
                          exact GPost.no (fun h => by have h1 := h.links (i : Int) ((allN_mem _ _).mpr ⟨HPOS.out, by have := HLT.out; omega⟩) (by unfold freeN; rw [HX.out]; simpa using HK0.out); rw [if_neg (by have := HZ.out; have := HLO.out; omega)] at h1; have := HCN.out; rw [← this] at h1; have h5 := HCB.out; exact inB_false HBF.out (by have := HZ.out; have := HLO.out; have := h1.1; omega) (by have := HZ.out; have := HLO.out; have := h1.1; omega)) (pw_below_drewN HB5.out _)

                case neg =>
                  have hil : i = ns.length := by omega
                  subst hil
                  have p9 : decide ((ns.length : Int) < (ns.length : Int)) = false := by simp
                  clear hlt hi
                  have HLA : Aside0 (∀ y, y ∈ allN ns.length → LinkAt ns y) := ⟨fun y hy => by
                    obtain ⟨h0, h1⟩ := (allN_mem _ _).mp hy
                    obtain ⟨m, rfl⟩ := Int.eq_ofNat_of_zero_le h0
                    exact HN.out m (by omega)⟩
                  clear HN HBM HMC
                  have h20 : wr.cell? ⟨g2, 0, none⟩ = some (.slice (some ad) ns.length c0) := (blk_cell BK.out 0).trans rfl
                  go_upto_region 24 with (first | ((with_reducible refine gate_dst (N := 87) rfl ?_); refine Kd.R_make Kd.bool _ 4 rfl (N := 87) rfl 132 _ _ rfl (ns.length : Int) rfl rfl Tryz.underlying132 (.bool false) 1 boolInfo rfl (by decide) (by omega) false (ok := fun _ => True) (okp := fun _ => True) rfl (fun _ hk => hk) trivial ?h0 ?hl (Below.refl _ _) (Nat.le_refl _) ?_; (case h0 => omega); (case hl => (have := HLEN.out; simp only [Int.toNat_natCast]; omega)); intro v9 w4 ho9 hb9 hg_ hnew_; clear hg_ hnew_))
                  rw [Int.toNat_natCast, metL_nil] at ho9
                  obtain ⟨gm, cm, rfl, -, hgl, hgb⟩ := own_shape ho9 (by rw [metL_len]; have := HLEN.out; omega)
                  rw [metL_len] at ho9 ⊢
                  have HGM : Aside0 (w.heap.size ≤ gm) := ⟨Nat.le_trans HB.out.size hgb⟩
                  have HGL := Aside0.mk hgl
                  have HNE : Aside0 (g2 ≠ gm) := ⟨by have := blk_lt BK.out; omega⟩
                  have HM4 : Aside0 (Kd.R Kd.bool 4 w4 w.heap.size (fun k => k = gm) (.slice (some ⟨gm, 0, none⟩) ns.length cm) (metL [] ns.length)) := ⟨Kd.R_of_own (Kd.own_of_R (Kd.R_lower ho9 HB.out.size)) (fun k hk => by simp [Value.ownBlock] at hk; exact hk.symm)⟩
                  have HB4 := Aside0.mk (below_step HB.out hb9)
                  have BK4 : Aside0 (w4.heap[g2]? = some (.cells #[.slice (some ad) ns.length c0, .int .i64 room] 34 (0, 0))) := ⟨(hb9.block _ (blk_lt BK.out)).trans BK.out⟩
                  clear ho9 hb9 hgl hgb h20 HB BK p9
                  go_upto_region 25 with (first | ((with_reducible refine gate_dst (N := 88) rfl ?_); refine Kd.R_lit (Kd.int .i64) _ 3 ?hg (N := 88) ?hd (xs := [(0 : Int)]) (inner := [.int .i64 0]) (ok := fun k => k ≠ gm) (okp := fun _ => False) ?hr ?hp (fun _ hk => hk.elim) ?hf (Below.refl _ _) (Nat.le_refl _) (by simp) ?_; (case hd => rfl); (case hg => rfl); (case hr => first | (go_simp; done) | (go_simp; rfl)); (case hp => exact Kd.reps_scalar _); (case hf => (show _ ≠ _; have := HGL.out; omega)); intro v10 w5 ho10 hb10 hg_ hnew_; clear hg_ hnew_))
                  have HQ5 := Aside0.mk (Kd.R_lower ho10 HB4.out.size)
                  have HM5 := Aside0.mk (Kd.R_below HM4.out hb10)
                  have HB5 := Aside0.mk (below_step HB4.out hb10)
                  have BK5 : Aside0 (w5.heap[g2]? = some (.cells #[.slice (some ad) ns.length c0, .int .i64 room] 34 (0, 0))) := ⟨(hb10.block _ (blk_lt BK4.out)).trans BK4.out⟩
                  have HGL5 : Aside0 (gm < w5.heap.size) := ⟨Nat.lt_of_lt_of_le HGL.out hb10.size⟩
                  have HD0 : Aside0 (dirN ns 0 = true) := ⟨by unfold dirN; rw [HT0.out, HTP.out]; rfl⟩
                  clear ho10 hb10 HM4 HB4 BK4 HGL
                  go_wp2
                  go_loopw [10, 11] (fun v10 v11 wr => ∃ (k : Nat) (Q : List Int), v11 = .int .i64 (k : Int) ∧ Aside0 (k ≤ Q.length) ∧ Aside0 (Kd.R (Kd.int .i64) 3 wr w.heap.size (fun j => j ≠ gm) v10 Q) ∧ Aside0 (Kd.R Kd.bool 4 wr w.heap.size (fun j => j = gm) (.slice (some ⟨gm, 0, none⟩) ns.length cm) (metL (Q.take k) ns.length)) ∧ Aside0 (Bfs (scN ns) (dirN ns) (allN ns.length) Q k []) ∧ Aside0 (Below w.heap.size w wr) ∧ Aside0 (wr.heap[g2]? = some (.cells #[.slice (some ad) ns.length c0, .int .i64 room] 34 (0, 0))) ∧ Aside0 (gm < wr.heap.size)) (fun _ v11 _ => ns.length - (intOf v11).toNat)
                  case atStart => exact ⟨0, [0], rfl, ⟨by simp⟩, HQ5, HM5, ⟨Bfs.start _ _ _ HD0.out (zero_all HLEN.out.1)⟩, HB5, BK5, HGL5⟩
                  case round =>
                    clear HQ5 HM5 HB5 BK5 HGL5
                    obtain ⟨k, Q, rfl, HK, HQ, HM, HF, HB, BK, HGL⟩ := hrel
                    have HQN : Aside0 (Q.length ≤ ns.length) := ⟨by have := HF.out.len; rwa [allN_len] at this⟩
                    by_cases hlt : k < Q.length
                    case pos =>
                      obtain ⟨gq, cq, rfl, hgq, -, -⟩ := own_shape HQ.out (by omega)
                      obtain ⟨x, hx⟩ : ∃ x, x = Q[k] := ⟨_, rfl⟩
                      have hxq : Q[k]? = some x := by rw [List.getElem?_eq_getElem hlt, hx]
                      have hqc := (Kd.R_cell (0 : Int) HQ.out (k : Int) (by omega) (by omega)).1
                      rw [show rdOf (0 : Int) Q (k : Int) = x by rw [hx]; unfold rdOf; simp [List.getD_eq_getElem?_getD, hlt], Int.toNat_natCast] at hqc
                      have hxa : x ∈ allN ns.length := (HF.out.from_ x (hx ▸ List.getElem_mem hlt)).2.2
                      obtain ⟨x0, x1⟩ := (allN_mem _ _).mp hxa
                      obtain ⟨hmc, hmf⟩ := Kd.R_celln false HM.out x x0 x1
                      obtain ⟨bd, A6, c6, hbd, e0, e1, e2, e3, e4, e5, e6, hc6, hC6⟩ := at_T70 HR0.out x x0 x1
                      cases hbd
                      have HC6 := Aside0.mk hC6
                      have HXQ := Aside0.mk hxq
                      have HXA := Aside0.mk hxa
                      have HKN : Aside0 (k < ns.length) := ⟨by have := HQN.out; omega⟩
                      have p1 : ((0 : Int) ≤ (k : Int)) = True := eq_true (by omega)
                      have p2 : ((k : Int) < (Q.length : Int)) = True := eq_true (by omega)
                      have p3 : decide ((k : Int) < (Q.length : Int)) = true := decide_eq_true (by omega)
                      have p4 : (0 ≤ x) = True := eq_true x0
                      have p5 : (x < (ns.length : Int)) = True := eq_true x1
                      have hw1 : IntKind.i64.wrap ((k : Int) + 1) = ((k + 1 : Nat) : Int) := wrap_upM HKN.out (by have := HLEN.out; omega)
                      have HW1 := Aside0.mk hw1
                      have HT1 : Aside0 (Q.take (k + 1) = Q.take k ++ [x]) := ⟨by rw [List.take_succ_eq_append_getElem hlt, ← hx]⟩
                      clear hx hxq hxa hlt hC6 hc6 e0 e1 e2 e3 e4 e5
                      go_upto_region 29 with (fail)
                      obtain ⟨W1, hW1⟩ : ∃ V, V = wr.setCell ⟨gm, x.toNat, none⟩ (.bool true) := ⟨_, rfl⟩
                      have HQ1 : Aside0 (Kd.R (Kd.int .i64) 3 W1 w.heap.size (fun j => j ≠ gm) (.slice (some ⟨gq, 0, none⟩) Q.length cq) Q) := ⟨by rw [hW1]; exact Kd.R_far HQ.out (fun j hj => hj) _⟩
                      have HM1 : Aside0 (Kd.R Kd.bool 4 W1 w.heap.size (fun j => j = gm) (.slice (some ⟨gm, 0, none⟩) ns.length cm) (metL (Q.take (k + 1)) ns.length)) := ⟨by rw [hW1, HT1.out, ← metL_set _ _ _ x0 x1]; exact Kd.R_putn HM.out x true⟩
                      have HB1 : Aside0 (Below w.heap.size w W1) := ⟨by rw [hW1]; exact below_set HB.out HGM.out⟩
                      have BK1 : Aside0 (W1.heap[g2]? = some (.cells #[.slice (some ad) ns.length c0, .int .i64 room] 34 (0, 0))) := ⟨by rw [hW1]; exact blk_far BK.out HNE.out _⟩
                      have HGL1 : Aside0 (gm < W1.heap.size) := ⟨by rw [hW1]; have := HGL.out; simpa using this⟩
                      rw [← hW1]
                      clear hW1 HQ HM HB BK HGL hmc hmf hqc
                      have hqc := (Kd.R_cell (0 : Int) HQ1.out (k : Int) (by omega) (by have := HXQ.out; have := (List.getElem?_eq_some_iff.mp this).1; omega)).1
                      rw [show rdOf (0 : Int) Q (k : Int) = x by unfold rdOf; rw [List.getD_eq_getElem?_getD, Int.toNat_natCast, HXQ.out]; rfl, Int.toNat_natCast] at hqc
                      have h20 : W1.cell? ⟨g2, 0, none⟩ = some (.slice (some ad) ns.length c0) := (blk_cell BK1.out 0).trans rfl
                      have h66 := (HB1.out.cell (World.block_lt_of_cell? w _ e6)).trans e6
                      obtain ⟨L, hLL⟩ : ∃ L, L = (rd_T70 ns x).f6 := ⟨_, rfl⟩
                      have hll : L.length ≤ 1048576 := by
                        rw [hLL]
                        rcases ndR_cases ns x with h | h
                        · exact HFIT.out.list _ h
                        · change (rd_T70 ns x).f6 = [] at h; rw [h]; simp
                      rw [← hLL] at h66 HC6
                      have HSX : Aside0 (scN ns x = L.map (·.f1)) := ⟨by rw [hLL]; rfl⟩
                      have HLL := Aside0.mk hll
                      have HQL : Aside0 (k < Q.length) := ⟨(List.getElem?_eq_some_iff.mp HXQ.out).1⟩
                      clear hLL hll e6
                      go_quiet (fail)
                      obtain ⟨W2, hW2⟩ : ∃ V, V = W1.drewN nq := ⟨_, rfl⟩
                      have HQ2 : Aside0 (Kd.R (Kd.int .i64) 3 W2 w.heap.size (fun j => j ≠ gm) (.slice (some ⟨gq, 0, none⟩) Q.length cq) Q) := ⟨by rw [hW2]; exact Kd.R_drewN HQ1.out _⟩
                      have HM2 : Aside0 (Kd.R Kd.bool 4 W2 w.heap.size (fun j => j = gm) (.slice (some ⟨gm, 0, none⟩) ns.length cm) (metL (Q.take (k + 1)) ns.length)) := ⟨by rw [hW2]; exact Kd.R_drewN HM1.out _⟩
                      have HB2 : Aside0 (Below w.heap.size w W2) := ⟨by rw [hW2]; exact pw_below_drewN HB1.out _⟩
                      have BK2 : Aside0 (W2.heap[g2]? = some (.cells #[.slice (some ad) ns.length c0, .int .i64 room] 34 (0, 0))) := ⟨by rw [hW2]; exact blk_drewN BK1.out _⟩
                      have HGL2 : Aside0 (gm < W2.heap.size) := ⟨by rw [hW2]; exact HGL1.out⟩
                      rw [← hW2]
                      clear hW2 HQ1 HM1 HB1 BK1 HGL1 h20 h66 hqc
                      go_wp2
                      clear p1 p2 p3 p4 p5
                      go_loopw [10, 111] (fun v10 v111 wq => ∃ (j : Nat) (Q1 : List Int), v111 = .int .i64 (j : Int) ∧ Aside0 (j ≤ L.length) ∧ Aside0 (Q1[k]? = some x) ∧ Aside0 (Kd.R (Kd.int .i64) 3 wq w.heap.size (fun j => j ≠ gm) v10 Q1) ∧ Aside0 (Kd.R Kd.bool 4 wq w.heap.size (fun j => j = gm) (.slice (some ⟨gm, 0, none⟩) ns.length cm) (metL (Q1.take (k + 1)) ns.length)) ∧ Aside0 (Bfs (scN ns) (dirN ns) (allN ns.length) Q1 k ((L.map (·.f1)).take j)) ∧ Aside0 (Below w.heap.size w wq) ∧ Aside0 (wq.heap[g2]? = some (.cells #[.slice (some ad) ns.length c0, .int .i64 room] 34 (0, 0))) ∧ Aside0 (gm < wq.heap.size)) (fun _ v111 _ => L.length - (intOf v111).toNat)
                      case atStart => exact ⟨0, Q, rfl, ⟨Nat.zero_le _⟩, HXQ, HQ2, HM2, HF, HB2, BK2, HGL2⟩
                      case round =>
                        clear HQ2 HM2 HF HB2 BK2 HGL2 HXQ HT1 HQN HQL HK
                        obtain ⟨j, Q1, rfl, HJ, HXQ, HQ, HM, HF, HB, BK, HGL⟩ := hrel
                        by_cases hlt : j < L.length
                        case neg =>
                          have hjl : j = L.length := by have := HJ.out; omega
                          subst hjl
                          have p9 : decide ((L.length : Int) < (L.length : Int)) = false := by simp
                          have HF2 : Aside0 (Bfs (scN ns) (dirN ns) (allN ns.length) Q1 (k + 1) []) := ⟨by
                            have h := HF.out
                            rw [List.take_of_length_le (by simp), ← HSX.out] at h
                            exact h.next HXQ.out⟩
                          clear hlt HF
                          go_wp2
                          go_roundw
                          case rel => exact ⟨k + 1, Q1, by first | rfl | go_num, ⟨(List.getElem?_eq_some_iff.mp HXQ.out).1⟩, HQ, HM, HF2, HB, BK, HGL⟩
                          case measure => exact meas_upG HKN.out (by first | rfl | (rw [← i64_w]; exact HW1.out) | exact HW1.out)
                        case pos =>
                          have HLT := Aside0.mk hlt
                          have p9 : decide ((j : Int) < (L.length : Int)) = true := decide_eq_true (by omega)
                          have p8 : ((j : Int) < (L.length : Int)) = True := eq_true (by omega)
                          have p7 : ((0 : Int) ≤ (j : Int)) = True := eq_true (by omega)
                          obtain ⟨ed, rfl, hn0, hn1⟩ := at_T101 (Kd.C_below HC6.out HB.out) (j : Int) (by omega) (by omega)
                          rw [Int.toNat_natCast] at hn0 hn1
                          have hLi : rd_T101 L (j : Int) = L[j] := by unfold rd_T101; simp [List.getD, hlt]
                          rw [hLi] at hn0 hn1
                          have hin := HSC.out x HXA.out L[j].f1 (by rw [HSX.out]; exact List.mem_map.mpr ⟨L[j], List.getElem_mem hlt, rfl⟩)
                          have hcut : L.map (·.f1) = (L.map (·.f1)).take j ++ L[j].f1 :: (L.map (·.f1)).drop (j + 1) := by
                            have h := (List.take_append_drop j (L.map (·.f1))).symm
                            rw [List.drop_eq_getElem_cons (by simpa using hlt), List.getElem_map] at h
                            exact h
                          have htk : (L.map (·.f1)).take (j + 1) = (L.map (·.f1)).take j ++ [L[j].f1] := by rw [List.take_succ_eq_append_getElem (by simpa using hlt), List.getElem_map]
                          generalize L[j].f0 = nm at hn0
                          generalize L[j].f1 = nd at hn1 hin hcut htk
                          obtain ⟨y0, y1⟩ := (allN_mem _ _).mp hin
                          obtain ⟨td, B6, d6, htd, e0, e1, e2, e3, e4, e5, e6, hd6, hD6⟩ := at_T70 HR0.out nd y0 y1
                          cases htd
                          obtain ⟨kd, hkd⟩ : ∃ z, z = (rd_T70 ns nd).f0 := ⟨_, rfl⟩
                          rw [← hkd] at e0
                          have HKD : Aside0 (dirN ns nd = (kd == 2)) := ⟨by unfold dirN; rw [hkd]⟩
                          have hmc := (Kd.R_celln false HM.out nd y0 y1).1
                          rw [metL_rd _ _ _ y0 y1] at hmc
                          have HMC := Aside0.mk hmc
                          have HIN := Aside0.mk hin
                          have HCUT := Aside0.mk hcut
                          have HTK := Aside0.mk htk
                          have p1 : (0 ≤ nd) = True := eq_true y0
                          have p2 : (nd < (ns.length : Int)) = True := eq_true y1
                          have hw1 : IntKind.i64.wrap ((j : Int) + 1) = ((j + 1 : Nat) : Int) := wrap_upM hlt (by have := HLL.out; omega)
                          have HW2 := Aside0.mk hw1
                          have BKw := BK.out
                          clear hLi hin hcut htk hkd hmc hlt e1 e2 e3 e4 e5 e6 hd6 hD6
                          go_upto_region 32 with (fail)
                          have hb5 : Below wr.heap.size wr (wr.alloc (.cells #[.string nm, .int .i64 nd] 101 (0, 0))) := below_alloc (Below.refl _ _) _
                          have bk6 := blk_new wr (.cells #[.string nm, .int .i64 nd] 101 (0, 0))
                          obtain ⟨g6, hg6⟩ : ∃ g, g = wr.heap.size := ⟨_, rfl⟩
                          obtain ⟨W5, hW5⟩ : ∃ W, W = wr.alloc (.cells #[.string nm, .int .i64 nd] 101 (0, 0)) := ⟨_, rfl⟩
                          rw [← hW5] at hb5 bk6
                          rw [← hg6] at bk6
                          rw [← hW5, ← hg6]
                          have BK5 := Aside0.mk ((hb5.block _ (blk_lt BKw)).trans BKw)
                          have HB5 := Aside0.mk (below_step HB.out hb5)
                          have HQ5 := Aside0.mk (Kd.R_below HQ.out hb5)
                          have HM5 := Aside0.mk (Kd.R_below HM.out hb5)
                          have HGL5 : Aside0 (gm < W5.heap.size) := ⟨Nat.lt_of_lt_of_le HGL.out hb5.size⟩
                          have h61 : W5.cell? ⟨g6, 1, none⟩ = some (.int .i64 nd) := (blk_cell bk6 1).trans rfl
                          have h20 : W5.cell? ⟨g2, 0, none⟩ = some (.slice (some ad) ns.length c0) := (blk_cell BK5.out 0).trans rfl
                          have h30 := (HB5.out.cell (World.block_lt_of_cell? w _ e0)).trans e0
                          have hmc := (hb5.cell (World.block_lt_of_cell? _ _ HMC.out)).trans HMC.out
                          clear hb5 bk6 hW5 hg6 HB BK HQ HM HGL BKw hn0 hn1 e0 HMC
                          by_cases k2 : kd = 2
                          case neg =>
                            have HK2 := Aside0.mk k2
                            have w1 : (kd == 2) = false := by simpa using k2
                            clear k2
                            go_wp2
                            go_roundw
                            case rel => exact ⟨j + 1, Q1, by first | rfl | go_num, HLT, HXQ, HQ5, HM5, ⟨by rw [HTK.out]; exact HF.out.skip (.inl (by rw [HKD.out]; simpa using HK2.out))⟩, HB5, BK5, HGL5⟩
                            case measure => exact meas_upG HLT.out (by first | rfl | (rw [← i64_w]; exact HW2.out) | exact HW2.out)
                          case pos =>
                            have HK2 := Aside0.mk k2
                            have w1 : (kd == 2) = true := by simp [k2]
                            clear k2
                            cases hh : hasL (Q1.take (k + 1)) nd with
                            | true =>
                              have HH := Aside0.mk hh
                              rw [hh] at hmc
                              clear hh
                              go_wp2
                              go_roundw
                              case rel => exact ⟨j + 1, Q1, by first | rfl | go_num, HLT, HXQ, HQ5, HM5, ⟨by rw [HTK.out]; exact HF.out.skip (.inr (List.mem_of_mem_take ((hasL_iff _ _).mp HH.out)))⟩, HB5, BK5, HGL5⟩
                              case measure => exact meas_upG HLT.out (by first | rfl | (rw [← i64_w]; exact HW2.out) | exact HW2.out)
                            | false =>
                              have HH := Aside0.mk hh
                              rw [hh] at hmc
                              clear hh
                              have HPU : Aside0 (Bfs (scN ns) (dirN ns) (allN ns.length) (Q1 ++ [nd]) k ((L.map (·.f1)).take (j + 1))) := ⟨by
                                rw [HTK.out]
                                refine HF.out.push (post := (L.map (·.f1)).drop (j + 1)) HXQ.out (by rw [HSX.out]; exact HCUT.out) (by rw [HKD.out]; simpa using HK2.out) HIN.out ?_
                                have hl := HLA.out nd HIN.out (by unfold freeN; have h := HKD.out; unfold dirN at h; have e : (ndR ns nd).f0 = 2 := (by have h2 := HK2.out; rw [h2] at h; simpa using h); simp [e])
                                rw [← tgts_all]
                                by_cases hz : nd = 0
                                · rw [if_pos hz] at hl ⊢; omega
                                · rw [if_neg hz] at hl ⊢; exact hl.2 (by rw [HKD.out]; simpa using HK2.out)⟩
                              have HQS : Aside0 (Q1.length ≤ 40) := ⟨by have := HF.out.len; rw [allN_len] at this; have := HLEN.out; omega⟩
                              clear HF
                              go_wp2_with (first | ((with_reducible refine gate_dst (N := 135) rfl ?_); refine Kd.R_append (Kd.int .i64) (w0 := w) (W := W5) w.heap.size rfl (.tmp 131) (.tmp 134) 28 3 (.int .i64 0) 8 rfl Tryz.underlying28 intInfo3 rfl (by decide) (by omega) _ Q1 nd [.int .i64 nd] (fun j => j ≠ gm) (fun _ => False) rfl rfl rfl (fun _ h => h.elim) ?hf HQ5.out HB5.out HB5.out.size ?hl ?_; (case hf => (intro j hj; show _ ≠ _; have := HGL5.out; omega)); (case hl => (have := HQS.out; omega)); intro v1 w1 ho1 hb1 hg1 hat1))
                              have HQ6 := Aside0.mk ho1
                              have HB6 := Aside0.mk hb1
                              have HM6 : Aside0 (Kd.R Kd.bool 4 w1 w.heap.size (fun j => j = gm) (.slice (some ⟨gm, 0, none⟩) ns.length cm) (metL ((Q1 ++ [nd]).take (k + 1)) ns.length)) := ⟨by
                                rw [List.take_append_of_le_length (List.getElem?_eq_some_iff.mp HXQ.out).1]
                                exact Kd.R_grown HM5.out hg1 (fun j hj e => HQ5.out.1 j e.symm hj)⟩
                              have BK6 : Aside0 (w1.heap[g2]? = some (.cells #[.slice (some ad) ns.length c0, .int .i64 room] 34 (0, 0))) := ⟨(hg1.block g2 (blk_lt BK5.out) (Kd.R_ne HQ5.out BK5.out (by decide))).trans BK5.out⟩
                              have HGL6 : Aside0 (gm < w1.heap.size) := ⟨Nat.lt_of_lt_of_le HGL5.out hg1.size⟩
                              have HXQ6 : Aside0 ((Q1 ++ [nd])[k]? = some x) := ⟨by rw [List.getElem?_append_left (List.getElem?_eq_some_iff.mp HXQ.out).1]; exact HXQ.out⟩
                              clear ho1 hb1 hg1 hat1 HQ5 HB5 HM5 BK5 HGL5 h61 h20 h30 hmc
                              go_wp2
                              go_roundw
                              case rel => exact ⟨j + 1, Q1 ++ [nd], by first | rfl | go_num, HLT, HXQ6, HQ6, HM6, HPU, HB6, BK6, HGL6⟩
                              case measure => exact meas_upG HLT.out (by first | rfl | (rw [← i64_w]; exact HW2.out) | exact HW2.out)
                    case neg =>
                      have hkl : k = Q.length := by have := HK.out; omega
                      subst hkl
                      have HMQ : Aside0 (Kd.R Kd.bool 4 wr w.heap.size (fun j => j = gm) (.slice (some ⟨gm, 0, none⟩) ns.length cm) (metL Q ns.length)) := ⟨by have := HM.out; rwa [List.take_length] at this⟩
                      obtain ⟨Aq, cq, rfl⟩ := Kd.R_slice HQ.out
                      have p9 : decide ((Q.length : Int) < (Q.length : Int)) = false := by simp
                      have h20 : wr.cell? ⟨g2, 0, none⟩ = some (.slice (some ad) ns.length c0) := (blk_cell BK.out 0).trans rfl
                      clear hlt HM HQ
                      go_wp2
                      clear h20 p9
                      go_loopw [140] (fun iv wq => ∃ i : Nat, i ≤ ns.length ∧ iv = .int .i64 (i : Int) ∧ Aside0 (∀ j, j < i → dirN ns (j : Int) = true → (j : Int) ∈ Q) ∧ Aside0 (Below w.heap.size w wq) ∧ Aside0 (Below wr.heap.size wr wq) ∧ Aside0 (wq.heap[g2]? = some (.cells #[.slice (some ad) ns.length c0, .int .i64 room] 34 (0, 0)))) (fun iv _ => ns.length - (intOf iv).toNat)
                      case atStart => exact ⟨0, Nat.zero_le _, rfl, ⟨fun j h => absurd h (Nat.not_lt_zero _)⟩, HB, ⟨Below.refl _ _⟩, BK⟩
                      case round =>
                        clear HB BK
                        obtain ⟨i, hi, rfl, HN, HB, HBM, BK⟩ := hrel
                        by_cases hlt : i < ns.length
                        case pos =>
                          have HLT := Aside0.mk hlt
                          have p9 : decide ((i : Int) < (ns.length : Int)) = true := decide_eq_true (by omega)
                          have p8 : ((i : Int) < (ns.length : Int)) = True := eq_true (by omega)
                          have p7 : ((0 : Int) ≤ (i : Int)) = True := eq_true (by omega)
                          obtain ⟨bd, B6, d6, hbd, e0, e1, e2, e3, e4, e5, e6, hd6, hC6⟩ := at_T70 (Kd.C_below HR0.out HB.out) (i : Int) (by omega) (by omega)
                          cases hbd
                          rw [Int.toNat_natCast] at e0 e1 e2 e3 e4 e5 e6
                          obtain ⟨x, hx⟩ : ∃ x, x = rd_T70 ns (i : Int) := ⟨_, rfl⟩
                          rw [← hx] at e0 e1 e2 e3 e4 e5 e6 hd6 hC6
                          have HXM : Aside0 (x ∈ ns) := ⟨by rw [hx, rdNd ns i hlt]; exact List.getElem_mem hlt⟩
                          have HX := Aside0.mk (show ndR ns (i : Int) = x from hx.symm)
                          have BKw := BK.out
                          have hw1 : IntKind.i64.wrap ((i : Int) + 1) = ((i + 1 : Nat) : Int) := wrap_upM hlt (by have := HLEN.out; omega)
                          have HW1 := Aside0.mk hw1
                          have HD6 := Aside0.mk hd6
                          have hmc := (Kd.R_celln false (Kd.R_below HMQ.out HBM.out) (i : Int) (by omega) (by omega)).1
                          rw [metL_rd _ _ _ (by omega) (by omega), Int.toNat_natCast] at hmc
                          have HMC := Aside0.mk hmc
                          clear hmc
                          clear hx hlt hi hd6 hC6
                          go_upto_region 38 with (fail)
                          have hb5 : Below wr.heap.size wr (wr.alloc (.cells #[.int .i64 x.f0, .int .i64 x.f1, .int .i64 x.f2, .int .i64 x.f3, .int .i64 x.f4, .string x.f5, .slice B6 x.f6.length d6] 70 (0, 0))) := below_alloc (Below.refl _ _) _
                          have bk6 := blk_new wr (.cells #[.int .i64 x.f0, .int .i64 x.f1, .int .i64 x.f2, .int .i64 x.f3, .int .i64 x.f4, .string x.f5, .slice B6 x.f6.length d6] 70 (0, 0))
                          obtain ⟨g6, hg6⟩ : ∃ g, g = wr.heap.size := ⟨_, rfl⟩
                          obtain ⟨W5, hW5⟩ : ∃ W, W = wr.alloc (.cells #[.int .i64 x.f0, .int .i64 x.f1, .int .i64 x.f2, .int .i64 x.f3, .int .i64 x.f4, .string x.f5, .slice B6 x.f6.length d6] 70 (0, 0)) := ⟨_, rfl⟩
                          rw [← hW5] at hb5 bk6
                          rw [← hg6] at bk6
                          rw [← hW5, ← hg6]
                          have BK5 := Aside0.mk ((hb5.block _ (blk_lt BKw)).trans BKw)
                          have HB5 := Aside0.mk (below_step HB.out hb5)
                          have BK65 := Aside0.mk bk6
                          have HBM5 := Aside0.mk (below_step HBM.out hb5)
                          have hmc : W5.cell? ⟨gm, i, none⟩ = some (.bool (hasL Q (i : Int))) := (hb5.cell (World.block_lt_of_cell? _ _ HMC.out)).trans HMC.out
                          have h60 : W5.cell? ⟨g6, 0, none⟩ = some (.int .i64 x.f0) := (blk_cell bk6 0).trans rfl
                          have h61 : W5.cell? ⟨g6, 1, none⟩ = some (.int .i64 x.f1) := (blk_cell bk6 1).trans rfl
                          have h62 : W5.cell? ⟨g6, 2, none⟩ = some (.int .i64 x.f2) := (blk_cell bk6 2).trans rfl
                          have h63 : W5.cell? ⟨g6, 3, none⟩ = some (.int .i64 x.f3) := (blk_cell bk6 3).trans rfl
                          have h64 : W5.cell? ⟨g6, 4, none⟩ = some (.int .i64 x.f4) := (blk_cell bk6 4).trans rfl
                          have h65 : W5.cell? ⟨g6, 5, none⟩ = some (.string x.f5) := (blk_cell bk6 5).trans rfl
                          have h66 : W5.cell? ⟨g6, 6, none⟩ = some (.slice B6 x.f6.length d6) := (blk_cell bk6 6).trans rfl
                          have h20 : W5.cell? ⟨g2, 0, none⟩ = some (.slice (some ad) ns.length c0) := (blk_cell BK5.out 0).trans rfl
                          have h21 : W5.cell? ⟨g2, 1, none⟩ = some (.int .i64 room) := (blk_cell BK5.out 1).trans rfl
                          clear hb5 bk6 hW5 hg6 HB HBM BK BKw e0 e1 e2 e3 e4 e5 e6 BK65 h61 h62 h63 h64 h65 h66 h20 h21 HMC
                          by_cases k2 : x.f0 = 2
                          case neg =>
                            have HK2 := Aside0.mk k2
                            have w1 : (x.f0 == 2) = false := by simpa using k2
                            clear k2
                            go_wp2
                            go_roundw
                            case rel => exact ⟨i + 1, HLT.out, by first | rfl | go_num, ⟨fun j hj hd => by
                              rcases Nat.lt_succ_iff_lt_or_eq.mp hj with h | rfl
                              · exact HN.out j h hd
                              · exact absurd (by unfold dirN at hd; rw [HX.out] at hd; simpa using hd) HK2.out⟩, HB5, HBM5, BK5⟩
                            case measure => exact meas_upG HLT.out (by first | rfl | (rw [← i64_w]; exact HW1.out) | exact HW1.out)
                          case pos =>
                            have HK2 := Aside0.mk k2
                            have w1 : (x.f0 == 2) = true := by simp [k2]
                            clear k2
                            cases hh : hasL Q (i : Int) with
                            | true =>
                              have HH := Aside0.mk hh
                              rw [hh] at hmc
                              clear hh
                              go_wp2
                              go_roundw
                              case rel => exact ⟨i + 1, HLT.out, by first | rfl | go_num, ⟨fun j hj hd => by
                                rcases Nat.lt_succ_iff_lt_or_eq.mp hj with h | rfl
                                · exact HN.out j h hd
                                · exact (hasL_iff _ _).mp HH.out⟩, HB5, HBM5, BK5⟩
                              case measure => exact meas_upG HLT.out (by first | rfl | (rw [← i64_w]; exact HW1.out) | exact HW1.out)
                            | false =>
                              have HH := Aside0.mk hh
                              rw [hh] at hmc
                              clear hh
                              go_wp2
                              go_ret
                              exact GPost.no (fun h => by
                                have hd : dirN ns (i : Int) = true := by unfold dirN; rw [HX.out]; simpa using HK2.out
                                have h1 := h.met (i : Int) ((allN_mem _ _).mpr ⟨by omega, by have := HLT.out; omega⟩) hd
                                have h2 := (HF.out.done (fun x hx => by obtain ⟨y, hy⟩ := List.exists_mem_of_ne_nil _ hx; exact (good_sc HNI.out x y hy).2) (i : Int) hd).mpr h1
                                exact Bool.false_ne_true (HH.out.symm.trans ((hasL_iff _ _).mpr h2))) HB5.out
                        case neg =>
                          have hil : i = ns.length := by omega
                          subst hil
                          have p9 : decide ((ns.length : Int) < (ns.length : Int)) = false := by simp
                          clear hlt hi
                          go_wp2
                          go_ret
                          exact GPost.yes ⟨HLEN.out, B2.out, HT0.out.trans HTP.out, HNI.out, by have := HSM.out; omega, fun y hy hf => HLA.out y hy hf, fun y hy hd => by
                            obtain ⟨h0, h1⟩ := (allN_mem _ _).mp hy
                            obtain ⟨m, rfl⟩ := Int.eq_ofNat_of_zero_le h0
                            exact (HF.out.done (fun x hx => by obtain ⟨y, hy⟩ := List.exists_mem_of_ne_nil _ hx; exact (good_sc HNI.out x y hy).2) (m : Int) hd).mp (HN.out m (by omega) hd)⟩ HB.out

end Go.Proofs.YthalkpflbbpniaaGreatDoor.Q

/- impl.GoodFs as a bool, the same as the reference's, for its callers. -/
namespace Go.Proofs.YthalkpflbbpniaaGreatDoor.Q
open Go.RowKit Go.Proofs.YthalkpflbbpniaaGreatDoorW.PrintWords Go.Proofs.YthalkpflbbpniaaGreatDoorW.PrintLast Go.Proofs.YthalkpflbbpniaaGreatDoorW.PrintMore
attribute [local go_sem] max2_int min2_int max_two min_two max_three min_three max_four min_four   -- for this text's walks alone
set_option linter.unusedVariables false
set_option linter.unusedSimpArgs false

theorem iGoodB_iff (ns : List Nd) (room : Int) : sGoodB ns room = true ↔ IGood ns room := (sGoodB_iff ns room).trans (good_iff ns room).symm
def impl_GoodFs.f (l0_0 : List Nd) (a0_1 : Int) : Option Bool := if fitB l0_0 = true then some (sGoodB l0_0 a0_1) else none
theorem impl_GoodFs.calls (A0_0 : Option Addr) (c0_0 : Nat) (l0_0 : List Nd) (a0_1 : Int) (r : Bool) (w : World) (hr0_0 : Kd.C k70 w A0_0 l0_0.length l0_0) (hc0_0 : l0_0.length ≤ c0_0) (h : impl_GoodFs.f l0_0 a0_1 = some r) :
    Calls Tryz.prog 57 #[.agg #[.slice A0_0 l0_0.length c0_0, .int .i64 a0_1]] w fun e w' => e = .returned (.bool r) ∧ Below w.heap.size w w' := by
  unfold impl_GoodFs.f at h
  split at h
  · rename_i hf
    rw [← Option.some.inj h]
    refine (goodFs_walk l0_0 A0_0 c0_0 a0_1 w hr0_0 hc0_0 (fitB_ok hf)).mono ?_
    rintro e w' ⟨b, he, hb, hB⟩
    refine ⟨?_, hB⟩
    rw [he, Bool.eq_iff_iff.mpr (hb.trans (iGoodB_iff l0_0 a0_1).symm)]
  · cases h

end Go.Proofs.YthalkpflbbpniaaGreatDoor.Q

-- Printed by a program of this session (wip/tools/myprint.py) that runs the kit's print, hand-proved functions among the others.
namespace Go.Proofs.YthalkpflbbpniaaGreatDoor.Q
open Go.RowKit Go.Proofs.YthalkpflbbpniaaGreatDoorW.PrintWords Go.Proofs.YthalkpflbbpniaaGreatDoorW.PrintLast Go.Proofs.YthalkpflbbpniaaGreatDoorW.PrintMore
attribute [local go_sem] max2_int min2_int max_two min_two max_three min_three max_four min_four   -- for this text's walks alone
set_option linter.unusedVariables false
set_option linter.unusedSimpArgs false

/-! ### impl_isGoodAt: function 47 -/
def impl_isGoodAt.f (l0_0 : List (S70)) (a0_1 : Int) (a1 : Int) : Option (Bool) := (impl_GoodFs.f l0_0 a0_1).bind fun t420 => (if t420 = true then ((impl_Fs_isThere.f l0_0 a0_1 a1).bind fun t421 => (some t421)) else (some false))
set_option maxHeartbeats 8000000 in
set_option maxRecDepth 100000 in
theorem impl_isGoodAt.calls (A0_0 : Option Addr) (c0_0 : Nat) (l0_0 : List (S70)) (a0_1 : Int) (a1 : Int) (r : Bool) (w : World) (hr0_0 : Kd.C k70 w A0_0 l0_0.length l0_0) (hc0_0 : l0_0.length ≤ c0_0) (h : impl_isGoodAt.f l0_0 a0_1 a1 = some r) :
  Calls Tryz.prog 47 #[.agg #[.slice A0_0 l0_0.length c0_0, .int .i64 a0_1], .int .i64 a1] w fun e w' => e = .returned (.bool r) ∧ Below w.heap.size w w' := by
 have hu34 := Tryz.underlying34
 have HR0_0 := Aside0.mk hr0_0
 have HC0_0 := Aside0.mk hc0_0
 clear hr0_0 hc0_0
 have HB := Aside0.mk (Below.refl w.heap.size w)
 have H : ((impl_GoodFs.f l0_0 a0_1).bind fun t420 => (if t420 = true then ((impl_Fs_isThere.f l0_0 a0_1 a1).bind fun t421 => (some t421)) else (some false))) = some r := h
 clear h
 replace H := Option.bind_eq_some_iff.mp H
 obtain ⟨t420, A30, H⟩ := H
 try dsimp only at H
 have A3 := Aside0.mk A30
 clear A30
 by_cases c4 : t420 = true
 ·subst c4
  have H1 := H
  rw [if_pos rfl] at H1
  clear H
  have H := H1
  clear H1
  replace H := Option.bind_eq_some_iff.mp H
  obtain ⟨t421, A50, H⟩ := H
  try dsimp only at H
  have A5 := Aside0.mk A50
  clear A50
  obtain rfl := Option.some.inj H
  go_enter Tryz.func47, Tryz.ntmps47
  go_wp2_with (first | ((with_reducible refine gate_dst (N := 2) rfl ?_); refine box_event ?hg (N := 2) ?hd (cs := #[.slice A0_0 l0_0.length c0_0, .int .i64 a0_1]) (t := 34) ?hr ?_; (case hd => rfl); (case hg => rfl); (case hr => first | (go_simp; done) | (go_simp; rfl)); intro gb419 hg w6 hbox hb; have n0_ := Aside0.mk (below_step (Gtr.bw HB.out) hb); have n1_ := Aside0.mk (hbox); have n2_ := Aside0.mk ((by rw [hg]; exact (below_size (Gtr.bw HB.out)) : w.heap.size ≤ gb419)); have n3_ := Aside0.mk ((by rw [hg]; exact (below_size (Gtr.bw HB.out)) : w.heap.size ≤ gb419)); clear HB; have HB := n0_; have BK419 := n1_; have GW419 := n2_; have GE419 := n3_; clear n0_ n1_ n2_ n3_; clear hb hbox hg; have hcz7_0 : w6.cell? ⟨gb419, 0, none⟩ = some (.slice A0_0 l0_0.length c0_0) := (blk_cell BK419.out 0).trans rfl; have hcz7_1 : w6.cell? ⟨gb419, 1, none⟩ = some (.int .i64 a0_1) := (blk_cell BK419.out 1).trans rfl; have hfz7_0 := blk_frozen BK419.out 0; have hfz7_1 := blk_frozen BK419.out 1) | ((with_reducible refine gate_callee (f := 57) rfl ?_); refine goesL_ (some 6) rfl rfl Tryz.func57 (by kernel_rfl) rfl #[.agg #[.slice A0_0 l0_0.length c0_0, .int .i64 a0_1]] rfl (by (try simp only [List.map_toArray, List.map_cons, List.map_nil]); first | done | rfl | (simp only [List.length_drop, List.length_take]; rfl)) ?_; (with_reducible refine (impl_GoodFs.calls _ _ l0_0 a0_1 true _ ?side1 ?side2 A3.out).mono ?_); (case side1 => repeat (first | exact (Kd.C_below HR0_0.out HB.out) | (with_reducible refine Kd.C_alloc ?_ _) | (with_reducible refine Kd.C_drewN ?_ _) | (with_reducible refine Kd.C_drew ?_))); (case side2 => exact HC0_0.out); rintro e w8 ⟨rfl, hb⟩; refine ⟨_, rfl, ?_⟩; have n0_ := Aside0.mk (blk_below (g := gb419) (o := .cells #[.slice A0_0 l0_0.length c0_0, .int .i64 a0_1] 34 (0, 0)) (by (with_reducible repeat (first | refine blk_drewN ?_ _ | refine blk_drew ?_ | refine blk_alloc ?_ _)); exact BK419.out) hb); have n1_ := Aside0.mk (below_step (Gtr.bw HB.out) hb); clear BK419; clear HB; have BK419 := n0_; have HB := n1_; clear n0_ n1_; (try clear hb); (try clear hb2); (try clear hk); (try clear hi); have hcz9_0 : w8.cell? ⟨gb419, 0, none⟩ = some (.slice A0_0 l0_0.length c0_0) := (blk_cell BK419.out 0).trans rfl; have hcz9_1 : w8.cell? ⟨gb419, 1, none⟩ = some (.int .i64 a0_1) := (blk_cell BK419.out 1).trans rfl; have hfz9_0 := blk_frozen BK419.out 0; have hfz9_1 := blk_frozen BK419.out 1) | (go_at_call 75; (with_reducible refine (impl_Fs_isThere.calls _ _ l0_0 a0_1 a1 t421 _ ?side1 ?side2 A5.out).mono ?_); (case side1 => repeat (first | exact (Kd.C_below HR0_0.out HB.out) | (with_reducible refine Kd.C_alloc ?_ _) | (with_reducible refine Kd.C_drewN ?_ _) | (with_reducible refine Kd.C_drew ?_))); (case side2 => exact HC0_0.out); rintro e w10 ⟨rfl, hb⟩; have n0_ := Aside0.mk (blk_below (g := gb419) (o := .cells #[.slice A0_0 l0_0.length c0_0, .int .i64 a0_1] 34 (0, 0)) (by (with_reducible repeat (first | refine blk_drewN ?_ _ | refine blk_drew ?_ | refine blk_alloc ?_ _)); exact BK419.out) hb); have n1_ := Aside0.mk (below_step (Gtr.bw HB.out) hb); clear BK419; clear HB; have BK419 := n0_; have HB := n1_; clear n0_ n1_; (try clear hb); (try clear hb2); (try clear hk); (try clear hi)))
  go_ret
  exact ⟨by first | rfl | (simp [errW_none, errW_some] <;> rfl) | (simp [*, errW_none, errW_some] <;> rfl), (Gtr.bw HB.out)⟩
 ·replace c4 := Bool.eq_false_iff.mpr c4
  subst c4
  have H1 : (some false) = some r := by rw [if_neg (show ¬ (false = true) by decide)] at H; exact H
  clear H
  have H := H1
  clear H1
  obtain rfl := Option.some.inj H
  go_enter Tryz.func47, Tryz.ntmps47
  go_wp2_with (first | ((with_reducible refine gate_dst (N := 2) rfl ?_); refine box_event ?hg (N := 2) ?hd (cs := #[.slice A0_0 l0_0.length c0_0, .int .i64 a0_1]) (t := 34) ?hr ?_; (case hd => rfl); (case hg => rfl); (case hr => first | (go_simp; done) | (go_simp; rfl)); intro gb419 hg w11 hbox hb; have n0_ := Aside0.mk (below_step (Gtr.bw HB.out) hb); have n1_ := Aside0.mk (hbox); have n2_ := Aside0.mk ((by rw [hg]; exact (below_size (Gtr.bw HB.out)) : w.heap.size ≤ gb419)); have n3_ := Aside0.mk ((by rw [hg]; exact (below_size (Gtr.bw HB.out)) : w.heap.size ≤ gb419)); clear HB; have HB := n0_; have BK419 := n1_; have GW419 := n2_; have GE419 := n3_; clear n0_ n1_ n2_ n3_; clear hb hbox hg; have hcz12_0 : w11.cell? ⟨gb419, 0, none⟩ = some (.slice A0_0 l0_0.length c0_0) := (blk_cell BK419.out 0).trans rfl; have hcz12_1 : w11.cell? ⟨gb419, 1, none⟩ = some (.int .i64 a0_1) := (blk_cell BK419.out 1).trans rfl; have hfz12_0 := blk_frozen BK419.out 0; have hfz12_1 := blk_frozen BK419.out 1) | ((with_reducible refine gate_callee (f := 57) rfl ?_); refine goesL_ (some 6) rfl rfl Tryz.func57 (by kernel_rfl) rfl #[.agg #[.slice A0_0 l0_0.length c0_0, .int .i64 a0_1]] rfl (by (try simp only [List.map_toArray, List.map_cons, List.map_nil]); first | done | rfl | (simp only [List.length_drop, List.length_take]; rfl)) ?_; (with_reducible refine (impl_GoodFs.calls _ _ l0_0 a0_1 false _ ?side1 ?side2 A3.out).mono ?_); (case side1 => repeat (first | exact (Kd.C_below HR0_0.out HB.out) | (with_reducible refine Kd.C_alloc ?_ _) | (with_reducible refine Kd.C_drewN ?_ _) | (with_reducible refine Kd.C_drew ?_))); (case side2 => exact HC0_0.out); rintro e w13 ⟨rfl, hb⟩; refine ⟨_, rfl, ?_⟩; have n0_ := Aside0.mk (blk_below (g := gb419) (o := .cells #[.slice A0_0 l0_0.length c0_0, .int .i64 a0_1] 34 (0, 0)) (by (with_reducible repeat (first | refine blk_drewN ?_ _ | refine blk_drew ?_ | refine blk_alloc ?_ _)); exact BK419.out) hb); have n1_ := Aside0.mk (below_step (Gtr.bw HB.out) hb); clear BK419; clear HB; have BK419 := n0_; have HB := n1_; clear n0_ n1_; (try clear hb); (try clear hb2); (try clear hk); (try clear hi)))
  go_ret
  exact ⟨by first | rfl | (simp [errW_none, errW_some] <;> rfl) | (simp [*, errW_none, errW_some] <;> rfl), (Gtr.bw HB.out)⟩
end Go.Proofs.YthalkpflbbpniaaGreatDoor.Q

/- (Fs).walk and (Fs).ways: all ways of a node, by hand. -/
namespace Go.Proofs.YthalkpflbbpniaaGreatDoor.Q
open Go.RowKit Go.Proofs.YthalkpflbbpniaaGreatDoorW.PrintWords Go.Proofs.YthalkpflbbpniaaGreatDoorW.PrintLast Go.Proofs.YthalkpflbbpniaaGreatDoorW.PrintMore
attribute [local go_sem] max2_int min2_int max_two min_two max_three min_three max_four min_four   -- for this text's walks alone
set_option linter.unusedVariables false
set_option linter.unusedSimpArgs false

def belowP (p nm : ByteArray) : ByteArray := if p.toList = ([46] : List UInt8) then nm else (p ++ (⟨#[47]⟩ : ByteArray)) ++ nm
abbrev Wy := ByteArray × Int
abbrev kW : Kd Wy := Kd.pair Kd.string (Kd.int .i64)
def chW (ns : List Nd) (a : Wy) : List Wy := (ndR ns a.2).f6.map (fun e => (belowP a.1 e.f0, e.f1))
abbrev visitV (g : Nat) : Value := .func (.func 102) #[] #[.pointer (some ⟨g, 0, none⟩)]
theorem wayInfo : (Tryz.prog.info? 121).map (fun i => (i.zero, i.size, i.bytes)) = some (some (.agg #[.string ⟨#[]⟩, .int .i64 0]), 2, 24) := by kernel_rfl
/-- Where the visits are put: a box with a row of ways. -/
structure OutAt (B : Nat) (w0 : World) (g : Nat) (W : World) (P0 : Nat → Prop) (v : Value) (rows : List Wy) : Prop where
  box : W.heap[g]? = some (.cells #[v] 118 (0, 0))
  row : Kd.R kW 121 W B P0 v rows
  below : Below B w0 W
theorem OutAt.step {B g : Nat} {w0 W W2 : World} {P0 : Nat → Prop} {v : Value} {rows : List Wy} (h : OutAt B w0 g W P0 v rows) (hB : B ≤ W.heap.size) (hb : Below W.heap.size W W2) : OutAt B w0 g W2 P0 v rows :=
  ⟨(hb.block _ (blk_lt h.box)).trans h.box, Kd.R_below h.row hb, h.below.trans (hb.mono hB)⟩
theorem OutAt.weak {B g : Nat} {w0 W : World} {P0 P1 : Nat → Prop} {v : Value} {rows : List Wy} (h : OutAt B w0 g W P0 v rows) (hp : ∀ k, P0 k → P1 k) : OutAt B w0 g W P1 v rows :=
  ⟨h.box, Kd.R_mono h.row hp, h.below⟩
set_option maxHeartbeats 4000000 in
set_option maxRecDepth 100000 in
theorem visit_calls (B : Nat) (w0 : World) (g : Nat) (hg : B ≤ g) (p : ByteArray) (x : Int) (P0 : Nat → Prop) (hP : ¬ P0 g) (v : Value) (rows : List Wy) (w : World) (ho : OutAt B w0 g w P0 v rows) (hl : rows.length ≤ 1000000000) :
    Calls Tryz.prog 102 #[.agg #[.string p, .int .i64 x], .pointer (some ⟨g, 0, none⟩)] w fun e w' => ∃ u v', e = .returned u ∧ OutAt B w0 g w' (fun k => P0 k ∨ w.heap.size ≤ k) v' (rows ++ [(p, x)]) ∧ Kept w w' (fun k => P0 k ∨ k = g) := by
  have hu1 := Tryz.underlying121
  have hu2 := Tryz.underlying118
  have HO := Aside0.mk ho
  have HG := Aside0.mk hg
  have HP := Aside0.mk hP
  have HL := Aside0.mk hl
  obtain ⟨Av, cv, rfl⟩ := Kd.R_slice ho.row
  have hlt := blk_lt ho.box
  have HLT := Aside0.mk hlt
  have c0 := (blk_cell ho.box 0).trans rfl
  clear ho hg hP hl hlt
  go_enter Tryz.func102, Tryz.ntmps102
  go_upto_region 1 with (fail)
  obtain ⟨W, hW⟩ : ∃ W, W = w.alloc (.cells #[.string p, .int .i64 x] 121 (0, 0)) := ⟨_, rfl⟩
  have hb : Below w.heap.size w W := by rw [hW]; exact below_alloc (Below.refl _ _) _
  have bk := blk_new w (.cells #[.string p, .int .i64 x] 121 (0, 0))
  obtain ⟨g2, hg2⟩ : ∃ k, k = w.heap.size := ⟨_, rfl⟩
  rw [← hW] at bk
  rw [← hg2] at bk
  rw [← hW, ← hg2]
  have O1 := Aside0.mk ((HO.out.step (by have := HG.out; have := HLT.out; omega) hb).weak (P1 := fun k => P0 k ∨ w.heap.size ≤ k) (fun _ h => .inl h))
  have HS : Aside0 (w.heap.size ≤ W.heap.size) := ⟨hb.size⟩
  have K1 : Aside0 (Kept w W (fun k => P0 k ∨ k = g)) := ⟨Kept.of_below hb _⟩
  have c1 : W.cell? ⟨g, 0, none⟩ = some (.slice Av rows.length cv) := (blk_cell O1.out.box 0).trans rfl
  have f1 : W.frozen? ⟨g, 0, none⟩ = false := blk_frozen O1.out.box 0
  have d0 : W.cell? ⟨g2, 0, none⟩ = some (.string p) := (blk_cell bk 0).trans rfl
  have d1 : W.cell? ⟨g2, 1, none⟩ = some (.int .i64 x) := (blk_cell bk 1).trans rfl
  clear hW hb bk hg2 c0
  go_wp2_with (first | ((with_reducible refine gate_dst (N := 6) rfl ?_); refine Kd.R_append kW (w0 := w0) (W := W) B rfl (.tmp 3) (.tmp 5) 118 121 (.agg #[.string ⟨#[]⟩, .int .i64 0]) 24 rfl Tryz.underlying118 wayInfo rfl (by decide) (by omega) (.slice Av rows.length cv) rows (p, x) [.string p, .int .i64 x] (fun k => P0 k ∨ w.heap.size ≤ k) (fun _ => False) rfl rfl ⟨[.string p], [.int .i64 x], rfl, rfl, rfl⟩ (fun _ h => h.elim) ?hf O1.out.row O1.out.below ?hz ?hl ?_; (case hf => (intro j hj; exact Or.inr (Nat.le_trans HS.out hj))); (case hz => (have := HG.out; have := HLT.out; have := HS.out; omega)); (case hl => (have := HL.out; omega)); intro v1 w1 ho1 hb1 hg1 hat1; obtain ⟨A1, cc1, e1⟩ := Kd.R_slice ho1; subst e1; have hne : some g ≠ (Value.slice Av rows.length cv).ownBlock := (fun e => (O1.out.row.1 g e.symm).elim HP.out (fun h => by have := HLT.out; omega)); have bk1 := (hg1.block g (by have := HLT.out; have := HS.out; omega) hne).trans O1.out.box; have c2 : w1.cell? ⟨g, 0, none⟩ = some (.slice Av rows.length cv) := (blk_cell bk1 0).trans rfl; have f2 : w1.frozen? ⟨g, 0, none⟩ = false := blk_frozen bk1 0))
  have HO2 : Aside0 (OutAt B w0 g (w1.setCell ⟨g, 0, none⟩ (.slice A1 (rows ++ [(p, x)]).length cc1)) (fun k => P0 k ∨ w.heap.size ≤ k) (.slice A1 (rows ++ [(p, x)]).length cc1) (rows ++ [(p, x)])) := ⟨⟨blk_put bk1 0 _ rfl, Kd.R_far ho1 (fun k hk => hk.elim (fun h (e : k = g) => HP.out (e ▸ h)) (fun h => by have := HLT.out; show k ≠ g; omega)) _, hb1.setCell HG.out _⟩⟩
  have HK2 : Aside0 (Kept w (w1.setCell ⟨g, 0, none⟩ (.slice A1 (rows ++ [(p, x)]).length cc1)) (fun k => P0 k ∨ k = g)) := ⟨Kept.setCell (Kept.of_grown hg1 K1.out (fun k hk => (O1.out.row.1 k hk).elim (fun h => .inl (.inl h)) (fun h => .inr h))) (.inl (.inr rfl)) _⟩
  clear ho1 hb1 hg1 hat1 hne bk1 c2 f2 c1 f1 d0 d1
  have hL : (rows ++ [(p, x)]).length = rows.length + 1 := by simp
  rw [hL] at HO2 HK2
  go_end0
  exact ⟨_, _, rfl, HO2.out, HK2.out⟩
theorem OutAt.bound {B g : Nat} {w0 W : World} {P0 : Nat → Prop} {v : Value} {rows : List Wy} (h : OutAt B w0 g W P0 v rows) : OutAt B w0 g W (fun k => P0 k ∧ k < W.heap.size) v rows :=
  ⟨h.box, Kd.R_mono (Kd.R_bound h.row) (fun _ hk => ⟨hk.1, hk.2.2.1⟩), h.below⟩
theorem belowP_size (a b : ByteArray) : (belowP a b).size ≤ a.size + b.size + 1 := by
  unfold belowP
  split
  · omega
  · rw [ByteArray.size_append, ByteArray.size_append]; simp only [ByteArray.size, List.size_toArray, List.length_cons, List.length_nil]; omega
theorem below_f (a b : ByteArray) (ha : a.size ≤ 2000000000) (hb : b.size ≤ 2000000000) : impl_below.f a b = some (belowP a b) := by
  unfold impl_below.f belowP
  split
  · rfl
  · rw [if_pos (by omega), if_pos (by rw [ByteArray.size_append]; simp only [ByteArray.size, List.size_toArray, List.length_cons, List.length_nil] at *; omega)]
theorem preL_cons {α : Type} {f : α → Option (List α)} {a : α} {l r : List α} (h : preL f (a :: l) = some r) : ∃ x y, f a = some x ∧ preL f l = some y ∧ r = x ++ y := by
  unfold preL at h
  cases hx : f a with
  | none => rw [hx] at h; cases h
  | some x =>
    rw [hx] at h
    cases hy : preL f l with
    | none => rw [hy] at h; cases h
    | some y => rw [hy] at h; injection h with h; exact ⟨x, y, rfl, rfl, h.symm⟩
theorem keepW {W : World} {g4 g5 g9 n c0 : Nat} {ad : Addr} {room x nd : Int} {p nm : ByteArray} (b4 : W.heap[g4]? = some (.cells #[.slice (some ad) n c0, .int .i64 room] 34 (0, 0))) (b5 : W.heap[g5]? = some (.cells #[.string p, .int .i64 x] 121 (0, 0))) (b9 : W.heap[g9]? = some (.cells #[.string nm, .int .i64 nd] 101 (0, 0))) :
    W.cell? ⟨g4, 0, none⟩ = some (.slice (some ad) n c0) ∧ W.cell? ⟨g4, 1, none⟩ = some (.int .i64 room) ∧ W.cell? ⟨g5, 0, none⟩ = some (.string p) ∧ W.cell? ⟨g9, 0, none⟩ = some (.string nm) ∧ W.cell? ⟨g9, 1, none⟩ = some (.int .i64 nd) :=
  ⟨(blk_cell b4 0).trans rfl, (blk_cell b4 1).trans rfl, (blk_cell b5 0).trans rfl, (blk_cell b9 0).trans rfl, (blk_cell b9 1).trans rfl⟩
theorem below_drawn0 {W W2 : World} (h : Drawn0 W W2) : Below W.heap.size W W2 := by obtain ⟨n, hn⟩ := h; rw [hn]; exact pw_below_drewN (Below.refl _ _) n
set_option maxHeartbeats 8000000 in
set_option maxRecDepth 100000 in
theorem walk_calls (room : Int) (A0 : Option Addr) (c0 : Nat) (ns : List Nd) (w0 : World) (hr0 : Kd.C k70 w0 A0 ns.length ns) (hn : ns.length ≤ 1000) (hfit : FsFit ns) (hall : ∀ x, x ∈ allN ns.length → ∀ y, y ∈ scN ns x → y ∈ allN ns.length) (g : Nat) (hg : w0.heap.size ≤ g) (d : Nat) : ∀ (p : ByteArray) (x : Int) (P0 : Nat → Prop) (v : Value) (rows r : List Wy) (w : World),
    preD (chW ns) d (p, x) = some r → x ∈ allN ns.length → p.size + d * 1048577 ≤ 1000000000 → rows.length + r.length ≤ 1000000000 → ¬ P0 g → OutAt w0.heap.size w0 g w P0 v rows →
    Calls Tryz.prog 101 #[.agg #[.slice A0 ns.length c0, .int .i64 room], .agg #[.string p, .int .i64 x], .bool false, visitV g] w fun e w' => ∃ u v', e = .returned u ∧ OutAt w0.heap.size w0 g w' (fun k => P0 k ∨ w.heap.size ≤ k) v' (rows ++ r) ∧ Kept w w' (fun k => P0 k ∨ k = g) := by
  have hu1 := Tryz.underlying34
  have hu2 := Tryz.underlying70
  have hu3 := Tryz.underlying101
  have hu4 := Tryz.underlying121
  have HR0 := Aside0.mk hr0
  have HN := Aside0.mk hn
  have HFIT := Aside0.mk hfit
  have HALL := Aside0.mk hall
  have HG := Aside0.mk hg
  clear hr0 hn hfit hall hg
  induction d with
  | zero => intro p x P0 v rows r w h; cases h
  | succ d ih =>
    intro p x P0 v rows r w h hx hsz hl hP ho
    have HIH := Aside0.mk ih
    clear ih
    obtain ⟨l, hpl, rfl⟩ : ∃ l, preL (preD (chW ns) d) (chW ns (p, x)) = some l ∧ r = (p, x) :: l := by
      unfold preD at h
      cases hy : preL (preD (chW ns) d) (chW ns (p, x)) with
      | none => rw [hy] at h; cases h
      | some y => rw [hy] at h; injection h with h; exact ⟨y, rfl, h.symm⟩
    have hgl := blk_lt ho.box
    have HGL := Aside0.mk hgl
    have HX := Aside0.mk hx
    have HSZ := Aside0.mk hsz
    have HLN : Aside0 (rows.length + l.length + 1 ≤ 1000000000) := ⟨by rw [List.length_cons] at hl; omega⟩
    have HP := Aside0.mk hP
    have HO := Aside0.mk ho.bound
    have HPL := Aside0.mk hpl
    clear h hx hsz hl hP ho hpl hgl
    go_enter Tryz.func101, Tryz.ntmps101
    go_upto_region 1 with (fail)
    obtain ⟨ad, A6, c6, had, e0, e1, e2, e3, e4, e5, e6, hc6, hC6⟩ := at_T70 HR0.out x ((allN_mem _ _).mp HX.out).1 ((allN_mem _ _).mp HX.out).2
    subst had
    obtain ⟨W2, hW2⟩ : ∃ W, W = (w.alloc (.cells #[.slice (some ad) ns.length c0, .int .i64 room] 34 (0, 0))).alloc (.cells #[.string p, .int .i64 x] 121 (0, 0)) := ⟨_, rfl⟩
    have hb2 : Below w.heap.size w W2 := by rw [hW2]; exact below_alloc (below_alloc (Below.refl _ _) _) _
    have bk4 : W2.heap[w.heap.size]? = some (.cells #[.slice (some ad) ns.length c0, .int .i64 room] 34 (0, 0)) := by rw [hW2]; exact blk_alloc (blk_new _ _) _
    have bk5 : W2.heap[w.heap.size + 1]? = some (.cells #[.string p, .int .i64 x] 121 (0, 0)) := by rw [hW2]; have h := blk_new (w.alloc (.cells #[.slice (some ad) ns.length c0, .int .i64 room] 34 (0, 0))) (.cells #[.string p, .int .i64 x] 121 (0, 0)); rwa [World.size_alloc] at h
    obtain ⟨g4, hg4⟩ : ∃ k, k = w.heap.size := ⟨_, rfl⟩
    obtain ⟨g5, hg5⟩ : ∃ k, k = w.heap.size + 1 := ⟨_, rfl⟩
    rw [← hg4] at bk4
    rw [← hg5] at bk5
    rw [← hW2, ← hg5, ← hg4]
    have HG45 : Aside0 (w.heap.size ≤ g4 ∧ w.heap.size ≤ g5 ∧ g4 < W2.heap.size ∧ g5 < W2.heap.size) := ⟨by omega, by omega, blk_lt bk4, blk_lt bk5⟩
    have O2 := Aside0.mk (HO.out.step (by have := HG.out; have := HGL.out; omega) hb2)
    have K2 : Aside0 (Kept w W2 (fun k => P0 k ∨ k = g)) := ⟨Kept.of_below hb2 _⟩
    have BK4 := Aside0.mk bk4
    have BK5 := Aside0.mk bk5
    have HS2 : Aside0 (w.heap.size ≤ W2.heap.size) := ⟨hb2.size⟩
    have hx0 : W2.cell? ⟨g5, 0, none⟩ = some (.string p) := (blk_cell bk5 0).trans rfl
    have hx1 : W2.cell? ⟨g5, 1, none⟩ = some (.int .i64 x) := (blk_cell bk5 1).trans rfl
    clear hW2 hb2 bk4 bk5 hg4 hg5 HO e0 e1 e2 e3 e4 e5 hc6
    have HC6 := Aside0.mk hC6
    clear hC6
    go_wp2_with fail
    refine (visit_calls w0.heap.size w0 g HG.out p x (fun k => P0 k ∧ k < w.heap.size) (fun h => HP.out h.1) v rows W2 O2.out (by have := HLN.out; omega)).mono ?_; rintro e w3 ⟨u3, v3, rfl, ho3, hk3⟩
    have BK43 := Aside0.mk (blk_kept BK4.out hk3 (fun h => h.elim (fun h => by have := HG45.out; have := h.2; omega) (fun h => by have := HG45.out; have := HGL.out; omega)))
    have BK53 := Aside0.mk (blk_kept BK5.out hk3 (fun h => h.elim (fun h => by have := HG45.out; have := h.2; omega) (fun h => by have := HG45.out; have := HGL.out; omega)))
    have O3 := Aside0.mk ho3
    have K3 : Aside0 (Kept w w3 (fun k => P0 k ∨ k = g)) := ⟨K2.out.then_ hk3 (fun k hk => .inl (hk.elim (fun h => .inl h.1) .inr))⟩
    have HS3 : Aside0 (W2.heap.size ≤ w3.heap.size) := ⟨hk3.1⟩
    clear ho3 hk3 BK4 BK5 O2 K2 hx0 hx1
    have hnd := (allN_mem ns.length x).mp HX.out
    have q1 : ((0 : Int) ≤ x) = True := eq_true hnd.1
    have q2 : (x < (ns.length : Int)) = True := eq_true hnd.2
    have h6 := (O3.out.below.cell (World.block_lt_of_cell? w0 _ e6)).trans e6
    have h40 : w3.cell? ⟨g4, 0, none⟩ = some (.slice (some ad) ns.length c0) := (blk_cell BK43.out 0).trans rfl
    have h51 : w3.cell? ⟨g5, 1, none⟩ = some (.int .i64 x) := (blk_cell BK53.out 1).trans rfl
    obtain ⟨L, hLL⟩ : ∃ L, L = (rd_T70 ns x).f6 := ⟨_, rfl⟩
    have hmem : (∃ y, y ∈ ns ∧ L = y.f6) ∨ L = [] := by
      rcases ndR_cases ns x with h | h
      · exact .inl ⟨_, h, hLL⟩
      · exact .inr (hLL.trans h)
    have hlen : L.length ≤ 1048576 := by
      rcases hmem with ⟨y, hy, rfl⟩ | h
      · exact HFIT.out.list y hy
      · rw [h]; simp
    have hnm : ∀ e, e ∈ L → e.f0.size ≤ 1048576 := by
      intro e he
      rcases hmem with ⟨y, hy, rfl⟩ | h
      · exact HFIT.out.name y hy e he
      · rw [h] at he; simp at he
    have hpl := HPL.out
    change preL _ ((rd_T70 ns x).f6.map (fun e => (belowP p e.f0, e.f1))) = _ at hpl
    have hsub := HALL.out x HX.out
    change ∀ y, y ∈ (rd_T70 ns x).f6.map (·.f1) → _ at hsub
    rw [← hLL] at h6 HC6 hpl hsub
    have HLEN := Aside0.mk hlen
    have HNM := Aside0.mk hnm
    have HPL2 := Aside0.mk hpl
    have HSUB := Aside0.mk hsub
    clear e6 hLL hmem hlen hnm hpl HPL hsub hnd
    go_wp2
    go_loopw [23] (fun v23 wr => ∃ (i : Nat) (v : Value) (r1 r2 : List Wy), i ≤ L.length ∧ v23 = .int .i64 (i : Int) ∧ Aside0 (OutAt w0.heap.size w0 g wr (fun k => (P0 k ∧ k < w.heap.size) ∨ W2.heap.size ≤ k) v ((rows ++ [(p, x)]) ++ r1)) ∧ Aside0 (preL (preD (chW ns) d) ((L.map (fun e => (belowP p e.f0, e.f1))).drop i) = some r2 ∧ r1 ++ r2 = l) ∧ Aside0 (Kept w wr (fun k => P0 k ∨ k = g)) ∧ Aside0 (wr.heap[g4]? = some (.cells #[.slice (some ad) ns.length c0, .int .i64 room] 34 (0, 0))) ∧ Aside0 (wr.heap[g5]? = some (.cells #[.string p, .int .i64 x] 121 (0, 0))) ∧ Aside0 (W2.heap.size ≤ wr.heap.size)) (fun v23 _ => L.length - (intOf v23).toNat)
    case atStart => exact ⟨0, v3, [], l, Nat.zero_le _, rfl, ⟨by rw [List.append_nil]; exact O3.out⟩, ⟨by rw [List.drop_zero]; exact ⟨HPL2.out, rfl⟩⟩, K3, BK43, BK53, HS3⟩
    case round =>
      clear O3 K3 BK43 BK53 HS3 HPL2 h6 h40 h51
      obtain ⟨i, v, r1, r2, hi, rfl, O, HF, KK, BK4, BK5, HS⟩ := hrel
      by_cases hlt : i < L.length
      case neg =>
        have hil : i = L.length := by omega
        subst hil
        have p9 : decide ((L.length : Int) < (L.length : Int)) = false := by simp
        have HR : Aside0 (r1 = l) := ⟨by
          have h := HF.out
          rw [List.drop_eq_nil_of_le (by simp)] at h
          have e : r2 = [] := by have h1 := h.1; unfold preL at h1; injection h1 with h1; exact h1.symm
          rw [← h.2, e, List.append_nil]⟩
        clear hlt hi
        go_wp2
        go_end0
        exact ⟨_, v, rfl, by have h := O.out.weak (P1 := fun k => P0 k ∨ w.heap.size ≤ k) (fun k hk => hk.elim (fun h => .inl h.1) (fun h => .inr (Nat.le_trans HS2.out h))); rw [HR.out, List.append_assoc] at h; exact h, KK.out⟩
      case pos =>
        have HLT := Aside0.mk hlt
        have p9 : decide ((i : Int) < (L.length : Int)) = true := decide_eq_true (by omega)
        have p8 : ((i : Int) < (L.length : Int)) = True := eq_true (by omega)
        have p7 : ((0 : Int) ≤ (i : Int)) = True := eq_true (by omega)
        obtain ⟨bd, rfl, hn0, hn1⟩ := at_T101 (Kd.C_below HC6.out O.out.below) (i : Int) (by omega) (by omega)
        rw [Int.toNat_natCast] at hn0 hn1
        have hLi : rd_T101 L (i : Int) = L[i] := by unfold rd_T101; simp [List.getD, hlt]
        rw [hLi] at hn0 hn1
        have hF := HF.out
        rw [List.drop_eq_getElem_cons (by simpa using hlt), List.getElem_map] at hF
        have hin := HSUB.out L[i].f1 (List.mem_map.mpr ⟨L[i], List.getElem_mem hlt, rfl⟩)
        have hnm := HNM.out L[i] (List.getElem_mem hlt)
        generalize L[i].f0 = nm at hn0 hF hnm
        generalize L[i].f1 = nd at hn1 hF hin
        obtain ⟨y1, y2, hy1, hy2, hy3⟩ := preL_cons hF.1
        have HY1 := Aside0.mk hy1
        have HY2 := Aside0.mk hy2
        have HY3 : Aside0 ((r1 ++ y1) ++ y2 = l) := ⟨by rw [List.append_assoc, ← hy3]; exact hF.2⟩
        have HIN := Aside0.mk hin
        have HPS : Aside0 (p.size + nm.size + 1 + d * 1048577 ≤ 1000000000) := ⟨by have := HSZ.out; have e : (d + 1) * 1048577 = d * 1048577 + 1048577 := Nat.succ_mul d 1048577; omega⟩
        have HBel := Aside0.mk (fun W => impl_below.calls p nm (belowP p nm) W (below_f p nm (by have := HPS.out; omega) (by have := HPS.out; omega)))
        have hw1 : IntKind.i64.wrap ((i : Int) + 1) = ((i + 1 : Nat) : Int) := wrap_upM hlt (by have := HLEN.out; omega)
        have HW1 := Aside0.mk hw1
        clear hLi hlt hi hF hin hnm hy1 hy2 hy3 HF
        go_upto_region 6 with (fail)
        have hb5 : Below wr.heap.size wr (wr.alloc (.cells #[.string nm, .int .i64 nd] 101 (0, 0))) := below_alloc (Below.refl _ _) _
        have bk6 := blk_new wr (.cells #[.string nm, .int .i64 nd] 101 (0, 0))
        obtain ⟨g6, hg6⟩ : ∃ g, g = wr.heap.size := ⟨_, rfl⟩
        obtain ⟨W5, hW5⟩ : ∃ W, W = wr.alloc (.cells #[.string nm, .int .i64 nd] 101 (0, 0)) := ⟨_, rfl⟩
        rw [← hW5] at hb5 bk6
        rw [← hg6] at bk6
        rw [← hW5, ← hg6]
        have HG6 : Aside0 (W2.heap.size ≤ g6 ∧ wr.heap.size = g6 ∧ g < W2.heap.size) := ⟨by have := HS.out; omega, hg6.symm, by have := HGL.out; have := HS2.out; omega⟩
        have O5 := Aside0.mk (O.out.bound.step (by have := HG.out; have := HGL.out; have := HS2.out; have := HS.out; omega) hb5)
        have K5 := Aside0.mk (KK.out.below hb5)
        have BK45 := Aside0.mk (blk_below BK4.out hb5)
        have BK55 := Aside0.mk (blk_below BK5.out hb5)
        have BK65 := Aside0.mk bk6
        have HS5 : Aside0 (wr.heap.size ≤ W5.heap.size) := ⟨hb5.size⟩
        clear hb5 bk6 hW5 hg6 O KK BK4 BK5 hn0 hn1
        have HN4 : Aside0 (¬ (((P0 g4 ∧ g4 < w.heap.size) ∨ W2.heap.size ≤ g4) ∧ g4 < wr.heap.size ∨ g4 = g)) := ⟨fun h => by have h1 := HG45.out; have h2 := HGL.out; rcases h with ⟨h3 | h3, h4⟩ | h3; have := h3.2; omega; omega; omega⟩
        have HN5 : Aside0 (¬ (((P0 g5 ∧ g5 < w.heap.size) ∨ W2.heap.size ≤ g5) ∧ g5 < wr.heap.size ∨ g5 = g)) := ⟨fun h => by have h1 := HG45.out; have h2 := HGL.out; rcases h with ⟨h3 | h3, h4⟩ | h3; have := h3.2; omega; omega; omega⟩
        have HN6 : Aside0 (¬ (((P0 g6 ∧ g6 < w.heap.size) ∨ W2.heap.size ≤ g6) ∧ g6 < wr.heap.size ∨ g6 = g)) := ⟨fun h => by have h1 := HG6.out; rcases h with ⟨h3, h4⟩ | h3; omega; omega⟩
        have HLN2 : Aside0 (((rows ++ [(p, x)]) ++ r1).length + y1.length ≤ 1000000000) := ⟨by have h := congrArg List.length HY3.out; simp only [List.length_append, List.length_singleton] at h ⊢; have := HLN.out; omega⟩
        have HPG : Aside0 (¬ (fun k => ((P0 k ∧ k < w.heap.size) ∨ W2.heap.size ≤ k) ∧ k < wr.heap.size) g) := ⟨fun h => h.1.elim (fun h => HP.out h.1) (fun h => by have := HG6.out; omega)⟩
        have HPZ : Aside0 ((belowP p nm).size + d * 1048577 ≤ 1000000000) := ⟨by have := belowP_size p nm; have := HPS.out; omega⟩
        have HB5 : Aside0 (w0.heap.size ≤ W5.heap.size) := ⟨O5.out.below.size⟩
        go_wp2_with fail
        go_region_held3 (fun W => W.cell? ⟨g4, 0, none⟩ = some (.slice (some ad) ns.length c0) ∧ W.cell? ⟨g4, 1, none⟩ = some (.int .i64 room) ∧ W.cell? ⟨g5, 0, none⟩ = some (.string p) ∧ W.cell? ⟨g6, 0, none⟩ = some (.string nm) ∧ W.cell? ⟨g6, 1, none⟩ = some (.int .i64 nd)) (first | exact keepW (blk_drew BK45.out) (blk_drew BK55.out) (blk_drew BK65.out) | exact keepW (blk_kept (blk_below (blk_drew BK45.out) hd) hk6 HN4.out) (blk_kept (blk_below (blk_drew BK55.out) hd) hk6 HN5.out) (blk_kept (blk_below (blk_drew BK65.out) hd) hk6 HN6.out) | exact keepW (blk_below (blk_drew BK45.out) hd) (blk_below (blk_drew BK55.out) hd) (blk_below (blk_drew BK65.out) hd)) (first | (go_at_call 112; refine (HBel.out _).mono ?_; rintro e w2 ⟨rfl, hd0⟩; have hd := below_drawn0 hd0) | (go_at_call 101; refine (HIH.out (belowP p nm) nd (fun k => ((P0 k ∧ k < w.heap.size) ∨ W2.heap.size ≤ k) ∧ k < wr.heap.size) v ((rows ++ [(p, x)]) ++ r1) y1 w2 HY1.out HIN.out HPZ.out HLN2.out HPG.out (O5.out.step HB5.out (below_step (below_drew1 (Below.refl _ _)) hd))).mono ?_; rintro e w6 ⟨u6, v6, rfl, ho6, hk6⟩))
        have hd2 : Below W5.heap.size W5 w2 := below_step (below_drew1 (Below.refl _ _)) hd
        have HSZ6 : Aside0 (W2.heap.size ≤ w2.heap.size ∧ w2.heap.size ≤ w6.heap.size) := ⟨Nat.le_trans HS.out (Nat.le_trans HS5.out hd2.size), hk6.1⟩
        have O6 : Aside0 (OutAt w0.heap.size w0 g w6 (fun k => (P0 k ∧ k < w.heap.size) ∨ W2.heap.size ≤ k) v6 ((rows ++ [(p, x)]) ++ (r1 ++ y1))) := ⟨by rw [← List.append_assoc]; exact ho6.weak (fun k hk => hk.elim (fun h => h.1) (fun h => .inr (Nat.le_trans HSZ6.out.1 h)))⟩
        have K6 : Aside0 (Kept w w6 (fun k => P0 k ∨ k = g)) := ⟨(K5.out.below hd2).then_ hk6 (fun k hk => hk.elim (fun h => h.1.elim (fun h => .inl (.inl h.1)) (fun h => .inr (Nat.le_trans HS2.out h))) (fun h => .inl (.inr h)))⟩
        have BK46 := Aside0.mk (blk_kept (blk_below BK45.out hd2) hk6 HN4.out)
        have BK56 := Aside0.mk (blk_kept (blk_below BK55.out hd2) hk6 HN5.out)
        have HS6 : Aside0 (W2.heap.size ≤ w6.heap.size) := ⟨Nat.le_trans HSZ6.out.1 HSZ6.out.2⟩
        clear hd2 hd hd0 ho6 hk6 BK45 BK55 BK65 O5 K5
        go_wp2
        go_roundw
        case rel => exact ⟨i + 1, v6, r1 ++ y1, y2, HLT.out, by first | rfl | go_num, O6, ⟨HY2.out, HY3.out⟩, K6, BK46, BK56, HS6⟩
        case measure => have := HLT.out; simp [intOf]; omega
set_option maxHeartbeats 4000000 in
set_option maxRecDepth 100000 in
theorem ways_calls (room : Int) (A0 : Option Addr) (c0 : Nat) (ns : List Nd) (w : World) (hr0 : Kd.C k70 w A0 ns.length ns) (hn : ns.length ≤ 1000) (hfit : FsFit ns) (hall : ∀ x, x ∈ allN ns.length → ∀ y, y ∈ scN ns x → y ∈ allN ns.length) (node : Int) (hnode : node ∈ allN ns.length) (d : Nat) (hd : d ≤ 100) (r : List Wy) (h : preD (chW ns) d ((⟨#[46]⟩ : ByteArray), node) = some r) (hl : r.length ≤ 1000000000) :
    Calls Tryz.prog 76 #[.agg #[.slice A0 ns.length c0, .int .i64 room], .int .i64 node, .bool false] w fun e w' => ∃ v, e = .returned v ∧ Kd.R kW 121 w' w.heap.size (fun _ => True) v r ∧ Below w.heap.size w w' := by
  have hu1 := Tryz.underlying34
  have hu2 := Tryz.underlying121
  have hu3 := Tryz.underlying118
  have HW := Aside0.mk (fun (g : Nat) (hg : w.heap.size ≤ g) => walk_calls room A0 c0 ns w hr0 hn hfit hall g hg d ⟨#[46]⟩ node)
  have HH := Aside0.mk h
  have HND := Aside0.mk hnode
  have HL := Aside0.mk hl
  have HD := Aside0.mk hd
  clear hr0 hn hfit hall hnode hl hd h
  go_enter Tryz.func76, Tryz.ntmps76
  go_upto_region 2 with (fail)
  obtain ⟨W2, hW2⟩ : ∃ W, W = ((w.alloc (.cells #[.slice A0 ns.length c0, .int .i64 room] 34 (0, 0))).alloc (.cells #[] 121 (0, 0))).alloc (.cells #[.slice (some ⟨w.heap.size + 1, 0, none⟩) 0 0] 118 (0, 0)) := ⟨_, rfl⟩
  have hb2 : Below w.heap.size w W2 := by rw [hW2]; exact below_alloc (below_alloc (below_alloc (Below.refl _ _) _) _) _
  have bk3 : W2.heap[w.heap.size]? = some (.cells #[.slice A0 ns.length c0, .int .i64 room] 34 (0, 0)) := by rw [hW2]; exact blk_alloc (blk_alloc (blk_new _ _) _) _
  have bk8 : W2.heap[w.heap.size + 1]? = some (.cells #[] 121 (0, 0)) := by rw [hW2]; have h := blk_new (w.alloc (.cells #[.slice A0 ns.length c0, .int .i64 room] 34 (0, 0))) (.cells #[] 121 (0, 0)); rw [World.size_alloc] at h; exact blk_alloc h _
  have bk7 : W2.heap[w.heap.size + 1 + 1]? = some (.cells #[.slice (some ⟨w.heap.size + 1, 0, none⟩) 0 0] 118 (0, 0)) := by rw [hW2]; have h := blk_new ((w.alloc (.cells #[.slice A0 ns.length c0, .int .i64 room] 34 (0, 0))).alloc (.cells #[] 121 (0, 0))) (.cells #[.slice (some ⟨w.heap.size + 1, 0, none⟩) 0 0] 118 (0, 0)); rw [World.size_alloc, World.size_alloc] at h; exact h
  have HO : Aside0 (OutAt w.heap.size w (w.heap.size + 1 + 1) W2 (fun k => k = w.heap.size + 1) (.slice (some ⟨w.heap.size + 1, 0, none⟩) 0 0) []) := ⟨⟨bk7, ⟨fun k hk => by simp [Value.ownBlock] at hk; exact hk.symm, [], ⟨rfl, .inr ⟨w.heap.size + 1, 0, #[], rfl, by omega, bk8, Nat.le_refl _, by simp [maxLen], rfl, rfl⟩⟩, Reps.none _ _⟩, hb2⟩⟩
  have h30 : W2.cell? ⟨w.heap.size, 0, none⟩ = some (.slice A0 ns.length c0) := (blk_cell bk3 0).trans rfl
  have h31 : W2.cell? ⟨w.heap.size, 1, none⟩ = some (.int .i64 room) := (blk_cell bk3 1).trans rfl
  rw [← hW2]
  clear hW2 hb2 bk3 bk8 bk7
  go_wp2_with fail
  refine (HW.out (w.heap.size + 1 + 1) (by omega) _ _ [] r W2 HH.out HND.out (by have := HD.out; have e : (⟨#[46]⟩ : ByteArray).size = 1 := rfl; omega) (by have := HL.out; simpa using this) (by omega) HO.out).mono ?_; rintro e w3 ⟨u3, v3, rfl, ho3, -⟩
  rw [List.nil_append] at ho3
  have O3 := Aside0.mk ho3
  obtain ⟨A3, c3, rfl⟩ := Kd.R_slice ho3.row
  have h7 : w3.cell? ⟨w.heap.size + 1 + 1, 0, none⟩ = some (.slice A3 r.length c3) := (blk_cell ho3.box 0).trans rfl
  clear ho3 h30 h31
  go_wp2
  go_ret
  exact ⟨_, rfl, Kd.R_mono O3.out.row (fun _ _ => trivial), O3.out.below⟩

end Go.Proofs.YthalkpflbbpniaaGreatDoor.Q

/- (Fs).nodesBelow, by hand: the ways' nodes, sorted and made compact. -/
namespace Go.Proofs.YthalkpflbbpniaaGreatDoor.Q
open Go.RowKit Go.Proofs.YthalkpflbbpniaaGreatDoorW.PrintWords Go.Proofs.YthalkpflbbpniaaGreatDoorW.PrintLast Go.Proofs.YthalkpflbbpniaaGreatDoorW.PrintMore
attribute [local go_sem] max2_int min2_int max_two min_two max_three min_three max_four min_four   -- for this text's walks alone
set_option linter.unusedVariables false
set_option linter.unusedSimpArgs false

open Go.Sort in
theorem below_grow (w : World) (os : Array Obj) : Below w.heap.size w (grow w os) :=
  ⟨rfl, rfl, rfl, by simp [grow], fun i hi => by simp [grow, Array.getElem?_append_left hi]⟩
theorem ways_some {ns : List Nd} {room node : Int} (hg : GNode ns room node) : ∃ r : List Wy, preD (chW ns) (ns.length + 1) ((⟨#[46]⟩ : ByteArray), node) = some r ∧ 1 ≤ r.length ∧ r.length ≤ 50000000 ∧ ∀ y, y ∈ r.map Prod.snd ↔ From (scN ns) node y := by
  obtain ⟨q, hq⟩ := (tree_of hg.good).pre_ok node hg.inn
  have hl := (tree_of hg.good).pre_len hg.inn hq
  rw [← tgts_all] at hl
  rw [allN_len] at hq
  have hm := preD_map (Prod.snd : Wy → Int) (chW ns) (scN ns) (fun a => by unfold chW scN; rw [List.map_map]; rfl) (ns.length + 1) ((⟨#[46]⟩ : ByteArray), node)
  rw [hq] at hm
  cases hr : preD (chW ns) (ns.length + 1) ((⟨#[46]⟩ : ByteArray), node) with
  | none => rw [hr] at hm; cases hm
  | some r =>
    rw [hr] at hm
    have e : q = r.map Prod.snd := by injection hm
    have h1 := tgts_len hg.fit
    have h2 := hg.good.len
    have hne : node ∈ q := preD_head (scN ns) _ _ _ hq
    have hlq : q.length = r.length := by rw [e, List.length_map]
    refine ⟨r, rfl, by have := List.length_pos_of_mem hne; omega, by omega, fun y => by rw [← e]; exact preD_mem (scN ns) _ _ _ hq y⟩
def rdW (xs : List Wy) (i : Int) : Wy := xs.getD i.toNat (ByteArray.empty, 0)
theorem at_W {w : World} {A : Option Addr} {n : Nat} {xs : List Wy} (h : Kd.C kW w A n xs) (i : Int) (h0 : 0 ≤ i) (h1 : i < n) : ∃ ad, A = some ad ∧ w.cell? (ad.add (i.toNat * 2)) = some (.string (rdW xs i).1) ∧ w.cell? ⟨(ad.add (i.toNat * 2)).block, (ad.add (i.toNat * 2)).off + 1, none⟩ = some (.int .i64 (rdW xs i).2) := by
  obtain ⟨ad, c, e, _, hK, hc0⟩ := Kd.C_get h (ByteArray.empty, 0) i h0 h1
  have hc : ∀ j u, c[j]? = some u → w.cell? (ad.add (i.toNat * 2 + j)) = some u := hc0
  obtain ⟨c0, c1, rfl, rfl, rfl⟩ := hK
  exact ⟨ad, e, hc 0 _ rfl, by rw [← add_field _ _ 1 (by omega)]; exact hc 1 _ rfl⟩
def impl_Fs_nodesBelow.f (l0_0 : List Nd) (a0_1 : Int) (a1 : Int) : Option (List Int) := if gNode l0_0 a0_1 a1 = true then some (metF l0_0 a1) else none
open Go.Sort in
set_option maxHeartbeats 4000000 in
set_option maxRecDepth 100000 in
theorem nodesBelow_walk (ns : List Nd) (A0 : Option Addr) (c0 : Nat) (room node : Int) (w : World) (hr0 : Kd.C k70 w A0 ns.length ns) (hg : GNode ns room node) :
    Calls Tryz.prog 48 #[.agg #[.slice A0 ns.length c0, .int .i64 room], .int .i64 node] w fun e w' => ∃ v, e = .returned v ∧ Kd.R (Kd.int .i64) 3 w' w.heap.size (fun _ => True) v (metF ns node) ∧ Below w.heap.size w w' := by
  have hu1 := Tryz.underlying34
  have hu2 := Tryz.underlying121
  have hu3 := Tryz.underlying118
  obtain ⟨r, hr1, hr2, hr3, hr4⟩ := ways_some hg
  have HWy := Aside0.mk (fun (W : World) (hb : Below w.heap.size w W) => ways_calls room A0 c0 ns W (Kd.C_below hr0 hb) (by have := hg.good.len; omega) hg.fit (tree_of hg.good).sub node hg.inn (ns.length + 1) (by have := hg.good.len; omega) r hr1 (by omega))
  have HCS : Aside0 (Lib.compact ((r.map Prod.snd).mergeSort fun x y => decide (x ≤ y)) = metF ns node) := ⟨compact_sorted _ _ (metF_ok hg).2.1 (fun y => by rw [(metF_ok hg).2.2 y, hr4 y])⟩
  have HRL : Aside0 (1 ≤ r.length ∧ r.length ≤ 50000000) := ⟨hr2, hr3⟩
  clear hr1 hr2 hr3 hr4 hg hr0
  go_enter Tryz.func48, Tryz.ntmps48
  go_upto_region 2 with (fail)
  obtain ⟨W2, hW2⟩ : ∃ W, W = (w.alloc (.cells #[.slice A0 ns.length c0, .int .i64 room] 34 (0, 0))).alloc (.cells #[] 3 (0, 0)) := ⟨_, rfl⟩
  have hb2 : Below w.heap.size w W2 := by rw [hW2]; exact below_alloc (below_alloc (Below.refl _ _) _) _
  have bk2 : W2.heap[w.heap.size]? = some (.cells #[.slice A0 ns.length c0, .int .i64 room] 34 (0, 0)) := by rw [hW2]; exact blk_alloc (blk_new _ _) _
  have bk8 : W2.heap[w.heap.size + 1]? = some (.cells #[] 3 (0, 0)) := by rw [hW2]; have h := blk_new (w.alloc (.cells #[.slice A0 ns.length c0, .int .i64 room] 34 (0, 0))) (.cells #[] 3 (0, 0)); rwa [World.size_alloc] at h
  have HI2 : Aside0 (Kd.R (Kd.int .i64) 3 W2 w.heap.size (fun _ => True) (.slice (some ⟨w.heap.size + 1, 0, none⟩) 0 0) []) := ⟨fun _ _ => trivial, [], ⟨rfl, .inr ⟨w.heap.size + 1, 0, #[], rfl, by omega, bk8, Nat.le_refl _, by simp [maxLen], rfl, rfl⟩⟩, Reps.none _ _⟩
  have HB2 := Aside0.mk hb2
  have h20 : W2.cell? ⟨w.heap.size, 0, none⟩ = some (.slice A0 ns.length c0) := (blk_cell bk2 0).trans rfl
  have h21 : W2.cell? ⟨w.heap.size, 1, none⟩ = some (.int .i64 room) := (blk_cell bk2 1).trans rfl
  rw [← hW2]
  clear hW2 hb2 bk2 bk8
  go_wp2_with fail
  refine (HWy.out W2 HB2.out).mono ?_; rintro e W3 ⟨v11, rfl, ho3, hd3⟩
  obtain ⟨gw, cw, rfl, -, hgl, hgb⟩ := own_shape ho3 (by have := HRL.out; omega)
  have HW3 : Aside0 (Kd.R kW 121 W3 w.heap.size (fun k => k = gw) (.slice (some ⟨gw, 0, none⟩) r.length cw) r) := ⟨by
    obtain ⟨h1, h2⟩ := Kd.R_lower ho3 HB2.out.size
    exact Kd.R_mono ⟨fun k hk => (show k = gw ∧ True by simp [Value.ownBlock] at hk; exact ⟨hk.symm, trivial⟩), h2.imp_ (fun x cs hp => by obtain ⟨a, b, e1, e2, e3⟩ := hp; exact ⟨a, b, e1, e2, e3⟩)⟩ (fun k hk => hk.1)⟩
  have HI3 := Aside0.mk (Kd.R_below HI2.out hd3)
  have HB3 := Aside0.mk (below_step HB2.out hd3)
  clear ho3 hd3 hgl hgb h20 h21 HI2 HB2 HWy
  go_wp2
  go_loopw [5, 13] (fun v5 v13 wr => ∃ i : Nat, i ≤ r.length ∧ v13 = .int .i64 (i : Int) ∧ Aside0 (Kd.R (Kd.int .i64) 3 wr w.heap.size (fun _ => True) v5 ((r.map Prod.snd).take i)) ∧ Aside0 (Kd.R kW 121 wr w.heap.size (fun k => k = gw) (.slice (some ⟨gw, 0, none⟩) r.length cw) r) ∧ Aside0 (Below w.heap.size w wr)) (fun _ v13 _ => r.length - (intOf v13).toNat)
  case atStart => exact ⟨0, Nat.zero_le _, rfl, ⟨by rw [List.take_zero]; exact HI3.out⟩, HW3, HB3⟩
  case round =>
    clear HI3 HW3 HB3
    obtain ⟨i, hi, rfl, HI, HW, HB⟩ := hrel
    by_cases hlt : i < r.length
    case neg =>
      have hil : i = r.length := by omega
      subst hil
      have p9 : decide ((r.length : Int) < (r.length : Int)) = false := by simp
      have hI := HI.out
      rw [List.take_of_length_le (by simp)] at hI
      obtain ⟨zs, hzs⟩ : ∃ z, z = r.map Prod.snd := ⟨_, rfl⟩
      rw [← hzs] at HCS hI
      have hzl : zs.length = r.length := by rw [hzs, List.length_map]
      obtain ⟨gi, ci, rfl, -, hgl, hgb⟩ := own_shape hI (by have := HRL.out; omega)
      have hown := Kd.own_of_R hI
      obtain ⟨g', cap', hv', -, -, hcap, -, -, hH⟩ := Lib.holds_of_ownsRow (enc := Value.int .i64) hown (fun h => by injection h with h; cases h)
      injection hv' with hv1 _ hv3
      injection hv1 with hv1
      injection hv1 with hv1
      subst hv1 hv3
      obtain ⟨ys, hys⟩ : ∃ y, y = zs.mergeSort fun x y => decide (x ≤ y) := ⟨_, rfl⟩
      have hyl : ys.length = zs.length := by rw [hys, List.length_mergeSort]
      have hcon := Any.slices_Sort_int Tryz.lays189 gi 0 ci zs wr hH hgl (by have := HRL.out; omega)
      rw [← hys] at HCS hcon
      have HCON := Aside0.mk hcon
      have HOWN := Aside0.mk hown
      have HBG := Aside0.mk hgb
      have HYL := Aside0.mk hyl
      have HZL := Aside0.mk hzl
      have HCAP := Aside0.mk hcap
      clear hlt hi hI HI HW hzs hown hH hgl hgb hys hyl hzl hcon hcap
      go_wp2_with fail
      refine (show Calls Tryz.prog 77 _ _ _ from HCON.out).mono ?_; rintro e W5 ⟨rfl, nq, os, rfl⟩
      have hown5 := (Lib.ownsRow_putRow (q := nq) (ys := ys) (k := zs.length) HOWN.out HYL.out (Nat.le_refl _))
      rw [List.take_of_length_le (by have := HYL.out; omega)] at hown5
      have hB5 := Lib.below_putRow (enc := Value.int .i64) (g := gi) (q := nq) (d := ys.toArray) HB.out HBG.out
      generalize putRow (Value.int .i64) (Sort.ahead wr nq) gi 0 ys.toArray = W4 at hown5 hB5 ⊢
      have hg := below_grow W4 os
      have hown6 := own_move hown5 (w1 := grow W4 os) (fun k hk => hg.block k (own_lt hown5 k hk))
      have hB6 := below_step hB5 hg
      generalize grow W4 os = W5 at hown6 hB6 ⊢
      clear hown5 hB5 hg HCON HOWN HB
      obtain ⟨g', cap', hv', -, -, -, -, -, hH⟩ := Lib.holds_of_ownsRow (enc := Value.int .i64) hown6 (fun h => by injection h with h; cases h)
      injection hv' with hv1 _ hv3
      injection hv1 with hv1
      injection hv1 with hv1
      subst hv1 hv3
      rw [← HYL.out] at hown6 ⊢
      have hcon := Any.slices_Compact_int Tryz.laysC20 gi 0 ci ys W5 hH (by have := HRL.out; have := HYL.out; have := HZL.out; omega) (by have := HCAP.out; have := HYL.out; omega)
      have hcl := Lib.compact_length_le ys
      rw [HCS.out] at hcon hcl
      have HCON := Aside0.mk hcon
      have HOWN := Aside0.mk hown6
      have HB6 := Aside0.mk hB6
      have HCL := Aside0.mk hcl
      clear hown6 hB6 hH hcon hcl
      go_wp2_with fail
      refine (show Calls Tryz.prog 78 _ _ _ from HCON.out).mono ?_; rintro e W7 ⟨rfl, nq, rfl⟩
      have hown7 := (Lib.ownsRow_putRow (q := nq) (ys := metF ns node ++ List.replicate (ys.length - (metF ns node).length) 0) (k := (metF ns node).length) HOWN.out (by rw [List.length_append, List.length_replicate]; have := HCL.out; omega) HCL.out)
      rw [List.take_left] at hown7
      have hB7 := Lib.below_putRow (enc := Value.int .i64) (g := gi) (q := nq) (d := (metF ns node ++ List.replicate (ys.length - (metF ns node).length) 0).toArray) HB6.out HBG.out
      generalize putRow (Value.int .i64) (Sort.ahead W5 nq) gi 0 (metF ns node ++ List.replicate (ys.length - (metF ns node).length) 0).toArray = W8 at hown7 hB7 ⊢
      have HR7 : Aside0 (Kd.R (Kd.int .i64) 3 W8 w.heap.size (fun _ => True) (.slice (some ⟨gi, 0, none⟩) (metF ns node).length ci) (metF ns node)) := ⟨Kd.R_of_own hown7 (fun _ _ => trivial)⟩
      have HB7 := Aside0.mk hB7
      clear hown7 hB7 HOWN HB6 HCON
      go_wp2
      go_ret
      exact ⟨_, rfl, HR7.out, HB7.out⟩
    case pos =>
      have HLT := Aside0.mk hlt
      have p9 : decide ((i : Int) < (r.length : Int)) = true := decide_eq_true (by omega)
      have p8 : ((i : Int) < (r.length : Int)) = True := eq_true (by omega)
      have p7 : ((0 : Int) ≤ (i : Int)) = True := eq_true (by omega)
      obtain ⟨ed, hed, hn0, hn1⟩ := at_W (Kd.R_reads' HW.out).2.2 (i : Int) (by omega) (by omega)
      injection hed with hed
      subst hed
      obtain ⟨x, hx⟩ : ∃ x, x = rdW r (i : Int) := ⟨_, rfl⟩
      rw [Int.toNat_natCast, ← hx] at hn0 hn1
      have ea : (Addr.add ⟨gw, 0, none⟩ (i * 2)) = ⟨gw, i * 2, none⟩ := by simp [Addr.add]; omega
      rw [ea] at hn0 hn1
      have htk : (r.map Prod.snd).take (i + 1) = (r.map Prod.snd).take i ++ [x.2] := by
        rw [List.take_succ_eq_append_getElem (by simpa using hlt), List.getElem_map]
        rw [hx]; unfold rdW; rw [Int.toNat_natCast, List.getD_eq_getElem?_getD, List.getElem?_eq_getElem hlt]; rfl
      have HTK := Aside0.mk htk
      have hw1 : IntKind.i64.wrap ((i : Int) + 1) = ((i + 1 : Nat) : Int) := wrap_upM hlt (by have := HRL.out; omega)
      have HW1 := Aside0.mk hw1
      have HTL : Aside0 (((r.map Prod.snd).take i).length ≤ 50000000) := ⟨by rw [List.length_take, List.length_map]; have := HRL.out; omega⟩
      clear hx htk hlt hi
      go_upto_region 5 with (fail)
      have hb5 : Below wr.heap.size wr (wr.alloc (.cells #[.string x.1, .int .i64 x.2] 121 (0, 0))) := below_alloc (Below.refl _ _) _
      have bk6 := blk_new wr (.cells #[.string x.1, .int .i64 x.2] 121 (0, 0))
      obtain ⟨g6, hg6⟩ : ∃ g, g = wr.heap.size := ⟨_, rfl⟩
      obtain ⟨W5, hW5⟩ : ∃ W, W = wr.alloc (.cells #[.string x.1, .int .i64 x.2] 121 (0, 0)) := ⟨_, rfl⟩
      rw [← hW5] at hb5 bk6
      rw [← hg6] at bk6
      rw [← hW5, ← hg6]
      have HB5 := Aside0.mk (below_step HB.out hb5)
      have HI5 := Aside0.mk (Kd.R_below HI.out hb5)
      have HW5 := Aside0.mk (Kd.R_below HW.out hb5)
      have h61 : W5.cell? ⟨g6, 1, none⟩ = some (.int .i64 x.2) := (blk_cell bk6 1).trans rfl
      clear hb5 bk6 hW5 hg6 HB HI HW hn0 hn1
      go_wp2_with (first | ((with_reducible refine gate_dst (N := 21) rfl ?_); refine Kd.R_append (Kd.int .i64) (w0 := w) (W := W5) w.heap.size rfl (.tmp 17) (.tmp 20) 28 3 (.int .i64 0) 8 rfl Tryz.underlying28 intInfo3 rfl (by decide) (by omega) _ ((r.map Prod.snd).take i) x.2 [.int .i64 x.2] (fun _ => True) (fun _ => False) rfl rfl rfl (fun _ h => h.elim) (fun _ _ => trivial) HI5.out HB5.out HB5.out.size ?hl ?_; (case hl => (have := HTL.out; omega)); intro v1 w1 ho1 hb1 hg1 hat1))
      have HI6 : Aside0 (Kd.R (Kd.int .i64) 3 w1 w.heap.size (fun _ => True) v1 ((r.map Prod.snd).take (i + 1))) := ⟨by rw [HTK.out]; exact ho1⟩
      have HB6 := Aside0.mk hb1
      have HW6 : Aside0 (Kd.R kW 121 w1 w.heap.size (fun k => k = gw) (.slice (some ⟨gw, 0, none⟩) r.length cw) r) := ⟨by
        obtain ⟨inner, hown⟩ := Kd.R_own HW5.out
        obtain ⟨cells, hc⟩ := own_typed hown gw rfl
        exact Kd.R_grown HW5.out hg1 (fun k hk => by subst hk; exact Kd.R_ne HI5.out hc (by decide))⟩
      clear ho1 hb1 hg1 hat1 HI5 HB5 HW5 h61
      go_wp2
      go_roundw
      case rel => exact ⟨i + 1, HLT.out, by first | rfl | go_num, HI6, HW6, HB6⟩
      case measure => have := HLT.out; simp [intOf]; omega
theorem impl_Fs_nodesBelow.calls (A0_0 : Option Addr) (c0_0 : Nat) (l0_0 : List Nd) (a0_1 : Int) (a1 : Int) (r : List Int) (w : World) (hr0_0 : Kd.C k70 w A0_0 l0_0.length l0_0) (hc0_0 : l0_0.length ≤ c0_0) (h : impl_Fs_nodesBelow.f l0_0 a0_1 a1 = some r) :
    Calls Tryz.prog 48 #[.agg #[.slice A0_0 l0_0.length c0_0, .int .i64 a0_1], .int .i64 a1] w fun e w' => ∃ v0_ : Value, e = .returned (v0_) ∧ Kd.R (Kd.int .i64) 3 w' w.heap.size (fun _ => True) v0_ r ∧ Below w.heap.size w w' := by
  unfold impl_Fs_nodesBelow.f at h
  split at h
  · rename_i hg
    rw [← Option.some.inj h]
    exact nodesBelow_walk l0_0 A0_0 c0_0 a0_1 a1 w hr0_0 (gNode_ok hg)
  · cases h

end Go.Proofs.YthalkpflbbpniaaGreatDoor.Q

-- Printed by a program of this session (wip/tools/myprint.py) that runs the kit's print, hand-proved functions among the others.
namespace Go.Proofs.YthalkpflbbpniaaGreatDoor.Q
open Go.RowKit Go.Proofs.YthalkpflbbpniaaGreatDoorW.PrintWords Go.Proofs.YthalkpflbbpniaaGreatDoorW.PrintLast Go.Proofs.YthalkpflbbpniaaGreatDoorW.PrintMore
attribute [local go_sem] max2_int min2_int max_two min_two max_three min_three max_four min_four   -- for this text's walks alone
set_option linter.unusedVariables false
set_option linter.unusedSimpArgs false

/-! ### impl_CopyNeeds: function 30 -/
def impl_CopyNeeds.l0 : Nat → List Int → Int → List Int → Int → Int → List (S70) → Int → Option (Int × Int × Bool)
 | 0, _, _, _, _, _, _, _ => none
 | k + 1, x7, x8, x18, x19, x20, x561000, x561001 => if x20 < x19 then (if 0 ≤ x20 then (if x20 < (x18.length : Int) then (if 0 ≤ (rd x18 x20) then (if (rd x18 x20) < (x561000.length : Int) then (impl_CopyNeeds.l0 k x7 (wrap64 (x8 + (((rd_T70 x561000 (rd x18 x20)).f5).size : Int))) x18 x19 (wrap64 (x20 + 1)) x561000 x561001) else (none)) else (none)) else (none)) else (none)) else (some ((x7.length : Int), x8, true))
def impl_CopyNeeds.f (k : Nat) (l0_0 : List (S70)) (a0_1 : Int) (a1 : Int) : Option (Int × Int × Bool) := (impl_isGoodAt.f l0_0 a0_1 a1).bind fun t561 => (if t561 = true then ((impl_Fs_nodesBelow.f l0_0 a0_1 a1).bind fun t562 => (impl_CopyNeeds.l0 k t562 0 t562 (t562.length : Int) 0 l0_0 a0_1)) else (some (0, 0, false)))
set_option maxHeartbeats 8000000 in
set_option maxRecDepth 100000 in
theorem impl_CopyNeeds.calls (k : Nat) (A0_0 : Option Addr) (c0_0 : Nat) (l0_0 : List (S70)) (a0_1 : Int) (a1 : Int) (r1 : Int) (r2 : Int) (r3 : Bool) (w : World) (hr0_0 : Kd.C k70 w A0_0 l0_0.length l0_0) (hc0_0 : l0_0.length ≤ c0_0) (h : impl_CopyNeeds.f k l0_0 a0_1 a1 = some (r1, r2, r3)) :
  Calls Tryz.prog 30 #[.agg #[.slice A0_0 l0_0.length c0_0, .int .i64 a0_1], .int .i64 a1] w fun e w' => e = .returned (.tuple #[.int .i64 r1, .int .i64 r2, .bool r3]) ∧ Below w.heap.size w w' := by
 have hu34 := Tryz.underlying34
 have HR0_0 := Aside0.mk hr0_0
 have HC0_0 := Aside0.mk hc0_0
 clear hr0_0 hc0_0
 have HB := Aside0.mk (Below.refl w.heap.size w)
 have H : ((impl_isGoodAt.f l0_0 a0_1 a1).bind fun t561 => (if t561 = true then ((impl_Fs_nodesBelow.f l0_0 a0_1 a1).bind fun t562 => (impl_CopyNeeds.l0 k t562 0 t562 (t562.length : Int) 0 l0_0 a0_1)) else (some (0, 0, false)))) = some (r1, r2, r3) := h
 clear h
 replace H := Option.bind_eq_some_iff.mp H
 obtain ⟨t561, A30, H⟩ := H
 try dsimp only at H
 have A3 := Aside0.mk A30
 clear A30
 by_cases c4 : t561 = true
 ·subst c4
  have H1 := H
  rw [if_pos rfl] at H1
  clear H
  have H := H1
  clear H1
  replace H := Option.bind_eq_some_iff.mp H
  obtain ⟨t562, A50, H⟩ := H
  try dsimp only at H
  have A5 := Aside0.mk A50
  clear A50
  have H' := Aside0.mk H
  clear H
  go_enter Tryz.func30, Tryz.ntmps30
  go_wp2_with (first | ((with_reducible refine gate_dst (N := 2) rfl ?_); refine box_event ?hg (N := 2) ?hd (cs := #[.slice A0_0 l0_0.length c0_0, .int .i64 a0_1]) (t := 34) ?hr ?_; (case hd => rfl); (case hg => rfl); (case hr => first | (go_simp; done) | (go_simp; rfl)); intro gb560 hg w6 hbox hb; have n0_ := Aside0.mk (below_step (Gtr.bw HB.out) hb); have n1_ := Aside0.mk (hbox); have n2_ := Aside0.mk ((by rw [hg]; exact (below_size (Gtr.bw HB.out)) : w.heap.size ≤ gb560)); have n3_ := Aside0.mk ((by rw [hg]; exact (below_size (Gtr.bw HB.out)) : w.heap.size ≤ gb560)); clear HB; have HB := n0_; have BK560 := n1_; have GW560 := n2_; have GE560 := n3_; clear n0_ n1_ n2_ n3_; clear hb hbox hg; have hcz7_0 : w6.cell? ⟨gb560, 0, none⟩ = some (.slice A0_0 l0_0.length c0_0) := (blk_cell BK560.out 0).trans rfl; have hcz7_1 : w6.cell? ⟨gb560, 1, none⟩ = some (.int .i64 a0_1) := (blk_cell BK560.out 1).trans rfl; have hfz7_0 := blk_frozen BK560.out 0; have hfz7_1 := blk_frozen BK560.out 1) | ((with_reducible refine gate_callee (f := 47) rfl ?_); refine goesL_ (some 13) rfl rfl Tryz.func47 (by kernel_rfl) rfl #[.agg #[.slice A0_0 l0_0.length c0_0, .int .i64 a0_1], .int .i64 a1] rfl (by (try simp only [List.map_toArray, List.map_cons, List.map_nil]); first | done | rfl | (simp only [List.length_drop, List.length_take]; rfl)) ?_; (with_reducible refine (impl_isGoodAt.calls _ _ l0_0 a0_1 a1 true _ ?side1 ?side2 A3.out).mono ?_); (case side1 => repeat (first | exact (Kd.C_below HR0_0.out HB.out) | (with_reducible refine Kd.C_alloc ?_ _) | (with_reducible refine Kd.C_drewN ?_ _) | (with_reducible refine Kd.C_drew ?_))); (case side2 => exact HC0_0.out); rintro e w8 ⟨rfl, hb⟩; refine ⟨_, rfl, ?_⟩; have n0_ := Aside0.mk (blk_below (g := gb560) (o := .cells #[.slice A0_0 l0_0.length c0_0, .int .i64 a0_1] 34 (0, 0)) (by (with_reducible repeat (first | refine blk_drewN ?_ _ | refine blk_drew ?_ | refine blk_alloc ?_ _)); exact BK560.out) hb); have n1_ := Aside0.mk (below_step (Gtr.bw HB.out) hb); clear BK560; clear HB; have BK560 := n0_; have HB := n1_; clear n0_ n1_; (try clear hb); (try clear hb2); (try clear hk); (try clear hi); have hcz9_0 : w8.cell? ⟨gb560, 0, none⟩ = some (.slice A0_0 l0_0.length c0_0) := (blk_cell BK560.out 0).trans rfl; have hcz9_1 : w8.cell? ⟨gb560, 1, none⟩ = some (.int .i64 a0_1) := (blk_cell BK560.out 1).trans rfl; have hfz9_0 := blk_frozen BK560.out 0; have hfz9_1 := blk_frozen BK560.out 1) | ((with_reducible refine gate_callee (f := 48) rfl ?_); refine goesL_ (some 17) rfl rfl Tryz.func48 (by kernel_rfl) rfl #[.agg #[.slice A0_0 l0_0.length c0_0, .int .i64 a0_1], .int .i64 a1] rfl (by (try simp only [List.map_toArray, List.map_cons, List.map_nil]); first | done | rfl | (simp only [List.length_drop, List.length_take]; rfl)) ?_; (with_reducible refine (impl_Fs_nodesBelow.calls _ _ l0_0 a0_1 a1 t562 _ ?side1 ?side2 A5.out).mono ?_); (case side1 => repeat (first | exact (Kd.C_below HR0_0.out HB.out) | (with_reducible refine Kd.C_alloc ?_ _) | (with_reducible refine Kd.C_drewN ?_ _) | (with_reducible refine Kd.C_drew ?_))); (case side2 => exact HC0_0.out); rintro e w10 ⟨v563, rfl, ho0, hb⟩; refine ⟨_, rfl, ?_⟩; have n0_ := Aside0.mk (Kd.R_lower ho0 (below_size (Gtr.bw HB.out))); have n1_ := Aside0.mk (blk_below (g := gb560) (o := .cells #[.slice A0_0 l0_0.length c0_0, .int .i64 a0_1] 34 (0, 0)) (by (with_reducible repeat (first | refine blk_drewN ?_ _ | refine blk_drew ?_ | refine blk_alloc ?_ _)); exact BK560.out) hb); have n2_ := Aside0.mk (below_step (Gtr.bw HB.out) hb); clear BK560; clear HB; have HO564 := n0_; have BK560 := n1_; have HB := n2_; clear n0_ n1_ n2_; (try clear hb); (try clear hb2); (try clear hk); (try clear hi); (try clear ho0); obtain ⟨Ao11, co11, eo11⟩ := Kd.R_slice HO564.out; subst eo11))
  go_loopg [8, 20] k (fun kq v8 v20 w' => ∃ (x8_1 : Int) (x20_1 : Int), v8 = .int .i64 x8_1 ∧ v20 = .int .i64 x20_1 ∧ Aside0 (impl_CopyNeeds.l0 kq t562 x8_1 t562 (t562.length : Int) x20_1 l0_0 a0_1 = some (r1, r2, r3)) ∧ Aside0 (kq ≤ k) ∧ Aside0 (Kd.R (Kd.int .i64) 3 w' w.heap.size (fun _ => True) (.slice Ao11 t562.length co11) t562) ∧ Aside0 (Kd.R (Kd.int .i64) 3 w' w.heap.size (fun _ => True) (.slice Ao11 t562.length co11) t562) ∧ Aside0 (w'.heap[gb560]? = some (.cells #[(.slice A0_0 l0_0.length c0_0), .int .i64 a0_1] 34 (0, 0))) ∧ Aside0 (Below w.heap.size w w'))
  case atStart => exact ⟨(0), (0), (by first | rfl | (simp; done) | (simp [*]; done)), (by first | rfl | (simp; done) | (simp [*]; done)), H', ⟨Nat.le_refl _⟩, ⟨by (with_reducible repeat (first | apply Kd.R_alloc | apply Kd.R_drewN | apply Kd.R_drew)); exact HO564.out⟩, ⟨by (with_reducible repeat (first | apply Kd.R_alloc | apply Kd.R_drewN | apply Kd.R_drew)); exact HO564.out⟩, ⟨by (with_reducible repeat (first | refine blk_drewN ?_ _ | refine blk_drew ?_ | refine blk_alloc ?_ _)); exact BK560.out⟩, ⟨(Gtr.bw HB.out)⟩⟩
  case round =>
   clear H'
   (try clear p2);(try clear c3);(try clear c4);(try clear hcz7_0);(try clear hcz7_1);(try clear hcz9_0);(try clear hcz9_1);(try clear hfz7_0);(try clear hfz7_1);(try clear hfz9_0);(try clear hfz9_1)
   obtain ⟨x8_1, x20_1, rfl, rfl, HA, HK1, HO_7, HO_18, BK560, HB⟩ := hrel
   cases gk with
   | zero => exact absurd HA.out (by simp [impl_CopyNeeds.l0])
   | succ k1 =>
    have H := HA.out
    clear HA
    simp only [impl_CopyNeeds.l0] at H
    by_cases c12 : x20_1 < (t562.length : Int)
    ·rw [if_pos c12] at H
     have c12b0 : decide (x20_1 < (t562.length : Int)) = true := decide_eq_true c12
     clear c12
     refine Or.elim (Classical.em (0 ≤ x20_1)) (fun c13 => ?_) (fun c13 => by rw [if_neg c13] at H; exact absurd H (by simp))
     rw [if_pos c13] at H
     have c13b0 : decide (0 ≤ x20_1) = true := decide_eq_true c13
     clear c13
     refine Or.elim (Classical.em (x20_1 < (t562.length : Int))) (fun c14 => ?_) (fun c14 => by rw [if_neg c14] at H; exact absurd H (by simp))
     rw [if_pos c14] at H
     have c14b0 : decide (x20_1 < (t562.length : Int)) = true := decide_eq_true c14
     clear c14
     refine Or.elim (Classical.em (0 ≤ (rd t562 x20_1))) (fun c15 => ?_) (fun c15 => by rw [if_neg c15] at H; exact absurd H (by simp))
     rw [if_pos c15] at H
     have c15b0 : decide (0 ≤ (rd t562 x20_1)) = true := decide_eq_true c15
     clear c15
     refine Or.elim (Classical.em ((rd t562 x20_1) < (l0_0.length : Int))) (fun c16 => ?_) (fun c16 => by rw [if_neg c16] at H; exact absurd H (by simp))
     rw [if_pos c16] at H
     have c16b0 : decide ((rd t562 x20_1) < (l0_0.length : Int)) = true := decide_eq_true c16
     clear c16
     have H' := Aside0.mk H
     clear H
     have p565 : 0 ≤ (x20_1 : Int) := of_decide_eq_true (by first | (with_reducible assumption) | assumption)
     have q565 : x20_1 < (t562.length : Int) := of_decide_eq_true (by first | (with_reducible assumption) | assumption)
     obtain ⟨ad565, e565, hx565_0⟩ := Kd.at_int (Kd.R_reads' HO_18.out).2.2 x20_1 p565 q565
     cases e565
     replace p565 := eq_true p565
     replace q565 := eq_true q565
     have hcz17_0 : wr.cell? ⟨gb560, 0, none⟩ = some (.slice A0_0 l0_0.length c0_0) := (blk_cell BK560.out 0).trans rfl
     have hcz17_1 : wr.cell? ⟨gb560, 1, none⟩ = some (.int .i64 a0_1) := (blk_cell BK560.out 1).trans rfl
     have hfz17_0 := blk_frozen BK560.out 0
     have hfz17_1 := blk_frozen BK560.out 1
     have p566 : 0 ≤ ((rd t562 x20_1) : Int) := of_decide_eq_true (by first | (with_reducible assumption) | assumption)
     have q566 : (rd t562 x20_1) < (l0_0.length : Int) := of_decide_eq_true (by first | (with_reducible assumption) | assumption)
     obtain ⟨ad566, A566_6, c566_6, e566, hx566_0, hx566_1, hx566_2, hx566_3, hx566_4, hx566_5, hx566_6, hl566_6, hi566_6⟩ := at_T70 HR0_0.out (rd t562 x20_1) p566 q566
     cases e566
     replace hx566_0 := (HB.out.cell (World.block_lt_of_cell? w _ hx566_0)).trans hx566_0
     replace hx566_1 := (HB.out.cell (World.block_lt_of_cell? w _ hx566_1)).trans hx566_1
     replace hx566_2 := (HB.out.cell (World.block_lt_of_cell? w _ hx566_2)).trans hx566_2
     replace hx566_3 := (HB.out.cell (World.block_lt_of_cell? w _ hx566_3)).trans hx566_3
     replace hx566_4 := (HB.out.cell (World.block_lt_of_cell? w _ hx566_4)).trans hx566_4
     replace hx566_5 := (HB.out.cell (World.block_lt_of_cell? w _ hx566_5)).trans hx566_5
     replace hx566_6 := (HB.out.cell (World.block_lt_of_cell? w _ hx566_6)).trans hx566_6
     have HR566_6 := Aside0.mk hi566_6
     have HC566_6 := Aside0.mk hl566_6
     clear hi566_6 hl566_6
     replace p566 := eq_true p566
     replace q566 := eq_true q566
     go_wp2
     go_roundg k1
     case measure => have := HK1.out; omega
     case rel => exact ⟨(wrap64 (x8_1 + (((rd_T70 l0_0 (rd t562 x20_1)).f5).size : Int))), (wrap64 (x20_1 + 1)), (by first | rfl | (simp; done) | (simp [*]; done)), (by first | rfl | (simp; done) | (simp [*]; done)), H', ⟨by have := HK1.out; omega⟩, ⟨by (with_reducible repeat (first | apply Kd.R_alloc | apply Kd.R_drewN | apply Kd.R_drew)); exact HO_7.out⟩, ⟨by (with_reducible repeat (first | apply Kd.R_alloc | apply Kd.R_drewN | apply Kd.R_drew)); exact HO_18.out⟩, ⟨by (with_reducible repeat (first | refine blk_drewN ?_ _ | refine blk_drew ?_ | refine blk_alloc ?_ _)); exact BK560.out⟩, ⟨(Gtr.bw HB.out)⟩⟩
    ·rw [if_neg c12] at H
     have c12b0 : decide (x20_1 < (t562.length : Int)) = false := decide_eq_false c12
     clear c12
     simp only [Option.some.injEq, Prod.mk.injEq] at H
     obtain ⟨rfl, rfl, rfl⟩ := H
     go_wp2
     go_ret3
     exact ⟨by first | rfl | (simp [errW_none, errW_some] <;> rfl) | (simp [*, errW_none, errW_some] <;> rfl), (Gtr.bw HB.out)⟩
 ·replace c4 := Bool.eq_false_iff.mpr c4
  subst c4
  have H1 : (some (0, 0, false)) = some (r1, r2, r3) := by rw [if_neg (show ¬ (false = true) by decide)] at H; exact H
  clear H
  have H := H1
  clear H1
  simp only [Option.some.injEq, Prod.mk.injEq] at H
  obtain ⟨rfl, rfl, rfl⟩ := H
  go_enter Tryz.func30, Tryz.ntmps30
  go_wp2_with (first | ((with_reducible refine gate_dst (N := 2) rfl ?_); refine box_event ?hg (N := 2) ?hd (cs := #[.slice A0_0 l0_0.length c0_0, .int .i64 a0_1]) (t := 34) ?hr ?_; (case hd => rfl); (case hg => rfl); (case hr => first | (go_simp; done) | (go_simp; rfl)); intro gb560 hg w18 hbox hb; have n0_ := Aside0.mk (below_step (Gtr.bw HB.out) hb); have n1_ := Aside0.mk (hbox); have n2_ := Aside0.mk ((by rw [hg]; exact (below_size (Gtr.bw HB.out)) : w.heap.size ≤ gb560)); have n3_ := Aside0.mk ((by rw [hg]; exact (below_size (Gtr.bw HB.out)) : w.heap.size ≤ gb560)); clear HB; have HB := n0_; have BK560 := n1_; have GW560 := n2_; have GE560 := n3_; clear n0_ n1_ n2_ n3_; clear hb hbox hg; have hcz19_0 : w18.cell? ⟨gb560, 0, none⟩ = some (.slice A0_0 l0_0.length c0_0) := (blk_cell BK560.out 0).trans rfl; have hcz19_1 : w18.cell? ⟨gb560, 1, none⟩ = some (.int .i64 a0_1) := (blk_cell BK560.out 1).trans rfl; have hfz19_0 := blk_frozen BK560.out 0; have hfz19_1 := blk_frozen BK560.out 1) | ((with_reducible refine gate_callee (f := 47) rfl ?_); refine goesL_ (some 13) rfl rfl Tryz.func47 (by kernel_rfl) rfl #[.agg #[.slice A0_0 l0_0.length c0_0, .int .i64 a0_1], .int .i64 a1] rfl (by (try simp only [List.map_toArray, List.map_cons, List.map_nil]); first | done | rfl | (simp only [List.length_drop, List.length_take]; rfl)) ?_; (with_reducible refine (impl_isGoodAt.calls _ _ l0_0 a0_1 a1 false _ ?side1 ?side2 A3.out).mono ?_); (case side1 => repeat (first | exact (Kd.C_below HR0_0.out HB.out) | (with_reducible refine Kd.C_alloc ?_ _) | (with_reducible refine Kd.C_drewN ?_ _) | (with_reducible refine Kd.C_drew ?_))); (case side2 => exact HC0_0.out); rintro e w20 ⟨rfl, hb⟩; refine ⟨_, rfl, ?_⟩; have n0_ := Aside0.mk (blk_below (g := gb560) (o := .cells #[.slice A0_0 l0_0.length c0_0, .int .i64 a0_1] 34 (0, 0)) (by (with_reducible repeat (first | refine blk_drewN ?_ _ | refine blk_drew ?_ | refine blk_alloc ?_ _)); exact BK560.out) hb); have n1_ := Aside0.mk (below_step (Gtr.bw HB.out) hb); clear BK560; clear HB; have BK560 := n0_; have HB := n1_; clear n0_ n1_; (try clear hb); (try clear hb2); (try clear hk); (try clear hi)))
  go_ret3
  exact ⟨by first | rfl | (simp [errW_none, errW_some] <;> rfl) | (simp [*, errW_none, errW_some] <;> rfl), (Gtr.bw HB.out)⟩
end Go.Proofs.YthalkpflbbpniaaGreatDoor.Q

-- Printed by a program of this session (wip/tools/myprint.py) that runs the kit's print, hand-proved functions among the others.
namespace Go.Proofs.YthalkpflbbpniaaGreatDoor.Q
open Go.RowKit Go.Proofs.YthalkpflbbpniaaGreatDoorW.PrintWords Go.Proofs.YthalkpflbbpniaaGreatDoorW.PrintLast Go.Proofs.YthalkpflbbpniaaGreatDoorW.PrintMore
attribute [local go_sem] max2_int min2_int max_two min_two max_three min_three max_four min_four   -- for this text's walks alone
set_option linter.unusedVariables false
set_option linter.unusedSimpArgs false

/-! ### impl_FitsCopy: function 19 -/
def impl_FitsCopy.f (k : Nat) (l0_0 : List (S70)) (a0_1 : Int) (a1 : Int) : Option (Bool × Bool) := (impl_CopyNeeds.f k l0_0 a0_1 a1).bind fun bt571 => (if bt571.2.2 = true then ((impl_Fs_freeNodes.f k l0_0 a0_1).bind fun t574 => (if bt571.1 ≤ t574 then ((impl_Fs_bytesIn.f k l0_0 a0_1).bind fun t575 => (some (decide (bt571.2.1 ≤ (wrap64 (a0_1 - t575))), true))) else (some (false, true)))) else (some (false, false)))
def impl_FitsCopy.T4 : Bool × List (List Nat × List Nat) := (true, [([], []), ([], []), ([1], [1]), ([0, 2], [0, 2]), ([3, 2], [3]), ([4], [4]), ([4], [4]), ([6, 4], [4, 6]), ([4], [4]), ([8, 4, 4], [4, 8]), ([7, 9, 4], [4, 7, 9]), ([5, 10, 4], [4, 5, 10]), ([4, 11], [4, 11]), ([12, 9, 0, 1, 2, 3, 4, 5, 6, 7, 8, 9, 10, 11, 12], [12]), ([13, 0, 1, 2, 3, 4, 5, 6, 7, 8, 9, 10, 11, 12, 13], [])])
def impl_FitsCopy.B4 : List Nat := [0, 0, 2, 7, 15, 31, 31, 95, 31, 287, 991, 2047, 4095, 8191, 16383]
theorem impl_FitsCopy.tab4 : rtab .any (opsOf Tryz.f19 4) = impl_FitsCopy.T4 := by kernel_rfl
theorem impl_FitsCopy.bits4 : waitsOk impl_FitsCopy.T4.2 impl_FitsCopy.B4 = true := by kernel_rfl
set_option maxHeartbeats 8000000 in
set_option maxRecDepth 100000 in
theorem impl_FitsCopy.calls (k : Nat) (A0_0 : Option Addr) (c0_0 : Nat) (l0_0 : List (S70)) (a0_1 : Int) (a1 : Int) (r1 : Bool) (r2 : Bool) (w : World) (hr0_0 : Kd.C k70 w A0_0 l0_0.length l0_0) (hc0_0 : l0_0.length ≤ c0_0) (h : impl_FitsCopy.f k l0_0 a0_1 a1 = some (r1, r2)) :
  Calls Tryz.prog 19 #[.agg #[.slice A0_0 l0_0.length c0_0, .int .i64 a0_1], .int .i64 a1] w fun e w' => e = .returned (.tuple #[.bool r1, .bool r2]) ∧ Below w.heap.size w w' := by
 have hu34 := Tryz.underlying34
 have HR0_0 := Aside0.mk hr0_0
 have HC0_0 := Aside0.mk hc0_0
 clear hr0_0 hc0_0
 have HB := Aside0.mk (Below.refl w.heap.size w)
 have H : ((impl_CopyNeeds.f k l0_0 a0_1 a1).bind fun bt571 => (if bt571.2.2 = true then ((impl_Fs_freeNodes.f k l0_0 a0_1).bind fun t574 => (if bt571.1 ≤ t574 then ((impl_Fs_bytesIn.f k l0_0 a0_1).bind fun t575 => (some (decide (bt571.2.1 ≤ (wrap64 (a0_1 - t575))), true))) else (some (false, true)))) else (some (false, false)))) = some (r1, r2) := h
 clear h
 replace H := Option.bind_eq_some_iff.mp H
 obtain ⟨⟨t571, t572, t573⟩, A30, H⟩ := H
 try dsimp only at H
 have A3 := Aside0.mk A30
 clear A30
 by_cases c4 : t573 = true
 ·subst c4
  have H1 := H
  rw [if_pos rfl] at H1
  clear H
  have H := H1
  clear H1
  replace H := Option.bind_eq_some_iff.mp H
  obtain ⟨t574, A50, H⟩ := H
  try dsimp only at H
  have A5 := Aside0.mk A50
  clear A50
  by_cases c6 : t571 ≤ t574
  ·rw [if_pos c6] at H
   have c6b0 : decide (t571 ≤ t574) = true := decide_eq_true c6
   clear c6
   replace H := Option.bind_eq_some_iff.mp H
   obtain ⟨t575, A70, H⟩ := H
   try dsimp only at H
   have A7 := Aside0.mk A70
   clear A70
   simp only [Option.some.injEq, Prod.mk.injEq] at H
   obtain ⟨rfl, rfl⟩ := H
   go_enter Tryz.func19, Tryz.ntmps19
   try go_wp2_with (first | ((with_reducible refine gate_dst (N := 2) rfl ?_); refine box_event ?hg (N := 2) ?hd (cs := #[.slice A0_0 l0_0.length c0_0, .int .i64 a0_1]) (t := 34) ?hr ?_; (case hd => rfl); (case hg => rfl); (case hr => first | (go_simp; done) | (go_simp; rfl)); intro gb570 hg w8 hbox hb; have n0_ := Aside0.mk (below_step (Gtr.bw HB.out) hb); have n1_ := Aside0.mk (hbox); have n2_ := Aside0.mk ((by rw [hg]; exact (below_size (Gtr.bw HB.out)) : w.heap.size ≤ gb570)); have n3_ := Aside0.mk ((by rw [hg]; exact (below_size (Gtr.bw HB.out)) : w.heap.size ≤ gb570)); clear HB; have HB := n0_; have BK570 := n1_; have GW570 := n2_; have GE570 := n3_; clear n0_ n1_ n2_ n3_; clear hb hbox hg; have hcz9_0 : w8.cell? ⟨gb570, 0, none⟩ = some (.slice A0_0 l0_0.length c0_0) := (blk_cell BK570.out 0).trans rfl; have hcz9_1 : w8.cell? ⟨gb570, 1, none⟩ = some (.int .i64 a0_1) := (blk_cell BK570.out 1).trans rfl; have hfz9_0 := blk_frozen BK570.out 0; have hfz9_1 := blk_frozen BK570.out 1) | ((with_reducible refine gate_callee (f := 30) rfl ?_); refine goesL_ (some 12) rfl rfl Tryz.func30 (by kernel_rfl) rfl #[.agg #[.slice A0_0 l0_0.length c0_0, .int .i64 a0_1], .int .i64 a1] rfl (by (try simp only [List.map_toArray, List.map_cons, List.map_nil]); first | done | rfl | (simp only [List.length_drop, List.length_take]; rfl)) ?_; (with_reducible refine (impl_CopyNeeds.calls k _ _ l0_0 a0_1 a1 t571 t572 true _ ?side1 ?side2 A3.out).mono ?_); (case side1 => repeat (first | exact (Kd.C_below HR0_0.out HB.out) | (with_reducible refine Kd.C_alloc ?_ _) | (with_reducible refine Kd.C_drewN ?_ _) | (with_reducible refine Kd.C_drew ?_))); (case side2 => exact HC0_0.out); rintro e w10 ⟨rfl, hb⟩; refine ⟨_, rfl, ?_⟩; have n0_ := Aside0.mk (blk_below (g := gb570) (o := .cells #[.slice A0_0 l0_0.length c0_0, .int .i64 a0_1] 34 (0, 0)) (by (with_reducible repeat (first | refine blk_drewN ?_ _ | refine blk_drew ?_ | refine blk_alloc ?_ _)); exact BK570.out) hb); have n1_ := Aside0.mk (below_step (Gtr.bw HB.out) hb); clear BK570; clear HB; have BK570 := n0_; have HB := n1_; clear n0_ n1_; (try clear hb); (try clear hb2); (try clear hk); (try clear hi)))
   have n0_ := Aside0.mk (blk_drew BK570.out)
   have n1_ := Aside0.mk (below_drew1 HB.out)
   clear BK570
   clear HB
   have BK570 := n0_
   have HB := n1_
   clear n0_ n1_
   refine start_ (n := 15) (S := fun w' => w'.cell? ⟨gb570, 0, none⟩ = some (.slice A0_0 l0_0.length c0_0) ∧ w'.cell? ⟨gb570, 1, none⟩ = some (.int .i64 a0_1)) (ds := []) (Gtr.bb 15 0) (by kernel_rfl) rfl rfl ⟨(blk_cell BK570.out 0).trans rfl, (blk_cell BK570.out 1).trans rfl⟩ (fun hHeld => ?_); refine with_tabW impl_FitsCopy.tab4 impl_FitsCopy.bits4 (fun HT_ HW_ => ?_)
   generalize w10.drew = w11 at BK570 HB hHeld ⊢
   refine pure_ (i := 0) (N := some 18) (v := ?_) (a' := ?_) (Gtr.bb 15 1) rfl rfl (any_of HT_.out (by kernel_rfl)) (fun _ _ _ h => h) (Or.inl ⟨by rfl, ?_⟩) ?_ ?_
   rotate_left
   ·intro w'
    go_simp
    with_reducible rfl
   rotate_left
   ·simp only [Gtr.ps]
    rfl
   refine take_ (i := 1) (N := some 19) (v := ?_) (a' := ?_) (Gtr.bb 15 3) rfl rfl (take_ofW HT_.out HW_.out (by kernel_rfl)) (fun _ _ _ h => h) (Or.inl ⟨by rfl, ?_⟩) hHeld ?_ ?_
   rotate_left
   ·rintro w' ⟨s0, s1⟩
    go_simp
    with_reducible rfl
   rotate_left
   ·simp only [Gtr.ps]
    rfl
   refine one_ (i := 2) (N := some 20) (Gtr.bb 15 7) rfl rfl (one_of HT_.out (by kernel_rfl)) (by decide) (fun K hK => ?_)
   refine goes_ Tryz.func31 (by kernel_rfl) rfl #[.agg #[.slice A0_0 l0_0.length c0_0, .int .i64 a0_1]] (by rfl) rfl rfl (by (try simp only [List.map_toArray, List.map_cons, List.map_nil]); first | done | rfl | (simp only [List.length_drop, List.length_take]; rfl)) ?_
   with_reducible refine (impl_Fs_freeNodes.calls k _ _ l0_0 a0_1 t574 _ ?side1 ?side2 A5.out).mono ?_
   (case side1 => repeat (first | exact (Kd.C_below HR0_0.out HB.out) | (with_reducible refine Kd.C_alloc ?_ _) | (with_reducible refine Kd.C_drewN ?_ _) | (with_reducible refine Kd.C_drew ?_)))
   (case side2 => exact HC0_0.out)
   rintro e w12 ⟨rfl, hb⟩
   refine ⟨_, rfl, ?_⟩
   have n0_ := Aside0.mk (blk_below (g := gb570) (o := .cells #[.slice A0_0 l0_0.length c0_0, .int .i64 a0_1] 34 (0, 0)) (by (with_reducible repeat (first | refine blk_drewN ?_ _ | refine blk_drew ?_ | refine blk_alloc ?_ _)); exact BK570.out) hb)
   have n1_ := Aside0.mk (below_step (Gtr.bw HB.out) hb)
   clear BK570
   clear HB
   have BK570 := n0_
   have HB := n1_
   clear n0_ n1_
   (try clear hb);(try clear hb2);(try clear hk);(try clear hi)
   refine hK.out _ _ ⟨(blk_cell BK570.out 0).trans rfl, (blk_cell BK570.out 1).trans rfl⟩ (fun hHeld => ?_)
   clear hK K
   refine norm_ (a' := ?_) ?_ ?_
   rotate_left
   ·show Act.put _ (some 20) _ = _
    simp only [Gtr.ps]
    rfl
   refine pure_ (i := 3) (N := some 21) (v := ?_) (a' := ?_) (Gtr.bb 15 15) rfl rfl (any_of HT_.out (by kernel_rfl)) (fun _ _ _ h => h) (Or.inl ⟨by rfl, ?_⟩) ?_ ?_
   rotate_left
   ·intro w'
    go_simp
    with_reducible rfl
   rotate_left
   ·simp only [Gtr.ps]
    rfl
   refine pure_ (i := 4) (N := some 22) (v := ?_) (a' := ?_) (Gtr.bb 15 31) rfl rfl (any_of HT_.out (by kernel_rfl)) (fun _ _ _ h => h) (Or.inl ⟨by rfl, ?_⟩) ?_ ?_
   rotate_left
   ·intro w'
    go_simp
    with_reducible rfl
   rotate_left
   ·simp only [Gtr.ps]
    rfl
   refine pure_ (i := 5) (N := some 23) (v := ?_) (a' := ?_) (Gtr.bb 15 63) rfl rfl (any_of HT_.out (by kernel_rfl)) (fun _ _ _ h => h) (Or.inl ⟨by rfl, ?_⟩) ?_ ?_
   rotate_left
   ·intro w'
    go_simp
    with_reducible rfl
   rotate_left
   ·simp only [Gtr.ps]
    rfl
   refine pure_ (i := 6) (N := some 24) (v := ?_) (a' := ?_) (Gtr.bb 15 127) rfl rfl (any_of HT_.out (by kernel_rfl)) (fun _ _ _ h => h) (Or.inl ⟨by rfl, ?_⟩) ?_ ?_
   rotate_left
   ·intro w'
    go_simp
    with_reducible rfl
   rotate_left
   ·simp only [Gtr.ps]
    rfl
   refine take_ (i := 7) (N := some 25) (v := ?_) (a' := ?_) (Gtr.bb 15 255) rfl rfl (take_ofW HT_.out HW_.out (by kernel_rfl)) (fun _ _ _ h => h) (Or.inl ⟨by rfl, ?_⟩) hHeld ?_ ?_
   rotate_left
   ·rintro w' ⟨s0, s1⟩
    go_simp
    with_reducible rfl
   rotate_left
   ·simp only [Gtr.ps]
    rfl
   refine take_ (i := 8) (N := some 26) (v := ?_) (a' := ?_) (Gtr.bb 15 511) rfl rfl (take_ofW HT_.out HW_.out (by kernel_rfl)) (fun _ _ _ h => h) (Or.inl ⟨by rfl, ?_⟩) hHeld ?_ ?_
   rotate_left
   ·rintro w' ⟨s0, s1⟩
    go_simp
    with_reducible rfl
   rotate_left
   ·simp only [Gtr.ps]
    rfl
   refine one_ (i := 9) (N := some 27) (Gtr.bb 15 1023) rfl rfl (one_of HT_.out (by kernel_rfl)) (by decide) (fun K hK => ?_)
   refine goes_ Tryz.func32 (by kernel_rfl) rfl #[.agg #[.slice A0_0 l0_0.length c0_0, .int .i64 a0_1]] (by rfl) rfl rfl (by (try simp only [List.map_toArray, List.map_cons, List.map_nil]); first | done | rfl | (simp only [List.length_drop, List.length_take]; rfl)) ?_
   with_reducible refine (impl_Fs_bytesIn.calls k _ _ l0_0 a0_1 t575 _ ?side1 ?side2 A7.out).mono ?_
   (case side1 => repeat (first | exact (Kd.C_below HR0_0.out HB.out) | (with_reducible refine Kd.C_alloc ?_ _) | (with_reducible refine Kd.C_drewN ?_ _) | (with_reducible refine Kd.C_drew ?_)))
   (case side2 => exact HC0_0.out)
   rintro e w13 ⟨rfl, hb⟩
   refine ⟨_, rfl, ?_⟩
   have n0_ := Aside0.mk (blk_below (g := gb570) (o := .cells #[.slice A0_0 l0_0.length c0_0, .int .i64 a0_1] 34 (0, 0)) (by (with_reducible repeat (first | refine blk_drewN ?_ _ | refine blk_drew ?_ | refine blk_alloc ?_ _)); exact BK570.out) hb)
   have n1_ := Aside0.mk (below_step (Gtr.bw HB.out) hb)
   clear BK570
   clear HB
   have BK570 := n0_
   have HB := n1_
   clear n0_ n1_
   (try clear hb);(try clear hb2);(try clear hk);(try clear hi)
   refine hK.out _ _ ⟨(blk_cell BK570.out 0).trans rfl, (blk_cell BK570.out 1).trans rfl⟩ (fun hHeld => ?_)
   clear hK K
   refine norm_ (a' := ?_) ?_ ?_
   rotate_left
   ·show Act.put _ (some 27) _ = _
    simp only [Gtr.ps]
    rfl
   refine pure_ (i := 10) (N := some 28) (v := ?_) (a' := ?_) (Gtr.bb 15 2047) rfl rfl (any_of HT_.out (by kernel_rfl)) (fun _ _ _ h => h) (Or.inl ⟨by rfl, ?_⟩) ?_ ?_
   rotate_left
   ·intro w'
    go_simp
    with_reducible rfl
   rotate_left
   ·simp only [Gtr.ps]
    rfl
   refine pure_ (i := 11) (N := some 29) (v := ?_) (a' := ?_) (Gtr.bb 15 4095) rfl rfl (any_of HT_.out (by kernel_rfl)) (fun _ _ _ h => h) (Or.inl ⟨by rfl, ?_⟩) ?_ ?_
   rotate_left
   ·intro w'
    go_simp
    with_reducible rfl
   rotate_left
   ·simp only [Gtr.ps]
    rfl
   refine pure_ (i := 12) (N := some 30) (v := ?_) (a' := ?_) (Gtr.bb 15 8191) rfl rfl (any_of HT_.out (by kernel_rfl)) (fun _ _ _ h => h) (Or.inl ⟨by rfl, ?_⟩) ?_ ?_
   rotate_left
   ·intro w'
    go_simp
    with_reducible rfl
   rotate_left
   ·simp only [Gtr.ps]
    rfl
   refine pure_ (i := 13) (N := some 4) (v := ?_) (a' := ?_) (Gtr.bb 15 16383) rfl rfl (any_of HT_.out (by kernel_rfl)) (fun _ _ _ h => h) (Or.inl ⟨by rfl, ?_⟩) ?_ ?_
   rotate_left
   ·intro w'
    go_simp
    with_reducible rfl
   rotate_left
   ·simp only [Gtr.ps]
    rfl
   refine pure_ (i := 14) (N := some 5) (v := ?_) (a' := ?_) (Gtr.bb 15 32767) rfl rfl (any_of HT_.out (by kernel_rfl)) (fun _ _ _ h => h) (Or.inl ⟨by rfl, ?_⟩) ?_ ?_
   rotate_left
   ·intro w'
    go_simp
    with_reducible rfl
   rotate_left
   ·simp only [Gtr.ps]
    rfl
   refine done_ (done_of HT_.out (by kernel_rfl)) ?_
   try go_wp2
   go_ret2
   exact ⟨by first | rfl | (simp [errW_none, errW_some] <;> rfl) | (simp [*, errW_none, errW_some] <;> rfl), (Gtr.bw HB.out)⟩
  ·rw [if_neg c6] at H
   have c6b0 : decide (t571 ≤ t574) = false := decide_eq_false c6
   clear c6
   simp only [Option.some.injEq, Prod.mk.injEq] at H
   obtain ⟨rfl, rfl⟩ := H
   go_enter Tryz.func19, Tryz.ntmps19
   try go_wp2_with (first | ((with_reducible refine gate_dst (N := 2) rfl ?_); refine box_event ?hg (N := 2) ?hd (cs := #[.slice A0_0 l0_0.length c0_0, .int .i64 a0_1]) (t := 34) ?hr ?_; (case hd => rfl); (case hg => rfl); (case hr => first | (go_simp; done) | (go_simp; rfl)); intro gb570 hg w14 hbox hb; have n0_ := Aside0.mk (below_step (Gtr.bw HB.out) hb); have n1_ := Aside0.mk (hbox); have n2_ := Aside0.mk ((by rw [hg]; exact (below_size (Gtr.bw HB.out)) : w.heap.size ≤ gb570)); have n3_ := Aside0.mk ((by rw [hg]; exact (below_size (Gtr.bw HB.out)) : w.heap.size ≤ gb570)); clear HB; have HB := n0_; have BK570 := n1_; have GW570 := n2_; have GE570 := n3_; clear n0_ n1_ n2_ n3_; clear hb hbox hg; have hcz15_0 : w14.cell? ⟨gb570, 0, none⟩ = some (.slice A0_0 l0_0.length c0_0) := (blk_cell BK570.out 0).trans rfl; have hcz15_1 : w14.cell? ⟨gb570, 1, none⟩ = some (.int .i64 a0_1) := (blk_cell BK570.out 1).trans rfl; have hfz15_0 := blk_frozen BK570.out 0; have hfz15_1 := blk_frozen BK570.out 1) | ((with_reducible refine gate_callee (f := 30) rfl ?_); refine goesL_ (some 12) rfl rfl Tryz.func30 (by kernel_rfl) rfl #[.agg #[.slice A0_0 l0_0.length c0_0, .int .i64 a0_1], .int .i64 a1] rfl (by (try simp only [List.map_toArray, List.map_cons, List.map_nil]); first | done | rfl | (simp only [List.length_drop, List.length_take]; rfl)) ?_; (with_reducible refine (impl_CopyNeeds.calls k _ _ l0_0 a0_1 a1 t571 t572 true _ ?side1 ?side2 A3.out).mono ?_); (case side1 => repeat (first | exact (Kd.C_below HR0_0.out HB.out) | (with_reducible refine Kd.C_alloc ?_ _) | (with_reducible refine Kd.C_drewN ?_ _) | (with_reducible refine Kd.C_drew ?_))); (case side2 => exact HC0_0.out); rintro e w16 ⟨rfl, hb⟩; refine ⟨_, rfl, ?_⟩; have n0_ := Aside0.mk (blk_below (g := gb570) (o := .cells #[.slice A0_0 l0_0.length c0_0, .int .i64 a0_1] 34 (0, 0)) (by (with_reducible repeat (first | refine blk_drewN ?_ _ | refine blk_drew ?_ | refine blk_alloc ?_ _)); exact BK570.out) hb); have n1_ := Aside0.mk (below_step (Gtr.bw HB.out) hb); clear BK570; clear HB; have BK570 := n0_; have HB := n1_; clear n0_ n1_; (try clear hb); (try clear hb2); (try clear hk); (try clear hi)))
   have n0_ := Aside0.mk (blk_drew BK570.out)
   have n1_ := Aside0.mk (below_drew1 HB.out)
   clear BK570
   clear HB
   have BK570 := n0_
   have HB := n1_
   clear n0_ n1_
   refine start_ (n := 15) (S := fun w' => w'.cell? ⟨gb570, 0, none⟩ = some (.slice A0_0 l0_0.length c0_0) ∧ w'.cell? ⟨gb570, 1, none⟩ = some (.int .i64 a0_1)) (ds := []) (Gtr.bb 15 0) (by kernel_rfl) rfl rfl ⟨(blk_cell BK570.out 0).trans rfl, (blk_cell BK570.out 1).trans rfl⟩ (fun hHeld => ?_); refine with_tabW impl_FitsCopy.tab4 impl_FitsCopy.bits4 (fun HT_ HW_ => ?_)
   generalize w16.drew = w17 at BK570 HB hHeld ⊢
   refine pure_ (i := 0) (N := some 18) (v := ?_) (a' := ?_) (Gtr.bb 15 1) rfl rfl (any_of HT_.out (by kernel_rfl)) (fun _ _ _ h => h) (Or.inl ⟨by rfl, ?_⟩) ?_ ?_
   rotate_left
   ·intro w'
    go_simp
    with_reducible rfl
   rotate_left
   ·simp only [Gtr.ps]
    rfl
   refine take_ (i := 1) (N := some 19) (v := ?_) (a' := ?_) (Gtr.bb 15 3) rfl rfl (take_ofW HT_.out HW_.out (by kernel_rfl)) (fun _ _ _ h => h) (Or.inl ⟨by rfl, ?_⟩) hHeld ?_ ?_
   rotate_left
   ·rintro w' ⟨s0, s1⟩
    go_simp
    with_reducible rfl
   rotate_left
   ·simp only [Gtr.ps]
    rfl
   refine one_ (i := 2) (N := some 20) (Gtr.bb 15 7) rfl rfl (one_of HT_.out (by kernel_rfl)) (by decide) (fun K hK => ?_)
   refine goes_ Tryz.func31 (by kernel_rfl) rfl #[.agg #[.slice A0_0 l0_0.length c0_0, .int .i64 a0_1]] (by rfl) rfl rfl (by (try simp only [List.map_toArray, List.map_cons, List.map_nil]); first | done | rfl | (simp only [List.length_drop, List.length_take]; rfl)) ?_
   with_reducible refine (impl_Fs_freeNodes.calls k _ _ l0_0 a0_1 t574 _ ?side1 ?side2 A5.out).mono ?_
   (case side1 => repeat (first | exact (Kd.C_below HR0_0.out HB.out) | (with_reducible refine Kd.C_alloc ?_ _) | (with_reducible refine Kd.C_drewN ?_ _) | (with_reducible refine Kd.C_drew ?_)))
   (case side2 => exact HC0_0.out)
   rintro e w18 ⟨rfl, hb⟩
   refine ⟨_, rfl, ?_⟩
   have n0_ := Aside0.mk (blk_below (g := gb570) (o := .cells #[.slice A0_0 l0_0.length c0_0, .int .i64 a0_1] 34 (0, 0)) (by (with_reducible repeat (first | refine blk_drewN ?_ _ | refine blk_drew ?_ | refine blk_alloc ?_ _)); exact BK570.out) hb)
   have n1_ := Aside0.mk (below_step (Gtr.bw HB.out) hb)
   clear BK570
   clear HB
   have BK570 := n0_
   have HB := n1_
   clear n0_ n1_
   (try clear hb);(try clear hb2);(try clear hk);(try clear hi)
   refine hK.out _ _ ⟨(blk_cell BK570.out 0).trans rfl, (blk_cell BK570.out 1).trans rfl⟩ (fun hHeld => ?_)
   clear hK K
   refine norm_ (a' := ?_) ?_ ?_
   rotate_left
   ·show Act.put _ (some 20) _ = _
    simp only [Gtr.ps]
    rfl
   refine pure_ (i := 3) (N := some 21) (v := ?_) (a' := ?_) (Gtr.bb 15 15) rfl rfl (any_of HT_.out (by kernel_rfl)) (fun _ _ _ h => h) (Or.inl ⟨by rfl, ?_⟩) ?_ ?_
   rotate_left
   ·intro w'
    go_simp
    with_reducible rfl
   rotate_left
   ·simp only [Gtr.ps]
    rfl
   refine pure_ (i := 4) (N := some 22) (v := ?_) (a' := ?_) (Gtr.bb 15 31) rfl rfl (any_of HT_.out (by kernel_rfl)) (fun _ _ _ h => h) (Or.inl ⟨by rfl, ?_⟩) ?_ ?_
   rotate_left
   ·intro w'
    go_simp
    with_reducible rfl
   rotate_left
   ·simp only [Gtr.ps]
    rfl
   refine pure_ (i := 5) (N := some 23) (v := undef) (a' := ?_) (Gtr.bb 15 63) rfl rfl (any_of HT_.out (by kernel_rfl)) (fun _ _ _ h => h) (Or.inr ⟨by rfl, rfl⟩) ?_ ?_
   rotate_left
   ·simp only [Gtr.ps]
    rfl
   refine pure_ (i := 6) (N := some 24) (v := undef) (a' := ?_) (Gtr.bb 15 127) rfl rfl (any_of HT_.out (by kernel_rfl)) (fun _ _ _ h => h) (Or.inr ⟨by rfl, rfl⟩) ?_ ?_
   rotate_left
   ·simp only [Gtr.ps]
    rfl
   refine pure_ (i := 7) (N := some 25) (v := undef) (a' := ?_) (Gtr.bb 15 255) rfl rfl (any_of HT_.out (by kernel_rfl)) (fun _ _ _ h => h) (Or.inr ⟨by rfl, rfl⟩) ?_ ?_
   rotate_left
   ·simp only [Gtr.ps]
    rfl
   refine pure_ (i := 8) (N := some 26) (v := undef) (a' := ?_) (Gtr.bb 15 511) rfl rfl (any_of HT_.out (by kernel_rfl)) (fun _ _ _ h => h) (Or.inr ⟨by rfl, rfl⟩) ?_ ?_
   rotate_left
   ·simp only [Gtr.ps]
    rfl
   refine pure_ (i := 9) (N := some 27) (v := undef) (a' := ?_) (Gtr.bb 15 1023) rfl rfl (any_of HT_.out (by kernel_rfl)) (fun _ _ _ h => h) (Or.inr ⟨by rfl, rfl⟩) ?_ ?_
   rotate_left
   ·simp only [Gtr.ps]
    rfl
   refine pure_ (i := 10) (N := some 28) (v := undef) (a' := ?_) (Gtr.bb 15 2047) rfl rfl (any_of HT_.out (by kernel_rfl)) (fun _ _ _ h => h) (Or.inr ⟨by rfl, rfl⟩) ?_ ?_
   rotate_left
   ·simp only [Gtr.ps]
    rfl
   refine pure_ (i := 11) (N := some 29) (v := undef) (a' := ?_) (Gtr.bb 15 4095) rfl rfl (any_of HT_.out (by kernel_rfl)) (fun _ _ _ h => h) (Or.inr ⟨by rfl, rfl⟩) ?_ ?_
   rotate_left
   ·simp only [Gtr.ps]
    rfl
   refine pure_ (i := 12) (N := some 30) (v := ?_) (a' := ?_) (Gtr.bb 15 8191) rfl rfl (any_of HT_.out (by kernel_rfl)) (fun _ _ _ h => h) (Or.inl ⟨by rfl, ?_⟩) ?_ ?_
   rotate_left
   ·intro w'
    go_simp
    with_reducible rfl
   rotate_left
   ·simp only [Gtr.ps]
    rfl
   refine pure_ (i := 13) (N := some 4) (v := ?_) (a' := ?_) (Gtr.bb 15 16383) rfl rfl (any_of HT_.out (by kernel_rfl)) (fun _ _ _ h => h) (Or.inl ⟨by rfl, ?_⟩) ?_ ?_
   rotate_left
   ·intro w'
    go_simp
    with_reducible rfl
   rotate_left
   ·simp only [Gtr.ps]
    rfl
   refine pure_ (i := 14) (N := some 5) (v := ?_) (a' := ?_) (Gtr.bb 15 32767) rfl rfl (any_of HT_.out (by kernel_rfl)) (fun _ _ _ h => h) (Or.inl ⟨by rfl, ?_⟩) ?_ ?_
   rotate_left
   ·intro w'
    go_simp
    with_reducible rfl
   rotate_left
   ·simp only [Gtr.ps]
    rfl
   refine done_ (done_of HT_.out (by kernel_rfl)) ?_
   try go_wp2
   go_ret2
   exact ⟨by first | rfl | (simp [errW_none, errW_some] <;> rfl) | (simp [*, errW_none, errW_some] <;> rfl), (Gtr.bw HB.out)⟩
 ·replace c4 := Bool.eq_false_iff.mpr c4
  subst c4
  have H1 : (some (false, false)) = some (r1, r2) := by rw [if_neg (show ¬ (false = true) by decide)] at H; exact H
  clear H
  have H := H1
  clear H1
  simp only [Option.some.injEq, Prod.mk.injEq] at H
  obtain ⟨rfl, rfl⟩ := H
  go_enter Tryz.func19, Tryz.ntmps19
  go_wp2_with (first | ((with_reducible refine gate_dst (N := 2) rfl ?_); refine box_event ?hg (N := 2) ?hd (cs := #[.slice A0_0 l0_0.length c0_0, .int .i64 a0_1]) (t := 34) ?hr ?_; (case hd => rfl); (case hg => rfl); (case hr => first | (go_simp; done) | (go_simp; rfl)); intro gb570 hg w19 hbox hb; have n0_ := Aside0.mk (below_step (Gtr.bw HB.out) hb); have n1_ := Aside0.mk (hbox); have n2_ := Aside0.mk ((by rw [hg]; exact (below_size (Gtr.bw HB.out)) : w.heap.size ≤ gb570)); have n3_ := Aside0.mk ((by rw [hg]; exact (below_size (Gtr.bw HB.out)) : w.heap.size ≤ gb570)); clear HB; have HB := n0_; have BK570 := n1_; have GW570 := n2_; have GE570 := n3_; clear n0_ n1_ n2_ n3_; clear hb hbox hg; have hcz20_0 : w19.cell? ⟨gb570, 0, none⟩ = some (.slice A0_0 l0_0.length c0_0) := (blk_cell BK570.out 0).trans rfl; have hcz20_1 : w19.cell? ⟨gb570, 1, none⟩ = some (.int .i64 a0_1) := (blk_cell BK570.out 1).trans rfl; have hfz20_0 := blk_frozen BK570.out 0; have hfz20_1 := blk_frozen BK570.out 1) | ((with_reducible refine gate_callee (f := 30) rfl ?_); refine goesL_ (some 12) rfl rfl Tryz.func30 (by kernel_rfl) rfl #[.agg #[.slice A0_0 l0_0.length c0_0, .int .i64 a0_1], .int .i64 a1] rfl (by (try simp only [List.map_toArray, List.map_cons, List.map_nil]); first | done | rfl | (simp only [List.length_drop, List.length_take]; rfl)) ?_; (with_reducible refine (impl_CopyNeeds.calls k _ _ l0_0 a0_1 a1 t571 t572 false _ ?side1 ?side2 A3.out).mono ?_); (case side1 => repeat (first | exact (Kd.C_below HR0_0.out HB.out) | (with_reducible refine Kd.C_alloc ?_ _) | (with_reducible refine Kd.C_drewN ?_ _) | (with_reducible refine Kd.C_drew ?_))); (case side2 => exact HC0_0.out); rintro e w21 ⟨rfl, hb⟩; refine ⟨_, rfl, ?_⟩; have n0_ := Aside0.mk (blk_below (g := gb570) (o := .cells #[.slice A0_0 l0_0.length c0_0, .int .i64 a0_1] 34 (0, 0)) (by (with_reducible repeat (first | refine blk_drewN ?_ _ | refine blk_drew ?_ | refine blk_alloc ?_ _)); exact BK570.out) hb); have n1_ := Aside0.mk (below_step (Gtr.bw HB.out) hb); clear BK570; clear HB; have BK570 := n0_; have HB := n1_; clear n0_ n1_; (try clear hb); (try clear hb2); (try clear hk); (try clear hi)))
  go_ret2
  exact ⟨by first | rfl | (simp [errW_none, errW_some] <;> rfl) | (simp [*, errW_none, errW_some] <;> rfl), (Gtr.bw HB.out)⟩
end Go.Proofs.YthalkpflbbpniaaGreatDoor.Q
