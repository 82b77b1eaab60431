/- Texts of this claim, merged by a program (wip/tools/merge.py): HIGood, HIGoodF, Q63, HWayT, HWalk, HTreeOf, HWayOf, HWaysSome, HFsAsk, HItemsDef, HItemsOf, HPureFs, HMarkText. -/
import Derived.Test.YthalkpflbbpniaaDoorI1
import Derived.Test.YthalkpflbbpniaaDoorI2
import Derived.Test.YthalkpflbbpniaaDoorI15
import Derived.Test.YthalkpflbbpniaaDoorI16
import Derived.Outline
import Derived.BigQuiet
import Derived.Deep.QuietTactic
import Derived.Deep.RegionHeld3
import Derived.Deep.DeepCutAuto
import Derived.Test.YthalkpflbbpniaaDoorI4
import Derived.Test.YthalkpflbbpniaaDoorI3
import Derived.Test.YthalkpflbbpniaaDoorI9
import Derived.Lib.OwnBridge
import Derived.Test.YthalkpflbbpniaaDoorI5
/- impl.GoodFs, by hand. -/
namespace Go.Proofs.YthalkpflbbpniaaDoor.Q
open Go.RowKit Go.Proofs.YthalkpflbbpniaaDoorW.PrintWords Go.Proofs.YthalkpflbbpniaaDoorW.PrintLast Go.Proofs.YthalkpflbbpniaaDoorW.PrintMore
attribute [local go_sem] max2_int min2_int max_two min_two max_three min_three max_four min_four   -- for this text's walks alone
set_option linter.unusedVariables false
set_option linter.unusedSimpArgs false

def GPost (ns : List Nd) (room : Int) (w : World) (e : Ending) (w' : World) : Prop := ∃ b, e = .returned (.bool b) ∧ (b = true ↔ IGood ns room) ∧ Below w.heap.size w w'
theorem GPost.no {ns : List Nd} {room : Int} {w w' : World} (h : IGood ns room → False) (hb : Below w.heap.size w w') : GPost ns room w (.returned (.bool false)) w' := ⟨false, rfl, ⟨fun h => (Bool.false_ne_true h).elim, fun k => (h k).elim⟩, hb⟩
theorem GPost.yes {ns : List Nd} {room : Int} {w w' : World} (h : IGood ns room) (hb : Below w.heap.size w w') : GPost ns room w (.returned (.bool true)) w' := ⟨true, rfl, ⟨fun _ => h, fun _ => rfl⟩, hb⟩
theorem meas_upG {i n : Nat} {z : Int} (h : i < n) (hz : z = ((i + 1 : Nat) : Int)) : n - (intOf (Value.int .i64 z)).toNat < n - (intOf (Value.int .i64 (i : Int))).toNat := by subst hz; show n - (((i + 1 : Nat) : Int)).toNat < n - ((i : Int)).toNat; omega
def LinkAt (ns : List Nd) (y : Int) : Prop := freeN ns y = false → if y = 0 then (tgts ns).count y = 0 else 1 ≤ (tgts ns).count y ∧ (dirN ns y = true → (tgts ns).count y ≤ 1)
theorem boolInfo : (Tryd.prog.info? 4).map (fun i => (i.zero, i.size, i.bytes)) = some (some (.bool false), 1, 1) := by kernel_rfl
theorem intInfo3 : (Tryd.prog.info? 3).map (fun i => (i.zero, i.size, i.bytes)) = some (some (.int .i64 0), 1, 8) := by kernel_rfl
theorem inB_false {lo hi n : Int} (h : inB lo hi n = false) (h1 : lo ≤ n) (h2 : n ≤ hi) : False := Bool.false_ne_true (h.symm.trans ((inB_iff _ _ _).mpr ⟨h1, h2⟩))
theorem tgts_len {ns : List Nd} (h : FsFit ns) : (tgts ns).length ≤ 1048576 * ns.length := by
  have k : ∀ l : List Nd, (∀ x, x ∈ l → x.f6.length ≤ 1048576) → (tgts l).length ≤ 1048576 * l.length := by
    intro l
    induction l with
    | nil => intro _; simp [tgts]
    | cons a l ih =>
      intro hl
      have h1 := ih (fun x hx => hl x (List.mem_cons_of_mem _ hx))
      have h2 := hl a (by simp)
      rw [show tgts (a :: l) = a.f6.map (·.f1) ++ tgts l from rfl, List.length_append, List.length_map, List.length_cons]
      omega
  exact k ns h.list
theorem keepG {w W : World} {a b : Addr} {u v : Value} (h1 : w.cell? a = some u) (h2 : w.cell? b = some v) (hb : Below w.heap.size w W) : W.cell? a = some u ∧ W.cell? b = some v :=
  ⟨(hb.cell (World.block_lt_of_cell? _ _ h1)).trans h1, (hb.cell (World.block_lt_of_cell? _ _ h2)).trans h2⟩
/-- A row that is there lies in a block of its own. -/
theorem own_shape {α : Type} {d : Kd α} {e base : Nat} {ok : Nat → Prop} {w : World} {v : Value} {xs : List α} (h : Kd.R d e w base ok v xs) (hx : 0 < xs.length) : ∃ g c, v = .slice (some ⟨g, 0, none⟩) xs.length c ∧ ok g ∧ g < w.heap.size ∧ base ≤ g := by
  obtain ⟨inner, ho⟩ := Kd.R_own h
  rcases ho.2 with ⟨_, h0⟩ | ⟨g, cap, cur, rfl, hg, hh, r⟩
  · omega
  · exact ⟨g, cap, rfl, h.1 g rfl, blk_lt hh, hg⟩
/-- Which of so many numbers are in a list. -/
def hasL (l : List Int) (y : Int) : Bool := l.any (· == y)
def metL (l : List Int) (n : Nat) : List Bool := (List.range n).map (fun (t : Nat) => hasL l (t : Int))
theorem metL_len (l : List Int) (n : Nat) : (metL l n).length = n := by simp [metL]
theorem metL_nil (n : Nat) : List.replicate n false = metL [] n := by
  apply List.ext_getElem
  · simp [metL]
  · intro i h1 h2; simp [metL, hasL]
theorem metL_rd (l : List Int) (n : Nat) (z : Int) (h0 : 0 ≤ z) (h1 : z < n) : rdOf false (metL l n) z = hasL l z := by
  obtain ⟨m, rfl⟩ := Int.eq_ofNat_of_zero_le h0
  unfold rdOf metL
  rw [List.getD_eq_getElem?_getD, List.getElem?_map, List.getElem?_range (by omega : (m : Int).toNat < n)]
  simp
theorem metL_set (l : List Int) (n : Nat) (z : Int) (h0 : 0 ≤ z) (h1 : z < n) : (metL l n).set z.toNat true = metL (l ++ [z]) n := by
  obtain ⟨m, rfl⟩ := Int.eq_ofNat_of_zero_le h0
  apply List.ext_getElem
  · simp [metL]
  · intro i h2 h3
    rw [List.getElem_set]
    by_cases hi : (m : Int).toNat = i
    · have hm : m = i := by omega
      subst hm
      rw [if_pos hi]; simp [metL, hasL]
    · rw [if_neg hi]
      have : ((m : Int) == (i : Int)) = false := by simp; omega
      simp [metL, hasL, this]
theorem hasL_iff (l : List Int) (y : Int) : hasL l y = true ↔ y ∈ l := by unfold hasL; simp [List.any_eq_true]
set_option maxHeartbeats 8000000 in
set_option maxRecDepth 100000 in
theorem goodFs_walk (ns : List Nd) (A0 : Option Addr) (c0 : Nat) (room : Int) (w : World) (hr0 : Kd.C k49 w A0 ns.length ns) (hc0 : ns.length ≤ c0) (hfit : FsFit ns) :
    Calls Tryd.prog 29 #[.agg #[.slice A0 ns.length c0, .int .i64 room]] w fun e w' => GPost ns room w e w' := by
  have hu1 := Tryd.underlying31
  have hu2 := Tryd.underlying49
  have hu3 := Tryd.underlying80
  obtain ⟨kb, hkb⟩ := (bytesIn_ev ns room hfit).rounds
  have HBy := Aside0.mk (fun W (hb : Below w.heap.size w W) => impl_Fs_bytesIn.calls kb A0 c0 ns room _ W (Kd.C_below hr0 hb) hc0 hkb)
  have HI1 := Aside0.mk (fun W => impl_within.calls (ns.length : Int) 1 40 _ W (within_f _ 1 40))
  have HI2 := Aside0.mk (fun W => impl_isRoom.calls room _ W (isRoom_f _))
  have HR0 := Aside0.mk hr0
  have HC0 := Aside0.mk hc0
  have HFIT := Aside0.mk hfit
  clear hr0 hc0 hfit hkb
  go_enter Tryd.func29, Tryd.ntmps29
  go_upto_region 1 with (fail)
  obtain ⟨W, hW⟩ : ∃ W, W = w.alloc (.cells #[.slice A0 ns.length c0, .int .i64 room] 31 (0, 0)) := ⟨_, rfl⟩
  have HB : Aside0 (Below w.heap.size w W) := ⟨by rw [hW]; exact below_alloc (Below.refl _ _) _⟩
  have BK2 : Aside0 (W.heap[w.heap.size]? = some (.cells #[.slice A0 ns.length c0, .int .i64 room] 31 (0, 0))) := ⟨by rw [hW]; exact blk_new w _⟩
  rw [← hW]
  obtain ⟨g2, hg2⟩ : ∃ g, g = w.heap.size := ⟨_, rfl⟩
  rw [← hg2] at BK2
  rw [← hg2]
  have HG2 := Aside0.mk hg2
  clear hW hg2
  have h20 : W.cell? ⟨g2, 0, none⟩ = some (.slice A0 ns.length c0) := (blk_cell BK2.out 0).trans rfl
  have h21 : W.cell? ⟨g2, 1, none⟩ = some (.int .i64 room) := (blk_cell BK2.out 1).trans rfl
  cases b1 : inB 1 40 (ns.length : Int) with
  | false =>
    have B1 := Aside0.mk b1
    rw [b1] at HI1
    clear b1
    go_wp2_with fail
    refine (HI1.out _).mono ?_; rintro e W1 ⟨rfl, ⟨n1, rfl⟩⟩
    go_wp2
    go_ret
    exact GPost.no (fun h => by have h1 := h.len; have := (inB_iff 1 40 (ns.length : Int)).mpr ⟨by omega, by omega⟩; rw [B1.out] at this; exact Bool.false_ne_true this) (pw_below_drewN HB.out _)
  | true =>
    have hlen := (inB_iff _ _ _).mp b1
    have HLEN : Aside0 (1 ≤ ns.length ∧ ns.length ≤ 40) := ⟨by omega, by omega⟩
    rw [b1] at HI1
    clear b1
    cases b2 : inB 0 1000 room with
    | false =>
      have B2 := Aside0.mk b2
      rw [b2] at HI2
      clear b2 hlen
      go_wp2_with fail
      refine (HI1.out _).mono ?_; rintro e W1 ⟨rfl, ⟨n1, rfl⟩⟩
      go_wp2_with fail
      refine (HI2.out _).mono ?_; rintro e W2 ⟨rfl, ⟨n2, rfl⟩⟩
      go_wp2
      go_ret
      exact GPost.no (fun h => by have h1 := h.inRoom; rw [B2.out] at h1; exact Bool.false_ne_true h1) (pw_below_drewN HB.out _)
    | true =>
      have B2 := Aside0.mk b2
      rw [b2] at HI2
      clear b2
      obtain ⟨ad, A6, c6, had, e0, e1, e2, e3, e4, e5, e6, hc6, hC6⟩ := at_T49 HR0.out 0 (by omega) (by omega)
      subst had
      obtain ⟨top, htop⟩ : ∃ t, t = (rd_T49 ns 0).f0 := ⟨_, rfl⟩
      rw [← htop] at e0
      have HT0 : Aside0 ((ndR ns 0).f0 = top) := ⟨htop.symm⟩
      clear htop
      have h30 : W.cell? ad = some (.int .i64 top) := (HB.out.cell (World.block_lt_of_cell? w _ e0)).trans (by simpa using e0)
      have p1 : ((0 : Int) < (ns.length : Int)) = True := eq_true (by omega)
      have p2 : (0 < ns.length) = True := eq_true (by omega)
      clear e0 e1 e2 e3 e4 e5 e6 hc6 hC6 hlen
      by_cases ht : top = 2
      case neg =>
        have HTP := Aside0.mk ht
        have q3 : (top != 2) = true := by simpa using ht
        have q4 : (top == 2) = false := by simpa using ht
        clear ht
        go_wp2_with fail
        refine (HI1.out _).mono ?_; rintro e W1 ⟨rfl, ⟨n1, rfl⟩⟩
        go_wp2_with fail
        refine (HI2.out _).mono ?_; rintro e W2 ⟨rfl, ⟨n2, rfl⟩⟩
        go_wp2
        go_ret
        exact GPost.no (fun h => by exact HTP.out (HT0.out.symm.trans h.top)) (pw_below_drewN HB.out _)
      case pos =>
        have HTP := Aside0.mk ht
        have q3 : (top != 2) = false := by simpa using ht
        have q4 : (top == 2) = true := by simpa using ht
        clear ht
        go_wp2_with fail
        refine (HI1.out _).mono ?_; rintro e W1 ⟨rfl, ⟨n1, rfl⟩⟩
        go_wp2_with fail
        refine (HI2.out _).mono ?_; rintro e W2 ⟨rfl, ⟨n2, rfl⟩⟩
        have HBx : Aside0 (Below w.heap.size w (W.drewN (n1 + n2))) := ⟨pw_below_drewN HB.out _⟩
        have BKx : Aside0 ((W.drewN (n1 + n2)).heap[g2]? = some (.cells #[.slice (some ad) ns.length c0, .int .i64 room] 31 (0, 0))) := ⟨blk_drewN BK2.out _⟩
        clear HB BK2 HI1 HI2
        go_wp2
        clear p1 p2
        go_loopw [38] (fun iv wr => ∃ i : Nat, i ≤ ns.length ∧ iv = .int .i64 (i : Int) ∧ Aside0 (∀ j, j < i → nodeB ns (ndR ns (j : Int)) = true) ∧ Aside0 (Below w.heap.size w wr) ∧ Aside0 (wr.heap[g2]? = some (.cells #[.slice (some ad) ns.length c0, .int .i64 room] 31 (0, 0)))) (fun iv _ => ns.length - (intOf iv).toNat)
        case atStart => exact ⟨0, Nat.zero_le _, rfl, ⟨fun j h => absurd h (Nat.not_lt_zero _)⟩, HBx, BKx⟩
        case round =>
          clear h20 h21 h30 HBx BKx
          obtain ⟨i, hi, rfl, HN, HB, BK⟩ := hrel
          by_cases hlt : i < ns.length
          case pos =>
            have HLT := Aside0.mk hlt
            have p9 : decide ((i : Int) < (ns.length : Int)) = true := decide_eq_true (by omega)
            have p8 : ((i : Int) < (ns.length : Int)) = True := eq_true (by omega)
            have p7 : ((0 : Int) ≤ (i : Int)) = True := eq_true (by omega)
            obtain ⟨bd, B6, d6, hbd, e0, e1, e2, e3, e4, e5, e6, hd6, hC6⟩ := at_T49 (Kd.C_below HR0.out HB.out) (i : Int) (by omega) (by omega)
            cases hbd
            rw [Int.toNat_natCast] at e0 e1 e2 e3 e4 e5 e6
            obtain ⟨x, hx⟩ : ∃ x, x = rd_T49 ns (i : Int) := ⟨_, rfl⟩
            rw [← hx] at e0 e1 e2 e3 e4 e5 e6 hd6 hC6
            have HXM : Aside0 (x ∈ ns) := ⟨by rw [hx, rdNd ns i hlt]; exact List.getElem_mem hlt⟩
            have HX := Aside0.mk (show ndR ns (i : Int) = x from hx.symm)
            have BKw := BK.out
            have hw1 : IntKind.i64.wrap ((i : Int) + 1) = ((i + 1 : Nat) : Int) := wrap_upM hlt (by have := HLEN.out; omega)
            have HW1 := Aside0.mk hw1
            have HD6 := Aside0.mk hd6
            have HNd := Aside0.mk (fun W (hb : Below w.heap.size w W) (hb2 : Below wr.heap.size wr W) => isNode_walk ns (some ad) c0 room x.f0 x.f1 x.f2 x.f3 x.f4 x.f5 B6 d6 x.f6 W (Kd.C_below HR0.out hb) HC0.out (Kd.C_below hC6 hb2) hd6 (by have := HLEN.out; omega) (by have := HFIT.out.list x HXM.out; omega))
            clear hx hlt hi hd6 hC6
            go_upto_region 6 with (fail)
            have hb5 : Below wr.heap.size wr (wr.alloc (.cells #[.int .i64 x.f0, .int .i64 x.f1, .int .i64 x.f2, .int .i64 x.f3, .int .i64 x.f4, .string x.f5, .slice B6 x.f6.length d6] 49 (0, 0))) := below_alloc (Below.refl _ _) _
            have bk6 := blk_new wr (.cells #[.int .i64 x.f0, .int .i64 x.f1, .int .i64 x.f2, .int .i64 x.f3, .int .i64 x.f4, .string x.f5, .slice B6 x.f6.length d6] 49 (0, 0))
            obtain ⟨g6, hg6⟩ : ∃ g, g = wr.heap.size := ⟨_, rfl⟩
            obtain ⟨W5, hW5⟩ : ∃ W, W = wr.alloc (.cells #[.int .i64 x.f0, .int .i64 x.f1, .int .i64 x.f2, .int .i64 x.f3, .int .i64 x.f4, .string x.f5, .slice B6 x.f6.length d6] 49 (0, 0)) := ⟨_, rfl⟩
            rw [← hW5] at hb5 bk6
            rw [← hg6] at bk6
            rw [← hW5, ← hg6]
            have BK5 := Aside0.mk ((hb5.block _ (blk_lt BKw)).trans BKw)
            have HB5 := Aside0.mk (below_step HB.out hb5)
            have BK65 := Aside0.mk bk6
            have HCALL := Aside0.mk (HNd.out W5 HB5.out hb5)
            have h60 : W5.cell? ⟨g6, 0, none⟩ = some (.int .i64 x.f0) := (blk_cell bk6 0).trans rfl
            have h61 : W5.cell? ⟨g6, 1, none⟩ = some (.int .i64 x.f1) := (blk_cell bk6 1).trans rfl
            have h62 : W5.cell? ⟨g6, 2, none⟩ = some (.int .i64 x.f2) := (blk_cell bk6 2).trans rfl
            have h63 : W5.cell? ⟨g6, 3, none⟩ = some (.int .i64 x.f3) := (blk_cell bk6 3).trans rfl
            have h64 : W5.cell? ⟨g6, 4, none⟩ = some (.int .i64 x.f4) := (blk_cell bk6 4).trans rfl
            have h65 : W5.cell? ⟨g6, 5, none⟩ = some (.string x.f5) := (blk_cell bk6 5).trans rfl
            have h66 : W5.cell? ⟨g6, 6, none⟩ = some (.slice B6 x.f6.length d6) := (blk_cell bk6 6).trans rfl
            have h20 : W5.cell? ⟨g2, 0, none⟩ = some (.slice (some ad) ns.length c0) := (blk_cell BK5.out 0).trans rfl
            have h21 : W5.cell? ⟨g2, 1, none⟩ = some (.int .i64 room) := (blk_cell BK5.out 1).trans rfl
            clear hb5 bk6 hW5 hg6 HB BK BKw HNd e0 e1 e2 e3 e4 e5 e6 BK65
            go_wp2_with fail
            refine (HCALL.out).mono ?_; rintro e w2 ⟨rfl, hd⟩
            have HB6 := Aside0.mk (below_step HB5.out hd)
            have BK6 := Aside0.mk ((hd.block _ (blk_lt BK5.out)).trans BK5.out)
            clear hd h60 h61 h62 h63 h64 h65 h66 h20 h21 HCALL BK5 HB5
            cases hs : nodeB ns x with
            | false =>
              have HS0 := Aside0.mk hs
              clear hs
              go_wp2
              go_ret
              exact GPost.no (fun h => by have h1 := h.node x HXM.out; rw [HS0.out] at h1; exact Bool.false_ne_true h1) HB6.out
            | true =>
              have HS0 := Aside0.mk hs
              clear hs
              go_wp2
              go_roundw
              case rel => exact ⟨i + 1, HLT.out, by first | rfl | go_num, ⟨fun j hj => by rcases Nat.lt_succ_iff_lt_or_eq.mp hj with h | rfl; exact HN.out j h; rw [HX.out]; exact HS0.out⟩, HB6, BK6⟩
              case measure => exact meas_upG HLT.out (by first | rfl | (rw [← i64_w]; exact HW1.out) | exact HW1.out)
          case neg =>
            have hil : i = ns.length := by omega
            subst hil
            have p9 : decide ((ns.length : Int) < (ns.length : Int)) = false := by simp
            clear hlt hi
            have HNI : Aside0 (∀ x, x ∈ ns → nodeB ns x = true) := ⟨fun x hx => by
              obtain ⟨j, hj, rfl⟩ := List.getElem_of_mem hx
              have := HN.out j hj
              rwa [show ndR ns (j : Int) = ns[j] from rdNd ns j hj] at this⟩
            have HSC : Aside0 (∀ x, x ∈ allN ns.length → ∀ y, y ∈ scN ns x → y ∈ allN ns.length) := ⟨fun x _ y hy => (good_sc HNI.out x y hy).1⟩
            clear HN
            have h20 : wr.cell? ⟨g2, 0, none⟩ = some (.slice (some ad) ns.length c0) := (blk_cell BK.out 0).trans rfl
            have h21 : wr.cell? ⟨g2, 1, none⟩ = some (.int .i64 room) := (blk_cell BK.out 1).trans rfl
            by_cases hs : room < sumB ns
            case pos =>
              have HSM := Aside0.mk hs
              have q1 : decide (room < sumB ns) = true := decide_eq_true hs
              have q2 : (room < sumB ns) = True := eq_true hs
              clear hs
              go_wp2_with fail
              go_region_held3 (fun W => W.cell? ⟨g2, 0, none⟩ = some (.slice (some ad) ns.length c0) ∧ W.cell? ⟨g2, 1, none⟩ = some (.int .i64 room)) (first | exact ⟨h20, h21⟩ | exact keepG h20 h21 (below_step (below_drew1 (Below.refl _ _)) hd)) (first | (go_at_call 48; refine (HBy.out _ (below_drew1 HB.out)).mono ?_; rintro e w2 ⟨rfl, hd⟩))
              go_wp2
              go_ret
              exact GPost.no (fun h => by have h1 := h.sum; have := HSM.out; omega) (below_step (below_drew1 HB.out) hd)
            case neg =>
              have HSM := Aside0.mk hs
              have q1 : decide (room < sumB ns) = false := decide_eq_false hs
              have q2 : (room < sumB ns) = False := eq_false hs
              clear hs
              obtain ⟨kl, hkl⟩ := (links_ev ns room HFIT.out (fun x hx e he => by
                obtain ⟨j, hj, rfl⟩ := List.getElem_of_mem hx
                have := (good_sc HNI.out (j : Int) e.f1 (by unfold scN; rw [show ndR ns (j : Int) = ns[j] from rdNd ns j hj]; exact List.mem_map.mpr ⟨e, he, rfl⟩)).1
                exact (allN_mem _ _).mp this)).rounds
              have HLk := Aside0.mk (fun W (hb : Below w.heap.size w W) => impl_Fs_links.calls kl (some ad) c0 ns room _ W (Kd.C_below HR0.out hb) HC0.out hkl)
              clear hkl
              go_wp2_with fail
              go_region_held3 (fun W => W.cell? ⟨g2, 0, none⟩ = some (.slice (some ad) ns.length c0) ∧ W.cell? ⟨g2, 1, none⟩ = some (.int .i64 room)) (first | exact ⟨h20, h21⟩ | exact keepG h20 h21 (below_step (below_drew1 (Below.refl _ _)) hd)) (first | (go_at_call 48; refine (HBy.out _ (below_drew1 HB.out)).mono ?_; rintro e w2 ⟨rfl, hd⟩))
              have HB3 := Aside0.mk (below_step (below_drew1 HB.out) hd)
              have BK3 : Aside0 (w2.heap[g2]? = some (.cells #[.slice (some ad) ns.length c0, .int .i64 room] 31 (0, 0))) := ⟨(hd.block _ (blk_lt (blk_drew BK.out))).trans (blk_drew BK.out)⟩
              clear hd h20 h21 HB BK HBy q1 q2 p9
              have h20 : w2.cell? ⟨g2, 0, none⟩ = some (.slice (some ad) ns.length c0) := (blk_cell BK3.out 0).trans rfl
              have h21 : w2.cell? ⟨g2, 1, none⟩ = some (.int .i64 room) := (blk_cell BK3.out 1).trans rfl
              go_wp2_with fail
              refine (HLk.out _ HB3.out).mono ?_; rintro e w3 ⟨v5, rfl, ho5, hd⟩
              obtain ⟨A5, c5, rfl⟩ := Kd.R_slice ho5
              rw [linksL_len] at ho5 ⊢
              have HMC := Aside0.mk (Kd.R_reads' ho5)
              have HB4 := Aside0.mk (below_step HB3.out hd)
              have BK4 : Aside0 (w3.heap[g2]? = some (.cells #[.slice (some ad) ns.length c0, .int .i64 room] 31 (0, 0))) := ⟨(hd.block _ (blk_lt BK3.out)).trans BK3.out⟩
              clear hd ho5 h20 h21 HB3 BK3 HLk
              have h20 : w3.cell? ⟨g2, 0, none⟩ = some (.slice (some ad) ns.length c0) := (blk_cell BK4.out 0).trans rfl
              go_wp2
              go_loopw [57] (fun iv wr => ∃ i : Nat, i ≤ ns.length ∧ iv = .int .i64 (i : Int) ∧ Aside0 (∀ j, j < i → LinkAt ns (j : Int)) ∧ Aside0 (Below w.heap.size w wr) ∧ Aside0 (Below w3.heap.size w3 wr) ∧ Aside0 (wr.heap[g2]? = some (.cells #[.slice (some ad) ns.length c0, .int .i64 room] 31 (0, 0)))) (fun iv _ => ns.length - (intOf iv).toNat)
              case atStart => exact ⟨0, Nat.zero_le _, rfl, ⟨fun j h => absurd h (Nat.not_lt_zero _)⟩, HB4, ⟨Below.refl _ _⟩, BK4⟩
              case round =>
                clear h20 HB4 BK4
                obtain ⟨i, hi, rfl, HN, HB, HBM, BK⟩ := hrel
                by_cases hlt : i < ns.length
                case pos =>
                  have HLT := Aside0.mk hlt
                  have p9 : decide ((i : Int) < (ns.length : Int)) = true := decide_eq_true (by omega)
                  have p8 : ((i : Int) < (ns.length : Int)) = True := eq_true (by omega)
                  have p7 : ((0 : Int) ≤ (i : Int)) = True := eq_true (by omega)
                  obtain ⟨bd, B6, d6, hbd, e0, e1, e2, e3, e4, e5, e6, hd6, hC6⟩ := at_T49 (Kd.C_below HR0.out HB.out) (i : Int) (by omega) (by omega)
                  cases hbd
                  rw [Int.toNat_natCast] at e0 e1 e2 e3 e4 e5 e6
                  obtain ⟨x, hx⟩ : ∃ x, x = rd_T49 ns (i : Int) := ⟨_, rfl⟩
                  rw [← hx] at e0 e1 e2 e3 e4 e5 e6 hd6 hC6
                  have HXM : Aside0 (x ∈ ns) := ⟨by rw [hx, rdNd ns i hlt]; exact List.getElem_mem hlt⟩
                  have HX := Aside0.mk (show ndR ns (i : Int) = x from hx.symm)
                  have BKw := BK.out
                  have hw1 : IntKind.i64.wrap ((i : Int) + 1) = ((i + 1 : Nat) : Int) := wrap_upM hlt (by have := HLEN.out; omega)
                  have HW1 := Aside0.mk hw1
                  have HD6 := Aside0.mk hd6
                  obtain ⟨cd, hcd, hlc⟩ := Kd.at_int (Kd.C_below HMC.out.2.2 HBM.out) (i : Int) (by omega) (by rw [linksL_len]; omega)
                  rw [linksL_rd _ _ _ (by omega) (by omega)] at hlc
                  subst hcd
                  obtain ⟨cn, hcn⟩ : ∃ c : Nat, c = (tgts ns).count (i : Int) := ⟨_, rfl⟩
                  rw [← hcn] at hlc
                  have HCN := Aside0.mk hcn
                  have HPOS : Aside0 (0 ≤ (i : Int)) := ⟨by omega⟩
                  have HCB : Aside0 (cn ≤ 1152921504606846976) := ⟨by have h1 := count_len (tgts ns) (i : Int); have h2 := tgts_len HFIT.out; have := HLEN.out; omega⟩
                  have HLC := Aside0.mk hlc
                  have HWi := Aside0.mk (fun (lo hi : Int) W => impl_within.calls (cn : Int) lo hi _ W (within_f _ lo hi))
                  clear hcn hlc
                  clear hx hlt hi hd6 hC6
                  go_upto_region 15 with (fail)
                  have hb5 : Below wr.heap.size wr (wr.alloc (.cells #[.int .i64 x.f0, .int .i64 x.f1, .int .i64 x.f2, .int .i64 x.f3, .int .i64 x.f4, .string x.f5, .slice B6 x.f6.length d6] 49 (0, 0))) := below_alloc (Below.refl _ _) _
                  have bk6 := blk_new wr (.cells #[.int .i64 x.f0, .int .i64 x.f1, .int .i64 x.f2, .int .i64 x.f3, .int .i64 x.f4, .string x.f5, .slice B6 x.f6.length d6] 49 (0, 0))
                  obtain ⟨g6, hg6⟩ : ∃ g, g = wr.heap.size := ⟨_, rfl⟩
                  obtain ⟨W5, hW5⟩ : ∃ W, W = wr.alloc (.cells #[.int .i64 x.f0, .int .i64 x.f1, .int .i64 x.f2, .int .i64 x.f3, .int .i64 x.f4, .string x.f5, .slice B6 x.f6.length d6] 49 (0, 0)) := ⟨_, rfl⟩
                  rw [← hW5] at hb5 bk6
                  rw [← hg6] at bk6
                  rw [← hW5, ← hg6]
                  have BK5 := Aside0.mk ((hb5.block _ (blk_lt BKw)).trans BKw)
                  have HB5 := Aside0.mk (below_step HB.out hb5)
                  have BK65 := Aside0.mk bk6
                  have HBM5 := Aside0.mk (below_step HBM.out hb5)
                  obtain ⟨lo, hlo⟩ : ∃ lo : Int, lo = (if (1 : Int) < (i : Int) then 1 else (i : Int)) := ⟨_, rfl⟩
                  have HLO : Aside0 ((1 < i ∧ lo = 1) ∨ (i ≤ 1 ∧ lo = (i : Int))) := ⟨by rw [hlo]; by_cases h : 1 < i; exact .inl ⟨h, if_pos (by omega)⟩; exact .inr ⟨by omega, if_neg (by omega)⟩⟩
                  have mn1 := hlo.symm
                  have mn2 : (if 1 < i then (1 : Int) else (i : Int)) = lo := by rw [hlo]; by_cases h : 1 < i; rw [if_pos h, if_pos (by omega)]; rw [if_neg h, if_neg (by omega)]
                  clear hlo
                  have hlc : W5.cell? (cd.add i) = some (.int .i64 (cn : Int)) := by simpa only [Int.toNat_natCast] using (hb5.cell (World.block_lt_of_cell? _ _ HLC.out)).trans HLC.out
                  have h60 : W5.cell? ⟨g6, 0, none⟩ = some (.int .i64 x.f0) := (blk_cell bk6 0).trans rfl
                  have h61 : W5.cell? ⟨g6, 1, none⟩ = some (.int .i64 x.f1) := (blk_cell bk6 1).trans rfl
                  have h62 : W5.cell? ⟨g6, 2, none⟩ = some (.int .i64 x.f2) := (blk_cell bk6 2).trans rfl
                  have h63 : W5.cell? ⟨g6, 3, none⟩ = some (.int .i64 x.f3) := (blk_cell bk6 3).trans rfl
                  have h64 : W5.cell? ⟨g6, 4, none⟩ = some (.int .i64 x.f4) := (blk_cell bk6 4).trans rfl
                  have h65 : W5.cell? ⟨g6, 5, none⟩ = some (.string x.f5) := (blk_cell bk6 5).trans rfl
                  have h66 : W5.cell? ⟨g6, 6, none⟩ = some (.slice B6 x.f6.length d6) := (blk_cell bk6 6).trans rfl
                  have h20 : W5.cell? ⟨g2, 0, none⟩ = some (.slice (some ad) ns.length c0) := (blk_cell BK5.out 0).trans rfl
                  have h21 : W5.cell? ⟨g2, 1, none⟩ = some (.int .i64 room) := (blk_cell BK5.out 1).trans rfl
                  clear hb5 bk6 hW5 hg6 HB HBM BK BKw e0 e1 e2 e3 e4 e5 e6 BK65 h61 h62 h63 h64 h65 h66 h20 h21 HLC
                  by_cases hz : i = 0
                  case pos =>
                    have HZ := Aside0.mk hz
                    have z1 : ((i : Int) == 0) = true := by simp [hz]
                    have z2 : (i == 0) = true := by simp [hz]
                    clear hz
                    by_cases k0 : x.f0 = 0
                    case pos =>
                      have HK0 := Aside0.mk k0
                      have q5 : (x.f0 != 0) = false := by simpa using k0
                      have q6 : (x.f0 == 0) = true := by simpa using k0
                      have q7 : (x.f0 == 2) = false := by simp [k0]
                      clear k0
                      go_wp2
                      go_roundw
                      case rel => exact ⟨i + 1, HLT.out, by first | rfl | go_num, ⟨fun j hj => by
                        rcases Nat.lt_succ_iff_lt_or_eq.mp hj with h | rfl
                        · exact HN.out j h
                        · exact fun hf => by unfold freeN at hf; rw [HX.out] at hf; simp [HK0.out] at hf⟩, HB5, HBM5, BK5⟩
                      case measure => exact meas_upG HLT.out (by first | rfl | (rw [← i64_w]; exact HW1.out) | exact HW1.out)

                    case neg =>
                      have HK0 := Aside0.mk k0
                      have q5 : (x.f0 != 0) = true := by simpa using k0
                      have q6 : (x.f0 == 0) = false := by simpa using k0
                      clear k0
                      go_wp2_with fail
                      refine (HWi.out _ _ _).mono ?_; rintro e W8 ⟨rfl, ⟨n8, rfl⟩⟩
                      generalize hb : inB _ _ (cn : Int) = b
                      cases b with
                      | true =>
                        have HBT := Aside0.mk hb
                        clear hb
                        go_wp2
                        go_roundw
                        case rel => exact ⟨i + 1, HLT.out, by first | rfl | go_num, ⟨fun j hj => by
                          rcases Nat.lt_succ_iff_lt_or_eq.mp hj with h | rfl
                          · exact HN.out j h
                          · exact fun _ => by rw [if_pos (by have := HZ.out; have := HLO.out; omega)]; have h1 := HCN.out; have h2 := (inB_iff _ _ _).mp HBT.out; have := HLO.out; omega⟩, ⟨pw_below_drewN HB5.out _⟩, ⟨pw_below_drewN HBM5.out _⟩, ⟨blk_drewN BK5.out _⟩⟩
                        case measure => exact meas_upG HLT.out (by first | rfl | (rw [← i64_w]; exact HW1.out) | exact HW1.out)
                      | false =>
                        have HBF := Aside0.mk hb
                        clear hb
                        go_wp2
                        go_ret
                        exact GPost.no (fun h => by have h1 := h.links (i : Int) ((allN_mem _ _).mpr ⟨HPOS.out, by have := HLT.out; omega⟩) (by unfold freeN; rw [HX.out]; simpa using HK0.out); rw [if_pos (by have := HZ.out; have := HLO.out; omega)] at h1; have := HCN.out; rw [← this] at h1; exact inB_false HBF.out (by have := HZ.out; have := HLO.out; omega) (by have := HZ.out; have := HLO.out; omega)) (pw_below_drewN HB5.out _)

                  case neg =>
                    have HZ := Aside0.mk hz
                    have z1 : ((i : Int) == 0) = false := by simp [hz]
                    have z2 : (i == 0) = false := by simp [hz]
                    clear hz
                    by_cases k2 : x.f0 = 2
                    case pos =>
                      have HK2 := Aside0.mk k2
                      have HK0 : Aside0 (¬ x.f0 = 0) := ⟨by omega⟩
                      have w1 : (x.f0 == 2) = true := by simp [k2]
                      have w2 : (x.f0 != 0) = true := by simp [k2]
                      have w3 : (x.f0 == 0) = false := by simp [k2]
                      clear k2
                      go_wp2_with fail
                      refine (HWi.out _ _ _).mono ?_; rintro e W8 ⟨rfl, ⟨n8, rfl⟩⟩
                      generalize hb : inB _ _ (cn : Int) = b
                      cases b with
                      | true =>
                        have HBT := Aside0.mk hb
                        clear hb
                        go_wp2
                        go_roundw
                        case rel => exact ⟨i + 1, HLT.out, by first | rfl | go_num, ⟨fun j hj => by
                          rcases Nat.lt_succ_iff_lt_or_eq.mp hj with h | rfl
                          · exact HN.out j h
                          · exact fun _ => by rw [if_neg (by have := HZ.out; have := HLO.out; omega)]; have h1 := HCN.out; have h2 := (inB_iff _ _ _).mp HBT.out; have := HZ.out; have := HLO.out; exact ⟨by omega, fun _ => by omega⟩⟩, ⟨pw_below_drewN HB5.out _⟩, ⟨pw_below_drewN HBM5.out _⟩, ⟨blk_drewN BK5.out _⟩⟩
                        case measure => exact meas_upG HLT.out (by first | rfl | (rw [← i64_w]; exact HW1.out) | exact HW1.out)
                      | false =>
                        have HBF := Aside0.mk hb
                        clear hb
                        go_wp2
                        go_ret
                        exact GPost.no (fun h => by have h1 := h.links (i : Int) ((allN_mem _ _).mpr ⟨HPOS.out, by have := HLT.out; omega⟩) (by unfold freeN; rw [HX.out]; simpa using HK0.out); rw [if_neg (by have := HZ.out; have := HLO.out; omega)] at h1; have h4 := h1.2 (by unfold dirN; rw [HX.out]; simpa using HK2.out); have := HCN.out; rw [← this] at h1 h4; exact inB_false HBF.out (by have := HZ.out; have := HLO.out; have := h1.1; omega) (by have := HZ.out; have := HLO.out; have := h1.1; omega)) (pw_below_drewN HB5.out _)

                    case neg =>
                      have HK2 := Aside0.mk k2
                      have w1 : (x.f0 == 2) = false := by simpa using k2
                      clear k2
                      by_cases k0 : x.f0 = 0
                      case pos =>
                        have HK0 := Aside0.mk k0
                        have q5 : (x.f0 != 0) = false := by simpa using k0
                        have q6 : (x.f0 == 0) = true := by simpa using k0
                        clear k0
                        go_wp2
                        go_roundw
                        case rel => exact ⟨i + 1, HLT.out, by first | rfl | go_num, ⟨fun j hj => by
                          rcases Nat.lt_succ_iff_lt_or_eq.mp hj with h | rfl
                          · exact HN.out j h
                          · exact fun hf => by unfold freeN at hf; rw [HX.out] at hf; simp [HK0.out] at hf⟩, HB5, HBM5, BK5⟩
                        case measure => exact meas_upG HLT.out (by first | rfl | (rw [← i64_w]; exact HW1.out) | exact HW1.out)

                      case neg =>
                        have HK0 := Aside0.mk k0
                        have q5 : (x.f0 != 0) = true := by simpa using k0
                        have q6 : (x.f0 == 0) = false := by simpa using k0
                        clear k0
                        go_wp2_with fail
                        refine (HWi.out _ _ _).mono ?_; rintro e W8 ⟨rfl, ⟨n8, rfl⟩⟩
                        generalize hb : inB _ _ (cn : Int) = b
                        cases b with
                        | true =>
                          have HBT := Aside0.mk hb
                          clear hb
                          go_wp2
                          go_roundw
                          case rel => exact ⟨i + 1, HLT.out, by first | rfl | go_num, ⟨fun j hj => by
                            rcases Nat.lt_succ_iff_lt_or_eq.mp hj with h | rfl
                            · exact HN.out j h
                            · exact fun _ => by rw [if_neg (by have := HZ.out; have := HLO.out; omega)]; have h1 := HCN.out; have h2 := (inB_iff _ _ _).mp HBT.out; have := HZ.out; have := HLO.out; exact ⟨by omega, fun hd => absurd (by unfold dirN at hd; rw [HX.out] at hd; simpa using hd) HK2.out⟩⟩, ⟨pw_below_drewN HB5.out _⟩, ⟨pw_below_drewN HBM5.out _⟩, ⟨blk_drewN BK5.out _⟩⟩
                          case measure => exact meas_upG HLT.out (by first | rfl | (rw [← i64_w]; exact HW1.out) | exact HW1.out)
                        | false =>
                          have HBF := Aside0.mk hb
                          clear hb
                          go_wp2
                          go_ret
                          exact GPost.no (fun h => by have h1 := h.links (i : Int) ((allN_mem _ _).mpr ⟨HPOS.out, by have := HLT.out; omega⟩) (by unfold freeN; rw [HX.out]; simpa using HK0.out); rw [if_neg (by have := HZ.out; have := HLO.out; omega)] at h1; have := HCN.out; rw [← this] at h1; have h5 := HCB.out; exact inB_false HBF.out (by have := HZ.out; have := HLO.out; have := h1.1; omega) (by have := HZ.out; have := HLO.out; have := h1.1; omega)) (pw_below_drewN HB5.out _)

                case neg =>
                  have hil : i = ns.length := by omega
                  subst hil
                  have p9 : decide ((ns.length : Int) < (ns.length : Int)) = false := by simp
                  clear hlt hi
                  have HLA : Aside0 (∀ y, y ∈ allN ns.length → LinkAt ns y) := ⟨fun y hy => by
                    obtain ⟨h0, h1⟩ := (allN_mem _ _).mp hy
                    obtain ⟨m, rfl⟩ := Int.eq_ofNat_of_zero_le h0
                    exact HN.out m (by omega)⟩
                  clear HN HBM HMC
                  have h20 : wr.cell? ⟨g2, 0, none⟩ = some (.slice (some ad) ns.length c0) := (blk_cell BK.out 0).trans rfl
                  go_upto_region 24 with (first | ((with_reducible refine gate_dst (N := 87) rfl ?_); refine Kd.R_make Kd.bool _ 4 rfl (N := 87) rfl 87 _ _ rfl (ns.length : Int) rfl rfl Tryd.underlying87 (.bool false) 1 boolInfo rfl (by decide) (by omega) false (ok := fun _ => True) (okp := fun _ => True) rfl (fun _ hk => hk) trivial ?h0 ?hl (Below.refl _ _) (Nat.le_refl _) ?_; (case h0 => omega); (case hl => (have := HLEN.out; simp only [Int.toNat_natCast]; omega)); intro v9 w4 ho9 hb9 hg_ hnew_; clear hg_ hnew_))
                  rw [Int.toNat_natCast, metL_nil] at ho9
                  obtain ⟨gm, cm, rfl, -, hgl, hgb⟩ := own_shape ho9 (by rw [metL_len]; have := HLEN.out; omega)
                  rw [metL_len] at ho9 ⊢
                  have HGM : Aside0 (w.heap.size ≤ gm) := ⟨Nat.le_trans HB.out.size hgb⟩
                  have HGL := Aside0.mk hgl
                  have HNE : Aside0 (g2 ≠ gm) := ⟨by have := blk_lt BK.out; omega⟩
                  have HM4 : Aside0 (Kd.R Kd.bool 4 w4 w.heap.size (fun k => k = gm) (.slice (some ⟨gm, 0, none⟩) ns.length cm) (metL [] ns.length)) := ⟨Kd.R_of_own (Kd.own_of_R (Kd.R_lower ho9 HB.out.size)) (fun k hk => by simp [Value.ownBlock] at hk; exact hk.symm)⟩
                  have HB4 := Aside0.mk (below_step HB.out hb9)
                  have BK4 : Aside0 (w4.heap[g2]? = some (.cells #[.slice (some ad) ns.length c0, .int .i64 room] 31 (0, 0))) := ⟨(hb9.block _ (blk_lt BK.out)).trans BK.out⟩
                  clear ho9 hb9 hgl hgb h20 HB BK p9
                  go_upto_region 25 with (first | ((with_reducible refine gate_dst (N := 88) rfl ?_); refine Kd.R_lit (Kd.int .i64) _ 3 ?hg (N := 88) ?hd (xs := [(0 : Int)]) (inner := [.int .i64 0]) (ok := fun k => k ≠ gm) (okp := fun _ => False) ?hr ?hp (fun _ hk => hk.elim) ?hf (Below.refl _ _) (Nat.le_refl _) (by simp) ?_; (case hd => rfl); (case hg => rfl); (case hr => first | (go_simp; done) | (go_simp; rfl)); (case hp => exact Kd.reps_scalar _); (case hf => (show _ ≠ _; have := HGL.out; omega)); intro v10 w5 ho10 hb10 hg_ hnew_; clear hg_ hnew_))
                  have HQ5 := Aside0.mk (Kd.R_lower ho10 HB4.out.size)
                  have HM5 := Aside0.mk (Kd.R_below HM4.out hb10)
                  have HB5 := Aside0.mk (below_step HB4.out hb10)
                  have BK5 : Aside0 (w5.heap[g2]? = some (.cells #[.slice (some ad) ns.length c0, .int .i64 room] 31 (0, 0))) := ⟨(hb10.block _ (blk_lt BK4.out)).trans BK4.out⟩
                  have HGL5 : Aside0 (gm < w5.heap.size) := ⟨Nat.lt_of_lt_of_le HGL.out hb10.size⟩
                  have HD0 : Aside0 (dirN ns 0 = true) := ⟨by unfold dirN; rw [HT0.out, HTP.out]; rfl⟩
                  clear ho10 hb10 HM4 HB4 BK4 HGL
                  go_wp2
                  go_loopw [10, 11] (fun v10 v11 wr => ∃ (k : Nat) (Q : List Int), v11 = .int .i64 (k : Int) ∧ Aside0 (k ≤ Q.length) ∧ Aside0 (Kd.R (Kd.int .i64) 3 wr w.heap.size (fun j => j ≠ gm) v10 Q) ∧ Aside0 (Kd.R Kd.bool 4 wr w.heap.size (fun j => j = gm) (.slice (some ⟨gm, 0, none⟩) ns.length cm) (metL (Q.take k) ns.length)) ∧ Aside0 (Bfs (scN ns) (dirN ns) (allN ns.length) Q k []) ∧ Aside0 (Below w.heap.size w wr) ∧ Aside0 (wr.heap[g2]? = some (.cells #[.slice (some ad) ns.length c0, .int .i64 room] 31 (0, 0))) ∧ Aside0 (gm < wr.heap.size)) (fun _ v11 _ => ns.length - (intOf v11).toNat)
                  case atStart => exact ⟨0, [0], rfl, ⟨by simp⟩, HQ5, HM5, ⟨Bfs.start _ _ _ HD0.out (zero_all HLEN.out.1)⟩, HB5, BK5, HGL5⟩
                  case round =>
                    clear HQ5 HM5 HB5 BK5 HGL5
                    obtain ⟨k, Q, rfl, HK, HQ, HM, HF, HB, BK, HGL⟩ := hrel
                    have HQN : Aside0 (Q.length ≤ ns.length) := ⟨by have := HF.out.len; rwa [allN_len] at this⟩
                    by_cases hlt : k < Q.length
                    case pos =>
                      obtain ⟨gq, cq, rfl, hgq, -, -⟩ := own_shape HQ.out (by omega)
                      obtain ⟨x, hx⟩ : ∃ x, x = Q[k] := ⟨_, rfl⟩
                      have hxq : Q[k]? = some x := by rw [List.getElem?_eq_getElem hlt, hx]
                      have hqc := (Kd.R_cell (0 : Int) HQ.out (k : Int) (by omega) (by omega)).1
                      rw [show rdOf (0 : Int) Q (k : Int) = x by rw [hx]; unfold rdOf; simp [List.getD_eq_getElem?_getD, hlt], Int.toNat_natCast] at hqc
                      have hxa : x ∈ allN ns.length := (HF.out.from_ x (hx ▸ List.getElem_mem hlt)).2.2
                      obtain ⟨x0, x1⟩ := (allN_mem _ _).mp hxa
                      obtain ⟨hmc, hmf⟩ := Kd.R_celln false HM.out x x0 x1
                      obtain ⟨bd, A6, c6, hbd, e0, e1, e2, e3, e4, e5, e6, hc6, hC6⟩ := at_T49 HR0.out x x0 x1
                      cases hbd
                      have HC6 := Aside0.mk hC6
                      have HXQ := Aside0.mk hxq
                      have HXA := Aside0.mk hxa
                      have HKN : Aside0 (k < ns.length) := ⟨by have := HQN.out; omega⟩
                      have p1 : ((0 : Int) ≤ (k : Int)) = True := eq_true (by omega)
                      have p2 : ((k : Int) < (Q.length : Int)) = True := eq_true (by omega)
                      have p3 : decide ((k : Int) < (Q.length : Int)) = true := decide_eq_true (by omega)
                      have p4 : (0 ≤ x) = True := eq_true x0
                      have p5 : (x < (ns.length : Int)) = True := eq_true x1
                      have hw1 : IntKind.i64.wrap ((k : Int) + 1) = ((k + 1 : Nat) : Int) := wrap_upM HKN.out (by have := HLEN.out; omega)
                      have HW1 := Aside0.mk hw1
                      have HT1 : Aside0 (Q.take (k + 1) = Q.take k ++ [x]) := ⟨by rw [List.take_succ_eq_append_getElem hlt, ← hx]⟩
                      clear hx hxq hxa hlt hC6 hc6 e0 e1 e2 e3 e4 e5
                      go_upto_region 29 with (fail)
                      obtain ⟨W1, hW1⟩ : ∃ V, V = wr.setCell ⟨gm, x.toNat, none⟩ (.bool true) := ⟨_, rfl⟩
                      have HQ1 : Aside0 (Kd.R (Kd.int .i64) 3 W1 w.heap.size (fun j => j ≠ gm) (.slice (some ⟨gq, 0, none⟩) Q.length cq) Q) := ⟨by rw [hW1]; exact Kd.R_far HQ.out (fun j hj => hj) _⟩
                      have HM1 : Aside0 (Kd.R Kd.bool 4 W1 w.heap.size (fun j => j = gm) (.slice (some ⟨gm, 0, none⟩) ns.length cm) (metL (Q.take (k + 1)) ns.length)) := ⟨by rw [hW1, HT1.out, ← metL_set _ _ _ x0 x1]; exact Kd.R_putn HM.out x true⟩
                      have HB1 : Aside0 (Below w.heap.size w W1) := ⟨by rw [hW1]; exact below_set HB.out HGM.out⟩
                      have BK1 : Aside0 (W1.heap[g2]? = some (.cells #[.slice (some ad) ns.length c0, .int .i64 room] 31 (0, 0))) := ⟨by rw [hW1]; exact blk_far BK.out HNE.out _⟩
                      have HGL1 : Aside0 (gm < W1.heap.size) := ⟨by rw [hW1]; have := HGL.out; simpa using this⟩
                      rw [← hW1]
                      clear hW1 HQ HM HB BK HGL hmc hmf hqc
                      have hqc := (Kd.R_cell (0 : Int) HQ1.out (k : Int) (by omega) (by have := HXQ.out; have := (List.getElem?_eq_some_iff.mp this).1; omega)).1
                      rw [show rdOf (0 : Int) Q (k : Int) = x by unfold rdOf; rw [List.getD_eq_getElem?_getD, Int.toNat_natCast, HXQ.out]; rfl, Int.toNat_natCast] at hqc
                      have h20 : W1.cell? ⟨g2, 0, none⟩ = some (.slice (some ad) ns.length c0) := (blk_cell BK1.out 0).trans rfl
                      have h66 := (HB1.out.cell (World.block_lt_of_cell? w _ e6)).trans e6
                      obtain ⟨L, hLL⟩ : ∃ L, L = (rd_T49 ns x).f6 := ⟨_, rfl⟩
                      have hll : L.length ≤ 1048576 := by
                        rw [hLL]
                        rcases ndR_cases ns x with h | h
                        · exact HFIT.out.list _ h
                        · change (rd_T49 ns x).f6 = [] at h; rw [h]; simp
                      rw [← hLL] at h66 HC6
                      have HSX : Aside0 (scN ns x = L.map (·.f1)) := ⟨by rw [hLL]; rfl⟩
                      have HLL := Aside0.mk hll
                      have HQL : Aside0 (k < Q.length) := ⟨(List.getElem?_eq_some_iff.mp HXQ.out).1⟩
                      clear hLL hll e6
                      go_quiet (fail)
                      obtain ⟨W2, hW2⟩ : ∃ V, V = W1.drewN nq := ⟨_, rfl⟩
                      have HQ2 : Aside0 (Kd.R (Kd.int .i64) 3 W2 w.heap.size (fun j => j ≠ gm) (.slice (some ⟨gq, 0, none⟩) Q.length cq) Q) := ⟨by rw [hW2]; exact Kd.R_drewN HQ1.out _⟩
                      have HM2 : Aside0 (Kd.R Kd.bool 4 W2 w.heap.size (fun j => j = gm) (.slice (some ⟨gm, 0, none⟩) ns.length cm) (metL (Q.take (k + 1)) ns.length)) := ⟨by rw [hW2]; exact Kd.R_drewN HM1.out _⟩
                      have HB2 : Aside0 (Below w.heap.size w W2) := ⟨by rw [hW2]; exact pw_below_drewN HB1.out _⟩
                      have BK2 : Aside0 (W2.heap[g2]? = some (.cells #[.slice (some ad) ns.length c0, .int .i64 room] 31 (0, 0))) := ⟨by rw [hW2]; exact blk_drewN BK1.out _⟩
                      have HGL2 : Aside0 (gm < W2.heap.size) := ⟨by rw [hW2]; exact HGL1.out⟩
                      rw [← hW2]
                      clear hW2 HQ1 HM1 HB1 BK1 HGL1 h20 h66 hqc
                      go_wp2
                      clear p1 p2 p3 p4 p5
                      go_loopw [10, 111] (fun v10 v111 wq => ∃ (j : Nat) (Q1 : List Int), v111 = .int .i64 (j : Int) ∧ Aside0 (j ≤ L.length) ∧ Aside0 (Q1[k]? = some x) ∧ Aside0 (Kd.R (Kd.int .i64) 3 wq w.heap.size (fun j => j ≠ gm) v10 Q1) ∧ Aside0 (Kd.R Kd.bool 4 wq w.heap.size (fun j => j = gm) (.slice (some ⟨gm, 0, none⟩) ns.length cm) (metL (Q1.take (k + 1)) ns.length)) ∧ Aside0 (Bfs (scN ns) (dirN ns) (allN ns.length) Q1 k ((L.map (·.f1)).take j)) ∧ Aside0 (Below w.heap.size w wq) ∧ Aside0 (wq.heap[g2]? = some (.cells #[.slice (some ad) ns.length c0, .int .i64 room] 31 (0, 0))) ∧ Aside0 (gm < wq.heap.size)) (fun _ v111 _ => L.length - (intOf v111).toNat)
                      case atStart => exact ⟨0, Q, rfl, ⟨Nat.zero_le _⟩, HXQ, HQ2, HM2, HF, HB2, BK2, HGL2⟩
                      case round =>
                        clear HQ2 HM2 HF HB2 BK2 HGL2 HXQ HT1 HQN HQL HK
                        obtain ⟨j, Q1, rfl, HJ, HXQ, HQ, HM, HF, HB, BK, HGL⟩ := hrel
                        by_cases hlt : j < L.length
                        case neg =>
                          have hjl : j = L.length := by have := HJ.out; omega
                          subst hjl
                          have p9 : decide ((L.length : Int) < (L.length : Int)) = false := by simp
                          have HF2 : Aside0 (Bfs (scN ns) (dirN ns) (allN ns.length) Q1 (k + 1) []) := ⟨by
                            have h := HF.out
                            rw [List.take_of_length_le (by simp), ← HSX.out] at h
                            exact h.next HXQ.out⟩
                          clear hlt HF
                          go_wp2
                          go_roundw
                          case rel => exact ⟨k + 1, Q1, by first | rfl | go_num, ⟨(List.getElem?_eq_some_iff.mp HXQ.out).1⟩, HQ, HM, HF2, HB, BK, HGL⟩
                          case measure => exact meas_upG HKN.out (by first | rfl | (rw [← i64_w]; exact HW1.out) | exact HW1.out)
                        case pos =>
                          have HLT := Aside0.mk hlt
                          have p9 : decide ((j : Int) < (L.length : Int)) = true := decide_eq_true (by omega)
                          have p8 : ((j : Int) < (L.length : Int)) = True := eq_true (by omega)
                          have p7 : ((0 : Int) ≤ (j : Int)) = True := eq_true (by omega)
                          obtain ⟨ed, rfl, hn0, hn1⟩ := at_T80 (Kd.C_below HC6.out HB.out) (j : Int) (by omega) (by omega)
                          rw [Int.toNat_natCast] at hn0 hn1
                          have hLi : rd_T80 L (j : Int) = L[j] := by unfold rd_T80; simp [List.getD, hlt]
                          rw [hLi] at hn0 hn1
                          have hin := HSC.out x HXA.out L[j].f1 (by rw [HSX.out]; exact List.mem_map.mpr ⟨L[j], List.getElem_mem hlt, rfl⟩)
                          have hcut : L.map (·.f1) = (L.map (·.f1)).take j ++ L[j].f1 :: (L.map (·.f1)).drop (j + 1) := by
                            have h := (List.take_append_drop j (L.map (·.f1))).symm
                            rw [List.drop_eq_getElem_cons (by simpa using hlt), List.getElem_map] at h
                            exact h
                          have htk : (L.map (·.f1)).take (j + 1) = (L.map (·.f1)).take j ++ [L[j].f1] := by rw [List.take_succ_eq_append_getElem (by simpa using hlt), List.getElem_map]
                          generalize L[j].f0 = nm at hn0
                          generalize L[j].f1 = nd at hn1 hin hcut htk
                          obtain ⟨y0, y1⟩ := (allN_mem _ _).mp hin
                          obtain ⟨td, B6, d6, htd, e0, e1, e2, e3, e4, e5, e6, hd6, hD6⟩ := at_T49 HR0.out nd y0 y1
                          cases htd
                          obtain ⟨kd, hkd⟩ : ∃ z, z = (rd_T49 ns nd).f0 := ⟨_, rfl⟩
                          rw [← hkd] at e0
                          have HKD : Aside0 (dirN ns nd = (kd == 2)) := ⟨by unfold dirN; rw [hkd]⟩
                          have hmc := (Kd.R_celln false HM.out nd y0 y1).1
                          rw [metL_rd _ _ _ y0 y1] at hmc
                          have HMC := Aside0.mk hmc
                          have HIN := Aside0.mk hin
                          have HCUT := Aside0.mk hcut
                          have HTK := Aside0.mk htk
                          have p1 : (0 ≤ nd) = True := eq_true y0
                          have p2 : (nd < (ns.length : Int)) = True := eq_true y1
                          have hw1 : IntKind.i64.wrap ((j : Int) + 1) = ((j + 1 : Nat) : Int) := wrap_upM hlt (by have := HLL.out; omega)
                          have HW2 := Aside0.mk hw1
                          have BKw := BK.out
                          clear hLi hin hcut htk hkd hmc hlt e1 e2 e3 e4 e5 e6 hd6 hD6
                          go_upto_region 32 with (fail)
                          have hb5 : Below wr.heap.size wr (wr.alloc (.cells #[.string nm, .int .i64 nd] 80 (0, 0))) := below_alloc (Below.refl _ _) _
                          have bk6 := blk_new wr (.cells #[.string nm, .int .i64 nd] 80 (0, 0))
                          obtain ⟨g6, hg6⟩ : ∃ g, g = wr.heap.size := ⟨_, rfl⟩
                          obtain ⟨W5, hW5⟩ : ∃ W, W = wr.alloc (.cells #[.string nm, .int .i64 nd] 80 (0, 0)) := ⟨_, rfl⟩
                          rw [← hW5] at hb5 bk6
                          rw [← hg6] at bk6
                          rw [← hW5, ← hg6]
                          have BK5 := Aside0.mk ((hb5.block _ (blk_lt BKw)).trans BKw)
                          have HB5 := Aside0.mk (below_step HB.out hb5)
                          have HQ5 := Aside0.mk (Kd.R_below HQ.out hb5)
                          have HM5 := Aside0.mk (Kd.R_below HM.out hb5)
                          have HGL5 : Aside0 (gm < W5.heap.size) := ⟨Nat.lt_of_lt_of_le HGL.out hb5.size⟩
                          have h61 : W5.cell? ⟨g6, 1, none⟩ = some (.int .i64 nd) := (blk_cell bk6 1).trans rfl
                          have h20 : W5.cell? ⟨g2, 0, none⟩ = some (.slice (some ad) ns.length c0) := (blk_cell BK5.out 0).trans rfl
                          have h30 := (HB5.out.cell (World.block_lt_of_cell? w _ e0)).trans e0
                          have hmc := (hb5.cell (World.block_lt_of_cell? _ _ HMC.out)).trans HMC.out
                          clear hb5 bk6 hW5 hg6 HB BK HQ HM HGL BKw hn0 hn1 e0 HMC
                          by_cases k2 : kd = 2
                          case neg =>
                            have HK2 := Aside0.mk k2
                            have w1 : (kd == 2) = false := by simpa using k2
                            clear k2
                            go_wp2
                            go_roundw
                            case rel => exact ⟨j + 1, Q1, by first | rfl | go_num, HLT, HXQ, HQ5, HM5, ⟨by rw [HTK.out]; exact HF.out.skip (.inl (by rw [HKD.out]; simpa using HK2.out))⟩, HB5, BK5, HGL5⟩
                            case measure => exact meas_upG HLT.out (by first | rfl | (rw [← i64_w]; exact HW2.out) | exact HW2.out)
                          case pos =>
                            have HK2 := Aside0.mk k2
                            have w1 : (kd == 2) = true := by simp [k2]
                            clear k2
                            cases hh : hasL (Q1.take (k + 1)) nd with
                            | true =>
                              have HH := Aside0.mk hh
                              rw [hh] at hmc
                              clear hh
                              go_wp2
                              go_roundw
                              case rel => exact ⟨j + 1, Q1, by first | rfl | go_num, HLT, HXQ, HQ5, HM5, ⟨by rw [HTK.out]; exact HF.out.skip (.inr (List.mem_of_mem_take ((hasL_iff _ _).mp HH.out)))⟩, HB5, BK5, HGL5⟩
                              case measure => exact meas_upG HLT.out (by first | rfl | (rw [← i64_w]; exact HW2.out) | exact HW2.out)
                            | false =>
                              have HH := Aside0.mk hh
                              rw [hh] at hmc
                              clear hh
                              have HPU : Aside0 (Bfs (scN ns) (dirN ns) (allN ns.length) (Q1 ++ [nd]) k ((L.map (·.f1)).take (j + 1))) := ⟨by
                                rw [HTK.out]
                                refine HF.out.push (post := (L.map (·.f1)).drop (j + 1)) HXQ.out (by rw [HSX.out]; exact HCUT.out) (by rw [HKD.out]; simpa using HK2.out) HIN.out ?_
                                have hl := HLA.out nd HIN.out (by unfold freeN; have h := HKD.out; unfold dirN at h; have e : (ndR ns nd).f0 = 2 := (by have h2 := HK2.out; rw [h2] at h; simpa using h); simp [e])
                                rw [← tgts_all]
                                by_cases hz : nd = 0
                                · rw [if_pos hz] at hl ⊢; omega
                                · rw [if_neg hz] at hl ⊢; exact hl.2 (by rw [HKD.out]; simpa using HK2.out)⟩
                              have HQS : Aside0 (Q1.length ≤ 40) := ⟨by have := HF.out.len; rw [allN_len] at this; have := HLEN.out; omega⟩
                              clear HF
                              go_wp2_with (first | ((with_reducible refine gate_dst (N := 135) rfl ?_); refine Kd.R_append (Kd.int .i64) (w0 := w) (W := W5) w.heap.size rfl (.tmp 131) (.tmp 134) 62 3 (.int .i64 0) 8 rfl Tryd.underlying62 intInfo3 rfl (by decide) (by omega) _ Q1 nd [.int .i64 nd] (fun j => j ≠ gm) (fun _ => False) rfl rfl rfl (fun _ h => h.elim) ?hf HQ5.out HB5.out HB5.out.size ?hl ?_; (case hf => (intro j hj; show _ ≠ _; have := HGL5.out; omega)); (case hl => (have := HQS.out; omega)); intro v1 w1 ho1 hb1 hg1 hat1))
                              have HQ6 := Aside0.mk ho1
                              have HB6 := Aside0.mk hb1
                              have HM6 : Aside0 (Kd.R Kd.bool 4 w1 w.heap.size (fun j => j = gm) (.slice (some ⟨gm, 0, none⟩) ns.length cm) (metL ((Q1 ++ [nd]).take (k + 1)) ns.length)) := ⟨by
                                rw [List.take_append_of_le_length (List.getElem?_eq_some_iff.mp HXQ.out).1]
                                exact Kd.R_grown HM5.out hg1 (fun j hj e => HQ5.out.1 j e.symm hj)⟩
                              have BK6 : Aside0 (w1.heap[g2]? = some (.cells #[.slice (some ad) ns.length c0, .int .i64 room] 31 (0, 0))) := ⟨(hg1.block g2 (blk_lt BK5.out) (Kd.R_ne HQ5.out BK5.out (by decide))).trans BK5.out⟩
                              have HGL6 : Aside0 (gm < w1.heap.size) := ⟨Nat.lt_of_lt_of_le HGL5.out hg1.size⟩
                              have HXQ6 : Aside0 ((Q1 ++ [nd])[k]? = some x) := ⟨by rw [List.getElem?_append_left (List.getElem?_eq_some_iff.mp HXQ.out).1]; exact HXQ.out⟩
                              clear ho1 hb1 hg1 hat1 HQ5 HB5 HM5 BK5 HGL5 h61 h20 h30 hmc
                              go_wp2
                              go_roundw
                              case rel => exact ⟨j + 1, Q1 ++ [nd], by first | rfl | go_num, HLT, HXQ6, HQ6, HM6, HPU, HB6, BK6, HGL6⟩
                              case measure => exact meas_upG HLT.out (by first | rfl | (rw [← i64_w]; exact HW2.out) | exact HW2.out)
                    case neg =>
                      have hkl : k = Q.length := by have := HK.out; omega
                      subst hkl
                      have HMQ : Aside0 (Kd.R Kd.bool 4 wr w.heap.size (fun j => j = gm) (.slice (some ⟨gm, 0, none⟩) ns.length cm) (metL Q ns.length)) := ⟨by have := HM.out; rwa [List.take_length] at this⟩
                      obtain ⟨Aq, cq, rfl⟩ := Kd.R_slice HQ.out
                      have p9 : decide ((Q.length : Int) < (Q.length : Int)) = false := by simp
                      have h20 : wr.cell? ⟨g2, 0, none⟩ = some (.slice (some ad) ns.length c0) := (blk_cell BK.out 0).trans rfl
                      clear hlt HM HQ
                      go_wp2
                      clear h20 p9
                      go_loopw [140] (fun iv wq => ∃ i : Nat, i ≤ ns.length ∧ iv = .int .i64 (i : Int) ∧ Aside0 (∀ j, j < i → dirN ns (j : Int) = true → (j : Int) ∈ Q) ∧ Aside0 (Below w.heap.size w wq) ∧ Aside0 (Below wr.heap.size wr wq) ∧ Aside0 (wq.heap[g2]? = some (.cells #[.slice (some ad) ns.length c0, .int .i64 room] 31 (0, 0)))) (fun iv _ => ns.length - (intOf iv).toNat)
                      case atStart => exact ⟨0, Nat.zero_le _, rfl, ⟨fun j h => absurd h (Nat.not_lt_zero _)⟩, HB, ⟨Below.refl _ _⟩, BK⟩
                      case round =>
                        clear HB BK
                        obtain ⟨i, hi, rfl, HN, HB, HBM, BK⟩ := hrel
                        by_cases hlt : i < ns.length
                        case pos =>
                          have HLT := Aside0.mk hlt
                          have p9 : decide ((i : Int) < (ns.length : Int)) = true := decide_eq_true (by omega)
                          have p8 : ((i : Int) < (ns.length : Int)) = True := eq_true (by omega)
                          have p7 : ((0 : Int) ≤ (i : Int)) = True := eq_true (by omega)
                          obtain ⟨bd, B6, d6, hbd, e0, e1, e2, e3, e4, e5, e6, hd6, hC6⟩ := at_T49 (Kd.C_below HR0.out HB.out) (i : Int) (by omega) (by omega)
                          cases hbd
                          rw [Int.toNat_natCast] at e0 e1 e2 e3 e4 e5 e6
                          obtain ⟨x, hx⟩ : ∃ x, x = rd_T49 ns (i : Int) := ⟨_, rfl⟩
                          rw [← hx] at e0 e1 e2 e3 e4 e5 e6 hd6 hC6
                          have HXM : Aside0 (x ∈ ns) := ⟨by rw [hx, rdNd ns i hlt]; exact List.getElem_mem hlt⟩
                          have HX := Aside0.mk (show ndR ns (i : Int) = x from hx.symm)
                          have BKw := BK.out
                          have hw1 : IntKind.i64.wrap ((i : Int) + 1) = ((i + 1 : Nat) : Int) := wrap_upM hlt (by have := HLEN.out; omega)
                          have HW1 := Aside0.mk hw1
                          have HD6 := Aside0.mk hd6
                          have hmc := (Kd.R_celln false (Kd.R_below HMQ.out HBM.out) (i : Int) (by omega) (by omega)).1
                          rw [metL_rd _ _ _ (by omega) (by omega), Int.toNat_natCast] at hmc
                          have HMC := Aside0.mk hmc
                          clear hmc
                          clear hx hlt hi hd6 hC6
                          go_upto_region 38 with (fail)
                          have hb5 : Below wr.heap.size wr (wr.alloc (.cells #[.int .i64 x.f0, .int .i64 x.f1, .int .i64 x.f2, .int .i64 x.f3, .int .i64 x.f4, .string x.f5, .slice B6 x.f6.length d6] 49 (0, 0))) := below_alloc (Below.refl _ _) _
                          have bk6 := blk_new wr (.cells #[.int .i64 x.f0, .int .i64 x.f1, .int .i64 x.f2, .int .i64 x.f3, .int .i64 x.f4, .string x.f5, .slice B6 x.f6.length d6] 49 (0, 0))
                          obtain ⟨g6, hg6⟩ : ∃ g, g = wr.heap.size := ⟨_, rfl⟩
                          obtain ⟨W5, hW5⟩ : ∃ W, W = wr.alloc (.cells #[.int .i64 x.f0, .int .i64 x.f1, .int .i64 x.f2, .int .i64 x.f3, .int .i64 x.f4, .string x.f5, .slice B6 x.f6.length d6] 49 (0, 0)) := ⟨_, rfl⟩
                          rw [← hW5] at hb5 bk6
                          rw [← hg6] at bk6
                          rw [← hW5, ← hg6]
                          have BK5 := Aside0.mk ((hb5.block _ (blk_lt BKw)).trans BKw)
                          have HB5 := Aside0.mk (below_step HB.out hb5)
                          have BK65 := Aside0.mk bk6
                          have HBM5 := Aside0.mk (below_step HBM.out hb5)
                          have hmc : W5.cell? ⟨gm, i, none⟩ = some (.bool (hasL Q (i : Int))) := (hb5.cell (World.block_lt_of_cell? _ _ HMC.out)).trans HMC.out
                          have h60 : W5.cell? ⟨g6, 0, none⟩ = some (.int .i64 x.f0) := (blk_cell bk6 0).trans rfl
                          have h61 : W5.cell? ⟨g6, 1, none⟩ = some (.int .i64 x.f1) := (blk_cell bk6 1).trans rfl
                          have h62 : W5.cell? ⟨g6, 2, none⟩ = some (.int .i64 x.f2) := (blk_cell bk6 2).trans rfl
                          have h63 : W5.cell? ⟨g6, 3, none⟩ = some (.int .i64 x.f3) := (blk_cell bk6 3).trans rfl
                          have h64 : W5.cell? ⟨g6, 4, none⟩ = some (.int .i64 x.f4) := (blk_cell bk6 4).trans rfl
                          have h65 : W5.cell? ⟨g6, 5, none⟩ = some (.string x.f5) := (blk_cell bk6 5).trans rfl
                          have h66 : W5.cell? ⟨g6, 6, none⟩ = some (.slice B6 x.f6.length d6) := (blk_cell bk6 6).trans rfl
                          have h20 : W5.cell? ⟨g2, 0, none⟩ = some (.slice (some ad) ns.length c0) := (blk_cell BK5.out 0).trans rfl
                          have h21 : W5.cell? ⟨g2, 1, none⟩ = some (.int .i64 room) := (blk_cell BK5.out 1).trans rfl
                          clear hb5 bk6 hW5 hg6 HB HBM BK BKw e0 e1 e2 e3 e4 e5 e6 BK65 h61 h62 h63 h64 h65 h66 h20 h21 HMC
                          by_cases k2 : x.f0 = 2
                          case neg =>
                            have HK2 := Aside0.mk k2
                            have w1 : (x.f0 == 2) = false := by simpa using k2
                            clear k2
                            go_wp2
                            go_roundw
                            case rel => exact ⟨i + 1, HLT.out, by first | rfl | go_num, ⟨fun j hj hd => by
                              rcases Nat.lt_succ_iff_lt_or_eq.mp hj with h | rfl
                              · exact HN.out j h hd
                              · exact absurd (by unfold dirN at hd; rw [HX.out] at hd; simpa using hd) HK2.out⟩, HB5, HBM5, BK5⟩
                            case measure => exact meas_upG HLT.out (by first | rfl | (rw [← i64_w]; exact HW1.out) | exact HW1.out)
                          case pos =>
                            have HK2 := Aside0.mk k2
                            have w1 : (x.f0 == 2) = true := by simp [k2]
                            clear k2
                            cases hh : hasL Q (i : Int) with
                            | true =>
                              have HH := Aside0.mk hh
                              rw [hh] at hmc
                              clear hh
                              go_wp2
                              go_roundw
                              case rel => exact ⟨i + 1, HLT.out, by first | rfl | go_num, ⟨fun j hj hd => by
                                rcases Nat.lt_succ_iff_lt_or_eq.mp hj with h | rfl
                                · exact HN.out j h hd
                                · exact (hasL_iff _ _).mp HH.out⟩, HB5, HBM5, BK5⟩
                              case measure => exact meas_upG HLT.out (by first | rfl | (rw [← i64_w]; exact HW1.out) | exact HW1.out)
                            | false =>
                              have HH := Aside0.mk hh
                              rw [hh] at hmc
                              clear hh
                              go_wp2
                              go_ret
                              exact GPost.no (fun h => by
                                have hd : dirN ns (i : Int) = true := by unfold dirN; rw [HX.out]; simpa using HK2.out
                                have h1 := h.met (i : Int) ((allN_mem _ _).mpr ⟨by omega, by have := HLT.out; omega⟩) hd
                                have h2 := (HF.out.done (fun x hx => by obtain ⟨y, hy⟩ := List.exists_mem_of_ne_nil _ hx; exact (good_sc HNI.out x y hy).2) (i : Int) hd).mpr h1
                                exact Bool.false_ne_true (HH.out.symm.trans ((hasL_iff _ _).mpr h2))) HB5.out
                        case neg =>
                          have hil : i = ns.length := by omega
                          subst hil
                          have p9 : decide ((ns.length : Int) < (ns.length : Int)) = false := by simp
                          clear hlt hi
                          go_wp2
                          go_ret
                          exact GPost.yes ⟨HLEN.out, B2.out, HT0.out.trans HTP.out, HNI.out, by have := HSM.out; omega, fun y hy hf => HLA.out y hy hf, fun y hy hd => by
                            obtain ⟨h0, h1⟩ := (allN_mem _ _).mp hy
                            obtain ⟨m, rfl⟩ := Int.eq_ofNat_of_zero_le h0
                            exact (HF.out.done (fun x hx => by obtain ⟨y, hy⟩ := List.exists_mem_of_ne_nil _ hx; exact (good_sc HNI.out x y hy).2) (m : Int) hd).mp (HN.out m (by omega) hd)⟩ HB.out

end Go.Proofs.YthalkpflbbpniaaDoor.Q

/- impl.GoodFs as a bool, the same as the reference's, for its callers. -/
namespace Go.Proofs.YthalkpflbbpniaaDoor.Q
open Go.RowKit Go.Proofs.YthalkpflbbpniaaDoorW.PrintWords Go.Proofs.YthalkpflbbpniaaDoorW.PrintLast Go.Proofs.YthalkpflbbpniaaDoorW.PrintMore
attribute [local go_sem] max2_int min2_int max_two min_two max_three min_three max_four min_four   -- for this text's walks alone
set_option linter.unusedVariables false
set_option linter.unusedSimpArgs false

theorem iGoodB_iff (ns : List Nd) (room : Int) : sGoodB ns room = true ↔ IGood ns room := (sGoodB_iff ns room).trans (good_iff ns room).symm
def impl_GoodFs.f (l0_0 : List Nd) (a0_1 : Int) : Option Bool := if fitB l0_0 = true then some (sGoodB l0_0 a0_1) else none
theorem impl_GoodFs.calls (A0_0 : Option Addr) (c0_0 : Nat) (l0_0 : List Nd) (a0_1 : Int) (r : Bool) (w : World) (hr0_0 : Kd.C k49 w A0_0 l0_0.length l0_0) (hc0_0 : l0_0.length ≤ c0_0) (h : impl_GoodFs.f l0_0 a0_1 = some r) :
    Calls Tryd.prog 29 #[.agg #[.slice A0_0 l0_0.length c0_0, .int .i64 a0_1]] w fun e w' => e = .returned (.bool r) ∧ Below w.heap.size w w' := by
  unfold impl_GoodFs.f at h
  split at h
  · rename_i hf
    rw [← Option.some.inj h]
    refine (goodFs_walk l0_0 A0_0 c0_0 a0_1 w hr0_0 hc0_0 (fitB_ok hf)).mono ?_
    rintro e w' ⟨b, he, hb, hB⟩
    refine ⟨?_, hB⟩
    rw [he, Bool.eq_iff_iff.mpr (hb.trans (iGoodB_iff l0_0 a0_1).symm)]
  · cases h

end Go.Proofs.YthalkpflbbpniaaDoor.Q

-- Printed by a program of this session (wip/tools/myprint.py) that runs the kit's print, hand-proved functions among the others.
namespace Go.Proofs.YthalkpflbbpniaaDoor.Q
open Go.RowKit Go.Proofs.YthalkpflbbpniaaDoorW.PrintWords Go.Proofs.YthalkpflbbpniaaDoorW.PrintLast Go.Proofs.YthalkpflbbpniaaDoorW.PrintMore
attribute [local go_sem] max2_int min2_int max_two min_two max_three min_three max_four min_four   -- for this text's walks alone
set_option linter.unusedVariables false
set_option linter.unusedSimpArgs false

/-! ### impl_isGoodAt: function 17 -/
def impl_isGoodAt.f (l0_0 : List (S49)) (a0_1 : Int) (a1 : Int) : Option (Bool) := (impl_GoodFs.f l0_0 a0_1).bind fun t327 => (if t327 = true then ((impl_Fs_isThere.f l0_0 a0_1 a1).bind fun t328 => (some t328)) else (some false))
set_option maxHeartbeats 8000000 in
set_option maxRecDepth 100000 in
theorem impl_isGoodAt.calls (A0_0 : Option Addr) (c0_0 : Nat) (l0_0 : List (S49)) (a0_1 : Int) (a1 : Int) (r : Bool) (w : World) (hr0_0 : Kd.C k49 w A0_0 l0_0.length l0_0) (hc0_0 : l0_0.length ≤ c0_0) (h : impl_isGoodAt.f l0_0 a0_1 a1 = some r) :
  Calls Tryd.prog 17 #[.agg #[.slice A0_0 l0_0.length c0_0, .int .i64 a0_1], .int .i64 a1] w fun e w' => e = .returned (.bool r) ∧ Below w.heap.size w w' := by
 have hu31 := Tryd.underlying31
 have HR0_0 := Aside0.mk hr0_0
 have HC0_0 := Aside0.mk hc0_0
 clear hr0_0 hc0_0
 have HB := Aside0.mk (Below.refl w.heap.size w)
 have H : ((impl_GoodFs.f l0_0 a0_1).bind fun t327 => (if t327 = true then ((impl_Fs_isThere.f l0_0 a0_1 a1).bind fun t328 => (some t328)) else (some false))) = some r := h
 clear h
 replace H := Option.bind_eq_some_iff.mp H
 obtain ⟨t327, A30, H⟩ := H
 try dsimp only at H
 have A3 := Aside0.mk A30
 clear A30
 by_cases c4 : t327 = true
 ·subst c4
  have H1 := H
  rw [if_pos rfl] at H1
  clear H
  have H := H1
  clear H1
  replace H := Option.bind_eq_some_iff.mp H
  obtain ⟨t328, A50, H⟩ := H
  try dsimp only at H
  have A5 := Aside0.mk A50
  clear A50
  obtain rfl := Option.some.inj H
  go_enter Tryd.func17, Tryd.ntmps17
  go_wp2_with (first | ((with_reducible refine gate_dst (N := 2) rfl ?_); refine box_event ?hg (N := 2) ?hd (cs := #[.slice A0_0 l0_0.length c0_0, .int .i64 a0_1]) (t := 31) ?hr ?_; (case hd => rfl); (case hg => rfl); (case hr => first | (go_simp; done) | (go_simp; rfl)); intro gb326 hg w6 hbox hb; have n0_ := Aside0.mk (below_step (Gtr.bw HB.out) hb); have n1_ := Aside0.mk (hbox); have n2_ := Aside0.mk ((by rw [hg]; exact (below_size (Gtr.bw HB.out)) : w.heap.size ≤ gb326)); have n3_ := Aside0.mk ((by rw [hg]; exact (below_size (Gtr.bw HB.out)) : w.heap.size ≤ gb326)); clear HB; have HB := n0_; have BK326 := n1_; have GW326 := n2_; have GE326 := n3_; clear n0_ n1_ n2_ n3_; clear hb hbox hg; have hcz7_0 : w6.cell? ⟨gb326, 0, none⟩ = some (.slice A0_0 l0_0.length c0_0) := (blk_cell BK326.out 0).trans rfl; have hcz7_1 : w6.cell? ⟨gb326, 1, none⟩ = some (.int .i64 a0_1) := (blk_cell BK326.out 1).trans rfl; have hfz7_0 := blk_frozen BK326.out 0; have hfz7_1 := blk_frozen BK326.out 1) | ((with_reducible refine gate_callee (f := 29) rfl ?_); refine goesL_ (some 6) rfl rfl Tryd.func29 (by kernel_rfl) rfl #[.agg #[.slice A0_0 l0_0.length c0_0, .int .i64 a0_1]] rfl (by (try simp only [List.map_toArray, List.map_cons, List.map_nil]); first | done | rfl | (simp only [List.length_drop, List.length_take]; rfl)) ?_; (with_reducible refine (impl_GoodFs.calls _ _ l0_0 a0_1 true _ ?side1 ?side2 A3.out).mono ?_); (case side1 => repeat (first | exact (Kd.C_below HR0_0.out HB.out) | (with_reducible refine Kd.C_alloc ?_ _) | (with_reducible refine Kd.C_drewN ?_ _) | (with_reducible refine Kd.C_drew ?_))); (case side2 => exact HC0_0.out); rintro e w8 ⟨rfl, hb⟩; refine ⟨_, rfl, ?_⟩; have n0_ := Aside0.mk (blk_below (g := gb326) (o := .cells #[.slice A0_0 l0_0.length c0_0, .int .i64 a0_1] 31 (0, 0)) (by (with_reducible repeat (first | refine blk_drewN ?_ _ | refine blk_drew ?_ | refine blk_alloc ?_ _)); exact BK326.out) hb); have n1_ := Aside0.mk (below_step (Gtr.bw HB.out) hb); clear BK326; clear HB; have BK326 := n0_; have HB := n1_; clear n0_ n1_; (try clear hb); (try clear hb2); (try clear hk); (try clear hi); have hcz9_0 : w8.cell? ⟨gb326, 0, none⟩ = some (.slice A0_0 l0_0.length c0_0) := (blk_cell BK326.out 0).trans rfl; have hcz9_1 : w8.cell? ⟨gb326, 1, none⟩ = some (.int .i64 a0_1) := (blk_cell BK326.out 1).trans rfl; have hfz9_0 := blk_frozen BK326.out 0; have hfz9_1 := blk_frozen BK326.out 1) | (go_at_call 30; (with_reducible refine (impl_Fs_isThere.calls _ _ l0_0 a0_1 a1 t328 _ ?side1 ?side2 A5.out).mono ?_); (case side1 => repeat (first | exact (Kd.C_below HR0_0.out HB.out) | (with_reducible refine Kd.C_alloc ?_ _) | (with_reducible refine Kd.C_drewN ?_ _) | (with_reducible refine Kd.C_drew ?_))); (case side2 => exact HC0_0.out); rintro e w10 ⟨rfl, hb⟩; have n0_ := Aside0.mk (blk_below (g := gb326) (o := .cells #[.slice A0_0 l0_0.length c0_0, .int .i64 a0_1] 31 (0, 0)) (by (with_reducible repeat (first | refine blk_drewN ?_ _ | refine blk_drew ?_ | refine blk_alloc ?_ _)); exact BK326.out) hb); have n1_ := Aside0.mk (below_step (Gtr.bw HB.out) hb); clear BK326; clear HB; have BK326 := n0_; have HB := n1_; clear n0_ n1_; (try clear hb); (try clear hb2); (try clear hk); (try clear hi)))
  go_ret
  exact ⟨by first | rfl | (simp [errW_none, errW_some] <;> rfl) | (simp [*, errW_none, errW_some] <;> rfl), (Gtr.bw HB.out)⟩
 ·replace c4 := Bool.eq_false_iff.mpr c4
  subst c4
  have H1 : (some false) = some r := by rw [if_neg (show ¬ (false = true) by decide)] at H; exact H
  clear H
  have H := H1
  clear H1
  obtain rfl := Option.some.inj H
  go_enter Tryd.func17, Tryd.ntmps17
  go_wp2_with (first | ((with_reducible refine gate_dst (N := 2) rfl ?_); refine box_event ?hg (N := 2) ?hd (cs := #[.slice A0_0 l0_0.length c0_0, .int .i64 a0_1]) (t := 31) ?hr ?_; (case hd => rfl); (case hg => rfl); (case hr => first | (go_simp; done) | (go_simp; rfl)); intro gb326 hg w11 hbox hb; have n0_ := Aside0.mk (below_step (Gtr.bw HB.out) hb); have n1_ := Aside0.mk (hbox); have n2_ := Aside0.mk ((by rw [hg]; exact (below_size (Gtr.bw HB.out)) : w.heap.size ≤ gb326)); have n3_ := Aside0.mk ((by rw [hg]; exact (below_size (Gtr.bw HB.out)) : w.heap.size ≤ gb326)); clear HB; have HB := n0_; have BK326 := n1_; have GW326 := n2_; have GE326 := n3_; clear n0_ n1_ n2_ n3_; clear hb hbox hg; have hcz12_0 : w11.cell? ⟨gb326, 0, none⟩ = some (.slice A0_0 l0_0.length c0_0) := (blk_cell BK326.out 0).trans rfl; have hcz12_1 : w11.cell? ⟨gb326, 1, none⟩ = some (.int .i64 a0_1) := (blk_cell BK326.out 1).trans rfl; have hfz12_0 := blk_frozen BK326.out 0; have hfz12_1 := blk_frozen BK326.out 1) | ((with_reducible refine gate_callee (f := 29) rfl ?_); refine goesL_ (some 6) rfl rfl Tryd.func29 (by kernel_rfl) rfl #[.agg #[.slice A0_0 l0_0.length c0_0, .int .i64 a0_1]] rfl (by (try simp only [List.map_toArray, List.map_cons, List.map_nil]); first | done | rfl | (simp only [List.length_drop, List.length_take]; rfl)) ?_; (with_reducible refine (impl_GoodFs.calls _ _ l0_0 a0_1 false _ ?side1 ?side2 A3.out).mono ?_); (case side1 => repeat (first | exact (Kd.C_below HR0_0.out HB.out) | (with_reducible refine Kd.C_alloc ?_ _) | (with_reducible refine Kd.C_drewN ?_ _) | (with_reducible refine Kd.C_drew ?_))); (case side2 => exact HC0_0.out); rintro e w13 ⟨rfl, hb⟩; refine ⟨_, rfl, ?_⟩; have n0_ := Aside0.mk (blk_below (g := gb326) (o := .cells #[.slice A0_0 l0_0.length c0_0, .int .i64 a0_1] 31 (0, 0)) (by (with_reducible repeat (first | refine blk_drewN ?_ _ | refine blk_drew ?_ | refine blk_alloc ?_ _)); exact BK326.out) hb); have n1_ := Aside0.mk (below_step (Gtr.bw HB.out) hb); clear BK326; clear HB; have BK326 := n0_; have HB := n1_; clear n0_ n1_; (try clear hb); (try clear hb2); (try clear hk); (try clear hi)))
  go_ret
  exact ⟨by first | rfl | (simp [errW_none, errW_some] <;> rfl) | (simp [*, errW_none, errW_some] <;> rfl), (Gtr.bw HB.out)⟩
end Go.Proofs.YthalkpflbbpniaaDoor.Q

/- Ways as lists of names: the texts of them; plain. -/
namespace Go.Proofs.YthalkpflbbpniaaDoor.Q
open Go.RowKit Go.Proofs.YthalkpflbbpniaaDoorW.PrintWords Go.Proofs.YthalkpflbbpniaaDoorW.PrintLast Go.Proofs.YthalkpflbbpniaaDoorW.PrintMore
attribute [local go_sem] max2_int min2_int max_two min_two max_three min_three max_four min_four   -- for this text's walks alone
set_option linter.unusedVariables false
set_option linter.unusedSimpArgs false

def namesW (s : ByteArray) : List ByteArray := if s.toList = [46] then [] else slashL s
theorem name_no_slash {p : ByteArray} (h : nameOkB p = true) : (47 : UInt8) ∉ p.data.toList := by
  intro hm
  rw [← nameOk_eq] at h
  simp only [Bool.and_eq_true, List.all_eq_true] at h
  have := h.1 (((47 : UInt8).toNat : Nat) : Int) (by unfold bytesOf; exact List.mem_map.mpr ⟨47, hm, rfl⟩)
  exact absurd this (by decide)
theorem name_size {p : ByteArray} (h : nameOkB p = true) : 1 ≤ p.size ∧ p.size ≤ 8 := by
  rw [← nameOk_eq] at h
  unfold nameEnd inB at h
  simp at h
  omega
theorem name_dot {p : ByteArray} (h : nameOkB p = true) : p.data.toList ≠ [46] := by
  intro e
  unfold nameOkB at h
  rw [show p.toList = [46] from by rw [ByteArray.toList_eq]; exact e] at h
  simp at h
def joinT : List (List UInt8) → List UInt8
  | [] => []
  | [a] => a
  | a :: b :: r => a ++ 47 :: joinT (b :: r)
theorem joinT_cons (a : List UInt8) (l : List (List UInt8)) (h : l ≠ []) : joinT (a :: l) = a ++ 47 :: joinT l := by
  cases l with
  | nil => exact absurd rfl h
  | cons => rfl
theorem joinT_snoc (n : List UInt8) : ∀ l : List (List UInt8), l ≠ [] → joinT (l ++ [n]) = joinT l ++ 47 :: n
  | [], h => absurd rfl h
  | [a], _ => rfl
  | a :: b :: r, _ => by
    have := joinT_snoc n (b :: r) (by simp)
    simp only [List.cons_append, joinT] at this ⊢
    rw [this]; simp
theorem spl_noc (c : UInt8) : ∀ t : List UInt8, c ∉ t → spl c t = [t]
  | [], _ => rfl
  | b :: t, h => by
    have hb : b ≠ c := fun e => h (by rw [e]; exact List.mem_cons_self)
    simp only [spl, if_neg hb, spl_noc c t (fun e => h (List.mem_cons_of_mem _ e))]
theorem spl_app (c : UInt8) (t : List UInt8) : ∀ a : List UInt8, c ∉ a → spl c (a ++ c :: t) = a :: spl c t
  | [], _ => by simp [spl]
  | b :: a, h => by
    have hb : b ≠ c := fun e => h (by rw [e]; exact List.mem_cons_self)
    simp only [List.cons_append, spl, if_neg hb, spl_app c t a (fun e => h (List.mem_cons_of_mem _ e))]
theorem spl_join : ∀ l : List (List UInt8), l ≠ [] → (∀ x ∈ l, (47 : UInt8) ∉ x) → spl 47 (joinT l) = l
  | [], h, _ => absurd rfl h
  | [a], _, h => spl_noc 47 a (h a (by simp))
  | a :: b :: r, _, h => by
    simp only [joinT]
    rw [spl_app 47 _ a (h a (by simp)), spl_join (b :: r) (by simp) (fun x hx => h x (List.mem_cons_of_mem _ hx))]
def dataL (N : List ByteArray) : List (List UInt8) := N.map (·.data.toList)
def wayT (N : List ByteArray) : List UInt8 := if N = [] then [46] else joinT (dataL N)
theorem wayT_nil : wayT [] = [46] := rfl
theorem wayT_ne {N : List ByteArray} (h : N ≠ []) : wayT N = joinT (dataL N) := if_neg h
theorem slash_data (s : ByteArray) : dataL (slashL s) = spl 47 s.data.toList := splitB_spl 47 s
theorem slash_ne (s : ByteArray) : slashL s ≠ [] := by
  intro e
  have := slash_data s
  rw [e] at this
  exact spl_ne _ _ this.symm
theorem namesW_ne {s : ByteArray} (h : s.toList ≠ [46]) : namesW s = slashL s := if_neg h
theorem namesW_nil {s : ByteArray} : namesW s = [] ↔ s.toList = [46] := by
  constructor
  · intro h
    by_cases hd : s.toList = [46]
    · exact hd
    · rw [namesW_ne hd] at h; exact absurd h (slash_ne s)
  · intro h; exact if_pos h
theorem names_way {s : ByteArray} {N : List ByteArray} (hN : ∀ p ∈ N, nameOkB p = true) (h : s.data.toList = wayT N) : namesW s = N := by
  by_cases hn : N = []
  · subst hn
    exact namesW_nil.mpr (by rw [ByteArray.toList_eq, h]; rfl)
  · rw [wayT_ne hn] at h
    have hs : spl 47 s.data.toList = dataL N := by
      rw [h]
      refine spl_join _ (fun e => hn (List.map_eq_nil_iff.mp e)) (fun x hx => ?_)
      obtain ⟨p, hp, rfl⟩ := List.mem_map.mp hx
      exact name_no_slash (hN p hp)
    have hd : s.toList ≠ [46] := by
      intro e
      rw [ByteArray.toList_eq] at e
      rw [e, spl_noc 47 [46] (by decide)] at hs
      match N, hn, hs, hN with
      | [p], _, hs, hN =>
        simp only [dataL, List.map_cons, List.map_nil, List.cons.injEq, and_true] at hs
        exact name_dot (hN p (by simp)) hs.symm
      | p :: q :: r, _, hs, _ => simp [dataL] at hs
    rw [namesW_ne hd]
    exact map_data_inj ((slash_data s).trans hs)
theorem wayT_inj {M N : List ByteArray} (hM : ∀ p ∈ M, nameOkB p = true) (hN : ∀ p ∈ N, nameOkB p = true) (h : wayT M = wayT N) : M = N := by
  have h1 := names_way (s := ⟨(wayT M).toArray⟩) hM (by simp)
  have h2 := names_way (s := ⟨(wayT M).toArray⟩) hN (by simp [h])
  exact h1.symm.trans h2
theorem dataL_append (M N : List ByteArray) : dataL (M ++ N) = dataL M ++ dataL N := by simp [dataL]
theorem parts_names {s : ByteArray} (h : ∀ p ∈ slashL s, nameOkB p = true) : partsL s = slashL s := by
  unfold partsL
  rw [List.filter_eq_self]
  intro p hp
  have := (name_size (h p hp)).1
  unfold nilB
  rw [Bool.not_eq_true', decide_eq_false_iff_not]
  omega

end Go.Proofs.YthalkpflbbpniaaDoor.Q

/- (Fs).walk and (Fs).ways: all ways of a node, by hand. -/
namespace Go.Proofs.YthalkpflbbpniaaDoor.Q
open Go.RowKit Go.Proofs.YthalkpflbbpniaaDoorW.PrintWords Go.Proofs.YthalkpflbbpniaaDoorW.PrintLast Go.Proofs.YthalkpflbbpniaaDoorW.PrintMore
attribute [local go_sem] max2_int min2_int max_two min_two max_three min_three max_four min_four   -- for this text's walks alone
set_option linter.unusedVariables false
set_option linter.unusedSimpArgs false

def belowP (p nm : ByteArray) : ByteArray := if p.toList = ([46] : List UInt8) then nm else (p ++ (⟨#[47]⟩ : ByteArray)) ++ nm
abbrev Wy := ByteArray × Int
abbrev kW : Kd Wy := Kd.pair Kd.string (Kd.int .i64)
def chW (ns : List Nd) (a : Wy) : List Wy := (ndR ns a.2).f6.map (fun e => (belowP a.1 e.f0, e.f1))
abbrev visitV (g : Nat) : Value := .func (.func 32) #[] #[.pointer (some ⟨g, 0, none⟩)]
theorem wayInfo : (Tryd.prog.info? 46).map (fun i => (i.zero, i.size, i.bytes)) = some (some (.agg #[.string ⟨#[]⟩, .int .i64 0]), 2, 24) := by kernel_rfl
/-- Where the visits are put: a box with a row of ways. -/
structure OutAt (B : Nat) (w0 : World) (g : Nat) (W : World) (P0 : Nat → Prop) (v : Value) (rows : List Wy) : Prop where
  box : W.heap[g]? = some (.cells #[v] 43 (0, 0))
  row : Kd.R kW 46 W B P0 v rows
  below : Below B w0 W
theorem OutAt.step {B g : Nat} {w0 W W2 : World} {P0 : Nat → Prop} {v : Value} {rows : List Wy} (h : OutAt B w0 g W P0 v rows) (hB : B ≤ W.heap.size) (hb : Below W.heap.size W W2) : OutAt B w0 g W2 P0 v rows :=
  ⟨(hb.block _ (blk_lt h.box)).trans h.box, Kd.R_below h.row hb, h.below.trans (hb.mono hB)⟩
theorem OutAt.weak {B g : Nat} {w0 W : World} {P0 P1 : Nat → Prop} {v : Value} {rows : List Wy} (h : OutAt B w0 g W P0 v rows) (hp : ∀ k, P0 k → P1 k) : OutAt B w0 g W P1 v rows :=
  ⟨h.box, Kd.R_mono h.row hp, h.below⟩
set_option maxHeartbeats 4000000 in
set_option maxRecDepth 100000 in
theorem visit_calls (B : Nat) (w0 : World) (g : Nat) (hg : B ≤ g) (p : ByteArray) (x : Int) (P0 : Nat → Prop) (hP : ¬ P0 g) (v : Value) (rows : List Wy) (w : World) (ho : OutAt B w0 g w P0 v rows) (hl : rows.length ≤ 1000000000) :
    Calls Tryd.prog 32 #[.agg #[.string p, .int .i64 x], .pointer (some ⟨g, 0, none⟩)] w fun e w' => ∃ u v', e = .returned u ∧ OutAt B w0 g w' (fun k => P0 k ∨ w.heap.size ≤ k) v' (rows ++ [(p, x)]) ∧ Kept w w' (fun k => P0 k ∨ k = g) := by
  have hu1 := Tryd.underlying46
  have hu2 := Tryd.underlying43
  have HO := Aside0.mk ho
  have HG := Aside0.mk hg
  have HP := Aside0.mk hP
  have HL := Aside0.mk hl
  obtain ⟨Av, cv, rfl⟩ := Kd.R_slice ho.row
  have hlt := blk_lt ho.box
  have HLT := Aside0.mk hlt
  have c0 := (blk_cell ho.box 0).trans rfl
  clear ho hg hP hl hlt
  go_enter Tryd.func32, Tryd.ntmps32
  go_upto_region 1 with (fail)
  obtain ⟨W, hW⟩ : ∃ W, W = w.alloc (.cells #[.string p, .int .i64 x] 46 (0, 0)) := ⟨_, rfl⟩
  have hb : Below w.heap.size w W := by rw [hW]; exact below_alloc (Below.refl _ _) _
  have bk := blk_new w (.cells #[.string p, .int .i64 x] 46 (0, 0))
  obtain ⟨g2, hg2⟩ : ∃ k, k = w.heap.size := ⟨_, rfl⟩
  rw [← hW] at bk
  rw [← hg2] at bk
  rw [← hW, ← hg2]
  have O1 := Aside0.mk ((HO.out.step (by have := HG.out; have := HLT.out; omega) hb).weak (P1 := fun k => P0 k ∨ w.heap.size ≤ k) (fun _ h => .inl h))
  have HS : Aside0 (w.heap.size ≤ W.heap.size) := ⟨hb.size⟩
  have K1 : Aside0 (Kept w W (fun k => P0 k ∨ k = g)) := ⟨Kept.of_below hb _⟩
  have c1 : W.cell? ⟨g, 0, none⟩ = some (.slice Av rows.length cv) := (blk_cell O1.out.box 0).trans rfl
  have f1 : W.frozen? ⟨g, 0, none⟩ = false := blk_frozen O1.out.box 0
  have d0 : W.cell? ⟨g2, 0, none⟩ = some (.string p) := (blk_cell bk 0).trans rfl
  have d1 : W.cell? ⟨g2, 1, none⟩ = some (.int .i64 x) := (blk_cell bk 1).trans rfl
  clear hW hb bk hg2 c0
  go_wp2_with (first | ((with_reducible refine gate_dst (N := 6) rfl ?_); refine Kd.R_append kW (w0 := w0) (W := W) B rfl (.tmp 3) (.tmp 5) 43 46 (.agg #[.string ⟨#[]⟩, .int .i64 0]) 24 rfl Tryd.underlying43 wayInfo rfl (by decide) (by omega) (.slice Av rows.length cv) rows (p, x) [.string p, .int .i64 x] (fun k => P0 k ∨ w.heap.size ≤ k) (fun _ => False) rfl rfl ⟨[.string p], [.int .i64 x], rfl, rfl, rfl⟩ (fun _ h => h.elim) ?hf O1.out.row O1.out.below ?hz ?hl ?_; (case hf => (intro j hj; exact Or.inr (Nat.le_trans HS.out hj))); (case hz => (have := HG.out; have := HLT.out; have := HS.out; omega)); (case hl => (have := HL.out; omega)); intro v1 w1 ho1 hb1 hg1 hat1; obtain ⟨A1, cc1, e1⟩ := Kd.R_slice ho1; subst e1; have hne : some g ≠ (Value.slice Av rows.length cv).ownBlock := (fun e => (O1.out.row.1 g e.symm).elim HP.out (fun h => by have := HLT.out; omega)); have bk1 := (hg1.block g (by have := HLT.out; have := HS.out; omega) hne).trans O1.out.box; have c2 : w1.cell? ⟨g, 0, none⟩ = some (.slice Av rows.length cv) := (blk_cell bk1 0).trans rfl; have f2 : w1.frozen? ⟨g, 0, none⟩ = false := blk_frozen bk1 0))
  have HO2 : Aside0 (OutAt B w0 g (w1.setCell ⟨g, 0, none⟩ (.slice A1 (rows ++ [(p, x)]).length cc1)) (fun k => P0 k ∨ w.heap.size ≤ k) (.slice A1 (rows ++ [(p, x)]).length cc1) (rows ++ [(p, x)])) := ⟨⟨blk_put bk1 0 _ rfl, Kd.R_far ho1 (fun k hk => hk.elim (fun h (e : k = g) => HP.out (e ▸ h)) (fun h => by have := HLT.out; show k ≠ g; omega)) _, hb1.setCell HG.out _⟩⟩
  have HK2 : Aside0 (Kept w (w1.setCell ⟨g, 0, none⟩ (.slice A1 (rows ++ [(p, x)]).length cc1)) (fun k => P0 k ∨ k = g)) := ⟨Kept.setCell (Kept.of_grown hg1 K1.out (fun k hk => (O1.out.row.1 k hk).elim (fun h => .inl (.inl h)) (fun h => .inr h))) (.inl (.inr rfl)) _⟩
  clear ho1 hb1 hg1 hat1 hne bk1 c2 f2 c1 f1 d0 d1
  have hL : (rows ++ [(p, x)]).length = rows.length + 1 := by simp
  rw [hL] at HO2 HK2
  go_end0
  exact ⟨_, _, rfl, HO2.out, HK2.out⟩
theorem OutAt.bound {B g : Nat} {w0 W : World} {P0 : Nat → Prop} {v : Value} {rows : List Wy} (h : OutAt B w0 g W P0 v rows) : OutAt B w0 g W (fun k => P0 k ∧ k < W.heap.size) v rows :=
  ⟨h.box, Kd.R_mono (Kd.R_bound h.row) (fun _ hk => ⟨hk.1, hk.2.2.1⟩), h.below⟩
theorem belowP_size (a b : ByteArray) : (belowP a b).size ≤ a.size + b.size + 1 := by
  unfold belowP
  split
  · omega
  · rw [ByteArray.size_append, ByteArray.size_append]; simp only [ByteArray.size, List.size_toArray, List.length_cons, List.length_nil]; omega
theorem below_f (a b : ByteArray) (ha : a.size ≤ 2000000000) (hb : b.size ≤ 2000000000) : impl_below.f a b = some (belowP a b) := by
  unfold impl_below.f belowP
  split
  · rfl
  · rw [if_pos (by omega), if_pos (by rw [ByteArray.size_append]; simp only [ByteArray.size, List.size_toArray, List.length_cons, List.length_nil] at *; omega)]
theorem preL_cons {α : Type} {f : α → Option (List α)} {a : α} {l r : List α} (h : preL f (a :: l) = some r) : ∃ x y, f a = some x ∧ preL f l = some y ∧ r = x ++ y := by
  unfold preL at h
  cases hx : f a with
  | none => rw [hx] at h; cases h
  | some x =>
    rw [hx] at h
    cases hy : preL f l with
    | none => rw [hy] at h; cases h
    | some y => rw [hy] at h; injection h with h; exact ⟨x, y, rfl, rfl, h.symm⟩
theorem keepW {W : World} {g4 g5 g9 n c0 : Nat} {ad : Addr} {room x nd : Int} {p nm : ByteArray} (b4 : W.heap[g4]? = some (.cells #[.slice (some ad) n c0, .int .i64 room] 31 (0, 0))) (b5 : W.heap[g5]? = some (.cells #[.string p, .int .i64 x] 46 (0, 0))) (b9 : W.heap[g9]? = some (.cells #[.string nm, .int .i64 nd] 80 (0, 0))) :
    W.cell? ⟨g4, 0, none⟩ = some (.slice (some ad) n c0) ∧ W.cell? ⟨g4, 1, none⟩ = some (.int .i64 room) ∧ W.cell? ⟨g5, 0, none⟩ = some (.string p) ∧ W.cell? ⟨g9, 0, none⟩ = some (.string nm) ∧ W.cell? ⟨g9, 1, none⟩ = some (.int .i64 nd) :=
  ⟨(blk_cell b4 0).trans rfl, (blk_cell b4 1).trans rfl, (blk_cell b5 0).trans rfl, (blk_cell b9 0).trans rfl, (blk_cell b9 1).trans rfl⟩
theorem below_drawn0 {W W2 : World} (h : Drawn0 W W2) : Below W.heap.size W W2 := by obtain ⟨n, hn⟩ := h; rw [hn]; exact pw_below_drewN (Below.refl _ _) n
set_option maxHeartbeats 8000000 in
set_option maxRecDepth 100000 in
theorem walk_calls (room : Int) (A0 : Option Addr) (c0 : Nat) (ns : List Nd) (w0 : World) (hr0 : Kd.C k49 w0 A0 ns.length ns) (hn : ns.length ≤ 1000) (hfit : FsFit ns) (hall : ∀ x, x ∈ allN ns.length → ∀ y, y ∈ scN ns x → y ∈ allN ns.length) (g : Nat) (hg : w0.heap.size ≤ g) (d : Nat) : ∀ (p : ByteArray) (x : Int) (P0 : Nat → Prop) (v : Value) (rows r : List Wy) (w : World),
    preD (chW ns) d (p, x) = some r → x ∈ allN ns.length → p.size + d * 1048577 ≤ 1000000000 → rows.length + r.length ≤ 1000000000 → ¬ P0 g → OutAt w0.heap.size w0 g w P0 v rows →
    Calls Tryd.prog 31 #[.agg #[.slice A0 ns.length c0, .int .i64 room], .agg #[.string p, .int .i64 x], .bool false, visitV g] w fun e w' => ∃ u v', e = .returned u ∧ OutAt w0.heap.size w0 g w' (fun k => P0 k ∨ w.heap.size ≤ k) v' (rows ++ r) ∧ Kept w w' (fun k => P0 k ∨ k = g) := by
  have hu1 := Tryd.underlying31
  have hu2 := Tryd.underlying49
  have hu3 := Tryd.underlying80
  have hu4 := Tryd.underlying46
  have HR0 := Aside0.mk hr0
  have HN := Aside0.mk hn
  have HFIT := Aside0.mk hfit
  have HALL := Aside0.mk hall
  have HG := Aside0.mk hg
  clear hr0 hn hfit hall hg
  induction d with
  | zero => intro p x P0 v rows r w h; cases h
  | succ d ih =>
    intro p x P0 v rows r w h hx hsz hl hP ho
    have HIH := Aside0.mk ih
    clear ih
    obtain ⟨l, hpl, rfl⟩ : ∃ l, preL (preD (chW ns) d) (chW ns (p, x)) = some l ∧ r = (p, x) :: l := by
      unfold preD at h
      cases hy : preL (preD (chW ns) d) (chW ns (p, x)) with
      | none => rw [hy] at h; cases h
      | some y => rw [hy] at h; injection h with h; exact ⟨y, rfl, h.symm⟩
    have hgl := blk_lt ho.box
    have HGL := Aside0.mk hgl
    have HX := Aside0.mk hx
    have HSZ := Aside0.mk hsz
    have HLN : Aside0 (rows.length + l.length + 1 ≤ 1000000000) := ⟨by rw [List.length_cons] at hl; omega⟩
    have HP := Aside0.mk hP
    have HO := Aside0.mk ho.bound
    have HPL := Aside0.mk hpl
    clear h hx hsz hl hP ho hpl hgl
    go_enter Tryd.func31, Tryd.ntmps31
    go_upto_region 1 with (fail)
    obtain ⟨ad, A6, c6, had, e0, e1, e2, e3, e4, e5, e6, hc6, hC6⟩ := at_T49 HR0.out x ((allN_mem _ _).mp HX.out).1 ((allN_mem _ _).mp HX.out).2
    subst had
    obtain ⟨W2, hW2⟩ : ∃ W, W = (w.alloc (.cells #[.slice (some ad) ns.length c0, .int .i64 room] 31 (0, 0))).alloc (.cells #[.string p, .int .i64 x] 46 (0, 0)) := ⟨_, rfl⟩
    have hb2 : Below w.heap.size w W2 := by rw [hW2]; exact below_alloc (below_alloc (Below.refl _ _) _) _
    have bk4 : W2.heap[w.heap.size]? = some (.cells #[.slice (some ad) ns.length c0, .int .i64 room] 31 (0, 0)) := by rw [hW2]; exact blk_alloc (blk_new _ _) _
    have bk5 : W2.heap[w.heap.size + 1]? = some (.cells #[.string p, .int .i64 x] 46 (0, 0)) := by rw [hW2]; have h := blk_new (w.alloc (.cells #[.slice (some ad) ns.length c0, .int .i64 room] 31 (0, 0))) (.cells #[.string p, .int .i64 x] 46 (0, 0)); rwa [World.size_alloc] at h
    obtain ⟨g4, hg4⟩ : ∃ k, k = w.heap.size := ⟨_, rfl⟩
    obtain ⟨g5, hg5⟩ : ∃ k, k = w.heap.size + 1 := ⟨_, rfl⟩
    rw [← hg4] at bk4
    rw [← hg5] at bk5
    rw [← hW2, ← hg5, ← hg4]
    have HG45 : Aside0 (w.heap.size ≤ g4 ∧ w.heap.size ≤ g5 ∧ g4 < W2.heap.size ∧ g5 < W2.heap.size) := ⟨by omega, by omega, blk_lt bk4, blk_lt bk5⟩
    have O2 := Aside0.mk (HO.out.step (by have := HG.out; have := HGL.out; omega) hb2)
    have K2 : Aside0 (Kept w W2 (fun k => P0 k ∨ k = g)) := ⟨Kept.of_below hb2 _⟩
    have BK4 := Aside0.mk bk4
    have BK5 := Aside0.mk bk5
    have HS2 : Aside0 (w.heap.size ≤ W2.heap.size) := ⟨hb2.size⟩
    have hx0 : W2.cell? ⟨g5, 0, none⟩ = some (.string p) := (blk_cell bk5 0).trans rfl
    have hx1 : W2.cell? ⟨g5, 1, none⟩ = some (.int .i64 x) := (blk_cell bk5 1).trans rfl
    clear hW2 hb2 bk4 bk5 hg4 hg5 HO e0 e1 e2 e3 e4 e5 hc6
    have HC6 := Aside0.mk hC6
    clear hC6
    go_wp2_with fail
    refine (visit_calls w0.heap.size w0 g HG.out p x (fun k => P0 k ∧ k < w.heap.size) (fun h => HP.out h.1) v rows W2 O2.out (by have := HLN.out; omega)).mono ?_; rintro e w3 ⟨u3, v3, rfl, ho3, hk3⟩
    have BK43 := Aside0.mk (blk_kept BK4.out hk3 (fun h => h.elim (fun h => by have := HG45.out; have := h.2; omega) (fun h => by have := HG45.out; have := HGL.out; omega)))
    have BK53 := Aside0.mk (blk_kept BK5.out hk3 (fun h => h.elim (fun h => by have := HG45.out; have := h.2; omega) (fun h => by have := HG45.out; have := HGL.out; omega)))
    have O3 := Aside0.mk ho3
    have K3 : Aside0 (Kept w w3 (fun k => P0 k ∨ k = g)) := ⟨K2.out.then_ hk3 (fun k hk => .inl (hk.elim (fun h => .inl h.1) .inr))⟩
    have HS3 : Aside0 (W2.heap.size ≤ w3.heap.size) := ⟨hk3.1⟩
    clear ho3 hk3 BK4 BK5 O2 K2 hx0 hx1
    have hnd := (allN_mem ns.length x).mp HX.out
    have q1 : ((0 : Int) ≤ x) = True := eq_true hnd.1
    have q2 : (x < (ns.length : Int)) = True := eq_true hnd.2
    have h6 := (O3.out.below.cell (World.block_lt_of_cell? w0 _ e6)).trans e6
    have h40 : w3.cell? ⟨g4, 0, none⟩ = some (.slice (some ad) ns.length c0) := (blk_cell BK43.out 0).trans rfl
    have h51 : w3.cell? ⟨g5, 1, none⟩ = some (.int .i64 x) := (blk_cell BK53.out 1).trans rfl
    obtain ⟨L, hLL⟩ : ∃ L, L = (rd_T49 ns x).f6 := ⟨_, rfl⟩
    have hmem : (∃ y, y ∈ ns ∧ L = y.f6) ∨ L = [] := by
      rcases ndR_cases ns x with h | h
      · exact .inl ⟨_, h, hLL⟩
      · exact .inr (hLL.trans h)
    have hlen : L.length ≤ 1048576 := by
      rcases hmem with ⟨y, hy, rfl⟩ | h
      · exact HFIT.out.list y hy
      · rw [h]; simp
    have hnm : ∀ e, e ∈ L → e.f0.size ≤ 1048576 := by
      intro e he
      rcases hmem with ⟨y, hy, rfl⟩ | h
      · exact HFIT.out.name y hy e he
      · rw [h] at he; simp at he
    have hpl := HPL.out
    change preL _ ((rd_T49 ns x).f6.map (fun e => (belowP p e.f0, e.f1))) = _ at hpl
    have hsub := HALL.out x HX.out
    change ∀ y, y ∈ (rd_T49 ns x).f6.map (·.f1) → _ at hsub
    rw [← hLL] at h6 HC6 hpl hsub
    have HLEN := Aside0.mk hlen
    have HNM := Aside0.mk hnm
    have HPL2 := Aside0.mk hpl
    have HSUB := Aside0.mk hsub
    clear e6 hLL hmem hlen hnm hpl HPL hsub hnd
    go_wp2
    go_loopw [23] (fun v23 wr => ∃ (i : Nat) (v : Value) (r1 r2 : List Wy), i ≤ L.length ∧ v23 = .int .i64 (i : Int) ∧ Aside0 (OutAt w0.heap.size w0 g wr (fun k => (P0 k ∧ k < w.heap.size) ∨ W2.heap.size ≤ k) v ((rows ++ [(p, x)]) ++ r1)) ∧ Aside0 (preL (preD (chW ns) d) ((L.map (fun e => (belowP p e.f0, e.f1))).drop i) = some r2 ∧ r1 ++ r2 = l) ∧ Aside0 (Kept w wr (fun k => P0 k ∨ k = g)) ∧ Aside0 (wr.heap[g4]? = some (.cells #[.slice (some ad) ns.length c0, .int .i64 room] 31 (0, 0))) ∧ Aside0 (wr.heap[g5]? = some (.cells #[.string p, .int .i64 x] 46 (0, 0))) ∧ Aside0 (W2.heap.size ≤ wr.heap.size)) (fun v23 _ => L.length - (intOf v23).toNat)
    case atStart => exact ⟨0, v3, [], l, Nat.zero_le _, rfl, ⟨by rw [List.append_nil]; exact O3.out⟩, ⟨by rw [List.drop_zero]; exact ⟨HPL2.out, rfl⟩⟩, K3, BK43, BK53, HS3⟩
    case round =>
      clear O3 K3 BK43 BK53 HS3 HPL2 h6 h40 h51
      obtain ⟨i, v, r1, r2, hi, rfl, O, HF, KK, BK4, BK5, HS⟩ := hrel
      by_cases hlt : i < L.length
      case neg =>
        have hil : i = L.length := by omega
        subst hil
        have p9 : decide ((L.length : Int) < (L.length : Int)) = false := by simp
        have HR : Aside0 (r1 = l) := ⟨by
          have h := HF.out
          rw [List.drop_eq_nil_of_le (by simp)] at h
          have e : r2 = [] := by have h1 := h.1; unfold preL at h1; injection h1 with h1; exact h1.symm
          rw [← h.2, e, List.append_nil]⟩
        clear hlt hi
        go_wp2
        go_end0
        exact ⟨_, v, rfl, by have h := O.out.weak (P1 := fun k => P0 k ∨ w.heap.size ≤ k) (fun k hk => hk.elim (fun h => .inl h.1) (fun h => .inr (Nat.le_trans HS2.out h))); rw [HR.out, List.append_assoc] at h; exact h, KK.out⟩
      case pos =>
        have HLT := Aside0.mk hlt
        have p9 : decide ((i : Int) < (L.length : Int)) = true := decide_eq_true (by omega)
        have p8 : ((i : Int) < (L.length : Int)) = True := eq_true (by omega)
        have p7 : ((0 : Int) ≤ (i : Int)) = True := eq_true (by omega)
        obtain ⟨bd, rfl, hn0, hn1⟩ := at_T80 (Kd.C_below HC6.out O.out.below) (i : Int) (by omega) (by omega)
        rw [Int.toNat_natCast] at hn0 hn1
        have hLi : rd_T80 L (i : Int) = L[i] := by unfold rd_T80; simp [List.getD, hlt]
        rw [hLi] at hn0 hn1
        have hF := HF.out
        rw [List.drop_eq_getElem_cons (by simpa using hlt), List.getElem_map] at hF
        have hin := HSUB.out L[i].f1 (List.mem_map.mpr ⟨L[i], List.getElem_mem hlt, rfl⟩)
        have hnm := HNM.out L[i] (List.getElem_mem hlt)
        generalize L[i].f0 = nm at hn0 hF hnm
        generalize L[i].f1 = nd at hn1 hF hin
        obtain ⟨y1, y2, hy1, hy2, hy3⟩ := preL_cons hF.1
        have HY1 := Aside0.mk hy1
        have HY2 := Aside0.mk hy2
        have HY3 : Aside0 ((r1 ++ y1) ++ y2 = l) := ⟨by rw [List.append_assoc, ← hy3]; exact hF.2⟩
        have HIN := Aside0.mk hin
        have HPS : Aside0 (p.size + nm.size + 1 + d * 1048577 ≤ 1000000000) := ⟨by have := HSZ.out; have e : (d + 1) * 1048577 = d * 1048577 + 1048577 := Nat.succ_mul d 1048577; omega⟩
        have HBel := Aside0.mk (fun W => impl_below.calls p nm (belowP p nm) W (below_f p nm (by have := HPS.out; omega) (by have := HPS.out; omega)))
        have hw1 : IntKind.i64.wrap ((i : Int) + 1) = ((i + 1 : Nat) : Int) := wrap_upM hlt (by have := HLEN.out; omega)
        have HW1 := Aside0.mk hw1
        clear hLi hlt hi hF hin hnm hy1 hy2 hy3 HF
        go_upto_region 6 with (fail)
        have hb5 : Below wr.heap.size wr (wr.alloc (.cells #[.string nm, .int .i64 nd] 80 (0, 0))) := below_alloc (Below.refl _ _) _
        have bk6 := blk_new wr (.cells #[.string nm, .int .i64 nd] 80 (0, 0))
        obtain ⟨g6, hg6⟩ : ∃ g, g = wr.heap.size := ⟨_, rfl⟩
        obtain ⟨W5, hW5⟩ : ∃ W, W = wr.alloc (.cells #[.string nm, .int .i64 nd] 80 (0, 0)) := ⟨_, rfl⟩
        rw [← hW5] at hb5 bk6
        rw [← hg6] at bk6
        rw [← hW5, ← hg6]
        have HG6 : Aside0 (W2.heap.size ≤ g6 ∧ wr.heap.size = g6 ∧ g < W2.heap.size) := ⟨by have := HS.out; omega, hg6.symm, by have := HGL.out; have := HS2.out; omega⟩
        have O5 := Aside0.mk (O.out.bound.step (by have := HG.out; have := HGL.out; have := HS2.out; have := HS.out; omega) hb5)
        have K5 := Aside0.mk (KK.out.below hb5)
        have BK45 := Aside0.mk (blk_below BK4.out hb5)
        have BK55 := Aside0.mk (blk_below BK5.out hb5)
        have BK65 := Aside0.mk bk6
        have HS5 : Aside0 (wr.heap.size ≤ W5.heap.size) := ⟨hb5.size⟩
        clear hb5 bk6 hW5 hg6 O KK BK4 BK5 hn0 hn1
        have HN4 : Aside0 (¬ (((P0 g4 ∧ g4 < w.heap.size) ∨ W2.heap.size ≤ g4) ∧ g4 < wr.heap.size ∨ g4 = g)) := ⟨fun h => by have h1 := HG45.out; have h2 := HGL.out; rcases h with ⟨h3 | h3, h4⟩ | h3; have := h3.2; omega; omega; omega⟩
        have HN5 : Aside0 (¬ (((P0 g5 ∧ g5 < w.heap.size) ∨ W2.heap.size ≤ g5) ∧ g5 < wr.heap.size ∨ g5 = g)) := ⟨fun h => by have h1 := HG45.out; have h2 := HGL.out; rcases h with ⟨h3 | h3, h4⟩ | h3; have := h3.2; omega; omega; omega⟩
        have HN6 : Aside0 (¬ (((P0 g6 ∧ g6 < w.heap.size) ∨ W2.heap.size ≤ g6) ∧ g6 < wr.heap.size ∨ g6 = g)) := ⟨fun h => by have h1 := HG6.out; rcases h with ⟨h3, h4⟩ | h3; omega; omega⟩
        have HLN2 : Aside0 (((rows ++ [(p, x)]) ++ r1).length + y1.length ≤ 1000000000) := ⟨by have h := congrArg List.length HY3.out; simp only [List.length_append, List.length_singleton] at h ⊢; have := HLN.out; omega⟩
        have HPG : Aside0 (¬ (fun k => ((P0 k ∧ k < w.heap.size) ∨ W2.heap.size ≤ k) ∧ k < wr.heap.size) g) := ⟨fun h => h.1.elim (fun h => HP.out h.1) (fun h => by have := HG6.out; omega)⟩
        have HPZ : Aside0 ((belowP p nm).size + d * 1048577 ≤ 1000000000) := ⟨by have := belowP_size p nm; have := HPS.out; omega⟩
        have HB5 : Aside0 (w0.heap.size ≤ W5.heap.size) := ⟨O5.out.below.size⟩
        go_wp2_with fail
        go_region_held3 (fun W => W.cell? ⟨g4, 0, none⟩ = some (.slice (some ad) ns.length c0) ∧ W.cell? ⟨g4, 1, none⟩ = some (.int .i64 room) ∧ W.cell? ⟨g5, 0, none⟩ = some (.string p) ∧ W.cell? ⟨g6, 0, none⟩ = some (.string nm) ∧ W.cell? ⟨g6, 1, none⟩ = some (.int .i64 nd)) (first | exact keepW (blk_drew BK45.out) (blk_drew BK55.out) (blk_drew BK65.out) | exact keepW (blk_kept (blk_below (blk_drew BK45.out) hd) hk6 HN4.out) (blk_kept (blk_below (blk_drew BK55.out) hd) hk6 HN5.out) (blk_kept (blk_below (blk_drew BK65.out) hd) hk6 HN6.out) | exact keepW (blk_below (blk_drew BK45.out) hd) (blk_below (blk_drew BK55.out) hd) (blk_below (blk_drew BK65.out) hd)) (first | (go_at_call 50; refine (HBel.out _).mono ?_; rintro e w2 ⟨rfl, hd0⟩; have hd := below_drawn0 hd0) | (go_at_call 31; refine (HIH.out (belowP p nm) nd (fun k => ((P0 k ∧ k < w.heap.size) ∨ W2.heap.size ≤ k) ∧ k < wr.heap.size) v ((rows ++ [(p, x)]) ++ r1) y1 w2 HY1.out HIN.out HPZ.out HLN2.out HPG.out (O5.out.step HB5.out (below_step (below_drew1 (Below.refl _ _)) hd))).mono ?_; rintro e w6 ⟨u6, v6, rfl, ho6, hk6⟩))
        have hd2 : Below W5.heap.size W5 w2 := below_step (below_drew1 (Below.refl _ _)) hd
        have HSZ6 : Aside0 (W2.heap.size ≤ w2.heap.size ∧ w2.heap.size ≤ w6.heap.size) := ⟨Nat.le_trans HS.out (Nat.le_trans HS5.out hd2.size), hk6.1⟩
        have O6 : Aside0 (OutAt w0.heap.size w0 g w6 (fun k => (P0 k ∧ k < w.heap.size) ∨ W2.heap.size ≤ k) v6 ((rows ++ [(p, x)]) ++ (r1 ++ y1))) := ⟨by rw [← List.append_assoc]; exact ho6.weak (fun k hk => hk.elim (fun h => h.1) (fun h => .inr (Nat.le_trans HSZ6.out.1 h)))⟩
        have K6 : Aside0 (Kept w w6 (fun k => P0 k ∨ k = g)) := ⟨(K5.out.below hd2).then_ hk6 (fun k hk => hk.elim (fun h => h.1.elim (fun h => .inl (.inl h.1)) (fun h => .inr (Nat.le_trans HS2.out h))) (fun h => .inl (.inr h)))⟩
        have BK46 := Aside0.mk (blk_kept (blk_below BK45.out hd2) hk6 HN4.out)
        have BK56 := Aside0.mk (blk_kept (blk_below BK55.out hd2) hk6 HN5.out)
        have HS6 : Aside0 (W2.heap.size ≤ w6.heap.size) := ⟨Nat.le_trans HSZ6.out.1 HSZ6.out.2⟩
        clear hd2 hd hd0 ho6 hk6 BK45 BK55 BK65 O5 K5
        go_wp2
        go_roundw
        case rel => exact ⟨i + 1, v6, r1 ++ y1, y2, HLT.out, by first | rfl | go_num, O6, ⟨HY2.out, HY3.out⟩, K6, BK46, BK56, HS6⟩
        case measure => have := HLT.out; simp [intOf]; omega
set_option maxHeartbeats 4000000 in
set_option maxRecDepth 100000 in
theorem ways_calls (room : Int) (A0 : Option Addr) (c0 : Nat) (ns : List Nd) (w : World) (hr0 : Kd.C k49 w A0 ns.length ns) (hn : ns.length ≤ 1000) (hfit : FsFit ns) (hall : ∀ x, x ∈ allN ns.length → ∀ y, y ∈ scN ns x → y ∈ allN ns.length) (node : Int) (hnode : node ∈ allN ns.length) (d : Nat) (hd : d ≤ 100) (r : List Wy) (h : preD (chW ns) d ((⟨#[46]⟩ : ByteArray), node) = some r) (hl : r.length ≤ 1000000000) :
    Calls Tryd.prog 18 #[.agg #[.slice A0 ns.length c0, .int .i64 room], .int .i64 node, .bool false] w fun e w' => ∃ v, e = .returned v ∧ Kd.R kW 46 w' w.heap.size (fun _ => True) v r ∧ Below w.heap.size w w' := by
  have hu1 := Tryd.underlying31
  have hu2 := Tryd.underlying46
  have hu3 := Tryd.underlying43
  have HW := Aside0.mk (fun (g : Nat) (hg : w.heap.size ≤ g) => walk_calls room A0 c0 ns w hr0 hn hfit hall g hg d ⟨#[46]⟩ node)
  have HH := Aside0.mk h
  have HND := Aside0.mk hnode
  have HL := Aside0.mk hl
  have HD := Aside0.mk hd
  clear hr0 hn hfit hall hnode hl hd h
  go_enter Tryd.func18, Tryd.ntmps18
  go_upto_region 2 with (fail)
  obtain ⟨W2, hW2⟩ : ∃ W, W = ((w.alloc (.cells #[.slice A0 ns.length c0, .int .i64 room] 31 (0, 0))).alloc (.cells #[] 46 (0, 0))).alloc (.cells #[.slice (some ⟨w.heap.size + 1, 0, none⟩) 0 0] 43 (0, 0)) := ⟨_, rfl⟩
  have hb2 : Below w.heap.size w W2 := by rw [hW2]; exact below_alloc (below_alloc (below_alloc (Below.refl _ _) _) _) _
  have bk3 : W2.heap[w.heap.size]? = some (.cells #[.slice A0 ns.length c0, .int .i64 room] 31 (0, 0)) := by rw [hW2]; exact blk_alloc (blk_alloc (blk_new _ _) _) _
  have bk8 : W2.heap[w.heap.size + 1]? = some (.cells #[] 46 (0, 0)) := by rw [hW2]; have h := blk_new (w.alloc (.cells #[.slice A0 ns.length c0, .int .i64 room] 31 (0, 0))) (.cells #[] 46 (0, 0)); rw [World.size_alloc] at h; exact blk_alloc h _
  have bk7 : W2.heap[w.heap.size + 1 + 1]? = some (.cells #[.slice (some ⟨w.heap.size + 1, 0, none⟩) 0 0] 43 (0, 0)) := by rw [hW2]; have h := blk_new ((w.alloc (.cells #[.slice A0 ns.length c0, .int .i64 room] 31 (0, 0))).alloc (.cells #[] 46 (0, 0))) (.cells #[.slice (some ⟨w.heap.size + 1, 0, none⟩) 0 0] 43 (0, 0)); rw [World.size_alloc, World.size_alloc] at h; exact h
  have HO : Aside0 (OutAt w.heap.size w (w.heap.size + 1 + 1) W2 (fun k => k = w.heap.size + 1) (.slice (some ⟨w.heap.size + 1, 0, none⟩) 0 0) []) := ⟨⟨bk7, ⟨fun k hk => by simp [Value.ownBlock] at hk; exact hk.symm, [], ⟨rfl, .inr ⟨w.heap.size + 1, 0, #[], rfl, by omega, bk8, Nat.le_refl _, by simp [maxLen], rfl, rfl⟩⟩, Reps.none _ _⟩, hb2⟩⟩
  have h30 : W2.cell? ⟨w.heap.size, 0, none⟩ = some (.slice A0 ns.length c0) := (blk_cell bk3 0).trans rfl
  have h31 : W2.cell? ⟨w.heap.size, 1, none⟩ = some (.int .i64 room) := (blk_cell bk3 1).trans rfl
  rw [← hW2]
  clear hW2 hb2 bk3 bk8 bk7
  go_wp2_with fail
  refine (HW.out (w.heap.size + 1 + 1) (by omega) _ _ [] r W2 HH.out HND.out (by have := HD.out; have e : (⟨#[46]⟩ : ByteArray).size = 1 := rfl; omega) (by have := HL.out; simpa using this) (by omega) HO.out).mono ?_; rintro e w3 ⟨u3, v3, rfl, ho3, -⟩
  rw [List.nil_append] at ho3
  have O3 := Aside0.mk ho3
  obtain ⟨A3, c3, rfl⟩ := Kd.R_slice ho3.row
  have h7 : w3.cell? ⟨w.heap.size + 1 + 1, 0, none⟩ = some (.slice A3 r.length c3) := (blk_cell ho3.box 0).trans rfl
  clear ho3 h30 h31
  go_wp2
  go_ret
  exact ⟨_, rfl, Kd.R_mono O3.out.row (fun _ _ => trivial), O3.out.below⟩

end Go.Proofs.YthalkpflbbpniaaDoor.Q

/- The tree of a good file system: what both sides know of it. -/
namespace Go.Proofs.YthalkpflbbpniaaDoor.Q
open Go.RowKit Go.Proofs.YthalkpflbbpniaaDoorW.PrintWords Go.Proofs.YthalkpflbbpniaaDoorW.PrintLast Go.Proofs.YthalkpflbbpniaaDoorW.PrintMore
attribute [local go_sem] max2_int min2_int max_two min_two max_three min_three max_four min_four   -- for this text's walks alone
set_option linter.unusedVariables false
set_option linter.unusedSimpArgs false

theorem tree_of {ns : List Nd} {room : Int} (h : SGood ns room) : TreeOk (scN ns) (dirN ns) (allN ns.length) := by
  have hn : ∀ x, x ∈ ns → nodeB ns x = true := fun x hx => ((nodeB_iff ns x).mp (h.node x hx)).1
  refine ⟨zero_all h.len.1, by unfold dirN; rw [h.top]; rfl, fun x _ y hy => (good_sc hn x y hy).1, fun x hx => by obtain ⟨y, hy⟩ := List.exists_mem_of_ne_nil _ hx; exact (good_sc hn x y hy).2, by rw [← tgts_all]; exact (h.tail 0 (zero_all h.len.1)).1 rfl, fun y hy hd => ?_, fun y hy hd => (h.tail y hy).2.2 (by unfold dirN at hd; unfold freeN; have e : (ndR ns y).f0 = 2 := (by simpa using hd); simp [e])⟩
  rw [← tgts_all]
  by_cases hz : y = 0
  · rw [(h.tail y hy).1 hz]; omega
  · rw [(h.tail y hy).2.1 hz hd]; omega
def gNode (ns : List Nd) (room node : Int) : Bool := fitB ns && (sGoodB ns room && inB 0 ((ns.length : Int) - 1) node)
structure GNode (ns : List Nd) (room node : Int) : Prop where
  fit : FsFit ns
  good : SGood ns room
  inn : node ∈ allN ns.length
theorem gNode_ok {ns : List Nd} {room node : Int} (h : gNode ns room node = true) : GNode ns room node := by
  unfold gNode at h
  simp only [Bool.and_eq_true] at h
  have h3 := (inB_iff _ _ _).mp h.2.2
  exact ⟨fitB_ok h.1, (sGoodB_iff ns room).mp h.2.1, (allN_mem _ _).mpr ⟨h3.1, by omega⟩⟩
def bytesOf (ns : List Nd) (l : List Int) : Int := (l.map (fun k => ((ndR ns k).f5.size : Int))).sum
end Go.Proofs.YthalkpflbbpniaaDoor.Q

/- Ways below a node, plainly: each tells its node; the reference's l7Walk and l7At. -/
namespace Go.Proofs.YthalkpflbbpniaaDoor.Q
open Go.RowKit Go.Proofs.YthalkpflbbpniaaDoorW.PrintWords Go.Proofs.YthalkpflbbpniaaDoorW.PrintLast Go.Proofs.YthalkpflbbpniaaDoorW.PrintMore
attribute [local go_sem] max2_int min2_int max_two min_two max_three min_three max_four min_four   -- for this text's walks alone
set_option linter.unusedVariables false
set_option linter.unusedSimpArgs false

/-- The node that names lead to. -/
def goN (ns : List Nd) : Int → List ByteArray → Int → Prop
  | a, [], y => a = y
  | a, n :: N, y => ∃ e, e ∈ (ndR ns a).f6 ∧ e.f0 = n ∧ goN ns e.f1 N y
theorem preD_way (ns : List Nd) : ∀ (d : Nat) (a : Wy) (r : List Wy), preD (chW ns) d a = some r → ∀ y, y ∈ r → ∃ N, goN ns a.2 N y.2 ∧ y.1 = N.foldl belowP a.1
  | 0, _, _, e => by cases e
  | d + 1, a, r, e => by
    intro y hy
    unfold preD at e
    cases hz : preL (preD (chW ns) d) (chW ns a) with
    | none => rw [hz] at e; cases e
    | some z =>
      rw [hz] at e
      injection e with e
      subst e
      rcases List.mem_cons.mp hy with rfl | h1
      · exact ⟨[], rfl, rfl⟩
      · obtain ⟨b, hb, N, h2, h3⟩ := preL_from (preD (chW ns) d) (fun b y => ∃ N, goN ns b.2 N y.2 ∧ y.1 = N.foldl belowP b.1) (fun b r hb y hy => preD_way ns d b r hb y hy) (chW ns a) z hz y h1
        unfold chW at hb
        obtain ⟨en, he, rfl⟩ := List.mem_map.mp hb
        exact ⟨en.f0 :: N, ⟨en, he, rfl, h2⟩, h3⟩
/-- Good names in every row of entries, none twice. -/
structure NamesIn (ns : List Nd) : Prop where
  ok : ∀ y e, e ∈ (ndR ns y).f6 → nameOkB e.f0 = true
  one : ∀ y (i j : Nat) (hi : i < (ndR ns y).f6.length) (hj : j < i), (ndR ns y).f6[j].f0 ≠ (ndR ns y).f6[i].f0
theorem entsB_up (ns : List Nd) (l : List En) (h : entsB ns l l.length = true) : ∀ (d j : Nat) (hi : j + d + 1 < l.length), Op.bytesLess l[j].f0.toList l[j + d + 1].f0.toList = true := by
  have step : ∀ (i : Nat) (hi : i + 1 < l.length), Op.bytesLess l[i].f0.toList l[i + 1].f0.toList = true := by
    intro i hi
    have k := (entsB_iff ns l l.length).mp h (i + 1) hi
    unfold entB upB at k
    rw [Bool.and_eq_true, Bool.and_eq_true] at k
    have k1 := k.2.1
    rw [show (((i + 1 : Nat) : Int) - 1) = ((i : Nat) : Int) by omega, show enR l ((i : Nat) : Int) = l[i] from rdEn l i (by omega), show enR l ((i + 1 : Nat) : Int) = l[i + 1] from rdEn l (i + 1) hi] at k1
    simpa using k1
  intro d
  induction d with
  | zero => intro j hi; exact step j hi
  | succ d ih => intro j hi; exact less_trans _ _ _ (ih j (by omega)) (step (j + d + 1) hi)
theorem ndR_mem {ns : List Nd} {y : Int} {e : En} (h : e ∈ (ndR ns y).f6) : ndR ns y ∈ ns := by
  unfold ndR rd_T49 at h ⊢
  by_cases hk : y.toNat < ns.length
  · rw [List.getD_eq_getElem?_getD, List.getElem?_eq_getElem hk]; exact List.getElem_mem hk
  · rw [List.getD_eq_getElem?_getD, List.getElem?_eq_none (by omega)] at h
    exact absurd h (by simp [z49])
theorem nodeB_ents {ns : List Nd} {x : Nd} (h : nodeB ns x = true) (e : En) (he : e ∈ x.f6) : entsB ns x.f6 x.f6.length = true := by
  have hne : x.f6.length ≠ 0 := fun k => by rw [List.eq_nil_of_length_eq_zero k] at he; exact absurd he (by simp)
  unfold nodeB at h
  by_cases h0 : x.f0 = 0
  · rw [if_pos h0] at h
    unfold freeB at h
    simp only [Bool.and_eq_true, beq_iff_eq] at h
    exact absurd h.2.2.2.2.2.2 hne
  · rw [if_neg h0] at h
    unfold frontB at h
    simp only [Bool.and_eq_true, Bool.or_eq_true, beq_iff_eq] at h
    have h2 : x.f0 = 2 := h.1.2.2.2.2.resolve_right hne
    have hb := h.2
    unfold backB at hb
    rw [if_neg (by omega), if_neg (by omega), if_pos h2, Bool.and_eq_true] at hb
    exact hb.1
theorem names_in {ns : List Nd} {room : Int} (h : SGood ns room) : NamesIn ns := by
  have hn : ∀ x, x ∈ ns → nodeB ns x = true := fun x hx => ((nodeB_iff ns x).mp (h.node x hx)).1
  refine ⟨fun y e he => ?_, fun y i j hi hj hq => ?_⟩
  · have hx := ndR_mem he
    obtain ⟨i, hi, rfl⟩ := List.getElem_of_mem he
    have k := (entsB_iff ns _ _).mp (nodeB_ents (hn _ hx) _ he) i hi
    unfold entB at k
    rw [Bool.and_eq_true, show enR (ndR ns y).f6 ((i : Nat) : Int) = (ndR ns y).f6[i] from rdEn _ i hi] at k
    exact k.1
  · have he := List.getElem_mem hi
    have k := entsB_up ns _ (nodeB_ents (hn _ (ndR_mem he)) _ he) (i - j - 1) j (by omega)
    have e : j + (i - j - 1) + 1 = i := by omega
    simp only [e] at k
    rw [hq, less_irrefl] at k
    cases k
theorem goN_ok {ns : List Nd} (h : NamesIn ns) : ∀ (N : List ByteArray) (a y : Int), goN ns a N y → ∀ n, n ∈ N → nameOkB n = true
  | [], _, _, _, n, hn => absurd hn (by simp)
  | m :: N, a, y, ⟨e, he, hm, hg⟩, n, hn => by
    rcases List.mem_cons.mp hn with rfl | hn
    · rw [← hm]; exact h.ok a e he
    · exact goN_ok h N _ y hg n hn
theorem goN_in {ns : List Nd} (hall : ∀ x, x ∈ allN ns.length → ∀ y, y ∈ scN ns x → y ∈ allN ns.length) : ∀ (N : List ByteArray) (a y : Int), a ∈ allN ns.length → goN ns a N y → y ∈ allN ns.length
  | [], _, _, ha, h => h ▸ ha
  | _ :: N, a, y, ha, ⟨e, he, _, hg⟩ => goN_in hall N _ y (hall a ha _ (List.mem_map.mpr ⟨e, he, rfl⟩)) hg
/-- The text of a way that is put together name by name. -/
theorem fold_way : ∀ (N : List ByteArray) (M : List ByteArray) (p : ByteArray), p.data.toList = wayT M → (∀ n, n ∈ M ++ N → nameOkB n = true) → (N.foldl belowP p).data.toList = wayT (M ++ N)
  | [], M, p, h, _ => by simpa using h
  | n :: N, M, p, h, hn => by
    have hM : ∀ m, m ∈ M → nameOkB m = true := fun m hm => hn m (List.mem_append_left _ hm)
    have k := fold_way N (M ++ [n]) (belowP p n) ?_ (by simpa using hn)
    · rw [List.foldl_cons, k, List.append_assoc]; rfl
    · unfold belowP
      by_cases hm : M = []
      · subst hm
        rw [wayT_nil] at h
        rw [if_pos (by rw [ByteArray.toList_eq]; exact h)]; rfl
      · have hne : ¬ p.toList = [46] := fun e => hm (wayT_inj hM (N := []) (by simp) (by rw [← h, ← ByteArray.toList_eq, e]; rfl))
        rw [if_neg hne, wayT_ne (by simp), dataL_append, show dataL [n] = [n.data.toList] from rfl, joinT_snoc _ _ (fun e => hm (by simpa [dataL] using e)), ← wayT_ne hm, ← h]
        simp
theorem parts_dot : partsL ⟨#[46]⟩ = [⟨#[46]⟩] := by
  have h : slashL ⟨#[46]⟩ = [⟨#[46]⟩] := map_data_inj ((slash_data _).trans (spl_noc 47 [46] (by decide)))
  unfold partsL
  rw [h]
  rfl
theorem parts_way {q : ByteArray} {N : List ByteArray} (hN : ∀ p ∈ N, nameOkB p = true) (hne : N ≠ []) (h : q.data.toList = wayT N) : partsL q = N := by
  have hw := names_way hN h
  have hd : q.toList ≠ [46] := fun e => hne (by rw [← hw]; exact namesW_nil.mpr e)
  rw [namesW_ne hd] at hw
  rw [parts_names (by rw [hw]; exact hN), hw]
theorem join_len : ∀ (N : List ByteArray), N ≠ [] → (∀ p, p ∈ N → nameOkB p = true) → N.length ≤ (joinT (dataL N)).length
  | [], h, _ => absurd rfl h
  | [a], _, h => by have := (name_size (h a (by simp))).1; rw [show dataL [a] = [a.data.toList] from rfl]; show 1 ≤ a.data.toList.length; rw [data_length]; exact this
  | a :: b :: r, _, h => by
    have k := join_len (b :: r) (by simp) (fun p hp => h p (List.mem_cons_of_mem _ hp))
    rw [show dataL (a :: b :: r) = a.data.toList :: dataL (b :: r) from rfl, joinT_cons _ _ (by simp [dataL])]
    simp only [List.length_append, List.length_cons] at k ⊢
    omega
theorem l3At_loop (l : List En) (hl : l.length ≤ 1048576) (i : Nat) (hi : i < l.length) (h : ∀ j (hj : j < i), l[j].f0 ≠ l[i].f0) (d : Nat) : ∀ j : Nat, j + d = i → Ev (fun k => spec_l3At.l0 k l[i].f0 l (l.length : Int) (j : Int)) l[i].f1 := by
  induction d with
  | zero =>
    intro j hj
    obtain rfl : j = i := by omega
    refine Ev.step (f := fun _ => some l[j].f1) (fun k => ?_) (Ev.now _)
    simp only [spec_l3At.l0]
    rw [if_pos (by omega), if_pos (by omega), if_pos (by omega), rdEn l j hi, if_pos rfl]
  | succ d ih =>
    intro j hj
    have hlt : j < l.length := by omega
    have hne := h j (by omega)
    refine Ev.step (fun k => ?_) (ih (j + 1) (by omega))
    simp only [spec_l3At.l0]
    rw [if_pos (by omega), if_pos (by omega), if_pos (by omega), rdEn l j hlt, if_neg (fun e => hne (by rw [ByteArray.toList_eq, ByteArray.toList_eq] at e; exact Go.WideShapes.bytes_inj e)), step_n (i := j) (n := l.length) hlt (by omega)]
theorem l7At_loop {ns : List Nd} (room : Int) (hf : FsFit ns) (hn : NamesIn ns) (hall : ∀ x, x ∈ allN ns.length → ∀ y, y ∈ scN ns x → y ∈ allN ns.length) (L : List ByteArray) (hL : L.length ≤ 1000000000) (hok : ∀ p, p ∈ L → nameOkB p = true) (y : Int) (d : Nat) : ∀ (i : Nat) (a : Int), i + d = L.length → a ∈ allN ns.length → goN ns a (L.drop i) y → Ev (fun k => spec_l7At.l0 k a L (L.length : Int) (i : Int) ns room) y := by
  induction d with
  | zero =>
    intro i a hi ha hg
    rw [List.drop_of_length_le (by omega)] at hg
    have e : a = y := hg
    subst e
    refine Ev.step (f := fun _ => some a) (fun k => ?_) (Ev.now _)
    simp only [spec_l7At.l0]; rw [if_neg (by omega)]
  | succ d ih =>
    intro i a hi ha hg
    have hlt : i < L.length := by omega
    rw [List.drop_eq_getElem_cons hlt] at hg
    obtain ⟨e, he, hq, hg⟩ := hg
    obtain ⟨a0, a1⟩ := (allN_mem _ _).mp ha
    have hl := hf.list _ (ndR_mem he)
    have hin := hall a ha e.f1 (List.mem_map.mpr ⟨e, he, rfl⟩)
    obtain ⟨j, hj, rfl⟩ := List.getElem_of_mem he
    have k := l3At_loop (ndR ns a).f6 hl j hj (fun m hm => hn.one a j m hj hm) j 0 (by omega)
    have hno : ¬ L[i].toList = [46] := fun e => name_dot (hok _ (List.getElem_mem hlt)) (by rw [← ByteArray.toList_eq]; exact e)
    refine Ev.step (f := fun k => (spec_l3At.f k (ndR ns a).f6 L[i]).bind fun t => spec_l7At.l0 k t L (L.length : Int) ((i + 1 : Nat) : Int) ns room) (fun k => ?_) (Ev.bind (a := ((ndR ns a).f6[j]).f1) ?_ (ih (i + 1) _ (by omega) hin hg))
    · simp only [spec_l7At.l0]
      rw [if_pos (by omega), if_pos (by omega), if_pos (by omega), rdS _ _ hlt, if_neg hno, if_pos a0, if_pos a1, step_n (i := i) (n := L.length) hlt (by omega)]
    · rw [← hq]; exact k
theorem l7At_ev {ns : List Nd} (room : Int) (hf : FsFit ns) (hn : NamesIn ns) (hall : ∀ x, x ∈ allN ns.length → ∀ y, y ∈ scN ns x → y ∈ allN ns.length) (a y : Int) (N : List ByteArray) (ha : a ∈ allN ns.length) (hg : goN ns a N y) (q : ByteArray) (hq : q = N.foldl belowP ⟨#[46]⟩) (hs : q.size ≤ 1000000000) : Ev (fun k => spec_l7At.f k ns room a q) y := by
  have hok := goN_ok hn N a y hg
  have hw : q.data.toList = wayT N := by rw [hq, fold_way N [] ⟨#[46]⟩ rfl (by simpa using hok)]; rfl
  unfold spec_l7At.f
  refine Ev.bind (l2Parts_ev q (by omega)) ?_
  by_cases hne : N = []
  · subst hne
    cases hg
    obtain rfl : q = ⟨#[46]⟩ := hq
    rw [parts_dot]
    refine Ev.step (f := fun k => spec_l7At.l0 k a [(⟨#[46]⟩ : ByteArray)] 1 1 ns room) (fun k => ?_) (Ev.step (f := fun _ => some a) (fun k => ?_) (Ev.now _))
    · simp only [spec_l7At.l0]
      rw [if_pos (by decide), if_pos (by decide), if_pos (by decide), if_pos (show (rdOf ByteArray.empty [(⟨#[46]⟩ : ByteArray)] 0).toList = [46] from by rw [ByteArray.toList_eq]; rfl)]
      rw [show wrap64 (0 + 1) = 1 from by unfold wrap64; omega]
      rfl
    · simp only [spec_l7At.l0]; rw [if_neg (by decide)]
  · have hp := parts_way hok hne hw
    rw [hp]
    have hlen : N.length ≤ 1000000000 := by
      have hz := join_len N hne hok
      have : q.size = (wayT N).length := by rw [← hw, data_length]
      rw [wayT_ne hne] at this
      omega
    exact l7At_loop room hf hn hall N hlen hok y N.length 0 a (by omega) ha (by rw [List.drop_zero]; exact hg)
theorem belowP_dot (p nm : ByteArray) (h : p.toList = [46]) : belowP p nm = nm := if_pos h
theorem belowP_not (p nm : ByteArray) (h : ¬ p.toList = [46]) : belowP p nm = (p ++ (⟨#[47]⟩ : ByteArray)) ++ nm := if_neg h
/-- The reference's own walk: the ways, in the order of the tree. -/
theorem l7Walk_ev {ns : List Nd} (room : Int) (hf : FsFit ns) (hall : ∀ x, x ∈ allN ns.length → ∀ y, y ∈ scN ns x → y ∈ allN ns.length) : ∀ (d : Nat) (a : Wy) (r : List Wy), preD (chW ns) d a = some r → a.2 ∈ allN ns.length → a.1.size + d * 1048577 ≤ 1000000000 → r.length ≤ 1000000000 → Ev (fun k => spec_l7Walk.f k ns room a.2 a.1 false) (r.map (·.1))
  | 0, _, _, e, _, _, _ => by cases e
  | d + 1, a, r, e, ha, hs, hr => by
    obtain ⟨p, x⟩ := a
    have hd1 : (d + 1) * 1048577 = d * 1048577 + 1048577 := Nat.succ_mul d 1048577
    change x ∈ allN ns.length at ha
    change p.size + (d + 1) * 1048577 ≤ 1000000000 at hs
    obtain ⟨a0, a1⟩ := (allN_mem _ _).mp ha
    unfold preD at e
    cases hz : preL (preD (chW ns) d) (chW ns (p, x)) with
    | none => rw [hz] at e; cases e
    | some z =>
      rw [hz] at e
      injection e with e
      subst e
      rw [List.length_cons] at hr
      have hl : (ndR ns x).f6.length ≤ 1048576 := by
        cases hq : (ndR ns x).f6 with
        | nil => simp
        | cons e0 l0 => rw [← hq]; exact hf.list _ (ndR_mem (e := e0) (by rw [hq]; simp))
      have key : ∀ (m i : Nat) (out zz : List Wy), i + m = (ndR ns x).f6.length → preL (preD (chW ns) d) (((ndR ns x).f6.drop i).map (fun e => (belowP p e.f0, e.f1))) = some zz → out.length + zz.length ≤ 1000000000 →
          Ev (fun k => spec_l7Walk.l0 k p false (out.map (fun a : Wy => a.1)) (ndR ns x).f6 ((ndR ns x).f6.length : Int) (i : Int) ns room) (p :: (out ++ zz).map (·.1)) := by
        intro m
        induction m with
        | zero =>
          intro i out zz hi he ho
          rw [List.drop_of_length_le (by omega)] at he
          unfold preL at he
          injection he with he
          subst he
          refine Ev.step (f := fun _ => some (p :: (out ++ ([] : List Wy)).map (fun a : Wy => a.1))) (fun k => ?_) (Ev.now _)
          simp only [spec_l7Walk.l0]
          have ho2 : out.length ≤ 1000000000 := by simpa using ho
          rw [if_neg (by omega), if_neg (by simp), Option.bind_some, if_pos (by simp; omega)]
          simp
        | succ m ih =>
          intro i out zz hi he ho
          have hlt : i < (ndR ns x).f6.length := by omega
          rw [List.drop_eq_getElem_cons hlt, List.map_cons] at he
          have hen : (ndR ns x).f6[i] ∈ (ndR ns x).f6 := List.getElem_mem hlt
          have hnm := hf.name _ (ndR_mem hen) _ hen
          have hin := hall x ha _ (List.mem_map.mpr ⟨_, hen, rfl⟩)
          have hps := belowP_size p ((ndR ns x).f6[i]).f0
          have hrd : rd_T80 (ndR ns x).f6 (i : Int) = (ndR ns x).f6[i] := rdEn _ i hlt
          unfold preL at he
          cases hx : preD (chW ns) d (belowP p ((ndR ns x).f6[i]).f0, ((ndR ns x).f6[i]).f1) with
          | none => rw [hx] at he; cases he
          | some z1 =>
            rw [hx] at he
            cases hy : preL (preD (chW ns) d) (((ndR ns x).f6.drop (i + 1)).map (fun e => (belowP p e.f0, e.f1))) with
            | none => rw [hy] at he; cases he
            | some z2 =>
              rw [hy] at he
              injection he with he
              subst he
              rw [List.length_append] at ho
              have k1 := l7Walk_ev room hf hall d _ z1 hx hin (by show (belowP p _).size + d * 1048577 ≤ _; omega) (by omega)
              have k2 := ih (i + 1) (out ++ z1) z2 (by omega) hy (by rw [List.length_append]; omega)
              rw [List.append_assoc, List.map_append (f := fun a : Wy => a.1) (l₁ := out) (l₂ := z1)] at k2
              refine Ev.step (f := fun k => (spec_l7Walk.f k ns room ((ndR ns x).f6[i]).f1 (belowP p ((ndR ns x).f6[i]).f0) false).bind fun t => if (out.map (fun a : Wy => a.1)).length + t.length < 8796093022208 then spec_l7Walk.l0 k p false (out.map (fun a : Wy => a.1) ++ t) (ndR ns x).f6 ((ndR ns x).f6.length : Int) ((i + 1 : Nat) : Int) ns room else none) (fun k => ?_) (Ev.bind k1 (Ev.congr (fun k => by rw [if_pos (by simp; omega)]) k2))
              simp only [spec_l7Walk.l0]
              rw [if_pos (by omega), if_pos (by omega), if_pos (by omega), hrd, step_n (i := i) (n := (ndR ns x).f6.length) hlt (by omega)]
              by_cases hp : p.toList = [46]
              · rw [if_pos hp, belowP_dot p _ hp]
              · have hsz : (p ++ (⟨#[47]⟩ : ByteArray)).size = p.size + 1 := by rw [ByteArray.size_append]; rfl
                rw [if_neg hp, if_pos (by omega), if_pos (by omega), belowP_not p _ hp]
      have k := key (ndR ns x).f6.length 0 [] z (by omega) (by rw [List.drop_zero]; exact hz) (by simp; omega)
      refine Ev.step (f := fun k => spec_l7Walk.l0 k p false [] (ndR ns x).f6 ((ndR ns x).f6.length : Int) ((0 : Nat) : Int) ns room) (fun k => ?_) k
      simp only [spec_l7Walk.f]
      rw [if_pos a0, if_pos a1]
      rfl

end Go.Proofs.YthalkpflbbpniaaDoor.Q

/- The ways of a node: there are some, and how a row of them is read. -/
namespace Go.Proofs.YthalkpflbbpniaaDoor.Q
open Go.RowKit Go.Proofs.YthalkpflbbpniaaDoorW.PrintWords Go.Proofs.YthalkpflbbpniaaDoorW.PrintLast Go.Proofs.YthalkpflbbpniaaDoorW.PrintMore
attribute [local go_sem] max2_int min2_int max_two min_two max_three min_three max_four min_four   -- for this text's walks alone
set_option linter.unusedVariables false
set_option linter.unusedSimpArgs false

theorem ways_some {ns : List Nd} {room node : Int} (hg : GNode ns room node) : ∃ r : List Wy, preD (chW ns) (ns.length + 1) ((⟨#[46]⟩ : ByteArray), node) = some r ∧ 1 ≤ r.length ∧ r.length ≤ 50000000 ∧ ∀ y, y ∈ r.map Prod.snd ↔ From (scN ns) node y := by
  obtain ⟨q, hq⟩ := (tree_of hg.good).pre_ok node hg.inn
  have hl := (tree_of hg.good).pre_len hg.inn hq
  rw [← tgts_all] at hl
  rw [allN_len] at hq
  have hm := preD_map (Prod.snd : Wy → Int) (chW ns) (scN ns) (fun a => by unfold chW scN; rw [List.map_map]; rfl) (ns.length + 1) ((⟨#[46]⟩ : ByteArray), node)
  rw [hq] at hm
  cases hr : preD (chW ns) (ns.length + 1) ((⟨#[46]⟩ : ByteArray), node) with
  | none => rw [hr] at hm; cases hm
  | some r =>
    rw [hr] at hm
    have e : q = r.map Prod.snd := by injection hm
    have h1 := tgts_len hg.fit
    have h2 := hg.good.len
    have hne : node ∈ q := preD_head (scN ns) _ _ _ hq
    have hlq : q.length = r.length := by rw [e, List.length_map]
    refine ⟨r, rfl, by have := List.length_pos_of_mem hne; omega, by omega, fun y => by rw [← e]; exact preD_mem (scN ns) _ _ _ hq y⟩
def rdW (xs : List Wy) (i : Int) : Wy := xs.getD i.toNat (ByteArray.empty, 0)
theorem at_W {w : World} {A : Option Addr} {n : Nat} {xs : List Wy} (h : Kd.C kW w A n xs) (i : Int) (h0 : 0 ≤ i) (h1 : i < n) : ∃ ad, A = some ad ∧ w.cell? (ad.add (i.toNat * 2)) = some (.string (rdW xs i).1) ∧ w.cell? ⟨(ad.add (i.toNat * 2)).block, (ad.add (i.toNat * 2)).off + 1, none⟩ = some (.int .i64 (rdW xs i).2) := by
  obtain ⟨ad, c, e, _, hK, hc0⟩ := Kd.C_get h (ByteArray.empty, 0) i h0 h1
  have hc : ∀ j u, c[j]? = some u → w.cell? (ad.add (i.toNat * 2 + j)) = some u := hc0
  obtain ⟨c0, c1, rfl, rfl, rfl⟩ := hK
  exact ⟨ad, e, hc 0 _ rfl, by rw [← add_field _ _ 1 (by omega)]; exact hc 1 _ rfl⟩

end Go.Proofs.YthalkpflbbpniaaDoor.Q

/- What is asked of a file system and a node, on both sides. -/
namespace Go.Proofs.YthalkpflbbpniaaDoor.Q
open Go.RowKit Go.Proofs.YthalkpflbbpniaaDoorW.PrintWords Go.Proofs.YthalkpflbbpniaaDoorW.PrintLast Go.Proofs.YthalkpflbbpniaaDoorW.PrintMore
attribute [local go_sem] max2_int min2_int max_two min_two max_three min_three max_four min_four   -- for this text's walks alone
set_option linter.unusedVariables false
set_option linter.unusedSimpArgs false

theorem l3Is_f (ns : List Nd) (room k : Int) (hl : ns.length ≤ 4294967296) : spec_l3Is.f ns room k = some (thereB ns k) := by
  unfold spec_l3Is.f thereB
  rw [l1In_f]
  have e : wrap64 ((ns.length : Int) - 1) = (ns.length : Int) - 1 := by unfold wrap64; omega
  rw [e]
  simp only [Option.bind_some]
  cases h : inB 0 ((ns.length : Int) - 1) k
  · rfl
  · unfold inB at h
    simp only [Bool.and_eq_true, decide_eq_true_eq] at h
    rw [if_pos rfl, if_pos (by omega), if_pos (by omega)]
    rfl
theorem fitB_of {ns : List Nd} (h : FsFit ns) : fitB ns = true := by
  unfold fitB
  simp only [Bool.and_eq_true, decide_eq_true_eq, List.all_eq_true]
  exact ⟨h.len, fun x hx => ⟨h.data x hx, h.list x hx, h.name x hx⟩⟩
theorem l3Good_f {ns : List Nd} (room : Int) (h : FsFit ns) : spec_l3Good.f ns room = some (sGoodB ns room) := by unfold spec_l3Good.f; rw [if_pos (fitB_of h)]
theorem GoodFs_f {ns : List Nd} (room : Int) (h : FsFit ns) : impl_GoodFs.f ns room = some (sGoodB ns room) := by unfold impl_GoodFs.f; rw [if_pos (fitB_of h)]
theorem gNode_of {ns : List Nd} {room node : Int} (h : FsFit ns) (hg : sGoodB ns room = true) (ht : thereB ns node = true) : gNode ns room node = true := by
  unfold gNode
  unfold thereB at ht
  rw [Bool.and_eq_true] at ht
  rw [fitB_of h, hg, ht.1]; rfl
/-- The asking of both: a good file system, and a node that is not free. -/
theorem l7Asked_f {ns : List Nd} (room node : Int) (h : FsFit ns) : spec_l7Asked.f ns room node = some (sGoodB ns room && thereB ns node) := by
  have hl := h.len
  unfold spec_l7Asked.f
  rw [l3Good_f room h]
  cases hg : sGoodB ns room with
  | false => rfl
  | true => simp only [Option.bind_some, if_true]; rw [l3Is_f ns room node (by omega)]; rfl
theorem isGoodAt_f {ns : List Nd} (room node : Int) (h : FsFit ns) : impl_isGoodAt.f ns room node = some (sGoodB ns room && thereB ns node) := by
  have hl := h.len
  unfold impl_isGoodAt.f
  rw [GoodFs_f room h]
  cases hg : sGoodB ns room with
  | false => rfl
  | true => simp only [Option.bind_some, if_true]; rw [isThere_f ns room node (by omega)]; rfl

end Go.Proofs.YthalkpflbbpniaaDoor.Q

/- The items of a node, plainly; the reference's l17Items comes to them. -/
namespace Go.Proofs.YthalkpflbbpniaaDoor.Q
open Go.RowKit Go.Proofs.YthalkpflbbpniaaDoorW.PrintWords Go.Proofs.YthalkpflbbpniaaDoorW.PrintLast Go.Proofs.YthalkpflbbpniaaDoorW.PrintMore
attribute [local go_sem] max2_int min2_int max_two min_two max_three min_three max_four min_four   -- for this text's walks alone
set_option linter.unusedVariables false
set_option linter.unusedSimpArgs false

/-- One item, behind the nodes that are met. -/
def itemG (ns : List Nd) (pre : List Int) (a : Wy) : It :=
  if pre.idxOf a.2 < pre.length then ⟨a.1, (ndR ns a.2).f0, 0, 0, 0, 0, (pre.idxOf a.2 : Int), ⟨#[]⟩⟩
  else ⟨a.1, (ndR ns a.2).f0, (ndR ns a.2).f1, (ndR ns a.2).f2, (ndR ns a.2).f3, (ndR ns a.2).f4, (pre.length : Int), (ndR ns a.2).f5⟩
def itemsG (ns : List Nd) : List Int → List Wy → List It
  | _, [] => []
  | pre, a :: r => itemG ns pre a :: itemsG ns (pre ++ [a.2]) r
theorem itemsG_len (ns : List Nd) : ∀ (r : List Wy) (pre : List Int), (itemsG ns pre r).length = r.length
  | [], _ => rfl
  | a :: r, pre => by rw [itemsG, List.length_cons, itemsG_len ns r, List.length_cons]
theorem idxOf_drop (l : List Int) (a : Int) (m : Nat) (hm : m < l.length) : (l.drop m).idxOf a = if l[m] = a then 0 else (l.drop (m + 1)).idxOf a + 1 := by
  rw [List.drop_eq_getElem_cons hm, List.idxOf_cons]
  by_cases h : l[m] = a
  · rw [if_pos h]; simp [h]
  · rw [if_neg h]
    have : (l[m] == a) = false := by simpa using h
    rw [this]; rfl
theorem idxOf_le (l : List Int) (a : Int) : l.idxOf a ≤ l.length := List.idxOf_le_length
/-- The search for the first place of a node, from behind. -/
theorem same_loop {ns : List Nd} (room : Int) (hf : FsFit ns) (node : Int) (out : List It) (pre : List Int) (hp : pre.length ≤ 1000000000) (way : ByteArray) (at' : Int) (L : List ByteArray) (i : Nat) (hi : i = pre.length) (hL : i < L.length) (hLl : L.length ≤ 1000000000) (ho : out.length ≤ 1000000000) (x : Nd) (r : List It) (it : It) (hit : it = if pre.idxOf at' < pre.length then (⟨way, x.f0, 0, 0, 0, 0, (pre.idxOf at' : Int), ⟨#[]⟩⟩ : It) else ⟨way, x.f0, x.f1, x.f2, x.f3, x.f4, (i : Int), x.f5⟩)
    (h : Ev (fun k => spec_l17Items.l0 k node (out ++ [it]) (pre ++ [at']) L (L.length : Int) ((i + 1 : Nat) : Int) ns room) r) :
    ∀ m : Nat, m ≤ pre.length → Ev (fun k => spec_l17Items.l1 k node out pre (i : Int) way at' ((m + (pre.drop m).idxOf at' : Nat) : Int) ((m : Int) - 1) L (L.length : Int) (i : Int) ns room x.f0 x.f1 x.f2 x.f3 x.f4 x.f5 x.f6) r := by
  intro m
  induction m with
  | zero =>
    intro _
    rw [List.drop_zero, Nat.zero_add]
    have hle := idxOf_le pre at'
    refine Ev.step (fun k => ?_) h
    simp only [spec_l17Items.l1]
    rw [if_neg (by omega), if_pos (by omega), Option.bind_some, step_n (i := i) (n := L.length) hL (by omega)]
    by_cases hc : pre.idxOf at' < pre.length
    · rw [hit, if_pos hc, if_pos (by omega), if_pos (by omega)]
    · rw [hit, if_neg hc, if_neg (by omega), if_pos (by omega)]
  | succ m ih =>
    intro hm
    have hlt : m < pre.length := by omega
    have hrd : rd pre (m : Int) = pre[m] := by simp [rd, rdOf, List.getD, hlt]
    have e1 : ((m + 1 : Nat) : Int) - 1 = (m : Int) := by omega
    have e2 : wrap64 ((m : Int) - 1) = (m : Int) - 1 := by unfold wrap64; omega
    have k := ih (by omega)
    rw [idxOf_drop pre at' m hlt] at k
    refine Ev.step (fun k => ?_) k
    simp only [spec_l17Items.l1]
    rw [e1, if_pos (by omega), if_pos (by omega), if_pos (by omega), hrd, e2]
    by_cases hc : pre[m] = at'
    · rw [if_pos hc, if_pos hc]; simp
    · rw [if_neg hc, if_neg hc, show m + 1 + (pre.drop (m + 1)).idxOf at' = m + ((pre.drop (m + 1)).idxOf at' + 1) by omega]
theorem l17_loop {ns : List Nd} (room : Int) (hf : FsFit ns) (hn : NamesIn ns) (hall : ∀ x, x ∈ allN ns.length → ∀ y, y ∈ scN ns x → y ∈ allN ns.length) (node : Int) (ha : node ∈ allN ns.length) (L : List Wy) (hL : L.length ≤ 1000000000)
    (hw : ∀ y, y ∈ L → (∃ N, goN ns node N y.2 ∧ y.1 = N.foldl belowP ⟨#[46]⟩) ∧ y.1.size ≤ 1000000000) (d : Nat) : ∀ (i : Nat) (out : List It) (pre : List Int), i + d = L.length → pre.length = i → out.length = i →
    Ev (fun k => spec_l17Items.l0 k node out pre (L.map (·.1)) (L.length : Int) (i : Int) ns room) (out ++ itemsG ns pre (L.drop i)) := by
  induction d with
  | zero =>
    intro i out pre hi hp ho
    rw [List.drop_of_length_le (by omega), itemsG, List.append_nil]
    refine Ev.step (f := fun _ => some out) (fun k => ?_) (Ev.now _)
    simp only [spec_l17Items.l0]; rw [if_neg (by omega)]
  | succ d ih =>
    intro i out pre hi hp ho
    have hlt : i < L.length := by omega
    obtain ⟨⟨N, hg, hq⟩, hs⟩ := hw L[i] (List.getElem_mem hlt)
    obtain ⟨y0, y1⟩ := (allN_mem _ _).mp (goN_in hall N node _ ha hg)
    have hat := l7At_ev room hf hn hall node L[i].2 N ha hg L[i].1 hq hs
    have hmap : (L.map (·.1)).length = L.length := List.length_map _
    have hrd : rdOf ByteArray.empty (L.map (·.1)) (i : Int) = L[i].1 := by rw [rdS _ _ (by rw [hmap]; exact hlt), List.getElem_map]
    have k := ih (i + 1) (out ++ [itemG ns pre L[i]]) (pre ++ [L[i].2]) (by omega) (by simp [hp]) (by simp [ho])
    rw [List.drop_eq_getElem_cons hlt, itemsG, ← List.singleton_append, ← List.append_assoc]
    have hm := same_loop room hf node out pre (by omega) L[i].1 L[i].2 (L.map (·.1)) i hp.symm (by rw [hmap]; exact hlt) (by rw [hmap]; exact hL) (by omega) (ndR ns L[i].2) _ (itemG ns pre L[i]) (by unfold itemG; rw [hp]) (by rw [hmap]; exact k) pre.length (Nat.le_refl _)
    rw [List.drop_of_length_le (Nat.le_refl _), List.idxOf_nil, Nat.add_zero, hp, hmap] at hm
    refine Ev.step (f := fun k => (spec_l7At.f k ns room node L[i].1).bind fun t => if 0 ≤ t then (if t < (ns.length : Int) then spec_l17Items.l1 k node out pre (i : Int) L[i].1 t (i : Int) (wrap64 ((pre.length : Int) - 1)) (L.map (·.1)) (L.length : Int) (i : Int) ns room (rd_T49 ns t).f0 (rd_T49 ns t).f1 (rd_T49 ns t).f2 (rd_T49 ns t).f3 (rd_T49 ns t).f4 (rd_T49 ns t).f5 (rd_T49 ns t).f6 else none) else none) (fun k => ?_) (Ev.bind hat (Ev.congr (fun k => ?_) hm))
    · simp only [spec_l17Items.l0]
      rw [if_pos (by omega), if_pos (by omega), if_pos (by rw [hmap]; omega), hrd]
    · rw [if_pos y0, if_pos y1, show wrap64 ((pre.length : Int) - 1) = (i : Int) - 1 from by unfold wrap64; omega]
theorem preD_size {ns : List Nd} (hf : FsFit ns) : ∀ (d : Nat) (a : Wy) (r : List Wy), preD (chW ns) d a = some r → ∀ y, y ∈ r → y.1.size ≤ a.1.size + d * 1048577
  | 0, _, _, e => by cases e
  | d + 1, a, r, e => by
    intro y hy
    have e1 : (d + 1) * 1048577 = d * 1048577 + 1048577 := Nat.succ_mul _ _
    unfold preD at e
    cases hz : preL (preD (chW ns) d) (chW ns a) with
    | none => rw [hz] at e; cases e
    | some z =>
      rw [hz] at e
      injection e with e
      subst e
      rcases List.mem_cons.mp hy with rfl | h1
      · omega
      · obtain ⟨b, hb, h2⟩ := preL_from (preD (chW ns) d) (fun b y => y.1.size ≤ b.1.size + d * 1048577) (fun b r hb y hy => preD_size hf d b r hb y hy) (chW ns a) z hz y h1
        unfold chW at hb
        obtain ⟨en, he, rfl⟩ := List.mem_map.mp hb
        have k1 := belowP_size a.1 en.f0
        have k2 := hf.name _ (ndR_mem he) _ he
        change y.1.size ≤ (belowP a.1 en.f0).size + d * 1048577 at h2
        omega
/-- The ways of a node, where it is one of a good file system. -/
def waysR (ns : List Nd) (node : Int) : List Wy := (preD (chW ns) (ns.length + 1) ((⟨#[46]⟩ : ByteArray), node)).getD []
theorem waysR_ok {ns : List Nd} {room node : Int} (hg : GNode ns room node) : preD (chW ns) (ns.length + 1) ((⟨#[46]⟩ : ByteArray), node) = some (waysR ns node) ∧ (waysR ns node).length ≤ 50000000 ∧ ∀ y, y ∈ waysR ns node → y.2 ∈ allN ns.length ∧ (∃ N, goN ns node N y.2 ∧ y.1 = N.foldl belowP ⟨#[46]⟩) ∧ y.1.size ≤ 50000000 := by
  obtain ⟨r, hr, _, hl, _⟩ := ways_some hg
  have e : waysR ns node = r := by unfold waysR; rw [hr]; rfl
  rw [e]
  refine ⟨hr, hl, fun y hy => ?_⟩
  obtain ⟨N, h1, h2⟩ := preD_way ns _ _ r hr y hy
  refine ⟨goN_in (tree_of hg.good).sub N node _ hg.inn h1, ⟨N, h1, h2⟩, ?_⟩
  have := preD_size hg.fit _ _ r hr y hy
  have h2 := hg.good.len
  have e1 : (ns.length + 1) * 1048577 = ns.length * 1048577 + 1048577 := Nat.succ_mul _ _
  have e3 : ns.length * 1048577 ≤ 40 * 1048577 := Nat.mul_le_mul_right _ h2.2
  have e4 : (⟨#[46]⟩ : ByteArray).size = 1 := rfl
  rw [e4] at this
  omega
def itemsR (ns : List Nd) (room node : Int) : List It × Bool := if (sGoodB ns room && thereB ns node) = true then (itemsG ns [] (waysR ns node), true) else ([], false)
theorem specItems_ev (ns : List Nd) (room node : Int) (h : FsFit ns) : Ev (fun k => spec_ItemsOf.f k ns room node) (itemsR ns room node) := by
  unfold itemsR
  cases hq : (sGoodB ns room && thereB ns node) with
  | false =>
    rw [if_neg (by simp)]
    exact Ev.congr (f := fun _ => some ([], false)) (fun k => by simp only [spec_ItemsOf.f]; rw [l7Asked_f room node h, hq]; rfl) (Ev.now _)
  | true =>
    rw [if_pos rfl]
    rw [Bool.and_eq_true] at hq
    have hg := gNode_ok (gNode_of h hq.1 hq.2)
    obtain ⟨hr, hl, hw⟩ := waysR_ok hg
    have hn := names_in hg.good
    have hall := (tree_of hg.good).sub
    have h2 := hg.good.len
    have e1 : (ns.length + 1) * 1048577 = ns.length * 1048577 + 1048577 := Nat.succ_mul _ _
    have e3 : ns.length * 1048577 ≤ 40 * 1048577 := Nat.mul_le_mul_right _ h2.2
    have hwalk := l7Walk_ev room h hall (ns.length + 1) ((⟨#[46]⟩ : ByteArray), node) (waysR ns node) hr hg.inn (by show 1 + _ ≤ _; omega) (by omega)
    have hloop := l17_loop room h hn hall node hg.inn (waysR ns node) (by omega) (fun y hy => ⟨(hw y hy).2.1, by have := (hw y hy).2.2; omega⟩) (waysR ns node).length 0 [] [] (by omega) rfl rfl
    rw [List.drop_zero, List.nil_append] at hloop
    have e2 : ((waysR ns node).map (·.1)).length = (waysR ns node).length := List.length_map _
    have k : Ev (fun k => spec_l17Items.f k ns room node) (itemsG ns [] (waysR ns node)) := by
      unfold spec_l17Items.f
      refine Ev.bind hwalk ?_
      rw [e2]
      exact hloop
    refine Ev.congr (f := fun k => (spec_l17Items.f k ns room node).bind fun t => some (t, true)) (fun k => ?_) (Ev.bind k (Ev.now _))
    simp only [spec_ItemsOf.f]
    rw [l7Asked_f room node h, hq.1, hq.2]
    rfl

end Go.Proofs.YthalkpflbbpniaaDoor.Q

/- impl.ItemsOf: the walk. -/
namespace Go.Proofs.YthalkpflbbpniaaDoor.Q
open Go.RowKit Go.Proofs.YthalkpflbbpniaaDoorW.PrintWords Go.Proofs.YthalkpflbbpniaaDoorW.PrintLast Go.Proofs.YthalkpflbbpniaaDoorW.PrintMore
attribute [local go_sem] max2_int min2_int max_two min_two max_three min_three max_four min_four   -- for this text's walks alone
set_option linter.unusedVariables false
set_option linter.unusedSimpArgs false

open Go.Maps Go.WideMaps
def firstN (pre : List Int) (a : Int) : Option Int := if pre.idxOf a < pre.length then some (pre.idxOf a : Int) else none
theorem firstN_nil : firstN [] = fun _ => none := rfl
theorem firstN_met {pre : List Int} {a : Int} (h : pre.idxOf a < pre.length) : firstN (pre ++ [a]) = firstN pre := by
  funext s
  have hm : a ∈ pre := List.idxOf_lt_length_iff.mp h
  unfold firstN
  rw [List.idxOf_append, List.length_append, List.length_singleton]
  by_cases hs : s ∈ pre
  · have := List.idxOf_lt_length_iff.mpr hs
    rw [if_pos hs, if_pos (by omega), if_pos this]
  · have h1 : ¬ pre.idxOf s < pre.length := fun k => hs (List.idxOf_lt_length_iff.mp k)
    have h2 : (([a] : List Int).idxOf s) = 1 := by
      have : (a == s) = false := by simp; intro e; subst e; exact hs hm
      simp [List.idxOf_cons, this]
    rw [if_neg hs, h2, if_neg (by omega), if_neg h1]
theorem firstN_new {pre : List Int} {a : Int} (h : ¬ pre.idxOf a < pre.length) : firstN (pre ++ [a]) = fun s => if a = s then some (pre.length : Int) else firstN pre s := by
  funext s
  have hm : a ∉ pre := fun k => h (List.idxOf_lt_length_iff.mpr k)
  unfold firstN
  rw [List.idxOf_append, List.length_append, List.length_singleton]
  by_cases hs : s ∈ pre
  · have := List.idxOf_lt_length_iff.mpr hs
    rw [if_pos hs, if_pos (by omega), if_neg (fun e => hm (by rw [e]; exact hs)), if_pos this]
  · have h1 : ¬ pre.idxOf s < pre.length := fun k => hs (List.idxOf_lt_length_iff.mp k)
    rw [if_neg hs]
    by_cases e : a = s
    · subst e
      rw [if_pos rfl, show ([a] : List Int).idxOf a = 0 from by simp, if_pos (by omega), Nat.zero_add]
    · have h2 : (([a] : List Int).idxOf s) = 1 := by
        have : (a == s) = false := by simpa using e
        simp [List.idxOf_cons, this]
      rw [if_neg e, h2, if_neg (by omega), if_neg h1]
theorem itemsG_get (ns : List Nd) : ∀ (r : List Wy) (pre : List Int) (i : Nat) (h : i < r.length), (itemsG ns pre r)[i]'(by rw [itemsG_len]; exact h) = itemG ns (pre ++ (r.take i).map Prod.snd) r[i]
  | a :: r, pre, 0, _ => by simp [itemsG]
  | a :: r, pre, i + 1, h => by
    have k := itemsG_get ns r (pre ++ [a.2]) i (by simpa using h)
    simp only [itemsG, List.getElem_cons_succ, k, List.take_succ_cons, List.map_cons, List.append_assoc, List.singleton_append]
theorem itemsG_take (ns : List Nd) (r : List Wy) (i : Nat) (h : i < r.length) : (itemsG ns [] r).take (i + 1) = (itemsG ns [] r).take i ++ [itemG ns ((r.take i).map Prod.snd) r[i]] := by
  rw [List.take_succ_eq_append_getElem (by rw [itemsG_len]; exact h), itemsG_get ns r [] i h, List.nil_append]
theorem itemInfo : (Tryd.prog.info? 52).map (fun i => (i.zero, i.size, i.bytes)) = some (some (.agg #[.string ⟨#[]⟩, .int .i64 0, .int .i64 0, .int .i64 0, .int .i64 0, .int .i64 0, .int .i64 0, .string ⟨#[]⟩]), 8, 80) := by kernel_rfl
set_option maxHeartbeats 8000000 in
set_option maxRecDepth 100000 in
theorem items_walk (ns : List Nd) (A0 : Option Addr) (c0 : Nat) (room node : Int) (w : World) (hr0 : Kd.C k49 w A0 ns.length ns) (hc0 : ns.length ≤ c0) (hf : FsFit ns) :
    Calls Tryd.prog 7 #[.agg #[.slice A0 ns.length c0, .int .i64 room], .int .i64 node] w fun e w' => ∃ v, e = .returned (.tuple #[v, .bool (itemsR ns room node).2]) ∧ Kd.R k52 52 w' w.heap.size (fun _ => True) v (itemsR ns room node).1 ∧ Below w.heap.size w w' := by
  have hu1 := Tryd.underlying31
  have hu2 := Tryd.underlying46
  have hu3 := Tryd.underlying43
  have hu4 := Tryd.underlying52
  have hu5 := Tryd.underlying26
  have hmm := @run_makeMap Tryd.prog
  have HIG := Aside0.mk (fun (W : World) (hb : Below w.heap.size w W) => impl_isGoodAt.calls A0 c0 ns room node _ W (Kd.C_below hr0 hb) hc0 (isGoodAt_f room node hf))
  unfold itemsR
  cases hq : (sGoodB ns room && thereB ns node) with
  | false =>
    rw [hq] at HIG
    clear hr0 hc0 hf hmm
    go_enter Tryd.func7, Tryd.ntmps7
    go_upto_region 1 with (fail)
    obtain ⟨W2, hW2⟩ : ∃ W, W = w.alloc (.cells #[.slice A0 ns.length c0, .int .i64 room] 31 (0, 0)) := ⟨_, rfl⟩
    have hb2 : Below w.heap.size w W2 := by rw [hW2]; exact below_alloc (Below.refl _ _) _
    have bk2 : W2.heap[w.heap.size]? = some (.cells #[.slice A0 ns.length c0, .int .i64 room] 31 (0, 0)) := by rw [hW2]; exact blk_new _ _
    have h20 : W2.cell? ⟨w.heap.size, 0, none⟩ = some (.slice A0 ns.length c0) := (blk_cell bk2 0).trans rfl
    have h21 : W2.cell? ⟨w.heap.size, 1, none⟩ = some (.int .i64 room) := (blk_cell bk2 1).trans rfl
    have HB2 := Aside0.mk hb2
    rw [← hW2]
    clear hW2 hb2 bk2
    go_wp2_with fail
    refine (HIG.out W2 HB2.out).mono ?_; rintro e W3 ⟨rfl, hd⟩
    have HB3 := Aside0.mk (below_step HB2.out hd)
    clear hd h20 h21 HIG HB2
    go_wp2
    go_ret2
    exact ⟨_, rfl, Kd.R_nil _ _ _ _ _, HB3.out⟩
  | true =>
    rw [hq] at HIG
    rw [if_pos rfl]
    rw [Bool.and_eq_true] at hq
    have hg := gNode_ok (gNode_of hf hq.1 hq.2)
    obtain ⟨hr1, hr2, hr3⟩ := waysR_ok hg
    have HWY : Aside0 (∀ y, y ∈ waysR ns node → y.2 ∈ allN ns.length ∧ y.1.size ≤ 50000000) := ⟨fun y hy => ⟨(hr3 y hy).1, (hr3 y hy).2.2⟩⟩
    obtain ⟨r, hr⟩ : ∃ r, r = waysR ns node := ⟨_, rfl⟩
    rw [← hr] at hr1 hr2 HWY ⊢
    have HWS := Aside0.mk (fun (W : World) (hb : Below w.heap.size w W) => ways_calls room A0 c0 ns W (Kd.C_below hr0 hb) (by have := hg.good.len; omega) hg.fit (tree_of hg.good).sub node hg.inn (ns.length + 1) (by have := hg.good.len; omega) r hr1 (by omega))
    have HR0 := Aside0.mk hr0
    have HRL : Aside0 (1 ≤ r.length ∧ r.length ≤ 50000000) := ⟨List.length_pos_of_mem (preD_head _ _ _ _ hr1), hr2⟩
    have HNL : Aside0 (ns.length ≤ 40) := ⟨hg.good.len.2⟩
    clear hr1 hr2 hr3 hr hg hq hf hr0 hc0
    go_enter Tryd.func7, Tryd.ntmps7
    go_upto_region 1 with (fail)
    obtain ⟨W2, hW2⟩ : ∃ W, W = w.alloc (.cells #[.slice A0 ns.length c0, .int .i64 room] 31 (0, 0)) := ⟨_, rfl⟩
    have hb2 : Below w.heap.size w W2 := by rw [hW2]; exact below_alloc (Below.refl _ _) _
    have bk2 : W2.heap[w.heap.size]? = some (.cells #[.slice A0 ns.length c0, .int .i64 room] 31 (0, 0)) := by rw [hW2]; exact blk_new _ _
    have h20 : W2.cell? ⟨w.heap.size, 0, none⟩ = some (.slice A0 ns.length c0) := (blk_cell bk2 0).trans rfl
    have h21 : W2.cell? ⟨w.heap.size, 1, none⟩ = some (.int .i64 room) := (blk_cell bk2 1).trans rfl
    have HB2 := Aside0.mk hb2
    have HG0 : Aside0 (w.heap.size < W2.heap.size) := ⟨blk_lt bk2⟩
    have BK2 := Aside0.mk bk2
    rw [← hW2]
    clear hW2 hb2 bk2
    go_wp2_with fail
    refine (HIG.out W2 HB2.out).mono ?_; rintro e W3 ⟨rfl, hd⟩
    have HB3 := Aside0.mk (below_step HB2.out hd)
    have BK3 := Aside0.mk ((hd.block _ HG0.out).trans BK2.out)
    have HG3 : Aside0 (w.heap.size < W3.heap.size) := ⟨Nat.lt_of_lt_of_le HG0.out hd.size⟩
    clear hd h20 h21 HIG HB2 BK2 HG0
    go_upto_region 4 with (fail)
    obtain ⟨gi, hgi⟩ : ∃ g, g = W3.heap.size := ⟨_, rfl⟩
    obtain ⟨W4, hW4⟩ : ∃ W, W = (W3.alloc (.cells #[] 52 (0, 0))).alloc (.map #[] 0) := ⟨_, rfl⟩
    have hb4 : Below W3.heap.size W3 W4 := by rw [hW4]; exact below_alloc (below_alloc (Below.refl _ _) _) _
    have hM4 : MapN W4 (gi + 1) 0 (firstN []) := by
      have h := MapN.empty (W3.alloc (.cells #[] 52 (0, 0)))
      rw [World.size_alloc, ← hgi] at h
      rw [hW4, firstN_nil]; exact h
    have bki : W4.heap[gi]? = some (.cells #[] 52 (0, 0)) := by rw [hW4, hgi]; exact blk_alloc (blk_new _ _) _
    have hs4 : W4.heap.size = gi + 2 := by rw [hW4, World.size_alloc, World.size_alloc, hgi]
    rw [← hW4, ← hgi]
    have HGI : Aside0 (w.heap.size < gi) := ⟨by have := HG3.out; omega⟩
    have HS4 := Aside0.mk hs4
    have HI4 : Aside0 (Kd.R k52 52 W4 w.heap.size (fun k => gi ≤ k ∧ k ≠ gi + 1) (.slice (some ⟨gi, 0, none⟩) 0 0) []) := ⟨fun k hk => by simp [Value.ownBlock] at hk; subst hk; exact ⟨Nat.le_refl _, by omega⟩, [], ⟨rfl, .inr ⟨gi, 0, #[], rfl, by have := HGI.out; omega, bki, Nat.le_refl _, by simp [maxLen], rfl, rfl⟩⟩, Reps.none _ _⟩
    have HM4 := Aside0.mk hM4
    have HB4 := Aside0.mk (below_step HB3.out hb4)
    have BK4 := Aside0.mk ((hb4.block _ HG3.out).trans BK3.out)
    have h20 : W4.cell? ⟨w.heap.size, 0, none⟩ = some (.slice A0 ns.length c0) := (blk_cell BK4.out 0).trans rfl
    have h21 : W4.cell? ⟨w.heap.size, 1, none⟩ = some (.int .i64 room) := (blk_cell BK4.out 1).trans rfl
    clear hW4 hgi hb4 hM4 bki hs4 HB3 BK3 HG3 hmm
    go_wp2_with fail
    refine (HWS.out W4 HB4.out).mono ?_; rintro e W5 ⟨v21, rfl, ho5, hd5⟩
    obtain ⟨gw, cw, rfl, -, hgl, hgb⟩ := own_shape ho5 (by have := HRL.out; omega)
    have HGW : Aside0 (gi + 2 ≤ gw) := ⟨by have := HS4.out; omega⟩
    have HW5 : Aside0 (Kd.R kW 46 W5 w.heap.size (fun k => k = gw) (.slice (some ⟨gw, 0, none⟩) r.length cw) r) := ⟨by
      obtain ⟨h1, h2⟩ := Kd.R_lower ho5 HB4.out.size
      exact Kd.R_mono ⟨fun k hk => (show k = gw ∧ True by simp [Value.ownBlock] at hk; exact ⟨hk.symm, trivial⟩), h2.imp_ (fun x cs hp => by obtain ⟨a, b, e1, e2, e3⟩ := hp; exact ⟨a, b, e1, e2, e3⟩)⟩ (fun k hk => hk.1)⟩
    have HI5 := Aside0.mk (Kd.R_below HI4.out hd5)
    have HM5 := Aside0.mk (HM4.out.below hd5)
    have HB5 := Aside0.mk (below_step HB4.out hd5)
    have BK5 := Aside0.mk ((hd5.block _ (blk_lt BK4.out)).trans BK4.out)
    clear ho5 hd5 hgl hgb h20 h21 HI4 HM4 HB4 BK4 HWS HS4
    go_wp2
    go_loopw [6, 23] (fun v6 v23 wr => ∃ (i n : Nat), i ≤ r.length ∧ v23 = .int .i64 (i : Int) ∧ n ≤ i ∧ Aside0 (Kd.R k52 52 wr w.heap.size (fun k => gi ≤ k ∧ k ≠ gi + 1) v6 ((itemsG ns [] r).take i)) ∧ Aside0 (MapN wr (gi + 1) n (firstN ((r.take i).map Prod.snd))) ∧ Aside0 (Kd.R kW 46 wr w.heap.size (fun k => k = gw) (.slice (some ⟨gw, 0, none⟩) r.length cw) r) ∧ Aside0 (wr.heap[w.heap.size]? = some (.cells #[.slice A0 ns.length c0, .int .i64 room] 31 (0, 0))) ∧ Aside0 (Below w.heap.size w wr)) (fun _ v23 _ => r.length - (intOf v23).toNat)
    case atStart => exact ⟨0, 0, Nat.zero_le _, rfl, Nat.le_refl _, HI5, HM5, HW5, BK5, HB5⟩
    case round =>
      clear HI5 HM5 HW5 HB5 BK5
      obtain ⟨i, n, hi, rfl, hni, HI, HM, HW, BK, HB⟩ := hrel
      by_cases hlt : i < r.length
      case neg =>
        have hil : i = r.length := by omega
        subst hil
        have p9 : decide ((r.length : Int) < (r.length : Int)) = false := by simp
        have hI := HI.out
        rw [List.take_of_length_le (by rw [itemsG_len]; exact Nat.le_refl _)] at hI
        have HI2 := Aside0.mk hI
        clear hlt hi hI hni
        go_wp2
        go_ret2
        exact ⟨_, rfl, Kd.R_mono HI2.out (fun _ _ => trivial), HB.out⟩
      case pos =>
        have HLT := Aside0.mk hlt
        have p9 : decide ((i : Int) < (r.length : Int)) = true := decide_eq_true (by omega)
        have p8 : ((i : Int) < (r.length : Int)) = True := eq_true (by omega)
        have p7 : ((0 : Int) ≤ (i : Int)) = True := eq_true (by omega)
        obtain ⟨ed, hed, hn0, hn1⟩ := at_W (Kd.R_reads' HW.out).2.2 (i : Int) (by omega) (by omega)
        injection hed with hed
        subst hed
        obtain ⟨x, hx⟩ : ∃ x, x = rdW r (i : Int) := ⟨_, rfl⟩
        have hxr : x = r[i] := by rw [hx]; unfold rdW; rw [Int.toNat_natCast, List.getD_eq_getElem?_getD, List.getElem?_eq_getElem hlt]; rfl
        rw [Int.toNat_natCast, ← hx] at hn0 hn1
        have ea : (Addr.add ⟨gw, 0, none⟩ (i * 2)) = ⟨gw, i * 2, none⟩ := by simp [Addr.add]; omega
        rw [ea] at hn0 hn1
        obtain ⟨pre, hpre⟩ : ∃ q, q = (r.take i).map Prod.snd := ⟨_, rfl⟩
        have hpl : pre.length = i := by rw [hpre, List.length_map, List.length_take]; omega
        have htk : (itemsG ns [] r).take (i + 1) = (itemsG ns [] r).take i ++ [itemG ns pre x] := by rw [itemsG_take ns r i hlt, hpre, hxr]
        have hpk : (r.take (i + 1)).map Prod.snd = pre ++ [x.2] := by rw [List.take_succ_eq_append_getElem hlt, List.map_append, hpre, hxr]; rfl
        obtain ⟨hxi, hxs⟩ := HWY.out x (by rw [hxr]; exact List.getElem_mem hlt)
        obtain ⟨y0, y1⟩ := (allN_mem _ _).mp hxi
        have hM := HM.out
        rw [← hpre] at hM
        have HM1 := Aside0.mk hM
        have HTK := Aside0.mk htk
        have HPK := Aside0.mk hpk
        have HPL := Aside0.mk hpl
        have HY := Aside0.mk (And.intro y0 y1)
        have HTL : Aside0 (((itemsG ns [] r).take i).length ≤ 50000000) := ⟨by rw [List.length_take, itemsG_len]; have := HRL.out; omega⟩
        have hw1 : IntKind.i64.wrap ((i : Int) + 1) = ((i + 1 : Nat) : Int) := wrap_upM hlt (by have := HRL.out; omega)
        have HW1 := Aside0.mk hw1
        have HNI := Aside0.mk hni
        obtain ⟨p, y⟩ := x
        simp only at hn0 hn1 y0 y1 HTK HPK HY
        obtain ⟨ad, B6, d6, hbd, e0, e1, e2, e3, e4, e5, e6, hd6, hC6⟩ := at_T49 (Kd.C_below HR0.out HB.out) y y0 y1
        subst hbd
        obtain ⟨nd, hnd⟩ : ∃ x, x = rd_T49 ns y := ⟨_, rfl⟩
        rw [← hnd] at e0 e1 e2 e3 e4 e5 e6 hd6 hC6
        have HND := Aside0.mk (show ndR ns y = nd from hnd.symm)
        have y0' : ((0 : Int) ≤ y) = True := eq_true y0
        have y1' : (y < (ns.length : Int)) = True := eq_true y1
        clear hx hxr htk hpk hpl hpre hM HM hlt hi hni hxi hxs hnd hd6 hC6 y0 y1
        go_upto_region 7 with (fail)
        obtain ⟨g9, hg9⟩ : ∃ g, g = wr.heap.size := ⟨_, rfl⟩
        obtain ⟨W6, hW6⟩ : ∃ W, W = wr.alloc (.cells #[.string p, .int .i64 y] 46 (0, 0)) := ⟨_, rfl⟩
        have hb6 : Below wr.heap.size wr W6 := by rw [hW6]; exact below_alloc (Below.refl _ _) _
        have bk9 : W6.heap[g9]? = some (.cells #[.string p, .int .i64 y] 46 (0, 0)) := by rw [hW6, hg9]; exact blk_new _ _
        rw [← hW6, ← hg9]
        replace e0 := (hb6.cell (World.block_lt_of_cell? _ _ e0)).trans e0
        replace e1 := (hb6.cell (World.block_lt_of_cell? _ _ e1)).trans e1
        replace e2 := (hb6.cell (World.block_lt_of_cell? _ _ e2)).trans e2
        replace e3 := (hb6.cell (World.block_lt_of_cell? _ _ e3)).trans e3
        replace e4 := (hb6.cell (World.block_lt_of_cell? _ _ e4)).trans e4
        replace e5 := (hb6.cell (World.block_lt_of_cell? _ _ e5)).trans e5
        replace e6 := (hb6.cell (World.block_lt_of_cell? _ _ e6)).trans e6
        have HSZ : Aside0 (gi + 1 < g9 ∧ w.heap.size < g9) := ⟨by have := HM1.out.lt; have := HGI.out; omega⟩
        have HI6 := Aside0.mk (Kd.R_below HI.out hb6)
        have HM6 := Aside0.mk (HM1.out.below hb6)
        have HW6 := Aside0.mk (Kd.R_below HW.out hb6)
        have HB6 := Aside0.mk (below_step HB.out hb6)
        have BK6 := Aside0.mk ((hb6.block _ (blk_lt BK.out)).trans BK.out)
        have BK96 := Aside0.mk bk9
        have h20 : W6.cell? ⟨w.heap.size, 0, none⟩ = some (.slice (some ad) ns.length c0) := (blk_cell BK6.out 0).trans rfl
        have h90 : W6.cell? ⟨g9, 0, none⟩ = some (.string p) := (blk_cell bk9 0).trans rfl
        have h91 : W6.cell? ⟨g9, 1, none⟩ = some (.int .i64 y) := (blk_cell bk9 1).trans rfl
        clear hW6 hg9 hb6 bk9 HI HM1 HW HB BK hn0 hn1
        go_upto_region 8 with (fail)
        obtain ⟨g10, hg10⟩ : ∃ g, g = W6.heap.size := ⟨_, rfl⟩
        obtain ⟨W7, hW7⟩ : ∃ W, W = W6.alloc (.cells #[.int .i64 nd.f0, .int .i64 nd.f1, .int .i64 nd.f2, .int .i64 nd.f3, .int .i64 nd.f4, .string nd.f5, .slice B6 nd.f6.length d6] 49 (0, 0)) := ⟨_, rfl⟩
        have hb7 : Below W6.heap.size W6 W7 := by rw [hW7]; exact below_alloc (Below.refl _ _) _
        have bk10 : W7.heap[g10]? = some (.cells #[.int .i64 nd.f0, .int .i64 nd.f1, .int .i64 nd.f2, .int .i64 nd.f3, .int .i64 nd.f4, .string nd.f5, .slice B6 nd.f6.length d6] 49 (0, 0)) := by rw [hW7, hg10]; exact blk_new _ _
        rw [← hW7, ← hg10]
        have HSZ2 : Aside0 (g9 < g10 ∧ g10 < W7.heap.size) := ⟨by have := blk_lt BK96.out; omega, blk_lt bk10⟩
        have HI7 := Aside0.mk (Kd.R_below HI6.out hb7)
        have HM7 := Aside0.mk (HM6.out.below hb7)
        have HW7 := Aside0.mk (Kd.R_below HW6.out hb7)
        have HB7 := Aside0.mk (below_step HB6.out hb7)
        have BK7 := Aside0.mk ((hb7.block _ (blk_lt BK6.out)).trans BK6.out)
        have BK97 := Aside0.mk ((hb7.block _ (blk_lt BK96.out)).trans BK96.out)
        have BK107 := Aside0.mk bk10
        have hlk := HM7.out.look_ok y HY.out.1 (by have := HY.out.2; have := HNL.out; omega)
        clear hW7 hg10 hb7 bk10 HI6 HM6 HW6 HB6 BK6 BK96 h20 h90 h91 e0 e1 e2 e3 e4 e5 e6
        have h90 : W7.cell? ⟨g9, 0, none⟩ = some (.string p) := (blk_cell BK97.out 0).trans rfl
        have h91 : W7.cell? ⟨g9, 1, none⟩ = some (.int .i64 y) := (blk_cell BK97.out 1).trans rfl
        have h100 : W7.cell? ⟨g10, 0, none⟩ = some (.int .i64 nd.f0) := (blk_cell BK107.out 0).trans rfl
        by_cases hm : pre.idxOf y < pre.length
        case pos =>
          have hf1 : firstN pre y = some (pre.idxOf y : Int) := if_pos hm
          rw [hf1] at hlk
          simp only [Option.getD_some, Option.isSome_some] at hlk
          have HIT : Aside0 (itemG ns pre (p, y) = ⟨p, nd.f0, 0, 0, 0, 0, (pre.idxOf y : Int), ⟨#[]⟩⟩) := ⟨by unfold itemG; rw [if_pos hm]; simp only; rw [HND.out]⟩
          have HFN := Aside0.mk (firstN_met hm)
          clear hm hf1
          go_wp2_with (first | ((with_reducible refine gate_dst (N := 50) rfl ?_); refine Kd.R_append k52 (w0 := w) (W := W7) w.heap.size rfl (.tmp 42) (.tmp 49) 26 52 (.agg #[.string ⟨#[]⟩, .int .i64 0, .int .i64 0, .int .i64 0, .int .i64 0, .int .i64 0, .int .i64 0, .string ⟨#[]⟩]) 80 rfl Tryd.underlying26 itemInfo rfl (by decide) (by omega) _ ((itemsG ns [] r).take i) ⟨p, nd.f0, 0, 0, 0, 0, (pre.idxOf y : Int), ⟨#[]⟩⟩ [.string p, .int .i64 nd.f0, .int .i64 0, .int .i64 0, .int .i64 0, .int .i64 0, .int .i64 (pre.idxOf y : Int), .string ⟨#[]⟩] (fun k => gi ≤ k ∧ k ≠ gi + 1) (fun _ => False) rfl rfl (k52_mkM _ _ _ _) (fun _ h => h.elim) ?hf HI7.out HB7.out HB7.out.size ?hl ?_; (case hf => (intro j hj; have := HSZ.out; have := HSZ2.out; omega)); (case hl => (have := HTL.out; omega)); intro v1 w1 ho1 hb1 hg1 hat1))
          have HI8 : Aside0 (Kd.R k52 52 w1 w.heap.size (fun k => gi ≤ k ∧ k ≠ gi + 1) v1 ((itemsG ns [] r).take (i + 1))) := ⟨by rw [HTK.out, HIT.out]; exact ho1⟩
          have HB8 := Aside0.mk hb1
          have HW8 : Aside0 (Kd.R kW 46 w1 w.heap.size (fun k => k = gw) (.slice (some ⟨gw, 0, none⟩) r.length cw) r) := ⟨by
            obtain ⟨inner, hown⟩ := Kd.R_own HW7.out
            obtain ⟨cells, hc⟩ := own_typed hown gw rfl
            exact Kd.R_grown HW7.out hg1 (fun k hk => by subst hk; exact Kd.R_ne HI7.out hc (by decide))⟩
          have BK8 := Aside0.mk ((hg1.block _ (blk_lt BK7.out) (fun e => by have := (HI7.out.1 _ e.symm).1; have := HGI.out; omega)).trans BK7.out)
          have HM8 : Aside0 (MapN w1 (gi + 1) n (firstN ((r.take (i + 1)).map Prod.snd))) := ⟨by rw [HPK.out, HFN.out]; exact HM7.out.kept (hg1.block _ HM7.out.lt (fun e => (HI7.out.1 _ e.symm).2 rfl))⟩
          clear ho1 hb1 hg1 hat1 HI7 HM7 HB7 HW7 BK7 BK97 BK107 h90 h91 h100 hlk
          go_wp2
          go_roundw
          case rel => exact ⟨i + 1, n, HLT.out, by first | rfl | go_num, by have := HNI.out; omega, HI8, HM8, HW8, BK8, HB8⟩
          case measure => have := HLT.out; simp [intOf]; omega
        case neg =>
          have hf1 : firstN pre y = none := if_neg hm
          rw [hf1] at hlk
          simp only [Option.getD_none, Option.isSome_none] at hlk
          have HIT : Aside0 (itemG ns pre (p, y) = ⟨p, nd.f0, nd.f1, nd.f2, nd.f3, nd.f4, (i : Int), nd.f5⟩) := ⟨by unfold itemG; rw [if_neg hm]; simp only; rw [HND.out, HPL.out]⟩
          have HFN := Aside0.mk (firstN_new hm)
          obtain ⟨W8, hrun, hM8, hgr⟩ := HM7.out.put (by unfold maxLen; have := HNI.out; have := HLT.out; have := HRL.out; omega) y HY.out.1 (by have := HY.out.2; have := HNL.out; omega) (i : Int) (by omega) (by have := HLT.out; have := HRL.out; omega)
          have HM8 := Aside0.mk hM8
          have HI8 := Aside0.mk (Kd.R_grown HI7.out hgr (fun k hk e => hk.2 (Option.some.inj e)))
          have HW8 := Aside0.mk (Kd.R_grown HW7.out hgr (fun k hk e => by have := Option.some.inj e; have := HGW.out; omega))
          have HB8 : Aside0 (Below w.heap.size w W8) := ⟨HB7.out.grown hgr HB7.out.size (fun j hj => by cases hj; have := HGI.out; omega)⟩
          have BK8 := Aside0.mk ((hgr.block _ (blk_lt BK7.out) (fun e => by have := Option.some.inj e; have := HGI.out; omega)).trans BK7.out)
          have BK98 := Aside0.mk ((hgr.block _ (blk_lt BK97.out) (fun e => by have := Option.some.inj e; have := HSZ.out; omega)).trans BK97.out)
          have BK108 := Aside0.mk ((hgr.block _ (blk_lt BK107.out) (fun e => by have := Option.some.inj e; have := HSZ.out; have := HSZ2.out; omega)).trans BK107.out)
          have HSZ8 : Aside0 (W7.heap.size ≤ W8.heap.size) := ⟨hgr.size⟩
          clear hm hf1 hM8 hgr HM7 HI7 HW7 HB7 BK7 BK97 BK107
          go_upto_region 12 with (fail)
          clear hrun hlk h90 h91 h100
          have h90 : W8.cell? ⟨g9, 0, none⟩ = some (.string p) := (blk_cell BK98.out 0).trans rfl
          have h100 : W8.cell? ⟨g10, 0, none⟩ = some (.int .i64 nd.f0) := (blk_cell BK108.out 0).trans rfl
          have h101 : W8.cell? ⟨g10, 1, none⟩ = some (.int .i64 nd.f1) := (blk_cell BK108.out 1).trans rfl
          have h102 : W8.cell? ⟨g10, 2, none⟩ = some (.int .i64 nd.f2) := (blk_cell BK108.out 2).trans rfl
          have h103 : W8.cell? ⟨g10, 3, none⟩ = some (.int .i64 nd.f3) := (blk_cell BK108.out 3).trans rfl
          have h104 : W8.cell? ⟨g10, 4, none⟩ = some (.int .i64 nd.f4) := (blk_cell BK108.out 4).trans rfl
          have h105 : W8.cell? ⟨g10, 5, none⟩ = some (.string nd.f5) := (blk_cell BK108.out 5).trans rfl
          go_wp2_with (first | ((with_reducible refine gate_dst (N := 73) rfl ?_); refine Kd.R_append k52 (w0 := w) (W := W8) w.heap.size rfl (.tmp 55) (.tmp 72) 26 52 (.agg #[.string ⟨#[]⟩, .int .i64 0, .int .i64 0, .int .i64 0, .int .i64 0, .int .i64 0, .int .i64 0, .string ⟨#[]⟩]) 80 rfl Tryd.underlying26 itemInfo rfl (by decide) (by omega) _ ((itemsG ns [] r).take i) ⟨p, nd.f0, nd.f1, nd.f2, nd.f3, nd.f4, (i : Int), nd.f5⟩ [.string p, .int .i64 nd.f0, .int .i64 nd.f1, .int .i64 nd.f2, .int .i64 nd.f3, .int .i64 nd.f4, .int .i64 (i : Int), .string nd.f5] (fun k => gi ≤ k ∧ k ≠ gi + 1) (fun _ => False) rfl rfl (k52_mkM _ _ _ _) (fun _ h => h.elim) ?hf HI8.out HB8.out HB8.out.size ?hl ?_; (case hf => (intro j hj; have := HSZ.out; have := HSZ2.out; have := HSZ8.out; omega)); (case hl => (have := HTL.out; omega)); intro v1 w1 ho1 hb1 hg1 hat1))
          have HI9 : Aside0 (Kd.R k52 52 w1 w.heap.size (fun k => gi ≤ k ∧ k ≠ gi + 1) v1 ((itemsG ns [] r).take (i + 1))) := ⟨by rw [HTK.out, HIT.out]; exact ho1⟩
          have HB9 := Aside0.mk hb1
          have HW9 : Aside0 (Kd.R kW 46 w1 w.heap.size (fun k => k = gw) (.slice (some ⟨gw, 0, none⟩) r.length cw) r) := ⟨by
            obtain ⟨inner, hown⟩ := Kd.R_own HW8.out
            obtain ⟨cells, hc⟩ := own_typed hown gw rfl
            exact Kd.R_grown HW8.out hg1 (fun k hk => by subst hk; exact Kd.R_ne HI8.out hc (by decide))⟩
          have BK9 := Aside0.mk ((hg1.block _ (blk_lt BK8.out) (fun e => by have := (HI8.out.1 _ e.symm).1; have := HGI.out; omega)).trans BK8.out)
          have HM9 : Aside0 (MapN w1 (gi + 1) (n + 1) (firstN ((r.take (i + 1)).map Prod.snd))) := ⟨by rw [HPK.out, HFN.out, HPL.out]; exact HM8.out.kept (hg1.block _ HM8.out.lt (fun e => (HI8.out.1 _ e.symm).2 rfl))⟩
          clear ho1 hb1 hg1 hat1 HI8 HM8 HB8 HW8 BK8 BK98 BK108 h90 h100 h101 h102 h103 h104 h105
          go_wp2
          go_roundw
          case rel => exact ⟨i + 1, n + 1, HLT.out, by first | rfl | go_num, by have := HNI.out; omega, HI9, HM9, HW9, BK9, HB9⟩
          case measure => have := HLT.out; simp [intOf]; omega

end Go.Proofs.YthalkpflbbpniaaDoor.Q

/- What the laws over file systems ask beside the two functions: copies, sizes, equality. -/
namespace Go.Proofs.YthalkpflbbpniaaDoor.Q
open Go.RowKit Go.Proofs.YthalkpflbbpniaaDoorW.PrintWords Go.Proofs.YthalkpflbbpniaaDoorW.PrintLast Go.Proofs.YthalkpflbbpniaaDoorW.PrintMore
attribute [local go_sem] max2_int min2_int max_two min_two max_three min_three max_four min_four   -- for this text's walks alone
set_option linter.unusedVariables false
set_option linter.unusedSimpArgs false

abbrev Ln := S60
abbrev Le := S91
def convE (x : Le) : En := ⟨x.f0, x.f1⟩
def convN (x : Ln) : Nd := ⟨x.f0, x.f1, x.f2, x.f3, x.f4, x.f5, x.f6.map convE⟩
theorem rdLe (xs : List Le) (i : Nat) (h : i < xs.length) : rd_T91 xs (i : Int) = xs[i] := by unfold rd_T91; simp [List.getD, h]
theorem rdLn (xs : List Ln) (i : Nat) (h : i < xs.length) : rd_T60 xs (i : Int) = xs[i] := by unfold rd_T60; simp [List.getD, h]
theorem szEntry_ev (x : Le) (a : Int) (h0 : x.f0.size ≤ maxLen) (ha : 0 ≤ a) (ha2 : a ≤ 1048576) :
    ∃ r, laws_szEntry.f x.f0 x.f1 a = some r ∧ r ≤ 1048576 ∧ (0 ≤ r → x.f0.size ≤ 1048576) := by
  unfold laws_szEntry.f wrap64
  unfold maxLen at h0
  split
  · exact ⟨_, rfl, by omega, by omega⟩
  · exact ⟨_, rfl, by omega, by omega⟩
theorem szEntryS_loop (l : List Le) (hl : l.length ≤ 1048576) (hs : ∀ x ∈ l, x.f0.size ≤ maxLen) (d : Nat) : ∀ (i : Nat) (a : Int), i + d = l.length → 0 ≤ a → a ≤ 1048576 →
    ∃ r, Ev (fun k => laws_szEntryS.l0 k l a (i : Int)) r ∧ r ≤ 1048576 ∧ (0 ≤ r → ∀ x ∈ l.drop i, x.f0.size ≤ 1048576) := by
  induction d with
  | zero =>
    intro i a hi h0 h1
    refine ⟨a, Ev.step (f := fun _ => some a) (fun k => ?_) (Ev.now a), h1, fun _ => ?_⟩
    · simp only [laws_szEntryS.l0]; rw [if_neg (by omega)]
    · rw [List.drop_of_length_le (by omega)]; simp
  | succ d ih =>
    intro i a hi h0 h1
    have hlt : i < l.length := by omega
    obtain ⟨r, hr, hr1, hr2⟩ := szEntry_ev l[i] a (hs l[i] (List.getElem_mem hlt)) h0 h1
    have e : ∀ k, laws_szEntryS.l0 (k + 1) l a (i : Int) = if r < 0 then some (-1) else laws_szEntryS.l0 k l r ((i + 1 : Nat) : Int) := fun k => by
      simp only [laws_szEntryS.l0]
      rw [if_pos (by omega), if_pos (by omega), rdLe _ _ hlt, hr, step_n (i := i) (n := l.length) hlt (by omega)]; rfl
    by_cases hc : r < 0
    · exact ⟨-1, Ev.step (f := fun _ => some (-1)) (fun k => by rw [e k, if_pos hc]) (Ev.now _), by omega, by omega⟩
    · obtain ⟨q, hq, hq1, hq2⟩ := ih (i + 1) r (by omega) (by omega) hr1
      refine ⟨q, Ev.step (f := fun k => laws_szEntryS.l0 k l r ((i + 1 : Nat) : Int)) (fun k => by rw [e k, if_neg hc]) hq, hq1, fun h => ?_⟩
      rw [List.drop_eq_getElem_cons hlt]
      intro x hx
      rcases List.mem_cons.mp hx with rfl | hx
      · exact hr2 (by omega)
      · exact hq2 h x hx
theorem szEntryS_ev (l : List Le) (hl : l.length ≤ maxLen) (hs : ∀ x ∈ l, x.f0.size ≤ maxLen) (a : Int) (h0 : 0 ≤ a) (h1 : a ≤ 1048576) :
    ∃ r, Ev (fun k => laws_szEntryS.f k l a) r ∧ r ≤ 1048576 ∧ (0 ≤ r → l.length ≤ 1048576 ∧ ∀ x ∈ l, x.f0.size ≤ 1048576) := by
  have e : wrap64 (a - (l.length : Int)) = a - l.length := by unfold wrap64; unfold maxLen at hl; omega
  by_cases hc : a - (l.length : Int) < 0
  · exact ⟨-1, Ev.congr (f := fun _ => some (-1)) (fun k => by simp only [laws_szEntryS.f]; rw [e, if_pos hc]) (Ev.now _), by omega, by omega⟩
  · obtain ⟨r, hr, h, hz⟩ := szEntryS_loop l (by omega) hs l.length 0 (a - l.length) (by omega) (by omega) (by omega)
    exact ⟨r, Ev.congr (fun k => by simp only [laws_szEntryS.f]; rw [e, if_neg hc]; rfl) hr, h, fun hr => ⟨by omega, by simpa using hz hr⟩⟩
structure LnBig (x : Ln) : Prop where
  data : x.f5.size ≤ maxLen
  len : x.f6.length ≤ maxLen
  name : ∀ e ∈ x.f6, e.f0.size ≤ maxLen
structure LnFit (x : Ln) : Prop where
  data : x.f5.size ≤ 1048576
  len : x.f6.length ≤ 1048576
  name : ∀ e ∈ x.f6, e.f0.size ≤ 1048576
theorem szNode_ev (x : Ln) (hx : LnBig x) (a : Int) (h0 : 0 ≤ a) (h1 : a ≤ 1048576) :
    ∃ r, Ev (fun k => laws_szNode.f k x.f0 x.f1 x.f2 x.f3 x.f4 x.f5 x.f6 a) r ∧ r ≤ 1048576 ∧ (0 ≤ r → LnFit x) := by
  have hd := hx.data
  have e : wrap64 (a - (x.f5.size : Int)) = a - x.f5.size := by unfold wrap64; unfold maxLen at hd; omega
  by_cases hc : a - (x.f5.size : Int) < 0
  · exact ⟨-1, Ev.congr (f := fun _ => some (-1)) (fun k => by simp only [laws_szNode.f]; rw [e, if_pos hc]) (Ev.now _), by omega, by omega⟩
  · obtain ⟨r, hr, h, hz⟩ := szEntryS_ev x.f6 hx.len hx.name (a - x.f5.size) (by omega) (by omega)
    by_cases hn : r < 0
    · refine ⟨-1, Ev.congr (f := fun k => (laws_szEntryS.f k x.f6 (a - x.f5.size)).bind fun t => if t < 0 then some (-1) else some t) (fun k => by simp only [laws_szNode.f]; rw [e, if_neg hc]) (Ev.bind hr (Ev.congr (f := fun _ => some (-1)) (fun k => by rw [if_pos hn]) (Ev.now _))), by omega, by omega⟩
    · refine ⟨r, Ev.congr (f := fun k => (laws_szEntryS.f k x.f6 (a - x.f5.size)).bind fun t => if t < 0 then some (-1) else some t) (fun k => by simp only [laws_szNode.f]; rw [e, if_neg hc]) (Ev.bind hr (Ev.congr (f := fun _ => some r) (fun k => by rw [if_neg hn]) (Ev.now _))), h, fun hp => ⟨by omega, (hz hp).1, (hz hp).2⟩⟩
theorem szNodeS_loop (l : List Ln) (hl : l.length ≤ 1048576) (hs : ∀ x ∈ l, LnBig x) (d : Nat) : ∀ (i : Nat) (a : Int), i + d = l.length → 0 ≤ a → a ≤ 1048576 →
    ∃ r, Ev (fun k => laws_szNodeS.l0 k l a (i : Int)) r ∧ r ≤ 1048576 ∧ (0 ≤ r → ∀ x ∈ l.drop i, LnFit x) := by
  induction d with
  | zero =>
    intro i a hi h0 h1
    refine ⟨a, Ev.step (f := fun _ => some a) (fun k => ?_) (Ev.now a), h1, fun _ => ?_⟩
    · simp only [laws_szNodeS.l0]; rw [if_neg (by omega)]
    · rw [List.drop_of_length_le (by omega)]; simp
  | succ d ih =>
    intro i a hi h0 h1
    have hlt : i < l.length := by omega
    obtain ⟨r, hr, hr1, hr2⟩ := szNode_ev l[i] (hs l[i] (List.getElem_mem hlt)) a h0 h1
    have e : ∀ k, laws_szNodeS.l0 (k + 1) l a (i : Int) = (laws_szNode.f k l[i].f0 l[i].f1 l[i].f2 l[i].f3 l[i].f4 l[i].f5 l[i].f6 a).bind fun t => if t < 0 then some (-1) else laws_szNodeS.l0 k l t ((i + 1 : Nat) : Int) := fun k => by
      simp only [laws_szNodeS.l0]
      rw [if_pos (by omega), if_pos (by omega), rdLn _ _ hlt, step_n (i := i) (n := l.length) hlt (by omega)]
    by_cases hc : r < 0
    · exact ⟨-1, Ev.step e (Ev.bind hr (Ev.congr (f := fun _ => some (-1)) (fun k => by rw [if_pos hc]) (Ev.now _))), by omega, by omega⟩
    · obtain ⟨q, hq, hq1, hq2⟩ := ih (i + 1) r (by omega) (by omega) hr1
      refine ⟨q, Ev.step e (Ev.bind hr (Ev.congr (fun k => by rw [if_neg hc]) hq)), hq1, fun h => ?_⟩
      rw [List.drop_eq_getElem_cons hlt]
      intro x hx
      rcases List.mem_cons.mp hx with rfl | hx
      · exact hr2 (by omega)
      · exact hq2 h x hx
theorem conv_fit {l : List Ln} (h0 : l.length ≤ 1048576) (h : ∀ x ∈ l, LnFit x) : FsFit (l.map convN) := by
  refine ⟨by rw [List.length_map]; exact h0, fun x hx => ?_, fun x hx => ?_, fun x hx e he => ?_⟩
  · obtain ⟨y, hy, rfl⟩ := List.mem_map.mp hx; exact (h y hy).data
  · obtain ⟨y, hy, rfl⟩ := List.mem_map.mp hx; show (y.f6.map convE).length ≤ _; rw [List.length_map]; exact (h y hy).len
  · obtain ⟨y, hy, rfl⟩ := List.mem_map.mp hx
    obtain ⟨z, hz, rfl⟩ := List.mem_map.mp (show e ∈ y.f6.map convE from he)
    exact (h y hy).name z hz
/-- What is left of the law's measure: below 0, or the file system is one of no great size. -/
theorem szFs_ev (l : List Ln) (room : Int) (hl : l.length ≤ maxLen) (hs : ∀ x ∈ l, LnBig x) (a : Int) (h0 : 0 ≤ a) (h1 : a ≤ 1048576) :
    ∃ r, Ev (fun k => laws_szFs.f k l room a) r ∧ r ≤ 1048576 ∧ (0 ≤ r → l.length ≤ 1048576 ∧ (∀ x ∈ l, LnFit x) ∧ FsFit (l.map convN)) := by
  have e : wrap64 (a - (l.length : Int)) = a - l.length := by unfold wrap64; unfold maxLen at hl; omega
  by_cases hc : a - (l.length : Int) < 0
  · have hN : Ev (fun k => laws_szNodeS.f k l a) (-1) := Ev.congr (f := fun _ => some (-1)) (fun k => by simp only [laws_szNodeS.f]; rw [e, if_pos hc]) (Ev.now _)
    refine ⟨-1, Ev.congr (f := fun k => (laws_szNodeS.f k l a).bind fun t => if t < 0 then some (-1) else some t) (fun k => by simp only [laws_szFs.f]) (Ev.bind hN (Ev.congr (f := fun _ => some (-1)) (fun k => by rw [if_pos (by omega)]) (Ev.now _))), by omega, by omega⟩
  · obtain ⟨r, hr, h, hz⟩ := szNodeS_loop l (by omega) hs l.length 0 (a - l.length) (by omega) (by omega) (by omega)
    have hN : Ev (fun k => laws_szNodeS.f k l a) r := Ev.congr (fun k => by simp only [laws_szNodeS.f]; rw [e, if_neg hc]; rfl) hr
    by_cases hn : r < 0
    · refine ⟨-1, Ev.congr (f := fun k => (laws_szNodeS.f k l a).bind fun t => if t < 0 then some (-1) else some t) (fun k => by simp only [laws_szFs.f]) (Ev.bind hN (Ev.congr (f := fun _ => some (-1)) (fun k => by rw [if_pos hn]) (Ev.now _))), by omega, by omega⟩
    · refine ⟨r, Ev.congr (f := fun k => (laws_szNodeS.f k l a).bind fun t => if t < 0 then some (-1) else some t) (fun k => by simp only [laws_szFs.f]) (Ev.bind hN (Ev.congr (f := fun _ => some r) (fun k => by rw [if_neg hn]) (Ev.now _))), h, fun hp => ?_⟩
      have hall : ∀ x ∈ l, LnFit x := by simpa using hz hp
      exact ⟨by omega, hall, conv_fit (by omega) hall⟩
theorem toEntryS_loop (l0 : List Le) (hl : l0.length ≤ 1048576) (d : Nat) : ∀ (i : Nat) (acc : List En), i + d = l0.length → acc.length = l0.length →
    Ev (fun k => laws_toEntryS.l0 k l0 acc (i : Int)) (acc.take i ++ (l0.drop i).map convE) := by
  induction d with
  | zero =>
    intro i acc hi ha
    refine Ev.step (f := fun _ => some acc) (fun k => ?_) ?_
    · simp only [laws_toEntryS.l0]; rw [if_neg (by omega)]
    · have : acc.take i ++ (l0.drop i).map convE = acc := by
        rw [List.drop_of_length_le (by omega), List.take_of_length_le (by omega)]; simp
      rw [this]; exact Ev.now acc
  | succ d ih =>
    intro i acc hi ha
    have hlt : i < l0.length := by omega
    have := ih (i + 1) (acc.set i (convE l0[i])) (by omega) (by simpa using ha)
    refine Ev.step (f := fun k => laws_toEntryS.l0 k l0 (acc.set i (convE l0[i])) ((i + 1 : Nat) : Int)) (fun k => ?_) ?_
    · simp only [laws_toEntryS.l0]
      rw [if_pos (by omega), if_pos (by omega)]
      simp only [laws_toEntry.f, Option.bind_some]
      rw [if_pos (by omega), step_n (i := i) (n := l0.length) hlt (by omega), rdLe _ _ hlt]; rfl
    · have e : (acc.set i (convE l0[i])).take (i + 1) ++ (l0.drop (i + 1)).map convE = acc.take i ++ (l0.drop i).map convE := by
        rw [List.drop_eq_getElem_cons hlt, List.map_cons, List.take_succ_eq_append_getElem (by simp; omega), List.take_set_of_le (by omega), List.getElem_set_self, List.append_assoc]; rfl
      rw [← e]; exact this
theorem toEntryS_ev (l0 : List Le) (hl : l0.length ≤ 1048576) : Ev (fun k => laws_toEntryS.f k l0) (l0.map convE) := by
  refine Ev.congr (f := fun k => laws_toEntryS.l0 k l0 (List.replicate l0.length z80) ((0 : Nat) : Int)) (fun k => ?_) ?_
  · simp only [laws_toEntryS.f]
    rw [if_pos (by omega), if_pos (by omega)]; rfl
  · simpa using toEntryS_loop l0 hl l0.length 0 (List.replicate l0.length z80) (by omega) (by simp)
theorem toNodeS_loop (l0 : List Ln) (hl : l0.length ≤ 1048576) (hs : ∀ x ∈ l0, LnFit x) (d : Nat) : ∀ (i : Nat) (acc : List Nd), i + d = l0.length → acc.length = l0.length →
    Ev (fun k => laws_toNodeS.l0 k l0 acc (i : Int)) (acc.take i ++ (l0.drop i).map convN) := by
  induction d with
  | zero =>
    intro i acc hi ha
    refine Ev.step (f := fun _ => some acc) (fun k => ?_) ?_
    · simp only [laws_toNodeS.l0]; rw [if_neg (by omega)]
    · have : acc.take i ++ (l0.drop i).map convN = acc := by
        rw [List.drop_of_length_le (by omega), List.take_of_length_le (by omega)]; simp
      rw [this]; exact Ev.now acc
  | succ d ih =>
    intro i acc hi ha
    have hlt : i < l0.length := by omega
    have h := ih (i + 1) (acc.set i (convN l0[i])) (by omega) (by simpa using ha)
    have e : (acc.set i (convN l0[i])).take (i + 1) ++ (l0.drop (i + 1)).map convN = acc.take i ++ (l0.drop i).map convN := by
      rw [List.drop_eq_getElem_cons hlt, List.map_cons, List.take_succ_eq_append_getElem (by simp; omega), List.take_set_of_le (by omega), List.getElem_set_self, List.append_assoc]; rfl
    rw [e] at h
    have ht := toEntryS_ev l0[i].f6 (hs _ (List.getElem_mem hlt)).len
    refine Ev.step (f := fun k => (laws_toEntryS.f k l0[i].f6).bind fun t => laws_toNodeS.l0 k l0 (acc.set i ⟨l0[i].f0, l0[i].f1, l0[i].f2, l0[i].f3, l0[i].f4, l0[i].f5, t⟩) ((i + 1 : Nat) : Int)) (fun k => ?_) (Ev.bind ht h)
    simp only [laws_toNodeS.l0]
    rw [if_pos (by omega), if_pos (by omega)]
    simp only [laws_toNode.f]
    rw [rdLn _ _ hlt, step_n (i := i) (n := l0.length) hlt (by omega)]
    cases laws_toEntryS.f k l0[i].f6 with
    | none => rfl
    | some t => simp only [Option.bind_some]; rw [if_pos (by omega)]; rfl
theorem toFs_ev (l0 : List Ln) (room : Int) (hl : l0.length ≤ 1048576) (hs : ∀ x ∈ l0, LnFit x) : Ev (fun k => laws_toFs.f k l0 room) (l0.map convN, room) := by
  have h : Ev (fun k => laws_toNodeS.f k l0) (l0.map convN) := by
    refine Ev.congr (f := fun k => laws_toNodeS.l0 k l0 (List.replicate l0.length z49) ((0 : Nat) : Int)) (fun k => ?_) ?_
    · simp only [laws_toNodeS.f]
      rw [if_pos (by omega), if_pos (by omega)]; rfl
    · simpa using toNodeS_loop l0 hl hs l0.length 0 (List.replicate l0.length z49) (by omega) (by simp)
  exact Ev.congr (fun k => by simp only [laws_toFs.f]) (Ev.bind (f := fun _ t => some (t, room)) h (Ev.now _))
theorem eqEntryS_ev (l : List En) (hl : l.length ≤ 1048576) : Ev (fun k => laws_eqEntryS.f k l l) true := by
  have key : ∀ d i : Nat, i + d = l.length → Ev (fun k => laws_eqEntryS.l0 k l l (i : Int)) true := by
    intro d
    induction d with
    | zero =>
      intro i hi
      refine Ev.step (f := fun _ => some true) (fun k => ?_) (Ev.now true)
      simp only [laws_eqEntryS.l0]; rw [if_neg (by omega)]
    | succ d ih =>
      intro i hi
      have hlt : i < l.length := by omega
      refine Ev.step (f := fun k => laws_eqEntryS.l0 k l l ((i + 1 : Nat) : Int)) (fun k => ?_) (ih (i + 1) (by omega))
      simp only [laws_eqEntryS.l0]
      rw [if_pos (by omega), if_pos (by omega), if_pos (by omega), rdEn _ _ hlt, step_n (i := i) (n := l.length) hlt (by omega)]
      simp [laws_eqEntry.f]
  refine Ev.congr (f := fun k => laws_eqEntryS.l0 k l l ((0 : Nat) : Int)) (fun k => ?_) (key l.length 0 (by omega))
  simp only [laws_eqEntryS.f, if_true]; rfl
end Go.Proofs.YthalkpflbbpniaaDoor.Q

/- The mark of a number. -/
namespace Go.Proofs.YthalkpflbbpniaaDoor.Q
open Go.RowKit Go.Proofs.YthalkpflbbpniaaDoorW.PrintWords Go.Proofs.YthalkpflbbpniaaDoorW.PrintLast Go.Proofs.YthalkpflbbpniaaDoorW.PrintMore
attribute [local go_sem] max2_int min2_int max_two min_two max_three min_three max_four min_four   -- for this text's walks alone
set_option linter.unusedVariables false
set_option linter.unusedSimpArgs false

theorem mark_one (n : Int) (h0 : 0 ≤ n) (h1 : n < 10) : (strOfNums ([(wrap64 (48 + n)) % 256] : List Int)).size = 1 := by
  obtain ⟨i, rfl⟩ : ∃ i : Fin 10, n = (i.val : Int) := ⟨⟨n.toNat, by omega⟩, by simp; omega⟩
  revert i
  decide +kernel
theorem markText_loop : ∀ (u : Nat) (x : ByteArray), u + x.size ≤ 4611686018427387904 → ∃ r, Ev (fun k => laws_markText.l0 k (u : Int) x) r := by
  intro u
  induction u using Nat.strongRecOn with
  | _ u ih =>
    intro x hx
    by_cases h : u = 0
    · refine ⟨(⟨#[109]⟩ : ByteArray) ++ x, Ev.step (f := fun _ => some ((⟨#[109]⟩ : ByteArray) ++ x)) (fun k => ?_) (Ev.now _)⟩
      simp only [laws_markText.l0]
      rw [if_neg (by omega), if_pos (by omega)]
    · have e1 : wrap64 (Int.tdiv (u : Int) 10) = ((u / 10 : Nat) : Int) := by
        rw [Int.tdiv_eq_ediv_of_nonneg (by omega)]; unfold wrap64; omega
      have e2 : Int.tmod (u : Int) 10 = ((u % 10 : Nat) : Int) := by
        rw [Int.tmod_eq_emod_of_nonneg (by omega)]; omega
      have e3 := mark_one ((u % 10 : Nat) : Int) (by omega) (by omega)
      obtain ⟨r, hr⟩ := ih (u / 10) (by omega) (strOfNums ([(wrap64 (48 + ((u % 10 : Nat) : Int))) % 256] : List Int) ++ x) (by rw [ByteArray.size_append, e3]; omega)
      refine ⟨r, Ev.step (fun k => ?_) hr⟩
      simp only [laws_markText.l0]
      rw [if_pos (by omega), e1, e2]
      simp only [Option.bind_some]
      rw [if_pos (by omega)]
theorem markText_ev (n : Int) (h0 : 0 ≤ n) (h1 : n ≤ 4611686018427387904) : ∃ r, Ev (fun k => laws_markText.f k n) r := by
  unfold laws_markText.f
  by_cases h : n ≤ 0
  · exact ⟨_, Ev.congr (fun k => by rw [if_pos h]) (Ev.now _)⟩
  · obtain ⟨r, hr⟩ := markText_loop n.toNat ⟨#[]⟩ (by show n.toNat + 0 ≤ _; omega)
    rw [Int.toNat_of_nonneg h0] at hr
    exact ⟨r, Ev.congr (fun k => by rw [if_neg h]) hr⟩
open Classical in
/-- The mark of a number. -/
noncomputable def markB (n : Int) : ByteArray := if h : ∃ r, Ev (fun k => laws_markText.f k n) r then Classical.choose h else ⟨#[]⟩
theorem markB_ev (n : Int) (h0 : 0 ≤ n) (h1 : n ≤ 4611686018427387904) : Ev (fun k => laws_markText.f k n) (markB n) := by
  have h := markText_ev n h0 h1
  unfold markB
  rw [dif_pos h]
  exact Classical.choose_spec h

end Go.Proofs.YthalkpflbbpniaaDoor.Q
