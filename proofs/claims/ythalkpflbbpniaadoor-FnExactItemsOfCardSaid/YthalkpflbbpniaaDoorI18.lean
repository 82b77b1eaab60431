/- Texts of this claim, merged by a program (wip/tools/merge.py): HMarkNode, HMarkFs, HMarkItem, HHeldItem, HEqSelf, HWalkItems. -/
import Derived.Test.YthalkpflbbpniaaDoorI1
import Derived.Test.YthalkpflbbpniaaDoorI4
import Derived.Test.YthalkpflbbpniaaDoorI5
import Derived.Test.YthalkpflbbpniaaDoorI17
import Derived.Test.YthalkpflbbpniaaDoorI15
import Derived.Outline
import Derived.Test.YthalkpflbbpniaaDoorI6
import Derived.Test.YthalkpflbbpniaaDoorI9
import Derived.Deep.RegionHeld3
import Derived.Test.YthalkpflbbpniaaDoorI16
/- Marks written into the nodes of a file system that the law itself has made, nested rows and all: laws.markNodeS, markFs, by hand. -/
namespace Go.Proofs.YthalkpflbbpniaaDoor.Q
open Go.RowKit Go.Proofs.YthalkpflbbpniaaDoorW.PrintWords Go.Proofs.YthalkpflbbpniaaDoorW.PrintLast Go.Proofs.YthalkpflbbpniaaDoorW.PrintMore
attribute [local go_sem] max2_int min2_int max_two min_two max_three min_three max_four min_four   -- for this text's walks alone
set_option linter.unusedVariables false
set_option linter.unusedSimpArgs false

noncomputable def markE (n : Int) : En := ⟨markB n, n + 1⟩
noncomputable def markEL (n : Int) : Nat → List En
  | 0 => []
  | d + 1 => markE n :: markEL (n + 2) d
theorem rd_setE (l : List En) (i : Nat) (v : En) (h : i < l.length) : rd_T80 (l.set i v) (i : Int) = v := by
  rw [rdEn _ _ (by rw [List.length_set]; exact h)]; simp
theorem markEntryS_loop (d : Nat) : ∀ (l : List En) (i : Nat) (n : Int), i + d = l.length → l.length ≤ 1048576 → 0 ≤ n → n + 2 * d ≤ 4611686018427380000 →
    Ev (fun k => laws_markEntryS.l0 k l n (i : Int)) (n + 2 * d, l.take i ++ markEL n d) := by
  induction d with
  | zero =>
    intro l i n hi hl h0 h1
    rw [List.take_of_length_le (by omega)]
    refine Ev.step (f := fun _ => some (n, l)) (fun k => ?_) ?_
    · simp only [laws_markEntryS.l0]; rw [if_neg (by omega)]
    · have : ((n + 2 * ((0 : Nat) : Int), l ++ markEL n 0) : Int × List En) = (n, l) := by simp [markEL]
      rw [this]; exact Ev.now _
  | succ d ih =>
    intro l i n hi hl h0 h1
    have hlt : i < l.length := by omega
    have hih := ih (l.set i (markE n)) (i + 1) (n + 2) (by rw [List.length_set]; omega) (by rw [List.length_set]; omega) (by omega) (by omega)
    have w1 : wrap64 (n + 1) = n + 1 := by unfold wrap64; omega
    have w2 : wrap64 (n + 1 + 1) = n + 2 := by unfold wrap64; omega
    refine Ev.step (f := fun k => (laws_markText.f k n).bind fun t => laws_markEntryS.l0 k (l.set i ⟨t, n + 1⟩) (n + 2) ((i + 1 : Nat) : Int)) (fun k => ?_) ?_
    · simp only [laws_markEntryS.l0]
      rw [if_pos (by omega)]
      congr 1
      funext t
      rw [if_pos (by omega)]
      simp only [Option.bind_some, Int.toNat_natCast, rd_setE _ _ _ hlt, List.set_set, w1, w2, step_n (i := i) (n := l.length) hlt (by omega)]
    · refine Ev.bind (markB_ev n h0 (by omega)) ?_
      have e : l.take i ++ markEL n (d + 1) = (l.set i (markE n)).take (i + 1) ++ markEL (n + 2) d := by
        rw [List.take_succ_eq_append_getElem (by simp; omega), List.take_set_of_le (by omega), List.getElem_set_self, List.append_assoc]; rfl
      rw [e, show n + 2 * ((d + 1 : Nat) : Int) = n + 2 + 2 * (d : Int) by omega]
      exact hih
theorem markEntryS_ev (l : List En) (n : Int) (hl : l.length ≤ 1048576) (h0 : 0 ≤ n) (h1 : n ≤ 4611686018420000000) : Ev (fun k => laws_markEntryS.f k l n) (n + 2 * (l.length : Int), markEL n l.length) := by
  have := markEntryS_loop l.length l 0 n (by omega) hl h0 (by omega)
  unfold laws_markEntryS.f
  simpa using this
noncomputable def markN (n : Int) (d : Nat) : Nd := ⟨n, n + 1, n + 2, n + 3, n + 4, markB (n + 5), markEL (n + 6) d⟩
/-- What marking leaves of nodes, and the number behind. -/
noncomputable def markNL : Int → List Nd → List Nd
  | _, [] => []
  | n, x :: r => markN n x.f6.length :: markNL (n + 6 + 2 * (x.f6.length : Int)) r
def markEnd : Int → List Nd → Int
  | n, [] => n
  | n, x :: r => markEnd (n + 6 + 2 * (x.f6.length : Int)) r
theorem markEnd_le : ∀ (l : List Nd) (n : Int), (∀ x ∈ l, x.f6.length ≤ 1048576) → n ≤ markEnd n l ∧ markEnd n l ≤ n + 2097158 * (l.length : Int)
  | [], n, _ => by simp [markEnd]
  | x :: r, n, h => by
    have h1 := markEnd_le r (n + 6 + 2 * (x.f6.length : Int)) (fun y hy => h y (List.mem_cons_of_mem _ hy))
    have h2 := h x (by simp)
    unfold markEnd
    rw [List.length_cons]
    omega
theorem markText_call (m : Int) (h0 : 0 ≤ m) (h1 : m ≤ 4611686018427387904) (W : World) : Calls Tryd.prog 22 #[.int .i64 m] W fun e w' => e = .returned (.string (markB m)) ∧ Below W.heap.size W w' := by
  obtain ⟨K, hK⟩ := markB_ev m h0 h1
  exact laws_markText.calls K m _ W (hK K (Nat.le_refl _))
theorem wr1 {N : Int} (h0 : 0 ≤ N) (h1 : N ≤ 4611686018427387000) : wrap64 (N + 1) = N + 1 := by unfold wrap64; omega
theorem own_shapeM {α : Type} {d : Kd α} {e base : Nat} {ok : Nat → Prop} {w : World} {A : Option Addr} {n c : Nat} {xs : List α} (h : Kd.R d e w base ok (.slice A n c) xs) (hx : 0 < xs.length) : ∃ g, A = some ⟨g, 0, none⟩ ∧ ok g ∧ g < w.heap.size ∧ base ≤ g := by
  obtain ⟨inner, ho⟩ := Kd.R_own h
  rcases ho.2 with ⟨_, h0⟩ | ⟨g, cap, cur, e1, hg, hh, r⟩
  · omega
  · injection e1 with e2 _ _
    exact ⟨g, e2, h.1 g (by rw [e2]; rfl), blk_lt hh, hg⟩
theorem wrq {m : Int} (h0 : 0 ≤ m) (h1 : m ≤ 4611686018427387000) (k j : Int) (hk : 0 ≤ k ∧ k ≤ 100) (hj : j = k + 1) : wrap64 (m + k + 1) = m + j := by unfold wrap64; omega
theorem meas_upM {i n : Nat} {z : Int} (h : i < n) (hz : z = ((i + 1 : Nat) : Int)) : n - (intOf (Value.int .i64 z)).toNat < n - (intOf (Value.int .i64 (i : Int))).toNat := by subst hz; show n - (((i + 1 : Nat) : Int)).toNat < n - ((i : Int)).toNat; omega
set_option maxHeartbeats 8000000 in
set_option maxRecDepth 100000 in
theorem markNodeS_walk (P : Nat → Prop) (v : Value) (l : List Nd) (n : Int) (w0 w : World) (hB : Below w0.heap.size w0 w) (ho : Kd.S k49 49 w w0.heap.size P v l) (hl : l.length ≤ 1048576) (hs : ∀ x ∈ l, x.f6.length ≤ 1048576) (h0 : 0 ≤ n) (h1 : n ≤ 1000000000) :
    Calls Tryd.prog 21 #[v, .int .i64 n] w fun e w' => e = .returned (.int .i64 (markEnd n l)) ∧ Kd.S k49 49 w' w0.heap.size P v (markNL n l) ∧ Below w0.heap.size w0 w' ∧ Kept w w' P := by
  have hu1 := Tryd.underlying49
  have hu2 := Tryd.underlying29
  have HO := Aside0.mk ho
  have HB := Aside0.mk hB
  have HL := Aside0.mk hl
  have HS := Aside0.mk hs
  have H0 := Aside0.mk h0
  have H1 := Aside0.mk h1
  obtain ⟨A0, c0, rfl⟩ := Kd.R_slice (Kd.S_R ho)
  clear ho hB hl hs h0 h1
  go_enter Tryd.func21, Tryd.ntmps21
  go_wp2
  go_loopw [1, 5] (fun v1 v5 wr => ∃ (i : Nat) (m : Int) (q : List Nd), i ≤ l.length ∧ v1 = .int .i64 m ∧ v5 = .int .i64 (i : Int) ∧ Aside0 (q.length = i ∧ 0 ≤ m ∧ m ≤ n + 2097158 * (i : Int)) ∧ Aside0 (Kd.S k49 49 wr w0.heap.size P (.slice A0 l.length c0) (q ++ l.drop i)) ∧ Aside0 (q ++ markNL m (l.drop i) = markNL n l ∧ markEnd m (l.drop i) = markEnd n l) ∧ Aside0 (Below w0.heap.size w0 wr) ∧ Aside0 (Kept w wr P)) (fun _ v5 _ => l.length - (intOf v5).toNat)
  case atStart => exact ⟨0, n, [], Nat.zero_le _, rfl, rfl, ⟨rfl, H0.out, by omega⟩, ⟨by rw [List.nil_append, List.drop_zero]; exact HO.out⟩, ⟨rfl, rfl⟩, HB, ⟨Kept.refl _ _⟩⟩
  case round =>
    clear HO HB
    obtain ⟨i, m, q, hi, rfl, rfl, HQ, HO, HE, HB, HK⟩ := hrel
    by_cases hlt : i < l.length
    case neg =>
      have hil : i = l.length := by omega
      subst hil
      have p9 : decide ((l.length : Int) < (l.length : Int)) = false := by simp
      have HE2 : Aside0 (q = markNL n l ∧ m = markEnd n l) := ⟨by
        have h := HE.out
        rw [List.drop_length] at h
        exact ⟨by rw [← h.1]; simp [markNL], h.2⟩⟩
      clear hlt hi
      go_wp2
      go_ret
      refine ⟨by rw [HE2.out.2]; rfl, ?_, HB.out, HK.out⟩
      have h := HO.out
      rw [List.drop_length, List.append_nil, HE2.out.1] at h
      exact h
    case pos =>
      have hq := HQ.out
      have hxl : (q ++ l.drop i).length = l.length := by rw [List.length_append, List.length_drop]; omega
      obtain ⟨go, hgo, hPg, hgl, hgb⟩ := own_shapeM (Kd.S_R HO.out) (by omega)
      subst hgo
      obtain ⟨oki, ce, hcl, hM, hcc, hfr, hoki, hH⟩ := Kd.S_elem HO.out z49 (i : Int) (by omega) (by omega)
      obtain ⟨x, hx⟩ : ∃ x, x = l[i] := ⟨_, rfl⟩
      have hxx : (q ++ l.drop i).getD (i : Int).toNat z49 = x := by
        rw [Int.toNat_natCast, List.getD_eq_getElem?_getD, List.getElem?_append_right (by omega), hq.1, Nat.sub_self, List.drop_eq_getElem_cons hlt, hx]; rfl
      rw [hxx] at hM
      obtain ⟨v6, rfl, g6⟩ := k49_openM hM
      obtain ⟨A6, c6, rfl⟩ := Kd.R_slice g6
      have hx0 : wr.cell? ⟨go, i * 7, none⟩ = some (.int .i64 x.f0) := hcc 0 _ rfl
      have hx1 : wr.cell? ⟨go, i * 7 + 1, none⟩ = some (.int .i64 x.f1) := hcc 1 _ rfl
      have hx2 : wr.cell? ⟨go, i * 7 + 2, none⟩ = some (.int .i64 x.f2) := hcc 2 _ rfl
      have hx3 : wr.cell? ⟨go, i * 7 + 3, none⟩ = some (.int .i64 x.f3) := hcc 3 _ rfl
      have hx4 : wr.cell? ⟨go, i * 7 + 4, none⟩ = some (.int .i64 x.f4) := hcc 4 _ rfl
      have hx5 : wr.cell? ⟨go, i * 7 + 5, none⟩ = some (.string x.f5) := hcc 5 _ rfl
      have hx6 : wr.cell? ⟨go, i * 7 + 6, none⟩ = some (.slice A6 x.f6.length c6) := hcc 6 _ rfl
      have hf0 : wr.frozen? ⟨go, i * 7, none⟩ = false := hfr 0
      have hf1 : wr.frozen? ⟨go, i * 7 + 1, none⟩ = false := hfr 1
      have hf2 : wr.frozen? ⟨go, i * 7 + 2, none⟩ = false := hfr 2
      have hf3 : wr.frozen? ⟨go, i * 7 + 3, none⟩ = false := hfr 3
      have hf4 : wr.frozen? ⟨go, i * 7 + 4, none⟩ = false := hfr 4
      have hf5 : wr.frozen? ⟨go, i * 7 + 5, none⟩ = false := hfr 5
      have HXL : Aside0 (x.f6.length ≤ 1048576) := ⟨HS.out x (by rw [hx]; exact List.getElem_mem hlt)⟩
      have HMB : Aside0 (0 ≤ m ∧ m ≤ 2300000000000) := ⟨hq.2.1, by have := hq.2.2; have := HL.out; have := H1.out; omega⟩
      have HDR : Aside0 (l.drop i = x :: l.drop (i + 1)) := ⟨by rw [List.drop_eq_getElem_cons hlt, hx]⟩
      have HLT := Aside0.mk hlt
      have p9 : decide ((i : Int) < (l.length : Int)) = true := decide_eq_true (by omega)
      have p8 : ((i : Int) < (l.length : Int)) = True := eq_true (by omega)
      have p7 : ((0 : Int) ≤ (i : Int)) = True := eq_true (by omega)
      have hwi : wrap64 ((i : Int) + 1) = ((i + 1 : Nat) : Int) := step_n (i := i) (n := l.length) hlt (by have := HL.out; omega)
      have HWI := Aside0.mk hwi
      have wa1 : wrap64 (m + 1) = m + 1 := wr1 HMB.out.1 (by have := HMB.out; omega)
      have wa2 : wrap64 (m + 1 + 1) = m + 2 := wrq HMB.out.1 (by have := HMB.out; omega) 1 2 (by omega) (by omega)
      have wa3 : wrap64 (m + 2 + 1) = m + 3 := wrq HMB.out.1 (by have := HMB.out; omega) 2 3 (by omega) (by omega)
      have wa4 : wrap64 (m + 3 + 1) = m + 4 := wrq HMB.out.1 (by have := HMB.out; omega) 3 4 (by omega) (by omega)
      have wa5 : wrap64 (m + 4 + 1) = m + 5 := wrq HMB.out.1 (by have := HMB.out; omega) 4 5 (by omega) (by omega)
      have wa6 : wrap64 (m + 5 + 1) = m + 6 := wrq HMB.out.1 (by have := HMB.out; omega) 5 6 (by omega) (by omega)
      have HH := Aside0.mk hH
      have G6 := Aside0.mk g6
      have HOK := Aside0.mk hoki
      have HGO : Aside0 (P go ∧ w0.heap.size ≤ go ∧ go < wr.heap.size) := ⟨hPg, hgb, hgl⟩
      have HXS := Aside0.mk hxl
      clear hq hxl hPg hgl hgb hcl hM hcc hfr hoki hH hx hxx g6 hlt hi
      go_upto_region 14 with (fail)
      obtain ⟨W1, hW1⟩ : ∃ V, V = ((((wr.setCell ⟨go, i * 7, none⟩ (.int .i64 m)).setCell ⟨go, i * 7 + 1, none⟩ (.int .i64 (m + 1))).setCell ⟨go, i * 7 + 2, none⟩ (.int .i64 (m + 2))).setCell ⟨go, i * 7 + 3, none⟩ (.int .i64 (m + 3))).setCell ⟨go, i * 7 + 4, none⟩ (.int .i64 (m + 4)) := ⟨_, rfl⟩
      have hs1 := Kd.H_seg HH.out (by omega) (by have := HLT.out; omega) (seg := [(.int .i64 m), (.int .i64 (m + 1)), (.int .i64 (m + 2)), (.int .i64 (m + 3)), (.int .i64 (m + 4))]) (j := 0) (show 5 ≤ 7 by decide) (fun u hu => by simp at hu; rcases hu with rfl | rfl | rfl | rfl | rfl <;> rfl)
      have hg1 : wr.grownBy W1 (some go) := by rw [hW1]; exact hs1.2
      have HH1 : Aside0 (Kd.H k49 49 W1 w0.heap.size P (.slice (some ⟨go, 0, none⟩) l.length c0) (q ++ l.drop i) (i : Int) oki [(.int .i64 m), (.int .i64 (m + 1)), (.int .i64 (m + 2)), (.int .i64 (m + 3)), (.int .i64 (m + 4)), (.string x.f5), (.slice A6 x.f6.length c6)]) := ⟨by rw [hW1]; exact hs1.1⟩
      have HB1 : Aside0 (Below w0.heap.size w0 W1) := ⟨HB.out.grown hg1 HB.out.size (fun k hk => by cases hk; exact HGO.out.2.1)⟩
      have HK1 : Aside0 (Kept w W1 P) := ⟨Kept.of_grown hg1 HK.out (fun k hk => by cases hk; exact .inl HGO.out.1)⟩
      have G61 := Aside0.mk (Kd.R_grown G6.out hg1 (fun k hk e => (HOK.out k hk).2 (by injection e)))
      rw [← hW1]
      clear hW1 hs1 hg1 HH HB HK G6 hx0 hx1 hx2 hx3 hx4 hx5 hx6 hf0 hf1 hf2 hf3 hf4 hf5 wa1 wa2 wa3 wa4
      go_wp2_with fail
      refine (markText_call (m + 5) (by have := HMB.out; omega) (by have := HMB.out; omega) W1).mono ?_; rintro e w2 ⟨rfl, hd⟩
      have hh2 := Kd.H_below HH1.out hd
      obtain ⟨rows, -, hraw, -, -, hcc, -⟩ := Kd.H_raw hh2 (by omega) (by have := HLT.out; omega)
      obtain ⟨_, _, _, _, hfr⟩ := Kd.R_elem hraw [] (i : Int) (by omega) (by have := HLT.out; omega)
      have hx5 : w2.cell? ⟨go, i * 7 + 5, none⟩ = some (.string x.f5) := hcc 5 _ rfl
      have hx6 : w2.cell? ⟨go, i * 7 + 6, none⟩ = some (.slice A6 x.f6.length c6) := hcc 6 _ rfl
      have hf5 : w2.frozen? ⟨go, i * 7 + 5, none⟩ = false := hfr 5
      have hs3 := Kd.H_seg hh2 (by omega) (by have := HLT.out; omega) (seg := [(.string (markB (m + 5)))]) (j := 5) (show 6 ≤ 7 by decide) (fun u hu => by simp at hu; rcases hu with rfl; rfl)
      have hg3 : w2.grownBy (w2.setCell ⟨go, i * 7 + 5, none⟩ (.string (markB (m + 5)))) (some go) := hs3.2
      have HH3 : Aside0 (Kd.H k49 49 (w2.setCell ⟨go, i * 7 + 5, none⟩ (.string (markB (m + 5)))) w0.heap.size P (.slice (some ⟨go, 0, none⟩) l.length c0) (q ++ l.drop i) (i : Int) oki [(.int .i64 m), (.int .i64 (m + 1)), (.int .i64 (m + 2)), (.int .i64 (m + 3)), (.int .i64 (m + 4)), (.string (markB (m + 5))), (.slice A6 x.f6.length c6)]) := ⟨hs3.1⟩
      have hb2 := below_step HB1.out hd
      have HB3 : Aside0 (Below w0.heap.size w0 (w2.setCell ⟨go, i * 7 + 5, none⟩ (.string (markB (m + 5))))) := ⟨hb2.grown hg3 hb2.size (fun k hk => by cases hk; exact HGO.out.2.1)⟩
      have HK3 : Aside0 (Kept w (w2.setCell ⟨go, i * 7 + 5, none⟩ (.string (markB (m + 5)))) P) := ⟨Kept.of_grown hg3 (HK1.out.below hd) (fun k hk => by cases hk; exact .inl HGO.out.1)⟩
      have G63 := Aside0.mk (Kd.R_grown (Kd.R_below G61.out hd) hg3 (fun k hk e => (HOK.out k hk).2 (by injection e)))
      obtain ⟨K, hK⟩ := markEntryS_ev x.f6 (m + 6) HXL.out (by have := HMB.out; omega) (by have := HMB.out; omega)
      have HME := Aside0.mk (laws_markEntryS.calls K oki _ x.f6 (m + 6) _ _ w0 _ HB3.out G63.out (hK K (Nat.le_refl _)))
      clear hd hh2 hraw hcc hfr hs3 hg3 hb2 HH1 HB1 HK1 G61 hK
      go_wp2_with fail
      refine (HME.out).mono ?_; rintro e w4 ⟨rfl, hm, hD, hk⟩
      have hg6 : Kd.R k80 80 w4 w0.heap.size oki (.slice A6 x.f6.length c6) (markEL (m + 6) x.f6.length) := Kd.R_mono (Kd.R_tight rfl hm) (fun k hk => G63.out.1 k hk.symm)
      have hS4 := Kd.H_back (Kd.H_kept HH3.out hk (fun k _ hn => hn)) (x' := markN m x.f6.length) (k49_mkM w4 w0.heap.size oki (markN m x.f6.length) hg6) (fun _ hk => hk)
      have HS4 : Aside0 (Kd.S k49 49 w4 w0.heap.size P (.slice (some ⟨go, 0, none⟩) l.length c0) ((q ++ [markN m x.f6.length]) ++ l.drop (i + 1))) := ⟨by
        rw [Int.toNat_natCast, HDR.out, List.set_append_right i _ (by have := HQ.out.1; omega), HQ.out.1, Nat.sub_self, List.set_cons_zero] at hS4
        rw [List.append_assoc]; exact hS4⟩
      have HB4 := Aside0.mk hD
      have HK4 : Aside0 (Kept w w4 P) := ⟨HK3.out.then_ hk (fun k hk => .inl (HOK.out k hk).1)⟩
      have HE4 : Aside0 ((q ++ [markN m x.f6.length]) ++ markNL (m + 6 + 2 * (x.f6.length : Int)) (l.drop (i + 1)) = markNL n l ∧ markEnd (m + 6 + 2 * (x.f6.length : Int)) (l.drop (i + 1)) = markEnd n l) := ⟨by
        have h := HE.out
        rw [HDR.out] at h
        exact ⟨by rw [← h.1, List.append_assoc]; rfl, h.2⟩⟩
      have HQ4 : Aside0 ((q ++ [markN m x.f6.length]).length = i + 1 ∧ 0 ≤ m + 6 + 2 * (x.f6.length : Int) ∧ m + 6 + 2 * (x.f6.length : Int) ≤ n + 2097158 * ((i + 1 : Nat) : Int)) := ⟨by
        have h1 := HQ.out; have h2 := HXL.out
        refine ⟨by rw [List.length_append, List.length_singleton]; omega, by omega, by omega⟩⟩
      clear hm hD hk hg6 hS4 HH3 HB3 HK3 G63 HME HE HQ hx5 hx6 hf5 wa5 wa6
      go_wp2
      go_roundw
      case rel => exact ⟨i + 1, m + 6 + 2 * (x.f6.length : Int), q ++ [markN m x.f6.length], HLT.out, rfl, by first | rfl | go_num, HQ4, HS4, HE4, HB4, HK4⟩
      case measure => exact meas_upM HLT.out (by first | rfl | (rw [← i64_w]; exact HWI.out) | exact HWI.out)

end Go.Proofs.YthalkpflbbpniaaDoor.Q

/- laws.markFs: the walk. -/
namespace Go.Proofs.YthalkpflbbpniaaDoor.Q
open Go.RowKit Go.Proofs.YthalkpflbbpniaaDoorW.PrintWords Go.Proofs.YthalkpflbbpniaaDoorW.PrintLast Go.Proofs.YthalkpflbbpniaaDoorW.PrintMore
attribute [local go_sem] max2_int min2_int max_two min_two max_three min_three max_four min_four   -- for this text's walks alone
set_option linter.unusedVariables false
set_option linter.unusedSimpArgs false

theorem S_iv {α : Type} {d : Kd α} {e base : Nat} {ok : Nat → Prop} {W : World} {v : Value} {xs : List α} (h : d.S e W base ok v xs) : d.S e W base (fun k => base ≤ k ∧ k < W.heap.size) v xs :=
  Kd.S_mono (Kd.S_bound h) (fun _ hk => ⟨hk.2.1, hk.2.2.1⟩)
theorem R_kept {α : Type} {d : Kd α} {e base : Nat} {ok S : Nat → Prop} {W W2 : World} {v : Value} {xs : List α} (h : d.R e W base ok v xs) (hk : Kept W W2 S) (hd : ∀ k, ok k → ¬ S k) : d.R e W2 base ok v xs :=
  Kd.R_step h (fun k ho hlt => hk.2 k hlt (hd k ho))
theorem R_iv {α : Type} {d : Kd α} {e base : Nat} {ok : Nat → Prop} {W : World} {v : Value} {xs : List α} (h : d.R e W base ok v xs) : d.R e W base (fun k => base ≤ k ∧ k < W.heap.size) v xs :=
  Kd.R_mono (Kd.R_bound h) (fun _ hk => ⟨hk.2.1, hk.2.2.1⟩)
theorem Kept.ahead {W W1 W2 : World} {P : Nat → Prop} (hb : Below W.heap.size W W1) (hk : Kept W1 W2 P) : Kept W W2 P :=
  ⟨Nat.le_trans hb.size hk.1, fun k hlt hn => (hk.2 k (Nat.lt_of_lt_of_le hlt hb.size) hn).trans (hb.block k hlt)⟩
set_option maxHeartbeats 4000000 in
set_option maxRecDepth 100000 in
theorem markFs_walk (P : Nat → Prop) (v : Value) (room : Int) (l : List Nd) (n : Int) (w0 w : World) (hB : Below w0.heap.size w0 w) (ho : Kd.S k49 49 w w0.heap.size P v l) (hl : l.length ≤ 1048576) (hs : ∀ x ∈ l, x.f6.length ≤ 1048576) (h0 : 0 ≤ n) (h1 : n ≤ 1000000000) :
    Calls Tryd.prog 10 #[.agg #[v, .int .i64 room], .int .i64 n] w fun e w' => e = .returned (.int .i64 (markEnd n l)) ∧ Kd.S k49 49 w' w0.heap.size P v (markNL n l) ∧ Below w0.heap.size w0 w' ∧ Kept w w' P := by
  have hu1 := Tryd.underlying31
  have HM := Aside0.mk (fun W (hb : Below w.heap.size w W) => markNodeS_walk P v l n w0 W (below_step hB hb) (Kd.S_below ho hb) hl hs h0 h1)
  obtain ⟨A0, c0, rfl⟩ := Kd.S_slice ho
  clear ho hB hl hs h0 h1
  go_enter Tryd.func10, Tryd.ntmps10
  go_upto_region 1 with (fail)
  obtain ⟨W2, hW2⟩ : ∃ W, W = w.alloc (.cells #[.slice A0 l.length c0, .int .i64 room] 31 (0, 0)) := ⟨_, rfl⟩
  have hb2 : Below w.heap.size w W2 := by rw [hW2]; exact below_alloc (Below.refl _ _) _
  have bk2 : W2.heap[w.heap.size]? = some (.cells #[.slice A0 l.length c0, .int .i64 room] 31 (0, 0)) := by rw [hW2]; exact blk_new _ _
  have h20 : W2.cell? ⟨w.heap.size, 0, none⟩ = some (.slice A0 l.length c0) := (blk_cell bk2 0).trans rfl
  have h21 : W2.cell? ⟨w.heap.size, 1, none⟩ = some (.int .i64 room) := (blk_cell bk2 1).trans rfl
  have HB2 := Aside0.mk hb2
  rw [← hW2]
  clear hW2 hb2 bk2
  go_wp2_with fail
  refine (HM.out W2 HB2.out).mono ?_; rintro e W3 ⟨rfl, hm, hD, hk⟩
  have R1 := Aside0.mk hm
  have R2 := Aside0.mk hD
  have R3 := Aside0.mk (Kept.ahead HB2.out hk)
  clear hm hD hk h20 h21 HM HB2
  go_wp2
  go_ret
  exact ⟨rfl, R1.out, R2.out, R3.out⟩

end Go.Proofs.YthalkpflbbpniaaDoor.Q

/- Marks written into items, and read again. -/
namespace Go.Proofs.YthalkpflbbpniaaDoor.Q
open Go.RowKit Go.Proofs.YthalkpflbbpniaaDoorW.PrintWords Go.Proofs.YthalkpflbbpniaaDoorW.PrintLast Go.Proofs.YthalkpflbbpniaaDoorW.PrintMore
attribute [local go_sem] max2_int min2_int max_two min_two max_three min_three max_four min_four   -- for this text's walks alone
set_option linter.unusedVariables false
set_option linter.unusedSimpArgs false

noncomputable def markI (n : Int) : It := ⟨markB n, n + 1, n + 2, n + 3, n + 4, n + 5, n + 6, markB (n + 7)⟩
noncomputable def markIL (n : Int) : Nat → List It
  | 0 => []
  | d + 1 => markI n :: markIL (n + 8) d
theorem markIL_length (d : Nat) : ∀ n, (markIL n d).length = d := by
  induction d with
  | zero => intro n; rfl
  | succ d ih => intro n; simp [markIL, ih]
theorem rd_set (l : List It) (i : Nat) (v : It) (h : i < l.length) : rd_T52 (l.set i v) (i : Int) = v := by
  rw [rdI _ _ (by rw [List.length_set]; exact h)]; simp
theorem markItemS_loop (d : Nat) : ∀ (l : List It) (i : Nat) (n : Int), i + d = l.length → l.length ≤ 1759218604391 → 0 ≤ n → n + 8 * d ≤ 4611686018427380000 →
    Ev (fun k => laws_markItemS.l0 k l n (i : Int)) (n + 8 * d, l.take i ++ markIL n d) := by
  induction d with
  | zero =>
    intro l i n hi hl h0 h1
    rw [List.take_of_length_le (by omega)]
    refine Ev.step (f := fun _ => some (n, l)) (fun k => ?_) ?_
    · simp only [laws_markItemS.l0]; rw [if_neg (by omega)]
    · have : ((n + 8 * ((0 : Nat) : Int), l ++ markIL n 0) : Int × List It) = (n, l) := by simp [markIL]
      rw [this]; exact Ev.now _
  | succ d ih =>
    intro l i n hi hl h0 h1
    have hlt : i < l.length := by omega
    have m0 := markB_ev n h0 (by omega)
    have m7 := markB_ev (n + 7) (by omega) (by omega)
    have hih := ih (l.set i (markI n)) (i + 1) (n + 8) (by rw [List.length_set]; omega) (by rw [List.length_set]; omega) (by omega) (by omega)
    have w1 : wrap64 (n + 1) = n + 1 := by unfold wrap64; omega
    have w2 : wrap64 (n + 1 + 1) = n + 2 := by unfold wrap64; omega
    have w3 : wrap64 (n + 2 + 1) = n + 3 := by unfold wrap64; omega
    have w4 : wrap64 (n + 3 + 1) = n + 4 := by unfold wrap64; omega
    have w5 : wrap64 (n + 4 + 1) = n + 5 := by unfold wrap64; omega
    have w6 : wrap64 (n + 5 + 1) = n + 6 := by unfold wrap64; omega
    have w7 : wrap64 (n + 6 + 1) = n + 7 := by unfold wrap64; omega
    have w8 : wrap64 (n + 7 + 1) = n + 8 := by unfold wrap64; omega
    refine Ev.step (f := fun k => (laws_markText.f k n).bind fun t => (laws_markText.f k (n + 7)).bind fun t2 => laws_markItemS.l0 k (l.set i ⟨t, n + 1, n + 2, n + 3, n + 4, n + 5, n + 6, t2⟩) (n + 8) ((i + 1 : Nat) : Int)) (fun k => ?_) ?_
    · simp only [laws_markItemS.l0]
      rw [if_pos (by omega)]
      congr 1
      funext t
      rw [if_pos (by omega)]
      simp only [Option.bind_some, Int.toNat_natCast, rd_set _ _ _ hlt, List.set_set, w1, w2, w3, w4, w5, w6, w7, w8, step_i hlt hl]
    · refine Ev.bind m0 (Ev.bind m7 ?_)
      have e : l.take i ++ markIL n (d + 1) = (l.set i (markI n)).take (i + 1) ++ markIL (n + 8) d := by
        rw [List.take_succ_eq_append_getElem (by simp; omega), List.take_set_of_le (by omega), List.getElem_set_self, List.append_assoc]; rfl
      rw [e, show n + 8 * ((d + 1 : Nat) : Int) = n + 8 + 8 * (d : Int) by omega]
      exact hih
theorem markIL_at (d : Nat) : ∀ (n : Int) (i : Nat) (h : i < d), (markIL n d)[i]'(by rw [markIL_length]; exact h) = markI (n + 8 * i) := by
  induction d with
  | zero => intro n i h; exact absurd h (Nat.not_lt_zero i)
  | succ d ih =>
    intro n i h
    cases i with
    | zero => simp [markIL]
    | succ i =>
      have := ih (n + 8) i (by omega)
      simp only [markIL, List.getElem_cons_succ]
      rw [this]
      congr 1; omega
end Go.Proofs.YthalkpflbbpniaaDoor.Q

/- laws.heldItemS: the marks in items, read again. -/
namespace Go.Proofs.YthalkpflbbpniaaDoor.Q
open Go.RowKit Go.Proofs.YthalkpflbbpniaaDoorW.PrintWords Go.Proofs.YthalkpflbbpniaaDoorW.PrintLast Go.Proofs.YthalkpflbbpniaaDoorW.PrintMore
attribute [local go_sem] max2_int min2_int max_two min_two max_three min_three max_four min_four   -- for this text's walks alone
set_option linter.unusedVariables false
set_option linter.unusedSimpArgs false

set_option maxHeartbeats 4000000 in
set_option maxRecDepth 100000 in
theorem heldItemS_walk (w : World) (A : Option Addr) (n c0 : Nat) (hr : Kd.C k52 w A n (markIL 1 n)) (hn : n ≤ 50000000) :
    Calls Tryd.prog 12 #[.slice A n c0, .int .i64 1] w fun e w' => e = .returned (.int .i64 (1 + 8 * (n : Int))) ∧ Below w.heap.size w w' := by
  have hu1 := Tryd.underlying52
  have HR := Aside0.mk hr
  have HN := Aside0.mk hn
  clear hr hn
  go_enter Tryd.func12, Tryd.ntmps12
  go_wp2
  go_loopw [1, 5] (fun v1 v5 wr => ∃ i : Nat, i ≤ n ∧ v1 = .int .i64 (1 + 8 * (i : Int)) ∧ v5 = .int .i64 (i : Int) ∧ Aside0 (Below w.heap.size w wr)) (fun _ v5 _ => n - (intOf v5).toNat)
  case atStart => exact ⟨0, Nat.zero_le _, by simp, by simp, ⟨Below.refl _ _⟩⟩
  case round =>
    obtain ⟨i, hi, rfl, rfl, HB⟩ := hrel
    by_cases hlt : i < n
    case neg =>
      have hkl : i = n := by omega
      subst hkl
      have c1 : decide ((i : Int) < (i : Int)) = false := by simp
      clear hlt hi
      go_wp2
      go_ret
      exact ⟨rfl, HB.out⟩
    case pos =>
      have HI := Aside0.mk hlt
      have hat := at_T52 HR.out (i : Int) (by omega) (by omega)
      have hrd : rd_T52 (markIL 1 n) (i : Int) = markI (1 + 8 * (i : Int)) := by rw [rdI _ _ (by rw [markIL_length]; exact hlt), markIL_at n 1 i hlt]
      rw [hrd] at hat
      obtain ⟨N, hN⟩ : ∃ N : Int, N = 1 + 8 * (i : Int) := ⟨_, rfl⟩
      have HNN := Aside0.mk hN
      have h0 : 0 ≤ N := by omega
      have h1 : N ≤ 4611686018427387000 := by have := HN.out; omega
      rw [← hN] at hat ⊢
      simp only [Int.toNat_natCast] at hat
      obtain ⟨ad, rfl, e0, e1, e2, e3, e4, e5, e6, e7⟩ := hat
      have CK0 : Aside0 (∀ W, Below w.heap.size w W → W.cell? (ad.add (i * 8)) = some (.string (markB N))) := ⟨fun W hb => (hb.cell (World.block_lt_of_cell? w _ e0)).trans e0⟩
      have CK1 : Aside0 (∀ W, Below w.heap.size w W → W.cell? ⟨(ad.add (i * 8)).block, (ad.add (i * 8)).off + 1, none⟩ = some (.int .i64 (N + 1))) := ⟨fun W hb => (hb.cell (World.block_lt_of_cell? w _ e1)).trans e1⟩
      have CK2 : Aside0 (∀ W, Below w.heap.size w W → W.cell? ⟨(ad.add (i * 8)).block, (ad.add (i * 8)).off + 2, none⟩ = some (.int .i64 (N + 2))) := ⟨fun W hb => (hb.cell (World.block_lt_of_cell? w _ e2)).trans e2⟩
      have CK3 : Aside0 (∀ W, Below w.heap.size w W → W.cell? ⟨(ad.add (i * 8)).block, (ad.add (i * 8)).off + 3, none⟩ = some (.int .i64 (N + 3))) := ⟨fun W hb => (hb.cell (World.block_lt_of_cell? w _ e3)).trans e3⟩
      have CK4 : Aside0 (∀ W, Below w.heap.size w W → W.cell? ⟨(ad.add (i * 8)).block, (ad.add (i * 8)).off + 4, none⟩ = some (.int .i64 (N + 4))) := ⟨fun W hb => (hb.cell (World.block_lt_of_cell? w _ e4)).trans e4⟩
      have CK5 : Aside0 (∀ W, Below w.heap.size w W → W.cell? ⟨(ad.add (i * 8)).block, (ad.add (i * 8)).off + 5, none⟩ = some (.int .i64 (N + 5))) := ⟨fun W hb => (hb.cell (World.block_lt_of_cell? w _ e5)).trans e5⟩
      have CK6 : Aside0 (∀ W, Below w.heap.size w W → W.cell? ⟨(ad.add (i * 8)).block, (ad.add (i * 8)).off + 6, none⟩ = some (.int .i64 (N + 6))) := ⟨fun W hb => (hb.cell (World.block_lt_of_cell? w _ e6)).trans e6⟩
      have CK7 : Aside0 (∀ W, Below w.heap.size w W → W.cell? ⟨(ad.add (i * 8)).block, (ad.add (i * 8)).off + 7, none⟩ = some (.string (markB (N + 7)))) := ⟨fun W hb => (hb.cell (World.block_lt_of_cell? w _ e7)).trans e7⟩
      clear e0 e1 e2 e3 e4 e5 e6 e7
      have MT0 := Aside0.mk (fun W => markText_call N (by omega) (by omega) W)
      have MT7 := Aside0.mk (fun W => markText_call (N + 7) (by omega) (by omega) W)
      have w1 : IntKind.i64.wrap (N + 1) = N + 1 := (i64_w _).trans (wr1 h0 h1)
      have w2 : IntKind.i64.wrap (N + 1 + 1) = N + 2 := (i64_w _).trans (wrq h0 h1 1 2 (by decide) rfl)
      have w3 : IntKind.i64.wrap (N + 2 + 1) = N + 3 := (i64_w _).trans (wrq h0 h1 2 3 (by decide) rfl)
      have w4 : IntKind.i64.wrap (N + 3 + 1) = N + 4 := (i64_w _).trans (wrq h0 h1 3 4 (by decide) rfl)
      have w5 : IntKind.i64.wrap (N + 4 + 1) = N + 5 := (i64_w _).trans (wrq h0 h1 4 5 (by decide) rfl)
      have w6 : IntKind.i64.wrap (N + 5 + 1) = N + 6 := (i64_w _).trans (wrq h0 h1 5 6 (by decide) rfl)
      have w7 : IntKind.i64.wrap (N + 6 + 1) = N + 7 := (i64_w _).trans (wrq h0 h1 6 7 (by decide) rfl)
      have w8 : IntKind.i64.wrap (N + 7 + 1) = N + 8 := (i64_w _).trans (wrq h0 h1 7 8 (by decide) rfl)
      have w19 : IntKind.i64.wrap ((i : Int) + 1) = ((i + 1 : Nat) : Int) := (i64_w _).trans (step_i hlt (by have := HN.out; omega))
      have c1 : decide ((i : Int) < (n : Int)) = true := decide_eq_true (by omega)
      have p1 : ((0 : Int) ≤ (i : Int)) = True := eq_true (by omega)
      have p3 : ((i : Int) < (n : Int)) = True := eq_true (by omega)
      clear h0 h1 hN hlt hi hrd
      go_upto_region 4 with (fail)
      have b0 := CK0.out wr HB.out
      go_region_held3 (fun W => W.cell? (ad.add (i * 8)) = some (.string (markB N)))
        (first | exact b0 | exact CK0.out _ (below_step (below_drew1 HB.out) hd))
        (first | (go_at_call 22; refine (MT0.out wr.drew).mono ?_; rintro e w2 ⟨rfl, hd⟩))
      have HB2 := Aside0.mk (below_step (below_drew1 HB.out) hd)
      clear b0 hd HB
      have HB := HB2
      clear HB2
      obtain ⟨wr, rfl⟩ : ∃ z, z = w2 := ⟨_, rfl⟩
      have b1 := CK1.out wr HB.out
      have b2 := CK2.out wr HB.out
      have b3 := CK3.out wr HB.out
      have b4 := CK4.out wr HB.out
      have b5 := CK5.out wr HB.out
      have b6 := CK6.out wr HB.out
      go_upto_region 25 with (fail)
      clear b1 b2 b3 b4 b5 b6
      have b7 := CK7.out wr HB.out
      go_region_held3 (fun W => W.cell? ⟨(ad.add (i * 8)).block, (ad.add (i * 8)).off + 7, none⟩ = some (.string (markB (N + 7))))
        (first | exact b7 | exact CK7.out _ (below_step (below_drew1 HB.out) hd))
        (first | (go_at_call 22; refine (MT7.out wr.drew).mono ?_; rintro e w2 ⟨rfl, hd⟩))
      have HB2 := Aside0.mk (below_step (below_drew1 HB.out) hd)
      clear b7 hd HB
      have HB := HB2
      clear HB2
      obtain ⟨wr, rfl⟩ : ∃ z, z = w2 := ⟨_, rfl⟩
      go_wp2
      go_roundw
      case rel => exact ⟨i + 1, by have := HI.out; omega, by rw [HNN.out]; push_cast; first | rfl | (congr 1; omega), by first | rfl | go_num, HB⟩
      case measure => have := HI.out; simp [intOf]; omega

end Go.Proofs.YthalkpflbbpniaaDoor.Q

/- Items, nodes and file systems are equal to themselves: the laws' own comparisons, walked one way alone. -/
namespace Go.Proofs.YthalkpflbbpniaaDoor.Q
open Go.RowKit Go.Proofs.YthalkpflbbpniaaDoorW.PrintWords Go.Proofs.YthalkpflbbpniaaDoorW.PrintLast Go.Proofs.YthalkpflbbpniaaDoorW.PrintMore
attribute [local go_sem] max2_int min2_int max_two min_two max_three min_three max_four min_four   -- for this text's walks alone
set_option linter.unusedVariables false
set_option linter.unusedSimpArgs false

theorem two_boxes (W : World) (o1 o2 : Obj) : Below W.heap.size W ((W.alloc o1).alloc o2) ∧ ((W.alloc o1).alloc o2).heap[W.heap.size]? = some o1 ∧ ((W.alloc o1).alloc o2).heap[W.heap.size + 1]? = some o2 :=
  ⟨below_alloc (below_alloc (Below.refl _ _) _) _, blk_alloc (blk_new _ _) _, by have h := blk_new (W.alloc o1) o2; rwa [World.size_alloc] at h⟩
set_option maxHeartbeats 4000000 in
set_option maxRecDepth 100000 in
theorem eqItem_walk (x : It) (w : World) : Calls Tryd.prog 19 #[.agg #[.string x.f0, .int .i64 x.f1, .int .i64 x.f2, .int .i64 x.f3, .int .i64 x.f4, .int .i64 x.f5, .int .i64 x.f6, .string x.f7], .agg #[.string x.f0, .int .i64 x.f1, .int .i64 x.f2, .int .i64 x.f3, .int .i64 x.f4, .int .i64 x.f5, .int .i64 x.f6, .string x.f7]] w fun e w' => e = .returned (.bool true) ∧ Below w.heap.size w w' := by
  have hu1 := Tryd.underlying52
  go_enter Tryd.func19, Tryd.ntmps19
  go_upto_region 1 with (fail)
  obtain ⟨hb, bk, bl⟩ := two_boxes w (.cells #[.string x.f0, .int .i64 x.f1, .int .i64 x.f2, .int .i64 x.f3, .int .i64 x.f4, .int .i64 x.f5, .int .i64 x.f6, .string x.f7] 52 (0, 0)) (.cells #[.string x.f0, .int .i64 x.f1, .int .i64 x.f2, .int .i64 x.f3, .int .i64 x.f4, .int .i64 x.f5, .int .i64 x.f6, .string x.f7] 52 (0, 0))
  obtain ⟨W, hW⟩ : ∃ W, W = (w.alloc (.cells #[.string x.f0, .int .i64 x.f1, .int .i64 x.f2, .int .i64 x.f3, .int .i64 x.f4, .int .i64 x.f5, .int .i64 x.f6, .string x.f7] 52 (0, 0))).alloc (.cells #[.string x.f0, .int .i64 x.f1, .int .i64 x.f2, .int .i64 x.f3, .int .i64 x.f4, .int .i64 x.f5, .int .i64 x.f6, .string x.f7] 52 (0, 0)) := ⟨_, rfl⟩
  rw [← hW] at hb bk bl ⊢
  have HB := Aside0.mk hb
  have a0 : W.cell? ⟨w.heap.size, 0, none⟩ = some (.string x.f0) := (blk_cell bk 0).trans rfl
  have b0 : W.cell? ⟨w.heap.size + 1, 0, none⟩ = some (.string x.f0) := (blk_cell bl 0).trans rfl
  have a1 : W.cell? ⟨w.heap.size, 1, none⟩ = some (.int .i64 x.f1) := (blk_cell bk 1).trans rfl
  have b1 : W.cell? ⟨w.heap.size + 1, 1, none⟩ = some (.int .i64 x.f1) := (blk_cell bl 1).trans rfl
  have a2 : W.cell? ⟨w.heap.size, 2, none⟩ = some (.int .i64 x.f2) := (blk_cell bk 2).trans rfl
  have b2 : W.cell? ⟨w.heap.size + 1, 2, none⟩ = some (.int .i64 x.f2) := (blk_cell bl 2).trans rfl
  have a3 : W.cell? ⟨w.heap.size, 3, none⟩ = some (.int .i64 x.f3) := (blk_cell bk 3).trans rfl
  have b3 : W.cell? ⟨w.heap.size + 1, 3, none⟩ = some (.int .i64 x.f3) := (blk_cell bl 3).trans rfl
  have a4 : W.cell? ⟨w.heap.size, 4, none⟩ = some (.int .i64 x.f4) := (blk_cell bk 4).trans rfl
  have b4 : W.cell? ⟨w.heap.size + 1, 4, none⟩ = some (.int .i64 x.f4) := (blk_cell bl 4).trans rfl
  have a5 : W.cell? ⟨w.heap.size, 5, none⟩ = some (.int .i64 x.f5) := (blk_cell bk 5).trans rfl
  have b5 : W.cell? ⟨w.heap.size + 1, 5, none⟩ = some (.int .i64 x.f5) := (blk_cell bl 5).trans rfl
  have a6 : W.cell? ⟨w.heap.size, 6, none⟩ = some (.int .i64 x.f6) := (blk_cell bk 6).trans rfl
  have b6 : W.cell? ⟨w.heap.size + 1, 6, none⟩ = some (.int .i64 x.f6) := (blk_cell bl 6).trans rfl
  have a7 : W.cell? ⟨w.heap.size, 7, none⟩ = some (.string x.f7) := (blk_cell bk 7).trans rfl
  have b7 : W.cell? ⟨w.heap.size + 1, 7, none⟩ = some (.string x.f7) := (blk_cell bl 7).trans rfl
  clear hW hb bk bl
  go_wp2
  go_ret
  exact ⟨rfl, HB.out⟩
set_option maxHeartbeats 4000000 in
set_option maxRecDepth 100000 in
theorem eqItemS_walk (A A' : Option Addr) (c c' : Nat) (l : List It) (w : World) (hr : Kd.C k52 w A l.length l) (hr' : Kd.C k52 w A' l.length l) (hl : l.length ≤ 1000000000) :
    Calls Tryd.prog 8 #[.slice A l.length c, .slice A' l.length c'] w fun e w' => e = .returned (.bool true) ∧ Below w.heap.size w w' := by
  have hu1 := Tryd.underlying52
  have HR := Aside0.mk hr
  have HR' := Aside0.mk hr'
  have HL := Aside0.mk hl
  clear hr hr' hl
  go_enter Tryd.func8, Tryd.ntmps8
  go_wp2
  go_loopw [5] (fun v5 wr => ∃ i : Nat, i ≤ l.length ∧ v5 = .int .i64 (i : Int) ∧ Aside0 (Below w.heap.size w wr)) (fun v5 _ => l.length - (intOf v5).toNat)
  case atStart => exact ⟨0, Nat.zero_le _, by simp, ⟨Below.refl _ _⟩⟩
  case round =>
    obtain ⟨i, hi, rfl, HB⟩ := hrel
    by_cases hlt : i < l.length
    case neg =>
      have hkl : i = l.length := by omega
      subst hkl
      have c1 : decide ((l.length : Int) < (l.length : Int)) = false := by simp
      clear hlt hi
      go_wp2
      go_ret
      exact ⟨rfl, HB.out⟩
    case pos =>
      have HI := Aside0.mk hlt
      have c1 : decide ((i : Int) < (l.length : Int)) = true := decide_eq_true (by omega)
      have p1 : ((0 : Int) ≤ (i : Int)) = True := eq_true (by omega)
      have p3 : ((i : Int) < (l.length : Int)) = True := eq_true (by omega)
      have w19 : IntKind.i64.wrap ((i : Int) + 1) = ((i + 1 : Nat) : Int) := (i64_w _).trans (step_n hlt (by have := HL.out; omega))
      obtain ⟨ad, rfl, a0, a1, a2, a3, a4, a5, a6, a7⟩ := at_T52 (Kd.C_below HR.out HB.out) (i : Int) (by omega) (by omega)
      obtain ⟨bd, rfl, b0, b1, b2, b3, b4, b5, b6, b7⟩ := at_T52 (Kd.C_below HR'.out HB.out) (i : Int) (by omega) (by omega)
      obtain ⟨x, hx⟩ : ∃ x, x = rd_T52 l (i : Int) := ⟨_, rfl⟩
      rw [Int.toNat_natCast] at a0 a1 a2 a3 a4 a5 a6 a7 b0 b1 b2 b3 b4 b5 b6 b7
      rw [← hx] at a0 a1 a2 a3 a4 a5 a6 a7 b0 b1 b2 b3 b4 b5 b6 b7
      have HE := Aside0.mk (fun W (hd : Below wr.heap.size wr W) => eqItem_walk x W)
      have CK : Aside0 (∀ W, Below wr.heap.size wr W → (W.cell? (ad.add (i * 8)) = some (.string x.f0) ∧ W.cell? ⟨(ad.add (i * 8)).block, (ad.add (i * 8)).off + 1, none⟩ = some (.int .i64 x.f1) ∧ W.cell? ⟨(ad.add (i * 8)).block, (ad.add (i * 8)).off + 2, none⟩ = some (.int .i64 x.f2) ∧ W.cell? ⟨(ad.add (i * 8)).block, (ad.add (i * 8)).off + 3, none⟩ = some (.int .i64 x.f3) ∧ W.cell? ⟨(ad.add (i * 8)).block, (ad.add (i * 8)).off + 4, none⟩ = some (.int .i64 x.f4) ∧ W.cell? ⟨(ad.add (i * 8)).block, (ad.add (i * 8)).off + 5, none⟩ = some (.int .i64 x.f5) ∧ W.cell? ⟨(ad.add (i * 8)).block, (ad.add (i * 8)).off + 6, none⟩ = some (.int .i64 x.f6) ∧ W.cell? ⟨(ad.add (i * 8)).block, (ad.add (i * 8)).off + 7, none⟩ = some (.string x.f7)) ∧ (W.cell? (bd.add (i * 8)) = some (.string x.f0) ∧ W.cell? ⟨(bd.add (i * 8)).block, (bd.add (i * 8)).off + 1, none⟩ = some (.int .i64 x.f1) ∧ W.cell? ⟨(bd.add (i * 8)).block, (bd.add (i * 8)).off + 2, none⟩ = some (.int .i64 x.f2) ∧ W.cell? ⟨(bd.add (i * 8)).block, (bd.add (i * 8)).off + 3, none⟩ = some (.int .i64 x.f3) ∧ W.cell? ⟨(bd.add (i * 8)).block, (bd.add (i * 8)).off + 4, none⟩ = some (.int .i64 x.f4) ∧ W.cell? ⟨(bd.add (i * 8)).block, (bd.add (i * 8)).off + 5, none⟩ = some (.int .i64 x.f5) ∧ W.cell? ⟨(bd.add (i * 8)).block, (bd.add (i * 8)).off + 6, none⟩ = some (.int .i64 x.f6) ∧ W.cell? ⟨(bd.add (i * 8)).block, (bd.add (i * 8)).off + 7, none⟩ = some (.string x.f7))) := ⟨fun W hd => ⟨⟨(hd.cell (World.block_lt_of_cell? wr _ a0)).trans a0, (hd.cell (World.block_lt_of_cell? wr _ a1)).trans a1, (hd.cell (World.block_lt_of_cell? wr _ a2)).trans a2, (hd.cell (World.block_lt_of_cell? wr _ a3)).trans a3, (hd.cell (World.block_lt_of_cell? wr _ a4)).trans a4, (hd.cell (World.block_lt_of_cell? wr _ a5)).trans a5, (hd.cell (World.block_lt_of_cell? wr _ a6)).trans a6, (hd.cell (World.block_lt_of_cell? wr _ a7)).trans a7⟩, ⟨(hd.cell (World.block_lt_of_cell? wr _ b0)).trans b0, (hd.cell (World.block_lt_of_cell? wr _ b1)).trans b1, (hd.cell (World.block_lt_of_cell? wr _ b2)).trans b2, (hd.cell (World.block_lt_of_cell? wr _ b3)).trans b3, (hd.cell (World.block_lt_of_cell? wr _ b4)).trans b4, (hd.cell (World.block_lt_of_cell? wr _ b5)).trans b5, (hd.cell (World.block_lt_of_cell? wr _ b6)).trans b6, (hd.cell (World.block_lt_of_cell? wr _ b7)).trans b7⟩⟩⟩
      have kk := CK.out wr (Below.refl _ _)
      clear hx hlt hi a0 a1 a2 a3 a4 a5 a6 a7 b0 b1 b2 b3 b4 b5 b6 b7
      go_upto_region 6 with (fail)
      go_region_held3 (fun W => (W.cell? (ad.add (i * 8)) = some (.string x.f0) ∧ W.cell? ⟨(ad.add (i * 8)).block, (ad.add (i * 8)).off + 1, none⟩ = some (.int .i64 x.f1) ∧ W.cell? ⟨(ad.add (i * 8)).block, (ad.add (i * 8)).off + 2, none⟩ = some (.int .i64 x.f2) ∧ W.cell? ⟨(ad.add (i * 8)).block, (ad.add (i * 8)).off + 3, none⟩ = some (.int .i64 x.f3) ∧ W.cell? ⟨(ad.add (i * 8)).block, (ad.add (i * 8)).off + 4, none⟩ = some (.int .i64 x.f4) ∧ W.cell? ⟨(ad.add (i * 8)).block, (ad.add (i * 8)).off + 5, none⟩ = some (.int .i64 x.f5) ∧ W.cell? ⟨(ad.add (i * 8)).block, (ad.add (i * 8)).off + 6, none⟩ = some (.int .i64 x.f6) ∧ W.cell? ⟨(ad.add (i * 8)).block, (ad.add (i * 8)).off + 7, none⟩ = some (.string x.f7)) ∧ (W.cell? (bd.add (i * 8)) = some (.string x.f0) ∧ W.cell? ⟨(bd.add (i * 8)).block, (bd.add (i * 8)).off + 1, none⟩ = some (.int .i64 x.f1) ∧ W.cell? ⟨(bd.add (i * 8)).block, (bd.add (i * 8)).off + 2, none⟩ = some (.int .i64 x.f2) ∧ W.cell? ⟨(bd.add (i * 8)).block, (bd.add (i * 8)).off + 3, none⟩ = some (.int .i64 x.f3) ∧ W.cell? ⟨(bd.add (i * 8)).block, (bd.add (i * 8)).off + 4, none⟩ = some (.int .i64 x.f4) ∧ W.cell? ⟨(bd.add (i * 8)).block, (bd.add (i * 8)).off + 5, none⟩ = some (.int .i64 x.f5) ∧ W.cell? ⟨(bd.add (i * 8)).block, (bd.add (i * 8)).off + 6, none⟩ = some (.int .i64 x.f6) ∧ W.cell? ⟨(bd.add (i * 8)).block, (bd.add (i * 8)).off + 7, none⟩ = some (.string x.f7)))
        (first | exact kk | exact CK.out _ (below_step (below_drew1 (Below.refl _ _)) hd) | exact CK.out _ (below_drew1 (Below.refl _ _)))
        (first | (go_at_call 19; refine (HE.out wr.drew (below_drew1 (Below.refl _ _))).mono ?_; rintro e w2 ⟨rfl, hd⟩))
      have HB2 := Aside0.mk (below_step (below_drew1 HB.out) hd)
      clear kk hd HB CK HE
      go_wp2
      go_roundw
      case rel => exact ⟨i + 1, by have := HI.out; omega, by first | rfl | go_num, HB2⟩
      case measure => have := HI.out; simp [intOf]; omega
set_option maxHeartbeats 4000000 in
set_option maxRecDepth 100000 in
theorem eqNode_walk (x : Nd) (A6 B6 : Option Addr) (c6 d6 : Nat) (w : World) (ha : Kd.C k80 w A6 x.f6.length x.f6) (la : x.f6.length ≤ c6) (hb : Kd.C k80 w B6 x.f6.length x.f6) (lb : x.f6.length ≤ d6) (hs : x.f6.length ≤ 1048576) :
    Calls Tryd.prog 33 #[.agg #[.int .i64 x.f0, .int .i64 x.f1, .int .i64 x.f2, .int .i64 x.f3, .int .i64 x.f4, .string x.f5, .slice A6 x.f6.length c6], .agg #[.int .i64 x.f0, .int .i64 x.f1, .int .i64 x.f2, .int .i64 x.f3, .int .i64 x.f4, .string x.f5, .slice B6 x.f6.length d6]] w fun e w' => e = .returned (.bool true) ∧ Below w.heap.size w w' := by
  have hu1 := Tryd.underlying49
  obtain ⟨K, hK⟩ := eqEntryS_ev x.f6 hs
  have HE := Aside0.mk (fun W (hd : Below w.heap.size w W) => laws_eqEntryS.calls K A6 c6 x.f6 B6 d6 x.f6 true W (Kd.C_below ha hd) la (Kd.C_below hb hd) lb (hK K (Nat.le_refl _)))
  clear ha la hb lb hs hK
  go_enter Tryd.func33, Tryd.ntmps33
  go_upto_region 1 with (fail)
  obtain ⟨hb, bk, bl⟩ := two_boxes w (.cells #[.int .i64 x.f0, .int .i64 x.f1, .int .i64 x.f2, .int .i64 x.f3, .int .i64 x.f4, .string x.f5, .slice A6 x.f6.length c6] 49 (0, 0)) (.cells #[.int .i64 x.f0, .int .i64 x.f1, .int .i64 x.f2, .int .i64 x.f3, .int .i64 x.f4, .string x.f5, .slice B6 x.f6.length d6] 49 (0, 0))
  obtain ⟨W, hW⟩ : ∃ W, W = (w.alloc (.cells #[.int .i64 x.f0, .int .i64 x.f1, .int .i64 x.f2, .int .i64 x.f3, .int .i64 x.f4, .string x.f5, .slice A6 x.f6.length c6] 49 (0, 0))).alloc (.cells #[.int .i64 x.f0, .int .i64 x.f1, .int .i64 x.f2, .int .i64 x.f3, .int .i64 x.f4, .string x.f5, .slice B6 x.f6.length d6] 49 (0, 0)) := ⟨_, rfl⟩
  rw [← hW] at hb bk bl ⊢
  have HB := Aside0.mk hb
  have a0 : W.cell? ⟨w.heap.size, 0, none⟩ = some (.int .i64 x.f0) := (blk_cell bk 0).trans rfl
  have b0 : W.cell? ⟨w.heap.size + 1, 0, none⟩ = some (.int .i64 x.f0) := (blk_cell bl 0).trans rfl
  have a1 : W.cell? ⟨w.heap.size, 1, none⟩ = some (.int .i64 x.f1) := (blk_cell bk 1).trans rfl
  have b1 : W.cell? ⟨w.heap.size + 1, 1, none⟩ = some (.int .i64 x.f1) := (blk_cell bl 1).trans rfl
  have a2 : W.cell? ⟨w.heap.size, 2, none⟩ = some (.int .i64 x.f2) := (blk_cell bk 2).trans rfl
  have b2 : W.cell? ⟨w.heap.size + 1, 2, none⟩ = some (.int .i64 x.f2) := (blk_cell bl 2).trans rfl
  have a3 : W.cell? ⟨w.heap.size, 3, none⟩ = some (.int .i64 x.f3) := (blk_cell bk 3).trans rfl
  have b3 : W.cell? ⟨w.heap.size + 1, 3, none⟩ = some (.int .i64 x.f3) := (blk_cell bl 3).trans rfl
  have a4 : W.cell? ⟨w.heap.size, 4, none⟩ = some (.int .i64 x.f4) := (blk_cell bk 4).trans rfl
  have b4 : W.cell? ⟨w.heap.size + 1, 4, none⟩ = some (.int .i64 x.f4) := (blk_cell bl 4).trans rfl
  have a5 : W.cell? ⟨w.heap.size, 5, none⟩ = some (.string x.f5) := (blk_cell bk 5).trans rfl
  have b5 : W.cell? ⟨w.heap.size + 1, 5, none⟩ = some (.string x.f5) := (blk_cell bl 5).trans rfl
  have a6 : W.cell? ⟨w.heap.size, 6, none⟩ = some (.slice A6 x.f6.length c6) := (blk_cell bk 6).trans rfl
  have b6 : W.cell? ⟨w.heap.size + 1, 6, none⟩ = some (.slice B6 x.f6.length d6) := (blk_cell bl 6).trans rfl
  clear hW hb bk bl
  go_wp2_with fail
  refine (HE.out W HB.out).mono ?_; rintro e w2 ⟨rfl, hd⟩
  have HB2 := Aside0.mk (below_step HB.out hd)
  clear hd HB a0 b0 a1 b1 a2 b2 a3 b3 a4 b4 a5 b5 a6 b6
  go_wp2
  go_ret
  exact ⟨rfl, HB2.out⟩
set_option maxHeartbeats 4000000 in
set_option maxRecDepth 100000 in
theorem eqNodeS_walk (A A' : Option Addr) (c c' : Nat) (l : List Nd) (w : World) (hr : Kd.C k49 w A l.length l) (hr' : Kd.C k49 w A' l.length l) (hl : l.length ≤ 1000000000) (hs : ∀ x ∈ l, x.f6.length ≤ 1048576) :
    Calls Tryd.prog 20 #[.slice A l.length c, .slice A' l.length c'] w fun e w' => e = .returned (.bool true) ∧ Below w.heap.size w w' := by
  have hu1 := Tryd.underlying49
  have HR := Aside0.mk hr
  have HR' := Aside0.mk hr'
  have HL := Aside0.mk hl
  have HS := Aside0.mk hs
  clear hr hr' hl hs
  go_enter Tryd.func20, Tryd.ntmps20
  go_wp2
  go_loopw [5] (fun v5 wr => ∃ i : Nat, i ≤ l.length ∧ v5 = .int .i64 (i : Int) ∧ Aside0 (Below w.heap.size w wr)) (fun v5 _ => l.length - (intOf v5).toNat)
  case atStart => exact ⟨0, Nat.zero_le _, by simp, ⟨Below.refl _ _⟩⟩
  case round =>
    obtain ⟨i, hi, rfl, HB⟩ := hrel
    by_cases hlt : i < l.length
    case neg =>
      have hkl : i = l.length := by omega
      subst hkl
      have c1 : decide ((l.length : Int) < (l.length : Int)) = false := by simp
      clear hlt hi
      go_wp2
      go_ret
      exact ⟨rfl, HB.out⟩
    case pos =>
      have HI := Aside0.mk hlt
      have c1 : decide ((i : Int) < (l.length : Int)) = true := decide_eq_true (by omega)
      have p1 : ((0 : Int) ≤ (i : Int)) = True := eq_true (by omega)
      have p3 : ((i : Int) < (l.length : Int)) = True := eq_true (by omega)
      have w19 : IntKind.i64.wrap ((i : Int) + 1) = ((i + 1 : Nat) : Int) := (i64_w _).trans (step_n hlt (by have := HL.out; omega))
      obtain ⟨ad, A6, c6, rfl, a0, a1, a2, a3, a4, a5, a6, la, ha⟩ := at_T49 (Kd.C_below HR.out HB.out) (i : Int) (by omega) (by omega)
      obtain ⟨bd, B6, d6, rfl, b0, b1, b2, b3, b4, b5, b6, lb, hb⟩ := at_T49 (Kd.C_below HR'.out HB.out) (i : Int) (by omega) (by omega)
      obtain ⟨x, hx⟩ : ∃ x, x = rd_T49 l (i : Int) := ⟨_, rfl⟩
      rw [Int.toNat_natCast] at a0 a1 a2 a3 a4 a5 a6 b0 b1 b2 b3 b4 b5 b6
      rw [← hx] at a0 a1 a2 a3 a4 a5 a6 b0 b1 b2 b3 b4 b5 b6 la ha lb hb
      have HE := Aside0.mk (fun W (hd : Below wr.heap.size wr W) => eqNode_walk x A6 B6 c6 d6 W (Kd.C_below ha hd) la (Kd.C_below hb hd) lb (HS.out x (by rw [hx, rdNd l i hlt]; exact List.getElem_mem hlt)))
      have CK : Aside0 (∀ W, Below wr.heap.size wr W → (W.cell? (ad.add (i * 7)) = some (.int .i64 x.f0) ∧ W.cell? ⟨(ad.add (i * 7)).block, (ad.add (i * 7)).off + 1, none⟩ = some (.int .i64 x.f1) ∧ W.cell? ⟨(ad.add (i * 7)).block, (ad.add (i * 7)).off + 2, none⟩ = some (.int .i64 x.f2) ∧ W.cell? ⟨(ad.add (i * 7)).block, (ad.add (i * 7)).off + 3, none⟩ = some (.int .i64 x.f3) ∧ W.cell? ⟨(ad.add (i * 7)).block, (ad.add (i * 7)).off + 4, none⟩ = some (.int .i64 x.f4) ∧ W.cell? ⟨(ad.add (i * 7)).block, (ad.add (i * 7)).off + 5, none⟩ = some (.string x.f5) ∧ W.cell? ⟨(ad.add (i * 7)).block, (ad.add (i * 7)).off + 6, none⟩ = some (.slice A6 x.f6.length c6)) ∧ (W.cell? (bd.add (i * 7)) = some (.int .i64 x.f0) ∧ W.cell? ⟨(bd.add (i * 7)).block, (bd.add (i * 7)).off + 1, none⟩ = some (.int .i64 x.f1) ∧ W.cell? ⟨(bd.add (i * 7)).block, (bd.add (i * 7)).off + 2, none⟩ = some (.int .i64 x.f2) ∧ W.cell? ⟨(bd.add (i * 7)).block, (bd.add (i * 7)).off + 3, none⟩ = some (.int .i64 x.f3) ∧ W.cell? ⟨(bd.add (i * 7)).block, (bd.add (i * 7)).off + 4, none⟩ = some (.int .i64 x.f4) ∧ W.cell? ⟨(bd.add (i * 7)).block, (bd.add (i * 7)).off + 5, none⟩ = some (.string x.f5) ∧ W.cell? ⟨(bd.add (i * 7)).block, (bd.add (i * 7)).off + 6, none⟩ = some (.slice B6 x.f6.length d6))) := ⟨fun W hd => ⟨⟨(hd.cell (World.block_lt_of_cell? wr _ a0)).trans a0, (hd.cell (World.block_lt_of_cell? wr _ a1)).trans a1, (hd.cell (World.block_lt_of_cell? wr _ a2)).trans a2, (hd.cell (World.block_lt_of_cell? wr _ a3)).trans a3, (hd.cell (World.block_lt_of_cell? wr _ a4)).trans a4, (hd.cell (World.block_lt_of_cell? wr _ a5)).trans a5, (hd.cell (World.block_lt_of_cell? wr _ a6)).trans a6⟩, ⟨(hd.cell (World.block_lt_of_cell? wr _ b0)).trans b0, (hd.cell (World.block_lt_of_cell? wr _ b1)).trans b1, (hd.cell (World.block_lt_of_cell? wr _ b2)).trans b2, (hd.cell (World.block_lt_of_cell? wr _ b3)).trans b3, (hd.cell (World.block_lt_of_cell? wr _ b4)).trans b4, (hd.cell (World.block_lt_of_cell? wr _ b5)).trans b5, (hd.cell (World.block_lt_of_cell? wr _ b6)).trans b6⟩⟩⟩
      have kk := CK.out wr (Below.refl _ _)
      clear hx hlt hi a0 a1 a2 a3 a4 a5 a6 b0 b1 b2 b3 b4 b5 b6 la ha lb hb
      go_upto_region 6 with (fail)
      go_region_held3 (fun W => (W.cell? (ad.add (i * 7)) = some (.int .i64 x.f0) ∧ W.cell? ⟨(ad.add (i * 7)).block, (ad.add (i * 7)).off + 1, none⟩ = some (.int .i64 x.f1) ∧ W.cell? ⟨(ad.add (i * 7)).block, (ad.add (i * 7)).off + 2, none⟩ = some (.int .i64 x.f2) ∧ W.cell? ⟨(ad.add (i * 7)).block, (ad.add (i * 7)).off + 3, none⟩ = some (.int .i64 x.f3) ∧ W.cell? ⟨(ad.add (i * 7)).block, (ad.add (i * 7)).off + 4, none⟩ = some (.int .i64 x.f4) ∧ W.cell? ⟨(ad.add (i * 7)).block, (ad.add (i * 7)).off + 5, none⟩ = some (.string x.f5) ∧ W.cell? ⟨(ad.add (i * 7)).block, (ad.add (i * 7)).off + 6, none⟩ = some (.slice A6 x.f6.length c6)) ∧ (W.cell? (bd.add (i * 7)) = some (.int .i64 x.f0) ∧ W.cell? ⟨(bd.add (i * 7)).block, (bd.add (i * 7)).off + 1, none⟩ = some (.int .i64 x.f1) ∧ W.cell? ⟨(bd.add (i * 7)).block, (bd.add (i * 7)).off + 2, none⟩ = some (.int .i64 x.f2) ∧ W.cell? ⟨(bd.add (i * 7)).block, (bd.add (i * 7)).off + 3, none⟩ = some (.int .i64 x.f3) ∧ W.cell? ⟨(bd.add (i * 7)).block, (bd.add (i * 7)).off + 4, none⟩ = some (.int .i64 x.f4) ∧ W.cell? ⟨(bd.add (i * 7)).block, (bd.add (i * 7)).off + 5, none⟩ = some (.string x.f5) ∧ W.cell? ⟨(bd.add (i * 7)).block, (bd.add (i * 7)).off + 6, none⟩ = some (.slice B6 x.f6.length d6)))
        (first | exact kk | exact CK.out _ (below_step (below_drew1 (Below.refl _ _)) hd) | exact CK.out _ (below_drew1 (Below.refl _ _)))
        (first | (go_at_call 33; refine (HE.out wr.drew (below_drew1 (Below.refl _ _))).mono ?_; rintro e w2 ⟨rfl, hd⟩))
      have HB2 := Aside0.mk (below_step (below_drew1 HB.out) hd)
      clear kk hd HB CK HE
      go_wp2
      go_roundw
      case rel => exact ⟨i + 1, by have := HI.out; omega, by first | rfl | go_num, HB2⟩
      case measure => have := HI.out; simp [intOf]; omega
set_option maxHeartbeats 4000000 in
set_option maxRecDepth 100000 in
theorem eqFs_walk (A A' : Option Addr) (c c' : Nat) (l : List Nd) (room : Int) (w : World) (hr : Kd.C k49 w A l.length l) (hr' : Kd.C k49 w A' l.length l) (hf : FsFit l) :
    Calls Tryd.prog 9 #[.agg #[.slice A l.length c, .int .i64 room], .agg #[.slice A' l.length c', .int .i64 room]] w fun e w' => e = .returned (.bool true) ∧ Below w.heap.size w w' := by
  have hu1 := Tryd.underlying31
  have HE := Aside0.mk (fun W (hd : Below w.heap.size w W) => eqNodeS_walk A A' c c' l W (Kd.C_below hr hd) (Kd.C_below hr' hd) (by have := hf.len; omega) hf.list)
  clear hr hr' hf
  go_enter Tryd.func9, Tryd.ntmps9
  go_upto_region 1 with (fail)
  obtain ⟨hb, bk, bl⟩ := two_boxes w (.cells #[.slice A l.length c, .int .i64 room] 31 (0, 0)) (.cells #[.slice A' l.length c', .int .i64 room] 31 (0, 0))
  obtain ⟨W, hW⟩ : ∃ W, W = (w.alloc (.cells #[.slice A l.length c, .int .i64 room] 31 (0, 0))).alloc (.cells #[.slice A' l.length c', .int .i64 room] 31 (0, 0)) := ⟨_, rfl⟩
  rw [← hW] at hb bk bl ⊢
  have HB := Aside0.mk hb
  have a0 : W.cell? ⟨w.heap.size, 0, none⟩ = some (.slice A l.length c) := (blk_cell bk 0).trans rfl
  have b0 : W.cell? ⟨w.heap.size + 1, 0, none⟩ = some (.slice A' l.length c') := (blk_cell bl 0).trans rfl
  have a1 : W.cell? ⟨w.heap.size, 1, none⟩ = some (.int .i64 room) := (blk_cell bk 1).trans rfl
  have b1 : W.cell? ⟨w.heap.size + 1, 1, none⟩ = some (.int .i64 room) := (blk_cell bl 1).trans rfl
  have BK := Aside0.mk bk
  have BL := Aside0.mk bl
  clear hW hb bk bl
  go_wp2_with fail
  refine (HE.out W HB.out).mono ?_; rintro e w2 ⟨rfl, hd⟩
  have HB2 := Aside0.mk (below_step HB.out hd)
  have a1' : w2.cell? ⟨w.heap.size, 1, none⟩ = some (.int .i64 room) := (hd.cell (World.block_lt_of_cell? _ _ a1)).trans a1
  have b1' : w2.cell? ⟨w.heap.size + 1, 1, none⟩ = some (.int .i64 room) := (hd.cell (World.block_lt_of_cell? _ _ b1)).trans b1
  clear hd HB a0 b0 a1 b1 BK BL
  go_wp2
  go_ret
  exact ⟨rfl, HB2.out⟩

end Go.Proofs.YthalkpflbbpniaaDoor.Q

/- The law FnExactItemsOf, walked by hand: one way alone, the answers being known. -/
namespace Go.Proofs.YthalkpflbbpniaaDoor.Q
open Go.RowKit Go.Proofs.YthalkpflbbpniaaDoorW.PrintWords Go.Proofs.YthalkpflbbpniaaDoorW.PrintLast Go.Proofs.YthalkpflbbpniaaDoorW.PrintMore
attribute [local go_sem] max2_int min2_int max_two min_two max_three min_three max_four min_four   -- for this text's walks alone
set_option linter.unusedVariables false
set_option linter.unusedSimpArgs false

theorem keep22 {W : World} {a b T T' : Nat} {u0 u1 v0 v1 : Value} (h2 : W.heap[a]? = some (.cells #[u0, u1] T (0, 0))) (h8 : W.heap[b]? = some (.cells #[v0, v1] T' (0, 0))) :
    W.cell? ⟨a, 0, none⟩ = some u0 ∧ W.cell? ⟨a, 1, none⟩ = some u1 ∧ W.cell? ⟨b, 0, none⟩ = some v0 ∧ W.cell? ⟨b, 1, none⟩ = some v1 := ⟨blk_cell h2 0, blk_cell h2 1, blk_cell h8 0, blk_cell h8 1⟩
theorem itemsR_len {ns : List Nd} (room node : Int) (h : FsFit ns) : (itemsR ns room node).1.length ≤ 50000000 := by
  unfold itemsR
  split
  · rename_i hq
    rw [Bool.and_eq_true] at hq
    have hg := gNode_ok (gNode_of h hq.1 hq.2)
    show (itemsG ns [] (waysR ns node)).length ≤ _
    rw [itemsG_len]
    exact (waysR_ok hg).2.1
  · simp
theorem markItemS_evn (l : List It) (n : Int) (hl : l.length ≤ 1759218604391) (h0 : 0 ≤ n) (h1 : n ≤ 100000000) : Ev (fun k => laws_markItemS.f k l n) (n + 8 * (l.length : Int), markIL n l.length) := by
  have := markItemS_loop l.length l 0 n (by omega) hl h0 (by omega)
  unfold laws_markItemS.f
  simpa using this
set_option maxHeartbeats 8000000 in
set_option maxRecDepth 100000 in
theorem lawItems_walk (A0 : Option Addr) (c0 : Nat) (l0 : List Ln) (room node : Int) (w : World) (hr0 : Kd.C k60 w A0 l0.length l0) (hc0 : l0.length ≤ c0) (hl0 : l0.length ≤ maxLen) (hs0 : ∀ x ∈ l0, LnBig x) :
    Calls Tryd.prog 3 #[.agg #[.slice A0 l0.length c0, .int .i64 room], .int .i64 node] w fun e w' => e = .returned (.bool true) ∧ Below w.heap.size w w' := by
  have hu1 := Tryd.underlying31
  have hu2 := Tryd.underlying24
  obtain ⟨r0, ⟨K0, hz0⟩, hq0, hp0⟩ := szFs_ev l0 room hl0 hs0 1048576 (by omega) (by omega)
  have HSZ0 := Aside0.mk (fun W (hb : Below w.heap.size w W) => laws_szFs.calls K0 A0 c0 l0 room 1048576 r0 W (Kd.C_below hr0 hb) hc0 (hz0 K0 (Nat.le_refl _)))
  have HR0 := Aside0.mk hr0
  have HC0 := Aside0.mk hc0
  clear hr0 hc0 hz0
  by_cases h : r0 < 0
  · clear hq0 hp0 hl0 hs0
    have h1 : decide (r0 < 0) = true := decide_eq_true h
    go_enter Tryd.func3, Tryd.ntmps3
    go_upto_region 1 with (fail)
    obtain ⟨w1, hW⟩ : ∃ W, W = w.alloc (.cells #[.slice A0 l0.length c0, .int .i64 room] 24 (0, 0)) := ⟨_, rfl⟩
    have D_w1 := Aside0.mk (show Below w.heap.size w w1 from by rw [hW]; exact below_alloc (Below.refl _ _) _)
    have BK_t2 := Aside0.mk (show w1.heap[w.heap.size]? = some (.cells #[.slice A0 l0.length c0, .int .i64 room] 24 (0, 0)) from by rw [hW]; exact blk_new _ _)
    rw [← hW]
    clear hW
    have h_t20 : w1.cell? ⟨w.heap.size, 0, none⟩ = some (.slice A0 l0.length c0) := (blk_cell BK_t2.out 0).trans rfl
    have h_t21 : w1.cell? ⟨w.heap.size, 1, none⟩ = some (.int .i64 room) := (blk_cell BK_t2.out 1).trans rfl
    go_wp2_with fail
    refine (HSZ0.out _ D_w1.out).mono ?_; rintro e w2 ⟨rfl, hd⟩
    have D_w2 := Aside0.mk (below_step D_w1.out hd)
    clear hd h_t20 h_t21
    go_wp2
    go_ret
    exact ⟨rfl, D_w2.out⟩
  have h1 : decide (r0 < 0) = false := decide_eq_false h
  obtain ⟨z0, z1, hf⟩ := hp0 (by omega)
  obtain ⟨T0, t0⟩ := toFs_ev l0 room z0 z1
  obtain ⟨ns, hns⟩ : ∃ ns, ns = l0.map convN := ⟨_, rfl⟩
  rw [← hns] at t0 hf
  have hnl := hf.len
  obtain ⟨K2, e1⟩ := specItems_ev ns room node hf
  have hle := itemsR_len room node hf
  have CIM0 := fun (W : World) A c h1 h2 => items_walk ns A c room node W h1 h2 hf
  obtain ⟨⟨g, q⟩, hR⟩ : ∃ R, R = itemsR ns room node := ⟨_, rfl⟩
  rw [← hR] at e1 hle CIM0
  simp only at hle CIM0
  obtain ⟨K6, mk0⟩ := markItemS_evn g 1 (by omega) (by omega) (by omega)
  have hme := markEnd_le ns 1 hf.list
  have CT := Aside0.mk (fun W (hb : Below w.heap.size w W) => laws_toFs.calls T0 A0 c0 l0 room ns room W (Kd.C_below HR0.out hb) HC0.out (t0 T0 (Nat.le_refl _)))
  have CSP := Aside0.mk (fun W A c h1 h2 => spec_ItemsOf.calls K2 A c ns room node g q W h1 h2 (e1 K2 (Nat.le_refl _)))
  have CIM := Aside0.mk CIM0
  have CEI := Aside0.mk (fun W A c A' c' h1 h3 => eqItemS_walk A A' c c' g W h1 h3 (by omega))
  have CEF := Aside0.mk (fun W A c A' c' h1 h3 => eqFs_walk A A' c c' ns room W h1 h3 hf)
  have CMF := Aside0.mk (fun W P v hB ho => markFs_walk P v room ns 1 w W hB ho hnl hf.list (by omega) (by omega))
  have CMI := Aside0.mk (fun W P v hB ho => laws_markItemS.calls K6 P v g 1 _ _ w W hB ho (mk0 K6 (Nat.le_refl _)))
  have CHI : Aside0 (∀ (W : World) (A : Option Addr) (c : Nat), Kd.C k52 W A (markIL 1 g.length).length (markIL 1 g.length) →
      Calls Tryd.prog 12 #[.slice A g.length c, .int .i64 1] W fun e w' => e = .returned (.int .i64 (1 + 8 * (g.length : Int))) ∧ Below W.heap.size W w') := ⟨fun W A c hr => heldItemS_walk W A g.length c (by rw [markIL_length] at hr; exact hr) hle⟩
  have q0 : decide (markEnd 1 ns < 0) = false := decide_eq_false (by omega)
  have q1 : decide (1 + 8 * (g.length : Int) < 0) = false := decide_eq_false (by omega)
  clear hq0 hp0 hl0 hs0 z0 z1 h hf t0 hns hnl e1 hle hR mk0 hme CIM0
  go_enter Tryd.func3, Tryd.ntmps3
  go_upto_region 1 with (fail)
  obtain ⟨w0, hW⟩ : ∃ W, W = w.alloc (.cells #[.slice A0 l0.length c0, .int .i64 room] 24 (0, 0)) := ⟨_, rfl⟩
  have D_w0 := Aside0.mk (show Below w.heap.size w w0 from by rw [hW]; exact below_alloc (Below.refl _ _) _)
  have BK_t2 := Aside0.mk (show w0.heap[w.heap.size]? = some (.cells #[.slice A0 l0.length c0, .int .i64 room] 24 (0, 0)) from by rw [hW]; exact blk_new _ _)
  have S_w0 := Aside0.mk (show w.heap.size < w0.heap.size from blk_lt BK_t2.out)
  have GB_t2 := Aside0.mk (show w.heap.size < w0.heap.size from blk_lt BK_t2.out)
  rw [← hW]
  clear hW
  have h_t20 : w0.cell? ⟨w.heap.size, 0, none⟩ = some (.slice A0 l0.length c0) := (blk_cell BK_t2.out 0).trans rfl
  have h_t21 : w0.cell? ⟨w.heap.size, 1, none⟩ = some (.int .i64 room) := (blk_cell BK_t2.out 1).trans rfl
  go_wp2_with fail
  refine (HSZ0.out _ D_w0.out).mono ?_; rintro e w1 ⟨rfl, hd⟩
  have D_w1 := Aside0.mk (below_step D_w0.out hd)
  have S_w1 := Aside0.mk (show w0.heap.size ≤ w1.heap.size from hd.size)
  replace BK_t2 := Aside0.mk ((hd.block _ (blk_lt BK_t2.out)).trans BK_t2.out)
  clear hd
  clear h_t20 h_t21
  have h_t20 : w1.cell? ⟨w.heap.size, 0, none⟩ = some (.slice A0 l0.length c0) := (blk_cell BK_t2.out 0).trans rfl
  have h_t21 : w1.cell? ⟨w.heap.size, 1, none⟩ = some (.int .i64 room) := (blk_cell BK_t2.out 1).trans rfl
  go_wp2_with fail
  refine (CT.out _ D_w1.out).mono ?_; rintro e w2 ⟨v, rfl, hR, hd⟩
  have D_w2 := Aside0.mk (below_step D_w1.out hd)
  have S_w2 := Aside0.mk (show w1.heap.size ≤ w2.heap.size from hd.size)
  replace BK_t2 := Aside0.mk ((hd.block _ (blk_lt BK_t2.out)).trans BK_t2.out)
  have R_a := Aside0.mk (S_iv hR)
  obtain ⟨A_a, c_a, rfl⟩ := Kd.S_slice hR
  clear hR
  clear hd
  clear h_t20 h_t21
  go_wp2_with fail
  refine (CSP.out _ _ _ (Kd.S_reads' R_a.out).2.2 (Kd.S_reads' R_a.out).2.1).mono ?_; rintro e w3 ⟨v, rfl, hR, hd⟩
  have D_w3 := Aside0.mk (below_step D_w2.out hd)
  have S_w3 := Aside0.mk (show w2.heap.size ≤ w3.heap.size from hd.size)
  replace R_a := Aside0.mk (Kd.S_below R_a.out hd)
  replace BK_t2 := Aside0.mk ((hd.block _ (blk_lt BK_t2.out)).trans BK_t2.out)
  have R_S := Aside0.mk (R_iv hR)
  obtain ⟨A_S, c_S, rfl⟩ := Kd.R_slice hR
  clear hR
  clear hd
  clear R_a
  have h_t20 : w3.cell? ⟨w.heap.size, 0, none⟩ = some (.slice A0 l0.length c0) := (blk_cell BK_t2.out 0).trans rfl
  have h_t21 : w3.cell? ⟨w.heap.size, 1, none⟩ = some (.int .i64 room) := (blk_cell BK_t2.out 1).trans rfl
  go_wp2_with fail
  refine (CT.out _ D_w3.out).mono ?_; rintro e w4 ⟨v, rfl, hR, hd⟩
  have D_w4 := Aside0.mk (below_step D_w3.out hd)
  have S_w4 := Aside0.mk (show w3.heap.size ≤ w4.heap.size from hd.size)
  replace R_S := Aside0.mk (Kd.R_below R_S.out hd)
  replace BK_t2 := Aside0.mk ((hd.block _ (blk_lt BK_t2.out)).trans BK_t2.out)
  have R_x0 := Aside0.mk (S_iv hR)
  obtain ⟨A_x0, c_x0, rfl⟩ := Kd.S_slice hR
  clear hR
  clear hd
  clear h_t20 h_t21
  go_upto_region 7 with (fail)
  obtain ⟨w5, hW⟩ : ∃ W, W = w4.alloc (.cells #[.slice A_x0 ns.length c_x0, .int .i64 room] 31 (0, 0)) := ⟨_, rfl⟩
  obtain ⟨g8, hg8⟩ : ∃ g, g = w4.heap.size := ⟨_, rfl⟩
  have hd : Below w4.heap.size w4 w5 := by rw [hW]; exact below_alloc (Below.refl _ _) _
  have D_w5 := Aside0.mk (below_step D_w4.out hd)
  have S_w5 := Aside0.mk (show w4.heap.size ≤ w5.heap.size from hd.size)
  replace R_S := Aside0.mk (Kd.R_below R_S.out hd)
  replace R_x0 := Aside0.mk (Kd.S_below R_x0.out hd)
  replace BK_t2 := Aside0.mk ((hd.block _ (blk_lt BK_t2.out)).trans BK_t2.out)
  have BK_t8 := Aside0.mk (show w5.heap[g8]? = some (.cells #[.slice A_x0 ns.length c_x0, .int .i64 room] 31 (0, 0)) from by rw [hW, hg8]; exact blk_new _ _)
  have GB_t8 := Aside0.mk (show w4.heap.size ≤ g8 from by omega)
  rw [← hW, ← hg8]
  clear hW hg8 hd
  have h_t80 : w5.cell? ⟨g8, 0, none⟩ = some (.slice A_x0 ns.length c_x0) := (blk_cell BK_t8.out 0).trans rfl
  have h_t81 : w5.cell? ⟨g8, 1, none⟩ = some (.int .i64 room) := (blk_cell BK_t8.out 1).trans rfl
  go_wp2_with fail
  refine (CIM.out _ _ _ (Kd.S_reads' R_x0.out).2.2 (Kd.S_reads' R_x0.out).2.1).mono ?_; rintro e w6 ⟨v, rfl, hR, hd⟩
  have D_w6 := Aside0.mk (below_step D_w5.out hd)
  have S_w6 := Aside0.mk (show w5.heap.size ≤ w6.heap.size from hd.size)
  replace R_S := Aside0.mk (Kd.R_below R_S.out hd)
  replace R_x0 := Aside0.mk (Kd.S_below R_x0.out hd)
  replace BK_t2 := Aside0.mk ((hd.block _ (blk_lt BK_t2.out)).trans BK_t2.out)
  replace BK_t8 := Aside0.mk ((hd.block _ (blk_lt BK_t8.out)).trans BK_t8.out)
  have R_G := Aside0.mk (R_iv hR)
  obtain ⟨A_G, c_G, rfl⟩ := Kd.R_slice hR
  clear hR
  clear hd
  clear h_t80 h_t81
  go_wp2_with fail
  refine (CEI.out _ _ _ _ _ (Kd.R_reads' R_G.out).2.2 (Kd.R_reads' R_S.out).2.2).mono ?_; rintro e w7 ⟨rfl, hd⟩
  have D_w7 := Aside0.mk (below_step D_w6.out hd)
  have S_w7 := Aside0.mk (show w6.heap.size ≤ w7.heap.size from hd.size)
  replace R_S := Aside0.mk (Kd.R_below R_S.out hd)
  replace R_x0 := Aside0.mk (Kd.S_below R_x0.out hd)
  replace R_G := Aside0.mk (Kd.R_below R_G.out hd)
  replace BK_t2 := Aside0.mk ((hd.block _ (blk_lt BK_t2.out)).trans BK_t2.out)
  replace BK_t8 := Aside0.mk ((hd.block _ (blk_lt BK_t8.out)).trans BK_t8.out)
  clear hd
  go_upto_region 10 with (fail)
  have kk := keep22 BK_t2.out BK_t8.out
  go_region_held3 (fun W => W.cell? ⟨w.heap.size, 0, none⟩ = some (.slice A0 l0.length c0) ∧ W.cell? ⟨w.heap.size, 1, none⟩ = some (.int .i64 room) ∧ W.cell? ⟨g8, 0, none⟩ = some (.slice A_x0 ns.length c_x0) ∧ W.cell? ⟨g8, 1, none⟩ = some (.int .i64 room)) (first | exact kk | exact keep22 (blk_drew BK_t2.out) (blk_drew BK_t8.out) | exact keep22 (blk_below (blk_below (blk_drew BK_t2.out) hd) hd2) (blk_below (blk_below (blk_drew BK_t8.out) hd) hd2) | exact keep22 (blk_below (blk_drew BK_t2.out) hd) (blk_below (blk_drew BK_t8.out) hd)) (first | (go_at_call 6; refine (CT.out _ (below_drew1 D_w7.out)).mono ?_; rintro e wt ⟨v, rfl, hR, hd⟩; obtain ⟨A_t, c_t, rfl⟩ := Kd.S_slice hR) | (go_at_call 9; refine (CEF.out wt A_x0 c_x0 A_t c_t (Kd.S_reads' (Kd.S_below (Kd.S_drew R_x0.out) hd)).2.2 (Kd.S_reads' hR).2.2).mono ?_; rintro e w8 ⟨rfl, hd2⟩))
  have hdd : Below w7.heap.size w7 w8 := below_step (below_step (below_drew1 (Below.refl _ _)) hd) hd2
  have D_w8 := Aside0.mk (below_step D_w7.out hdd)
  have S_w8 := Aside0.mk (show w7.heap.size ≤ w8.heap.size from hdd.size)
  replace R_S := Aside0.mk (Kd.R_below R_S.out hdd)
  replace R_x0 := Aside0.mk (Kd.S_below R_x0.out hdd)
  replace R_G := Aside0.mk (Kd.R_below R_G.out hdd)
  replace BK_t2 := Aside0.mk ((hdd.block _ (blk_lt BK_t2.out)).trans BK_t2.out)
  replace BK_t8 := Aside0.mk ((hdd.block _ (blk_lt BK_t8.out)).trans BK_t8.out)
  clear hd hd2 hdd hR kk
  have h_t80 : w8.cell? ⟨g8, 0, none⟩ = some (.slice A_x0 ns.length c_x0) := (blk_cell BK_t8.out 0).trans rfl
  have h_t81 : w8.cell? ⟨g8, 1, none⟩ = some (.int .i64 room) := (blk_cell BK_t8.out 1).trans rfl
  go_wp2_with fail
  refine (CMF.out _ (fun k => w3.heap.size ≤ k ∧ k < w4.heap.size) _ D_w8.out (Kd.S_lower R_x0.out D_w3.out.size)).mono ?_; rintro e w9 ⟨rfl, hm, hD, hk⟩
  have D_w9 := Aside0.mk hD
  have S_w9 := Aside0.mk (show w8.heap.size ≤ w9.heap.size from hk.1)
  replace R_S := Aside0.mk (R_kept R_S.out hk (fun k hk h => by have := S_w0.out; have := S_w1.out; have := S_w2.out; have := S_w3.out; have := S_w4.out; have := S_w5.out; have := S_w6.out; have := S_w7.out; have := S_w8.out; have := hk.1; have := hk.2; have := h.1; have := h.2; omega))
  replace R_G := Aside0.mk (R_kept R_G.out hk (fun k hk h => by have := S_w0.out; have := S_w1.out; have := S_w2.out; have := S_w3.out; have := S_w4.out; have := S_w5.out; have := S_w6.out; have := S_w7.out; have := S_w8.out; have := hk.1; have := hk.2; have := h.1; have := h.2; omega))
  replace BK_t2 := Aside0.mk ((hk.2 _ (blk_lt BK_t2.out) (fun h => by have := S_w0.out; have := S_w1.out; have := S_w2.out; have := S_w3.out; have := S_w4.out; have := S_w5.out; have := S_w6.out; have := S_w7.out; have := S_w8.out; have := GB_t2.out; have := h.1; have := h.2; omega)).trans BK_t2.out)
  replace BK_t8 := Aside0.mk ((hk.2 _ (blk_lt BK_t8.out) (fun h => by have := S_w0.out; have := S_w1.out; have := S_w2.out; have := S_w3.out; have := S_w4.out; have := S_w5.out; have := S_w6.out; have := S_w7.out; have := S_w8.out; have := GB_t8.out; have := h.1; have := h.2; omega)).trans BK_t8.out)
  clear R_x0
  have R_x0 := Aside0.mk hm
  clear hm hD hk
  clear h_t80 h_t81
  clear R_x0
  clear BK_t8 GB_t8
  go_wp2_with fail
  refine (CEI.out _ _ _ _ _ (Kd.R_reads' R_G.out).2.2 (Kd.R_reads' R_S.out).2.2).mono ?_; rintro e w10 ⟨rfl, hd⟩
  have D_w10 := Aside0.mk (below_step D_w9.out hd)
  have S_w10 := Aside0.mk (show w9.heap.size ≤ w10.heap.size from hd.size)
  replace R_S := Aside0.mk (Kd.R_below R_S.out hd)
  replace R_G := Aside0.mk (Kd.R_below R_G.out hd)
  replace BK_t2 := Aside0.mk ((hd.block _ (blk_lt BK_t2.out)).trans BK_t2.out)
  clear hd
  go_wp2_with fail
  refine (CMI.out _ (fun k => w5.heap.size ≤ k ∧ k < w6.heap.size) _ D_w10.out (Kd.R_lower R_G.out D_w5.out.size)).mono ?_; rintro e w11 ⟨rfl, hm, hD, hk⟩
  have D_w11 := Aside0.mk hD
  have S_w11 := Aside0.mk (show w10.heap.size ≤ w11.heap.size from hk.1)
  replace R_S := Aside0.mk (R_kept R_S.out hk (fun k hk h => by have := S_w0.out; have := S_w1.out; have := S_w2.out; have := S_w3.out; have := S_w4.out; have := S_w5.out; have := S_w6.out; have := S_w7.out; have := S_w8.out; have := S_w9.out; have := S_w10.out; have := hk.1; have := hk.2; have := h.1; have := h.2; omega))
  replace BK_t2 := Aside0.mk ((hk.2 _ (blk_lt BK_t2.out) (fun h => by have := S_w0.out; have := S_w1.out; have := S_w2.out; have := S_w3.out; have := S_w4.out; have := S_w5.out; have := S_w6.out; have := S_w7.out; have := S_w8.out; have := S_w9.out; have := S_w10.out; have := GB_t2.out; have := h.1; have := h.2; omega)).trans BK_t2.out)
  clear R_G
  have R_G := Aside0.mk hm
  clear hm hD hk
  go_wp2_with fail
  refine (CHI.out _ _ _ (Kd.R_reads' R_G.out).2.2).mono ?_; rintro e w12 ⟨rfl, hd⟩
  have D_w12 := Aside0.mk (below_step D_w11.out hd)
  have S_w12 := Aside0.mk (show w11.heap.size ≤ w12.heap.size from hd.size)
  replace R_S := Aside0.mk (Kd.R_below R_S.out hd)
  replace R_G := Aside0.mk (Kd.R_below R_G.out hd)
  replace BK_t2 := Aside0.mk ((hd.block _ (blk_lt BK_t2.out)).trans BK_t2.out)
  clear hd
  have h_t20 : w12.cell? ⟨w.heap.size, 0, none⟩ = some (.slice A0 l0.length c0) := (blk_cell BK_t2.out 0).trans rfl
  have h_t21 : w12.cell? ⟨w.heap.size, 1, none⟩ = some (.int .i64 room) := (blk_cell BK_t2.out 1).trans rfl
  go_wp2_with fail
  refine (CT.out _ D_w12.out).mono ?_; rintro e w13 ⟨v, rfl, hR, hd⟩
  have D_w13 := Aside0.mk (below_step D_w12.out hd)
  have S_w13 := Aside0.mk (show w12.heap.size ≤ w13.heap.size from hd.size)
  replace R_S := Aside0.mk (Kd.R_below R_S.out hd)
  replace R_G := Aside0.mk (Kd.R_below R_G.out hd)
  replace BK_t2 := Aside0.mk ((hd.block _ (blk_lt BK_t2.out)).trans BK_t2.out)
  have R_a := Aside0.mk (S_iv hR)
  obtain ⟨A_a, c_a, rfl⟩ := Kd.S_slice hR
  clear hR
  clear hd
  clear h_t20 h_t21
  go_wp2_with fail
  refine (CIM.out _ _ _ (Kd.S_reads' R_a.out).2.2 (Kd.S_reads' R_a.out).2.1).mono ?_; rintro e w14 ⟨v, rfl, hR, hd⟩
  have D_w14 := Aside0.mk (below_step D_w13.out hd)
  have S_w14 := Aside0.mk (show w13.heap.size ≤ w14.heap.size from hd.size)
  replace R_S := Aside0.mk (Kd.R_below R_S.out hd)
  replace R_G := Aside0.mk (Kd.R_below R_G.out hd)
  replace R_a := Aside0.mk (Kd.S_below R_a.out hd)
  replace BK_t2 := Aside0.mk ((hd.block _ (blk_lt BK_t2.out)).trans BK_t2.out)
  have R_H := Aside0.mk (R_iv hR)
  obtain ⟨A_H, c_H, rfl⟩ := Kd.R_slice hR
  clear hR
  clear hd
  clear R_a
  go_wp2_with fail
  refine (CEI.out _ _ _ _ _ (Kd.R_reads' R_H.out).2.2 (Kd.R_reads' R_S.out).2.2).mono ?_; rintro e w15 ⟨rfl, hd⟩
  have D_w15 := Aside0.mk (below_step D_w14.out hd)
  have S_w15 := Aside0.mk (show w14.heap.size ≤ w15.heap.size from hd.size)
  replace R_S := Aside0.mk (Kd.R_below R_S.out hd)
  replace R_G := Aside0.mk (Kd.R_below R_G.out hd)
  replace R_H := Aside0.mk (Kd.R_below R_H.out hd)
  replace BK_t2 := Aside0.mk ((hd.block _ (blk_lt BK_t2.out)).trans BK_t2.out)
  clear hd
  go_wp2_with fail
  refine (CHI.out _ _ _ (Kd.R_reads' R_G.out).2.2).mono ?_; rintro e w16 ⟨rfl, hd⟩
  have D_w16 := Aside0.mk (below_step D_w15.out hd)
  have S_w16 := Aside0.mk (show w15.heap.size ≤ w16.heap.size from hd.size)
  replace R_S := Aside0.mk (Kd.R_below R_S.out hd)
  replace R_G := Aside0.mk (Kd.R_below R_G.out hd)
  replace R_H := Aside0.mk (Kd.R_below R_H.out hd)
  replace BK_t2 := Aside0.mk ((hd.block _ (blk_lt BK_t2.out)).trans BK_t2.out)
  clear hd
  go_wp2
  go_ret
  exact ⟨rfl, D_w16.out⟩

end Go.Proofs.YthalkpflbbpniaaDoor.Q
