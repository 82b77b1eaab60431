/- Texts of this claim, merged by a program (wip/tools/merge.py): Q77, Q83, Q79, Q80, Q84, Q43, Q72, Q75, HTree, Q90, Q91, Q92. -/
import Derived.Test.YtfohpboikknknaaGreatDoorF2
import Derived.Test.YtfohpboikknknaaGreatDoorF4
import Derived.Test.YtfohpboikknknaaGreatDoorF3
namespace Go.Proofs.YtfohpboikknknaaGreatDoor.Q
open Go.RowKit Go.Proofs.YtfohpboikknknaaGreatDoorW.PrintWords Go.Proofs.YtfohpboikknknaaGreatDoorW.PrintLast Go.Proofs.YtfohpboikknknaaGreatDoorW.PrintMore
attribute [local go_sem] max2_int min2_int max_two min_two max_three min_three max_four min_four
set_option linter.unusedVariables false
set_option linter.unusedSimpArgs false
def impl_Fs_mayAt.f (l0_0 : List (S85)) (a0_1 : Int) (a1_0 : Int) (a1_1 : Int) (a2 : Int) (a3 : Int) : Option (Bool) := if 0 ≤ a2 then (if a2 < (l0_0.length : Int) then ((impl_Cred_may.f a1_0 a1_1 ((rd_T85 l0_0 a2).f1) ((rd_T85 l0_0 a2).f2) ((rd_T85 l0_0 a2).f3) a3).bind fun t321 => (some t321)) else (none)) else (none)
set_option maxHeartbeats 8000000 in
set_option maxRecDepth 100000 in
theorem impl_Fs_mayAt.calls (A0_0 : Option Addr) (c0_0 : Nat) (l0_0 : List (S85)) (a0_1 : Int) (a1_0 : Int) (a1_1 : Int) (a2 : Int) (a3 : Int) (r : Bool) (w : World) (hr0_0 : Kd.C k85 w A0_0 l0_0.length l0_0) (hc0_0 : l0_0.length ≤ c0_0) (h : impl_Fs_mayAt.f l0_0 a0_1 a1_0 a1_1 a2 a3 = some r) :
  Calls Tryz.prog 111 #[.agg #[.slice A0_0 l0_0.length c0_0, .int .i64 a0_1], .agg #[.int .i64 a1_0, .int .i64 a1_1], .int .i64 a2, .int .i64 a3] w fun e w' => e = .returned (.bool r) ∧ Below w.heap.size w w' := by
 have hu34 := Tryz.underlying34
 have hu36 := Tryz.underlying36
 have hu85 := Tryz.underlying85
 have HR0_0 := Aside0.mk hr0_0
 have HC0_0 := Aside0.mk hc0_0
 clear hr0_0 hc0_0
 have HB := Aside0.mk (Below.refl w.heap.size w)
 have H : (if 0 ≤ a2 then (if a2 < (l0_0.length : Int) then ((impl_Cred_may.f a1_0 a1_1 ((rd_T85 l0_0 a2).f1) ((rd_T85 l0_0 a2).f2) ((rd_T85 l0_0 a2).f3) a3).bind fun t321 => (some t321)) else (none)) else (none)) = some r := h
 clear h
 refine Or.elim (Classical.em (0 ≤ a2)) (fun c5 => ?_) (fun c5 => by rw [if_neg c5] at H; exact absurd H (by simp))
 rw [if_pos c5] at H
 have c5b0 : decide (0 ≤ a2) = true := decide_eq_true c5
 clear c5
 refine Or.elim (Classical.em (a2 < (l0_0.length : Int))) (fun c6 => ?_) (fun c6 => by rw [if_neg c6] at H; exact absurd H (by simp))
 rw [if_pos c6] at H
 have c6b0 : decide (a2 < (l0_0.length : Int)) = true := decide_eq_true c6
 clear c6
 replace H := Option.bind_eq_some_iff.mp H
 obtain ⟨t321, A70, H⟩ := H
 replace H : (some t321) = some r := H
 have A7 := Aside0.mk A70
 clear A70
 obtain rfl := Option.some.inj H
 go_enter Tryz.func111, Tryz.ntmps111
 go_wp2_with (first | ((with_reducible refine gate_dst (N := 4) rfl ?_); refine box_event rfl (N := 4) rfl (cs := #[.slice A0_0 l0_0.length c0_0, .int .i64 a0_1]) (t := 34) (by first | (go_simp; done) | (go_simp; rfl)) ?_; intro gb317 hg w8 hbox hb; have BK317 := Aside0.mk (hbox); have GW317 := Aside0.mk (Gtr.gz hg (Gtr.bw HB.out)); have GE317 := GW317; replace HB := Aside0.mk (below_step (Gtr.bw HB.out) hb); clear hb hbox hg) | ((with_reducible refine gate_dst (N := 5) rfl ?_); refine box_event rfl (N := 5) rfl (cs := #[.int .i64 a1_0, .int .i64 a1_1]) (t := 36) (by first | (go_simp; done) | (go_simp; rfl)) ?_; intro gb318 hg w9 hbox hb; have BK318 := Aside0.mk (hbox); have GW318 := Aside0.mk (Gtr.gz hg (Gtr.bw HB.out)); have GE318 := GW318; replace HB := Aside0.mk (below_step (Gtr.bw HB.out) hb); have NB317_318 := Aside0.mk (Gtr.nl hg (Gtr.bk BK317.out)); have NB318_317 := Aside0.mk NB317_318.out.symm; replace BK317 := Aside0.mk (blk_below (Gtr.bk BK317.out) hb); clear hb hbox hg; have hnb10 := NB317_318.out; have hnc10 := NB318_317.out; have hcz11_0 := fun o_ => blk_cell BK317.out o_; have hfz11_0 := fun o_ => blk_frozen BK317.out o_; have p319 : 0 ≤ (a2 : Int) := Gtr.od; have q319 : a2 < (l0_0.length : Int) := Gtr.od; obtain ⟨ad319, A319_6, c319_6, e319, hx319_0, hx319_1, hx319_2, hx319_3, hx319_4, hx319_5, hx319_6, hl319_6, hi319_6⟩ := at_T85 HR0_0.out a2 p319 q319; cases e319; replace hx319_0 := Gtr.cl HB.out hx319_0; replace hx319_1 := Gtr.cl HB.out hx319_1; replace hx319_2 := Gtr.cl HB.out hx319_2; replace hx319_3 := Gtr.cl HB.out hx319_3; replace hx319_4 := Gtr.cl HB.out hx319_4; replace hx319_5 := Gtr.cl HB.out hx319_5; replace hx319_6 := Gtr.cl HB.out hx319_6; have HR319_6 := Aside0.mk hi319_6; have HC319_6 := Aside0.mk hl319_6; clear hi319_6 hl319_6; replace p319 := eq_true p319; replace q319 := eq_true q319) | ((with_reducible refine gate_dst (N := 9) rfl ?_); refine box_event rfl (N := 9) rfl (cs := #[.int .i64 0, .int .i64 0, .int .i64 0, .int .i64 0, .int .i64 0, .string (⟨#[]⟩ : ByteArray), .slice none 0 0]) (t := 85) (by first | (go_simp; done) | (go_simp; rfl)) ?_; intro gb320 hg w12 hbox hb; have BK320 := Aside0.mk (hbox); have GW320 := Aside0.mk (Gtr.gz hg (Gtr.bw HB.out)); have GE320 := GW320; replace HB := Aside0.mk (below_step (Gtr.bw HB.out) hb); have NB317_320 := Aside0.mk (Gtr.nl hg (Gtr.bk BK317.out)); have NB320_317 := Aside0.mk NB317_320.out.symm; replace BK317 := Aside0.mk (blk_below (Gtr.bk BK317.out) hb); have NB318_320 := Aside0.mk (Gtr.nl hg (Gtr.bk BK318.out)); have NB320_318 := Aside0.mk NB318_320.out.symm; replace BK318 := Aside0.mk (blk_below (Gtr.bk BK318.out) hb); clear hb hbox hg; have hnb13 := NB320_317.out; have hnc13 := NB317_320.out; have hnb14 := NB320_318.out; have hnc14 := NB318_320.out; have hcz15_0 := fun o_ => blk_cell BK320.out o_; have hfz15_0 := fun o_ => blk_frozen BK320.out o_; have hcz16_0 := fun o_ => blk_cell BK318.out o_; have hfz16_0 := fun o_ => blk_frozen BK318.out o_) | ((with_reducible refine gate_callee (f := 157) rfl ?_); refine goesL_ (some 23) rfl rfl Tryz.func157 (by kernel_rfl) rfl #[.agg #[.int .i64 a1_0, .int .i64 a1_1], .int .i64 ((rd_T85 l0_0 a2).f1), .int .i64 ((rd_T85 l0_0 a2).f2), .int .i64 ((rd_T85 l0_0 a2).f3), .int .i64 a3] rfl (by (try simp only [List.map_toArray, List.map_cons, List.map_nil]); first | done | rfl | (simp only [List.length_drop, List.length_take]; rfl)) ?_; (with_reducible refine (impl_Cred_may.calls a1_0 a1_1 ((rd_T85 l0_0 a2).f1) ((rd_T85 l0_0 a2).f2) ((rd_T85 l0_0 a2).f3) a3 t321 _ A7.out).mono ?_); rintro e w17 ⟨rfl, hb⟩; refine ⟨_, rfl, ?_⟩; replace BK317 := Aside0.mk (blk_below (g := gb317) (o := .cells #[.slice (some ad319) l0_0.length c0_0, .int .i64 a0_1] 34 (0, 0)) (by (with_reducible repeat (first | refine blk_drewN ?_ _ | refine blk_drew ?_ | refine blk_alloc ?_ _)); refine blk_far ?_ NB317_320.out _; (with_reducible repeat (first | refine blk_drewN ?_ _ | refine blk_drew ?_ | refine blk_alloc ?_ _)); refine blk_far ?_ NB317_320.out _; (with_reducible repeat (first | refine blk_drewN ?_ _ | refine blk_drew ?_ | refine blk_alloc ?_ _)); refine blk_far ?_ NB317_320.out _; (with_reducible repeat (first | refine blk_drewN ?_ _ | refine blk_drew ?_ | refine blk_alloc ?_ _)); refine blk_far ?_ NB317_320.out _; (with_reducible repeat (first | refine blk_drewN ?_ _ | refine blk_drew ?_ | refine blk_alloc ?_ _)); refine blk_far ?_ NB317_320.out _; (with_reducible repeat (first | refine blk_drewN ?_ _ | refine blk_drew ?_ | refine blk_alloc ?_ _)); refine blk_far ?_ NB317_320.out _; (with_reducible repeat (first | refine blk_drewN ?_ _ | refine blk_drew ?_ | refine blk_alloc ?_ _)); refine blk_far ?_ NB317_320.out _; (with_reducible repeat (first | refine blk_drewN ?_ _ | refine blk_drew ?_ | refine blk_alloc ?_ _)); exact BK317.out) hb); replace BK318 := Aside0.mk (blk_below (g := gb318) (o := .cells #[.int .i64 a1_0, .int .i64 a1_1] 36 (0, 0)) (by (with_reducible repeat (first | refine blk_drewN ?_ _ | refine blk_drew ?_ | refine blk_alloc ?_ _)); refine blk_far ?_ NB318_320.out _; (with_reducible repeat (first | refine blk_drewN ?_ _ | refine blk_drew ?_ | refine blk_alloc ?_ _)); refine blk_far ?_ NB318_320.out _; (with_reducible repeat (first | refine blk_drewN ?_ _ | refine blk_drew ?_ | refine blk_alloc ?_ _)); refine blk_far ?_ NB318_320.out _; (with_reducible repeat (first | refine blk_drewN ?_ _ | refine blk_drew ?_ | refine blk_alloc ?_ _)); refine blk_far ?_ NB318_320.out _; (with_reducible repeat (first | refine blk_drewN ?_ _ | refine blk_drew ?_ | refine blk_alloc ?_ _)); refine blk_far ?_ NB318_320.out _; (with_reducible repeat (first | refine blk_drewN ?_ _ | refine blk_drew ?_ | refine blk_alloc ?_ _)); refine blk_far ?_ NB318_320.out _; (with_reducible repeat (first | refine blk_drewN ?_ _ | refine blk_drew ?_ | refine blk_alloc ?_ _)); refine blk_far ?_ NB318_320.out _; (with_reducible repeat (first | refine blk_drewN ?_ _ | refine blk_drew ?_ | refine blk_alloc ?_ _)); exact BK318.out) hb); replace BK320 := Aside0.mk (blk_below (g := gb320) (o := .cells #[.int .i64 ((rd_T85 l0_0 a2).f0), .int .i64 ((rd_T85 l0_0 a2).f1), .int .i64 ((rd_T85 l0_0 a2).f2), .int .i64 ((rd_T85 l0_0 a2).f3), .int .i64 ((rd_T85 l0_0 a2).f4), .string ((rd_T85 l0_0 a2).f5), .slice A319_6 ((rd_T85 l0_0 a2).f6).length c319_6] 85 (0, 0)) (by (with_reducible repeat (first | refine blk_drewN ?_ _ | refine blk_drew ?_ | refine blk_alloc ?_ _)); refine blk_put (cs := #[.int .i64 ((rd_T85 l0_0 a2).f0), .int .i64 ((rd_T85 l0_0 a2).f1), .int .i64 ((rd_T85 l0_0 a2).f2), .int .i64 ((rd_T85 l0_0 a2).f3), .int .i64 ((rd_T85 l0_0 a2).f4), .string ((rd_T85 l0_0 a2).f5), .slice none 0 0]) ?_ 6 _ rfl; (with_reducible repeat (first | refine blk_drewN ?_ _ | refine blk_drew ?_ | refine blk_alloc ?_ _)); refine blk_put (cs := #[.int .i64 ((rd_T85 l0_0 a2).f0), .int .i64 ((rd_T85 l0_0 a2).f1), .int .i64 ((rd_T85 l0_0 a2).f2), .int .i64 ((rd_T85 l0_0 a2).f3), .int .i64 ((rd_T85 l0_0 a2).f4), .string (⟨#[]⟩ : ByteArray), .slice none 0 0]) ?_ 5 _ rfl; (with_reducible repeat (first | refine blk_drewN ?_ _ | refine blk_drew ?_ | refine blk_alloc ?_ _)); refine blk_put (cs := #[.int .i64 ((rd_T85 l0_0 a2).f0), .int .i64 ((rd_T85 l0_0 a2).f1), .int .i64 ((rd_T85 l0_0 a2).f2), .int .i64 ((rd_T85 l0_0 a2).f3), .int .i64 0, .string (⟨#[]⟩ : ByteArray), .slice none 0 0]) ?_ 4 _ rfl; (with_reducible repeat (first | refine blk_drewN ?_ _ | refine blk_drew ?_ | refine blk_alloc ?_ _)); refine blk_put (cs := #[.int .i64 ((rd_T85 l0_0 a2).f0), .int .i64 ((rd_T85 l0_0 a2).f1), .int .i64 ((rd_T85 l0_0 a2).f2), .int .i64 0, .int .i64 0, .string (⟨#[]⟩ : ByteArray), .slice none 0 0]) ?_ 3 _ rfl; (with_reducible repeat (first | refine blk_drewN ?_ _ | refine blk_drew ?_ | refine blk_alloc ?_ _)); refine blk_put (cs := #[.int .i64 ((rd_T85 l0_0 a2).f0), .int .i64 ((rd_T85 l0_0 a2).f1), .int .i64 0, .int .i64 0, .int .i64 0, .string (⟨#[]⟩ : ByteArray), .slice none 0 0]) ?_ 2 _ rfl; (with_reducible repeat (first | refine blk_drewN ?_ _ | refine blk_drew ?_ | refine blk_alloc ?_ _)); refine blk_put (cs := #[.int .i64 ((rd_T85 l0_0 a2).f0), .int .i64 0, .int .i64 0, .int .i64 0, .int .i64 0, .string (⟨#[]⟩ : ByteArray), .slice none 0 0]) ?_ 1 _ rfl; (with_reducible repeat (first | refine blk_drewN ?_ _ | refine blk_drew ?_ | refine blk_alloc ?_ _)); refine blk_put (cs := #[.int .i64 0, .int .i64 0, .int .i64 0, .int .i64 0, .int .i64 0, .string (⟨#[]⟩ : ByteArray), .slice none 0 0]) ?_ 0 _ rfl; (with_reducible repeat (first | refine blk_drewN ?_ _ | refine blk_drew ?_ | refine blk_alloc ?_ _)); exact BK320.out) hb); replace HB := Aside0.mk (below_step (Gtr.bw HB.out) hb); (try clear hb); (try clear hb2); (try clear hk); (try clear hi)))
 go_ret
 exact ⟨Gtr.fe, Gtr.bw HB.out⟩
def impl_Fs_mayLook.f (l0_0 : List (S85)) (a0_1 : Int) (a1_0 : Int) (a1_1 : Int) (a2 : Int) : Option (Bool) := (impl_Fs_mayAt.f l0_0 a0_1 a1_0 a1_1 a2 5).bind fun t331 => (some t331)
set_option maxHeartbeats 8000000 in
set_option maxRecDepth 100000 in
theorem impl_Fs_mayLook.calls (A0_0 : Option Addr) (c0_0 : Nat) (l0_0 : List (S85)) (a0_1 : Int) (a1_0 : Int) (a1_1 : Int) (a2 : Int) (r : Bool) (w : World) (hr0_0 : Kd.C k85 w A0_0 l0_0.length l0_0) (hc0_0 : l0_0.length ≤ c0_0) (h : impl_Fs_mayLook.f l0_0 a0_1 a1_0 a1_1 a2 = some r) :
  Calls Tryz.prog 132 #[.agg #[.slice A0_0 l0_0.length c0_0, .int .i64 a0_1], .agg #[.int .i64 a1_0, .int .i64 a1_1], .int .i64 a2] w fun e w' => e = .returned (.bool r) ∧ Below w.heap.size w w' := by
 have hu34 := Tryz.underlying34
 have hu36 := Tryz.underlying36
 have HR0_0 := Aside0.mk hr0_0
 have HC0_0 := Aside0.mk hc0_0
 clear hr0_0 hc0_0
 have HB := Aside0.mk (Below.refl w.heap.size w)
 have H : ((impl_Fs_mayAt.f l0_0 a0_1 a1_0 a1_1 a2 5).bind fun t331 => (some t331)) = some r := h
 clear h
 replace H := Option.bind_eq_some_iff.mp H
 obtain ⟨t331, A40, H⟩ := H
 try dsimp only at H
 have A4 := Aside0.mk A40
 clear A40
 obtain rfl := Option.some.inj H
 go_enter Tryz.func132, Tryz.ntmps132
 go_wp2_with (first | ((with_reducible refine gate_dst (N := 3) rfl ?_); refine box_event rfl (N := 3) rfl (cs := #[.slice A0_0 l0_0.length c0_0, .int .i64 a0_1]) (t := 34) (by first | (go_simp; done) | (go_simp; rfl)) ?_; intro gb329 hg w5 hbox hb; have BK329 := Aside0.mk (hbox); have GW329 := Aside0.mk (Gtr.gz hg (Gtr.bw HB.out)); have GE329 := GW329; replace HB := Aside0.mk (below_step (Gtr.bw HB.out) hb); clear hb hbox hg) | ((with_reducible refine gate_dst (N := 4) rfl ?_); refine box_event rfl (N := 4) rfl (cs := #[.int .i64 a1_0, .int .i64 a1_1]) (t := 36) (by first | (go_simp; done) | (go_simp; rfl)) ?_; intro gb330 hg w6 hbox hb; have BK330 := Aside0.mk (hbox); have GW330 := Aside0.mk (Gtr.gz hg (Gtr.bw HB.out)); have GE330 := GW330; replace HB := Aside0.mk (below_step (Gtr.bw HB.out) hb); have NB329_330 := Aside0.mk (Gtr.nl hg (Gtr.bk BK329.out)); have NB330_329 := Aside0.mk NB329_330.out.symm; replace BK329 := Aside0.mk (blk_below (Gtr.bk BK329.out) hb); clear hb hbox hg; have hnb7 := NB329_330.out; have hnc7 := NB330_329.out; have hcz8_0 := fun o_ => blk_cell BK329.out o_; have hfz8_0 := fun o_ => blk_frozen BK329.out o_; have hcz9_0 := fun o_ => blk_cell BK330.out o_; have hfz9_0 := fun o_ => blk_frozen BK330.out o_) | ((with_reducible refine gate_callee (f := 111) rfl ?_); refine goesL_ (some 10) rfl rfl Tryz.func111 (by kernel_rfl) rfl #[.agg #[.slice A0_0 l0_0.length c0_0, .int .i64 a0_1], .agg #[.int .i64 a1_0, .int .i64 a1_1], .int .i64 a2, .int .i64 5] rfl (by (try simp only [List.map_toArray, List.map_cons, List.map_nil]); first | done | rfl | (simp only [List.length_drop, List.length_take]; rfl)) ?_; (with_reducible refine (impl_Fs_mayAt.calls _ _ l0_0 a0_1 a1_0 a1_1 a2 5 t331 _ ?side1 ?side2 A4.out).mono ?_); (case side1 => repeat (first | exact (Kd.C_below HR0_0.out HB.out) | (with_reducible refine Kd.C_alloc ?_ _) | (with_reducible refine Kd.C_drewN ?_ _) | (with_reducible refine Kd.C_drew ?_))); (case side2 => exact HC0_0.out); rintro e w10 ⟨rfl, hb⟩; refine ⟨_, rfl, ?_⟩; replace BK329 := Aside0.mk (blk_below (Gtr.bk BK329.out) hb); replace BK330 := Aside0.mk (blk_below (Gtr.bk BK330.out) hb); replace HB := Aside0.mk (below_step (Gtr.bw HB.out) hb); (try clear hb); (try clear hb2); (try clear hk); (try clear hi)))
 go_ret
 exact ⟨Gtr.fe, (Gtr.bw HB.out)⟩
def stringslite_HasSuffix.f (a0 : ByteArray) (a1 : ByteArray) : Option (Bool) := if (a0.size : Int) ≥ (a1.size : Int) then (if 0 ≤ (wrap64 ((a0.size : Int) - (a1.size : Int))) then (if (wrap64 ((a0.size : Int) - (a1.size : Int))) ≤ (a0.size : Int) then (some ((a0.extract ((wrap64 ((a0.size : Int) - (a1.size : Int))) : Int).toNat a0.size).toList == a1.toList)) else (none)) else (none)) else (some false)
set_option maxHeartbeats 8000000 in
set_option maxRecDepth 100000 in
theorem stringslite_HasSuffix.calls (a0 : ByteArray) (a1 : ByteArray) (r : Bool) (w : World) (h : stringslite_HasSuffix.f a0 a1 = some r) :
  Calls Tryz.prog 171 #[.string a0, .string a1] w fun e w' => e = .returned (.bool r) ∧ Drawn0 w w' := by
 have H : (if (a0.size : Int) ≥ (a1.size : Int) then (if 0 ≤ (wrap64 ((a0.size : Int) - (a1.size : Int))) then (if (wrap64 ((a0.size : Int) - (a1.size : Int))) ≤ (a0.size : Int) then (some ((a0.extract ((wrap64 ((a0.size : Int) - (a1.size : Int))) : Int).toNat a0.size).toList == a1.toList)) else (none)) else (none)) else (some false)) = some r := h
 clear h
 by_cases c3 : (a0.size : Int) ≥ (a1.size : Int)
 ·rw [if_pos c3] at H
  have c3b0 : decide ((a1.size : Int) ≤ (a0.size : Int)) = true := decide_eq_true c3
  have c3b1 : decide (a1.size ≤ a0.size) = true := decide_eq_true (Int.ofNat_le.mp c3)
  clear c3
  obtain ⟨ji4, hji4⟩ : ∃ j_ : Int, (wrap64 ((a0.size : Int) - (a1.size : Int))) = j_ := ⟨_, rfl⟩
  replace H : (if 0 ≤ (ji4) then (if (ji4) ≤ (a0.size : Int) then (some ((a0.extract ((ji4) : Int).toNat a0.size).toList == a1.toList)) else (none)) else (none)) = some r := by first | (rw [hji4] at H; exact H) | (simp only [hji4] at H ⊢; exact H)
  have hji4w : (IntKind.i64.wrap ((a0.size : Int) - (a1.size : Int))) = ji4 := (i64_w _).trans hji4
  refine Or.elim (Classical.em (0 ≤ (ji4))) (fun c5 => ?_) (fun c5 => by rw [if_neg c5] at H; exact absurd H (by simp))
  rw [if_pos c5] at H
  have c5b0 := eq_true c5
  have c5b1 : decide (0 ≤ (ji4)) = true := decide_eq_true c5
  clear c5
  refine Or.elim (Classical.em ((ji4) ≤ (a0.size : Int))) (fun c6 => ?_) (fun c6 => by rw [if_neg c6] at H; exact absurd H (by simp))
  rw [if_pos c6] at H
  have c6b0 := eq_true c6
  have c6b1 : decide ((ji4) ≤ (a0.size : Int)) = true := decide_eq_true c6
  clear c6
  obtain rfl := Option.some.inj H
  go_enter Tryz.func171, Tryz.ntmps171
  go_wp2
  go_ret
  exact ⟨by first | rfl | (simp; done) | (simp only [← hji4] <;> (first | rfl | simp)) | (simp [*]; done), by repeat (first | exact Drawn0.refl _ | apply Drawn0.step)⟩
 ·rw [if_neg c3] at H
  have c3b0 : decide ((a1.size : Int) ≤ (a0.size : Int)) = false := decide_eq_false c3
  have c3b1 : decide (a1.size ≤ a0.size) = false := decide_eq_false (fun h => c3 (Int.ofNat_le.mpr h))
  clear c3
  obtain rfl := Option.some.inj H
  go_enter Tryz.func171, Tryz.ntmps171
  go_wp2
  go_ret
  exact ⟨by first | rfl | (simp; done) | (simp [*]; done), by repeat (first | exact Drawn0.refl _ | apply Drawn0.step)⟩
def strings_HasSuffix.f (a0 : ByteArray) (a1 : ByteArray) : Option (Bool) := (stringslite_HasSuffix.f a0 a1).bind fun t327 => (some t327)
set_option maxHeartbeats 8000000 in
set_option maxRecDepth 100000 in
theorem strings_HasSuffix.calls (a0 : ByteArray) (a1 : ByteArray) (r : Bool) (w : World) (h : strings_HasSuffix.f a0 a1 = some r) :
  Calls Tryz.prog 129 #[.string a0, .string a1] w fun e w' => e = .returned (.bool r) ∧ Drawn0 w w' := by
 have H : ((stringslite_HasSuffix.f a0 a1).bind fun t327 => (some t327)) = some r := h
 clear h
 replace H := Option.bind_eq_some_iff.mp H
 obtain ⟨t327, A30, H⟩ := H
 try dsimp only at H
 have A3 := Aside0.mk A30
 clear A30
 obtain rfl := Option.some.inj H
 go_enter Tryz.func129, Tryz.ntmps129
 go_wp2_with (first | ((with_reducible refine gate_callee (f := 171) rfl ?_); refine goesL_ (some 7) rfl rfl Tryz.func171 (by kernel_rfl) rfl #[.string a0, .string a1] rfl (by (try simp only [List.map_toArray, List.map_cons, List.map_nil]); first | done | rfl | (simp only [List.length_drop, List.length_take]; rfl)) ?_; (with_reducible refine (stringslite_HasSuffix.calls a0 a1 t327 _ A3.out).mono ?_); rintro e w' ⟨rfl, ⟨nd, rfl⟩⟩; refine ⟨_, rfl, ?_⟩))
 go_ret
 exact ⟨by first | rfl | (simp; done) | (simp [*]; done), by repeat (first | exact Drawn0.refl _ | apply Drawn0.step)⟩
def impl_slash.f (a0 : ByteArray) (a1 : ByteArray) : Option (ByteArray) := (strings_HasSuffix.f a0 (⟨#[47]⟩ : ByteArray)).bind fun t332 => (if t332 = true then (if a0.size + a1.size ≤ 9223372036854775807 then (some (a0 ++ a1)) else (none)) else (if a0.size + 1 ≤ 9223372036854775807 then (if (a0 ++ (⟨#[47]⟩ : ByteArray)).size + a1.size ≤ 9223372036854775807 then (some ((a0 ++ (⟨#[47]⟩ : ByteArray)) ++ a1)) else (none)) else (none)))
set_option maxHeartbeats 8000000 in
set_option maxRecDepth 100000 in
theorem impl_slash.calls (a0 : ByteArray) (a1 : ByteArray) (r : ByteArray) (w : World) (h : impl_slash.f a0 a1 = some r) :
  Calls Tryz.prog 133 #[.string a0, .string a1] w fun e w' => e = .returned (.string r) ∧ Drawn0 w w' := by
 have H : ((strings_HasSuffix.f a0 (⟨#[47]⟩ : ByteArray)).bind fun t332 => (if t332 = true then (if a0.size + a1.size ≤ 9223372036854775807 then (some (a0 ++ a1)) else (none)) else (if a0.size + 1 ≤ 9223372036854775807 then (if (a0 ++ (⟨#[47]⟩ : ByteArray)).size + a1.size ≤ 9223372036854775807 then (some ((a0 ++ (⟨#[47]⟩ : ByteArray)) ++ a1)) else (none)) else (none)))) = some r := h
 clear h
 replace H := Option.bind_eq_some_iff.mp H
 obtain ⟨t332, A30, H⟩ := H
 try dsimp only at H
 have A3 := Aside0.mk A30
 clear A30
 by_cases c4 : t332 = true
 ·subst c4
  have H1 := H
  rw [if_pos rfl] at H1
  clear H
  have H := H1
  clear H1
  refine Or.elim (Classical.em (a0.size + a1.size ≤ 9223372036854775807)) (fun c5 => ?_) (fun c5 => by rw [if_neg c5] at H; exact absurd H (by simp))
  rw [if_pos c5] at H
  have c5b0 := eq_true c5
  have c5b1 : decide (a0.size + a1.size ≤ 9223372036854775807) = true := decide_eq_true c5
  try have c5b2 : (9223372036854775807 < a0.size + a1.size) = False := eq_false (Nat.not_lt.2 c5)
  obtain rfl := Option.some.inj H
  go_enter Tryz.func133, Tryz.ntmps133
  go_wp2_with (first | ((with_reducible refine gate_callee (f := 129) rfl ?_); refine goesL_ (some 6) rfl rfl Tryz.func129 (by kernel_rfl) rfl #[.string a0, .string (⟨#[47]⟩ : ByteArray)] rfl (by (try simp only [List.map_toArray, List.map_cons, List.map_nil]); first | done | rfl | (simp only [List.length_drop, List.length_take]; rfl)) ?_; (with_reducible refine (strings_HasSuffix.calls a0 (⟨#[47]⟩ : ByteArray) true _ A3.out).mono ?_); rintro e w' ⟨rfl, ⟨nd, rfl⟩⟩; refine ⟨_, rfl, ?_⟩))
  go_ret
  exact ⟨by first | rfl | (simp; done) | (simp [*]; done), by repeat (first | exact Drawn0.refl _ | apply Drawn0.step)⟩
 ·replace c4 := Bool.eq_false_iff.mpr c4
  subst c4
  have H1 : (if a0.size + 1 ≤ 9223372036854775807 then (if (a0 ++ (⟨#[47]⟩ : ByteArray)).size + a1.size ≤ 9223372036854775807 then (some ((a0 ++ (⟨#[47]⟩ : ByteArray)) ++ a1)) else (none)) else (none)) = some r := by rw [if_neg (show ¬ (false = true) by decide)] at H; exact H
  clear H
  have H := H1
  clear H1
  refine Or.elim (Classical.em (a0.size + 1 ≤ 9223372036854775807)) (fun c6 => ?_) (fun c6 => by rw [if_neg c6] at H; exact absurd H (by simp))
  rw [if_pos c6] at H
  have c6b0 := eq_true c6
  have c6b1 : decide (a0.size + 1 ≤ 9223372036854775807) = true := decide_eq_true c6
  try have c6b2 : (9223372036854775807 < a0.size + 1) = False := eq_false (Nat.not_lt.2 c6)
  refine Or.elim (Classical.em ((a0 ++ (⟨#[47]⟩ : ByteArray)).size + a1.size ≤ 9223372036854775807)) (fun c7 => ?_) (fun c7 => by rw [if_neg c7] at H; exact absurd H (by simp))
  rw [if_pos c7] at H
  have c7b0 := eq_true c7
  have c7b1 : decide ((a0 ++ (⟨#[47]⟩ : ByteArray)).size + a1.size ≤ 9223372036854775807) = true := decide_eq_true c7
  try have c7b2 : (9223372036854775807 < (a0 ++ (⟨#[47]⟩ : ByteArray)).size + a1.size) = False := eq_false (Nat.not_lt.2 c7)
  try have c7b5 := c7b0
  try have c7b7 := c7b2
  try simp only [ByteArray.size_append, show (⟨#[47]⟩ : ByteArray).size = 1 from rfl] at c7b5
  try simp only [ByteArray.size_append, show (⟨#[47]⟩ : ByteArray).size = 1 from rfl] at c7b7
  obtain rfl := Option.some.inj H
  go_enter Tryz.func133, Tryz.ntmps133
  go_wp2_with (first | ((with_reducible refine gate_callee (f := 129) rfl ?_); refine goesL_ (some 6) rfl rfl Tryz.func129 (by kernel_rfl) rfl #[.string a0, .string (⟨#[47]⟩ : ByteArray)] rfl (by (try simp only [List.map_toArray, List.map_cons, List.map_nil]); first | done | rfl | (simp only [List.length_drop, List.length_take]; rfl)) ?_; (with_reducible refine (strings_HasSuffix.calls a0 (⟨#[47]⟩ : ByteArray) false _ A3.out).mono ?_); rintro e w' ⟨rfl, ⟨nd, rfl⟩⟩; refine ⟨_, rfl, ?_⟩))
  go_ret
  exact ⟨by first | rfl | (simp; done) | (simp [*]; done), by repeat (first | exact Drawn0.refl _ | apply Drawn0.step)⟩
def spec_l3At.l0 : Nat → ByteArray → List (S144) → Int → Int → Option (Int)
 | 0, _, _, _, _ => none
 | k + 1, x1, x7, x8, x9 => if x9 < x8 then (if 0 ≤ x9 then (if x9 < (x7.length : Int) then (if ((rd_T144 x7 x9).f0).toList = x1.toList then (some ((rd_T144 x7 x9).f1)) else (spec_l3At.l0 k x1 x7 x8 (wrap64 (x9 + 1)))) else (none)) else (none)) else (some (-1))
def spec_l3At.f (k : Nat) (l0 : List (S144)) (a1 : ByteArray) : Option (Int) := spec_l3At.l0 k a1 l0 (l0.length : Int) 0
set_option maxHeartbeats 8000000 in
set_option maxRecDepth 100000 in
theorem spec_l3At.calls (k : Nat) (A0 : Option Addr) (c0 : Nat) (l0 : List (S144)) (a1 : ByteArray) (r : Int) (w : World) (hr0 : Kd.C k144 w A0 l0.length l0) (hc0 : l0.length ≤ c0) (h : spec_l3At.f k l0 a1 = some r) :
  Calls Tryz.prog 91 #[.slice A0 l0.length c0, .string a1] w fun e w' => e = .returned (.int .i64 r) ∧ Below w.heap.size w w' := by
 have hu144 := Tryz.underlying144
 have HR0 := Aside0.mk hr0
 have HC0 := Aside0.mk hc0
 clear hr0 hc0
 have HB := Aside0.mk (Below.refl w.heap.size w)
 have H : (spec_l3At.l0 k a1 l0 (l0.length : Int) 0) = some r := h
 clear h
 have H' := Aside0.mk H
 clear H
 go_enter Tryz.func91, Tryz.ntmps91
 go_wp2
 go_loopg [9] k (fun kq v9 w' => ∃ (x9_1 : Int), v9 = .int .i64 x9_1 ∧ Aside0 (spec_l3At.l0 kq a1 l0 (l0.length : Int) x9_1 = some r) ∧ Aside0 (kq ≤ k) ∧ Aside0 (Below w.heap.size w w'))
 case atStart => exact ⟨(0), Gtr.fr, H', ⟨Nat.le_refl _⟩, ⟨(Gtr.bw HB.out)⟩⟩
 case round =>
  clear H'
  try clear p2
  obtain ⟨x9_1, rfl, HA, HK1, HB⟩ := hrel
  cases gk with
  | zero => exact absurd HA.out (by simp [spec_l3At.l0])
  | succ k1 =>
   have H := HA.out
   clear HA
   simp only [spec_l3At.l0] at H
   by_cases c3 : x9_1 < (l0.length : Int)
   ·rw [if_pos c3] at H
    have c3b0 : decide (x9_1 < (l0.length : Int)) = true := decide_eq_true c3
    clear c3
    refine Or.elim (Classical.em (0 ≤ x9_1)) (fun c4 => ?_) (fun c4 => by rw [if_neg c4] at H; exact absurd H (by simp))
    rw [if_pos c4] at H
    have c4b0 : decide (0 ≤ x9_1) = true := decide_eq_true c4
    clear c4
    refine Or.elim (Classical.em (x9_1 < (l0.length : Int))) (fun c5 => ?_) (fun c5 => by rw [if_neg c5] at H; exact absurd H (by simp))
    rw [if_pos c5] at H
    have c5b0 : decide (x9_1 < (l0.length : Int)) = true := decide_eq_true c5
    clear c5
    by_cases c6 : ((rd_T144 l0 x9_1).f0).toList = a1.toList
    ·rw [if_pos c6] at H
     have c6b0 : (((rd_T144 l0 x9_1).f0).toList == a1.toList) = true := beq_iff_eq.mpr c6
     have c6b1 : (((rd_T144 l0 x9_1).f0).toList != a1.toList) = false := bne_eq_false_iff_eq.mpr c6
     clear c6
     obtain rfl := Option.some.inj H
     have p213 : 0 ≤ (x9_1 : Int) := Gtr.od
     have q213 : x9_1 < (l0.length : Int) := Gtr.od
     obtain ⟨ad213, e213, hx213_0, hx213_1⟩ := at_T144 HR0.out x9_1 p213 q213
     cases e213
     replace hx213_0 := Gtr.cl HB.out hx213_0
     replace hx213_1 := Gtr.cl HB.out hx213_1
     replace p213 := eq_true p213
     replace q213 := eq_true q213
     go_wp2_with (first | ((with_reducible refine gate_dst (N := 6) rfl ?_); refine box_event rfl (N := 6) rfl (cs := #[.string (⟨#[]⟩ : ByteArray), .int .i64 0]) (t := 144) (by first | (go_simp; done) | (go_simp; rfl)) ?_; intro gb214 hg w7 hbox hb; have BK214 := Aside0.mk (hbox); have GW214 := Aside0.mk (Gtr.gz hg (Gtr.bw HB.out)); have GE214 := GW214; replace HB := Aside0.mk (below_step (Gtr.bw HB.out) hb); clear hb hbox hg; have hcz8_0 := fun o_ => blk_cell BK214.out o_; have hfz8_0 := fun o_ => blk_frozen BK214.out o_))
     go_ret
     exact ⟨Gtr.fe, (Gtr.bw HB.out)⟩
    ·rw [if_neg c6] at H
     have c6b0 : (((rd_T144 l0 x9_1).f0).toList == a1.toList) = false := beq_eq_false_iff_ne.mpr c6
     have c6b1 : (((rd_T144 l0 x9_1).f0).toList != a1.toList) = true := bne_iff_ne.mpr c6
     have H' := Aside0.mk H
     clear H
     have p213 : 0 ≤ (x9_1 : Int) := Gtr.od
     have q213 : x9_1 < (l0.length : Int) := Gtr.od
     obtain ⟨ad213, e213, hx213_0, hx213_1⟩ := at_T144 HR0.out x9_1 p213 q213
     cases e213
     replace hx213_0 := Gtr.cl HB.out hx213_0
     replace hx213_1 := Gtr.cl HB.out hx213_1
     replace p213 := eq_true p213
     replace q213 := eq_true q213
     go_wp2_with (first | ((with_reducible refine gate_dst (N := 6) rfl ?_); refine box_event rfl (N := 6) rfl (cs := #[.string (⟨#[]⟩ : ByteArray), .int .i64 0]) (t := 144) (by first | (go_simp; done) | (go_simp; rfl)) ?_; intro gb214 hg w9 hbox hb; have BK214 := Aside0.mk (hbox); have GW214 := Aside0.mk (Gtr.gz hg (Gtr.bw HB.out)); have GE214 := GW214; replace HB := Aside0.mk (below_step (Gtr.bw HB.out) hb); clear hb hbox hg; have hcz10_0 := fun o_ => blk_cell BK214.out o_; have hfz10_0 := fun o_ => blk_frozen BK214.out o_))
     go_roundg k1
     case measure => have := HK1.out; omega
     case rel => exact ⟨(wrap64 (x9_1 + 1)), Gtr.fr, H', ⟨by have := HK1.out; omega⟩, ⟨(Gtr.bw HB.out)⟩⟩
   ·rw [if_neg c3] at H
    have c3b0 : decide (x9_1 < (l0.length : Int)) = false := decide_eq_false c3
    clear c3
    obtain rfl := Option.some.inj H
    go_wp2
    go_ret
    exact ⟨Gtr.fe, (Gtr.bw HB.out)⟩
def impl_GoodCred.f (a0_0 : Int) (a0_1 : Int) : Option (Bool) := (impl_isId.f a0_0).bind fun t304 => (if t304 = true then ((impl_isId.f a0_1).bind fun t305 => (some t305)) else (some false))
set_option maxHeartbeats 8000000 in
set_option maxRecDepth 100000 in
theorem impl_GoodCred.calls (a0_0 : Int) (a0_1 : Int) (r : Bool) (w : World) (h : impl_GoodCred.f a0_0 a0_1 = some r) :
  Calls Tryz.prog 128 #[.agg #[.int .i64 a0_0, .int .i64 a0_1]] w fun e w' => e = .returned (.bool r) ∧ Below w.heap.size w w' := by
 have hu36 := Tryz.underlying36
 have HB := Aside0.mk (Below.refl w.heap.size w)
 have H : ((impl_isId.f a0_0).bind fun t304 => (if t304 = true then ((impl_isId.f a0_1).bind fun t305 => (some t305)) else (some false))) = some r := h
 clear h
 replace H := Option.bind_eq_some_iff.mp H
 obtain ⟨t304, A20, H⟩ := H
 try dsimp only at H
 have A2 := Aside0.mk A20
 clear A20
 by_cases c3 : t304 = true
 ·subst c3
  have H1 := H
  rw [if_pos rfl] at H1
  clear H
  have H := H1
  clear H1
  replace H := Option.bind_eq_some_iff.mp H
  obtain ⟨t305, A40, H⟩ := H
  try dsimp only at H
  have A4 := Aside0.mk A40
  clear A40
  obtain rfl := Option.some.inj H
  go_enter Tryz.func128, Tryz.ntmps128
  go_wp2_with (first | ((with_reducible refine gate_dst (N := 1) rfl ?_); refine box_event rfl (N := 1) rfl (cs := #[.int .i64 a0_0, .int .i64 a0_1]) (t := 36) (by first | (go_simp; done) | (go_simp; rfl)) ?_; intro gb303 hg w5 hbox hb; have BK303 := Aside0.mk (hbox); have GW303 := Aside0.mk (Gtr.gz hg (Gtr.bw HB.out)); have GE303 := GW303; replace HB := Aside0.mk (below_step (Gtr.bw HB.out) hb); clear hb hbox hg; have hcz6_0 := fun o_ => blk_cell BK303.out o_; have hfz6_0 := fun o_ => blk_frozen BK303.out o_) | ((with_reducible refine gate_callee (f := 170) rfl ?_); refine goesL_ (some 5) rfl rfl Tryz.func170 (by kernel_rfl) rfl #[.int .i64 a0_0] rfl (by (try simp only [List.map_toArray, List.map_cons, List.map_nil]); first | done | rfl | (simp only [List.length_drop, List.length_take]; rfl)) ?_; (with_reducible refine (impl_isId.calls a0_0 true _ A2.out).mono ?_); rintro e w' ⟨rfl, ⟨nd, rfl⟩⟩; refine ⟨_, rfl, ?_⟩) | (go_at_call 170; (with_reducible refine (impl_isId.calls a0_1 t305 _ A4.out).mono ?_); rintro e w' ⟨rfl, ⟨nd, rfl⟩⟩))
  go_ret
  exact ⟨Gtr.fe, (Gtr.bw HB.out)⟩
 ·replace c3 := Bool.eq_false_iff.mpr c3
  subst c3
  have H1 : (some false) = some r := by rw [if_neg (show ¬ (false = true) by decide)] at H; exact H
  clear H
  have H := H1
  clear H1
  obtain rfl := Option.some.inj H
  go_enter Tryz.func128, Tryz.ntmps128
  go_wp2_with (first | ((with_reducible refine gate_dst (N := 1) rfl ?_); refine box_event rfl (N := 1) rfl (cs := #[.int .i64 a0_0, .int .i64 a0_1]) (t := 36) (by first | (go_simp; done) | (go_simp; rfl)) ?_; intro gb303 hg w7 hbox hb; have BK303 := Aside0.mk (hbox); have GW303 := Aside0.mk (Gtr.gz hg (Gtr.bw HB.out)); have GE303 := GW303; replace HB := Aside0.mk (below_step (Gtr.bw HB.out) hb); clear hb hbox hg; have hcz8_0 := fun o_ => blk_cell BK303.out o_; have hfz8_0 := fun o_ => blk_frozen BK303.out o_) | ((with_reducible refine gate_callee (f := 170) rfl ?_); refine goesL_ (some 5) rfl rfl Tryz.func170 (by kernel_rfl) rfl #[.int .i64 a0_0] rfl (by (try simp only [List.map_toArray, List.map_cons, List.map_nil]); first | done | rfl | (simp only [List.length_drop, List.length_take]; rfl)) ?_; (with_reducible refine (impl_isId.calls a0_0 false _ A2.out).mono ?_); rintro e w' ⟨rfl, ⟨nd, rfl⟩⟩; refine ⟨_, rfl, ?_⟩))
  go_ret
  exact ⟨Gtr.fe, (Gtr.bw HB.out)⟩
def impl_Fs_entry.l0 : Nat → ByteArray → List (S144) → Int → Int → Option (Int)
 | 0, _, _, _, _ => none
 | k + 1, x2, x14, x15, x16 => if x16 < x15 then (if 0 ≤ x16 then (if x16 < (x14.length : Int) then (if ((rd_T144 x14 x16).f0).toList = x2.toList then (some ((rd_T144 x14 x16).f1)) else (impl_Fs_entry.l0 k x2 x14 x15 (wrap64 (x16 + 1)))) else (none)) else (none)) else (some (-1))
def impl_Fs_entry.f (k : Nat) (l0_0 : List (S85)) (a0_1 : Int) (a1 : Int) (a2 : ByteArray) : Option (Int) := if 0 ≤ a1 then (if a1 < (l0_0.length : Int) then (impl_Fs_entry.l0 k a2 ((rd_T85 l0_0 a1).f6) (((rd_T85 l0_0 a1).f6).length : Int) 0) else (none)) else (none)
set_option maxHeartbeats 8000000 in
set_option maxRecDepth 100000 in
theorem impl_Fs_entry.calls (k : Nat) (A0_0 : Option Addr) (c0_0 : Nat) (l0_0 : List (S85)) (a0_1 : Int) (a1 : Int) (a2 : ByteArray) (r : Int) (w : World) (hr0_0 : Kd.C k85 w A0_0 l0_0.length l0_0) (hc0_0 : l0_0.length ≤ c0_0) (h : impl_Fs_entry.f k l0_0 a0_1 a1 a2 = some r) :
  Calls Tryz.prog 67 #[.agg #[.slice A0_0 l0_0.length c0_0, .int .i64 a0_1], .int .i64 a1, .string a2] w fun e w' => e = .returned (.int .i64 r) ∧ Below w.heap.size w w' := by
 have hu34 := Tryz.underlying34
 have hu144 := Tryz.underlying144
 have HR0_0 := Aside0.mk hr0_0
 have HC0_0 := Aside0.mk hc0_0
 clear hr0_0 hc0_0
 have HB := Aside0.mk (Below.refl w.heap.size w)
 have H : (if 0 ≤ a1 then (if a1 < (l0_0.length : Int) then (impl_Fs_entry.l0 k a2 ((rd_T85 l0_0 a1).f6) (((rd_T85 l0_0 a1).f6).length : Int) 0) else (none)) else (none)) = some r := h
 clear h
 refine Or.elim (Classical.em (0 ≤ a1)) (fun c4 => ?_) (fun c4 => by rw [if_neg c4] at H; exact absurd H (by simp))
 rw [if_pos c4] at H
 have c4b0 : decide (0 ≤ a1) = true := decide_eq_true c4
 clear c4
 refine Or.elim (Classical.em (a1 < (l0_0.length : Int))) (fun c5 => ?_) (fun c5 => by rw [if_neg c5] at H; exact absurd H (by simp))
 rw [if_pos c5] at H
 have c5b0 : decide (a1 < (l0_0.length : Int)) = true := decide_eq_true c5
 clear c5
 have H' := Aside0.mk H
 clear H
 go_enter Tryz.func67, Tryz.ntmps67
 go_wp2_with (first | ((with_reducible refine gate_dst (N := 3) rfl ?_); refine box_event rfl (N := 3) rfl (cs := #[.slice A0_0 l0_0.length c0_0, .int .i64 a0_1]) (t := 34) (by first | (go_simp; done) | (go_simp; rfl)) ?_; intro gb312 hg w6 hbox hb; have BK312 := Aside0.mk (hbox); have GW312 := Aside0.mk (Gtr.gz hg (Gtr.bw HB.out)); have GE312 := GW312; replace HB := Aside0.mk (below_step (Gtr.bw HB.out) hb); clear hb hbox hg; have hcz7_0 := fun o_ => blk_cell BK312.out o_; have hfz7_0 := fun o_ => blk_frozen BK312.out o_; have p313 : 0 ≤ (a1 : Int) := Gtr.od; have q313 : a1 < (l0_0.length : Int) := Gtr.od; obtain ⟨ad313, A313_6, c313_6, e313, hx313_0, hx313_1, hx313_2, hx313_3, hx313_4, hx313_5, hx313_6, hl313_6, hi313_6⟩ := at_T85 HR0_0.out a1 p313 q313; cases e313; replace hx313_0 := Gtr.cl HB.out hx313_0; replace hx313_1 := Gtr.cl HB.out hx313_1; replace hx313_2 := Gtr.cl HB.out hx313_2; replace hx313_3 := Gtr.cl HB.out hx313_3; replace hx313_4 := Gtr.cl HB.out hx313_4; replace hx313_5 := Gtr.cl HB.out hx313_5; replace hx313_6 := Gtr.cl HB.out hx313_6; have HR313_6 := Aside0.mk hi313_6; have HC313_6 := Aside0.mk hl313_6; clear hi313_6 hl313_6; replace p313 := eq_true p313; replace q313 := eq_true q313))
 go_loopg [16] k (fun kq v16 w' => ∃ (x16_1 : Int), v16 = .int .i64 x16_1 ∧ Aside0 (impl_Fs_entry.l0 kq a2 ((rd_T85 l0_0 a1).f6) (((rd_T85 l0_0 a1).f6).length : Int) x16_1 = some r) ∧ Aside0 (kq ≤ k) ∧ Aside0 (w'.heap[gb312]? = some (.cells #[(.slice (some ad313) l0_0.length c0_0), .int .i64 a0_1] 34 (0, 0))) ∧ Aside0 (Below w.heap.size w w'))
 case atStart => exact ⟨(0), Gtr.fr, H', ⟨Nat.le_refl _⟩, ⟨by (with_reducible repeat (first | refine blk_drewN ?_ _ | refine blk_drew ?_ | refine blk_alloc ?_ _)); exact BK312.out⟩, ⟨(Gtr.bw HB.out)⟩⟩
 case round =>
  clear H'
  (try clear p2);(try clear c3);(try clear p3);(try clear q3);(try clear hx3);(try clear c4);(try clear c4b0);(try clear c5);(try clear c5b0);(try clear c6);(try clear hcz7_0);(try clear hcz7_1);(try clear hfz7_0);(try clear hfz7_1);(try clear hx313_0);(try clear hx313_1);(try clear hx313_2);(try clear hx313_3);(try clear hx313_4);(try clear hx313_5);(try clear hx313_6);(try clear p313);(try clear q313)
  obtain ⟨x16_1, rfl, HA, HK1, BK312, HB⟩ := hrel
  cases gk with
  | zero => exact absurd HA.out (by simp [impl_Fs_entry.l0])
  | succ k1 =>
   have H := HA.out
   clear HA
   simp only [impl_Fs_entry.l0] at H
   by_cases c8 : x16_1 < (((rd_T85 l0_0 a1).f6).length : Int)
   ·rw [if_pos c8] at H
    have c8b0 : decide (x16_1 < (((rd_T85 l0_0 a1).f6).length : Int)) = true := decide_eq_true c8
    clear c8
    refine Or.elim (Classical.em (0 ≤ x16_1)) (fun c9 => ?_) (fun c9 => by rw [if_neg c9] at H; exact absurd H (by simp))
    rw [if_pos c9] at H
    have c9b0 : decide (0 ≤ x16_1) = true := decide_eq_true c9
    clear c9
    refine Or.elim (Classical.em (x16_1 < (((rd_T85 l0_0 a1).f6).length : Int))) (fun c10 => ?_) (fun c10 => by rw [if_neg c10] at H; exact absurd H (by simp))
    rw [if_pos c10] at H
    have c10b0 : decide (x16_1 < (((rd_T85 l0_0 a1).f6).length : Int)) = true := decide_eq_true c10
    clear c10
    by_cases c11 : ((rd_T144 ((rd_T85 l0_0 a1).f6) x16_1).f0).toList = a2.toList
    ·rw [if_pos c11] at H
     have c11b0 : (((rd_T144 ((rd_T85 l0_0 a1).f6) x16_1).f0).toList == a2.toList) = true := beq_iff_eq.mpr c11
     have c11b1 : (((rd_T144 ((rd_T85 l0_0 a1).f6) x16_1).f0).toList != a2.toList) = false := bne_eq_false_iff_eq.mpr c11
     clear c11
     obtain rfl := Option.some.inj H
     have p314 : 0 ≤ (x16_1 : Int) := Gtr.od
     have q314 : x16_1 < (((rd_T85 l0_0 a1).f6).length : Int) := Gtr.od
     obtain ⟨ad314, e314, hx314_0, hx314_1⟩ := at_T144 HR313_6.out x16_1 p314 q314
     cases e314
     replace hx314_0 := Gtr.cl HB.out hx314_0
     replace hx314_1 := Gtr.cl HB.out hx314_1
     replace p314 := eq_true p314
     replace q314 := eq_true q314
     go_wp2_with (first | ((with_reducible refine gate_dst (N := 8) rfl ?_); refine box_event rfl (N := 8) rfl (cs := #[.string (⟨#[]⟩ : ByteArray), .int .i64 0]) (t := 144) (by first | (go_simp; done) | (go_simp; rfl)) ?_; intro gb315 hg w12 hbox hb; have BK315 := Aside0.mk (hbox); have GW315 := Aside0.mk (Gtr.gz hg (Gtr.bw HB.out)); have GE315 := GW315; replace HB := Aside0.mk (below_step (Gtr.bw HB.out) hb); have NB312_315 := Aside0.mk (Gtr.nl hg (Gtr.bk BK312.out)); have NB315_312 := Aside0.mk NB312_315.out.symm; replace BK312 := Aside0.mk (blk_below (Gtr.bk BK312.out) hb); clear hb hbox hg; have hnb13 := NB315_312.out; have hnc13 := NB312_315.out; have hcz14_0 := fun o_ => blk_cell BK315.out o_; have hfz14_0 := fun o_ => blk_frozen BK315.out o_))
     go_ret
     exact ⟨Gtr.fe, (Gtr.bw HB.out)⟩
    ·rw [if_neg c11] at H
     have c11b0 : (((rd_T144 ((rd_T85 l0_0 a1).f6) x16_1).f0).toList == a2.toList) = false := beq_eq_false_iff_ne.mpr c11
     have c11b1 : (((rd_T144 ((rd_T85 l0_0 a1).f6) x16_1).f0).toList != a2.toList) = true := bne_iff_ne.mpr c11
     have H' := Aside0.mk H
     clear H
     have p314 : 0 ≤ (x16_1 : Int) := Gtr.od
     have q314 : x16_1 < (((rd_T85 l0_0 a1).f6).length : Int) := Gtr.od
     obtain ⟨ad314, e314, hx314_0, hx314_1⟩ := at_T144 HR313_6.out x16_1 p314 q314
     cases e314
     replace hx314_0 := Gtr.cl HB.out hx314_0
     replace hx314_1 := Gtr.cl HB.out hx314_1
     replace p314 := eq_true p314
     replace q314 := eq_true q314
     go_wp2_with (first | ((with_reducible refine gate_dst (N := 8) rfl ?_); refine box_event rfl (N := 8) rfl (cs := #[.string (⟨#[]⟩ : ByteArray), .int .i64 0]) (t := 144) (by first | (go_simp; done) | (go_simp; rfl)) ?_; intro gb315 hg w15 hbox hb; have BK315 := Aside0.mk (hbox); have GW315 := Aside0.mk (Gtr.gz hg (Gtr.bw HB.out)); have GE315 := GW315; replace HB := Aside0.mk (below_step (Gtr.bw HB.out) hb); have NB312_315 := Aside0.mk (Gtr.nl hg (Gtr.bk BK312.out)); have NB315_312 := Aside0.mk NB312_315.out.symm; replace BK312 := Aside0.mk (blk_below (Gtr.bk BK312.out) hb); clear hb hbox hg; have hnb16 := NB315_312.out; have hnc16 := NB312_315.out; have hcz17_0 := fun o_ => blk_cell BK315.out o_; have hfz17_0 := fun o_ => blk_frozen BK315.out o_))
     go_roundg k1
     case measure => have := HK1.out; omega
     case rel => exact ⟨(wrap64 (x16_1 + 1)), Gtr.fr, H', ⟨by have := HK1.out; omega⟩, ⟨by (with_reducible repeat (first | refine blk_drewN ?_ _ | refine blk_drew ?_ | refine blk_alloc ?_ _)); refine blk_far ?_ NB312_315.out _; (with_reducible repeat (first | refine blk_drewN ?_ _ | refine blk_drew ?_ | refine blk_alloc ?_ _)); refine blk_far ?_ NB312_315.out _; (with_reducible repeat (first | refine blk_drewN ?_ _ | refine blk_drew ?_ | refine blk_alloc ?_ _)); exact BK312.out⟩, ⟨(Gtr.bw HB.out)⟩⟩
   ·rw [if_neg c8] at H
    have c8b0 : decide (x16_1 < (((rd_T85 l0_0 a1).f6).length : Int)) = false := decide_eq_false c8
    clear c8
    obtain rfl := Option.some.inj H
    go_wp2
    go_ret
    exact ⟨Gtr.fe, (Gtr.bw HB.out)⟩
def preL {α : Type} (f : α → Option (List α)) : List α → Option (List α)
  | [] => some []
  | a :: l => (f a).bind fun x => (preL f l).map fun y => x ++ y
def preD {α : Type} (ch : α → List α) : Nat → α → Option (List α)
  | 0, _ => none
  | d + 1, a => (preL (preD ch d) (ch a)).map fun l => a :: l
theorem preL_some {α : Type} (f : α → Option (List α)) : ∀ l : List α, (∀ a, a ∈ l → ∃ r, f a = some r) → ∃ r, preL f l = some r
  | [], _ => ⟨[], rfl⟩
  | a :: l, h => by
    obtain ⟨x, hx⟩ := h a (by simp)
    obtain ⟨y, hy⟩ := preL_some f l (fun b hb => h b (List.mem_cons_of_mem _ hb))
    exact ⟨x ++ y, by unfold preL; rw [hx, hy]; rfl⟩
theorem preL_sum {α : Type} (ch : α → List α) (w : α → Nat) (f : α → Option (List α)) (h : ∀ a r, f a = some r → (r.map w).sum = w a + (r.map (fun v => ((ch v).map w).sum)).sum) : ∀ (l : List α) (r : List α), preL f l = some r → (r.map w).sum = (l.map w).sum + (r.map (fun v => ((ch v).map w).sum)).sum
  | [], r, e => by unfold preL at e; injection e with e; subst e; rfl
  | a :: l, r, e => by
    unfold preL at e
    cases hx : f a with
    | none => rw [hx] at e; cases e
    | some x =>
      rw [hx] at e
      cases hy : preL f l with
      | none => rw [hy] at e; cases e
      | some y =>
        rw [hy] at e
        injection e with e
        subst e
        have h1 := h a x hx
        have h2 := preL_sum ch w f h l y hy
        show ((x ++ y).map w).sum = ((a :: l).map w).sum + ((x ++ y).map _).sum
        rw [List.map_append, List.map_append, List.sum_append, List.sum_append, List.map_cons, List.sum_cons]
        omega
theorem preD_sum {α : Type} (ch : α → List α) (w : α → Nat) : ∀ (d : Nat) (a : α) (r : List α), preD ch d a = some r → (r.map w).sum = w a + (r.map (fun v => ((ch v).map w).sum)).sum
  | 0, _, _, e => by cases e
  | d + 1, a, r, e => by
    unfold preD at e
    cases hy : preL (preD ch d) (ch a) with
    | none => rw [hy] at e; cases e
    | some y =>
      rw [hy] at e
      injection e with e
      subst e
      have h2 := preL_sum ch w (preD ch d) (preD_sum ch w d) (ch a) y hy
      show ((a :: y).map w).sum = w a + ((a :: y).map _).sum
      rw [List.map_cons, List.map_cons, List.sum_cons, List.sum_cons]
      omega
theorem preD_head {α : Type} (ch : α → List α) (d : Nat) (a : α) (r : List α) (e : preD ch d a = some r) : a ∈ r := by
  cases d with
  | zero => cases e
  | succ d =>
    unfold preD at e
    cases hy : preL (preD ch d) (ch a) with
    | none => rw [hy] at e; cases e
    | some y => rw [hy] at e; injection e with e; subst e; simp
theorem preL_from {α : Type} (f : α → Option (List α)) (R : α → α → Prop) (h : ∀ a r, f a = some r → ∀ y, y ∈ r → R a y) : ∀ (l r : List α), preL f l = some r → ∀ y, y ∈ r → ∃ a, a ∈ l ∧ R a y
  | [], r, e, y, hy => by unfold preL at e; injection e with e; subst e; exact absurd hy (by simp)
  | a :: l, r, e, y, hy => by
    unfold preL at e
    cases hx : f a with
    | none => rw [hx] at e; cases e
    | some x =>
      rw [hx] at e
      cases hz : preL f l with
      | none => rw [hz] at e; cases e
      | some z =>
        rw [hz] at e
        injection e with e
        subst e
        rcases List.mem_append.mp hy with h1 | h1
        · exact ⟨a, by simp, h a x hx y h1⟩
        · obtain ⟨b, hb, hr⟩ := preL_from f R h l z hz y h1
          exact ⟨b, List.mem_cons_of_mem _ hb, hr⟩
theorem preD_from (sc : Int → List Int) : ∀ (d : Nat) (a : Int) (r : List Int), preD sc d a = some r → ∀ y, y ∈ r → From sc a y
  | 0, _, _, e => by cases e
  | d + 1, a, r, e => by
    intro y hy
    unfold preD at e
    cases hz : preL (preD sc d) (sc a) with
    | none => rw [hz] at e; cases e
    | some z =>
      rw [hz] at e
      injection e with e
      subst e
      rcases List.mem_cons.mp hy with rfl | h1
      · exact .self
      · obtain ⟨b, hb, hf⟩ := preL_from (preD sc d) (From sc) (preD_from sc d) (sc a) z hz y h1
        exact From.head hb hf
theorem preD_mem (sc : Int → List Int) (d : Nat) (a : Int) (r : List Int) (e : preD sc d a = some r) (y : Int) : y ∈ r ↔ From sc a y := by
  refine ⟨preD_from sc d a r e y, fun hf => ?_⟩
  induction hf with
  | self => exact preD_head sc d a r e
  | step _ hc ih =>
    rename_i b c _
    have hs := preD_sum sc (fun v => if v = c then 1 else 0) d a r e
    have h1 : 1 ≤ ((sc b).map (fun v => if v = c then 1 else 0)).sum := by
      have := sum_erase (fun v => if v = c then 1 else 0) (sc b) c hc
      rw [this, if_pos rfl]; omega
    have h2 := sum_erase (fun v => ((sc v).map (fun v => if v = c then 1 else 0)).sum) r b ih
    have h3 : 1 ≤ (r.map (fun v => if v = c then 1 else 0)).sum := by omega
    apply Classical.byContradiction
    intro hn
    have : ∀ l : List Int, c ∉ l → (l.map (fun v => if v = c then 1 else 0)).sum = 0 := by
      intro l
      induction l with
      | nil => intro _; rfl
      | cons q l ih =>
        intro hq
        rw [List.map_cons, List.sum_cons, if_neg (fun h => hq (by simp [h])), ih (fun h => hq (List.mem_cons_of_mem _ h))]
    rw [this r hn] at h3
    omega
def AtD (sc : Int → List Int) : Nat → Int → Prop
  | 0, y => y = 0
  | k + 1, y => ∃ b, AtD sc k b ∧ y ∈ sc b
structure TreeOk (sc : Int → List Int) (dir : Int → Bool) (all : List Int) : Prop where
  zero : (0 : Int) ∈ all
  dzero : dir 0 = true
  sub : ∀ x, x ∈ all → ∀ y, y ∈ sc x → y ∈ all
  dirs : ∀ x, sc x ≠ [] → dir x = true
  top : (all.flatMap sc).count 0 = 0
  one : ∀ y, y ∈ all → dir y = true → (all.flatMap sc).count y ≤ 1
  met : ∀ y, y ∈ all → dir y = true → From sc 0 y
section
variable {sc : Int → List Int} {dir : Int → Bool} {all : List Int}
theorem TreeOk.parent (h : TreeOk sc dir all) {y b c : Int} (hy : dir y = true) (hb : b ∈ all) (hc : c ∈ all) (h1 : y ∈ sc b) (h2 : y ∈ sc c) : b = c := by
  apply Classical.byContradiction
  intro hne
  have k := h.one y (h.sub b hb y h1) hy
  rw [count_flat, sum_erase (fun x => (sc x).count y) all b hb, sum_erase (fun x => (sc x).count y) (all.erase b) c ((List.mem_erase_of_ne (Ne.symm hne)).mpr hc)] at k
  have k1 := List.count_pos_iff.mpr h1
  have k2 := List.count_pos_iff.mpr h2
  omega
theorem TreeOk.notop (h : TreeOk sc dir all) {b : Int} (hb : b ∈ all) (h1 : (0 : Int) ∈ sc b) : False := by
  have k := h.top
  rw [count_flat, sum_erase (fun x => (sc x).count 0) all b hb] at k
  have k1 := List.count_pos_iff.mpr h1
  omega
theorem TreeOk.at_all (h : TreeOk sc dir all) : ∀ (k : Nat) (y : Int), AtD sc k y → y ∈ all
  | 0, y, e => by cases e; exact h.zero
  | k + 1, y, ⟨b, hb, hy⟩ => h.sub b (h.at_all k b hb) y hy
theorem TreeOk.at_dir (h : TreeOk sc dir all) {k : Nat} {y b : Int} (_ : AtD sc k b) (hy : y ∈ sc b) : dir b = true := h.dirs b (fun e => by rw [e] at hy; simp at hy)
theorem AtD.of_from {y : Int} (hf : From sc 0 y) : ∃ k, AtD sc k y := by
  induction hf with
  | self => exact ⟨0, rfl⟩
  | step _ hc ih => obtain ⟨k, hk⟩ := ih; exact ⟨k + 1, _, hk, hc⟩
theorem TreeOk.at_one (h : TreeOk sc dir all) : ∀ (k m : Nat) (y : Int), dir y = true → AtD sc k y → AtD sc m y → k = m
  | 0, 0, _, _, _, _ => rfl
  | 0, m + 1, y, _, e, ⟨b, hb, hy⟩ => by cases e; exact (h.notop (h.at_all m b hb) hy).elim
  | k + 1, 0, y, _, ⟨b, hb, hy⟩, e => by cases e; exact (h.notop (h.at_all k b hb) hy).elim
  | k + 1, m + 1, y, hd, ⟨b, hb, hy⟩, ⟨c, hc, hz⟩ => by
    have e := h.parent hd (h.at_all k b hb) (h.at_all m c hc) hy hz
    subst e
    rw [h.at_one k m b (h.at_dir hb hy) hb hc]
theorem TreeOk.chain (h : TreeOk sc dir all) : ∀ (k : Nat) (y : Int), dir y = true → AtD sc k y → ∃ l : List Int, l.length = k + 1 ∧ l.Nodup ∧ (∀ x, x ∈ l → x ∈ all ∧ ∃ j, j ≤ k ∧ AtD sc j x ∧ dir x = true)
  | 0, y, hd, e => ⟨[y], rfl, by simp, fun x hx => by simp at hx; subst hx; exact ⟨h.at_all 0 x e, 0, Nat.le_refl _, e, hd⟩⟩
  | k + 1, y, hd, ⟨b, hb, hy⟩ => by
    obtain ⟨l, h1, h2, h3⟩ := h.chain k b (h.at_dir hb hy) hb
    refine ⟨y :: l, by simp [h1], ?_, fun x hx => ?_⟩
    · rw [List.nodup_cons]
      refine ⟨fun hm => ?_, h2⟩
      obtain ⟨-, j, hj, ha, -⟩ := h3 y hm
      have := h.at_one j (k + 1) y hd ha ⟨b, hb, hy⟩
      omega
    · rcases List.mem_cons.mp hx with rfl | hx
      · exact ⟨h.at_all (k + 1) x ⟨b, hb, hy⟩, k + 1, Nat.le_refl _, ⟨b, hb, hy⟩, hd⟩
      · obtain ⟨a1, j, hj, a2, a3⟩ := h3 x hx
        exact ⟨a1, j, by omega, a2, a3⟩
theorem TreeOk.depth (h : TreeOk sc dir all) {k : Nat} {y : Int} (hd : dir y = true) (ha : AtD sc k y) : k < all.length := by
  obtain ⟨l, h1, h2, h3⟩ := h.chain k y hd ha
  have := nodup_len l all h2 (fun x hx => (h3 x hx).1)
  omega
theorem TreeOk.pre_some (h : TreeOk sc dir all) : ∀ (d k : Nat) (y : Int), AtD sc k y → all.length < k + d → ∃ r, preD sc d y = some r
  | 0, k, y, ha, hk => by
    cases k with
    | zero => have := List.length_pos_of_mem h.zero; omega
    | succ k =>
      obtain ⟨b, hb, hy⟩ := ha
      have := h.depth (h.at_dir hb hy) hb
      omega
  | d + 1, k, y, ha, hk => by
    obtain ⟨l, hl⟩ := preL_some (preD sc d) (sc y) (fun a hy => h.pre_some d (k + 1) a ⟨y, ha, hy⟩ (by omega))
    exact ⟨y :: l, by unfold preD; rw [hl]; rfl⟩
theorem TreeOk.pre_ok (h : TreeOk sc dir all) (y : Int) (hy : y ∈ all) : ∃ r, preD sc (all.length + 1) y = some r := by
  by_cases hd : dir y = true
  · obtain ⟨k, hk⟩ := AtD.of_from (h.met y hy hd)
    exact h.pre_some (all.length + 1) k y hk (by omega)
  · have e : sc y = [] := Classical.byContradiction fun he => hd (h.dirs y he)
    exact ⟨[y], by unfold preD; rw [e]; rfl⟩
theorem sum_count (y : Int) : ∀ l : List Int, (l.map (fun v => if v = y then 1 else 0)).sum = l.count y
  | [] => rfl
  | a :: l => by
    rw [List.map_cons, List.sum_cons, sum_count y l, List.count_cons]
    by_cases e : a = y
    · simp [e]; omega
    · simp [e]
theorem TreeOk.pre_count (h : TreeOk sc dir all) {d : Nat} {x : Int} {r : List Int} (hx : x ∈ all) (e : preD sc d x = some r) : ∀ (k : Nat) (y : Int), dir y = true → AtD sc k y → r.count y ≤ 1 := by
  have hall : ∀ v, v ∈ r → v ∈ all := fun v hv => From.in_all h.sub hx ((preD_mem sc d x r e v).mp hv)
  have ident : ∀ y, r.count y = (if x = y then 1 else 0) + (r.map (fun v => (sc v).count y)).sum := by
    intro y
    have := preD_sum sc (fun v => if v = y then 1 else 0) d x r e
    rw [sum_count] at this
    rw [this]
    congr 2
    exact List.map_congr_left (fun v _ => sum_count y (sc v))
  have up : ∀ (y b : Int), dir y = true → b ∈ all → y ∈ sc b → (r.map (fun v => (sc v).count y)).sum ≤ r.count b := by
    intro y b hd hb hy
    have k : ∀ l : List Int, (∀ v, v ∈ l → v ∈ all) → (l.map (fun v => (sc v).count y)).sum ≤ l.count b := by
      intro l
      induction l with
      | nil => intro _; simp
      | cons v l ih =>
        intro hl
        have h1 := ih (fun z hz => hl z (List.mem_cons_of_mem _ hz))
        rw [List.map_cons, List.sum_cons, List.count_cons]
        by_cases hvb : v = b
        · have h2 : (sc v).count y ≤ 1 := by
            have k1 := h.one y (h.sub b hb y hy) hd
            rw [count_flat, sum_erase (fun x => (sc x).count y) all v (hl v (by simp))] at k1
            omega
          have e2 : (v == b) = true := by simpa using hvb
          rw [e2, if_pos rfl]; omega
        · have h2 : (sc v).count y = 0 := by
            rw [List.count_eq_zero]
            intro hm
            exact hvb (h.parent hd (hl v (by simp)) hb hm hy)
          omega
    exact k r hall
  intro k
  induction k with
  | zero =>
    intro y hd ha
    cases ha
    rw [ident 0]
    have hz : (r.map (fun v => (sc v).count 0)).sum = 0 := by
      have : ∀ l : List Int, (∀ v, v ∈ l → v ∈ all) → (l.map (fun v => (sc v).count 0)).sum = 0 := by
        intro l
        induction l with
        | nil => intro _; rfl
        | cons v l ih =>
          intro hl
          rw [List.map_cons, List.sum_cons, ih (fun z hz => hl z (List.mem_cons_of_mem _ hz)), List.count_eq_zero.mpr (fun hm => h.notop (hl v (by simp)) hm)]
      exact this r hall
    rw [hz]
    split <;> omega
  | succ k ih =>
    intro y hd ⟨b, hb, hy⟩
    have hba := h.at_all k b hb
    have hbd := h.at_dir hb hy
    rw [ident y]
    have h1 := up y b hd hba hy
    have h2 := ih b hbd hb
    by_cases hxy : x = y
    · rw [if_pos hxy]
      have hnot : b ∉ r := by
        intro hm
        have hf := (preD_mem sc d x r e b).mp hm
        subst hxy
        have deep : ∀ z, From sc x z → ∃ j, AtD sc (k + 1 + j) z := by
          intro z hz
          induction hz with
          | self => exact ⟨0, b, hb, hy⟩
          | step _ hc ih2 => obtain ⟨j, hj⟩ := ih2; exact ⟨j + 1, _, hj, hc⟩
        obtain ⟨j, hj⟩ := deep b hf
        have := h.at_one k (k + 1 + j) b hbd hb hj
        omega
      rw [List.count_eq_zero.mpr hnot] at h1
      omega
    · rw [if_neg hxy]; omega
theorem TreeOk.pre_len (h : TreeOk sc dir all) {d : Nat} {x : Int} {r : List Int} (hx : x ∈ all) (e : preD sc d x = some r) : r.length ≤ (all.flatMap sc).length + 1 := by
  have hall : ∀ v, v ∈ r → v ∈ all := fun v hv => From.in_all h.sub hx ((preD_mem sc d x r e v).mp hv)
  have one : ∀ l : List Int, (l.map (fun _ => 1)).sum = l.length := fun l => by
    induction l with
    | nil => rfl
    | cons a l ih => rw [List.map_cons, List.sum_cons, ih, List.length_cons]; omega
  have hs := preD_sum sc (fun _ => 1) d x r e
  rw [one] at hs
  have h1 : (r.map (fun v => ((sc v).map (fun _ => 1)).sum)) = r.map (fun v => (sc v).length) := List.map_congr_left (fun v _ => one (sc v))
  rw [h1] at hs
  have h2 : ∀ l : List Int, (l.map (fun v => (sc v).length)).sum = ((l.filter (fun v => dir v)).map (fun v => (sc v).length)).sum := by
    intro l
    induction l with
    | nil => rfl
    | cons v l ih =>
      rw [List.map_cons, List.sum_cons, ih, List.filter_cons]
      by_cases hd : dir v = true
      · rw [if_pos hd, List.map_cons, List.sum_cons]
      · have e0 : sc v = [] := Classical.byContradiction fun he => hd (h.dirs v he)
        rw [if_neg hd, e0]; simp
  have h3 : (r.filter (fun v => dir v)).Nodup := by
    rw [List.nodup_iff_count]
    intro a
    by_cases hm : a ∈ r.filter (fun v => dir v)
    · obtain ⟨m1, m2⟩ := List.mem_filter.mp hm
      obtain ⟨k, hk⟩ := AtD.of_from (h.met a (hall a m1) m2)
      have := h.pre_count hx e k a m2 hk
      have h4 := List.Sublist.count_le a (List.filter_sublist (p := fun v => dir v) (l := r))
      omega
    · rw [List.count_eq_zero.mpr hm]; omega
  have h5 := sum_sub (fun v => (sc v).length) (r.filter (fun v => dir v)) all h3 (fun v hv => hall v (List.mem_filter.mp hv).1)
  have h6 : ∀ l : List Int, (l.flatMap sc).length = (l.map (fun v => (sc v).length)).sum := by
    intro l
    induction l with
    | nil => rfl
    | cons v l ih => rw [List.flatMap_cons, List.length_append, ih, List.map_cons, List.sum_cons]
  rw [h2 r] at hs
  rw [h6 all]
  omega
end
def laws_eqEntry.f (a0_0 : ByteArray) (a0_1 : Int) (a1_0 : ByteArray) (a1_1 : Int) : Option (Bool) := if a0_0.toList = a1_0.toList then (if a0_1 = a1_1 then (some true) else (some false)) else (some false)
set_option maxHeartbeats 8000000 in
set_option maxRecDepth 100000 in
theorem laws_eqEntry.calls (a0_0 : ByteArray) (a0_1 : Int) (a1_0 : ByteArray) (a1_1 : Int) (r : Bool) (w : World) (h : laws_eqEntry.f a0_0 a0_1 a1_0 a1_1 = some r) :
  Calls Tryz.prog 176 #[.agg #[.string a0_0, .int .i64 a0_1], .agg #[.string a1_0, .int .i64 a1_1]] w fun e w' => e = .returned (.bool r) ∧ Below w.heap.size w w' := by
 have hu144 := Tryz.underlying144
 have HB := Aside0.mk (Below.refl w.heap.size w)
 have H : (if a0_0.toList = a1_0.toList then (if a0_1 = a1_1 then (some true) else (some false)) else (some false)) = some r := h
 clear h
 by_cases c3 : a0_0.toList = a1_0.toList
 ·rw [if_pos c3] at H
  have c3b0 : (a0_0.toList == a1_0.toList) = true := beq_iff_eq.mpr c3
  have c3b1 : (a0_0.toList != a1_0.toList) = false := bne_eq_false_iff_eq.mpr c3
  clear c3
  by_cases c4 : a0_1 = a1_1
  ·rw [if_pos c4] at H
   have c4b0 : (a0_1 == a1_1) = true := beq_iff_eq.mpr c4
   have c4b1 : (a0_1 != a1_1) = false := bne_eq_false_iff_eq.mpr c4
   clear c4
   obtain rfl := Option.some.inj H
   go_enter Tryz.func176, Tryz.ntmps176
   go_wp2_with (first | ((with_reducible refine gate_dst (N := 2) rfl ?_); refine box_event rfl (N := 2) rfl (cs := #[.string a0_0, .int .i64 a0_1]) (t := 144) (by first | (go_simp; done) | (go_simp; rfl)) ?_; intro gb348 hg w5 hbox hb; have BK348 := Aside0.mk (hbox); have GW348 := Aside0.mk (Gtr.gz hg (Gtr.bw HB.out)); have GE348 := GW348; replace HB := Aside0.mk (below_step (Gtr.bw HB.out) hb); clear hb hbox hg) | ((with_reducible refine gate_dst (N := 3) rfl ?_); refine box_event rfl (N := 3) rfl (cs := #[.string a1_0, .int .i64 a1_1]) (t := 144) (by first | (go_simp; done) | (go_simp; rfl)) ?_; intro gb349 hg w6 hbox hb; have BK349 := Aside0.mk (hbox); have GW349 := Aside0.mk (Gtr.gz hg (Gtr.bw HB.out)); have GE349 := GW349; replace HB := Aside0.mk (below_step (Gtr.bw HB.out) hb); have NB348_349 := Aside0.mk (Gtr.nl hg (Gtr.bk BK348.out)); have NB349_348 := Aside0.mk NB348_349.out.symm; replace BK348 := Aside0.mk (blk_below (Gtr.bk BK348.out) hb); clear hb hbox hg; have hnb7 := NB348_349.out; have hnc7 := NB349_348.out; have hcz8_0 := fun o_ => blk_cell BK348.out o_; have hfz8_0 := fun o_ => blk_frozen BK348.out o_; have hcz9_0 := fun o_ => blk_cell BK349.out o_; have hfz9_0 := fun o_ => blk_frozen BK349.out o_))
   go_ret
   exact ⟨Gtr.fe, (Gtr.bw HB.out)⟩
  ·rw [if_neg c4] at H
   have c4b0 : (a0_1 == a1_1) = false := beq_eq_false_iff_ne.mpr c4
   have c4b1 : (a0_1 != a1_1) = true := bne_iff_ne.mpr c4
   obtain rfl := Option.some.inj H
   go_enter Tryz.func176, Tryz.ntmps176
   go_wp2_with (first | ((with_reducible refine gate_dst (N := 2) rfl ?_); refine box_event rfl (N := 2) rfl (cs := #[.string a0_0, .int .i64 a0_1]) (t := 144) (by first | (go_simp; done) | (go_simp; rfl)) ?_; intro gb348 hg w10 hbox hb; have BK348 := Aside0.mk (hbox); have GW348 := Aside0.mk (Gtr.gz hg (Gtr.bw HB.out)); have GE348 := GW348; replace HB := Aside0.mk (below_step (Gtr.bw HB.out) hb); clear hb hbox hg) | ((with_reducible refine gate_dst (N := 3) rfl ?_); refine box_event rfl (N := 3) rfl (cs := #[.string a1_0, .int .i64 a1_1]) (t := 144) (by first | (go_simp; done) | (go_simp; rfl)) ?_; intro gb349 hg w11 hbox hb; have BK349 := Aside0.mk (hbox); have GW349 := Aside0.mk (Gtr.gz hg (Gtr.bw HB.out)); have GE349 := GW349; replace HB := Aside0.mk (below_step (Gtr.bw HB.out) hb); have NB348_349 := Aside0.mk (Gtr.nl hg (Gtr.bk BK348.out)); have NB349_348 := Aside0.mk NB348_349.out.symm; replace BK348 := Aside0.mk (blk_below (Gtr.bk BK348.out) hb); clear hb hbox hg; have hnb12 := NB348_349.out; have hnc12 := NB349_348.out; have hcz13_0 := fun o_ => blk_cell BK348.out o_; have hfz13_0 := fun o_ => blk_frozen BK348.out o_; have hcz14_0 := fun o_ => blk_cell BK349.out o_; have hfz14_0 := fun o_ => blk_frozen BK349.out o_))
   go_ret
   exact ⟨Gtr.fe, (Gtr.bw HB.out)⟩
 ·rw [if_neg c3] at H
  have c3b0 : (a0_0.toList == a1_0.toList) = false := beq_eq_false_iff_ne.mpr c3
  have c3b1 : (a0_0.toList != a1_0.toList) = true := bne_iff_ne.mpr c3
  obtain rfl := Option.some.inj H
  go_enter Tryz.func176, Tryz.ntmps176
  go_wp2_with (first | ((with_reducible refine gate_dst (N := 2) rfl ?_); refine box_event rfl (N := 2) rfl (cs := #[.string a0_0, .int .i64 a0_1]) (t := 144) (by first | (go_simp; done) | (go_simp; rfl)) ?_; intro gb348 hg w15 hbox hb; have BK348 := Aside0.mk (hbox); have GW348 := Aside0.mk (Gtr.gz hg (Gtr.bw HB.out)); have GE348 := GW348; replace HB := Aside0.mk (below_step (Gtr.bw HB.out) hb); clear hb hbox hg) | ((with_reducible refine gate_dst (N := 3) rfl ?_); refine box_event rfl (N := 3) rfl (cs := #[.string a1_0, .int .i64 a1_1]) (t := 144) (by first | (go_simp; done) | (go_simp; rfl)) ?_; intro gb349 hg w16 hbox hb; have BK349 := Aside0.mk (hbox); have GW349 := Aside0.mk (Gtr.gz hg (Gtr.bw HB.out)); have GE349 := GW349; replace HB := Aside0.mk (below_step (Gtr.bw HB.out) hb); have NB348_349 := Aside0.mk (Gtr.nl hg (Gtr.bk BK348.out)); have NB349_348 := Aside0.mk NB348_349.out.symm; replace BK348 := Aside0.mk (blk_below (Gtr.bk BK348.out) hb); clear hb hbox hg; have hnb17 := NB348_349.out; have hnc17 := NB349_348.out; have hcz18_0 := fun o_ => blk_cell BK348.out o_; have hfz18_0 := fun o_ => blk_frozen BK348.out o_; have hcz19_0 := fun o_ => blk_cell BK349.out o_; have hfz19_0 := fun o_ => blk_frozen BK349.out o_))
  go_ret
  exact ⟨Gtr.fe, (Gtr.bw HB.out)⟩
def laws_eqEntryS.l0 : Nat → List (S144) → List (S144) → Int → Option (Bool)
 | 0, _, _, _ => none
 | k + 1, x0, x1, x5 => if x5 < (x0.length : Int) then (if 0 ≤ x5 then (if x5 < (x1.length : Int) then ((laws_eqEntry.f ((rd_T144 x0 x5).f0) ((rd_T144 x0 x5).f1) ((rd_T144 x1 x5).f0) ((rd_T144 x1 x5).f1)).bind fun t352 => (if t352 = true then (laws_eqEntryS.l0 k x0 x1 (wrap64 (x5 + 1))) else (some false))) else (none)) else (none)) else (some true)
def laws_eqEntryS.f (k : Nat) (l0 : List (S144)) (l1 : List (S144)) : Option (Bool) := if (l0.length : Int) = (l1.length : Int) then (laws_eqEntryS.l0 k l0 l1 0) else (some false)
def laws_eqEntryS.T6 : Bool × List (List Nat × List Nat) := (true, [([], []), ([], []), ([0, 1], [0, 1]), ([2], [2]), ([], []), ([], []), ([4, 5], [4, 5]), ([6], [6]), ([3, 7], [3, 7]), ([8], [8])])
def laws_eqEntryS.B6 : List Nat := [0, 0, 3, 7, 0, 0, 48, 112, 255, 511]
theorem laws_eqEntryS.tab6 : rtab .any (opsOf Tryz.f134 6) = laws_eqEntryS.T6 := by kernel_rfl
theorem laws_eqEntryS.bits6 : waitsOk laws_eqEntryS.T6.2 laws_eqEntryS.B6 = true := by kernel_rfl
set_option maxHeartbeats 8000000 in
set_option maxRecDepth 100000 in
theorem laws_eqEntryS.calls (k : Nat) (A0 : Option Addr) (c0 : Nat) (l0 : List (S144)) (A1 : Option Addr) (c1 : Nat) (l1 : List (S144)) (r : Bool) (w : World) (hr0 : Kd.C k144 w A0 l0.length l0) (hc0 : l0.length ≤ c0) (hr1 : Kd.C k144 w A1 l1.length l1) (hc1 : l1.length ≤ c1) (h : laws_eqEntryS.f k l0 l1 = some r) :
  Calls Tryz.prog 134 #[.slice A0 l0.length c0, .slice A1 l1.length c1] w fun e w' => e = .returned (.bool r) ∧ Below w.heap.size w w' := by
 have hu144 := Tryz.underlying144
 have HR0 := Aside0.mk hr0
 have HC0 := Aside0.mk hc0
 clear hr0 hc0
 have HR1 := Aside0.mk hr1
 have HC1 := Aside0.mk hc1
 clear hr1 hc1
 have HB := Aside0.mk (Below.refl w.heap.size w)
 have H : (if (l0.length : Int) = (l1.length : Int) then (laws_eqEntryS.l0 k l0 l1 0) else (some false)) = some r := h
 clear h
 by_cases c3 : (l0.length : Int) = (l1.length : Int)
 ·rw [if_pos c3] at H
  have c3b0 : ((l0.length : Int) == (l1.length : Int)) = true := beq_iff_eq.mpr c3
  have c3b1 : ((l0.length : Int) != (l1.length : Int)) = false := bne_eq_false_iff_eq.mpr c3
  have c3b2 : (l0.length == l1.length) = true := by first | simpa using c3 | (simp at c3 ⊢; omega)
  clear c3
  have H' := Aside0.mk H
  clear H
  go_enter Tryz.func134, Tryz.ntmps134
  go_wp2
  go_loopg [5] k (fun kq v5 w' => ∃ (x5_1 : Int), v5 = .int .i64 x5_1 ∧ Aside0 (laws_eqEntryS.l0 kq l0 l1 x5_1 = some r) ∧ Aside0 (kq ≤ k) ∧ Aside0 (Below w.heap.size w w'))
  case atStart => exact ⟨(0), Gtr.fr, H', ⟨Nat.le_refl _⟩, ⟨(Gtr.bw HB.out)⟩⟩
  case round =>
   clear H'
   (try clear c1);(try clear p2);(try clear c3);(try clear c3b0);(try clear c3b1);(try clear c3b2)
   obtain ⟨x5_1, rfl, HA, HK1, HB⟩ := hrel
   cases gk with
   | zero => exact absurd HA.out (by simp [laws_eqEntryS.l0])
   | succ k1 =>
    have H := HA.out
    clear HA
    simp only [laws_eqEntryS.l0] at H
    by_cases c4 : x5_1 < (l0.length : Int)
    ·rw [if_pos c4] at H
     have c4b0 : decide (x5_1 < (l0.length : Int)) = true := decide_eq_true c4
     clear c4
     refine Or.elim (Classical.em (0 ≤ x5_1)) (fun c5 => ?_) (fun c5 => by rw [if_neg c5] at H; exact absurd H (by simp))
     rw [if_pos c5] at H
     have c5b0 : decide (0 ≤ x5_1) = true := decide_eq_true c5
     clear c5
     refine Or.elim (Classical.em (x5_1 < (l1.length : Int))) (fun c6 => ?_) (fun c6 => by rw [if_neg c6] at H; exact absurd H (by simp))
     rw [if_pos c6] at H
     have c6b0 : decide (x5_1 < (l1.length : Int)) = true := decide_eq_true c6
     clear c6
     replace H := Option.bind_eq_some_iff.mp H
     obtain ⟨t352, A70, H⟩ := H
     try dsimp only at H
     have A7 := Aside0.mk A70
     clear A70
     by_cases c8 : t352 = true
     ·subst c8
      have H1 := H
      rw [if_pos rfl] at H1
      clear H
      have H := H1
      clear H1
      have H' := Aside0.mk H
      clear H
      try go_wp2
      have n0_ := Aside0.mk (below_drew1 HB.out)
      clear HB
      have HB := n0_
      clear n0_
      have p350 : 0 ≤ (x5_1 : Int) := Gtr.od
      have q350 : x5_1 < (l0.length : Int) := Gtr.od
      obtain ⟨ad350, e350, hx350_0, hx350_1⟩ := at_T144 HR0.out x5_1 p350 q350
      have hw350_1 := hx350_1
      have hw350_0 := hx350_0
      cases e350
      replace hx350_0 := Gtr.cl HB.out hx350_0
      replace hx350_1 := Gtr.cl HB.out hx350_1
      replace p350 := eq_true p350
      replace q350 := eq_true q350
      have p351 : 0 ≤ (x5_1 : Int) := Gtr.od
      have q351 : x5_1 < (l1.length : Int) := Gtr.od
      obtain ⟨ad351, e351, hx351_0, hx351_1⟩ := at_T144 HR1.out x5_1 p351 q351
      have hw351_1 := hx351_1
      have hw351_0 := hx351_0
      cases e351
      replace hx351_0 := Gtr.cl HB.out hx351_0
      replace hx351_1 := Gtr.cl HB.out hx351_1
      replace p351 := eq_true p351
      replace q351 := eq_true q351
      refine start_ (n := 10) (S := fun w' => w'.cell? (ad350.add ((x5_1).toNat * 2)) = some (.string ((rd_T144 l0 x5_1).f0)) ∧ w'.cell? ⟨(ad350.add ((x5_1).toNat * 2)).block, (ad350.add ((x5_1).toNat * 2)).off + 1, none⟩ = some (.int .i64 ((rd_T144 l0 x5_1).f1)) ∧ w'.cell? (ad351.add ((x5_1).toNat * 2)) = some (.string ((rd_T144 l1 x5_1).f0)) ∧ w'.cell? ⟨(ad351.add ((x5_1).toNat * 2)).block, (ad351.add ((x5_1).toNat * 2)).off + 1, none⟩ = some (.int .i64 ((rd_T144 l1 x5_1).f1))) (ds := []) (Gtr.bb 10 0) (by kernel_rfl) rfl rfl ⟨((HB.out.cell (World.block_lt_of_cell? w _ hw350_0)).trans hw350_0), ((HB.out.cell (World.block_lt_of_cell? w _ hw350_1)).trans hw350_1), ((HB.out.cell (World.block_lt_of_cell? w _ hw351_0)).trans hw351_0), ((HB.out.cell (World.block_lt_of_cell? w _ hw351_1)).trans hw351_1)⟩ (fun hHeld => ?_); refine with_tabW laws_eqEntryS.tab6 laws_eqEntryS.bits6 (fun HT_ HW_ => ?_)
      generalize wr.drew = w9 at HB hx350_0 hx350_1 hx351_0 hx351_1 hHeld ⊢
      refine pure_ (i := 0) (N := some 17) (v := ?_) (a' := ?_) (Gtr.bb 10 1) rfl rfl (any_of HT_.out (by kernel_rfl)) (fun _ _ _ h => h) (Or.inl ⟨by rfl, ?_⟩) ?_ ?_
      rotate_left
      ·intro w'
       go_simp
       with_reducible rfl
      rotate_left
      ·simp only [Gtr.ps]
       rfl
      refine pure_ (i := 1) (N := some 18) (v := ?_) (a' := ?_) (Gtr.bb 10 3) rfl rfl (any_of HT_.out (by kernel_rfl)) (fun _ _ _ h => h) (Or.inl ⟨by rfl, ?_⟩) ?_ ?_
      rotate_left
      ·intro w'
       go_simp
       with_reducible rfl
      rotate_left
      ·simp only [Gtr.ps]
       rfl
      refine pure_ (i := 2) (N := some 19) (v := ?_) (a' := ?_) (Gtr.bb 10 7) rfl rfl (any_of HT_.out (by kernel_rfl)) (fun _ _ _ h => h) (Or.inl ⟨by rfl, ?_⟩) ?_ ?_
      rotate_left
      ·intro w'
       go_simp
       with_reducible rfl
      rotate_left
      ·simp only [Gtr.ps]
       rfl
      refine pure_ (i := 4) (N := some 21) (v := ?_) (a' := ?_) (Gtr.bb 10 23) rfl rfl (any_of HT_.out (by kernel_rfl)) (fun _ _ _ h => h) (Or.inl ⟨by rfl, ?_⟩) ?_ ?_
      rotate_left
      ·intro w'
       go_simp
       with_reducible rfl
      rotate_left
      ·simp only [Gtr.ps]
       rfl
      refine pure_ (i := 5) (N := some 22) (v := ?_) (a' := ?_) (Gtr.bb 10 55) rfl rfl (any_of HT_.out (by kernel_rfl)) (fun _ _ _ h => h) (Or.inl ⟨by rfl, ?_⟩) ?_ ?_
      rotate_left
      ·intro w'
       go_simp
       with_reducible rfl
      rotate_left
      ·simp only [Gtr.ps]
       rfl
      refine pure_ (i := 6) (N := some 23) (v := ?_) (a' := ?_) (Gtr.bb 10 119) rfl rfl (any_of HT_.out (by kernel_rfl)) (fun _ _ _ h => h) (Or.inl ⟨by rfl, ?_⟩) ?_ ?_
      rotate_left
      ·intro w'
       go_simp
       with_reducible rfl
      rotate_left
      ·simp only [Gtr.ps]
       rfl
      refine take_ (i := 3) (N := some 20) (v := ?_) (a' := ?_) (Gtr.bb 10 127) rfl rfl (take_ofW HT_.out HW_.out (by kernel_rfl)) (fun _ _ _ h => h) (Or.inl ⟨by rfl, ?_⟩) hHeld ?_ ?_
      rotate_left
      ·rintro w' ⟨s0, s1, s2, s3⟩
       go_simp
       with_reducible rfl
      rotate_left
      ·simp only [Gtr.ps]
       rfl
      refine take_ (i := 7) (N := some 24) (v := ?_) (a' := ?_) (Gtr.bb 10 255) rfl rfl (take_ofW HT_.out HW_.out (by kernel_rfl)) (fun _ _ _ h => h) (Or.inl ⟨by rfl, ?_⟩) hHeld ?_ ?_
      rotate_left
      ·rintro w' ⟨s0, s1, s2, s3⟩
       go_simp
       with_reducible rfl
      rotate_left
      ·simp only [Gtr.ps]
       rfl
      refine one_ (i := 8) (N := some 25) (Gtr.bb 10 511) rfl rfl (one_of HT_.out (by kernel_rfl)) (by decide) (fun K hK => ?_)
      refine goes_ Tryz.func176 (by kernel_rfl) rfl #[.agg #[.string ((rd_T144 l0 x5_1).f0), .int .i64 ((rd_T144 l0 x5_1).f1)], .agg #[.string ((rd_T144 l1 x5_1).f0), .int .i64 ((rd_T144 l1 x5_1).f1)]] (by rfl) rfl rfl (by (try simp only [List.map_toArray, List.map_cons, List.map_nil]); first | done | rfl | (simp only [List.length_drop, List.length_take]; rfl)) ?_
      with_reducible refine (laws_eqEntry.calls ((rd_T144 l0 x5_1).f0) ((rd_T144 l0 x5_1).f1) ((rd_T144 l1 x5_1).f0) ((rd_T144 l1 x5_1).f1) true _ A7.out).mono ?_
      rintro e w10 ⟨rfl, hb⟩
      refine ⟨_, rfl, ?_⟩
      have n0_ := Aside0.mk (below_step (Gtr.bw HB.out) hb)
      clear HB
      have HB := n0_
      clear n0_
      (try clear hb);(try clear hb2);(try clear hk);(try clear hi)
      refine hK.out _ _ ⟨((HB.out.cell (World.block_lt_of_cell? w _ hw350_0)).trans hw350_0), ((HB.out.cell (World.block_lt_of_cell? w _ hw350_1)).trans hw350_1), ((HB.out.cell (World.block_lt_of_cell? w _ hw351_0)).trans hw351_0), ((HB.out.cell (World.block_lt_of_cell? w _ hw351_1)).trans hw351_1)⟩ (fun hHeld => ?_)
      clear hK K
      refine norm_ (a' := ?_) ?_ ?_
      rotate_left
      ·show Act.put _ (some 25) _ = _
       simp only [Gtr.ps]
       rfl
      refine pure_ (i := 9) (N := some 26) (v := ?_) (a' := ?_) (Gtr.bb 10 1023) rfl rfl (any_of HT_.out (by kernel_rfl)) (fun _ _ _ h => h) (Or.inl ⟨by rfl, ?_⟩) ?_ ?_
      rotate_left
      ·intro w'
       go_simp
       with_reducible rfl
      rotate_left
      ·simp only [Gtr.ps]
       rfl
      refine done_ (done_of HT_.out (by kernel_rfl)) ?_
      try go_wp2
      go_roundg k1
      case measure => have := HK1.out; omega
      case rel => exact ⟨(wrap64 (x5_1 + 1)), Gtr.fr, H', ⟨by have := HK1.out; omega⟩, ⟨(Gtr.bw HB.out)⟩⟩
     ·replace c8 := Bool.eq_false_iff.mpr c8
      subst c8
      have H1 : (some false) = some r := by rw [if_neg (show ¬ (false = true) by decide)] at H; exact H
      clear H
      have H := H1
      clear H1
      obtain rfl := Option.some.inj H
      try go_wp2
      have n0_ := Aside0.mk (below_drew1 HB.out)
      clear HB
      have HB := n0_
      clear n0_
      have p350 : 0 ≤ (x5_1 : Int) := Gtr.od
      have q350 : x5_1 < (l0.length : Int) := Gtr.od
      obtain ⟨ad350, e350, hx350_0, hx350_1⟩ := at_T144 HR0.out x5_1 p350 q350
      have hw350_1 := hx350_1
      have hw350_0 := hx350_0
      cases e350
      replace hx350_0 := Gtr.cl HB.out hx350_0
      replace hx350_1 := Gtr.cl HB.out hx350_1
      replace p350 := eq_true p350
      replace q350 := eq_true q350
      have p351 : 0 ≤ (x5_1 : Int) := Gtr.od
      have q351 : x5_1 < (l1.length : Int) := Gtr.od
      obtain ⟨ad351, e351, hx351_0, hx351_1⟩ := at_T144 HR1.out x5_1 p351 q351
      have hw351_1 := hx351_1
      have hw351_0 := hx351_0
      cases e351
      replace hx351_0 := Gtr.cl HB.out hx351_0
      replace hx351_1 := Gtr.cl HB.out hx351_1
      replace p351 := eq_true p351
      replace q351 := eq_true q351
      refine start_ (n := 10) (S := fun w' => w'.cell? (ad350.add ((x5_1).toNat * 2)) = some (.string ((rd_T144 l0 x5_1).f0)) ∧ w'.cell? ⟨(ad350.add ((x5_1).toNat * 2)).block, (ad350.add ((x5_1).toNat * 2)).off + 1, none⟩ = some (.int .i64 ((rd_T144 l0 x5_1).f1)) ∧ w'.cell? (ad351.add ((x5_1).toNat * 2)) = some (.string ((rd_T144 l1 x5_1).f0)) ∧ w'.cell? ⟨(ad351.add ((x5_1).toNat * 2)).block, (ad351.add ((x5_1).toNat * 2)).off + 1, none⟩ = some (.int .i64 ((rd_T144 l1 x5_1).f1))) (ds := []) (Gtr.bb 10 0) (by kernel_rfl) rfl rfl ⟨((HB.out.cell (World.block_lt_of_cell? w _ hw350_0)).trans hw350_0), ((HB.out.cell (World.block_lt_of_cell? w _ hw350_1)).trans hw350_1), ((HB.out.cell (World.block_lt_of_cell? w _ hw351_0)).trans hw351_0), ((HB.out.cell (World.block_lt_of_cell? w _ hw351_1)).trans hw351_1)⟩ (fun hHeld => ?_); refine with_tabW laws_eqEntryS.tab6 laws_eqEntryS.bits6 (fun HT_ HW_ => ?_)
      generalize wr.drew = w11 at HB hx350_0 hx350_1 hx351_0 hx351_1 hHeld ⊢
      refine pure_ (i := 0) (N := some 17) (v := ?_) (a' := ?_) (Gtr.bb 10 1) rfl rfl (any_of HT_.out (by kernel_rfl)) (fun _ _ _ h => h) (Or.inl ⟨by rfl, ?_⟩) ?_ ?_
      rotate_left
      ·intro w'
       go_simp
       with_reducible rfl
      rotate_left
      ·simp only [Gtr.ps]
       rfl
      refine pure_ (i := 1) (N := some 18) (v := ?_) (a' := ?_) (Gtr.bb 10 3) rfl rfl (any_of HT_.out (by kernel_rfl)) (fun _ _ _ h => h) (Or.inl ⟨by rfl, ?_⟩) ?_ ?_
      rotate_left
      ·intro w'
       go_simp
       with_reducible rfl
      rotate_left
      ·simp only [Gtr.ps]
       rfl
      refine pure_ (i := 2) (N := some 19) (v := ?_) (a' := ?_) (Gtr.bb 10 7) rfl rfl (any_of HT_.out (by kernel_rfl)) (fun _ _ _ h => h) (Or.inl ⟨by rfl, ?_⟩) ?_ ?_
      rotate_left
      ·intro w'
       go_simp
       with_reducible rfl
      rotate_left
      ·simp only [Gtr.ps]
       rfl
      refine pure_ (i := 4) (N := some 21) (v := ?_) (a' := ?_) (Gtr.bb 10 23) rfl rfl (any_of HT_.out (by kernel_rfl)) (fun _ _ _ h => h) (Or.inl ⟨by rfl, ?_⟩) ?_ ?_
      rotate_left
      ·intro w'
       go_simp
       with_reducible rfl
      rotate_left
      ·simp only [Gtr.ps]
       rfl
      refine pure_ (i := 5) (N := some 22) (v := ?_) (a' := ?_) (Gtr.bb 10 55) rfl rfl (any_of HT_.out (by kernel_rfl)) (fun _ _ _ h => h) (Or.inl ⟨by rfl, ?_⟩) ?_ ?_
      rotate_left
      ·intro w'
       go_simp
       with_reducible rfl
      rotate_left
      ·simp only [Gtr.ps]
       rfl
      refine pure_ (i := 6) (N := some 23) (v := ?_) (a' := ?_) (Gtr.bb 10 119) rfl rfl (any_of HT_.out (by kernel_rfl)) (fun _ _ _ h => h) (Or.inl ⟨by rfl, ?_⟩) ?_ ?_
      rotate_left
      ·intro w'
       go_simp
       with_reducible rfl
      rotate_left
      ·simp only [Gtr.ps]
       rfl
      refine take_ (i := 3) (N := some 20) (v := ?_) (a' := ?_) (Gtr.bb 10 127) rfl rfl (take_ofW HT_.out HW_.out (by kernel_rfl)) (fun _ _ _ h => h) (Or.inl ⟨by rfl, ?_⟩) hHeld ?_ ?_
      rotate_left
      ·rintro w' ⟨s0, s1, s2, s3⟩
       go_simp
       with_reducible rfl
      rotate_left
      ·simp only [Gtr.ps]
       rfl
      refine take_ (i := 7) (N := some 24) (v := ?_) (a' := ?_) (Gtr.bb 10 255) rfl rfl (take_ofW HT_.out HW_.out (by kernel_rfl)) (fun _ _ _ h => h) (Or.inl ⟨by rfl, ?_⟩) hHeld ?_ ?_
      rotate_left
      ·rintro w' ⟨s0, s1, s2, s3⟩
       go_simp
       with_reducible rfl
      rotate_left
      ·simp only [Gtr.ps]
       rfl
      refine one_ (i := 8) (N := some 25) (Gtr.bb 10 511) rfl rfl (one_of HT_.out (by kernel_rfl)) (by decide) (fun K hK => ?_)
      refine goes_ Tryz.func176 (by kernel_rfl) rfl #[.agg #[.string ((rd_T144 l0 x5_1).f0), .int .i64 ((rd_T144 l0 x5_1).f1)], .agg #[.string ((rd_T144 l1 x5_1).f0), .int .i64 ((rd_T144 l1 x5_1).f1)]] (by rfl) rfl rfl (by (try simp only [List.map_toArray, List.map_cons, List.map_nil]); first | done | rfl | (simp only [List.length_drop, List.length_take]; rfl)) ?_
      with_reducible refine (laws_eqEntry.calls ((rd_T144 l0 x5_1).f0) ((rd_T144 l0 x5_1).f1) ((rd_T144 l1 x5_1).f0) ((rd_T144 l1 x5_1).f1) false _ A7.out).mono ?_
      rintro e w12 ⟨rfl, hb⟩
      refine ⟨_, rfl, ?_⟩
      have n0_ := Aside0.mk (below_step (Gtr.bw HB.out) hb)
      clear HB
      have HB := n0_
      clear n0_
      (try clear hb);(try clear hb2);(try clear hk);(try clear hi)
      refine hK.out _ _ ⟨((HB.out.cell (World.block_lt_of_cell? w _ hw350_0)).trans hw350_0), ((HB.out.cell (World.block_lt_of_cell? w _ hw350_1)).trans hw350_1), ((HB.out.cell (World.block_lt_of_cell? w _ hw351_0)).trans hw351_0), ((HB.out.cell (World.block_lt_of_cell? w _ hw351_1)).trans hw351_1)⟩ (fun hHeld => ?_)
      clear hK K
      refine norm_ (a' := ?_) ?_ ?_
      rotate_left
      ·show Act.put _ (some 25) _ = _
       simp only [Gtr.ps]
       rfl
      refine pure_ (i := 9) (N := some 26) (v := ?_) (a' := ?_) (Gtr.bb 10 1023) rfl rfl (any_of HT_.out (by kernel_rfl)) (fun _ _ _ h => h) (Or.inl ⟨by rfl, ?_⟩) ?_ ?_
      rotate_left
      ·intro w'
       go_simp
       with_reducible rfl
      rotate_left
      ·simp only [Gtr.ps]
       rfl
      refine done_ (done_of HT_.out (by kernel_rfl)) ?_
      try go_wp2
      go_ret
      exact ⟨Gtr.fe, (Gtr.bw HB.out)⟩
    ·rw [if_neg c4] at H
     have c4b0 : decide (x5_1 < (l0.length : Int)) = false := decide_eq_false c4
     clear c4
     obtain rfl := Option.some.inj H
     go_wp2
     go_ret
     exact ⟨Gtr.fe, (Gtr.bw HB.out)⟩
 ·rw [if_neg c3] at H
  have c3b0 : ((l0.length : Int) == (l1.length : Int)) = false := beq_eq_false_iff_ne.mpr c3
  have c3b1 : ((l0.length : Int) != (l1.length : Int)) = true := bne_iff_ne.mpr c3
  have c3b2 : (l0.length == l1.length) = false := by first | simpa using c3 | (simp at c3 ⊢; omega)
  obtain rfl := Option.some.inj H
  go_enter Tryz.func134, Tryz.ntmps134
  go_wp2
  go_ret
  exact ⟨Gtr.fe, (Gtr.bw HB.out)⟩
end Go.Proofs.YtfohpboikknknaaGreatDoor.Q
