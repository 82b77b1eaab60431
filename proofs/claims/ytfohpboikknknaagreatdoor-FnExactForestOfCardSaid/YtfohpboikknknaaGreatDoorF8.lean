/- Texts of this claim, merged by a program (wip/tools/merge.py): HConcat. -/
import Derived.Test.YtfohpboikknknaaGreatDoorF2
import Derived.Test.YtfohpboikknknaaGreatDoorF0
import Derived.Test.YtfohpboikknknaaGreatDoorF7
import Derived.Outline
import Derived.Laws.AppendOwn
import Derived.Lib.OwnBridge
namespace Go.Proofs.YtfohpboikknknaaGreatDoor.Q
open Go.RowKit Go.Proofs.YtfohpboikknknaaGreatDoorW.PrintWords Go.Proofs.YtfohpboikknknaaGreatDoorW.PrintLast Go.Proofs.YtfohpboikknknaaGreatDoorW.PrintMore
attribute [local go_sem] max2_int min2_int max_two min_two max_three min_three max_four min_four
set_option linter.unusedVariables false
set_option linter.unusedSimpArgs false
theorem strInfo8 : (Tryz.prog.info? 9).map (fun i => (i.zero, i.size, i.bytes)) = some (some (.string ⟨#[]⟩), 1, 16) := by kernel_rfl
set_option maxHeartbeats 2000000 in
set_option maxRecDepth 100000 in
theorem grow_call (n : Nat) (hn : n ≤ 1000000) (w : World) : Calls Tryz.prog 175 #[.slice none 0 0, .int .i64 n] w fun e w' => ∃ v, e = .returned v ∧ Kd.R Kd.string 9 w' w.heap.size (fun _ => True) v [] ∧ Below w.heap.size w w' := by
  by_cases h0 : n = 0
  · subst h0
    refine (show Calls Tryz.prog 175 _ _ _ from Any8.slices_Grow_room Tryz.lGrowS none 0 0 0 w (Nat.le_refl _) (by omega) (by omega) (by omega)).mono ?_
    rintro e w' ⟨rfl, rfl⟩
    exact ⟨_, rfl, Kd.R_nil _ _ _ _ _, Below.refl _ _⟩
  · obtain ⟨i0, hi0, hz⟩ := Option.map_eq_some_iff.1 strInfo8
    simp only [Prod.mk.injEq] at hz
    obtain ⟨hz0, hs0, hb0⟩ := hz
    refine (show Calls Tryz.prog 175 _ _ _ from Any8.slices_Grow_grow Tryz.lGrowS i0 (.string ⟨#[]⟩) hi0 hz0 (by omega) none 0 0 n [] w (Nat.le_refl _) (by omega) (by rw [hb0]; omega) (by omega) (by simp) (fun _ => rfl) (fun a h => by cases h)).mono ?_
    rintro e w' ⟨rfl, rfl⟩
    have hge := grownCap_ge w (0 + n) 0 9
    have hle := grownCap_le_maxLen w (0 + n) 0 9 (by unfold maxLen; omega)
    refine ⟨_, rfl, ⟨fun _ _ => trivial, [], ⟨rfl, .inr ⟨w.heap.size, grownCap w (0 + n) 0 9, #[] ++ Builtin.zeroCells (Value.string ⟨#[]⟩).cells (0 + n - 0) ++ Builtin.zeroCells (Value.string ⟨#[]⟩).cells (grownCap w (0 + n) 0 9 - (0 + n)), rfl, Nat.le_refl _, ?_, Nat.zero_le _, hle, ?_, by simp⟩⟩, Reps.none _ _⟩, below_alloc (below_drew1 (Below.refl _ _)) _⟩
    · exact blk_new w.drew _
    · rw [Array.size_append, Array.size_append, size_zeroCells, size_zeroCells]
      show 0 + (0 + n - 0) * 1 + (grownCap w (0 + n) 0 9 - (0 + n)) * 1 = grownCap w (0 + n) 0 9 * 1
      omega
set_option maxHeartbeats 4000000 in
set_option maxRecDepth 100000 in
theorem concat_walk (g : Nat) (A1 A2 : Option Addr) (c1 c2 cap : Nat) (l1 l2 : List ByteArray) (w : World) (hb : w.heap[g]? = some (.cells #[.slice A1 l1.length c1, .slice A2 l2.length c2] 29 (0, 0))) (h1 : Kd.C Kd.string w A1 l1.length l1) (h2 : Kd.C Kd.string w A2 l2.length l2) (hl : l1.length + l2.length ≤ 100000) :
    Calls Tryz.prog 131 #[.slice (some ⟨g, 0, none⟩) 2 cap] w fun e w' => ∃ v, e = .returned v ∧ Kd.R Kd.string 9 w' w.heap.size (fun _ => True) v (l1 ++ l2) ∧ Below w.heap.size w w' := by
  have hu1 := Tryz.underlying29
  have hu2 := Tryz.underlying206
  have HBK := Aside0.mk hb
  have H1 := Aside0.mk h1
  have H2 := Aside0.mk h2
  have HL := Aside0.mk hl
  have b0 : w.cell? ⟨g, 0, none⟩ = some (.slice A1 l1.length c1) := (blk_cell hb 0).trans rfl
  have b1 : w.cell? ⟨g, 1, none⟩ = some (.slice A2 l2.length c2) := (blk_cell hb 1).trans rfl
  have w1 : IntKind.i64.wrap (0 + (l1.length : Int)) = (l1.length : Int) := (i64_w _).trans (by unfold wrap64; omega)
  have w2 : IntKind.i64.wrap ((l1.length : Int) + (l2.length : Int)) = ((l1.length + l2.length : Nat) : Int) := (i64_w _).trans (by unfold wrap64; omega)
  have w3 : wrap64 (l1.length : Int) = (l1.length : Int) := by unfold wrap64; omega
  have w4 : wrap64 ((l1.length : Int) + (l2.length : Int)) = ((l1.length + l2.length : Nat) : Int) := by unfold wrap64; omega
  have w5 : IntKind.i64.wrap (l1.length : Int) = (l1.length : Int) := (i64_w _).trans w3
  have d1 : decide ((l1.length : Int) < 0) = false := decide_eq_false (by omega)
  have d2 : decide (((l1.length + l2.length : Nat) : Int) < 0) = false := decide_eq_false (by omega)
  have HG := Aside0.mk (grow_call (l1.length + l2.length) (by omega))
  clear hb h1 h2 hl
  go_enter Tryz.func131, Tryz.ntmps131
  go_wp2
  go_loopw [3, 11] (fun v3 v11 wr => ∃ i : Nat, v11 = .int .i64 (i : Int) ∧ Aside0 (w = wr) ∧ Aside0 ((i = 0 ∧ v3 = .int .i64 0) ∨ (i = 1 ∧ v3 = .int .i64 (l1.length : Int)) ∨ (i = 2 ∧ v3 = .int .i64 ((l1.length + l2.length : Nat) : Int)))) (fun _ v11 _ => 2 - (intOf v11).toNat)
  case atStart => exact ⟨0, rfl, ⟨rfl⟩, ⟨.inl ⟨rfl, rfl⟩⟩⟩
  case round =>
    obtain ⟨i, rfl, ⟨hw⟩, ⟨⟨rfl, rfl⟩ | ⟨rfl, rfl⟩ | ⟨rfl, rfl⟩⟩⟩ := hrel
    · subst hw
      clear HG
      go_wp2
      go_roundw
      case rel => exact ⟨1, by first | rfl | go_num, ⟨by trivial⟩, ⟨.inr (.inl ⟨rfl, by first | rfl | go_num⟩)⟩⟩
      case measure => simp [intOf]
    · subst hw
      clear HG
      go_wp2
      go_roundw
      case rel => exact ⟨2, by first | rfl | go_num, ⟨by trivial⟩, ⟨.inr (.inr ⟨rfl, by first | rfl | go_num⟩)⟩⟩
      case measure => simp [intOf]
    · subst hw
      go_wp2_with fail
      refine (HG.out _).mono ?_; rintro e W ⟨v6, rfl, ho, hd⟩
      have HO := Aside0.mk ho
      have HB := Aside0.mk hd
      clear ho hd HG b0 b1
      go_wp2
      go_loopw [6, 27] (fun v6 v27 wr => ∃ i : Nat, v27 = .int .i64 (i : Int) ∧ Aside0 (Below w.heap.size w wr) ∧ Aside0 ((i = 0 ∧ Kd.R Kd.string 9 wr w.heap.size (fun _ => True) v6 []) ∨ (i = 1 ∧ Kd.R Kd.string 9 wr w.heap.size (fun _ => True) v6 ([] ++ l1)) ∨ (i = 2 ∧ Kd.R Kd.string 9 wr w.heap.size (fun _ => True) v6 (([] ++ l1) ++ l2)))) (fun _ v27 _ => 2 - (intOf v27).toNat)
      case atStart => exact ⟨0, rfl, HB, ⟨.inl ⟨rfl, HO.out⟩⟩⟩
      case round =>
        clear HB HO
        obtain ⟨i, rfl, HB, ⟨⟨rfl, ho⟩ | ⟨rfl, ho⟩ | ⟨rfl, ho⟩⟩⟩ := hrel <;> have HO := Aside0.mk ho <;> clear ho
        · have HP := Aside0.mk (Kd.C_below H1.out HB.out)
          have b0 : wr.cell? ⟨g, 0, none⟩ = some (.slice A1 l1.length c1) := (blk_cell ((HB.out.block _ (blk_lt HBK.out)).trans HBK.out) 0).trans rfl
          go_wp2_with (first | ((with_reducible refine gate_dst (N := 33) rfl ?_); refine Kd.R_append_rows Kd.string (w0 := w) (W := wr) w.heap.size rfl (.tmp 31) (.tmp 32) 29 9 (.string ⟨#[]⟩) 16 rfl Tryz.underlying29 strInfo8 rfl (by decide) (by decide) _ [] l1 A1 l1.length c1 (fun _ => True) (fun _ => False) rfl rfl HO.out HP.out (fun _ _ h => h) (fun _ h => h.elim) (fun _ _ => trivial) HB.out HB.out.size ?hl ?_; (case hl => (have := HL.out; simp; omega)); intro v1 w1 ho1 hb1 hg1 hat1))
          have HO2 := Aside0.mk ho1
          have HB2 := Aside0.mk hb1
          clear ho1 hb1 hg1 hat1 b0 HO HB HP
          go_wp2
          go_roundw
          case rel => exact ⟨1, by first | rfl | go_num, HB2, ⟨.inr (.inl ⟨rfl, HO2.out⟩)⟩⟩
          case measure => simp [intOf]
        · have HP := Aside0.mk (Kd.C_below H2.out HB.out)
          have b1 : wr.cell? ⟨g, 1, none⟩ = some (.slice A2 l2.length c2) := (blk_cell ((HB.out.block _ (blk_lt HBK.out)).trans HBK.out) 1).trans rfl
          go_wp2_with (first | ((with_reducible refine gate_dst (N := 33) rfl ?_); refine Kd.R_append_rows Kd.string (w0 := w) (W := wr) w.heap.size rfl (.tmp 31) (.tmp 32) 29 9 (.string ⟨#[]⟩) 16 rfl Tryz.underlying29 strInfo8 rfl (by decide) (by decide) _ ([] ++ l1) l2 A2 l2.length c2 (fun _ => True) (fun _ => False) rfl rfl HO.out HP.out (fun _ _ h => h) (fun _ h => h.elim) (fun _ _ => trivial) HB.out HB.out.size ?hl ?_; (case hl => (have := HL.out; simp; omega)); intro v1 w1 ho1 hb1 hg1 hat1))
          have HO2 := Aside0.mk ho1
          have HB2 := Aside0.mk hb1
          clear ho1 hb1 hg1 hat1 b1 HO HB HP
          go_wp2
          go_roundw
          case rel => exact ⟨2, by first | rfl | go_num, HB2, ⟨.inr (.inr ⟨rfl, HO2.out⟩)⟩⟩
          case measure => simp [intOf]
        · go_wp2
          go_ret
          exact ⟨_, rfl, HO.out, HB.out⟩
end Go.Proofs.YtfohpboikknknaaGreatDoor.Q
