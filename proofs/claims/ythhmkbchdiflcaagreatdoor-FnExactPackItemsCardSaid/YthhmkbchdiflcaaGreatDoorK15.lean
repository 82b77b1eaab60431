/- Texts of this claim, merged by a program (wip/tools/merge.py): HIndexAny. -/
import Derived.Test.YthhmkbchdiflcaaGreatDoorK1
import Derived.Test.YthhmkbchdiflcaaGreatDoorK3
import Derived.Test.YthhmkbchdiflcaaGreatDoorK6
import Derived.Test.YthhmkbchdiflcaaGreatDoorK14
import Derived.Laws.Runes
import Derived.Laws.RangeAny
import Derived.Lib.OthersKept
import Derived.Lib.DecodeN
import Derived.Lib.MapLaws
import Derived.Outline
/- strings.IndexAny at two or three signs of ASCII, every text, one that is no UTF-8 too. -/
namespace Go.Proofs.YthhmkbchdiflcaaGreatDoor.Q
open Go.RowKit Go.Proofs.YthhmkbchdiflcaaGreatDoorW.PrintWords Go.Proofs.YthhmkbchdiflcaaGreatDoorW.PrintLast Go.Proofs.YthhmkbchdiflcaaGreatDoorW.PrintMore
attribute [local go_sem] max2_int min2_int max_two min_two max_three min_three max_four min_four   -- for this text's walks alone
set_option linter.unusedVariables false
set_option linter.unusedSimpArgs false

set_option maxHeartbeats 4000000 in
set_option maxRecDepth 100000 in
theorem indexRune_err (chars : ByteArray) (W : World) (h2 : 2 ≤ chars.size) (h3 : chars.size ≤ 3) (hascii : Aside0 (∀ i (h : i < chars.size), (chars[i]'h).toNat < 128)) :
    Calls Tryz.prog 179 #[.string chars, .int .i32 65533] W fun e w' => e = .returned (.int .i64 (-1)) ∧ Below W.heap.size W w' := by
  have hit : Aside0 (∀ i, Below W.heap.size W (W.iter chars i)) := ⟨fun i => (Below.refl _ _).alloc (Nat.le_refl _) _⟩
  go_enter Tryz.func179, Tryz.ntmps179
  go_wp2
  go_loopg [5, 6] chars.size (fun g _ _ wx => ∃ i : Nat, i + g = chars.size ∧ wx = W.iter chars i)
  case atStart => exact ⟨0, by omega, rfl⟩
  case round =>
    obtain ⟨i, hig, rfl⟩ := hrel
    cases gk with
    | zero =>
      obtain rfl : i = chars.size := by omega
      have hnx := run_next_end (P := Tryz.prog) W chars chars.size
      go_wp2
      go_ret
      exact ⟨rfl, hit.out _⟩
    | succ g =>
      have hi : i < chars.size := by omega
      have hx128 := hascii.out i hi
      have hnx := fun ty => run_next_ascii (P := Tryz.prog) W chars i ty hi hx128
      generalize (chars[i]'hi) = x at hnx hx128
      have hne : ((x.toNat : Int) == 65533) = false := beq_eq_false_iff_ne.2 (by omega)
      go_wp2
      go_roundg g
      case measure => omega
      case rel => exact ⟨i + 1, by omega, rfl⟩
set_option maxHeartbeats 4000000 in
set_option maxRecDepth 100000 in
theorem indexRune_else (chars : ByteArray) (r : Int) (W : World) (h2 : 2 ≤ chars.size) (h3 : chars.size ≤ 3) (hascii : Aside0 (∀ i (h : i < chars.size), (chars[i]'h).toNat < 128))
    (hr : 128 ≤ r) (hr2 : r ≤ 1114111) (hne : (r == 65533) = false) (hv : Aside0 (Utf8.valid r = true)) :
    Calls Tryz.prog 179 #[.string chars, .int .i32 r] W fun e w' => e = .returned (.int .i64 (-1)) ∧ Below W.heap.size W w' := by
  have hE := encode_facts r hv.out hr
  have HV : Aside0 (∀ X, Calls Tryz.prog 236 #[.int .i32 r] X fun e w' => e = .returned (.bool true) ∧ Drawn0 X w') := ⟨fun X => by
    obtain ⟨k, hk⟩ : ∃ k, utf8_ValidRune.f k r = some true := by
      have h := hv.out
      rw [validRune_eq] at h
      unfold validRune at h
      have h := of_decide_eq_true h
      refine ⟨2, ?_⟩
      simp only [utf8_ValidRune.f, utf8_ValidRune.j0]
      rw [if_pos (by omega)]
      by_cases h1 : r < 55296
      · simp [h1]
      · rw [if_neg (by simpa using h1), if_pos (by omega), if_pos (by omega)]
    exact utf8_ValidRune.calls k r true X hk⟩
  obtain ⟨m1, m4, mlast⟩ := hE
  have ML := Aside0.mk mlast
  clear mlast
  generalize hrs : Utf8.encode r = rs at m1 m4 ML
  have HRS := Aside0.mk hrs
  clear hrs
  have hconv : ∀ W : World, (convert 21 9 (.int .i32 r)).run Tryz.prog W = .ok (.string rs) W := fun W => by
    rw [run_convert_int_string W 21 9 .i32 r (by rw [Tryz.underlying21]; rfl) Tryz.underlying9, HRS.out]
  obtain ⟨m, hm⟩ : ∃ m : Nat, rs.size = m + 1 := ⟨rs.size - 1, by omega⟩
  have hm1 : ((rs.size : Int) - 1) = (m : Int) := by omega
  have hq : ¬ r < 128 := by omega
  have hms : m < rs.size := by omega
  have HM := Aside0.mk hm
  clear hm
  have hq2 : decide (r < 128) = false := decide_eq_false hq
  go_enter Tryz.func179, Tryz.ntmps179
  go_wp2_with fail
  refine (HV.out _).mono ?_; rintro e w1 ⟨rfl, ⟨n1, rfl⟩⟩
  go_wp2
  go_step3
  go_wp2
  refine wp_loop_rounds 1 ?_; rw [rounds_succ]
  by_cases hc : m < chars.size
  · have p1 : ((0 : Int) ≤ (m : Int)) = True := eq_true (by omega)
    have p2 : ((m : Int) < (chars.size : Int)) = True := eq_true (by omega)
    have p3 : ((m : Int) < (rs.size : Int)) = True := eq_true (by omega)
    have x1 := hascii.out m hc
    have x2 : 128 ≤ (rs[m]'hms).toNat := by
      have := ML.out (by omega)
      have hm := HM.out
      simpa only [show rs.size - 1 = m by omega] using this
    have hwm : IntKind.i64.wrap ((m : Int) + 1) = ((m + 1 : Nat) : Int) := by rw [IntKind.wrap_i64]; omega
    have p4 : ((0 : Int) ≤ ((m : Int) + 1)) = True := eq_true (by omega)
    have p5 : (((m : Int) + 1) ≤ (chars.size : Int)) = True := eq_true (by omega)
    have HI : Aside0 (∀ X, Calls Tryz.prog 235 #[.string (chars.extract (m + 1) chars.size), .int .u8 ((rs[m]'hms).toNat : Int)] X fun e w' => e = .returned (.int .i64 (-1)) ∧ w' = X) := ⟨fun X => by
      refine (Any.strings_IndexByte Tryz.lays137 _ _ X).mono fun e w' ⟨he, hw⟩ => ⟨?_, hw⟩
      rw [he, ← Lib.firstIdx_eq, firstIdx_ascii chars _ _ _ (fun b hb => by
        obtain ⟨i, hi, hib⟩ := List.getElem_of_mem hb
        rw [data_length] at hi
        have := hascii.out i hi
        rw [← hib]; exact this) (by simpa using x2)]⟩
    have x3 : ((((chars[m]'hc).toNat : Int)) != (((rs[m]'hms).toNat : Int))) = true := by rw [bne_iff_ne]; omega
    go_wp2_with fail
    go_step3
    go_wp2_with fail
    go_quiet (fail)
    go_wp2_with fail
    go_quiet ((go_at_call 235; exact (HI.out _).mono fun e w'' ⟨he, hw⟩ => ⟨he, _, hw⟩))
    go_wp2
    rw [Exit.noGoto_ret]
    go_wp2
    rw [Exit.noGoto_ret]
    go_ret
    exact ⟨rfl, by repeat (first | exact Below.refl _ _ | apply pw_below_drewN)⟩
  · go_wp2
    rw [Exit.noGoto_ret]
    go_ret
    exact ⟨rfl, pw_below_drewN (Below.refl _ _) _⟩
theorem get_bang (s : ByteArray) (i : Nat) (h : i < s.size) : s.get! i = s[i]'h := by
  simp [ByteArray.get!, getElem!_pos, h]
  rfl
theorem decode_high (s : ByteArray) (i : Nat) (hi : i < s.size) (h : 128 ≤ (s[i]'hi).toNat) :
    128 ≤ (Utf8.decode s i).1 ∧ (Utf8.decode s i).1 ≤ 1114111 ∧ Utf8.valid ((Utf8.decode s i).1 : Int) = true ∧ 1 ≤ (Utf8.decode s i).2 ∧ i + (Utf8.decode s i).2 ≤ s.size ∧
      ∀ j (hj : j < s.size), i ≤ j → j < i + (Utf8.decode s i).2 → 128 ≤ (s[j]'hj).toNat := by
  have hb0 : (s.get! i).toNat = (s[i]'hi).toNat := by rw [get_bang s i hi]
  have l0 := (s.get! i).toNat_lt
  have l1 := (s.get! (i + 1)).toNat_lt
  have l2 := (s.get! (i + 2)).toNat_lt
  have l3 := (s.get! (i + 3)).toNat_lt
  have hj0 : ∀ j (hj : j < s.size), j = i → 128 ≤ (s[j]'hj).toNat := fun j hj e => by subst e; exact h
  have hg : ∀ k j (hj : j < s.size), j = i + k → (s[j]'hj).toNat = (s.get! (i + k)).toNat := fun k j hj e => by subst e; rw [get_bang s _ hj]
  rw [Lib.decode_at, validRune_eq]
  unfold validRune
  rcases Lib.decodeN_shape (s.size - i) (s.get! i).toNat (s.get! (i + 1)).toNat (s.get! (i + 2)).toNat (s.get! (i + 3)).toNat with ⟨h1, _⟩ | ⟨h1, h2, h3, h4, e⟩ | ⟨h1, h2, h3, h4, h5, h6, e⟩ | ⟨h1, h2, h3, h4, h5, h6, h7, e⟩ | e
  · omega
  · rw [e]
    refine ⟨by omega, by omega, decide_eq_true (by omega), by omega, by omega, fun j hj a b => ?_⟩
    have b' : j < i + 2 := b
    by_cases e0 : j = i
    · exact hj0 j hj e0
    · rw [hg 1 j hj (by omega)]; omega
  · rw [e]
    refine ⟨by omega, by omega, decide_eq_true (by omega), by omega, by omega, fun j hj a b => ?_⟩
    have b' : j < i + 3 := b
    by_cases e0 : j = i
    · exact hj0 j hj e0
    · by_cases e1 : j = i + 1
      · rw [hg 1 j hj e1]; omega
      · rw [hg 2 j hj (by omega)]; omega
  · rw [e]
    refine ⟨by omega, by omega, decide_eq_true (by omega), by omega, by omega, fun j hj a b => ?_⟩
    have b' : j < i + 4 := b
    by_cases e0 : j = i
    · exact hj0 j hj e0
    · by_cases e1 : j = i + 1
      · rw [hg 1 j hj e1]; omega
      · by_cases e2 : j = i + 2
        · rw [hg 2 j hj e2]; omega
        · rw [hg 3 j hj (by omega)]; omega
  · rw [e]
    refine ⟨by omega, by omega, decide_eq_true (by omega), by omega, by omega, fun j hj a b => ?_⟩
    have b' : j < i + 1 := b
    exact hj0 j hj (by omega)
theorem indexRune_high (chars : ByteArray) (r : Int) (W : World) (h2 : 2 ≤ chars.size) (h3 : chars.size ≤ 3) (hascii : Aside0 (∀ i (h : i < chars.size), (chars[i]'h).toNat < 128))
    (hr : 128 ≤ r) (hr2 : r ≤ 1114111) (hv : Utf8.valid r = true) :
    Calls Tryz.prog 179 #[.string chars, .int .i32 r] W fun e w' => e = .returned (.int .i64 (-1)) ∧ Below W.heap.size W w' := by
  by_cases h : r = 65533
  · subst h; exact indexRune_err chars W h2 h3 hascii
  · exact indexRune_else chars r W h2 h3 hascii hr hr2 (beq_eq_false_iff_ne.2 h) ⟨hv⟩
theorem noAny_more {s chars : List UInt8} {i : Nat} (d : Nat) (h : Lib.NoAny s chars i) (hx : ∀ j b, i ≤ j → j < i + d → s[j]? = some b → chars.contains b = false) : Lib.NoAny s chars (i + d) := fun j b hj hb => by
  by_cases e : j < i
  · exact h j b e hb
  · exact hx j b (by omega) hj hb
set_option maxHeartbeats 8000000 in
set_option maxRecDepth 100000 in
theorem indexAny_short (s chars : ByteArray) (W : World) (h2 : 2 ≤ chars.size) (h3 : chars.size ≤ 3) (hascii : Aside0 (∀ i (h : i < chars.size), (chars[i]'h).toNat < 128)) (h8 : s.size ≤ 8) :
    Calls Tryz.prog 130 #[.string s, .string chars] W fun e w' => e = .returned (.int .i64 (Lib.indexAny s.data.toList chars.data.toList)) ∧ Below W.heap.size W w' := by
  have hemp : chars.toList.isEmpty = false := by
    rw [ByteArray.toList_eq]
    have := data_length chars
    cases h : chars.data.toList with
    | nil => rw [h] at this; simp at this; omega
    | cons _ _ => rfl
  have hn1 : ((chars.size : Int) == 1) = false := beq_eq_false_iff_ne.2 (by omega)
  have h8z : decide ((8 : Int) < (s.size : Int)) = false := decide_eq_false (by omega)
  have HC : Aside0 (∀ b : UInt8, 128 ≤ b.toNat → chars.data.toList.contains b = false) := ⟨fun b hb => by
    rw [List.contains_eq_any_beq, List.any_eq_false]
    intro x hx
    obtain ⟨i, hi, hib⟩ := List.getElem_of_mem hx
    rw [data_length] at hi
    have := hascii.out i hi
    have e : (chars[i]'hi) = x := hib
    rw [e] at this
    intro hbx
    have : b = x := by simpa using hbx
    subst this
    omega⟩
  have HR : Aside0 (∀ X (r : Int), 128 ≤ r → r ≤ 1114111 → Utf8.valid r = true → Calls Tryz.prog 179 #[.string chars, .int .i32 r] X fun e w' => e = .returned (.int .i64 (-1)) ∧ Below X.heap.size X w') := ⟨fun X r a b c => indexRune_high chars r X h2 h3 hascii a b c⟩
  have HS : Aside0 (∀ X, Calls Tryz.prog 180 #[.int .i64 (s.size : Int)] X fun e w' => e = .returned (.bool false) ∧ w' = X) := ⟨fun X => by
    have := Any.strings_shouldUseASCIISet { Tryz.lays153 with } (s.size : Int) X
    rw [h8z] at this
    exact this⟩
  clear hascii
  go_enter Tryz.func130, Tryz.ntmps130
  go_wp2_with fail
  refine (HS.out _).mono ?_; rintro e w1 ⟨rfl, rfl⟩
  go_wp2
  obtain ⟨W, rfl⟩ : ∃ W : World, W = w1 := ⟨_, rfl⟩
  go_loopg [9, 10] s.size (fun g _ _ wx => ∃ i : Nat, i + g = s.size ∧ Aside0 (wx.heap[W.heap.size]? = some (.stringIter s i)) ∧ Aside0 (Below W.heap.size W wx) ∧ Aside0 (Lib.NoAny s.data.toList chars.data.toList i))
  case atStart => exact ⟨0, by omega, ⟨by simp [World.iter_heap]⟩, ⟨(Below.refl _ _).alloc (Nat.le_refl _) _⟩, ⟨Lib.NoAny.zero _ _⟩⟩
  case round =>
    obtain ⟨i, hig, HK, HB, HN⟩ := hrel
    have hl := data_length s
    cases gk with
    | zero =>
      obtain rfl : i = s.size := by omega
      have hnx : ∀ ty, (Instr.next (.pointer (some ⟨W.heap.size, 0, none⟩)) true ty).run Tryz.prog wr = _ := fun ty => Lib.run_next_end_at wr W.heap.size s s.size ty HK.out (by omega)
      clear hl
      go_wp2
      go_ret
      exact ⟨by rw [Lib.indexAny_none (by rw [data_length]; exact HN.out)]; rfl, HB.out⟩
    | succ g =>
      have hi : i < s.size := by omega
      obtain ⟨x, hx⟩ : ∃ x : UInt8, s[i]'hi = x := ⟨_, rfl⟩
      have Hx : Aside0 (s.data.toList[i]? = some x) := ⟨by rw [List.getElem?_eq_getElem (by omega)]; exact congrArg some hx⟩
      have hkz := Aside0.mk (Array.getElem?_eq_some_iff.1 HK.out).1
      by_cases h128 : x.toNat < 128
      · have hnx : ∀ ty, (Instr.next (.pointer (some ⟨W.heap.size, 0, none⟩)) true ty).run Tryz.prog wr = _ := fun ty => Lib.run_next_ascii_at wr W.heap.size s i ty HK.out hi (by rw [hx]; exact h128)
        rw [hx] at hnx
        clear hl hx
        have hback : ((x.toNat : Int)).toNat.toUInt8 = x := by simp
        have hcon := Lib.contains_iff_indexByte chars.data.toList x
        cases hin : chars.data.toList.contains x
        · rw [hin] at hcon
          have hlt : decide ((0 : Int) ≤ Lib.indexByte chars.data.toList x) = false := hcon.symm
          have HI : Aside0 (∀ X, Calls Tryz.prog 179 #[.string chars, .int .i32 (x.toNat : Int)] X fun e w' => e = .returned (.int .i64 (Lib.indexByte chars.data.toList x)) ∧ w' = X) := ⟨fun X => by
            have := Any.strings_IndexRune_ascii { Tryz.lays152 with } chars (x.toNat : Int) X (by omega) (by omega)
            rw [hback] at this
            exact this⟩
          have Hin := Aside0.mk hin
          clear hcon hin hback
          generalize Lib.indexByte chars.data.toList x = q at hlt HI
          go_wp2_with fail
          refine (HI.out _).mono ?_; rintro e w2 ⟨rfl, rfl⟩
          go_wp2
          go_roundg g
          case measure => omega
          case rel => exact ⟨i + 1, by omega, ⟨Lib.iterAt_heap _ _ _ _ _ HK.out⟩, ⟨Lib.below_iterAt HB.out (Nat.le_refl _) _ _⟩, ⟨HN.out.succ Hx.out Hin.out⟩⟩
        · rw [hin] at hcon
          have hge : decide ((0 : Int) ≤ Lib.indexByte chars.data.toList x) = true := hcon.symm
          have HI : Aside0 (∀ X, Calls Tryz.prog 179 #[.string chars, .int .i32 (x.toNat : Int)] X fun e w' => e = .returned (.int .i64 (Lib.indexByte chars.data.toList x)) ∧ w' = X) := ⟨fun X => by
            have := Any.strings_IndexRune_ascii { Tryz.lays152 with } chars (x.toNat : Int) X (by omega) (by omega)
            rw [hback] at this
            exact this⟩
          have Hin := Aside0.mk hin
          clear hcon hin hback
          generalize Lib.indexByte chars.data.toList x = q at hge HI
          go_wp2_with fail
          refine (HI.out _).mono ?_; rintro e w2 ⟨rfl, rfl⟩
          go_wp2
          go_ret
          exact ⟨by rw [Lib.indexAny_hit HN.out Hx.out Hin.out]; rfl, Lib.below_iterAt HB.out (Nat.le_refl _) _ _⟩
      · obtain ⟨d1, d2, d3, d4, d5, d6⟩ := decode_high s i hi (by rw [hx]; omega)
        have hnx : ∀ ty, (Instr.next (.pointer (some ⟨W.heap.size, 0, none⟩)) true ty).run Tryz.prog wr = _ := fun ty => Lib.run_next_any_at wr W.heap.size s i ty HK.out hi
        have hcz : decide ((0 : Int) ≤ -1) = false := rfl
        have HN2 : Aside0 (Lib.NoAny s.data.toList chars.data.toList (i + (Utf8.decode s i).2)) := ⟨noAny_more _ HN.out fun j b a1 a2 a3 => by
          have hj : j < s.size := by omega
          rw [List.getElem?_eq_getElem (by omega)] at a3
          have := d6 j hj a1 a2
          have e : (s[j]'hj) = b := Option.some.inj a3
          rw [e] at this
          exact HC.out b this⟩
        have HI := Aside0.mk (fun X => HR.out X ((Utf8.decode s i).1 : Int) (by omega) (by omega) d3)
        clear d3 d6 hl hx d1 d2
        have D4 := Aside0.mk d4
        have D5 := Aside0.mk d5
        clear d4 d5
        generalize (Utf8.decode s i).1 = c at hnx HI
        generalize (Utf8.decode s i).2 = d at hnx HN2 D4 D5
        go_wp2_with fail
        refine (HI.out _).mono ?_; rintro e w2 ⟨rfl, hd⟩
        have HB2 : Aside0 (Below W.heap.size W w2) := ⟨(Lib.below_iterAt HB.out (Nat.le_refl _) s (i + d)).trans (hd.mono (by have := hkz.out; simp [Lib.iterAt_size]; omega))⟩
        have HK2 : Aside0 (w2.heap[W.heap.size]? = some (.stringIter s (i + d))) := ⟨by
          rw [hd.block _ (by have := hkz.out; simp [Lib.iterAt_size]; omega)]
          exact Lib.iterAt_heap _ _ _ _ _ HK.out⟩
        clear hd
        go_wp2
        go_roundg (s.size - (i + d))
        case measure => have := D4.out; have := D5.out; omega
        case rel => exact ⟨i + d, by have := D5.out; omega, HK2, HB2, HN2⟩
theorem setInfo : (Tryz.prog.info? (Tryz.lays153_ren.t 116)).map (fun i => (i.zero, i.size)) = some (some (.agg (Array.replicate 256 (.bool false))), 256) := by kernel_rfl
def strings_IndexAny.f (s chars : ByteArray) : Option Int := if 2 ≤ chars.size ∧ chars.size ≤ 3 ∧ (chars.data.toList.all fun b => decide (b.toNat < 128)) = true ∧ s.size < 4294967281 then some (Lib.indexAny s.data.toList chars.data.toList) else none
theorem strings_IndexAny.calls (a0 a1 : ByteArray) (r : Int) (w : World) (h : strings_IndexAny.f a0 a1 = some r) :
    Calls Tryz.prog 130 #[.string a0, .string a1] w fun e w' => e = .returned (.int .i64 r) ∧ Below w.heap.size w w' := by
  unfold strings_IndexAny.f at h
  split at h
  case isFalse => cases h
  rename_i hc
  injection h with h
  subst h
  obtain ⟨h2, h3, ha, hs⟩ := hc
  have hac : ∀ (j : Nat) b, a1.data.toList[j]? = some b → b.toNat < 128 := fun j b hj => by
    obtain ⟨hlt, e⟩ := List.getElem?_eq_some_iff.1 hj
    subst e
    simpa using List.all_eq_true.mp ha _ (List.getElem_mem hlt)
  by_cases h8 : a0.size ≤ 8
  · exact indexAny_short a0 a1 w h2 h3 ⟨fun i hi => hac i _ (by rw [List.getElem?_eq_getElem (by rw [data_length]; exact hi)]; rfl)⟩ h8
  · refine (Any.strings_IndexAny_long Tryz.lays153 (zero_of_info setInfo).1 (zero_of_info setInfo).2 a0 a1 w h2 (by omega) hs (by omega) hac).mono fun e w' ⟨he, hw⟩ => ⟨he, ?_⟩
    rw [hw]
    exact ((Below.refl _ _).alloc (Nat.le_refl _) _).alloc (by simp) _

end Go.Proofs.YthhmkbchdiflcaaGreatDoor.Q
