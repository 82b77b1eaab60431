/- Texts of this claim, merged by a program (wip/tools/merge.py): HChangeMode. -/
import Derived.Test.YtibfocaldcjiiaaGreatDoorJ2
import Derived.Test.YtibfocaldcjiiaaGreatDoorJ17
import Derived.Test.YtibfocaldcjiiaaGreatDoorJ19
import Derived.Test.YtibfocaldcjiiaaGreatDoorJ13
import Derived.Test.YtibfocaldcjiiaaGreatDoorJ22
import Derived.Test.YtibfocaldcjiiaaGreatDoorJ18
import Derived.Lib.IndexLaws
import Derived.Lib.IndexAny
/- ChangeMode, the program's and the reference's, over lists of bytes: both come to changeB. -/
namespace Go.Proofs.YtibfocaldcjiiaaGreatDoor.Q
open Go.RowKit Go.Proofs.YtibfocaldcjiiaaGreatDoorW.PrintWords Go.Proofs.YtibfocaldcjiiaaGreatDoorW.PrintLast Go.Proofs.YtibfocaldcjiiaaGreatDoorW.PrintMore
attribute [local go_sem] max2_int min2_int max_two min_two max_three min_three max_four min_four   -- for this text's walks alone
set_option linter.unusedVariables false
set_option linter.unusedSimpArgs false

/-- The place of the letter at i among others. -/
def lettK (s lets : List UInt8) (i : Nat) : Int := Lib.indexByte lets (s.getD i 0)
/-- The letter at i is one of them, and comes for the first time. -/
def lettOk (s lets : List UInt8) (i : Nat) : Bool := decide (0 ≤ lettK s lets i) && decide (Lib.indexByte (s.take i) (s.getD i 0) < 0)
theorem lettOk_iff (s lets : List UInt8) (i : Nat) : lettOk s lets i = true ↔ 0 ≤ lettK s lets i ∧ Lib.indexByte (s.take i) (s.getD i 0) < 0 := by
  unfold lettOk; rw [Bool.and_eq_true, decide_eq_true_eq, decide_eq_true_eq]
def lettV (bits : List Int) (s lets : List UInt8) (v : Int) : Nat → Nat → Int
  | _, 0 => v
  | i, d + 1 => lettV bits s lets (Go.bits .or .i64 v (rd bits (lettK s lets i))) (i + 1) d
/-- From place i on: all letters are good. -/
def lettAll (s lets : List UInt8) : Nat → Nat → Bool
  | _, 0 => true
  | i, d + 1 => lettOk s lets i && lettAll s lets (i + 1) d
theorem ite_all {α : Type} (s lets : List UInt8) (i d : Nat) (x y : α) : (if lettAll s lets i (d + 1) = true then x else y) = if lettOk s lets i = true then (if lettAll s lets (i + 1) d = true then x else y) else y := by
  have e : lettAll s lets i (d + 1) = (lettOk s lets i && lettAll s lets (i + 1) d) := rfl
  by_cases h : lettOk s lets i = true
  · rw [if_pos h]
    by_cases h2 : lettAll s lets (i + 1) d = true
    · rw [if_pos (by rw [e, h, h2]; rfl), if_pos h2]
    · rw [if_neg (by rw [e, h, Bool.true_and]; exact h2), if_neg h2]
  · rw [if_neg h, if_neg (by rw [e, Bool.and_eq_true]; exact fun hh => h hh.1)]
theorem getD_bt (s : ByteArray) (i : Nat) (h : i < s.size) : bt s (i : Int) = ((s.data.toList.getD i 0).toNat : Int) := by
  rw [bt_data s i h]
  have hl := data_length s
  simp [List.getD, List.getElem?_eq_getElem (show i < s.data.toList.length by omega)]
theorem byte_back (c : UInt8) : ((c.toNat : Int)).toNat.toUInt8 = c := by simp
theorem take_extract (s : ByteArray) (i : Nat) : (s.extract 0 i).data.toList = s.data.toList.take i := by rw [extract_list]; simp
theorem lettersOf_loop (s lets : ByteArray) (bits : List Int) (hs : s.size < 4294967281) (hb : lets.size = bits.length) (d : Nat) : ∀ (i : Nat) (v : Int), i + d = s.size →
    Ev (fun k => impl_lettersOf.l0 k s lets bits v (s.size : Int) (i : Int)) (if lettAll s.data.toList lets.data.toList i d = true then (lettV bits s.data.toList lets.data.toList v i d, true) else (0, false)) := by
  induction d with
  | zero =>
    intro i v hi
    refine Ev.step (f := fun _ => some (v, true)) (fun k => ?_) (Ev.now _)
    simp only [impl_lettersOf.l0]; rw [if_neg (by omega)]
  | succ d ih =>
    intro i v hi
    have hw := step_n (i := i) (n := s.size) (by omega) (by omega)
    have e1 : strings_IndexByte.f lets (bt s i) = some (lettK s.data.toList lets.data.toList i) := by
      unfold strings_IndexByte.f lettK
      rw [getD_bt s i (by omega), byte_back]
    have e2 : strings_IndexByte.f (s.extract 0 ((i : Int)).toNat) (bt s i) = some (Lib.indexByte (s.data.toList.take i) (s.data.toList.getD i 0)) := by
      unfold strings_IndexByte.f
      rw [getD_bt s i (by omega), byte_back, Int.toNat_natCast, take_extract]
    have hlt : 0 ≤ lettK s.data.toList lets.data.toList i → lettK s.data.toList lets.data.toList i < (bits.length : Int) := fun h0 => by
      rw [← hb, ← data_length]
      unfold lettK at h0 ⊢
      obtain ⟨o, ho⟩ : ∃ o : Nat, Lib.indexByte lets.data.toList (s.data.toList.getD i 0) = o := ⟨_, (Int.toNat_of_nonneg h0).symm⟩
      have := (Lib.indexByte_some ho).1
      rw [ho]
      rcases Nat.lt_or_ge o lets.data.toList.length with h | h
      · omega
      · rw [List.getElem?_eq_none h] at this; cases this
    refine Ev.step (f := fun k => if lettOk s.data.toList lets.data.toList i = true then impl_lettersOf.l0 k s lets bits (Go.bits .or .i64 v (rd bits (lettK s.data.toList lets.data.toList i))) (s.size : Int) ((i + 1 : Nat) : Int) else some (0, false)) (fun k => ?_) ?_
    · simp only [impl_lettersOf.l0]
      rw [if_pos (by omega), if_pos (by omega), if_pos (by omega), e1, e2]
      simp only [Option.bind_some]
      by_cases h1 : lettK s.data.toList lets.data.toList i < 0
      · rw [if_pos h1, if_neg (by rw [lettOk_iff]; omega)]
      · rw [if_neg h1, if_pos (by omega)]
        by_cases h2 : Lib.indexByte (s.data.toList.take i) (s.data.toList.getD i 0) ≥ 0
        · rw [if_pos h2, if_neg (by rw [lettOk_iff]; omega)]
        · rw [if_neg h2, if_pos (by omega), if_pos (hlt (by omega)), if_pos (by rw [lettOk_iff]; omega), hw]
    · rw [ite_all]
      by_cases h : lettOk s.data.toList lets.data.toList i = true
      · rw [if_pos h]
        exact Ev.congr (fun k => by rw [if_pos h]) (ih (i + 1) _ (by omega))
      · rw [if_neg h]
        exact Ev.congr (f := fun _ => some (0, false)) (fun k => by rw [if_neg h]) (Ev.now _)
def lettR (bits : List Int) (s lets : List UInt8) : Int × Bool := if lettAll s lets 0 s.length = true then (lettV bits s lets 0 0 s.length, true) else (0, false)
theorem lettersOf_ev (s lets : ByteArray) (bits : List Int) (hs : s.size < 4294967281) (hb : lets.size = bits.length) : Ev (fun k => impl_lettersOf.f k s lets bits) (lettR bits s.data.toList lets.data.toList) := by
  have := lettersOf_loop s lets bits hs hb s.size 0 0 (by omega)
  unfold lettR
  rw [data_length]
  exact this
/-! the reference's letters -/
theorem idx_none_iff (l : List UInt8) (c : UInt8) : Lib.indexByte l c < 0 ↔ ∀ j, j < l.length → l.getD j 0 ≠ c := by
  constructor
  · intro h j hj e
    have hge := Lib.indexByte_ge l c
    have := Lib.indexByte_none (by omega : Lib.indexByte l c = -1) j
    rw [List.getElem?_eq_getElem hj] at this
    apply this
    simp [List.getD, List.getElem?_eq_getElem hj] at e
    rw [e]
  · intro h
    rcases Int.lt_or_le (Lib.indexByte l c) 0 with h1 | h1
    · exact h1
    · exfalso
      obtain ⟨o, ho⟩ : ∃ o : Nat, Lib.indexByte l c = o := ⟨_, (Int.toNat_of_nonneg h1).symm⟩
      have h2 := (Lib.indexByte_some ho).1
      obtain ⟨hlt, e⟩ := List.getElem?_eq_some_iff.1 h2
      exact h o hlt (by simp [List.getD, List.getElem?_eq_getElem hlt, e])
theorem bt_eq_iff (a b : ByteArray) (i j : Nat) (hi : i < a.size) (hj : j < b.size) : bt a (i : Int) = bt b (j : Int) ↔ a.data.toList.getD i 0 = b.data.toList.getD j 0 := by
  rw [getD_bt a i hi, getD_bt b j hj]
  constructor
  · intro h; exact UInt8.toNat_inj.mp (by omega)
  · intro h; rw [h]
/-- The dup loop. -/
theorem l1Letters_l2 (s lets : ByteArray) (bits : List Int) (hs : s.size < 4294967281) (v : Int) (i k0 : Nat) (hi : i < s.size) (hk : k0 < bits.length) {r : Int}
    (hnext : Ev (fun k => spec_l1Letters.l0 k s lets bits (Go.bits .or .i64 v (rd bits (k0 : Int))) ((i + 1 : Nat) : Int)) r) (d : Nat) : ∀ j : Nat, j + d = i → (∀ j', j' < j → s.data.toList.getD j' 0 ≠ s.data.toList.getD i 0) →
    Ev (fun k => spec_l1Letters.l2 k s lets bits v (i : Int) (k0 : Int) (j : Int)) (if Lib.indexByte (s.data.toList.take i) (s.data.toList.getD i 0) < 0 then r else -1) := by
  have hl := data_length s
  induction d with
  | zero =>
    intro j hj hno
    have hw := step_n (i := i) (n := s.size) (by omega) (by omega)
    rw [if_pos]
    · refine Ev.step (fun k => ?_) hnext
      simp only [spec_l1Letters.l2]
      rw [if_neg (by omega), if_pos (by omega), if_pos (by omega), hw]
    · rw [idx_none_iff]
      intro j' hj'
      rw [List.length_take] at hj'
      have := hno j' (by omega)
      simp only [List.getD, List.getElem?_take] at this ⊢
      rw [if_pos (by omega)]
      exact this
  | succ d ih =>
    intro j hj hno
    have hw := step_n (i := j) (n := s.size) (by omega) (by omega)
    by_cases hc : s.data.toList.getD j 0 = s.data.toList.getD i 0
    · rw [if_neg]
      · refine Ev.step (f := fun _ => some (-1)) (fun k => ?_) (Ev.now _)
        simp only [spec_l1Letters.l2]
        rw [if_pos (by omega), if_pos (by omega), if_pos (by omega), if_pos (by omega), if_pos (by omega), if_pos ((bt_eq_iff s s j i (by omega) hi).mpr hc)]
      · rw [idx_none_iff]
        intro h
        apply h j (by rw [List.length_take]; omega)
        simp only [List.getD, List.getElem?_take]
        rw [if_pos (by omega)]
        exact hc
    · refine Ev.step (fun k => ?_) (ih (j + 1) (by omega) (fun j' hj' => ?_))
      · simp only [spec_l1Letters.l2]
        rw [if_pos (by omega), if_pos (by omega), if_pos (by omega), if_pos (by omega), if_pos (by omega), if_neg (fun e => hc ((bt_eq_iff s s j i (by omega) hi).mp e)), hw]
      · by_cases e : j' = j
        · subst e; exact hc
        · exact hno j' (by omega)
theorem idx_at (l : List UInt8) (c : UInt8) (n : Nat) (hn : n < l.length) (h : l.getD n 0 = c) (hno : ∀ j, j < n → l.getD j 0 ≠ c) : Lib.indexByte l c = n := by
  rcases Int.lt_or_le (Lib.indexByte l c) 0 with h1 | h1
  · exact absurd h ((idx_none_iff l c).mp h1 n hn)
  · obtain ⟨o, ho⟩ : ∃ o : Nat, Lib.indexByte l c = o := ⟨_, (Int.toNat_of_nonneg h1).symm⟩
    obtain ⟨h2, h3⟩ := Lib.indexByte_some ho
    obtain ⟨hlt, e⟩ := List.getElem?_eq_some_iff.1 h2
    rw [ho]
    have : ¬ o < n := fun hlt' => hno o hlt' (by simp [List.getD, List.getElem?_eq_getElem hlt, e])
    have : ¬ n < o := fun hlt' => h3 n hlt' (by rw [List.getElem?_eq_getElem hn]; simp [List.getD, List.getElem?_eq_getElem hn] at h; rw [h])
    omega
/-- The search for the letter. -/
theorem l1Letters_l1 (s lets : ByteArray) (bits : List Int) (hs : s.size < 4294967281) (hlz : lets.size < 4294967281) (hb : lets.size = bits.length) (v : Int) (i : Nat) (hi : i < s.size) {r : Int}
    (hnext : 0 ≤ lettK s.data.toList lets.data.toList i → Ev (fun k => spec_l1Letters.l0 k s lets bits (Go.bits .or .i64 v (rd bits (lettK s.data.toList lets.data.toList i))) ((i + 1 : Nat) : Int)) r) (d : Nat) : ∀ j : Nat, j + d = lets.size →
      (∀ j', j' < j → lets.data.toList.getD j' 0 ≠ s.data.toList.getD i 0) →
    Ev (fun k => spec_l1Letters.l1 k s lets bits v (i : Int) (j : Int)) (if lettOk s.data.toList lets.data.toList i = true then r else -1) := by
  have hl := data_length lets
  induction d with
  | zero =>
    intro j hj hno
    have hk : lettK s.data.toList lets.data.toList i < 0 := (idx_none_iff _ _).mpr (fun j' hj' => hno j' (by omega))
    rw [if_neg (by rw [lettOk_iff]; omega)]
    refine Ev.step (f := fun k => spec_l1Letters.j2 k s lets bits v (i : Int) (j : Int)) (fun k => ?_) ?_
    · simp only [spec_l1Letters.l1]; rw [if_neg (by omega)]
    · refine Ev.step (f := fun _ => some (-1)) (fun k => ?_) (Ev.now _)
      simp only [spec_l1Letters.j2]; rw [if_pos (by omega)]
  | succ d ih =>
    intro j hj hno
    have hw := step_n (i := j) (n := lets.size) (by omega) (by omega)
    by_cases hc : lets.data.toList.getD j 0 = s.data.toList.getD i 0
    · have hk : lettK s.data.toList lets.data.toList i = j := idx_at _ _ j (by omega) hc hno
      have h2 := l1Letters_l2 s lets bits hs v i j hi (by omega) (r := r) (by have := hnext (by omega); rwa [hk] at this) i 0 (by omega) (fun j' hj' => absurd hj' (Nat.not_lt_zero _))
      refine Ev.step (f := fun k => spec_l1Letters.j2 k s lets bits v (i : Int) (j : Int)) (fun k => ?_) ?_
      · simp only [spec_l1Letters.l1]
        rw [if_pos (by omega), if_pos (by omega), if_pos (by omega), if_pos (by omega), if_pos ((bt_eq_iff lets s j i (by omega) hi).mpr hc)]
      · refine Ev.step (f := fun k => spec_l1Letters.l2 k s lets bits v (i : Int) (j : Int) ((0 : Nat) : Int)) (fun k => ?_) ?_
        · simp only [spec_l1Letters.j2]; rw [if_neg (by omega)]; rfl
        · have e : (if lettOk s.data.toList lets.data.toList i = true then r else -1) = (if Lib.indexByte (s.data.toList.take i) (s.data.toList.getD i 0) < 0 then r else -1) := by
            by_cases h3 : Lib.indexByte (s.data.toList.take i) (s.data.toList.getD i 0) < 0
            · rw [if_pos h3, if_pos (by rw [lettOk_iff]; omega)]
            · rw [if_neg h3, if_neg (by rw [lettOk_iff]; omega)]
          rw [e]
          exact h2
    · refine Ev.step (fun k => ?_) (ih (j + 1) (by omega) (fun j' hj' => ?_))
      · simp only [spec_l1Letters.l1]
        rw [if_pos (by omega), if_pos (by omega), if_pos (by omega), if_pos (by omega), if_neg (fun e => hc ((bt_eq_iff lets s j i (by omega) hi).mp e)), hw]
      · by_cases e : j' = j
        · subst e; exact hc
        · exact hno j' (by omega)
theorem l1Letters_l0 (s lets : ByteArray) (bits : List Int) (hs : s.size < 4294967281) (hlz : lets.size < 4294967281) (hb : lets.size = bits.length) (d : Nat) : ∀ (i : Nat) (v : Int), i + d = s.size →
    Ev (fun k => spec_l1Letters.l0 k s lets bits v (i : Int)) (if lettAll s.data.toList lets.data.toList i d = true then lettV bits s.data.toList lets.data.toList v i d else -1) := by
  induction d with
  | zero =>
    intro i v hi
    refine Ev.step (f := fun _ => some v) (fun k => ?_) (Ev.now _)
    simp only [spec_l1Letters.l0]; rw [if_neg (by omega)]
  | succ d ih =>
    intro i v hi
    have h1 := l1Letters_l1 s lets bits hs hlz hb v i (by omega) (r := if lettAll s.data.toList lets.data.toList (i + 1) d = true then lettV bits s.data.toList lets.data.toList (Go.bits .or .i64 v (rd bits (lettK s.data.toList lets.data.toList i))) (i + 1) d else -1)
      (fun _ => ih (i + 1) _ (by omega)) lets.size 0 (by omega) (fun j' hj' => absurd hj' (Nat.not_lt_zero _))
    refine Ev.step (f := fun k => spec_l1Letters.l1 k s lets bits v (i : Int) ((0 : Nat) : Int)) (fun k => ?_) ?_
    · simp only [spec_l1Letters.l0]; rw [if_pos (by omega)]; rfl
    · rw [ite_all]
      exact h1
def lettS (bits : List Int) (s lets : List UInt8) : Int := if lettAll s lets 0 s.length = true then lettV bits s lets 0 0 s.length else -1
theorem l1Letters_ev (s lets : ByteArray) (bits : List Int) (hs : s.size < 4294967281) (hlz : lets.size < 4294967281) (hb : lets.size = bits.length) : Ev (fun k => spec_l1Letters.f k s lets bits) (lettS bits s.data.toList lets.data.toList) := by
  have := l1Letters_l0 s lets bits hs hlz hb s.size 0 0 (by omega)
  unfold lettS
  rw [data_length]
  exact this
theorem lettK_range (s lets : List UInt8) (i : Nat) (h : lettOk s lets i = true) : ∃ k : Nat, lettK s lets i = k ∧ k < lets.length := by
  rw [lettOk_iff] at h
  obtain ⟨o, ho⟩ : ∃ o : Nat, lettK s lets i = o := ⟨_, (Int.toNat_of_nonneg h.1).symm⟩
  have h2 := (Lib.indexByte_some (show Lib.indexByte lets (s.getD i 0) = o from ho)).1
  exact ⟨o, ho, (List.getElem?_eq_some_iff.1 h2).1⟩
theorem lettV_rel (R : Int → Int → Prop) (b1 b2 : List Int) (s lets : List UInt8) (hR : ∀ (k : Nat) v1 v2, k < lets.length → R v1 v2 → R (Go.bits .or .i64 v1 (rd b1 (k : Int))) (Go.bits .or .i64 v2 (rd b2 (k : Int)))) (d : Nat) :
    ∀ (i : Nat) (v1 v2 : Int), lettAll s lets i d = true → R v1 v2 → R (lettV b1 s lets v1 i d) (lettV b2 s lets v2 i d) := by
  induction d with
  | zero => intro i v1 v2 _ h; exact h
  | succ d ih =>
    intro i v1 v2 ha h
    have e : lettAll s lets i (d + 1) = (lettOk s lets i && lettAll s lets (i + 1) d) := rfl
    rw [e, Bool.and_eq_true] at ha
    obtain ⟨k, hk, hlt⟩ := lettK_range s lets i ha.1
    show R (lettV b1 s lets (Go.bits .or .i64 v1 (rd b1 (lettK s lets i))) (i + 1) d) (lettV b2 s lets (Go.bits .or .i64 v2 (rd b2 (lettK s lets i))) (i + 1) d)
    rw [hk]
    exact ih (i + 1) _ _ ha.2 (hR k v1 v2 hlt h)
def expandB (x : Int) : Int := Go.bits .or .i64 (Go.bits .or .i64 (wrap64 (x * 64)) (wrap64 (x * 8))) x
def ugoa : List UInt8 := [117, 103, 111, 97]
def rwx : List UInt8 := [114, 119, 120]
def whoBits : List Int := [448, 56, 7, 511]
theorem who_fin : ∀ (k : Fin 4) (v : Fin 512), 0 ≤ Go.bits .or .i64 (v.val : Int) (rd whoBits (k.val : Int)) ∧ Go.bits .or .i64 (v.val : Int) (rd whoBits (k.val : Int)) < 512 := by decide +kernel
theorem what_fin : ∀ (k : Fin 3) (v : Fin 8), (0 ≤ Go.bits .or .i64 (v.val : Int) (rd [4, 2, 1] (k.val : Int)) ∧ Go.bits .or .i64 (v.val : Int) (rd [4, 2, 1] (k.val : Int)) < 8) ∧
    Go.bits .or .i64 (expandB (v.val : Int)) (rd [292, 146, 73] (k.val : Int)) = expandB (Go.bits .or .i64 (v.val : Int) (rd [4, 2, 1] (k.val : Int))) := by decide +kernel
theorem exp_fin : ∀ v : Fin 8, 0 ≤ expandB (v.val : Int) := by decide +kernel
theorem who_range (s : List UInt8) (h : lettAll s ugoa 0 s.length = true) : 0 ≤ lettV whoBits s ugoa 0 0 s.length ∧ lettV whoBits s ugoa 0 0 s.length < 512 := by
  refine lettV_rel (fun v _ => 0 ≤ v ∧ v < 512) whoBits whoBits s ugoa (fun k v1 v2 hk hv => ?_) s.length 0 0 0 h (by omega)
  have := who_fin ⟨k, hk⟩ ⟨v1.toNat, by omega⟩
  simp only [Int.toNat_of_nonneg hv.1] at this
  exact this
theorem what_range (s : List UInt8) (h : lettAll s rwx 0 s.length = true) : (0 ≤ lettV [4, 2, 1] s rwx 0 0 s.length ∧ lettV [4, 2, 1] s rwx 0 0 s.length < 8) ∧ lettV [292, 146, 73] s rwx 0 0 s.length = expandB (lettV [4, 2, 1] s rwx 0 0 s.length) := by
  refine lettV_rel (fun v w => (0 ≤ v ∧ v < 8) ∧ w = expandB v) [4, 2, 1] [292, 146, 73] s rwx (fun k v1 v2 hk hv => ?_) s.length 0 0 0 h ⟨by omega, by decide +kernel⟩
  have := what_fin ⟨k, hk⟩ ⟨v1.toNat, by omega⟩
  simp only [Int.toNat_of_nonneg hv.1.1] at this
  rw [hv.2]
  exact this
/-- A mode changed by a text. -/
def changeB (mode : Int) (s : List UInt8) : Int × Bool :=
  if (0 ≤ mode ∧ mode ≤ 511) ∧ 1 ≤ Lib.indexAny s [43, 45, 61] then
    (if lettAll (s.take (Lib.indexAny s [43, 45, 61]).toNat) ugoa 0 (s.take (Lib.indexAny s [43, 45, 61]).toNat).length = true ∧ lettAll (s.drop ((Lib.indexAny s [43, 45, 61]).toNat + 1)) rwx 0 (s.drop ((Lib.indexAny s [43, 45, 61]).toNat + 1)).length = true then
      (let who := lettV whoBits (s.take (Lib.indexAny s [43, 45, 61]).toNat) ugoa 0 0 (s.take (Lib.indexAny s [43, 45, 61]).toNat).length
       let bs := expandB (lettV [4, 2, 1] (s.drop ((Lib.indexAny s [43, 45, 61]).toNat + 1)) rwx 0 0 (s.drop ((Lib.indexAny s [43, 45, 61]).toNat + 1)).length)
       ((if s.getD (Lib.indexAny s [43, 45, 61]).toNat 0 = 43 then Go.bits .or .i64 mode (Go.bits .and .i64 who bs)
         else if s.getD (Lib.indexAny s [43, 45, 61]).toNat 0 = 45 then Go.bits .andNot .i64 mode (Go.bits .and .i64 who bs)
         else Go.bits .or .i64 (Go.bits .andNot .i64 mode who) (Go.bits .and .i64 who bs)), true))
    else (0, false))
  else (0, false)
theorem drop_extract (s : ByteArray) (i : Nat) : (s.extract i s.size).data.toList = s.data.toList.drop i := by
  rw [extract_list, List.take_of_length_le (by rw [data_length]; omega)]
theorem signAt_cases (s : List UInt8) : Lib.indexAny s [43, 45, 61] = -1 ∨ ∃ a : Nat, Lib.indexAny s [43, 45, 61] = a ∧ a < s.length := by
  have := Lib.indexAny_ge [43, 45, 61] s
  rcases Int.lt_or_le (Lib.indexAny s [43, 45, 61]) 0 with h | h
  · left; omega
  · right
    obtain ⟨a, ha⟩ : ∃ a : Nat, Lib.indexAny s [43, 45, 61] = a := ⟨_, (Int.toNat_of_nonneg h).symm⟩
    refine ⟨a, ha, ?_⟩
    have key : ∀ (l : List UInt8) (C : List UInt8), Lib.indexAny l C < l.length ∨ Lib.indexAny l C = -1 := by
      intro l C
      induction l with
      | nil => right; rfl
      | cons b l ih =>
        unfold Lib.indexAny
        split
        · left; simp
        · split
          · right; rfl
          · left
            rename_i h1
            rcases ih with h2 | h2
            · simp; omega
            · rw [h2] at h1; exact absurd rfl h1
    rcases key s [43, 45, 61] with h1 | h1 <;> omega
theorem bt_sign (s : ByteArray) (a : Nat) (ha : a < s.size) (c : UInt8) : (bt s (a : Int) = (c.toNat : Int)) ↔ s.data.toList.getD a 0 = c := by
  rw [getD_bt s a ha]
  constructor
  · intro h; exact UInt8.toNat_inj.mp (by omega)
  · intro h; rw [h]
theorem implChange_ev (mode : Int) (s : ByteArray) (hs : s.size < 4294967281) : Ev (fun k => impl_ChangeMode.f k mode s) (changeB mode s.data.toList) := by
  have hl := data_length s
  have e0 : strings_IndexAny.f s (⟨#[43, 45, 61]⟩ : ByteArray) = some (Lib.indexAny s.data.toList [43, 45, 61]) := by
    unfold strings_IndexAny.f
    rw [if_pos ⟨by decide, by decide, by decide, hs⟩]
  have stop : ∀ (a : Int) x, x = true → Ev (fun k => impl_ChangeMode.j0 k mode s a x) (0, false) := fun a x hx =>
    Ev.step (f := fun _ => some (0, false)) (fun k => by simp only [impl_ChangeMode.j0]; rw [if_pos hx]) (Ev.now _)
  refine Ev.congr (f := fun k => if inB 0 511 mode = true then (impl_ChangeMode.j0 k mode s (Lib.indexAny s.data.toList [43, 45, 61]) (decide (Lib.indexAny s.data.toList [43, 45, 61] < 1))) else (impl_ChangeMode.j0 k mode s (Lib.indexAny s.data.toList [43, 45, 61]) true)) (fun k => by
    simp only [impl_ChangeMode.f]; rw [e0, isMode_f]; rfl) ?_
  unfold changeB
  by_cases hm : inB 0 511 mode = true
  · have hm2 : 0 ≤ mode ∧ mode ≤ 511 := by unfold inB at hm; simpa using hm
    refine Ev.congr (fun k => by rw [if_pos hm]) ?_
    by_cases h1 : 1 ≤ Lib.indexAny s.data.toList [43, 45, 61]
    · rw [if_pos ⟨hm2, h1⟩]
      rcases signAt_cases s.data.toList with h | ⟨a, ha, hlt⟩
      · omega
      · rw [ha] at h1 ⊢
        rw [Int.toNat_natCast]
        have hw := step_n (i := a) (n := s.size) (by omega) (by omega)
        have hwho := lettersOf_ev (s.extract 0 a) (⟨#[117, 103, 111, 97]⟩ : ByteArray) whoBits (by simp; omega) rfl
        have hwhat := lettersOf_ev (s.extract (a + 1) s.size) (⟨#[114, 119, 120]⟩ : ByteArray) [4, 2, 1] (by simp; omega) rfl
        rw [take_extract] at hwho
        rw [drop_extract] at hwhat
        change Ev _ (lettR whoBits (s.data.toList.take a) ugoa) at hwho
        change Ev _ (lettR [4, 2, 1] (s.data.toList.drop (a + 1)) rwx) at hwhat
        refine Ev.step (f := fun k => ((impl_lettersOf.f k (s.extract 0 a) (⟨#[117, 103, 111, 97]⟩ : ByteArray) (([448, 56, 7, 511] : List Int))).bind fun bt405 => ((impl_lettersOf.f k (s.extract (a + 1) s.size) (⟨#[114, 119, 120]⟩ : ByteArray) (([4, 2, 1] : List Int))).bind fun bt410 => (if bt405.2 = true then (impl_ChangeMode.j1 k mode s (a : Int) bt405.1 bt410.1 (!bt410.2)) else (impl_ChangeMode.j1 k mode s (a : Int) bt405.1 bt410.1 true))))) (fun k => ?_) ?_
        · simp only [impl_ChangeMode.j0]
          have p1 : (0 : Int) ≤ ((a + 1 : Nat) : Int) := by omega
          have p2 : ((a + 1 : Nat) : Int) ≤ (s.size : Int) := by omega
          rw [if_neg (by simp; omega), if_pos (by omega), if_pos (by omega), hw]
          simp only [p1, p2, if_true, Int.toNat_natCast]
        · refine Ev.bind hwho (Ev.bind hwhat ?_)
          have stop1 : ∀ (w1 w2 : Int) x, x = true → Ev (fun k => impl_ChangeMode.j1 k mode s a w1 w2 x) (0, false) := fun w1 w2 x hx =>
            Ev.step (f := fun _ => some (0, false)) (fun k => by simp only [impl_ChangeMode.j1]; rw [if_pos hx]) (Ev.now _)
          unfold lettR
          by_cases g1 : lettAll (s.data.toList.take a) ugoa 0 (s.data.toList.take a).length = true
          · rw [if_pos g1]
            by_cases g2 : lettAll (s.data.toList.drop (a + 1)) rwx 0 (s.data.toList.drop (a + 1)).length = true
            · rw [if_pos g2, if_pos ⟨g1, g2⟩]
              refine Ev.congr (fun k => by rw [if_pos rfl]) ?_
              refine Ev.step (f := fun _ => some _) (fun k => ?_) (Ev.now _)
              simp only [impl_ChangeMode.j1]
              rw [if_neg (by simp), if_pos (by omega), if_pos (by omega)]
              have s43 : bt s (a : Int) = 43 ↔ s.data.toList.getD a 0 = 43 := bt_sign s a (by omega) 43
              have s45 : bt s (a : Int) = 45 ↔ s.data.toList.getD a 0 = 45 := bt_sign s a (by omega) 45
              by_cases c1 : s.data.toList.getD a 0 = 43
              · rw [if_pos (s43.mpr c1), if_pos c1]; rfl
              · rw [if_neg (fun e => c1 (s43.mp e)), if_neg c1]
                by_cases c2 : s.data.toList.getD a 0 = 45
                · rw [if_pos (s45.mpr c2), if_pos c2]; rfl
                · rw [if_neg (fun e => c2 (s45.mp e)), if_neg c2]; rfl
            · rw [if_neg g2, if_neg (fun h => g2 h.2)]
              exact Ev.congr (f := fun k => impl_ChangeMode.j1 k mode s a (lettV whoBits (s.data.toList.take a) ugoa 0 0 (s.data.toList.take a).length) 0 true) (fun k => if_pos rfl) (stop1 _ _ _ rfl)
          · rw [if_neg g1, if_neg (show ¬ (lettAll (s.data.toList.take a) ugoa 0 (s.data.toList.take a).length = true ∧ lettAll (s.data.toList.drop (a + 1)) rwx 0 (s.data.toList.drop (a + 1)).length = true) from fun h => g1 h.1)]
            exact Ev.congr (fun k => by rw [if_neg (by simp)]) (stop1 _ _ _ rfl)
    · rw [if_neg (fun h => h1 h.2)]
      exact stop _ _ (by simp; omega)
  · rw [if_neg (fun h => hm (by unfold inB; simpa using h.1))]
    exact Ev.congr (fun k => by rw [if_neg hm]) (stop _ _ rfl)
/-! the reference -/
theorem noAny_of (s : List UInt8) (a : Nat) (h : Lib.indexAny s [43, 45, 61] = a) : ∀ j, j < a → ¬ [43, 45, 61].contains (s.getD j 0) = true := by
  intro j hj hc
  rcases Nat.lt_or_ge j s.length with hlt | hge
  · have key : ∀ (l : List UInt8) (j : Nat), j < l.length → [43, 45, 61].contains (l.getD j 0) = true → 0 ≤ Lib.indexAny l [43, 45, 61] ∧ Lib.indexAny l [43, 45, 61] ≤ j := by
      intro l
      induction l with
      | nil => intro j hj; simp at hj
      | cons b l ih =>
        intro j hj hc
        unfold Lib.indexAny
        by_cases hb : [43, 45, 61].contains b = true
        · rw [if_pos hb]; omega
        · rw [if_neg hb]
          cases j with
          | zero => exact absurd hc hb
          | succ j =>
            have := ih j (by simpa using hj) (by simpa [List.getD] using hc)
            split
            · rename_i h1
              have : Lib.indexAny l [43, 45, 61] = -1 := by simpa using h1
              omega
            · omega
    have := key s j hlt hc
    omega
  · have : s.getD j 0 = 0 := by simp [List.getD, List.getElem?_eq_none hge]
    rw [this] at hc
    exact absurd hc (by decide)
theorem sign_at (s : List UInt8) (a : Nat) (h : Lib.indexAny s [43, 45, 61] = a) (hlt : a < s.length) : [43, 45, 61].contains (s.getD a 0) = true := by
  have key : ∀ (l : List UInt8) (a : Nat), Lib.indexAny l [43, 45, 61] = a → [43, 45, 61].contains (l.getD a 0) = true := by
    intro l
    induction l with
    | nil => intro a h; simp [Lib.indexAny] at h
    | cons b l ih =>
      intro a h
      unfold Lib.indexAny at h
      by_cases hb : [43, 45, 61].contains b = true
      · rw [if_pos hb] at h
        obtain rfl : a = 0 := by omega
        exact hb
      · rw [if_neg hb] at h
        have hge := Lib.indexAny_ge [43, 45, 61] l
        by_cases h1 : (Lib.indexAny l [43, 45, 61] == -1) = true
        · rw [if_pos h1] at h; omega
        · rw [if_neg h1] at h
          have h2 : Lib.indexAny l [43, 45, 61] ≠ -1 := by simpa using h1
          obtain ⟨a', rfl⟩ : ∃ a', a = a' + 1 := ⟨a - 1, by omega⟩
          have := ih a' (by omega)
          simpa [List.getD] using this
  exact key s a h
theorem no_sign (s : List UInt8) (h : Lib.indexAny s [43, 45, 61] = -1) : ∀ j, ¬ [43, 45, 61].contains (s.getD j 0) = true := by
  intro j hc
  rcases Nat.lt_or_ge j s.length with hlt | hge
  · have key : ∀ (l : List UInt8) (j : Nat), j < l.length → [43, 45, 61].contains (l.getD j 0) = true → 0 ≤ Lib.indexAny l [43, 45, 61] := by
      intro l
      induction l with
      | nil => intro j hj; simp at hj
      | cons b l ih =>
        intro j hj hc
        unfold Lib.indexAny
        by_cases hb : [43, 45, 61].contains b = true
        · rw [if_pos hb]; omega
        · rw [if_neg hb]
          cases j with
          | zero => exact absurd hc hb
          | succ j =>
            have := ih j (by simpa using hj) (by simpa [List.getD] using hc)
            split
            · rename_i h1
              have : Lib.indexAny l [43, 45, 61] = -1 := by simpa using h1
              omega
            · omega
    have := key s j hlt hc
    omega
  · have : s.getD j 0 = 0 := by simp [List.getD, List.getElem?_eq_none hge]
    rw [this] at hc
    exact absurd hc (by decide)
theorem l1Mode_f (n : Int) : spec_l1Mode.f n = some (inB 0 511 n) := by
  unfold spec_l1Mode.f spec_l1In.f inB
  by_cases h : n ≥ 0
  · rw [if_pos h]; have : (0 : Int) ≤ n := h; simp [this]
  · rw [if_neg h]; have : ¬ (0 : Int) ≤ n := h; simp [this]
theorem specChange_j1 (mode : Int) (s : ByteArray) (hs : s.size < 4294967281) (a : Nat) (ha : (Lib.indexAny s.data.toList [43, 45, 61] = a ∧ a < s.size) ∨ (Lib.indexAny s.data.toList [43, 45, 61] = -1 ∧ a = s.size)) :
    Ev (fun k => spec_ChangeMode.j1 k mode s (a : Int)) (changeB mode s.data.toList) := by
  have hl := data_length s
  have stop : ∀ x, x = true → Ev (fun k => spec_ChangeMode.j2 k mode s (a : Int) x) (0, false) := fun x hx =>
    Ev.step (f := fun _ => some (0, false)) (fun k => by simp only [spec_ChangeMode.j2]; rw [if_pos hx]) (Ev.now _)
  refine Ev.step (f := fun k => if inB 0 511 mode = true then (if (a : Int) = 0 then (spec_ChangeMode.j2 k mode s (a : Int) true) else (spec_ChangeMode.j2 k mode s (a : Int) ((a : Int) == (s.size : Int)))) else (spec_ChangeMode.j2 k mode s (a : Int) true)) (fun k => by
    simp only [spec_ChangeMode.j1]; rw [l1Mode_f]; rfl) ?_
  unfold changeB
  by_cases hm : inB 0 511 mode = true
  · have hm2 : 0 ≤ mode ∧ mode ≤ 511 := by unfold inB at hm; simpa using hm
    refine Ev.congr (fun k => by rw [if_pos hm]) ?_
    rcases ha with ⟨ha, hlt⟩ | ⟨ha, rfl⟩
    · rw [ha]
      rw [Int.toNat_natCast]
      by_cases h1 : a = 0
      · rw [if_neg (fun h => by omega)]
        exact Ev.congr (fun k => by rw [if_pos (by omega)]) (stop _ rfl)
      · rw [if_pos ⟨hm2, by omega⟩]
        refine Ev.congr (fun k => by rw [if_neg (by omega)]) ?_
        have hw := step_n (i := a) (n := s.size) (by omega) (by omega)
        have hwho := l1Letters_ev (s.extract 0 a) (⟨#[117, 103, 111, 97]⟩ : ByteArray) whoBits (by simp; omega) (by decide) rfl
        have hwhat := l1Letters_ev (s.extract (a + 1) s.size) (⟨#[114, 119, 120]⟩ : ByteArray) [292, 146, 73] (by simp; omega) (by decide) rfl
        rw [take_extract] at hwho
        rw [drop_extract] at hwhat
        change Ev _ (lettS whoBits (s.data.toList.take a) ugoa) at hwho
        change Ev _ (lettS [292, 146, 73] (s.data.toList.drop (a + 1)) rwx) at hwhat
        refine Ev.step (f := fun k => ((spec_l1Letters.f k (s.extract 0 a) (⟨#[117, 103, 111, 97]⟩ : ByteArray) (([448, 56, 7, 511] : List Int))).bind fun t356 => ((spec_l1Letters.f k (s.extract (a + 1) s.size) (⟨#[114, 119, 120]⟩ : ByteArray) (([292, 146, 73] : List Int))).bind fun t360 => (if t356 < 0 then (spec_ChangeMode.j3 k mode s (a : Int) t356 t360 true) else (spec_ChangeMode.j3 k mode s (a : Int) t356 t360 (decide (t360 < 0))))))) (fun k => ?_) ?_
        · simp only [spec_ChangeMode.j2]
          have p1 : (0 : Int) ≤ ((a + 1 : Nat) : Int) := by omega
          have p2 : ((a + 1 : Nat) : Int) ≤ (s.size : Int) := by omega
          rw [if_neg (by simp; omega), if_pos (by omega), if_pos (by omega), hw]
          simp only [p1, p2, if_true, Int.toNat_natCast]
        · refine Ev.bind hwho (Ev.bind hwhat ?_)
          have stop1 : ∀ (w1 w2 : Int) x, x = true → Ev (fun k => spec_ChangeMode.j3 k mode s a w1 w2 x) (0, false) := fun w1 w2 x hx =>
            Ev.step (f := fun _ => some (0, false)) (fun k => by simp only [spec_ChangeMode.j3]; rw [if_pos hx]) (Ev.now _)
          unfold lettS
          by_cases g1 : lettAll (s.data.toList.take a) ugoa 0 (s.data.toList.take a).length = true
          · rw [if_pos g1]
            have r1 := who_range _ g1
            by_cases g2 : lettAll (s.data.toList.drop (a + 1)) rwx 0 (s.data.toList.drop (a + 1)).length = true
            · have r2 := what_range _ g2
              have r3 := exp_fin ⟨(lettV [4, 2, 1] (s.data.toList.drop (a + 1)) rwx 0 0 (s.data.toList.drop (a + 1)).length).toNat, by omega⟩
              simp only [Int.toNat_of_nonneg r2.1.1] at r3
              rw [if_pos g2, if_pos ⟨g1, g2⟩, r2.2]
              refine Ev.congr (fun k => by rw [if_neg (by omega)]) ?_
              refine Ev.step (f := fun _ => some _) (fun k => ?_) (Ev.now _)
              simp only [spec_ChangeMode.j3]
              rw [if_neg (fun h => by have := of_decide_eq_true h; omega), if_pos (by omega), if_pos (by omega)]
              have s43 : bt s (a : Int) = 43 ↔ s.data.toList.getD a 0 = 43 := bt_sign s a (by omega) 43
              have s45 : bt s (a : Int) = 45 ↔ s.data.toList.getD a 0 = 45 := bt_sign s a (by omega) 45
              by_cases c1 : s.data.toList.getD a 0 = 43
              · rw [if_pos (s43.mpr c1), if_pos c1]
              · rw [if_neg (fun e => c1 (s43.mp e)), if_neg c1]
                by_cases c2 : s.data.toList.getD a 0 = 45
                · rw [if_pos (s45.mpr c2), if_pos c2]
                · rw [if_neg (fun e => c2 (s45.mp e)), if_neg c2]
            · rw [if_neg g2, if_neg (fun h => g2 h.2)]
              exact Ev.congr (fun k => by rw [if_neg (by omega)]) (stop1 _ _ _ (by decide))
          · rw [if_neg g1, if_neg (show ¬ (lettAll (s.data.toList.take a) ugoa 0 (s.data.toList.take a).length = true ∧ lettAll (s.data.toList.drop (a + 1)) rwx 0 (s.data.toList.drop (a + 1)).length = true) from fun h => g1 h.1)]
            exact Ev.congr (fun k => by rw [if_pos (by omega)]) (stop1 _ _ _ rfl)
    · rw [ha, if_neg (fun h => by omega)]
      by_cases h1 : s.size = 0
      · exact Ev.congr (fun k => by rw [if_pos (by omega)]) (stop _ rfl)
      · exact Ev.congr (fun k => by rw [if_neg (by omega)]) (stop _ (by simp))
  · rw [if_neg (fun h => hm (by unfold inB; simpa using h.1))]
    exact Ev.congr (fun k => by rw [if_neg hm]) (stop _ rfl)
theorem specChange_l0 (mode : Int) (s : ByteArray) (hs : s.size < 4294967281) (d : Nat) : ∀ i : Nat, i + d = s.size → (∀ j, j < i → ¬ [43, 45, 61].contains (s.data.toList.getD j 0) = true) →
    Ev (fun k => spec_ChangeMode.l0 k mode s (i : Int)) (changeB mode s.data.toList) := by
  have hl := data_length s
  induction d with
  | zero =>
    intro i hi hno
    refine Ev.step (f := fun k => spec_ChangeMode.j1 k mode s (i : Int)) (fun k => ?_) (specChange_j1 mode s hs i (.inr ⟨?_, by omega⟩))
    · simp only [spec_ChangeMode.l0]; rw [if_neg (by omega)]
    · rcases signAt_cases s.data.toList with h | ⟨a, ha, hlt⟩
      · exact h
      · exact absurd (sign_at _ a ha hlt) (hno a (by omega))
  | succ d ih =>
    intro i hi hno
    have hw := step_n (i := i) (n := s.size) (by omega) (by omega)
    have s43 : bt s (i : Int) = 43 ↔ s.data.toList.getD i 0 = 43 := bt_sign s i (by omega) 43
    have s45 : bt s (i : Int) = 45 ↔ s.data.toList.getD i 0 = 45 := bt_sign s i (by omega) 45
    have s61 : bt s (i : Int) = 61 ↔ s.data.toList.getD i 0 = 61 := bt_sign s i (by omega) 61
    by_cases hc : [43, 45, 61].contains (s.data.toList.getD i 0) = true
    · have hat : Lib.indexAny s.data.toList [43, 45, 61] = i := by
        rcases signAt_cases s.data.toList with h | ⟨a, ha, hlt⟩
        · exact absurd hc (no_sign _ h i)
        · have h1 : ¬ i < a := fun h => noAny_of _ a ha i h hc
          have h2 : ¬ a < i := fun h => hno a h (sign_at _ a ha hlt)
          rw [ha]; congr 1; omega
      refine Ev.step (f := fun k => spec_ChangeMode.j1 k mode s (i : Int)) (fun k => ?_) (specChange_j1 mode s hs i (.inl ⟨hat, by omega⟩))
      simp only [spec_ChangeMode.l0]
      rw [if_pos (by omega), if_pos (by omega)]
      by_cases c1 : s.data.toList.getD i 0 = 43
      · rw [if_pos (s43.mpr c1)]
      · rw [if_neg (fun e => c1 (s43.mp e))]
        by_cases c2 : s.data.toList.getD i 0 = 45
        · rw [if_pos (s45.mpr c2)]
        · rw [if_neg (fun e => c2 (s45.mp e))]
          by_cases c3 : s.data.toList.getD i 0 = 61
          · rw [if_pos (s61.mpr c3)]
          · exfalso
            simp only [List.contains_cons, List.contains_nil, Bool.or_false, Bool.or_eq_true, beq_iff_eq] at hc
            rcases hc with h | h | h
            · exact c1 h
            · exact c2 h
            · exact c3 h
    · refine Ev.step (fun k => ?_) (ih (i + 1) (by omega) (fun j hj => ?_))
      · have c1 : ¬ s.data.toList.getD i 0 = 43 := fun e => hc (by rw [e]; decide)
        have c2 : ¬ s.data.toList.getD i 0 = 45 := fun e => hc (by rw [e]; decide)
        have c3 : ¬ s.data.toList.getD i 0 = 61 := fun e => hc (by rw [e]; decide)
        simp only [spec_ChangeMode.l0]
        rw [if_pos (by omega), if_pos (by omega), if_neg (fun e => c1 (s43.mp e)), if_neg (fun e => c2 (s45.mp e)), if_neg (fun e => c3 (s61.mp e)), hw]
      · by_cases e : j = i
        · subst e; exact hc
        · exact hno j (by omega)
theorem specChange_ev (mode : Int) (s : ByteArray) (hs : s.size < 4294967281) : Ev (fun k => spec_ChangeMode.f k mode s) (changeB mode s.data.toList) :=
  specChange_l0 mode s hs s.size 0 (by omega) (fun j hj => absurd hj (Nat.not_lt_zero _))

end Go.Proofs.YtibfocaldcjiiaaGreatDoor.Q
