/- Texts of this claim, merged by a program (wip/tools/merge.py): HLess, HIt, HMapInt, HItemBase. -/
import Derived.Test.YthalkpflbbpniaaDoorI1
import Derived.Test.YthalkpflbbpniaaDoorI8
import Derived.Maps.OwnSet
import Derived.Maps.RangeWalk
import Derived.Maps.Views
import Derived.Test.YthalkpflbbpniaaDoorI7
/- The order of texts; plain. -/
namespace Go.Proofs.YthalkpflbbpniaaDoor.Q
open Go.RowKit Go.Proofs.YthalkpflbbpniaaDoorW.PrintWords Go.Proofs.YthalkpflbbpniaaDoorW.PrintLast Go.Proofs.YthalkpflbbpniaaDoorW.PrintMore
attribute [local go_sem] max2_int min2_int max_two min_two max_three min_three max_four min_four   -- for this text's walks alone
set_option linter.unusedVariables false
set_option linter.unusedSimpArgs false

theorem less_irrefl : ∀ a : List UInt8, Op.bytesLess a a = false
  | [] => rfl
  | x :: a => by simp [Op.bytesLess, less_irrefl a]
theorem less_trans : ∀ a b c : List UInt8, Op.bytesLess a b = true → Op.bytesLess b c = true → Op.bytesLess a c = true
  | [], _, [], _, h => by cases ‹List UInt8› <;> simp [Op.bytesLess] at h
  | [], _, _ :: _, _, _ => by simp [Op.bytesLess]
  | _ :: _, [], _, h, _ => by simp [Op.bytesLess] at h
  | _ :: _, _ :: _, [], _, h => by simp [Op.bytesLess] at h
  | x :: a, y :: b, z :: c, h1, h2 => by
    simp only [Op.bytesLess, UInt8.lt_iff_toNat_lt, Bool.or_eq_true, decide_eq_true_eq, Bool.and_eq_true, beq_iff_eq] at h1 h2 ⊢
    rcases h1 with h1 | ⟨rfl, h1⟩
    · rcases h2 with h2 | ⟨rfl, h2⟩
      · exact Or.inl (by omega)
      · exact Or.inl h1
    · rcases h2 with h2 | ⟨rfl, h2⟩
      · exact Or.inl h2
      · exact Or.inr ⟨rfl, less_trans a b c h1 h2⟩
end Go.Proofs.YthalkpflbbpniaaDoor.Q

/- An item of the print. -/
namespace Go.Proofs.YthalkpflbbpniaaDoor.Q
open Go.RowKit Go.Proofs.YthalkpflbbpniaaDoorW.PrintWords Go.Proofs.YthalkpflbbpniaaDoorW.PrintLast Go.Proofs.YthalkpflbbpniaaDoorW.PrintMore
attribute [local go_sem] max2_int min2_int max_two min_two max_three min_three max_four min_four   -- for this text's walks alone
set_option linter.unusedVariables false
set_option linter.unusedSimpArgs false

abbrev It := S52
theorem rdI (l : List It) (i : Nat) (h : i < l.length) : rd_T52 l (i : Int) = l[i] := by
  unfold rd_T52; simp [List.getD, h]

end Go.Proofs.YthalkpflbbpniaaDoor.Q

/- The call's own map from numbers to numbers. -/
namespace Go.Proofs.YthalkpflbbpniaaDoor.Q
open Go.RowKit Go.Proofs.YthalkpflbbpniaaDoorW.PrintWords Go.Proofs.YthalkpflbbpniaaDoorW.PrintLast Go.Proofs.YthalkpflbbpniaaDoorW.PrintMore
attribute [local go_sem] max2_int min2_int max_two min_two max_three min_three max_four min_four   -- for this text's walks alone
set_option linter.unusedVariables false
set_option linter.unusedSimpArgs false

open Go.Maps Go.WideMaps
theorem keyLawN : Keyed Tryd.prog 3 := int_keyed Tryd.underlying3
theorem wf_small {a : Int} (h0 : 0 ≤ a) (h1 : a ≤ 4611686018427387904) : (Lit.int .i64 a).wf = true := by
  have e1 : IntKind.i64.min = -9223372036854775808 := by decide
  have e2 : IntKind.i64.max = 9223372036854775807 := by decide
  simp [Lit.wf, e1, e2]; omega
theorem key_ofN {a : Int} (h0 : 0 ≤ a) (h1 : a ≤ 4611686018427387904) : keyOf Tryd.prog 3 (.int .i64 a) = some (.int .i64 a) := keyOf_int_mk Tryd.underlying3 (wf_small h0 h1)
theorem zeroN (w : World) : (zeroValue 3).run Tryd.prog w = .ok (.int .i64 0) w := by kernel_rfl
def MapN (w : World) (b n : Nat) (g : Int → Option Int) : Prop :=
  ∃ D : DataW Unit, w.ownsMap Tryd.prog 3 (plainElem Tryd.prog 3) b n D ∧ (∀ s, has D (.int .i64 s) = (g s).isSome) ∧ ∀ s x, g s = some x → ∀ z, D.atKey (.int .i64 s) z = .lit (.int .i64 x)
theorem MapN.below {w w' : World} {b n : Nat} {g : Int → Option Int} (h : MapN w b n g) (hb : Below w.heap.size w w') : MapN w' b n g := by
  obtain ⟨D, ho, h1, h2⟩ := h
  have hlt := ho.lt
  refine ⟨D, ?_, h1, h2⟩
  unfold World.ownsMap at ho ⊢
  rw [hb.block b hlt]
  exact ho
theorem MapN.kept {w w' : World} {b n : Nat} {g : Int → Option Int} (h : MapN w b n g) (hb : w'.heap[b]? = w.heap[b]?) : MapN w' b n g := by
  obtain ⟨D, ho, h1, h2⟩ := h
  refine ⟨D, ?_, h1, h2⟩
  unfold World.ownsMap at ho ⊢
  rw [hb]
  exact ho
theorem MapN.lt {w : World} {b n : Nat} {g : Int → Option Int} (h : MapN w b n g) : b < w.heap.size := by
  obtain ⟨D, ho, _⟩ := h; exact ho.lt
theorem MapN.empty (w : World) : MapN (w.alloc (.map #[] 0)) w.heap.size 0 (fun _ => none) :=
  ⟨.map [], World.ownsMap_made _ _ _ _, fun _ => rfl, fun _ _ h => by cases h⟩
/-- The store. -/
theorem MapN.put {w : World} {b n : Nat} {g : Int → Option Int} (h : MapN w b n g) (hn : n < maxLen) (k : Int) (h0 : 0 ≤ k) (h1 : k ≤ 4611686018427387904) (x : Int) (x0 : 0 ≤ x) (x1 : x ≤ 4611686018427387904) :
    ∃ w', (Instr.mapUpdate 42 (.map (some b)) (.int .i64 k) (.int .i64 x)).run Tryd.prog w = .ok () w' ∧ MapN w' b (n + 1) (fun s => if k = s then some x else g s) ∧ w.grownBy w' (some b) := by
  obtain ⟨D, ho, h1, h2⟩ := h
  obtain ⟨w', hrun, ho', hg⟩ := ho.update keyLawN Tryd.underlying42 hn (key_ofN h0 (by omega)) (plainElem_int Tryd.underlying3 (wf_small x0 x1))
  have hm : IsMap D := World.ownsMap.isMap ho
  refine ⟨w', hrun, ⟨_, ho', fun s => ?_, fun s y hy z => ?_⟩, hg⟩
  · simp only
    by_cases hs : k = s
    · rw [if_pos hs]
      subst hs
      exact has_put_same hm (show WideAt.IsKeyLit (.int .i64 k) from trivial) _
    · rw [if_neg hs, has_put_other (by intro e; injection e with _ e; exact hs e.symm)]; exact h1 s
  · simp only at hy
    by_cases hs : k = s
    · rw [if_pos hs] at hy
      have hy := Option.some.inj hy
      subst hy
      subst hs
      exact atKey_put_same hm (show WideAt.IsKeyLit (.int .i64 k) from trivial) _ _
    · rw [if_neg hs] at hy
      rw [atKey_put_other (by intro e; injection e with _ e; exact hs e.symm)]
      exact h2 s y hy z
set_option maxRecDepth 100000 in
/-- The look-up with 'ok'. -/
theorem MapN.look_ok {w : World} {b n : Nat} {g : Int → Option Int} (h : MapN w b n g) (k : Int) (h0 : 0 ≤ k) (h1 : k ≤ 4611686018427387904) :
    (Instr.lookup 42 (.map (some b)) (.int .i64 k) true).run Tryd.prog w = .ok (.tuple #[.int .i64 ((g k).getD 0), .bool (g k).isSome]) w := by
  obtain ⟨D, ho, h2, h3⟩ := h
  obtain ⟨v, ps, hrun, hv⟩ := ho.look_ok keyLawN Tryd.underlying42 (zeroN w) (plainElem_int Tryd.underlying3 (by decide)) (key_ofN h0 h1)
  obtain ⟨x, rfl, hx, _⟩ := plainElem_int_inv Tryd.underlying3 hv
  rw [hrun, h2]
  have hat := (Prod.mk.inj hx).1
  cases hg : g k with
  | none =>
    have hno : has D (.int .i64 k) = false := by rw [h2, hg]; rfl
    rw [atKey_of_not_has hno] at hat
    injection hat with hat; injection hat with _ hat; rw [← hat]; rfl
  | some y =>
    rw [h3 _ y hg] at hat
    injection hat with hat; injection hat with _ hat; rw [← hat]; rfl

end Go.Proofs.YthalkpflbbpniaaDoor.Q

/- Items are equal to themselves. -/
namespace Go.Proofs.YthalkpflbbpniaaDoor.Q
open Go.RowKit Go.Proofs.YthalkpflbbpniaaDoorW.PrintWords Go.Proofs.YthalkpflbbpniaaDoorW.PrintLast Go.Proofs.YthalkpflbbpniaaDoorW.PrintMore
attribute [local go_sem] max2_int min2_int max_two min_two max_three min_three max_four min_four   -- for this text's walks alone
set_option linter.unusedVariables false
set_option linter.unusedSimpArgs false

theorem step_i {i n : Nat} (h : i < n) (hn : n ≤ 1759218604391) : wrap64 ((i : Int) + 1) = ((i + 1 : Nat) : Int) := by
  unfold wrap64; omega
end Go.Proofs.YthalkpflbbpniaaDoor.Q
