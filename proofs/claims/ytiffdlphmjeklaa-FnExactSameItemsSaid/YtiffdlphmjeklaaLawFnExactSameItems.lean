/- FnExactSameItems: the program's SameItems answers as the reference's, at every two lists of items; both lists read as they did. No condition. -/
import Derived.Test.YtiffdlphmjeklaaRows
import Derived.Test.YtiffdlphmjeklaaPFnExactSameItemsx3
import Derived.Test.YtiffdlphmjeklaaPureSameItems
import Derived.Test.YtiffdlphmjeklaaOpen
import Derived.WalkKit
import Derived.ProofKit
import Derived.OpenShut
import Derived.ShutString
import Derived.ChangeOld
import Derived.Below
import Derived.SizedLaws
namespace Go.Proofs.Ytiffdlphmjeklaa.fnExactSameItems
open Go.ChangeShapes Go.WideShapes Go.ChangeAt Go.RowKit
open Go.ChangeMaps (open_string shut_string)
open Go.Proofs.Ytiffdlphmjeklaa.OpenArgs Go.Proofs.Ytiffdlphmjeklaa.PFnExactSameItems Go.Proofs.YtiffdlphmjeklaaW.PrintWords
set_option linter.unusedVariables false
theorem own : ownKnob Try.prog.godebug = none := by kernel_rfl
theorem laidOut : laidOutB Try.prog = true := by kernel_rfl
theorem opItem : Opens Try.prog 30 k30 (fun x => x.f0.size ≤ maxLen ∧ x.f7.size ≤ maxLen) := by
  have i : Opens Try.prog 3 (Kd.int .i64) _ := opens_int Try.underlying3 (by kernel_rfl)
  have s : Opens Try.prog 9 Kd.string _ := opens_string Try.underlying9 (by kernel_rfl)
  have h := opens_struct Try.underlying30 (by kernel_rfl) (opensL_cons s rfl rfl (opensL_cons i rfl rfl (opensL_cons i rfl rfl (opensL_cons i rfl rfl (opensL_cons i rfl rfl (opensL_cons i rfl rfl (opensL_cons i rfl rfl (opensL_one s rfl))))))))
  have h2 := opens_iso h (fun x : S30 => (x.f0, x.f1, x.f2, x.f3, x.f4, x.f5, x.f6, x.f7)) (fun a => ⟨a.1, a.2.1, a.2.2.1, a.2.2.2.1, a.2.2.2.2.1, a.2.2.2.2.2.1, a.2.2.2.2.2.2.1, a.2.2.2.2.2.2.2⟩) (fun _ => rfl)
  exact ⟨h2.size, fun hx => by obtain ⟨a, hk, hg⟩ := h2.read hx; exact ⟨a, hk, hg.1, hg.2.2.2.2.2.2.2⟩⟩
set_option maxRecDepth 100000 in
theorem lifted (os : Os) (started : os.Started) (H : Type) (enc : TypeId × Value → H) :
    ReturnsInHanded {} Try.checked os 3 .any (Rows.fnExactSameItemsSpec.pre6 enc Try.prog Try.f3 Rows.fnExactSameItemsRow.domain false) (Rows.fnExactSameItemsSpec.post enc Try.prog Try.f3 false true false false) := by
  refine returnsInHanded_of_change_sized (C := Try.checked) own started (by kernel_rfl) Try.func3
    (ChangeSpec.witness6 (enc := enc) (C := Try.checked) false ⟨#[], #[.slice none 0 0, .slice none 0 0], []⟩ 8 (by kernel_rfl) (by kernel_rfl) (by kernel_rfl) (by kernel_rfl)) ?_
  intro W base args ds gs before hval0 hW hcnd hsz0 _
  have hval : ∀ (j : Nat) t v, Try.f3.params[j]? = some t → args[j]? = some v → Value.okWide Try.prog W .any base t v := hval0
  have hW' := hW
  obtain ⟨p, q, hA0, hV, rfl, hfz, hnd⟩ := hW
  have hA : DataW.TrodAll enc Try.prog W 0 (fun _ => true) true Try.f3.params.toList args.toList ds p := hA0
  rw [Try.params3] at hA hval
  obtain ⟨v0, vs0, d0, ds0, p0, q0, hargs, rfl, rfl, h0, r0⟩ := trodAll_cons hA
  obtain ⟨v1, vs1, d1, ds1, p1, q1, rfl, rfl, rfl, h1, r1⟩ := trodAll_cons r0
  obtain ⟨rfl, rfl, rfl⟩ := trodAll_nil r1
  obtain rfl : args = #[v0, v1] := by cases args; simp_all
  obtain ⟨rfl, rfl⟩ := trodVars_none hV
  have lt0 : ∀ x ∈ p0, x.block < W.heap.size := by obtain ⟨m, hm⟩ := h0; exact DataW.trod_lt m _ _ _ hm
  have lt1 : ∀ x ∈ p1, x.block < W.heap.size := by obtain ⟨m, hm⟩ := h1; exact DataW.trod_lt m _ _ _ hm
  have k0 := h0
  have k1 := h1
  obtain ⟨A0, c0, l0, rfl, hc0, hr0, hl0, hg0⟩ := slice_arg Try.underlying22 (by kernel_rfl) opItem (hval 0 22 v0 rfl rfl) h0
  obtain ⟨A1, c1, l1, rfl, hc1, hr1, hl1, hg1⟩ := slice_arg Try.underlying22 (by kernel_rfl) opItem (hval 1 22 v1 rfl rfl) h1
  clear hA0 hval0 hsz0
  obtain ⟨k, hk⟩ := pureSameItems l0 l1 hl0 hl1 hg0 hg1
  refine (laws_FnExactSameItems.calls k A0 c0 l0 A1 c1 l1 true W hr0 hc0 hr1 hc1 hk).mono fun e W' ⟨he, bel⟩ => ?_
  subst he
  exact ⟨_, rfl, _, _, _, [], _, [], hW', trodAll_mk1 (shut_bool Try.underlying4 _), (trodAll_cons_mk (Below.trod laidOut (by kernel_rfl) (of_decide_eq_true (by kernel_rfl)) k0 bel lt0) (trodAll_cons_mk (Below.trod laidOut (by kernel_rfl) (of_decide_eq_true (by kernel_rfl)) k1 bel lt1) trodAll_mk0)), rfl, bel.frame _, fun h => by cases h⟩
theorem over : Rows.fnExactSameItemsRow.holds Try.pinned (OpenSpec.ofChange Rows.fnExactSameItemsSpec) :=
  OpenClaim.holds_of_wide 3 Try.f3 rfl rfl rfl rfl rfl rfl rfl ⟨rfl, rfl, rfl, rfl, rfl⟩ rfl rfl rfl rfl rfl (by kernel_rfl) Try.func3 (by kernel_rfl)
    (of_decide_eq_true (by kernel_rfl)) (by unfold Func.isWrapper; first | (rw [if_pos (by decide +kernel)]; kernel_rfl) | (rw [if_neg (by decide +kernel)]; exact ⟨rfl, rfl⟩))
    (fun os started H enc _ => lifted os started H enc)
theorem proved : Rows.FnExactSameItemsSaid := over
#print axioms proved
end Go.Proofs.Ytiffdlphmjeklaa.fnExactSameItems
namespace Go.Proofs.Ytiffdlphmjeklaa
/-- The row, under a short name, for the claim. -/
theorem fnExactSameItems_holds : Rows.FnExactSameItemsSaid := fnExactSameItems.proved
end Go.Proofs.Ytiffdlphmjeklaa
