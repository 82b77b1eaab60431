/- FnExactItemsOf: the program's ItemsOf answers as the reference's, at every file system and node; what it gave is its own: it bears marks beside the marks of the argument. -/
import Derived.Test.YthalkpflbbpniaaDoorCards
import Derived.Test.YthalkpflbbpniaaDoorTie
import Derived.Test.YthalkpflbbpniaaDoorI18
import Derived.Test.YthalkpflbbpniaaDoorI19
import Derived.WalkKit
import Derived.ProofKit
import Derived.OpenShut
import Derived.ShutString
import Derived.Deep.DeepHandedRow
import Derived.SevenTiedAt
import Derived.Lay
namespace Go.Proofs.YthalkpflbbpniaaDoor.fnExactItemsOf
open Go.ChangeShapes Go.WideShapes Go.ChangeAt Go.RowKit
open Go.ChangeMaps (open_string shut_string)
open Go.Proofs.YthalkpflbbpniaaDoor.OpenArgs Go.Proofs.YthalkpflbbpniaaDoor.Q Go.Proofs.YthalkpflbbpniaaDoorW.PrintWords
set_option linter.unusedVariables false
theorem own : ownKnob Tryd.prog.godebug = none := by kernel_rfl
theorem laidOut : laidOutB Tryd.prog = true := by kernel_rfl
theorem opEntry : Opens Tryd.prog 91 k91 (fun x => x.f0.size ≤ maxLen) := by
  have i : Opens Tryd.prog 3 (Kd.int .i64) _ := opens_int Tryd.underlying3 (by kernel_rfl)
  have s : Opens Tryd.prog 9 Kd.string _ := opens_string Tryd.underlying9 (by kernel_rfl)
  have h := opens_struct Tryd.underlying91 (by kernel_rfl) (opensL_cons s rfl rfl (opensL_one i rfl))
  have h2 := opens_iso h (fun x : S91 => (x.f0, x.f1)) (fun a => ⟨a.1, a.2⟩) (fun _ => rfl)
  exact ⟨h2.size, fun hx => by obtain ⟨a, hk, hg⟩ := h2.read hx; exact ⟨a, hk, hg.1⟩⟩
theorem opNode : Opens Tryd.prog 60 k60 LnBig := by
  have i : Opens Tryd.prog 3 (Kd.int .i64) _ := opens_int Tryd.underlying3 (by kernel_rfl)
  have s : Opens Tryd.prog 9 Kd.string _ := opens_string Tryd.underlying9 (by kernel_rfl)
  have l : Opens Tryd.prog 58 (Kd.slice 91 k91) _ := opens_slice Tryd.underlying58 (by kernel_rfl) opEntry
  have h := opens_struct Tryd.underlying60 (by kernel_rfl) (opensL_cons i rfl rfl (opensL_cons i rfl rfl (opensL_cons i rfl rfl (opensL_cons i rfl rfl (opensL_cons i rfl rfl (opensL_cons s rfl rfl (opensL_one l rfl)))))))
  have h2 := opens_iso h (fun x : S60 => (x.f0, x.f1, x.f2, x.f3, x.f4, x.f5, x.f6)) (fun a => ⟨a.1, a.2.1, a.2.2.1, a.2.2.2.1, a.2.2.2.2.1, a.2.2.2.2.2.1, a.2.2.2.2.2.2⟩) (fun _ => rfl)
  exact ⟨h2.size, fun hx => by obtain ⟨a, hk, hg⟩ := h2.read hx; exact ⟨a, hk, hg.2.2.2.2.2.1, hg.2.2.2.2.2.2.1, hg.2.2.2.2.2.2.2⟩⟩
theorem opFs : Opens Tryd.prog 24 (Kd.pair (Kd.slice 60 k60) (Kd.int .i64)) (fun x => x.1.length ≤ maxLen ∧ ∀ n ∈ x.1, LnBig n) := by
  have i : Opens Tryd.prog 3 (Kd.int .i64) _ := opens_int Tryd.underlying3 (by kernel_rfl)
  have l : Opens Tryd.prog 22 (Kd.slice 60 k60) _ := opens_slice Tryd.underlying22 (by kernel_rfl) opNode
  have h := opens_struct Tryd.underlying24 (by kernel_rfl) (opensL_cons l rfl rfl (opensL_one i rfl))
  exact ⟨h.size, fun hx => by obtain ⟨a, hk, hg⟩ := h.read hx; exact ⟨a, hk, hg.1⟩⟩
set_option maxRecDepth 100000 in
theorem contract (H : Type) (enc : TypeId × Value → H) (W : World) (base : Nat) (args : Array Value) (ds gs : List (DataW H)) (before : List MemPlace)
    (hval : ∀ (j : Nat) t v, Tryd.f3.params[j]? = some t → args[j]? = some v → Value.okWide Tryd.prog W .any base t v)
    (hW : DataW.Whole enc Tryd.prog Tryd.f3.params.toList Rows.fnExactItemsOfSpec.vars false W args.toList ds gs before) :
    Calls Tryd.prog 3 args W fun e W' => ∃ v, e = .returned v ∧ Rows.fnExactItemsOfSpec.post enc Tryd.prog Tryd.f3 false true false false W args v W' := by
  have hW' := hW
  obtain ⟨p, q, hA0, hV, rfl, hfz, hnd⟩ := hW
  have hA : DataW.TrodAll enc Tryd.prog W 0 (fun _ => true) true Tryd.f3.params.toList args.toList ds p := hA0
  rw [Tryd.params3] at hA hval
  obtain ⟨v0, vs0, d0, ds0, p0, q0, hargs, rfl, rfl, h0, r0⟩ := trodAll_cons hA
  obtain ⟨v1, vs1, d1, ds1, p1, q1, rfl, rfl, rfl, h1, r1⟩ := trodAll_cons r0
  obtain ⟨rfl, rfl, rfl⟩ := trodAll_nil r1
  obtain rfl : args = #[v0, v1] := by cases args; simp_all
  obtain ⟨rfl, rfl⟩ := trodVars_none hV
  have lt0 : ∀ x ∈ p0, x.block < W.heap.size := by obtain ⟨m, hm⟩ := h0; exact DataW.trod_lt m _ _ _ hm
  have k0 := h0
  have lt1 : ∀ x ∈ p1, x.block < W.heap.size := by obtain ⟨m, hm⟩ := h1; exact DataW.trod_lt m _ _ _ hm
  have k1 := h1
  obtain ⟨cs0, ⟨l0, a0⟩, rfl, hK0, hg0⟩ := struct_arg Tryd.underlying24 opFs (hval 0 24 v0 rfl rfl) h0
  obtain ⟨_, _, e0, ⟨A0, c0, rfl, hc0, hr0⟩, rfl⟩ := hK0
  obtain ⟨cl0⟩ := cs0
  simp only at e0
  subst e0
  obtain ⟨i1, rfl, rfl, rfl, wi1⟩ := open_int Tryd.underlying3 (hval 1 3 v1 rfl rfl) h1
  clear hA0
  refine (lawItems_walk A0 c0 l0 a0 i1 W hr0 hc0 hg0.1 hg0.2).mono fun e W' ⟨he, bel⟩ => ?_
  subst he
  exact ⟨_, rfl, _, _, _, [], _, [], hW', trodAll_mk1 (shut_bool Tryd.underlying4 _), (trodAll_cons_mk (Below.trod laidOut (by kernel_rfl) (of_decide_eq_true (by kernel_rfl)) k0 bel lt0) (trodAll_cons_mk (Below.trod laidOut (by kernel_rfl) (of_decide_eq_true (by kernel_rfl)) k1 bel lt1) trodAll_mk0)), rfl, bel.frame _, fun h => by cases h⟩
noncomputable def laidWorld (os : Os) : World := World.laidAll Tryd.prog os Rows.fnExactItemsOfRow.laid
theorem reads (os : Os) {H : Type} (enc : TypeId × Value → H) : ∃ places, DataW.whole enc Tryd.prog ((laidWorld os).forCall (fun _ _ => 0) ⟨#[], #[.agg #[.slice none 0 0, .int .i64 0], .int .i64 0], []⟩).memory Tryd.f3.params.toList Rows.fnExactItemsOfSpec.vars false #[Value.agg #[.slice none 0 0, .int .i64 0], .int .i64 0].toList 8 = some ([.agg [.nil, .lit (.int .i64 0)], .lit (.int .i64 0)], [], places) :=
  ⟨[], by kernel_rfl⟩
theorem laid_met (os : Os) : laidMet Tryd.prog Rows.fnExactItemsOfRow.laid ((laidWorld os).forCall (fun _ _ => 0) ⟨#[], #[.agg #[.slice none 0 0, .int .i64 0], .int .i64 0], []⟩).memory :=
  laidMet_laidAll _ (by kernel_rfl) (by kernel_rfl)
set_option maxRecDepth 100000 in
theorem lifted (os : Os) (started : os.Started) (H : Type) (enc : TypeId × Value → H) (F : Stop.Interp) :
    ReturnsInHanded {} Tryd.checked os 3 .any ((OpenSpec.ofChange Rows.fnExactItemsOfSpec).preRow enc Tryd.prog Tryd.f3 Rows.fnExactItemsOfRow.domain false Rows.fnExactItemsOfRow.laid) (((OpenSpec.ofChange Rows.fnExactItemsOfSpec).at F).post enc Tryd.prog Tryd.f3 false true false false) := by
  obtain ⟨places, hx⟩ := reads os enc
  refine returnsInHanded_of_row (C := Tryd.checked) (s := OpenSpec.ofChange Rows.fnExactItemsOfSpec) own started (by kernel_rfl) Tryd.func3
    (witness_row_at (enc := enc) (C := Tryd.checked) false (laidWorld os) #[.agg #[.slice none 0 0, .int .i64 0], .int .i64 0] (World.laidAll_os _ _ _) (by kernel_rfl) (by kernel_rfl) (by kernel_rfl)
      (OpenSpec.preRow_of_cond 8 hx (by kernel_rfl) (fun k hk => by cases hk) (by kernel_rfl) (laid_met os))) ?_
  intro W base args ds gs before hval hW _ _ _ hL hsh _
  exact contract H enc W base args ds gs before hval hW
theorem said : Rows.FnExactItemsOfSaid :=
  OpenClaim.holds_of_cond 3 Tryd.f3 rfl rfl rfl rfl rfl rfl rfl ⟨rfl, rfl, rfl, rfl, rfl⟩ rfl rfl rfl rfl rfl (by kernel_rfl) Tryd.func3 (by kernel_rfl)
    (of_decide_eq_true (by kernel_rfl)) (by unfold Func.isWrapper; first | (rw [if_pos (by decide +kernel)]; kernel_rfl) | (rw [if_neg (by decide +kernel)]; exact ⟨rfl, rfl⟩))
    (fun os started H enc _ F => by rw [OpenClaim.pre_eq_preRow]; exact lifted os started H enc F)
/-- The program's own looks are on; no parameter wants a stand-in. -/
theorem plain (f : FuncId) (fn : Func) (hf : Tryd.pinned.checked.prog.funcNamed "loop.example/g00756/laws.FnExactItemsOf" = some f) (hfn : Tryd.pinned.checked.prog.funcs[f]? = some fn) :
    false = Tryd.pinned.checked.prog.looks [] ∧ ∀ (j : Nat) t, fn.params[j]? = some t → Tryd.pinned.checked.prog.wantsStandIn t = false := by
  obtain rfl : f = 3 := Option.some.inj ((show Tryd.prog.funcNamed "loop.example/g00756/laws.FnExactItemsOf" = some 3 by kernel_rfl).symm.trans hf) |>.symm
  obtain rfl : fn = Tryd.f3 := (Option.some.inj (Tryd.func3.symm.trans hfn)).symm
  refine ⟨by kernel_rfl, fun j t ht => ?_⟩
  rw [Tryd.params3] at ht
  have hm : t = 24 ∨ t = 3 := by simpa using Array.mem_of_getElem? ht
  rcases hm with rfl | rfl
  · exact (show Tryd.prog.wantsStandIn 24 = false by kernel_rfl)
  · exact (show Tryd.prog.wantsStandIn 3 = false by kernel_rfl)
theorem card : Rows.FnExactItemsOfCardSaid :=
  Claim7.holds_tied_plain_at .later [] _ _ _ _ said (fun _ h => by cases h) (by kernel_rfl) (fun _ h => by cases h) fnExactItemsOf_row_tie rfl ⟨rfl, rfl⟩ (by kernel_rfl) rfl plain (by kernel_rfl)
#print axioms card
end Go.Proofs.YthalkpflbbpniaaDoor.fnExactItemsOf
namespace Go.Proofs.YthalkpflbbpniaaDoor
/-- The card, under a short name, for the claim. -/
theorem fnExactItemsOf_card : Rows.FnExactItemsOfCardSaid := fnExactItemsOf.card
end Go.Proofs.YthalkpflbbpniaaDoor
