/- the program's ForestOf answers as the reference's, at every file system, cred and path; what it gave is its own: it bears marks beside the marks of the argument. -/
import Derived.Test.YtfohpboikknknaaGreatDoorCards
import Derived.Test.YtfohpboikknknaaGreatDoorTie
import Derived.Test.YtfohpboikknknaaGreatDoorF18
import Derived.Test.YtfohpboikknknaaGreatDoorF19
import Derived.WalkKit
import Derived.ProofKit
import Derived.OpenShut
import Derived.ShutString
import Derived.Deep.DeepHandedRow
import Derived.SevenTiedAt
import Derived.Lay
namespace Go.Proofs.YtfohpboikknknaaGreatDoor.fnExactForestOf
open Go.ChangeShapes Go.WideShapes Go.ChangeAt Go.RowKit
open Go.ChangeMaps (open_string shut_string)
open Go.Proofs.YtfohpboikknknaaGreatDoor.OpenArgs Go.Proofs.YtfohpboikknknaaGreatDoor.Q Go.Proofs.YtfohpboikknknaaGreatDoorW.PrintWords
set_option linter.unusedVariables false
theorem own : ownKnob Tryz.prog.godebug = none := by kernel_rfl
theorem laidOut : laidOutB Tryz.prog = true := by kernel_rfl
theorem opCred : Opens Tryz.prog 26 (Kd.pair (Kd.int .i64) (Kd.int .i64)) (fun _ => True) := by
  have i : Opens Tryz.prog 3 (Kd.int .i64) _ := opens_int Tryz.underlying3 (by kernel_rfl)
  have h := opens_struct Tryz.underlying26 (by kernel_rfl) (opensL_cons i rfl rfl (opensL_one i rfl))
  exact ⟨h.size, fun hx => by obtain ⟨a, hk, hg⟩ := h.read hx; exact ⟨a, hk, trivial⟩⟩
theorem opEntry : Opens Tryz.prog 199 k199 (fun x => x.f0.size ≤ maxLen) := by
  have i : Opens Tryz.prog 3 (Kd.int .i64) _ := opens_int Tryz.underlying3 (by kernel_rfl)
  have s : Opens Tryz.prog 9 Kd.string _ := opens_string Tryz.underlying9 (by kernel_rfl)
  have h := opens_struct Tryz.underlying199 (by kernel_rfl) (opensL_cons s rfl rfl (opensL_one i rfl))
  have h2 := opens_iso h (fun x : S199 => (x.f0, x.f1)) (fun a => ⟨a.1, a.2⟩) (fun _ => rfl)
  exact ⟨h2.size, fun hx => by obtain ⟨a, hk, hg⟩ := h2.read hx; exact ⟨a, hk, hg.1⟩⟩
theorem opNode : Opens Tryz.prog 115 k115 LnBig := by
  have i : Opens Tryz.prog 3 (Kd.int .i64) _ := opens_int Tryz.underlying3 (by kernel_rfl)
  have s : Opens Tryz.prog 9 Kd.string _ := opens_string Tryz.underlying9 (by kernel_rfl)
  have l : Opens Tryz.prog 113 (Kd.slice 199 k199) _ := opens_slice Tryz.underlying113 (by kernel_rfl) opEntry
  have h := opens_struct Tryz.underlying115 (by kernel_rfl) (opensL_cons i rfl rfl (opensL_cons i rfl rfl (opensL_cons i rfl rfl (opensL_cons i rfl rfl (opensL_cons i rfl rfl (opensL_cons s rfl rfl (opensL_one l rfl)))))))
  have h2 := opens_iso h (fun x : S115 => (x.f0, x.f1, x.f2, x.f3, x.f4, x.f5, x.f6)) (fun a => ⟨a.1, a.2.1, a.2.2.1, a.2.2.2.1, a.2.2.2.2.1, a.2.2.2.2.2.1, a.2.2.2.2.2.2⟩) (fun _ => rfl)
  exact ⟨h2.size, fun hx => by obtain ⟨a, hk, hg⟩ := h2.read hx; exact ⟨a, hk, hg.2.2.2.2.2.1, hg.2.2.2.2.2.2.1, hg.2.2.2.2.2.2.2⟩⟩
theorem opFs : Opens Tryz.prog 24 (Kd.pair (Kd.slice 115 k115) (Kd.int .i64)) (fun x => x.1.length ≤ maxLen ∧ ∀ n ∈ x.1, LnBig n) := by
  have i : Opens Tryz.prog 3 (Kd.int .i64) _ := opens_int Tryz.underlying3 (by kernel_rfl)
  have l : Opens Tryz.prog 22 (Kd.slice 115 k115) _ := opens_slice Tryz.underlying22 (by kernel_rfl) opNode
  have h := opens_struct Tryz.underlying24 (by kernel_rfl) (opensL_cons l rfl rfl (opensL_one i rfl))
  exact ⟨h.size, fun hx => by obtain ⟨a, hk, hg⟩ := h.read hx; exact ⟨a, hk, hg.1⟩⟩
set_option maxRecDepth 100000 in
theorem contract (H : Type) (enc : TypeId × Value → H) (W : World) (base : Nat) (args : Array Value) (ds gs : List (DataW H)) (before : List MemPlace)
    (hval : ∀ (j : Nat) t v, Tryz.f3.params[j]? = some t → args[j]? = some v → Value.okWide Tryz.prog W .any base t v)
    (hW : DataW.Whole enc Tryz.prog Tryz.f3.params.toList Rows.fnExactForestOfSpec.vars false W args.toList ds gs before) :
    Calls Tryz.prog 3 args W fun e W' => ∃ v, e = .returned v ∧ Rows.fnExactForestOfSpec.post enc Tryz.prog Tryz.f3 false true false false W args v W' := by
  have hW' := hW
  obtain ⟨p, q, hA0, hV, rfl, hfz, hnd⟩ := hW
  have hA : DataW.TrodAll enc Tryz.prog W 0 (fun _ => true) true Tryz.f3.params.toList args.toList ds p := hA0
  rw [Tryz.params3] at hA hval
  obtain ⟨v0, vs0, d0, ds0, p0, q0, hargs, rfl, rfl, h0, r0⟩ := trodAll_cons hA
  obtain ⟨v1, vs1, d1, ds1, p1, q1, rfl, rfl, rfl, h1, r1⟩ := trodAll_cons r0
  obtain ⟨v2, vs2, d2, ds2, p2, q2, rfl, rfl, rfl, h2, r2⟩ := trodAll_cons r1
  obtain ⟨rfl, rfl, rfl⟩ := trodAll_nil r2
  obtain rfl : args = #[v0, v1, v2] := by cases args; simp_all
  obtain ⟨rfl, rfl⟩ := trodVars_none hV
  have lt0 : ∀ x ∈ p0, x.block < W.heap.size := by obtain ⟨m, hm⟩ := h0; exact DataW.trod_lt m _ _ _ hm
  have k0 := h0
  have lt1 : ∀ x ∈ p1, x.block < W.heap.size := by obtain ⟨m, hm⟩ := h1; exact DataW.trod_lt m _ _ _ hm
  have k1 := h1
  have lt2 : ∀ x ∈ p2, x.block < W.heap.size := by obtain ⟨m, hm⟩ := h2; exact DataW.trod_lt m _ _ _ hm
  have k2 := h2
  obtain ⟨cs0, ⟨l0, a0⟩, rfl, hK0, hg0⟩ := struct_arg Tryz.underlying24 opFs (hval 0 24 v0 rfl rfl) h0
  obtain ⟨_, _, e0, ⟨A0, c0, rfl, hc0, hr0⟩, rfl⟩ := hK0
  obtain ⟨cl0⟩ := cs0
  simp only at e0
  subst e0
  obtain ⟨cs1, ⟨u1, g1⟩, rfl, hK1, hg1⟩ := struct_arg Tryz.underlying26 opCred (hval 1 26 v1 rfl rfl) h1
  obtain ⟨_, _, e0, rfl, rfl⟩ := hK1
  obtain ⟨cl1⟩ := cs1
  simp only at e0
  subst e0
  obtain ⟨s2, rfl, rfl, rfl, hs2⟩ := open_string Tryz.underlying9 (hval 2 9 v2 rfl rfl) h2
  clear hA0
  refine (lawForest_walk A0 c0 l0 a0 u1 g1 s2 W hr0 hc0 hg0.1 hg0.2).mono fun e W' ⟨he, bel⟩ => ?_
  subst he
  exact ⟨_, rfl, _, _, _, [], _, [], hW', trodAll_mk1 (shut_bool Tryz.underlying4 _), (trodAll_cons_mk (Below.trod laidOut (by kernel_rfl) (of_decide_eq_true (by kernel_rfl)) k0 bel lt0) (trodAll_cons_mk (Below.trod laidOut (by kernel_rfl) (of_decide_eq_true (by kernel_rfl)) k1 bel lt1) (trodAll_cons_mk (Below.trod laidOut (by kernel_rfl) (of_decide_eq_true (by kernel_rfl)) k2 bel lt2) trodAll_mk0))), rfl, bel.frame _, fun h => by cases h⟩
noncomputable def laidWorld (os : Os) : World := World.laidAll Tryz.prog os Rows.fnExactForestOfRow.laid
theorem reads (os : Os) {H : Type} (enc : TypeId × Value → H) : ∃ places, DataW.whole enc Tryz.prog ((laidWorld os).forCall (fun _ _ => 0) ⟨#[], #[.agg #[.slice none 0 0, .int .i64 0], .agg #[.int .i64 0, .int .i64 0], .string ⟨#[]⟩], []⟩).memory Tryz.f3.params.toList Rows.fnExactForestOfSpec.vars false #[Value.agg #[.slice none 0 0, .int .i64 0], .agg #[.int .i64 0, .int .i64 0], .string ⟨#[]⟩].toList 8 = some ([.agg [.nil, .lit (.int .i64 0)], .agg [.lit (.int .i64 0), .lit (.int .i64 0)], .lit (.string [])], [], places) :=
  ⟨[], by kernel_rfl⟩
theorem laid_met (os : Os) : laidMet Tryz.prog Rows.fnExactForestOfRow.laid ((laidWorld os).forCall (fun _ _ => 0) ⟨#[], #[.agg #[.slice none 0 0, .int .i64 0], .agg #[.int .i64 0, .int .i64 0], .string ⟨#[]⟩], []⟩).memory :=
  laidMet_laidAll _ (by kernel_rfl) (by kernel_rfl)
set_option maxRecDepth 100000 in
theorem lifted (os : Os) (started : os.Started) (H : Type) (enc : TypeId × Value → H) (F : Stop.Interp) :
    ReturnsInHanded {} Tryz.checked os 3 .any ((OpenSpec.ofChange Rows.fnExactForestOfSpec).preRow enc Tryz.prog Tryz.f3 Rows.fnExactForestOfRow.domain false Rows.fnExactForestOfRow.laid) (((OpenSpec.ofChange Rows.fnExactForestOfSpec).at F).post enc Tryz.prog Tryz.f3 false true false false) := by
  obtain ⟨places, hx⟩ := reads os enc
  refine returnsInHanded_of_row (C := Tryz.checked) (s := OpenSpec.ofChange Rows.fnExactForestOfSpec) own started (by kernel_rfl) Tryz.func3
    (witness_row_at (enc := enc) (C := Tryz.checked) false (laidWorld os) #[.agg #[.slice none 0 0, .int .i64 0], .agg #[.int .i64 0, .int .i64 0], .string ⟨#[]⟩] (World.laidAll_os _ _ _) (by kernel_rfl) (by kernel_rfl) (by kernel_rfl)
      (OpenSpec.preRow_of_cond 8 hx (by kernel_rfl) (fun k hk => by cases hk) (by kernel_rfl) (laid_met os))) ?_
  intro W base args ds gs before hval hW _ _ _ hL hsh _
  exact contract H enc W base args ds gs before hval hW
theorem said : Rows.FnExactForestOfSaid :=
  OpenClaim.holds_of_cond 3 Tryz.f3 rfl rfl rfl rfl rfl rfl rfl ⟨rfl, rfl, rfl, rfl, rfl⟩ rfl rfl rfl rfl rfl (by kernel_rfl) Tryz.func3 (by kernel_rfl)
    (of_decide_eq_true (by kernel_rfl)) (by unfold Func.isWrapper; first | (rw [if_pos (by decide +kernel)]; kernel_rfl) | (rw [if_neg (by decide +kernel)]; exact ⟨rfl, rfl⟩))
    (fun os started H enc _ F => by rw [OpenClaim.pre_eq_preRow]; exact lifted os started H enc F)
theorem plain (f : FuncId) (fn : Func) (hf : Tryz.pinned.checked.prog.funcNamed "loop.example/g00756/laws.FnExactForestOf" = some f) (hfn : Tryz.pinned.checked.prog.funcs[f]? = some fn) :
    false = Tryz.pinned.checked.prog.looks [] ∧ ∀ (j : Nat) t, fn.params[j]? = some t → Tryz.pinned.checked.prog.wantsStandIn t = false := by
  obtain rfl : f = 3 := Option.some.inj ((show Tryz.prog.funcNamed "loop.example/g00756/laws.FnExactForestOf" = some 3 by kernel_rfl).symm.trans hf) |>.symm
  obtain rfl : fn = Tryz.f3 := (Option.some.inj (Tryz.func3.symm.trans hfn)).symm
  refine ⟨by kernel_rfl, fun j t ht => ?_⟩
  rw [Tryz.params3] at ht
  have hm : t = 24 ∨ t = 26 ∨ t = 9 := by simpa using Array.mem_of_getElem? ht
  rcases hm with rfl | rfl | rfl
  · exact (show Tryz.prog.wantsStandIn 24 = false by kernel_rfl)
  · exact (show Tryz.prog.wantsStandIn 26 = false by kernel_rfl)
  · exact (show Tryz.prog.wantsStandIn 9 = false by kernel_rfl)
theorem card : Rows.FnExactForestOfCardSaid :=
  Claim7.holds_tied_plain_at .later [] _ _ _ _ said (fun _ h => by cases h) (by kernel_rfl) (fun _ h => by cases h) fnExactForestOf_row_tie rfl ⟨rfl, rfl⟩ (by kernel_rfl) rfl plain (by kernel_rfl)
#print axioms card
end Go.Proofs.YtfohpboikknknaaGreatDoor.fnExactForestOf
namespace Go.Proofs.YtfohpboikknknaaGreatDoor
theorem fnExactForestOf_card : Rows.FnExactForestOfCardSaid := fnExactForestOf.card
end Go.Proofs.YtfohpboikknknaaGreatDoor
