/- Texts of this claim, merged by a program (wip/tools/merge.py): Open. -/
import Derived.Test.YtfohpboikknknaaGreatDoorFV
import Derived.Deep.Slices
import Derived.ProofKit
namespace Go.Proofs.YtfohpboikknknaaGreatDoor.OpenArgs
open Go.RowKit Go.Deep Go.ChangeShapes Go.WideShapes Go.Proofs.YtfohpboikknknaaGreatDoorW.PrintWords
set_option linter.unusedVariables false
set_option linter.unusedSimpArgs false
structure Opens {α : Type} (P : Program) (T : TypeId) (d : Kd α) (G : α → Prop) : Prop where
  size : P.cellsOf T = d.sz
  read : ∀ {H : Type} {enc : TypeId × Value → H} {w : World} {base : Nat} {spare : Nat → Bool} {held : Bool} {fuel : Nat} {cs : List Value} {x : DataW H × List MemPlace},
    DataW.trod enc P w base spare held fuel T cs = some x → ∃ a : α, d.K w a cs ∧ G a
structure OpensL {α : Type} (P : Program) (fs : List Field) (off : Nat) (d : Kd α) (G : α → Prop) : Prop where
  read : ∀ {H : Type} {enc : TypeId × Value → H} {w : World} {base : Nat} {spare : Nat → Bool} {held : Bool} {fuel : Nat} {cs : List Value},
    cs.length = off + d.sz → (∀ (i : Nat) (f : Field), fs[i]? = some f → ∃ x, DataW.trod enc P w base spare held fuel f.type ((cs.drop f.offset).take (P.cellsOf f.type)) = some x) → ∃ a : α, d.K w a (cs.drop off) ∧ G a
section
variable {P : Program} {T : TypeId}
theorem opens_int {k : IntKind} (ht : P.underlying T = some (.int k)) (hs : P.cellsOf T = 1) : Opens P T (Kd.int k) (fun n => (Lit.int k n).wf = true) := by
  refine ⟨hs, fun {H enc w base spare held fuel cs x} h => ?_⟩
  obtain ⟨n, rfl, _, hn⟩ := DataW.trod_int ht h
  exact ⟨n, rfl, hn⟩
theorem opens_string (ht : P.underlying T = some .string) (hs : P.cellsOf T = 1) : Opens P T Kd.string (fun s => s.size ≤ maxLen) := by
  refine ⟨hs, fun {H enc w base spare held fuel cs x} h => ?_⟩
  obtain ⟨s, rfl, _, hn⟩ := DataW.trod_string ht h
  exact ⟨s, rfl, hn⟩
theorem opens_iso {α β : Type} {d : Kd α} {G : α → Prop} (h : Opens P T d G) (f : β → α) (g : α → β) (hfg : ∀ a, f (g a) = a) : Opens P T (Kd.iso d f) (fun b => G (f b)) := by
  refine ⟨h.size, fun {H enc w base spare held fuel cs x} hx => ?_⟩
  obtain ⟨a, hk, hg⟩ := h.read hx
  exact ⟨g a, show d.K _ (f (g a)) _ by rw [hfg]; exact hk, show G (f (g a)) by rw [hfg]; exact hg⟩
theorem opensL_one {α : Type} {d : Kd α} {G : α → Prop} {f : Field} {o : Nat} (h : Opens P f.type d G) (ho : f.offset = o) : OpensL P [f] o d G := by
  refine ⟨fun {H enc w base spare held fuel cs} hl hx => ?_⟩
  obtain ⟨x, hx⟩ := hx 0 f rfl
  rw [h.size, List.take_of_length_le (by rw [List.length_drop]; omega), ho] at hx
  exact h.read hx
theorem opensL_cons {α β : Type} {d : Kd α} {G : α → Prop} {e : Kd β} {F : β → Prop} {f : Field} {fs : List Field} {o o2 : Nat} (h : Opens P f.type d G) (ho : f.offset = o) (ho2 : o2 = o + d.sz) (r : OpensL P fs o2 e F) :
    OpensL P (f :: fs) o (Kd.pair d e) (fun x => G x.1 ∧ F x.2) := by
  refine ⟨fun {H enc w base spare held fuel cs} hl hx => ?_⟩
  have hl' : cs.length = o + (d.sz + e.sz) := hl
  obtain ⟨x, hx0⟩ := hx 0 f rfl
  rw [h.size, ho] at hx0
  obtain ⟨a, ha, hga⟩ := h.read hx0
  obtain ⟨b, hb, hgb⟩ := r.read (cs := cs) (by omega) (fun i f' hi => hx (i + 1) f' (by simpa using hi))
  refine ⟨(a, b), ⟨_, _, ?_, ha, hb⟩, hga, hgb⟩
  rw [ho2, ← List.drop_drop, List.take_append_drop]
theorem opens_struct {α : Type} {d : Kd α} {G : α → Prop} {fs : Array Field} (ht : P.underlying T = some (.struct fs)) (hs : P.cellsOf T = d.sz) (h : OpensL P fs.toList 0 d G) : Opens P T d G := by
  refine ⟨hs, fun {H enc w base spare held fuel cs x} hx => ?_⟩
  obtain ⟨xs, n, _, _, hl, hx2, hf⟩ := DataW.trod_struct ht hx
  have := h.read (cs := cs) (by rw [hl, hs]; omega) (fun i f hi => by
    have hi' : fs[i]? = some f := by simpa using hi
    have hlt : i < fs.size := by
      rcases Nat.lt_or_ge i fs.size with h1 | h1
      · exact h1
      · rw [Array.getElem?_eq_none (by omega)] at hi'; cases hi'
    exact ⟨xs[i]'(by omega), by rw [hf i f hi']; exact List.getElem?_eq_getElem (by omega)⟩)
  simpa using this
theorem opens_slice {α : Type} {d : Kd α} {G : α → Prop} {e : TypeId} (ht : P.underlying T = some (.slice e)) (hs : P.cellsOf T = 1) (h : Opens P e d G) : Opens P T (Kd.slice e d) (fun xs => xs.length ≤ maxLen ∧ ∀ x ∈ xs, G x) := by
  refine ⟨hs, fun {H enc w base spare held fuel cs x} hx => ?_⟩
  rcases open_slice ht hx with ⟨rfl, _⟩ | ⟨a, len, cap, m, n, D, Pl, rfl, hb, hl, hm, hmm, _, hel⟩
  · exact ⟨[], ⟨none, 0, rfl, Nat.le_refl _, rfl, by simp, fun h => by simp at h⟩, by simp⟩
  · have hlm : len ≤ m := by rw [hmm]; split <;> omega
    have hall : ∀ i : Nat, ∃ x : Option α, i < len → ∃ y cs', x = some y ∧ w.cells? base (a.add (i * P.cellsOf e)) (P.cellsOf e) = some cs' ∧ d.K w y cs' ∧ G y := by
      intro i
      by_cases hi : i < len
      · obtain ⟨cs', h1, h2⟩ := hel i (by omega)
        obtain ⟨y, h3, h4⟩ := h.read h2
        exact ⟨some y, fun _ => ⟨y, cs', rfl, h1, h3, h4⟩⟩
      · exact ⟨none, fun h => absurd h hi⟩
    obtain ⟨F, hF⟩ := Classical.axiomOfChoice hall
    have hsome : ∀ i (hi : i < len), (F i).isSome = true := fun i hi => by
      obtain ⟨y, cs', e1, _⟩ := hF i hi
      rw [e1]; rfl
    let xs : List α := List.ofFn (fun i : Fin len => (F i).get (hsome i i.2))
    have hxl : xs.length = len := List.length_ofFn
    have hget : ∀ i (hi : i < len) p, xs[i]? = some p → F i = some p := fun i hi p hp => by
      rw [List.getElem?_eq_getElem (by omega)] at hp
      have : xs[i]'(by omega) = (F i).get (hsome i hi) := by simp [xs]
      rw [this] at hp
      injection hp with hp
      rw [← hp]; exact (Option.some_get _).symm
    have hmax : (maxLen : Nat) = 9223372036854775807 := rfl
    refine ⟨xs, ⟨some a, cap, by rw [hxl], by omega, hxl ▸ rfl, by omega, fun _ => ⟨a, rfl, fun j p hp => ?_⟩⟩, by omega, fun y hy => ?_⟩
    · have hj : j < len := by
        rcases Nat.lt_or_ge j len with h1 | h1
        · exact h1
        · rw [List.getElem?_eq_none (by omega)] at hp; cases hp
      obtain ⟨y, cs', e1, e2, e3, _⟩ := hF j hj
      have e4 := hget j hj p hp
      rw [e1] at e4
      injection e4 with e4
      subst e4
      obtain ⟨_, hcl, hc⟩ := World.cells?_some e2
      rw [h.size] at hcl e2 hc
      refine ⟨cs', hcl, e3, fun i u hu => ?_⟩
      have hi : i < d.sz := by
        rcases Nat.lt_or_ge i d.sz with h1 | h1
        · exact h1
        · rw [List.getElem?_eq_none (by omega)] at hu; cases hu
      rw [← hu, ← hc i hi, Deep.add_add]
    · obtain ⟨i, hi, hiy⟩ := List.getElem_of_mem hy
      obtain ⟨y', cs', e1, _, _, e4⟩ := hF i (by omega)
      have e5 := hget i (by omega) y (by rw [List.getElem?_eq_getElem hi, hiy])
      rw [e1] at e5
      injection e5 with e5
      rw [← e5]; exact e4
theorem struct_arg {α : Type} {d : Kd α} {G : α → Prop} {fs : Array Field} {H : Type} {enc : TypeId × Value → H} {w : World} {base : Nat} {spare : Nat → Bool} {held : Bool} {b0 : Nat} {r : Reach} {v : Value} {D : DataW H} {p : List MemPlace}
    (ht : P.underlying T = some (.struct fs)) (h : Opens P T d G) (hv : Value.okWide P w r b0 T v) (hx : DataW.Trod enc P w base spare held T v D p) :
    ∃ (cs : Array Value) (a : α), v = .agg cs ∧ d.K w a cs.toList ∧ G a := by
  obtain ⟨cs, rfl, _⟩ := okWide_struct ht hv
  obtain ⟨n, hn⟩ := hx
  obtain ⟨a, h1, h2⟩ := h.read hn
  exact ⟨cs, a, rfl, h1, h2⟩
end
end Go.Proofs.YtfohpboikknknaaGreatDoor.OpenArgs
