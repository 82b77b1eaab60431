/- Texts of this claim, merged by a program (wip/tools/merge.py): HOwnerB. -/
import Derived.Test.YtibfocaldcjiiaaGreatDoorJ2
import Derived.Test.YtibfocaldcjiiaaGreatDoorJ5
import Derived.Test.YtibfocaldcjiiaaGreatDoorJ27
import Derived.Test.YtibfocaldcjiiaaGreatDoorJ26
import Derived.OwnWalk
/- impl.ReadOwner: the walk, in a world whose error variables hold errors. -/
namespace Go.Proofs.YtibfocaldcjiiaaGreatDoor.Q
open Go.RowKit Go.Proofs.YtibfocaldcjiiaaGreatDoorW.PrintWords Go.Proofs.YtibfocaldcjiiaaGreatDoorW.PrintLast Go.Proofs.YtibfocaldcjiiaaGreatDoorW.PrintMore
attribute [local go_sem] max2_int min2_int max_two min_two max_three min_three max_four min_four   -- for this text's walks alone
set_option linter.unusedVariables false
set_option linter.unusedSimpArgs false

def atoiV (s : ByteArray) : Int := match Lib.atoiAll s.data.toList with
  | .ok v => v
  | .range => Lib.atoiSat s.data.toList
  | _ => 0
theorem atoi_walk (s : ByteArray) (hs : s.size < 4294967281) (W : World) (h : Env W) :
    Calls Tryz.prog 116 #[.string s] W fun e w' => ∃ ev, e = .returned (.tuple #[.int .i64 (atoiV s), ev]) ∧ Below W.heap.size W w' := by
  unfold atoiV
  rcases hq : Lib.atoiAll s.data.toList with v | _ | _
  · refine (Any.strconv_Atoi_ok Tryz.lays172 s (by omega) v hq W).mono ?_
    rintro e w' ⟨rfl, hw⟩
    refine ⟨_, rfl, ?_⟩
    rcases hw with rfl | ⟨t, rfl⟩
    · exact Below.refl _ _
    · exact bytes_below W _ t
  · obtain ⟨ev, h1, h2⟩ := h.s
    refine (Any.strconv_Atoi_syntax Tryz.lays172 s (by omega) hq ev W h1 h2).mono ?_
    rintro e w' ⟨N, rfl, _, _, hb⟩
    exact ⟨_, rfl, hb⟩
  · obtain ⟨ev, h1, h2⟩ := h.r
    refine (Any.strconv_Atoi_range Tryz.lays172 s (by omega) hq ev W h1 h2).mono ?_
    rintro e w' ⟨N, rfl, _, _, hb⟩
    exact ⟨_, rfl, hb⟩
theorem areOwners_f (u g : Int) : impl_areOwners.f u g = some (inB (-1) 99 u && inB (-1) 99 g) := by
  unfold impl_areOwners.f
  rw [within_f, within_f]
  simp only [Option.bind_some]
  cases inB (-1) 99 u <;> simp
theorem cut_walk (s : ByteArray) (hs : s.size < 4294967281) (W : World) (h : Env W) :
    Calls Tryz.prog 115 #[.string s, .string ⟨#[58]⟩] W fun e w' => e = .returned (.tuple #[.string ⟨(Lib.cut s.data.toList [58]).1.toArray⟩, .string ⟨(Lib.cut s.data.toList [58]).2.1.toArray⟩, .bool (Lib.cut s.data.toList [58]).2.2]) ∧ Drawn0 W w' := by
  obtain ⟨m, hm⟩ := h.m
  refine (Any.strings_Cut { Tryz.lays145 with } s ⟨#[58]⟩ m W hs hm).mono ?_
  rintro e w' ⟨rfl, n, rfl⟩
  exact ⟨rfl, ⟨n, rfl⟩⟩
def roV (s : ByteArray) (u g : Int) : Int × Int × Bool :=
  if s.toList = [] then (0, 0, false) else if (inB (-1) 99 u && inB (-1) 99 g) = true then (if (ownB u g).toList = s.toList then (u, g, true) else (0, 0, false)) else (0, 0, false)
theorem inB_iff' (lo hi n : Int) : inB lo hi n = true ↔ lo ≤ n ∧ n ≤ hi := by unfold inB; simp
set_option maxHeartbeats 4000000 in
set_option maxRecDepth 100000 in
theorem ro_nt (s one two : ByteArray) (u g : Int) (W : World) (hn1 : (one.toList == []) = false) (hn2 : one.toList.isEmpty = false) (hn3 : ¬ one.toList = [])
    (HC : Aside0 (Calls Tryz.prog 115 #[.string s, .string ⟨#[58]⟩] W fun e w' => e = .returned (.tuple #[.string one, .string two, .bool true]) ∧ Drawn0 W w'))
    (HA1 : Aside0 (∀ X : World, Below W.heap.size W X → Calls Tryz.prog 116 #[.string one] X fun e w' => ∃ ev, e = .returned (.tuple #[.int .i64 u, ev]) ∧ Below X.heap.size X w'))
    (HA2 : Aside0 (∀ X : World, Below W.heap.size W X → Calls Tryz.prog 116 #[.string two] X fun e w' => ∃ ev, e = .returned (.tuple #[.int .i64 g, ev]) ∧ Below X.heap.size X w')) :
    Calls Tryz.prog 47 #[.string s] W fun e w' => e = .returned (.tuple #[.int .i64 (roV s u g).1, .int .i64 (roV s u g).2.1, .bool (roV s u g).2.2]) ∧ Below W.heap.size W w' := by
  have HO := Aside0.mk (fun (X : World) => impl_areOwners.calls u g _ X (areOwners_f u g))
  by_cases hz : s.toList = []
  · have hr : roV s u g = (0, 0, false) := by unfold roV; rw [if_pos hz]
    rw [hr]
    clear hr HO
    go_enter Tryz.func47, Tryz.ntmps47
    go_wp2_with fail
    refine HC.out.mono ?_; rintro e w1 ⟨rfl, ⟨n1, rfl⟩⟩
    go_wp2_with fail
    refine (HA1.out _ (by repeat (first | exact Below.refl _ _ | apply pw_below_drewN | apply below_drew1))).mono ?_
    rintro e w1 ⟨ev1, rfl, hd⟩
    have hb1 : Below W.heap.size W w1 := below_step (by repeat (first | exact Below.refl _ _ | apply pw_below_drewN | apply below_drew1)) hd
    clear hd
    go_wp2_with fail
    refine (HA2.out _ (hb1)).mono ?_
    rintro e w2 ⟨ev2, rfl, hd⟩
    have hb2 : Below W.heap.size W w2 := hb1.trans (hd.mono hb1.size)
    clear hd
    go_wp2
    go_ret3
    exact ⟨rfl, by repeat (first | exact Below.refl _ _ | apply pw_below_drewN | apply below_drew1 | exact hb2 | exact hb1)⟩
  · have hz1 : (s.toList == []) = false := by simpa using hz
    have hz2 : s.toList.isEmpty = false := by cases hx : s.toList <;> simp [hx] at hz ⊢
    by_cases ha : (inB (-1) 99 u && inB (-1) 99 g) = true
    · have hrange : (-1 ≤ u ∧ u ≤ 99) ∧ (-1 ≤ g ∧ g ≤ 99) := by
        rw [Bool.and_eq_true, inB_iff', inB_iff'] at ha; exact ha
      have HT := Aside0.mk (fun (X : World) => ownerText_walk u g hrange.1 hrange.2 X)
      rw [ha] at HO
      by_cases he : (ownB u g).toList = s.toList
      · have hr : roV s u g = (u, g, true) := by unfold roV; rw [if_neg hz, if_pos ha, if_pos he]
        rw [hr]
        generalize ownB u g = o at HT he
        have he1 : (o.toList == s.toList) = true := by simpa using he
        have he2 : (o.toList != s.toList) = false := by simpa using he
        clear hr ha hrange
        go_enter Tryz.func47, Tryz.ntmps47
        go_wp2_with fail
        refine HC.out.mono ?_; rintro e w1 ⟨rfl, ⟨n1, rfl⟩⟩
        go_wp2_with fail
        refine (HA1.out _ (by repeat (first | exact Below.refl _ _ | apply pw_below_drewN | apply below_drew1))).mono ?_
        rintro e w1 ⟨ev1, rfl, hd⟩
        have hb1 : Below W.heap.size W w1 := below_step (by repeat (first | exact Below.refl _ _ | apply pw_below_drewN | apply below_drew1)) hd
        clear hd
        go_wp2_with fail
        refine (HA2.out _ (hb1)).mono ?_
        rintro e w2 ⟨ev2, rfl, hd⟩
        have hb2 : Below W.heap.size W w2 := hb1.trans (hd.mono hb1.size)
        clear hd
        go_wp2_with fail
        refine (HO.out _).mono ?_; rintro e w3 ⟨rfl, ⟨n3, rfl⟩⟩
        go_wp2_with fail
        refine (HT.out _).mono ?_; rintro e w4 ⟨rfl, ⟨n4, rfl⟩⟩
        go_wp2
        go_ret3
        exact ⟨rfl, by repeat (first | exact Below.refl _ _ | apply pw_below_drewN | apply below_drew1 | exact hb2 | exact hb1)⟩
      · have hr : roV s u g = (0, 0, false) := by unfold roV; rw [if_neg hz, if_pos ha, if_neg he]
        rw [hr]
        generalize ownB u g = o at HT he
        have he1 : (o.toList == s.toList) = false := by simpa using he
        have he2 : (o.toList != s.toList) = true := by simpa using he
        clear hr ha hrange
        go_enter Tryz.func47, Tryz.ntmps47
        go_wp2_with fail
        refine HC.out.mono ?_; rintro e w1 ⟨rfl, ⟨n1, rfl⟩⟩
        go_wp2_with fail
        refine (HA1.out _ (by repeat (first | exact Below.refl _ _ | apply pw_below_drewN | apply below_drew1))).mono ?_
        rintro e w1 ⟨ev1, rfl, hd⟩
        have hb1 : Below W.heap.size W w1 := below_step (by repeat (first | exact Below.refl _ _ | apply pw_below_drewN | apply below_drew1)) hd
        clear hd
        go_wp2_with fail
        refine (HA2.out _ (hb1)).mono ?_
        rintro e w2 ⟨ev2, rfl, hd⟩
        have hb2 : Below W.heap.size W w2 := hb1.trans (hd.mono hb1.size)
        clear hd
        go_wp2_with fail
        refine (HO.out _).mono ?_; rintro e w3 ⟨rfl, ⟨n3, rfl⟩⟩
        go_wp2_with fail
        refine (HT.out _).mono ?_; rintro e w4 ⟨rfl, ⟨n4, rfl⟩⟩
        go_wp2
        go_ret3
        exact ⟨rfl, by repeat (first | exact Below.refl _ _ | apply pw_below_drewN | apply below_drew1 | exact hb2 | exact hb1)⟩
    · have ha' : (inB (-1) 99 u && inB (-1) 99 g) = false := by simpa using ha
      have hr : roV s u g = (0, 0, false) := by unfold roV; rw [if_neg hz, if_neg ha]
      rw [hr]
      rw [ha'] at HO
      clear hr ha ha'
      go_enter Tryz.func47, Tryz.ntmps47
      go_wp2_with fail
      refine HC.out.mono ?_; rintro e w1 ⟨rfl, ⟨n1, rfl⟩⟩
      go_wp2_with fail
      refine (HA1.out _ (by repeat (first | exact Below.refl _ _ | apply pw_below_drewN | apply below_drew1))).mono ?_
      rintro e w1 ⟨ev1, rfl, hd⟩
      have hb1 : Below W.heap.size W w1 := below_step (by repeat (first | exact Below.refl _ _ | apply pw_below_drewN | apply below_drew1)) hd
      clear hd
      go_wp2_with fail
      refine (HA2.out _ (hb1)).mono ?_
      rintro e w2 ⟨ev2, rfl, hd⟩
      have hb2 : Below W.heap.size W w2 := hb1.trans (hd.mono hb1.size)
      clear hd
      go_wp2_with fail
      refine (HO.out _).mono ?_; rintro e w3 ⟨rfl, ⟨n3, rfl⟩⟩
      go_wp2
      go_ret3
      exact ⟨rfl, by repeat (first | exact Below.refl _ _ | apply pw_below_drewN | apply below_drew1 | exact hb2 | exact hb1)⟩
set_option maxHeartbeats 4000000 in
set_option maxRecDepth 100000 in
theorem ro_nf (s one two : ByteArray) (u g : Int) (W : World) (hn1 : (one.toList == []) = false) (hn2 : one.toList.isEmpty = false) (hn3 : ¬ one.toList = [])
    (HC : Aside0 (Calls Tryz.prog 115 #[.string s, .string ⟨#[58]⟩] W fun e w' => e = .returned (.tuple #[.string one, .string two, .bool false]) ∧ Drawn0 W w'))
    (HA1 : Aside0 (∀ X : World, Below W.heap.size W X → Calls Tryz.prog 116 #[.string one] X fun e w' => ∃ ev, e = .returned (.tuple #[.int .i64 u, ev]) ∧ Below X.heap.size X w'))
    (HA2 : Aside0 (∀ X : World, Below W.heap.size W X → Calls Tryz.prog 116 #[.string two] X fun e w' => ∃ ev, e = .returned (.tuple #[.int .i64 g, ev]) ∧ Below X.heap.size X w')) :
    Calls Tryz.prog 47 #[.string s] W fun e w' => e = .returned (.tuple #[.int .i64 (roV s u (-1)).1, .int .i64 (roV s u (-1)).2.1, .bool (roV s u (-1)).2.2]) ∧ Below W.heap.size W w' := by
  have HO := Aside0.mk (fun (X : World) => impl_areOwners.calls u (-1) _ X (areOwners_f u (-1)))
  by_cases hz : s.toList = []
  · have hr : roV s u (-1) = (0, 0, false) := by unfold roV; rw [if_pos hz]
    rw [hr]
    clear hr HO
    go_enter Tryz.func47, Tryz.ntmps47
    go_wp2_with fail
    refine HC.out.mono ?_; rintro e w1 ⟨rfl, ⟨n1, rfl⟩⟩
    go_wp2_with fail
    refine (HA1.out _ (by repeat (first | exact Below.refl _ _ | apply pw_below_drewN | apply below_drew1))).mono ?_
    rintro e w1 ⟨ev1, rfl, hd⟩
    have hb1 : Below W.heap.size W w1 := below_step (by repeat (first | exact Below.refl _ _ | apply pw_below_drewN | apply below_drew1)) hd
    clear hd
    go_wp2
    go_ret3
    exact ⟨rfl, by repeat (first | exact Below.refl _ _ | apply pw_below_drewN | apply below_drew1 | exact hb1)⟩
  · have hz1 : (s.toList == []) = false := by simpa using hz
    have hz2 : s.toList.isEmpty = false := by cases hx : s.toList <;> simp [hx] at hz ⊢
    by_cases ha : (inB (-1) 99 u && inB (-1) 99 (-1)) = true
    · have hrange : (-1 ≤ u ∧ u ≤ 99) ∧ (-1 ≤ (-1) ∧ (-1) ≤ 99) := by
        rw [Bool.and_eq_true, inB_iff', inB_iff'] at ha; exact ha
      have HT := Aside0.mk (fun (X : World) => ownerText_walk u (-1) hrange.1 hrange.2 X)
      rw [ha] at HO
      by_cases he : (ownB u (-1)).toList = s.toList
      · have hr : roV s u (-1) = (u, (-1), true) := by unfold roV; rw [if_neg hz, if_pos ha, if_pos he]
        rw [hr]
        generalize ownB u (-1) = o at HT he
        have he1 : (o.toList == s.toList) = true := by simpa using he
        have he2 : (o.toList != s.toList) = false := by simpa using he
        clear hr ha hrange
        go_enter Tryz.func47, Tryz.ntmps47
        go_wp2_with fail
        refine HC.out.mono ?_; rintro e w1 ⟨rfl, ⟨n1, rfl⟩⟩
        go_wp2_with fail
        refine (HA1.out _ (by repeat (first | exact Below.refl _ _ | apply pw_below_drewN | apply below_drew1))).mono ?_
        rintro e w1 ⟨ev1, rfl, hd⟩
        have hb1 : Below W.heap.size W w1 := below_step (by repeat (first | exact Below.refl _ _ | apply pw_below_drewN | apply below_drew1)) hd
        clear hd
        go_wp2_with fail
        refine (HO.out _).mono ?_; rintro e w3 ⟨rfl, ⟨n3, rfl⟩⟩
        go_wp2_with fail
        refine (HT.out _).mono ?_; rintro e w4 ⟨rfl, ⟨n4, rfl⟩⟩
        go_wp2
        go_ret3
        exact ⟨rfl, by repeat (first | exact Below.refl _ _ | apply pw_below_drewN | apply below_drew1 | exact hb1)⟩
      · have hr : roV s u (-1) = (0, 0, false) := by unfold roV; rw [if_neg hz, if_pos ha, if_neg he]
        rw [hr]
        generalize ownB u (-1) = o at HT he
        have he1 : (o.toList == s.toList) = false := by simpa using he
        have he2 : (o.toList != s.toList) = true := by simpa using he
        clear hr ha hrange
        go_enter Tryz.func47, Tryz.ntmps47
        go_wp2_with fail
        refine HC.out.mono ?_; rintro e w1 ⟨rfl, ⟨n1, rfl⟩⟩
        go_wp2_with fail
        refine (HA1.out _ (by repeat (first | exact Below.refl _ _ | apply pw_below_drewN | apply below_drew1))).mono ?_
        rintro e w1 ⟨ev1, rfl, hd⟩
        have hb1 : Below W.heap.size W w1 := below_step (by repeat (first | exact Below.refl _ _ | apply pw_below_drewN | apply below_drew1)) hd
        clear hd
        go_wp2_with fail
        refine (HO.out _).mono ?_; rintro e w3 ⟨rfl, ⟨n3, rfl⟩⟩
        go_wp2_with fail
        refine (HT.out _).mono ?_; rintro e w4 ⟨rfl, ⟨n4, rfl⟩⟩
        go_wp2
        go_ret3
        exact ⟨rfl, by repeat (first | exact Below.refl _ _ | apply pw_below_drewN | apply below_drew1 | exact hb1)⟩
    · have ha' : (inB (-1) 99 u && inB (-1) 99 (-1)) = false := by simpa using ha
      have hr : roV s u (-1) = (0, 0, false) := by unfold roV; rw [if_neg hz, if_neg ha]
      rw [hr]
      rw [ha'] at HO
      clear hr ha ha'
      go_enter Tryz.func47, Tryz.ntmps47
      go_wp2_with fail
      refine HC.out.mono ?_; rintro e w1 ⟨rfl, ⟨n1, rfl⟩⟩
      go_wp2_with fail
      refine (HA1.out _ (by repeat (first | exact Below.refl _ _ | apply pw_below_drewN | apply below_drew1))).mono ?_
      rintro e w1 ⟨ev1, rfl, hd⟩
      have hb1 : Below W.heap.size W w1 := below_step (by repeat (first | exact Below.refl _ _ | apply pw_below_drewN | apply below_drew1)) hd
      clear hd
      go_wp2_with fail
      refine (HO.out _).mono ?_; rintro e w3 ⟨rfl, ⟨n3, rfl⟩⟩
      go_wp2
      go_ret3
      exact ⟨rfl, by repeat (first | exact Below.refl _ _ | apply pw_below_drewN | apply below_drew1 | exact hb1)⟩
set_option maxHeartbeats 4000000 in
set_option maxRecDepth 100000 in
theorem ro_et (s one two : ByteArray) (u g : Int) (W : World) (hn1 : one.toList = [])
    (HC : Aside0 (Calls Tryz.prog 115 #[.string s, .string ⟨#[58]⟩] W fun e w' => e = .returned (.tuple #[.string one, .string two, .bool true]) ∧ Drawn0 W w'))
    (HA1 : Aside0 (∀ X : World, Below W.heap.size W X → Calls Tryz.prog 116 #[.string one] X fun e w' => ∃ ev, e = .returned (.tuple #[.int .i64 u, ev]) ∧ Below X.heap.size X w'))
    (HA2 : Aside0 (∀ X : World, Below W.heap.size W X → Calls Tryz.prog 116 #[.string two] X fun e w' => ∃ ev, e = .returned (.tuple #[.int .i64 g, ev]) ∧ Below X.heap.size X w')) :
    Calls Tryz.prog 47 #[.string s] W fun e w' => e = .returned (.tuple #[.int .i64 (roV s (-1) g).1, .int .i64 (roV s (-1) g).2.1, .bool (roV s (-1) g).2.2]) ∧ Below W.heap.size W w' := by
  have HO := Aside0.mk (fun (X : World) => impl_areOwners.calls (-1) g _ X (areOwners_f (-1) g))
  by_cases hz : s.toList = []
  · have hr : roV s (-1) g = (0, 0, false) := by unfold roV; rw [if_pos hz]
    rw [hr]
    clear hr HO
    go_enter Tryz.func47, Tryz.ntmps47
    go_wp2_with fail
    refine HC.out.mono ?_; rintro e w1 ⟨rfl, ⟨n1, rfl⟩⟩
    go_wp2_with fail
    refine (HA2.out _ (by repeat (first | exact Below.refl _ _ | apply pw_below_drewN | apply below_drew1))).mono ?_
    rintro e w2 ⟨ev2, rfl, hd⟩
    have hb2 : Below W.heap.size W w2 := below_step (by repeat (first | exact Below.refl _ _ | apply pw_below_drewN | apply below_drew1)) hd
    clear hd
    go_wp2
    go_ret3
    exact ⟨rfl, by repeat (first | exact Below.refl _ _ | apply pw_below_drewN | apply below_drew1 | exact hb2)⟩
  · have hz1 : (s.toList == []) = false := by simpa using hz
    have hz2 : s.toList.isEmpty = false := by cases hx : s.toList <;> simp [hx] at hz ⊢
    by_cases ha : (inB (-1) 99 (-1) && inB (-1) 99 g) = true
    · have hrange : (-1 ≤ (-1) ∧ (-1) ≤ 99) ∧ (-1 ≤ g ∧ g ≤ 99) := by
        rw [Bool.and_eq_true, inB_iff', inB_iff'] at ha; exact ha
      have HT := Aside0.mk (fun (X : World) => ownerText_walk (-1) g hrange.1 hrange.2 X)
      rw [ha] at HO
      by_cases he : (ownB (-1) g).toList = s.toList
      · have hr : roV s (-1) g = ((-1), g, true) := by unfold roV; rw [if_neg hz, if_pos ha, if_pos he]
        rw [hr]
        generalize ownB (-1) g = o at HT he
        have he1 : (o.toList == s.toList) = true := by simpa using he
        have he2 : (o.toList != s.toList) = false := by simpa using he
        clear hr ha hrange
        go_enter Tryz.func47, Tryz.ntmps47
        go_wp2_with fail
        refine HC.out.mono ?_; rintro e w1 ⟨rfl, ⟨n1, rfl⟩⟩
        go_wp2_with fail
        refine (HA2.out _ (by repeat (first | exact Below.refl _ _ | apply pw_below_drewN | apply below_drew1))).mono ?_
        rintro e w2 ⟨ev2, rfl, hd⟩
        have hb2 : Below W.heap.size W w2 := below_step (by repeat (first | exact Below.refl _ _ | apply pw_below_drewN | apply below_drew1)) hd
        clear hd
        go_wp2_with fail
        refine (HO.out _).mono ?_; rintro e w3 ⟨rfl, ⟨n3, rfl⟩⟩
        go_wp2_with fail
        refine (HT.out _).mono ?_; rintro e w4 ⟨rfl, ⟨n4, rfl⟩⟩
        go_wp2
        go_ret3
        exact ⟨rfl, by repeat (first | exact Below.refl _ _ | apply pw_below_drewN | apply below_drew1 | exact hb2)⟩
      · have hr : roV s (-1) g = (0, 0, false) := by unfold roV; rw [if_neg hz, if_pos ha, if_neg he]
        rw [hr]
        generalize ownB (-1) g = o at HT he
        have he1 : (o.toList == s.toList) = false := by simpa using he
        have he2 : (o.toList != s.toList) = true := by simpa using he
        clear hr ha hrange
        go_enter Tryz.func47, Tryz.ntmps47
        go_wp2_with fail
        refine HC.out.mono ?_; rintro e w1 ⟨rfl, ⟨n1, rfl⟩⟩
        go_wp2_with fail
        refine (HA2.out _ (by repeat (first | exact Below.refl _ _ | apply pw_below_drewN | apply below_drew1))).mono ?_
        rintro e w2 ⟨ev2, rfl, hd⟩
        have hb2 : Below W.heap.size W w2 := below_step (by repeat (first | exact Below.refl _ _ | apply pw_below_drewN | apply below_drew1)) hd
        clear hd
        go_wp2_with fail
        refine (HO.out _).mono ?_; rintro e w3 ⟨rfl, ⟨n3, rfl⟩⟩
        go_wp2_with fail
        refine (HT.out _).mono ?_; rintro e w4 ⟨rfl, ⟨n4, rfl⟩⟩
        go_wp2
        go_ret3
        exact ⟨rfl, by repeat (first | exact Below.refl _ _ | apply pw_below_drewN | apply below_drew1 | exact hb2)⟩
    · have ha' : (inB (-1) 99 (-1) && inB (-1) 99 g) = false := by simpa using ha
      have hr : roV s (-1) g = (0, 0, false) := by unfold roV; rw [if_neg hz, if_neg ha]
      rw [hr]
      rw [ha'] at HO
      clear hr ha ha'
      go_enter Tryz.func47, Tryz.ntmps47
      go_wp2_with fail
      refine HC.out.mono ?_; rintro e w1 ⟨rfl, ⟨n1, rfl⟩⟩
      go_wp2_with fail
      refine (HA2.out _ (by repeat (first | exact Below.refl _ _ | apply pw_below_drewN | apply below_drew1))).mono ?_
      rintro e w2 ⟨ev2, rfl, hd⟩
      have hb2 : Below W.heap.size W w2 := below_step (by repeat (first | exact Below.refl _ _ | apply pw_below_drewN | apply below_drew1)) hd
      clear hd
      go_wp2_with fail
      refine (HO.out _).mono ?_; rintro e w3 ⟨rfl, ⟨n3, rfl⟩⟩
      go_wp2
      go_ret3
      exact ⟨rfl, by repeat (first | exact Below.refl _ _ | apply pw_below_drewN | apply below_drew1 | exact hb2)⟩
set_option maxHeartbeats 4000000 in
set_option maxRecDepth 100000 in
theorem ro_ef (s one two : ByteArray) (u g : Int) (W : World) (hn1 : one.toList = [])
    (HC : Aside0 (Calls Tryz.prog 115 #[.string s, .string ⟨#[58]⟩] W fun e w' => e = .returned (.tuple #[.string one, .string two, .bool false]) ∧ Drawn0 W w'))
    (HA1 : Aside0 (∀ X : World, Below W.heap.size W X → Calls Tryz.prog 116 #[.string one] X fun e w' => ∃ ev, e = .returned (.tuple #[.int .i64 u, ev]) ∧ Below X.heap.size X w'))
    (HA2 : Aside0 (∀ X : World, Below W.heap.size W X → Calls Tryz.prog 116 #[.string two] X fun e w' => ∃ ev, e = .returned (.tuple #[.int .i64 g, ev]) ∧ Below X.heap.size X w')) :
    Calls Tryz.prog 47 #[.string s] W fun e w' => e = .returned (.tuple #[.int .i64 (roV s (-1) (-1)).1, .int .i64 (roV s (-1) (-1)).2.1, .bool (roV s (-1) (-1)).2.2]) ∧ Below W.heap.size W w' := by
  have HO := Aside0.mk (fun (X : World) => impl_areOwners.calls (-1) (-1) _ X (areOwners_f (-1) (-1)))
  by_cases hz : s.toList = []
  · have hr : roV s (-1) (-1) = (0, 0, false) := by unfold roV; rw [if_pos hz]
    rw [hr]
    clear hr HO
    go_enter Tryz.func47, Tryz.ntmps47
    go_wp2_with fail
    refine HC.out.mono ?_; rintro e w1 ⟨rfl, ⟨n1, rfl⟩⟩
    go_wp2
    go_ret3
    exact ⟨rfl, by repeat (first | exact Below.refl _ _ | apply pw_below_drewN | apply below_drew1)⟩
  · have hz1 : (s.toList == []) = false := by simpa using hz
    have hz2 : s.toList.isEmpty = false := by cases hx : s.toList <;> simp [hx] at hz ⊢
    by_cases ha : (inB (-1) 99 (-1) && inB (-1) 99 (-1)) = true
    · have hrange : (-1 ≤ (-1) ∧ (-1) ≤ 99) ∧ (-1 ≤ (-1) ∧ (-1) ≤ 99) := by
        omega
      have HT := Aside0.mk (fun (X : World) => ownerText_walk (-1) (-1) hrange.1 hrange.2 X)
      rw [ha] at HO
      by_cases he : (ownB (-1) (-1)).toList = s.toList
      · have hr : roV s (-1) (-1) = ((-1), (-1), true) := by unfold roV; rw [if_neg hz, if_pos ha, if_pos he]
        rw [hr]
        generalize ownB (-1) (-1) = o at HT he
        have he1 : (o.toList == s.toList) = true := by simpa using he
        have he2 : (o.toList != s.toList) = false := by simpa using he
        clear hr ha hrange
        go_enter Tryz.func47, Tryz.ntmps47
        go_wp2_with fail
        refine HC.out.mono ?_; rintro e w1 ⟨rfl, ⟨n1, rfl⟩⟩
        go_wp2_with fail
        refine (HO.out _).mono ?_; rintro e w3 ⟨rfl, ⟨n3, rfl⟩⟩
        go_wp2_with fail
        refine (HT.out _).mono ?_; rintro e w4 ⟨rfl, ⟨n4, rfl⟩⟩
        go_wp2
        go_ret3
        exact ⟨rfl, by repeat (first | exact Below.refl _ _ | apply pw_below_drewN | apply below_drew1)⟩
      · have hr : roV s (-1) (-1) = (0, 0, false) := by unfold roV; rw [if_neg hz, if_pos ha, if_neg he]
        rw [hr]
        generalize ownB (-1) (-1) = o at HT he
        have he1 : (o.toList == s.toList) = false := by simpa using he
        have he2 : (o.toList != s.toList) = true := by simpa using he
        clear hr ha hrange
        go_enter Tryz.func47, Tryz.ntmps47
        go_wp2_with fail
        refine HC.out.mono ?_; rintro e w1 ⟨rfl, ⟨n1, rfl⟩⟩
        go_wp2_with fail
        refine (HO.out _).mono ?_; rintro e w3 ⟨rfl, ⟨n3, rfl⟩⟩
        go_wp2_with fail
        refine (HT.out _).mono ?_; rintro e w4 ⟨rfl, ⟨n4, rfl⟩⟩
        go_wp2
        go_ret3
        exact ⟨rfl, by repeat (first | exact Below.refl _ _ | apply pw_below_drewN | apply below_drew1)⟩
    · have ha' : (inB (-1) 99 (-1) && inB (-1) 99 (-1)) = false := by simpa using ha
      have hr : roV s (-1) (-1) = (0, 0, false) := by unfold roV; rw [if_neg hz, if_neg ha]
      rw [hr]
      rw [ha'] at HO
      clear hr ha ha'
      go_enter Tryz.func47, Tryz.ntmps47
      go_wp2_with fail
      refine HC.out.mono ?_; rintro e w1 ⟨rfl, ⟨n1, rfl⟩⟩
      go_wp2_with fail
      refine (HO.out _).mono ?_; rintro e w3 ⟨rfl, ⟨n3, rfl⟩⟩
      go_wp2
      go_ret3
      exact ⟨rfl, by repeat (first | exact Below.refl _ _ | apply pw_below_drewN | apply below_drew1)⟩
/-- What the program's ReadOwner answers. -/
def cutL (s : ByteArray) : List UInt8 × List UInt8 × Bool := Lib.cut s.data.toList [58]
def roB (s : ByteArray) : Int × Int × Bool :=
  roV s (if (cutL s).1 = [] then -1 else atoiV ⟨(cutL s).1.toArray⟩) (if (cutL s).2.2 = true then atoiV ⟨(cutL s).2.1.toArray⟩ else -1)
theorem impl_ReadOwner_walk (s : ByteArray) (hs : s.size < 4294967281) (h1 : (cutL s).1.length < 4294967281) (h2 : (cutL s).2.1.length < 4294967281) (W : World) (h : Env W) :
    Calls Tryz.prog 47 #[.string s] W fun e w' => e = .returned (.tuple #[.int .i64 (roB s).1, .int .i64 (roB s).2.1, .bool (roB s).2.2]) ∧ Below W.heap.size W w' := by
  have hcut := Aside0.mk (cut_walk s hs W h)
  unfold roB
  have e1 : ∀ l : List UInt8, (⟨l.toArray⟩ : ByteArray).toList = l := fun l => by rw [ByteArray.toList_eq]
  have e2 : ∀ l : List UInt8, (⟨l.toArray⟩ : ByteArray).size = l.length := fun l => by rw [← data_length]
  have HA1 := Aside0.mk (fun (X : World) (hb : Below W.heap.size W X) => atoi_walk ⟨(cutL s).1.toArray⟩ (by rw [e2]; exact h1) X (h.below hb))
  have HA2 := Aside0.mk (fun (X : World) (hb : Below W.heap.size W X) => atoi_walk ⟨(cutL s).2.1.toArray⟩ (by rw [e2]; exact h2) X (h.below hb))
  have hcut' : Aside0 (Calls Tryz.prog 115 #[.string s, .string ⟨#[58]⟩] W fun e w' => e = .returned (.tuple #[.string ⟨(cutL s).1.toArray⟩, .string ⟨(cutL s).2.1.toArray⟩, .bool (cutL s).2.2]) ∧ Drawn0 W w') := hcut
  clear hcut
  by_cases hn : (cutL s).1 = []
  · rw [if_pos hn]
    cases hb : (cutL s).2.2 with
    | true =>
      rw [if_pos rfl]
      rw [hb] at hcut'
      exact ro_et s _ _ _ _ W (by rw [e1]; exact hn) hcut' HA1 HA2
    | false =>
      rw [if_neg (by simp)]
      rw [hb] at hcut'
      exact ro_ef s _ _ _ _ W (by rw [e1]; exact hn) hcut' HA1 HA2
  · rw [if_neg hn]
    have g1 : ((⟨(cutL s).1.toArray⟩ : ByteArray).toList == []) = false := by rw [e1]; simpa using hn
    have g2 : (⟨(cutL s).1.toArray⟩ : ByteArray).toList.isEmpty = false := by rw [e1]; cases hx : (cutL s).1 <;> simp [hx] at hn ⊢
    have g3 : ¬ (⟨(cutL s).1.toArray⟩ : ByteArray).toList = [] := by rw [e1]; exact hn
    cases hb : (cutL s).2.2 with
    | true =>
      rw [if_pos rfl]
      rw [hb] at hcut'
      exact ro_nt s _ _ _ _ W g1 g2 g3 hcut' HA1 HA2
    | false =>
      rw [if_neg (by simp)]
      rw [hb] at hcut'
      exact ro_nf s _ _ _ _ W g1 g2 g3 hcut' HA1 HA2

end Go.Proofs.YtibfocaldcjiiaaGreatDoor.Q
