/- Texts of this claim, merged by a program (wip/tools/merge.py): HOwner. -/
import Derived.Test.YtibfocaldcjiiaaGreatDoorJ2
import Derived.Test.YtibfocaldcjiiaaGreatDoorJ13
import Derived.Test.YtibfocaldcjiiaaGreatDoorJ23
import Derived.Test.YtibfocaldcjiiaaGreatDoorJ26
/- impl.ReadOwner: the walk: numbers by strconv, in a world whose error variables hold errors. -/
namespace Go.Proofs.YtibfocaldcjiiaaGreatDoor.Q
open Go.RowKit Go.Proofs.YtibfocaldcjiiaaGreatDoorW.PrintWords Go.Proofs.YtibfocaldcjiiaaGreatDoorW.PrintLast Go.Proofs.YtibfocaldcjiiaaGreatDoorW.PrintMore
attribute [local go_sem] max2_int min2_int max_two min_two max_three min_three max_four min_four   -- for this text's walks alone
set_option linter.unusedVariables false
set_option linter.unusedSimpArgs false

def digB (n : Int) : ByteArray := ⟨(Lib.decDigits n.toNat).toArray⟩
def ownB (u g : Int) : ByteArray :=
  if g = -1 then (if u = -1 then ⟨#[]⟩ else digB u) else (if u = -1 then ⟨#[]⟩ else digB u) ++ ((⟨#[58]⟩ : ByteArray) ++ digB g)
theorem itoa_small (n : Int) (h0 : 0 ≤ n) (h1 : n ≤ 99) (w : World) : Calls Tryz.prog 61 #[.int .i64 n] w fun e w' => e = .returned (.string (digB n)) ∧ w' = w := by
  obtain ⟨i, rfl⟩ : ∃ i : Nat, n = i := ⟨n.toNat, by omega⟩
  unfold digB
  rw [Int.toNat_natCast]
  exact Any.strconv_Itoa_small Tryz.lays171 i (by omega) w
theorem dec_len : ∀ i : Fin 100, 1 ≤ (Lib.decDigits i.val).length ∧ (Lib.decDigits i.val).length ≤ 2 := by decide +kernel
theorem digB_size (n : Int) (h0 : 0 ≤ n) (h1 : n ≤ 99) : 1 ≤ (digB n).size ∧ (digB n).size ≤ 2 := by
  have := dec_len ⟨n.toNat, by omega⟩
  have e : (digB n).size = (Lib.decDigits n.toNat).length := by rw [← data_length]; simp [digB]
  rw [e]; exact this
set_option maxHeartbeats 2000000 in
set_option maxRecDepth 100000 in
theorem ownerText_walk (u g : Int) (hu : -1 ≤ u ∧ u ≤ 99) (hg : -1 ≤ g ∧ g ≤ 99) (w : World) :
    Calls Tryz.prog 103 #[.int .i64 u, .int .i64 g] w fun e w' => e = .returned (.string (ownB u g)) ∧ Drawn0 w w' := by
  have HU := Aside0.mk (fun (h : 0 ≤ u) (W : World) => itoa_small u h hu.2 W)
  have HG := Aside0.mk (fun (h : 0 ≤ g) (W : World) => itoa_small g h hg.2 W)
  unfold ownB
  by_cases h1 : u = -1
  · by_cases h2 : g = -1
    · rw [if_pos h1, if_pos h2]
      clear HU HG hu hg
      subst h1
      subst h2
      go_enter Tryz.func103, Tryz.ntmps103
      go_wp2
      go_ret
      exact ⟨rfl, by repeat (first | exact Drawn0.refl _ | apply Drawn0.step)⟩
    · rw [if_pos h1, if_neg h2]
      have HG' := Aside0.mk (HG.out (by omega))
      have b2 : (g != -1) = true := by simpa using h2
      have b3 : (g == -1) = false := by simpa using h2
      have hx := digB_size g (by omega) hg.2
      clear HU HG hu hg
      subst h1
      generalize digB g = x at HG' hx ⊢
      go_enter Tryz.func103, Tryz.ntmps103
      go_wp2_with fail
      refine (HG'.out _).mono ?_; rintro e w1 ⟨rfl, rfl⟩
      go_wp2
      go_ret
      exact ⟨by first | rfl | (simp; done), by repeat (first | exact Drawn0.refl _ | apply Drawn0.step)⟩
  · have HU' := Aside0.mk (HU.out (by omega))
    have c2 : (u != -1) = true := by simpa using h1
    have c3 : (u == -1) = false := by simpa using h1
    have hy := digB_size u (by omega) hu.2
    by_cases h2 : g = -1
    · rw [if_neg h1, if_pos h2]
      clear HU HG hu hg
      subst h2
      generalize digB u = y at HU' hy ⊢
      go_enter Tryz.func103, Tryz.ntmps103
      go_wp2_with fail
      refine (HU'.out _).mono ?_; rintro e w1 ⟨rfl, rfl⟩
      go_wp2
      go_ret
      exact ⟨by first | rfl | (simp; done), by repeat (first | exact Drawn0.refl _ | apply Drawn0.step)⟩
    · rw [if_neg h1, if_neg h2]
      have HG' := Aside0.mk (HG.out (by omega))
      have b2 : (g != -1) = true := by simpa using h2
      have b3 : (g == -1) = false := by simpa using h2
      have hx := digB_size g (by omega) hg.2
      clear HU HG hu hg
      generalize digB u = y at HU' hy ⊢
      generalize digB g = x at HG' hx ⊢
      have hxy : ((⟨#[58]⟩ : ByteArray) ++ x).size = 1 + x.size := by rw [ByteArray.size_append]; rfl
      go_enter Tryz.func103, Tryz.ntmps103
      go_wp2_with fail
      refine (HU'.out _).mono ?_; rintro e w1 ⟨rfl, rfl⟩
      go_wp2_with fail
      refine (HG'.out _).mono ?_; rintro e w1 ⟨rfl, rfl⟩
      go_wp2
      go_ret
      exact ⟨by first | rfl | (simp; done), by repeat (first | exact Drawn0.refl _ | apply Drawn0.step)⟩

end Go.Proofs.YtibfocaldcjiiaaGreatDoor.Q
