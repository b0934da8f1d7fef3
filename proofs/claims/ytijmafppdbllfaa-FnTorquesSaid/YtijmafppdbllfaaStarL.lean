/- The contracts of StarOrder and NextBolt. No statement of the seat is proved here. -/
import Derived.Test.YtijmafppdbllfaaStar
import Derived.Test.YtijmafppdbllfaaOwn
namespace Go.Proofs.Ytijmafppdbllfaa
open Go.RowKit

def StarOrder_r (n : Int) : List Int × Int := if inR n 3 12 then (star n.toNat, 0) else ([], 2)
theorem StarOrder_len (n : Int) : (StarOrder_r n).1.length ≤ 1048576 := by
  unfold StarOrder_r
  split
  · rename_i h
    have := inR_iff.1 h
    simp only [star, starL_len]
    omega
  · simp
theorem iStarOrder_law (n : Int) (w : World) (_ : (Lit.int .i64 n).wf = true) :
    Calls Try.prog 24 #[.int .i64 n] w fun e w' => ∃ v, e = .returned (.tuple #[v, .int .i64 (StarOrder_r n).2]) ∧ Own eI w' w.heap.size 2 v (StarOrder_r n).1 ∧ Below w.heap.size w w' := by
  rcases hA : inR n 3 12
  · have hr : StarOrder_r n = ([], 2) := by unfold StarOrder_r; rw [hA]; rfl
    have HA := Lib.hid hA
    rw [hr]
    clear hA hr
    go_enter Try.func24, Try.ntmps24
    go_wp2_with (go_at_call 54; refine (isRing_any _ _).mono ?_; rintro e w' ⟨rfl, rfl⟩; rw [HA.out])
    go_ret2
    exact ⟨_, rfl, Own.nil_ _ _ _ _, Below.refl _ _⟩
  · obtain ⟨h1, h2⟩ := inR_iff.1 hA
    obtain ⟨m, rfl⟩ := Int.eq_ofNat_of_zero_le (show 0 ≤ n by omega)
    have hr : StarOrder_r m = (star m, 0) := by unfold StarOrder_r; rw [hA]; rfl
    have HA := Lib.hid hA
    rw [hr]
    clear hA hr
    go_enter Try.func24, Try.ntmps24
    go_wp2_with (go_at_call 54; refine (isRing_any _ _).mono ?_; rintro e w' ⟨rfl, rfl⟩; rw [HA.out])
    refine (starOrder_any m w (by omega) (by omega)).mono ?_
    rintro e w1 ⟨v, rfl, ho, hb⟩
    go_wp2
    go_ret2
    exact ⟨v, rfl, ho, hb⟩
theorem sStarOrder_law (n : Int) (w : World) (_ : (Lit.int .i64 n).wf = true) :
    Calls Try.prog 23 #[.int .i64 n] w fun e w' => ∃ v, e = .returned (.tuple #[v, .int .i64 (StarOrder_r n).2]) ∧ Own eI w' w.heap.size 2 v (StarOrder_r n).1 ∧ Below w.heap.size w w' := by
  rcases hA : inR n 3 12
  · have hr : StarOrder_r n = ([], 2) := by unfold StarOrder_r; rw [hA]; rfl
    have HA := Lib.hid hA
    rw [hr]
    clear hA hr
    go_enter Try.func23, Try.ntmps23
    go_wp2_with (go_at_call 53; refine (l01In_any _ _ _ _).mono ?_; rintro e w' ⟨rfl, rfl⟩; rw [HA.out])
    go_ret2
    exact ⟨_, rfl, Own.nil_ _ _ _ _, Below.refl _ _⟩
  · obtain ⟨h1, h2⟩ := inR_iff.1 hA
    obtain ⟨m, rfl⟩ := Int.eq_ofNat_of_zero_le (show 0 ≤ n by omega)
    have hr : StarOrder_r m = (star m, 0) := by unfold StarOrder_r; rw [hA]; rfl
    have HA := Lib.hid hA
    rw [hr]
    clear hA hr
    go_enter Try.func23, Try.ntmps23
    go_wp2_with (go_at_call 53; refine (l01In_any _ _ _ _).mono ?_; rintro e w' ⟨rfl, rfl⟩; rw [HA.out])
    refine (l26Star_any m w (by omega) (by omega)).mono ?_
    rintro e w1 ⟨v, rfl, ho, hb⟩
    go_wp2
    go_ret2
    exact ⟨v, rfl, ho, hb⟩
end Go.Proofs.Ytijmafppdbllfaa
