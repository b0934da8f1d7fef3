/- For every list of integers the program's AreReadings and the reference's AreReadings answer the same, and the list is left as it was. No condition. -/
import Derived.Test.YtijmafppdbllfaaList
import Derived.Test.YtijmafppdbllfaaLift
namespace Go.Proofs.Ytijmafppdbllfaa
open Go.RowKit

set_option maxHeartbeats 1000000 in
theorem walk_FnExactAreReadings (a0 : Option Addr) (len0 cap0 : Nat) (z0 : List Int) (w : World) (w0 : IsRow .i64 w a0 len0 cap0 z0) :
    Calls Try.prog 3 #[.slice a0 len0 cap0] w fun e w' => e = .returned (.bool true) ∧ Below w.heap.size w w' := by
  have hmax := w0.max
  by_cases hl : len0 ≤ 1048576
  · have hI := w0.ints hl
    have hn : (z0.take len0).length ≤ 1048576 := by rw [w0.len]; exact hl
    generalize z0.take len0 = xs at *
    have hx : xs.length ≤ big40 := by unfold big40; omega
    clear w0
    go_enter Try.func3, Try.ntmps3
    go_wp2_with fail
    refine (toInt64S_any _ xs _ hI hn).mono ?_
    rintro e w1 ⟨u1, rfl, ho1, hb1⟩
    go_wp2_with fail
    refine (sAreReadings_any u1 xs w1 (Sl.of_own ho1 hx)).mono ?_
    rintro e w' ⟨rfl, rfl⟩
    go_wp2_with fail
    refine (toInt64S_any _ xs w1 (hI.below hb1) hn).mono ?_
    rintro e w2 ⟨u2, rfl, ho2, hb2⟩
    go_wp2_with fail
    refine (iAreReadings_any u2 xs w2 (Sl.of_own ho2 hx)).mono ?_
    rintro e w' ⟨rfl, rfl⟩
    go_wp2_with fail
    refine (toInt64S_any _ xs w2 ((hI.below hb1).below hb2) hn).mono ?_
    rintro e w3 ⟨u3, rfl, ho3, hb3⟩
    go_wp2_with fail
    refine (eqInt64S_any u2 u3 xs xs w3 (Sl.of_own (ho2.below hb3) hx) (Sl.of_own ho3 hx)).mono ?_
    rintro e w' ⟨rfl, m, rfl⟩
    go_wp2_with fail
    go_ret
    exact ⟨rfl, below_drewN' (Below.step (Below.step hb1 hb2) hb3) m⟩
  · go_enter Try.func3, Try.ntmps3
    go_wp2_with fail
    go_ret
    exact ⟨rfl, Below.refl _ _⟩

namespace LFnExactAreReadings
open Go.ChangeShapes Go.WideShapes Go.ChangeAt Go.RowKit
open Go.ChangeMaps (open_string shut_string)
set_option linter.unusedVariables false
set_option maxRecDepth 100000 in
theorem lifted (os : Os) (started : os.Started) (H : Type) (enc : TypeId × Value → H) :
    ReturnsInHanded {} Try.checked os 3 .any (Rows.fnExactAreReadingsSpec.pre6 enc Try.prog Try.f3 Rows.fnExactAreReadingsRow.domain false) (Rows.fnExactAreReadingsSpec.post enc Try.prog Try.f3 false true false false) := by
  refine returnsInHanded_of_change (C := Try.checked) own started (by kernel_rfl) Try.func3
    (ChangeSpec.witness6 (enc := enc) (C := Try.checked) false ⟨#[], #[.slice none 0 0], []⟩ 8 (by kernel_rfl) (by kernel_rfl) (by kernel_rfl) (by kernel_rfl)) ?_
  intro W base args ds gs before hval0 hW hcnd _
  have hval : ∀ (j : Nat) t v, Try.f3.params[j]? = some t → args[j]? = some v → Value.okWide Try.prog W .any base t v := hval0
  have hW' := hW
  obtain ⟨p, q, hA0, hV, rfl, hfz, hnd⟩ := hW
  have hA : DataW.TrodAll enc Try.prog W 0 (fun _ => true) true Try.f3.params.toList args.toList ds p := hA0
  rw [Try.params3] at hA hval
  obtain ⟨v0, vs0, d0, ds0, p0, q0, hargs, rfl, rfl, h0, r0⟩ := trodAll_cons hA
  obtain ⟨rfl, rfl, rfl⟩ := trodAll_nil r0
  obtain rfl : args = #[v0] := by cases args; simp_all
  obtain ⟨rfl, rfl⟩ := trodVars_none hV
  have k0 := h0
  have lt0 : ∀ x ∈ p0, x.block < W.heap.size := by obtain ⟨m, hm⟩ := k0; exact DataW.trod_lt m _ _ _ hm
  obtain ⟨a0, len0, cap0, rfl⟩ := okWide_slice Try.underlying22 (hval 0 22 v0 rfl rfl)
  obtain ⟨z0, w0⟩ : ∃ zs, IsRow .i64 W a0 len0 cap0 zs := by
    obtain ⟨fuel, hf⟩ := h0
    rcases open_ints Try.underlying22 Try.underlying2 (by kernel_rfl) hf with ⟨hcs, _⟩ | ⟨x, l, c, zs, hcs, _, hl, hm, hz, _, hcell, hwz⟩
    · simp [Value.cells] at hcs
      obtain ⟨rfl, rfl, rfl⟩ := hcs
      exact ⟨[], .inl ⟨rfl, rfl, rfl, rfl⟩⟩
    · simp [Value.cells] at hcs
      obtain ⟨rfl, rfl, rfl⟩ := hcs
      exact ⟨zs, .inr ⟨_, rfl, hl, hm, by simpa using hz, hcell, hwz⟩⟩
  clear hA0 hval0
  refine (walk_FnExactAreReadings a0 len0 cap0 z0 W w0).mono fun e W' ⟨he, bel⟩ => ?_
  subst he
  exact ⟨_, rfl, _, _, _, [], _, [], hW', trodAll_mk1 (shut_bool Try.underlying4 _), (trodAll_cons_mk (Below.trod laidOut (by kernel_rfl) (of_decide_eq_true (by kernel_rfl)) k0 bel lt0) trodAll_mk0), rfl, bel.frame _, fun h => by cases h⟩
theorem over : Rows.fnExactAreReadingsRow.holds Try.pinned (OpenSpec.ofChange Rows.fnExactAreReadingsSpec) :=
  OpenClaim.holds_of_wide 3 Try.f3 rfl rfl rfl rfl rfl rfl rfl ⟨rfl, rfl, rfl, rfl, rfl⟩ rfl rfl rfl rfl rfl (by kernel_rfl) Try.func3 (by kernel_rfl)
    (of_decide_eq_true (by kernel_rfl)) (by unfold Func.isWrapper; first | (rw [if_pos (by decide +kernel)]; kernel_rfl) | (rw [if_neg (by decide +kernel)]; exact ⟨rfl, rfl⟩))
    (fun os started H enc _ => lifted os started H enc)
end LFnExactAreReadings
/-- The statement. -/
theorem fnExactAreReadings_holds : Rows.FnExactAreReadingsSaid := LFnExactAreReadings.over
#print axioms fnExactAreReadings_holds

end Go.Proofs.Ytijmafppdbllfaa
