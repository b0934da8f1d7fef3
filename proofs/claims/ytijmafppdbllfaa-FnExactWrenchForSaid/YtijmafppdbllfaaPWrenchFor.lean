/- For every list of wrenches and every torque the program's WrenchFor and the reference's WrenchFor answer the same, and the list is left as it was. No condition. -/
import Derived.Test.YtijmafppdbllfaaTools
import Derived.Test.YtijmafppdbllfaaOWrench
namespace Go.Proofs.Ytijmafppdbllfaa
open Go.RowKit

set_option maxHeartbeats 4000000 in
set_option maxRecDepth 20000 in
theorem walk_FnExactWrenchFor (a0 : Option Addr) (len0 cap0 : Nat) (xs0 : List Wrench) (a1 : Int) (w : World) (p0 : RowS eWrench w a0 len0 cap0 xs0) (q0 : ∀ x ∈ xs0, okWrench x) (p1 : (Lit.int .i64 a1).wf = true) :
    Calls Try.prog 7 #[.slice a0 len0 cap0, .int .i64 a1] w fun e w' => e = .returned (.bool true) ∧ Below w.heap.size w w' := by
  have hB : Below w.heap.size w w := Below.refl _ _
  have hmax0 := p0.max
  go_enter Try.func7, Try.ntmps7
  go_wp2_with fail
  by_cases hl0 : (len0 : Int) ≤ 1048576
  rotate_left
  · refine (szWrenchS_big a0 len0 cap0 1048576 w (by omega) (by omega) hmax0 (by omega)).mono ?_
    rintro e w' ⟨rfl, rfl⟩
    go_wp2_with fail
    go_ret
    exact ⟨rfl, hB⟩
  have hI0 := p0.sl (by omega)
  have hn0 : xs0.length ≤ 1048576 := by rw [p0.len]; omega
  refine (szWrenchS_ok _ xs0 1048576 w (by omega) (by omega) (hI0.below hB) q0).mono ?_
  rintro e W1 ⟨rfl, hb⟩
  have hsW1 := Lib.hid hb.size
  replace hB := Below.step hB hb
  clear hb
  by_cases ht0 : ((totWrench xs0 : Nat) : Int) ≤ 1048576
  rotate_left
  · rw [szr_neg ht0]
    go_wp2_with fail
    go_ret
    exact ⟨rfl, hB⟩
  rw [szr_pos ht0]
  go_wp2_with fail
  refine (toWrenchS_any _ xs0 W1 (hI0.below hB) hn0).mono ?_
  rintro e W2 ⟨t2, rfl, ho_t2, hb⟩
  have hk_t2 := Lib.hid (World.ownsRow.lt ho_t2)
  have hsW2 := Lib.hid hb.size
  replace hB := Below.step hB hb
  clear hb
  go_wp2_with fail
  refine (sWrenchFor_law t2 xs0 a1 W2 (Sl.of_own ho_t2 (big_of hn0)) hn0 p1).mono ?_
  rintro e W3 ⟨rfl, hb⟩
  have hsW3 := Lib.hid hb.size
  replace ho_t2 := ho_t2.below hb
  replace hB := Below.step hB hb
  clear hb
  go_wp2_with fail
  refine (toWrenchS_any _ xs0 W3 (hI0.below hB) hn0).mono ?_
  rintro e W4 ⟨t4, rfl, ho_t4, hb⟩
  have hk_t4 := Lib.hid (World.ownsRow.lt ho_t4)
  have hsW4 := Lib.hid hb.size
  replace ho_t2 := ho_t2.below hb
  replace hB := Below.step hB hb
  clear hb
  go_wp2_with fail
  refine (iWrenchFor_law t4 xs0 a1 W4 (Sl.of_own ho_t4 (big_of hn0)) hn0 p1).mono ?_
  rintro e W5 ⟨rfl, hb⟩
  have hsW5 := Lib.hid hb.size
  replace ho_t2 := ho_t2.below hb
  replace ho_t4 := ho_t4.below hb
  replace hB := Below.step hB hb
  clear hb
  go_wp2_with fail
  refine (toWrenchS_any _ xs0 W5 (hI0.below hB) hn0).mono ?_
  rintro e W6 ⟨t6, rfl, ho_t6, hb⟩
  have hk_t6 := Lib.hid (World.ownsRow.lt ho_t6)
  have hsW6 := Lib.hid hb.size
  replace ho_t2 := ho_t2.below hb
  replace ho_t4 := ho_t4.below hb
  replace hB := Below.step hB hb
  clear hb
  go_wp2_with fail
  refine (eqWrenchS_same t4 t6 xs0 W6 (Sl.of_own ho_t4 (big_of hn0)) (Sl.of_own ho_t6 (big_of hn0))).mono ?_
  rintro e W7 ⟨rfl, hb⟩
  have hsW7 := Lib.hid hb.size
  replace ho_t2 := ho_t2.below hb
  replace ho_t4 := ho_t4.below hb
  replace ho_t6 := ho_t6.below hb
  replace hB := Below.step hB hb
  clear hb
  go_wp2_with fail
  go_ret
  exact ⟨rfl, hB⟩

namespace LFnExactWrenchFor
open Go.ChangeShapes Go.WideShapes Go.ChangeAt Go.RowKit
open Go.ChangeMaps (open_string shut_string)
set_option linter.unusedVariables false
set_option maxRecDepth 100000 in
theorem lifted (os : Os) (started : os.Started) (H : Type) (enc : TypeId × Value → H) :
    ReturnsInHanded {} Try.checked os 7 .any (Rows.fnExactWrenchForSpec.pre6 enc Try.prog Try.f7 Rows.fnExactWrenchForRow.domain false) (Rows.fnExactWrenchForSpec.post enc Try.prog Try.f7 false true false false) := by
  refine returnsInHanded_of_change (C := Try.checked) own started (by kernel_rfl) Try.func7
    (ChangeSpec.witness6 (enc := enc) (C := Try.checked) false ⟨#[], #[.slice none 0 0, .int .i64 0], []⟩ 8 (by kernel_rfl) (by kernel_rfl) (by kernel_rfl) (by kernel_rfl)) ?_
  intro W base args ds gs before hval0 hW hcnd _
  have hval : ∀ (j : Nat) t v, Try.f7.params[j]? = some t → args[j]? = some v → Value.okWide Try.prog W .any base t v := hval0
  have hW' := hW
  obtain ⟨p, q, hA0, hV, rfl, hfz, hnd⟩ := hW
  have hA : DataW.TrodAll enc Try.prog W 0 (fun _ => true) true Try.f7.params.toList args.toList ds p := hA0
  rw [Try.params7] at hA hval
  obtain ⟨v0, vs0, d0, ds0, p0, q0, hargs, rfl, rfl, h0, r0⟩ := trodAll_cons hA
  obtain ⟨v1, vs1, d1, ds1, p1, q1, rfl, rfl, rfl, h1, r1⟩ := trodAll_cons r0
  obtain ⟨rfl, rfl, rfl⟩ := trodAll_nil r1
  obtain rfl : args = #[v0, v1] := by cases args; simp_all
  obtain ⟨rfl, rfl⟩ := trodVars_none hV
  have k0 := h0
  have lt0 : ∀ x ∈ p0, x.block < W.heap.size := by obtain ⟨m, hm⟩ := k0; exact DataW.trod_lt m _ _ _ hm
  obtain ⟨a0, len0, cap0, rfl⟩ := okWide_slice Try.underlying35 (hval 0 35 v0 rfl rfl)
  obtain ⟨xs0, w0, u0⟩ : ∃ xs : List Wrench, RowS eWrench W a0 len0 cap0 xs ∧ ∀ x ∈ xs, okWrench x := by
    obtain ⟨fuel, hf⟩ := h0
    exact openWrenchS (by simpa [Value.cells] using hf)
  have k1 := h1
  have lt1 : ∀ x ∈ p1, x.block < W.heap.size := by obtain ⟨m, hm⟩ := k1; exact DataW.trod_lt m _ _ _ hm
  obtain ⟨a1, rfl, rfl, rfl, w1⟩ := open_int Try.underlying2 (hval 1 2 v1 rfl rfl) h1
  clear hA0 hval0
  refine (walk_FnExactWrenchFor a0 len0 cap0 xs0 a1 W w0 u0 w1).mono fun e W' ⟨he, bel⟩ => ?_
  subst he
  exact ⟨_, rfl, _, _, _, [], _, [], hW', trodAll_mk1 (shut_bool Try.underlying4 _), (trodAll_cons_mk (Below.trod laidOut (by kernel_rfl) (of_decide_eq_true (by kernel_rfl)) k0 bel lt0) (trodAll_cons_mk (Below.trod laidOut (by kernel_rfl) (of_decide_eq_true (by kernel_rfl)) k1 bel lt1) trodAll_mk0)), rfl, bel.frame _, fun h => by cases h⟩
theorem over : Rows.fnExactWrenchForRow.holds Try.pinned (OpenSpec.ofChange Rows.fnExactWrenchForSpec) :=
  OpenClaim.holds_of_wide 7 Try.f7 rfl rfl rfl rfl rfl rfl rfl ⟨rfl, rfl, rfl, rfl, rfl⟩ rfl rfl rfl rfl rfl (by kernel_rfl) Try.func7 (by kernel_rfl)
    (of_decide_eq_true (by kernel_rfl)) (by unfold Func.isWrapper; first | (rw [if_pos (by decide +kernel)]; kernel_rfl) | (rw [if_neg (by decide +kernel)]; exact ⟨rfl, rfl⟩))
    (fun os started H enc _ => lifted os started H enc)
end LFnExactWrenchFor
/-- The statement. -/
theorem fnExactWrenchFor_holds : Rows.FnExactWrenchForSaid := LFnExactWrenchFor.over
#print axioms fnExactWrenchFor_holds

end Go.Proofs.Ytijmafppdbllfaa
