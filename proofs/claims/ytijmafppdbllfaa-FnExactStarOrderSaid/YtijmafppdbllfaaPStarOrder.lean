/- For every number the program's StarOrder and the reference's StarOrder answer the same, at a second call too, and the answer is new memory each time. No condition. -/
import Derived.Test.YtijmafppdbllfaaStarL
import Derived.Test.YtijmafppdbllfaaLift
namespace Go.Proofs.Ytijmafppdbllfaa
open Go.RowKit

set_option maxHeartbeats 4000000 in
set_option maxRecDepth 20000 in
theorem walk_FnExactStarOrder (a0 : Int) (w : World) (p0 : (Lit.int .i64 a0).wf = true) :
    Calls Try.prog 6 #[.int .i64 a0] w fun e w' => e = .returned (.bool true) ∧ Below w.heap.size w w' := by
  have hB : Below w.heap.size w w := Below.refl _ _
  go_enter Try.func6, Try.ntmps6
  go_wp2_with fail
  refine (sStarOrder_law a0 w p0).mono ?_
  rintro e W1 ⟨v_w0, rfl, ho_w0, hb⟩
  have hk_w0 := Lib.hid (World.ownsRow.lt ho_w0)
  have hsW1 := Lib.hid hb.size
  replace hB := Below.step hB hb
  clear hb
  go_wp2_with fail
  refine (iStarOrder_law a0 W1 p0).mono ?_
  rintro e W2 ⟨v_g0, rfl, ho_g0, hb⟩
  have hk_g0 := Lib.hid (World.ownsRow.lt ho_g0)
  have hsW2 := Lib.hid hb.size
  replace ho_w0 := ho_w0.below hb
  replace hB := Below.step hB hb
  clear hb
  go_wp2_with fail
  refine (eqInt64S_same v_g0 v_w0 ((StarOrder_r a0).1) W2 (Sl.of_own ho_g0 (big_of (StarOrder_len a0))) (Sl.of_own ho_w0 (big_of (StarOrder_len a0)))).mono ?_
  rintro e W3 ⟨rfl, hb⟩
  have hsW3 := Lib.hid hb.size
  replace ho_w0 := ho_w0.below hb
  replace ho_g0 := ho_g0.below hb
  replace hB := Below.step hB hb
  clear hb
  go_wp2_with fail
  have hcW4 := Lib.hid (cntInt64S_le ((StarOrder_r a0).1) (StarOrder_len a0))
  refine (markInt64S_law v_g0 ((StarOrder_r a0).1) 1 W1.heap.size W3 ho_g0 (StarOrder_len a0) (by omega) (by have cW4 := hcW4.out; omega)).mono ?_
  rintro e W4 ⟨rfl, hn_g0, hg⟩
  replace ho_w0 := Own.kept ho_w0 hg (ne_lt hk_w0.out hk_g0.out (by have sW1 := hsW1.out; have sW2 := hsW2.out; have sW3 := hsW3.out; omega))
  replace ho_g0 := hn_g0
  have hsW4 := Lib.hid hg.size
  replace hB := hB.grown hg hB.size (fun k hk => by have hkk := hk_g0.out k hk; have sW1 := hsW1.out; have sW2 := hsW2.out; have sW3 := hsW3.out; omega)
  clear hg
  go_wp2_with fail
  refine (heldInt64S_law v_g0 ((StarOrder_r a0).1) 1 W4 (Sl.of_own ho_g0 (by rw [mkInt64S_len]; exact (big_of (StarOrder_len a0)))) (StarOrder_len a0) (by omega) (by omega)).mono ?_
  rintro e W5 ⟨rfl, hb⟩
  have hsW5 := Lib.hid hb.size
  replace ho_w0 := ho_w0.below hb
  replace ho_g0 := ho_g0.below hb
  replace hB := Below.step hB hb
  clear hb
  go_wp2_with fail
  refine (iStarOrder_law a0 W5 p0).mono ?_
  rintro e W6 ⟨v_h0, rfl, ho_h0, hb⟩
  have hk_h0 := Lib.hid (World.ownsRow.lt ho_h0)
  have hsW6 := Lib.hid hb.size
  replace ho_w0 := ho_w0.below hb
  replace ho_g0 := ho_g0.below hb
  replace hB := Below.step hB hb
  clear hb
  go_wp2_with fail
  refine (eqInt64S_same v_h0 v_w0 ((StarOrder_r a0).1) W6 (Sl.of_own ho_h0 (big_of (StarOrder_len a0))) (Sl.of_own ho_w0 (big_of (StarOrder_len a0)))).mono ?_
  rintro e W7 ⟨rfl, hb⟩
  have hsW7 := Lib.hid hb.size
  replace ho_w0 := ho_w0.below hb
  replace ho_g0 := ho_g0.below hb
  replace ho_h0 := ho_h0.below hb
  replace hB := Below.step hB hb
  clear hb
  go_wp2_with fail
  refine (heldInt64S_law v_g0 ((StarOrder_r a0).1) 1 W7 (Sl.of_own ho_g0 (by rw [mkInt64S_len]; exact (big_of (StarOrder_len a0)))) (StarOrder_len a0) (by omega) (by omega)).mono ?_
  rintro e W8 ⟨rfl, hb⟩
  have hsW8 := Lib.hid hb.size
  replace ho_w0 := ho_w0.below hb
  replace ho_g0 := ho_g0.below hb
  replace ho_h0 := ho_h0.below hb
  replace hB := Below.step hB hb
  clear hb
  go_wp2_with fail
  go_ret
  exact ⟨rfl, hB⟩

namespace LFnExactStarOrder
open Go.ChangeShapes Go.WideShapes Go.ChangeAt Go.RowKit
open Go.ChangeMaps (open_string shut_string)
set_option linter.unusedVariables false
set_option maxRecDepth 100000 in
theorem lifted (os : Os) (started : os.Started) (H : Type) (enc : TypeId × Value → H) :
    ReturnsInHanded {} Try.checked os 6 .any (Rows.fnExactStarOrderSpec.pre6 enc Try.prog Try.f6 Rows.fnExactStarOrderRow.domain false) (Rows.fnExactStarOrderSpec.post enc Try.prog Try.f6 false true false false) := by
  refine returnsInHanded_of_change (C := Try.checked) own started (by kernel_rfl) Try.func6
    (ChangeSpec.witness6 (enc := enc) (C := Try.checked) false ⟨#[], #[.int .i64 0], []⟩ 8 (by kernel_rfl) (by kernel_rfl) (by kernel_rfl) (by kernel_rfl)) ?_
  intro W base args ds gs before hval0 hW hcnd _
  have hval : ∀ (j : Nat) t v, Try.f6.params[j]? = some t → args[j]? = some v → Value.okWide Try.prog W .any base t v := hval0
  have hW' := hW
  obtain ⟨p, q, hA0, hV, rfl, hfz, hnd⟩ := hW
  have hA : DataW.TrodAll enc Try.prog W 0 (fun _ => true) true Try.f6.params.toList args.toList ds p := hA0
  rw [Try.params6] at hA hval
  obtain ⟨v0, vs0, d0, ds0, p0, q0, hargs, rfl, rfl, h0, r0⟩ := trodAll_cons hA
  obtain ⟨rfl, rfl, rfl⟩ := trodAll_nil r0
  obtain rfl : args = #[v0] := by cases args; simp_all
  obtain ⟨rfl, rfl⟩ := trodVars_none hV
  have k0 := h0
  have lt0 : ∀ x ∈ p0, x.block < W.heap.size := by obtain ⟨m, hm⟩ := k0; exact DataW.trod_lt m _ _ _ hm
  obtain ⟨a0, rfl, rfl, rfl, w0⟩ := open_int Try.underlying2 (hval 0 2 v0 rfl rfl) h0
  clear hA0 hval0
  refine (walk_FnExactStarOrder a0 W w0).mono fun e W' ⟨he, bel⟩ => ?_
  subst he
  exact ⟨_, rfl, _, _, _, [], _, [], hW', trodAll_mk1 (shut_bool Try.underlying4 _), (trodAll_cons_mk (Below.trod laidOut (by kernel_rfl) (of_decide_eq_true (by kernel_rfl)) k0 bel lt0) trodAll_mk0), rfl, bel.frame _, fun h => by cases h⟩
theorem over : Rows.fnExactStarOrderRow.holds Try.pinned (OpenSpec.ofChange Rows.fnExactStarOrderSpec) :=
  OpenClaim.holds_of_wide 6 Try.f6 rfl rfl rfl rfl rfl rfl rfl ⟨rfl, rfl, rfl, rfl, rfl⟩ rfl rfl rfl rfl rfl (by kernel_rfl) Try.func6 (by kernel_rfl)
    (of_decide_eq_true (by kernel_rfl)) (by unfold Func.isWrapper; first | (rw [if_pos (by decide +kernel)]; kernel_rfl) | (rw [if_neg (by decide +kernel)]; exact ⟨rfl, rfl⟩))
    (fun os started H enc _ => lifted os started H enc)
end LFnExactStarOrder
/-- The statement. -/
theorem fnExactStarOrder_holds : Rows.FnExactStarOrderSaid := LFnExactStarOrder.over
#print axioms fnExactStarOrder_holds

end Go.Proofs.Ytijmafppdbllfaa
