/- For all numbers the program's SplitTotal and the reference's SplitTotal answer the same, at a second call too, and the answer is new memory each time. No condition. -/
import Derived.Test.YtfiapefkomolmaaSplit
import Derived.Test.YtfiapefkomolmaaLift
namespace Go.Proofs.Ytfiapefkomolmaa
open Go.RowKit

set_option maxHeartbeats 4000000 in
set_option maxRecDepth 20000 in
theorem walk_FnExactSplitTotal (a0 : Int) (a1 : Int) (w : World) (p0 : (Lit.int .i64 a0).wf = true) (p1 : (Lit.int .i64 a1).wf = true) :
    Calls Try.prog 3 #[.int .i64 a0, .int .i64 a1] w fun e w' => e = .returned (.bool true) ∧ Below w.heap.size w w' := by
  have hB : Below w.heap.size w w := Below.refl _ _
  go_enter Try.func3, Try.ntmps3
  go_wp2_with fail
  refine (sSplitTotal_law a0 a1 w p0 p1).mono ?_
  rintro e W1 ⟨v_w0, rfl, ho_w0, hb⟩
  have hk_w0 := Lib.hid (World.ownsRow.lt ho_w0)
  have hsW1 := Lib.hid hb.size
  replace hB := Below.step hB hb
  clear hb
  go_wp2_with fail
  refine (iSplitTotal_law a0 a1 W1 p0 p1).mono ?_
  rintro e W2 ⟨v_g0, rfl, ho_g0, hb⟩
  have hk_g0 := Lib.hid (World.ownsRow.lt ho_g0)
  have hsW2 := Lib.hid hb.size
  replace ho_w0 := ho_w0.below hb
  replace hB := Below.step hB hb
  clear hb
  go_wp2_with fail
  refine (eqInt64S_same v_g0 v_w0 ((SplitTotal_r a0 a1).1) W2 (Sl.of_own ho_g0 (big_of (SplitTotal_len a0 a1))) (Sl.of_own ho_w0 (big_of (SplitTotal_len a0 a1)))).mono ?_
  rintro e W3 ⟨rfl, hb⟩
  have hsW3 := Lib.hid hb.size
  replace ho_w0 := ho_w0.below hb
  replace ho_g0 := ho_g0.below hb
  replace hB := Below.step hB hb
  clear hb
  go_wp2_with fail
  have hcW4 := Lib.hid (cntInt64S_le ((SplitTotal_r a0 a1).1) (SplitTotal_len a0 a1))
  refine (markInt64S_law v_g0 ((SplitTotal_r a0 a1).1) 1 W1.heap.size W3 ho_g0 (SplitTotal_len a0 a1) (by omega) (by have cW4 := hcW4.out; omega)).mono ?_
  rintro e W4 ⟨rfl, hn_g0, hg⟩
  replace ho_w0 := Own.kept ho_w0 hg (ne_lt hk_w0.out hk_g0.out (by have sW1 := hsW1.out; have sW2 := hsW2.out; have sW3 := hsW3.out; omega))
  replace ho_g0 := hn_g0
  have hsW4 := Lib.hid hg.size
  replace hB := hB.grown hg hB.size (fun k hk => by have hkk := hk_g0.out k hk; have sW1 := hsW1.out; have sW2 := hsW2.out; have sW3 := hsW3.out; omega)
  clear hg
  go_wp2_with fail
  refine (heldInt64S_law v_g0 ((SplitTotal_r a0 a1).1) 1 W4 (Sl.of_own ho_g0 (by rw [mkInt64S_len]; exact (big_of (SplitTotal_len a0 a1)))) (SplitTotal_len a0 a1) (by omega) (by omega)).mono ?_
  rintro e W5 ⟨rfl, hb⟩
  have hsW5 := Lib.hid hb.size
  replace ho_w0 := ho_w0.below hb
  replace ho_g0 := ho_g0.below hb
  replace hB := Below.step hB hb
  clear hb
  go_wp2_with fail
  refine (iSplitTotal_law a0 a1 W5 p0 p1).mono ?_
  rintro e W6 ⟨v_h0, rfl, ho_h0, hb⟩
  have hk_h0 := Lib.hid (World.ownsRow.lt ho_h0)
  have hsW6 := Lib.hid hb.size
  replace ho_w0 := ho_w0.below hb
  replace ho_g0 := ho_g0.below hb
  replace hB := Below.step hB hb
  clear hb
  go_wp2_with fail
  refine (eqInt64S_same v_h0 v_w0 ((SplitTotal_r a0 a1).1) W6 (Sl.of_own ho_h0 (big_of (SplitTotal_len a0 a1))) (Sl.of_own ho_w0 (big_of (SplitTotal_len a0 a1)))).mono ?_
  rintro e W7 ⟨rfl, hb⟩
  have hsW7 := Lib.hid hb.size
  replace ho_w0 := ho_w0.below hb
  replace ho_g0 := ho_g0.below hb
  replace ho_h0 := ho_h0.below hb
  replace hB := Below.step hB hb
  clear hb
  go_wp2_with fail
  refine (heldInt64S_law v_g0 ((SplitTotal_r a0 a1).1) 1 W7 (Sl.of_own ho_g0 (by rw [mkInt64S_len]; exact (big_of (SplitTotal_len a0 a1)))) (SplitTotal_len a0 a1) (by omega) (by omega)).mono ?_
  rintro e W8 ⟨rfl, hb⟩
  have hsW8 := Lib.hid hb.size
  replace ho_w0 := ho_w0.below hb
  replace ho_g0 := ho_g0.below hb
  replace ho_h0 := ho_h0.below hb
  replace hB := Below.step hB hb
  clear hb
  go_wp2_with fail
  go_ret
  exact ⟨rfl, hB⟩

namespace LFnExactSplitTotal
open Go.ChangeShapes Go.WideShapes Go.ChangeAt Go.RowKit
open Go.ChangeMaps (open_string shut_string)
set_option linter.unusedVariables false
set_option maxRecDepth 100000 in
theorem lifted (os : Os) (started : os.Started) (H : Type) (enc : TypeId × Value → H) :
    ReturnsInHanded {} Try.checked os 3 .any (Rows.fnExactSplitTotalSpec.pre6 enc Try.prog Try.f3 Rows.fnExactSplitTotalRow.domain false) (Rows.fnExactSplitTotalSpec.post enc Try.prog Try.f3 false true false false) := by
  refine returnsInHanded_of_change (C := Try.checked) own started (by kernel_rfl) Try.func3
    (ChangeSpec.witness6 (enc := enc) (C := Try.checked) false ⟨#[], #[.int .i64 0, .int .i64 0], []⟩ 8 (by kernel_rfl) (by kernel_rfl) (by kernel_rfl) (by kernel_rfl)) ?_
  intro W base args ds gs before hval0 hW hcnd _
  have hval : ∀ (j : Nat) t v, Try.f3.params[j]? = some t → args[j]? = some v → Value.okWide Try.prog W .any base t v := hval0
  have hW' := hW
  obtain ⟨p, q, hA0, hV, rfl, hfz, hnd⟩ := hW
  have hA : DataW.TrodAll enc Try.prog W 0 (fun _ => true) true Try.f3.params.toList args.toList ds p := hA0
  rw [Try.params3] at hA hval
  obtain ⟨v0, vs0, d0, ds0, p0, q0, hargs, rfl, rfl, h0, r0⟩ := trodAll_cons hA
  obtain ⟨v1, vs1, d1, ds1, p1, q1, rfl, rfl, rfl, h1, r1⟩ := trodAll_cons r0
  obtain ⟨rfl, rfl, rfl⟩ := trodAll_nil r1
  obtain rfl : args = #[v0, v1] := by cases args; simp_all
  obtain ⟨rfl, rfl⟩ := trodVars_none hV
  have k0 := h0
  have lt0 : ∀ x ∈ p0, x.block < W.heap.size := by obtain ⟨m, hm⟩ := k0; exact DataW.trod_lt m _ _ _ hm
  obtain ⟨a0, rfl, rfl, rfl, w0⟩ := open_int Try.underlying2 (hval 0 2 v0 rfl rfl) h0
  have k1 := h1
  have lt1 : ∀ x ∈ p1, x.block < W.heap.size := by obtain ⟨m, hm⟩ := k1; exact DataW.trod_lt m _ _ _ hm
  obtain ⟨a1, rfl, rfl, rfl, w1⟩ := open_int Try.underlying2 (hval 1 2 v1 rfl rfl) h1
  clear hA0 hval0
  refine (walk_FnExactSplitTotal a0 a1 W w0 w1).mono fun e W' ⟨he, bel⟩ => ?_
  subst he
  exact ⟨_, rfl, _, _, _, [], _, [], hW', trodAll_mk1 (shut_bool Try.underlying4 _), (trodAll_cons_mk (Below.trod laidOut (by kernel_rfl) (of_decide_eq_true (by kernel_rfl)) k0 bel lt0) (trodAll_cons_mk (Below.trod laidOut (by kernel_rfl) (of_decide_eq_true (by kernel_rfl)) k1 bel lt1) trodAll_mk0)), rfl, bel.frame _, fun h => by cases h⟩
theorem over : Rows.fnExactSplitTotalRow.holds Try.pinned (OpenSpec.ofChange Rows.fnExactSplitTotalSpec) :=
  OpenClaim.holds_of_wide 3 Try.f3 rfl rfl rfl rfl rfl rfl rfl ⟨rfl, rfl, rfl, rfl, rfl⟩ rfl rfl rfl rfl rfl (by kernel_rfl) Try.func3 (by kernel_rfl)
    (of_decide_eq_true (by kernel_rfl)) (by unfold Func.isWrapper; first | (rw [if_pos (by decide +kernel)]; kernel_rfl) | (rw [if_neg (by decide +kernel)]; exact ⟨rfl, rfl⟩))
    (fun os started H enc _ => lifted os started H enc)
end LFnExactSplitTotal
/-- The statement. -/
theorem fnExactSplitTotal_holds : Rows.FnExactSplitTotalSaid := LFnExactSplitTotal.over
#print axioms fnExactSplitTotal_holds

end Go.Proofs.Ytfiapefkomolmaa
