/- For all numbers of bolts, torques and stages the program's TightenPlan and the reference's TightenPlan answer the same. No condition. -/
import Derived.Test.YtijmafppdbllfaaPlanTI
import Derived.Test.YtijmafppdbllfaaPlanTS
import Derived.Test.YtijmafppdbllfaaLift
namespace Go.Proofs.Ytijmafppdbllfaa
open Go.RowKit

set_option maxHeartbeats 4000000 in
set_option maxRecDepth 20000 in
theorem walk_FnExactTightenPlan (a0 a1 a2 : Int) (w : World) (p0 : (Lit.int .i64 a0).wf = true) (p1 : (Lit.int .i64 a1).wf = true) (p2 : (Lit.int .i64 a2).wf = true) :
    Calls Try.prog 9 #[.int .i64 a0, .int .i64 a1, .int .i64 a2] w fun e w' => e = .returned (.bool true) ∧ Below w.heap.size w w' := by
  have hlen := TightenPlan_len a0 a1 a2
  have hcnt := cntInt64SS_le _ hlen
  have hbig := big_of hlen
  have HLEN := Lib.hid hlen
  have HBIG := Lib.hid hbig
  clear hlen hbig
  go_enter Try.func9, Try.ntmps9
  go_wp2_with fail
  refine (sTightenPlan_law a0 a1 a2 w p0 p1 p2).mono ?_
  rintro e w1 ⟨u0, rfl, ho0, hb1⟩
  have R0 := Lib.hid (RdP.of_own ho0 HBIG.out)
  clear ho0
  go_wp2_with fail
  refine (iTightenPlan_law a0 a1 a2 w1 p0 p1 p2).mono ?_
  rintro e w2 ⟨u1, rfl, ho1, hb2⟩
  have B2 := Lib.hid hb2
  have BW2 := Lib.hid (Below.step hb1 hb2)
  have O1 := Lib.hid ho1
  have hs1 := hb1.size
  clear ho1 hb1 hb2
  go_wp2_with fail
  refine (eqInt64SS_same u1 u0 _ w2 (RdP.of_own O1.out HBIG.out) (R0.out.below B2.out)).mono ?_
  rintro e w3 ⟨rfl, hb3⟩
  have O3 := Lib.hid (O1.out.below hb3)
  have B3 := Lib.hid (Below.step B2.out hb3)
  have BW3 := Lib.hid (Below.step BW2.out hb3)
  clear hb3
  go_wp2_with fail
  refine (markInt64SS_law u1 _ 1 w1.heap.size w3 O3.out HLEN.out (by omega) (by omega) B3.out.size).mono ?_
  rintro e w4 ⟨rfl, ho4, hb4⟩
  have O4 := Lib.hid ho4
  have B4 := Lib.hid (B3.out.trans hb4)
  have BW4 := Lib.hid (Below.trans BW3.out (hb4.mono hs1))
  clear ho4 hb4
  go_wp2_with fail
  refine (heldInt64SS_law u1 _ 1 w4 (RdP.of_own O4.out (by rw [mkInt64SS_len]; exact HBIG.out)) HLEN.out (by omega) (by omega)).mono ?_
  rintro e w5 ⟨rfl, hb5⟩
  have O5 := Lib.hid (O4.out.below hb5)
  have B5 := Lib.hid (Below.step B4.out hb5)
  have BW5 := Lib.hid (Below.step BW4.out hb5)
  clear hb5
  go_wp2_with fail
  refine (iTightenPlan_law a0 a1 a2 w5 p0 p1 p2).mono ?_
  rintro e w6 ⟨u6, rfl, ho6, hb6⟩
  have O6 := Lib.hid (O5.out.below hb6)
  have B6 := Lib.hid (Below.step B5.out hb6)
  have BW6 := Lib.hid (Below.step BW5.out hb6)
  have O7 := Lib.hid ho6
  clear hb6 ho6
  go_wp2_with fail
  refine (eqInt64SS_same u6 u0 _ w6 (RdP.of_own O7.out HBIG.out) (R0.out.below B6.out)).mono ?_
  rintro e w7 ⟨rfl, hb7⟩
  have O8 := Lib.hid (O6.out.below hb7)
  have BW7 := Lib.hid (Below.step BW6.out hb7)
  clear hb7
  go_wp2_with fail
  refine (heldInt64SS_law u1 _ 1 w7 (RdP.of_own O8.out (by rw [mkInt64SS_len]; exact HBIG.out)) HLEN.out (by omega) (by omega)).mono ?_
  rintro e w8 ⟨rfl, hb8⟩
  have BW8 := Lib.hid (Below.step BW7.out hb8)
  clear hb8
  go_wp2
  go_ret
  exact ⟨rfl, BW8.out⟩
namespace LFnExactTightenPlan
open Go.ChangeShapes Go.WideShapes Go.ChangeAt Go.RowKit
open Go.ChangeMaps (open_string shut_string)
set_option linter.unusedVariables false
set_option maxRecDepth 100000 in
theorem lifted (os : Os) (started : os.Started) (H : Type) (enc : TypeId × Value → H) :
    ReturnsInHanded {} Try.checked os 9 .any (Rows.fnExactTightenPlanSpec.pre6 enc Try.prog Try.f9 Rows.fnExactTightenPlanRow.domain false) (Rows.fnExactTightenPlanSpec.post enc Try.prog Try.f9 false true false false) := by
  refine returnsInHanded_of_change (C := Try.checked) own started (by kernel_rfl) Try.func9
    (ChangeSpec.witness6 (enc := enc) (C := Try.checked) false ⟨#[], #[.int .i64 0, .int .i64 0, .int .i64 0], []⟩ 8 (by kernel_rfl) (by kernel_rfl) (by kernel_rfl) (by kernel_rfl)) ?_
  intro W base args ds gs before hval0 hW hcnd _
  have hval : ∀ (j : Nat) t v, Try.f9.params[j]? = some t → args[j]? = some v → Value.okWide Try.prog W .any base t v := hval0
  have hW' := hW
  obtain ⟨p, q, hA0, hV, rfl, hfz, hnd⟩ := hW
  have hA : DataW.TrodAll enc Try.prog W 0 (fun _ => true) true Try.f9.params.toList args.toList ds p := hA0
  rw [Try.params9] at hA hval
  obtain ⟨v0, vs0, d0, ds0, p0, q0, hargs, rfl, rfl, h0, r0⟩ := trodAll_cons hA
  obtain ⟨v1, vs1, d1, ds1, p1, q1, rfl, rfl, rfl, h1, r1⟩ := trodAll_cons r0
  obtain ⟨v2, vs2, d2, ds2, p2, q2, rfl, rfl, rfl, h2, r2⟩ := trodAll_cons r1
  obtain ⟨rfl, rfl, rfl⟩ := trodAll_nil r2
  obtain rfl : args = #[v0, v1, v2] := by cases args; simp_all
  obtain ⟨rfl, rfl⟩ := trodVars_none hV
  have k0 := h0
  have lt0 : ∀ x ∈ p0, x.block < W.heap.size := by obtain ⟨m, hm⟩ := k0; exact DataW.trod_lt m _ _ _ hm
  obtain ⟨a0, rfl, rfl, rfl, w0⟩ := open_int Try.underlying2 (hval 0 2 v0 rfl rfl) h0
  have k1 := h1
  have lt1 : ∀ x ∈ p1, x.block < W.heap.size := by obtain ⟨m, hm⟩ := k1; exact DataW.trod_lt m _ _ _ hm
  obtain ⟨a1, rfl, rfl, rfl, w1⟩ := open_int Try.underlying2 (hval 1 2 v1 rfl rfl) h1
  have k2 := h2
  have lt2 : ∀ x ∈ p2, x.block < W.heap.size := by obtain ⟨m, hm⟩ := k2; exact DataW.trod_lt m _ _ _ hm
  obtain ⟨a2, rfl, rfl, rfl, w2⟩ := open_int Try.underlying2 (hval 2 2 v2 rfl rfl) h2
  clear hA0 hval0
  refine (walk_FnExactTightenPlan a0 a1 a2 W w0 w1 w2).mono fun e W' ⟨he, bel⟩ => ?_
  subst he
  exact ⟨_, rfl, _, _, _, [], _, [], hW', trodAll_mk1 (shut_bool Try.underlying4 _), (trodAll_cons_mk (Below.trod laidOut (by kernel_rfl) (of_decide_eq_true (by kernel_rfl)) k0 bel lt0) (trodAll_cons_mk (Below.trod laidOut (by kernel_rfl) (of_decide_eq_true (by kernel_rfl)) k1 bel lt1) (trodAll_cons_mk (Below.trod laidOut (by kernel_rfl) (of_decide_eq_true (by kernel_rfl)) k2 bel lt2) trodAll_mk0))), rfl, bel.frame _, fun h => by cases h⟩
theorem over : Rows.fnExactTightenPlanRow.holds Try.pinned (OpenSpec.ofChange Rows.fnExactTightenPlanSpec) :=
  OpenClaim.holds_of_wide 9 Try.f9 rfl rfl rfl rfl rfl rfl rfl ⟨rfl, rfl, rfl, rfl, rfl⟩ rfl rfl rfl rfl rfl (by kernel_rfl) Try.func9 (by kernel_rfl)
    (of_decide_eq_true (by kernel_rfl)) (by unfold Func.isWrapper; first | (rw [if_pos (by decide +kernel)]; kernel_rfl) | (rw [if_neg (by decide +kernel)]; exact ⟨rfl, rfl⟩))
    (fun os started H enc _ => lifted os started H enc)
end LFnExactTightenPlan
/-- The statement. -/
theorem fnExactTightenPlan_holds : Rows.FnExactTightenPlanSaid := LFnExactTightenPlan.over
#print axioms fnExactTightenPlan_holds

end Go.Proofs.Ytijmafppdbllfaa
