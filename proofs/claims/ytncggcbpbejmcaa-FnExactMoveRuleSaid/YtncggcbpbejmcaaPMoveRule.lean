/- For every list of rules and all places the program's MoveRule and the reference's MoveRule answer the same, and the rules are left as they were. No condition. -/
import Derived.Test.YtncggcbpbejmcaaMoveS
import Derived.Test.YtncggcbpbejmcaaORule
import Derived.Test.YtncggcbpbejmcaaMRule
import Derived.Test.YtncggcbpbejmcaaLift
namespace Go.Proofs.Ytncggcbpbejmcaa
open Go.RowKit

set_option maxHeartbeats 4000000 in
set_option maxRecDepth 20000 in
theorem walk_FnExactMoveRule (a0 : Option Addr) (len0 cap0 : Nat) (xs0 : List Rule) (a1 : Int) (a2 : Int) (w : World) (p0 : RowS eRule w a0 len0 cap0 xs0) (q0 : ∀ x ∈ xs0, okRule x) (p1 : (Lit.int .i64 a1).wf = true) (p2 : (Lit.int .i64 a2).wf = true) :
    Calls Try.prog 6 #[.slice a0 len0 cap0, .int .i64 a1, .int .i64 a2] w fun e w' => e = .returned (.bool true) ∧ Below w.heap.size w w' := by
  have hB : Below w.heap.size w w := Below.refl _ _
  have hmax0 := p0.max
  go_enter Try.func6, Try.ntmps6
  go_wp2_with fail
  by_cases hl0 : (len0 : Int) ≤ 1048576
  rotate_left
  · refine (szRuleS_big a0 len0 cap0 1048576 w (by omega) (by omega) hmax0 (by omega)).mono ?_
    rintro e w' ⟨rfl, rfl⟩
    go_wp2_with fail
    go_ret
    exact ⟨rfl, hB⟩
  have hI0 := p0.sl (by omega)
  have hn0 : xs0.length ≤ 1048576 := by rw [p0.len]; omega
  refine (szRuleS_ok _ xs0 1048576 w (by omega) (by omega) (hI0.below hB) q0).mono ?_
  rintro e W1 ⟨rfl, hb⟩
  have hsW1 := Lib.hid hb.size
  replace hB := Below.step hB hb
  clear hb
  by_cases ht0 : ((totRule xs0 : Nat) : Int) ≤ 1048576
  rotate_left
  · rw [szr_neg ht0]
    go_wp2_with fail
    go_ret
    exact ⟨rfl, hB⟩
  rw [szr_pos ht0]
  go_wp2_with fail
  refine (toRuleS_any _ xs0 W1 (hI0.below hB) hn0).mono ?_
  rintro e W2 ⟨t2, rfl, ho_t2, hb⟩
  have hk_t2 := Lib.hid (World.ownsRow.lt ho_t2)
  have hsW2 := Lib.hid hb.size
  replace hB := Below.step hB hb
  clear hb
  go_wp2_with fail
  refine (sMoveRule_law t2 xs0 a1 a2 W2 (Sl.of_own ho_t2 (big_of hn0)) hn0 p1 p2).mono ?_
  rintro e W3 ⟨v_w0, rfl, ho_w0, hb⟩
  have hk_w0 := Lib.hid (World.ownsRow.lt ho_w0)
  have hsW3 := Lib.hid hb.size
  replace ho_t2 := ho_t2.below hb
  replace hB := Below.step hB hb
  clear hb
  go_wp2_with fail
  refine (toRuleS_any _ xs0 W3 (hI0.below hB) hn0).mono ?_
  rintro e W4 ⟨t4, rfl, ho_t4, hb⟩
  have hk_t4 := Lib.hid (World.ownsRow.lt ho_t4)
  have hsW4 := Lib.hid hb.size
  replace ho_t2 := ho_t2.below hb
  replace ho_w0 := ho_w0.below hb
  replace hB := Below.step hB hb
  clear hb
  go_wp2_with fail
  refine (iMoveRule_law t4 xs0 a1 a2 W4 (Sl.of_own ho_t4 (big_of hn0)) hn0 p1 p2).mono ?_
  rintro e W5 ⟨v_g0, rfl, ho_g0, hb⟩
  have hk_g0 := Lib.hid (World.ownsRow.lt ho_g0)
  have hsW5 := Lib.hid hb.size
  replace ho_t2 := ho_t2.below hb
  replace ho_w0 := ho_w0.below hb
  replace ho_t4 := ho_t4.below hb
  replace hB := Below.step hB hb
  clear hb
  go_wp2_with fail
  refine (eqRuleS_same v_g0 v_w0 ((MoveRule_r xs0 a1 a2).1) W5 (Sl.of_own ho_g0 (big_of (MoveRule_len xs0 a1 a2))) (Sl.of_own ho_w0 (big_of (MoveRule_len xs0 a1 a2)))).mono ?_
  rintro e W6 ⟨rfl, hb⟩
  have hsW6 := Lib.hid hb.size
  replace ho_t2 := ho_t2.below hb
  replace ho_w0 := ho_w0.below hb
  replace ho_t4 := ho_t4.below hb
  replace ho_g0 := ho_g0.below hb
  replace hB := Below.step hB hb
  clear hb
  go_wp2_with fail
  refine (toRuleS_any _ xs0 W6 (hI0.below hB) hn0).mono ?_
  rintro e W7 ⟨t7, rfl, ho_t7, hb⟩
  have hk_t7 := Lib.hid (World.ownsRow.lt ho_t7)
  have hsW7 := Lib.hid hb.size
  replace ho_t2 := ho_t2.below hb
  replace ho_w0 := ho_w0.below hb
  replace ho_t4 := ho_t4.below hb
  replace ho_g0 := ho_g0.below hb
  replace hB := Below.step hB hb
  clear hb
  go_wp2_with fail
  refine (eqRuleS_same t4 t7 xs0 W7 (Sl.of_own ho_t4 (big_of hn0)) (Sl.of_own ho_t7 (big_of hn0))).mono ?_
  rintro e W8 ⟨rfl, hb⟩
  have hsW8 := Lib.hid hb.size
  replace ho_t2 := ho_t2.below hb
  replace ho_w0 := ho_w0.below hb
  replace ho_t4 := ho_t4.below hb
  replace ho_g0 := ho_g0.below hb
  replace ho_t7 := ho_t7.below hb
  replace hB := Below.step hB hb
  clear hb
  go_wp2_with fail
  have hcW9 := Lib.hid (cntRuleS_le xs0 hn0)
  refine (markRuleS_law t4 xs0 1 W3.heap.size W8 ho_t4 hn0 (by omega) (by have cW9 := hcW9.out; omega)).mono ?_
  rintro e W9 ⟨rfl, hn_t4, hg⟩
  replace ho_t2 := Own.kept ho_t2 hg (ne_lt hk_t2.out hk_t4.out (by have sW1 := hsW1.out; have sW2 := hsW2.out; have sW3 := hsW3.out; have sW4 := hsW4.out; have sW5 := hsW5.out; have sW6 := hsW6.out; have sW7 := hsW7.out; have sW8 := hsW8.out; omega))
  replace ho_w0 := Own.kept ho_w0 hg (ne_lt hk_w0.out hk_t4.out (by have sW1 := hsW1.out; have sW2 := hsW2.out; have sW3 := hsW3.out; have sW4 := hsW4.out; have sW5 := hsW5.out; have sW6 := hsW6.out; have sW7 := hsW7.out; have sW8 := hsW8.out; omega))
  replace ho_g0 := Own.kept ho_g0 hg (ne_lt hk_g0.out hk_t4.out (by have sW1 := hsW1.out; have sW2 := hsW2.out; have sW3 := hsW3.out; have sW4 := hsW4.out; have sW5 := hsW5.out; have sW6 := hsW6.out; have sW7 := hsW7.out; have sW8 := hsW8.out; omega))
  replace ho_t7 := Own.kept ho_t7 hg (ne_lt hk_t7.out hk_t4.out (by have sW1 := hsW1.out; have sW2 := hsW2.out; have sW3 := hsW3.out; have sW4 := hsW4.out; have sW5 := hsW5.out; have sW6 := hsW6.out; have sW7 := hsW7.out; have sW8 := hsW8.out; omega))
  replace ho_t4 := hn_t4
  have hsW9 := Lib.hid hg.size
  replace hB := hB.grown hg hB.size (fun k hk => by have hkk := hk_t4.out k hk; have sW1 := hsW1.out; have sW2 := hsW2.out; have sW3 := hsW3.out; have sW4 := hsW4.out; have sW5 := hsW5.out; have sW6 := hsW6.out; have sW7 := hsW7.out; have sW8 := hsW8.out; omega)
  clear hg
  go_wp2_with fail
  refine (eqRuleS_same v_g0 v_w0 ((MoveRule_r xs0 a1 a2).1) W9 (Sl.of_own ho_g0 (big_of (MoveRule_len xs0 a1 a2))) (Sl.of_own ho_w0 (big_of (MoveRule_len xs0 a1 a2)))).mono ?_
  rintro e W10 ⟨rfl, hb⟩
  have hsW10 := Lib.hid hb.size
  replace ho_t2 := ho_t2.below hb
  replace ho_w0 := ho_w0.below hb
  replace ho_t4 := ho_t4.below hb
  replace ho_g0 := ho_g0.below hb
  replace ho_t7 := ho_t7.below hb
  replace hB := Below.step hB hb
  clear hb
  go_wp2_with fail
  have hcW11 := Lib.hid (cntRuleS_le ((MoveRule_r xs0 a1 a2).1) (MoveRule_len xs0 a1 a2))
  refine (markRuleS_law v_g0 ((MoveRule_r xs0 a1 a2).1) 1 W4.heap.size W10 ho_g0 (MoveRule_len xs0 a1 a2) (by omega) (by have cW9 := hcW9.out; have cW11 := hcW11.out; omega)).mono ?_
  rintro e W11 ⟨rfl, hn_g0, hg⟩
  replace ho_t2 := Own.kept ho_t2 hg (ne_lt hk_t2.out hk_g0.out (by have sW1 := hsW1.out; have sW2 := hsW2.out; have sW3 := hsW3.out; have sW4 := hsW4.out; have sW5 := hsW5.out; have sW6 := hsW6.out; have sW7 := hsW7.out; have sW8 := hsW8.out; have sW9 := hsW9.out; have sW10 := hsW10.out; omega))
  replace ho_w0 := Own.kept ho_w0 hg (ne_lt hk_w0.out hk_g0.out (by have sW1 := hsW1.out; have sW2 := hsW2.out; have sW3 := hsW3.out; have sW4 := hsW4.out; have sW5 := hsW5.out; have sW6 := hsW6.out; have sW7 := hsW7.out; have sW8 := hsW8.out; have sW9 := hsW9.out; have sW10 := hsW10.out; omega))
  replace ho_t4 := Own.kept ho_t4 hg (ne_lt hk_t4.out hk_g0.out (by have sW1 := hsW1.out; have sW2 := hsW2.out; have sW3 := hsW3.out; have sW4 := hsW4.out; have sW5 := hsW5.out; have sW6 := hsW6.out; have sW7 := hsW7.out; have sW8 := hsW8.out; have sW9 := hsW9.out; have sW10 := hsW10.out; omega))
  replace ho_t7 := Own.kept ho_t7 hg (ne_lt hk_t7.out hk_g0.out (by have sW1 := hsW1.out; have sW2 := hsW2.out; have sW3 := hsW3.out; have sW4 := hsW4.out; have sW5 := hsW5.out; have sW6 := hsW6.out; have sW7 := hsW7.out; have sW8 := hsW8.out; have sW9 := hsW9.out; have sW10 := hsW10.out; omega))
  replace ho_g0 := hn_g0
  have hsW11 := Lib.hid hg.size
  replace hB := hB.grown hg hB.size (fun k hk => by have hkk := hk_g0.out k hk; have sW1 := hsW1.out; have sW2 := hsW2.out; have sW3 := hsW3.out; have sW4 := hsW4.out; have sW5 := hsW5.out; have sW6 := hsW6.out; have sW7 := hsW7.out; have sW8 := hsW8.out; have sW9 := hsW9.out; have sW10 := hsW10.out; omega)
  clear hg
  go_wp2_with fail
  refine (heldRuleS_law v_g0 ((MoveRule_r xs0 a1 a2).1) 1 W11 (Sl.of_own ho_g0 (by rw [mkRuleS_len]; exact (big_of (MoveRule_len xs0 a1 a2)))) (MoveRule_len xs0 a1 a2) (by omega) (by omega)).mono ?_
  rintro e W12 ⟨rfl, hb⟩
  have hsW12 := Lib.hid hb.size
  replace ho_t2 := ho_t2.below hb
  replace ho_w0 := ho_w0.below hb
  replace ho_t4 := ho_t4.below hb
  replace ho_g0 := ho_g0.below hb
  replace ho_t7 := ho_t7.below hb
  replace hB := Below.step hB hb
  clear hb
  go_wp2_with fail
  refine (toRuleS_any _ xs0 W12 (hI0.below hB) hn0).mono ?_
  rintro e W13 ⟨t13, rfl, ho_t13, hb⟩
  have hk_t13 := Lib.hid (World.ownsRow.lt ho_t13)
  have hsW13 := Lib.hid hb.size
  replace ho_t2 := ho_t2.below hb
  replace ho_w0 := ho_w0.below hb
  replace ho_t4 := ho_t4.below hb
  replace ho_g0 := ho_g0.below hb
  replace ho_t7 := ho_t7.below hb
  replace hB := Below.step hB hb
  clear hb
  go_wp2_with fail
  refine (iMoveRule_law t13 xs0 a1 a2 W13 (Sl.of_own ho_t13 (big_of hn0)) hn0 p1 p2).mono ?_
  rintro e W14 ⟨v_h0, rfl, ho_h0, hb⟩
  have hk_h0 := Lib.hid (World.ownsRow.lt ho_h0)
  have hsW14 := Lib.hid hb.size
  replace ho_t2 := ho_t2.below hb
  replace ho_w0 := ho_w0.below hb
  replace ho_t4 := ho_t4.below hb
  replace ho_g0 := ho_g0.below hb
  replace ho_t7 := ho_t7.below hb
  replace ho_t13 := ho_t13.below hb
  replace hB := Below.step hB hb
  clear hb
  go_wp2_with fail
  refine (eqRuleS_same v_h0 v_w0 ((MoveRule_r xs0 a1 a2).1) W14 (Sl.of_own ho_h0 (big_of (MoveRule_len xs0 a1 a2))) (Sl.of_own ho_w0 (big_of (MoveRule_len xs0 a1 a2)))).mono ?_
  rintro e W15 ⟨rfl, hb⟩
  have hsW15 := Lib.hid hb.size
  replace ho_t2 := ho_t2.below hb
  replace ho_w0 := ho_w0.below hb
  replace ho_t4 := ho_t4.below hb
  replace ho_g0 := ho_g0.below hb
  replace ho_t7 := ho_t7.below hb
  replace ho_t13 := ho_t13.below hb
  replace ho_h0 := ho_h0.below hb
  replace hB := Below.step hB hb
  clear hb
  go_wp2_with fail
  refine (heldRuleS_law v_g0 ((MoveRule_r xs0 a1 a2).1) 1 W15 (Sl.of_own ho_g0 (by rw [mkRuleS_len]; exact (big_of (MoveRule_len xs0 a1 a2)))) (MoveRule_len xs0 a1 a2) (by omega) (by omega)).mono ?_
  rintro e W16 ⟨rfl, hb⟩
  have hsW16 := Lib.hid hb.size
  replace ho_t2 := ho_t2.below hb
  replace ho_w0 := ho_w0.below hb
  replace ho_t4 := ho_t4.below hb
  replace ho_g0 := ho_g0.below hb
  replace ho_t7 := ho_t7.below hb
  replace ho_t13 := ho_t13.below hb
  replace ho_h0 := ho_h0.below hb
  replace hB := Below.step hB hb
  clear hb
  go_wp2_with fail
  go_ret
  exact ⟨rfl, hB⟩

namespace LFnExactMoveRule
open Go.ChangeShapes Go.WideShapes Go.ChangeAt Go.RowKit
open Go.ChangeMaps (open_string shut_string)
set_option linter.unusedVariables false
set_option maxRecDepth 100000 in
theorem lifted (os : Os) (started : os.Started) (H : Type) (enc : TypeId × Value → H) :
    ReturnsInHanded {} Try.checked os 6 .any (Rows.fnExactMoveRuleSpec.pre6 enc Try.prog Try.f6 Rows.fnExactMoveRuleRow.domain false) (Rows.fnExactMoveRuleSpec.post enc Try.prog Try.f6 false true false false) := by
  refine returnsInHanded_of_change (C := Try.checked) own started (by kernel_rfl) Try.func6
    (ChangeSpec.witness6 (enc := enc) (C := Try.checked) false ⟨#[], #[.slice none 0 0, .int .i64 0, .int .i64 0], []⟩ 8 (by kernel_rfl) (by kernel_rfl) (by kernel_rfl) (by kernel_rfl)) ?_
  intro W base args ds gs before hval0 hW hcnd _
  have hval : ∀ (j : Nat) t v, Try.f6.params[j]? = some t → args[j]? = some v → Value.okWide Try.prog W .any base t v := hval0
  have hW' := hW
  obtain ⟨p, q, hA0, hV, rfl, hfz, hnd⟩ := hW
  have hA : DataW.TrodAll enc Try.prog W 0 (fun _ => true) true Try.f6.params.toList args.toList ds p := hA0
  rw [Try.params6] at hA hval
  obtain ⟨v0, vs0, d0, ds0, p0, q0, hargs, rfl, rfl, h0, r0⟩ := trodAll_cons hA
  obtain ⟨v1, vs1, d1, ds1, p1, q1, rfl, rfl, rfl, h1, r1⟩ := trodAll_cons r0
  obtain ⟨v2, vs2, d2, ds2, p2, q2, rfl, rfl, rfl, h2, r2⟩ := trodAll_cons r1
  obtain ⟨rfl, rfl, rfl⟩ := trodAll_nil r2
  obtain rfl : args = #[v0, v1, v2] := by cases args; simp_all
  obtain ⟨rfl, rfl⟩ := trodVars_none hV
  have k0 := h0
  have lt0 : ∀ x ∈ p0, x.block < W.heap.size := by obtain ⟨m, hm⟩ := k0; exact DataW.trod_lt m _ _ _ hm
  obtain ⟨a0, len0, cap0, rfl⟩ := okWide_slice Try.underlying22 (hval 0 22 v0 rfl rfl)
  obtain ⟨xs0, w0, u0⟩ : ∃ xs : List Rule, RowS eRule W a0 len0 cap0 xs ∧ ∀ x ∈ xs, okRule x := by
    obtain ⟨fuel, hf⟩ := h0
    exact openRuleS (by simpa [Value.cells] using hf)
  have k1 := h1
  have lt1 : ∀ x ∈ p1, x.block < W.heap.size := by obtain ⟨m, hm⟩ := k1; exact DataW.trod_lt m _ _ _ hm
  obtain ⟨a1, rfl, rfl, rfl, w1⟩ := open_int Try.underlying2 (hval 1 2 v1 rfl rfl) h1
  have k2 := h2
  have lt2 : ∀ x ∈ p2, x.block < W.heap.size := by obtain ⟨m, hm⟩ := k2; exact DataW.trod_lt m _ _ _ hm
  obtain ⟨a2, rfl, rfl, rfl, w2⟩ := open_int Try.underlying2 (hval 2 2 v2 rfl rfl) h2
  clear hA0 hval0
  refine (walk_FnExactMoveRule a0 len0 cap0 xs0 a1 a2 W w0 u0 w1 w2).mono fun e W' ⟨he, bel⟩ => ?_
  subst he
  exact ⟨_, rfl, _, _, _, [], _, [], hW', trodAll_mk1 (shut_bool Try.underlying4 _), (trodAll_cons_mk (Below.trod laidOut (by kernel_rfl) (of_decide_eq_true (by kernel_rfl)) k0 bel lt0) (trodAll_cons_mk (Below.trod laidOut (by kernel_rfl) (of_decide_eq_true (by kernel_rfl)) k1 bel lt1) (trodAll_cons_mk (Below.trod laidOut (by kernel_rfl) (of_decide_eq_true (by kernel_rfl)) k2 bel lt2) trodAll_mk0))), rfl, bel.frame _, fun h => by cases h⟩
theorem over : Rows.fnExactMoveRuleRow.holds Try.pinned (OpenSpec.ofChange Rows.fnExactMoveRuleSpec) :=
  OpenClaim.holds_of_wide 6 Try.f6 rfl rfl rfl rfl rfl rfl rfl ⟨rfl, rfl, rfl, rfl, rfl⟩ rfl rfl rfl rfl rfl (by kernel_rfl) Try.func6 (by kernel_rfl)
    (of_decide_eq_true (by kernel_rfl)) (by unfold Func.isWrapper; first | (rw [if_pos (by decide +kernel)]; kernel_rfl) | (rw [if_neg (by decide +kernel)]; exact ⟨rfl, rfl⟩))
    (fun os started H enc _ => lifted os started H enc)
end LFnExactMoveRule
/-- The statement. -/
theorem fnExactMoveRule_holds : Rows.FnExactMoveRuleSaid := LFnExactMoveRule.over
#print axioms fnExactMoveRule_holds

end Go.Proofs.Ytncggcbpbejmcaa
