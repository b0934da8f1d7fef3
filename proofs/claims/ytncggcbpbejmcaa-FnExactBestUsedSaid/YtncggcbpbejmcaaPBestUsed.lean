/- For all rules and every list of parts the program's BestUsed and the reference's BestUsed answer the same, and the lists are left as they were. No condition. -/
import Derived.Test.YtncggcbpbejmcaaLBestUsed
import Derived.Test.YtncggcbpbejmcaaORule
import Derived.Test.YtncggcbpbejmcaaOUsed
namespace Go.Proofs.Ytncggcbpbejmcaa
open Go.RowKit

set_option maxHeartbeats 4000000 in
set_option maxRecDepth 20000 in
theorem walk_FnExactBestUsed (a0 : Option Addr) (len0 cap0 : Nat) (xs0 : List Rule) (a1 : Option Addr) (len1 cap1 : Nat) (xs1 : List Used) (w : World) (p0 : RowS eRule w a0 len0 cap0 xs0) (q0 : ∀ x ∈ xs0, okRule x) (p1 : RowS eUsed w a1 len1 cap1 xs1) (q1 : ∀ x ∈ xs1, okUsed x) :
    Calls Try.prog 10 #[.slice a0 len0 cap0, .slice a1 len1 cap1] w fun e w' => e = .returned (.bool true) ∧ Below w.heap.size w w' := by
  have hB : Below w.heap.size w w := Below.refl _ _
  have hmax0 := p0.max
  have hmax1 := p1.max
  go_enter Try.func10, Try.ntmps10
  go_wp2_with fail
  by_cases hl0 : (len0 : Int) ≤ 1048576
  rotate_left
  · refine (szRuleS_big a0 len0 cap0 1048576 w (by omega) (by omega) hmax0 (by omega)).mono ?_
    rintro e w' ⟨rfl, rfl⟩
    go_wp2_with fail
    go_ret
    exact ⟨rfl, hB⟩
  have hI0 := p0.sl (by omega)
  have hn0 : xs0.length ≤ 1048576 := by rw [p0.len]; omega
  refine (szRuleS_ok _ xs0 1048576 w (by omega) (by omega) (hI0.below hB) q0).mono ?_
  rintro e W1 ⟨rfl, hb⟩
  have hsW1 := Lib.hid hb.size
  replace hB := Below.step hB hb
  clear hb
  by_cases ht0 : ((totRule xs0 : Nat) : Int) ≤ 1048576
  rotate_left
  · rw [szr_neg ht0]
    go_wp2_with fail
    go_ret
    exact ⟨rfl, hB⟩
  rw [szr_pos ht0]
  go_wp2_with fail
  by_cases hl1 : (len1 : Int) ≤ (1048576 - ((totRule xs0 : Nat) : Int))
  rotate_left
  · refine (szUsedS_big a1 len1 cap1 (1048576 - ((totRule xs0 : Nat) : Int)) W1 (by omega) (by omega) hmax1 (by omega)).mono ?_
    rintro e w' ⟨rfl, rfl⟩
    go_wp2_with fail
    go_ret
    exact ⟨rfl, hB⟩
  have hI1 := p1.sl (by omega)
  have hn1 : xs1.length ≤ 1048576 := by rw [p1.len]; omega
  refine (szUsedS_ok _ xs1 (1048576 - ((totRule xs0 : Nat) : Int)) W1 (by omega) (by omega) (hI1.below hB) q1).mono ?_
  rintro e W2 ⟨rfl, hb⟩
  have hsW2 := Lib.hid hb.size
  replace hB := Below.step hB hb
  clear hb
  by_cases ht1 : ((totUsed xs1 : Nat) : Int) ≤ (1048576 - ((totRule xs0 : Nat) : Int))
  rotate_left
  · rw [szr_neg ht1]
    go_wp2_with fail
    go_ret
    exact ⟨rfl, hB⟩
  rw [szr_pos ht1]
  go_wp2_with fail
  refine (toRuleS_any _ xs0 W2 (hI0.below hB) hn0).mono ?_
  rintro e W3 ⟨t3, rfl, ho_t3, hb⟩
  have hk_t3 := Lib.hid (World.ownsRow.lt ho_t3)
  have hsW3 := Lib.hid hb.size
  replace hB := Below.step hB hb
  clear hb
  go_wp2_with fail
  refine (toUsedS_any _ xs1 W3 (hI1.below hB) hn1).mono ?_
  rintro e W4 ⟨t4, rfl, ho_t4, hb⟩
  have hk_t4 := Lib.hid (World.ownsRow.lt ho_t4)
  have hsW4 := Lib.hid hb.size
  replace ho_t3 := ho_t3.below hb
  replace hB := Below.step hB hb
  clear hb
  go_wp2_with fail
  refine (sBestUsed_law t3 xs0 t4 xs1 W4 (Sl.of_own ho_t3 (big_of hn0)) hn0 (Sl.of_own ho_t4 (big_of hn1)) hn1 q1).mono ?_
  rintro e W5 ⟨rfl, hb⟩
  have hsW5 := Lib.hid hb.size
  replace ho_t3 := ho_t3.below hb
  replace ho_t4 := ho_t4.below hb
  replace hB := Below.step hB hb
  clear hb
  go_wp2_with fail
  refine (toRuleS_any _ xs0 W5 (hI0.below hB) hn0).mono ?_
  rintro e W6 ⟨t6, rfl, ho_t6, hb⟩
  have hk_t6 := Lib.hid (World.ownsRow.lt ho_t6)
  have hsW6 := Lib.hid hb.size
  replace ho_t3 := ho_t3.below hb
  replace ho_t4 := ho_t4.below hb
  replace hB := Below.step hB hb
  clear hb
  go_wp2_with fail
  refine (toUsedS_any _ xs1 W6 (hI1.below hB) hn1).mono ?_
  rintro e W7 ⟨t7, rfl, ho_t7, hb⟩
  have hk_t7 := Lib.hid (World.ownsRow.lt ho_t7)
  have hsW7 := Lib.hid hb.size
  replace ho_t3 := ho_t3.below hb
  replace ho_t4 := ho_t4.below hb
  replace ho_t6 := ho_t6.below hb
  replace hB := Below.step hB hb
  clear hb
  go_wp2_with fail
  refine (iBestUsed_law t6 xs0 t7 xs1 W7 (Sl.of_own ho_t6 (big_of hn0)) hn0 (Sl.of_own ho_t7 (big_of hn1)) hn1 q1).mono ?_
  rintro e W8 ⟨rfl, hb⟩
  have hsW8 := Lib.hid hb.size
  replace ho_t3 := ho_t3.below hb
  replace ho_t4 := ho_t4.below hb
  replace ho_t6 := ho_t6.below hb
  replace ho_t7 := ho_t7.below hb
  replace hB := Below.step hB hb
  clear hb
  go_wp2_with fail
  refine (toRuleS_any _ xs0 W8 (hI0.below hB) hn0).mono ?_
  rintro e W9 ⟨t9, rfl, ho_t9, hb⟩
  have hk_t9 := Lib.hid (World.ownsRow.lt ho_t9)
  have hsW9 := Lib.hid hb.size
  replace ho_t3 := ho_t3.below hb
  replace ho_t4 := ho_t4.below hb
  replace ho_t6 := ho_t6.below hb
  replace ho_t7 := ho_t7.below hb
  replace hB := Below.step hB hb
  clear hb
  go_wp2_with fail
  refine (eqRuleS_same t6 t9 xs0 W9 (Sl.of_own ho_t6 (big_of hn0)) (Sl.of_own ho_t9 (big_of hn0))).mono ?_
  rintro e W10 ⟨rfl, hb⟩
  have hsW10 := Lib.hid hb.size
  replace ho_t3 := ho_t3.below hb
  replace ho_t4 := ho_t4.below hb
  replace ho_t6 := ho_t6.below hb
  replace ho_t7 := ho_t7.below hb
  replace ho_t9 := ho_t9.below hb
  replace hB := Below.step hB hb
  clear hb
  go_wp2_with fail
  refine (toUsedS_any _ xs1 W10 (hI1.below hB) hn1).mono ?_
  rintro e W11 ⟨t11, rfl, ho_t11, hb⟩
  have hk_t11 := Lib.hid (World.ownsRow.lt ho_t11)
  have hsW11 := Lib.hid hb.size
  replace ho_t3 := ho_t3.below hb
  replace ho_t4 := ho_t4.below hb
  replace ho_t6 := ho_t6.below hb
  replace ho_t7 := ho_t7.below hb
  replace ho_t9 := ho_t9.below hb
  replace hB := Below.step hB hb
  clear hb
  go_wp2_with fail
  refine (eqUsedS_same t7 t11 xs1 W11 (Sl.of_own ho_t7 (big_of hn1)) (Sl.of_own ho_t11 (big_of hn1))).mono ?_
  rintro e W12 ⟨rfl, hb⟩
  have hsW12 := Lib.hid hb.size
  replace ho_t3 := ho_t3.below hb
  replace ho_t4 := ho_t4.below hb
  replace ho_t6 := ho_t6.below hb
  replace ho_t7 := ho_t7.below hb
  replace ho_t9 := ho_t9.below hb
  replace ho_t11 := ho_t11.below hb
  replace hB := Below.step hB hb
  clear hb
  go_wp2_with fail
  go_ret
  exact ⟨rfl, hB⟩

namespace LFnExactBestUsed
open Go.ChangeShapes Go.WideShapes Go.ChangeAt Go.RowKit
open Go.ChangeMaps (open_string shut_string)
set_option linter.unusedVariables false
set_option maxRecDepth 100000 in
theorem lifted (os : Os) (started : os.Started) (H : Type) (enc : TypeId × Value → H) :
    ReturnsInHanded {} Try.checked os 10 .any (Rows.fnExactBestUsedSpec.pre6 enc Try.prog Try.f10 Rows.fnExactBestUsedRow.domain false) (Rows.fnExactBestUsedSpec.post enc Try.prog Try.f10 false true false false) := by
  refine returnsInHanded_of_change (C := Try.checked) own started (by kernel_rfl) Try.func10
    (ChangeSpec.witness6 (enc := enc) (C := Try.checked) false ⟨#[], #[.slice none 0 0, .slice none 0 0], []⟩ 8 (by kernel_rfl) (by kernel_rfl) (by kernel_rfl) (by kernel_rfl)) ?_
  intro W base args ds gs before hval0 hW hcnd _
  have hval : ∀ (j : Nat) t v, Try.f10.params[j]? = some t → args[j]? = some v → Value.okWide Try.prog W .any base t v := hval0
  have hW' := hW
  obtain ⟨p, q, hA0, hV, rfl, hfz, hnd⟩ := hW
  have hA : DataW.TrodAll enc Try.prog W 0 (fun _ => true) true Try.f10.params.toList args.toList ds p := hA0
  rw [Try.params10] at hA hval
  obtain ⟨v0, vs0, d0, ds0, p0, q0, hargs, rfl, rfl, h0, r0⟩ := trodAll_cons hA
  obtain ⟨v1, vs1, d1, ds1, p1, q1, rfl, rfl, rfl, h1, r1⟩ := trodAll_cons r0
  obtain ⟨rfl, rfl, rfl⟩ := trodAll_nil r1
  obtain rfl : args = #[v0, v1] := by cases args; simp_all
  obtain ⟨rfl, rfl⟩ := trodVars_none hV
  have k0 := h0
  have lt0 : ∀ x ∈ p0, x.block < W.heap.size := by obtain ⟨m, hm⟩ := k0; exact DataW.trod_lt m _ _ _ hm
  obtain ⟨a0, len0, cap0, rfl⟩ := okWide_slice Try.underlying22 (hval 0 22 v0 rfl rfl)
  obtain ⟨xs0, w0, u0⟩ : ∃ xs : List Rule, RowS eRule W a0 len0 cap0 xs ∧ ∀ x ∈ xs, okRule x := by
    obtain ⟨fuel, hf⟩ := h0
    exact openRuleS (by simpa [Value.cells] using hf)
  have k1 := h1
  have lt1 : ∀ x ∈ p1, x.block < W.heap.size := by obtain ⟨m, hm⟩ := k1; exact DataW.trod_lt m _ _ _ hm
  obtain ⟨a1, len1, cap1, rfl⟩ := okWide_slice Try.underlying55 (hval 1 55 v1 rfl rfl)
  obtain ⟨xs1, w1, u1⟩ : ∃ xs : List Used, RowS eUsed W a1 len1 cap1 xs ∧ ∀ x ∈ xs, okUsed x := by
    obtain ⟨fuel, hf⟩ := h1
    exact openUsedS (by simpa [Value.cells] using hf)
  clear hA0 hval0
  refine (walk_FnExactBestUsed a0 len0 cap0 xs0 a1 len1 cap1 xs1 W w0 u0 w1 u1).mono fun e W' ⟨he, bel⟩ => ?_
  subst he
  exact ⟨_, rfl, _, _, _, [], _, [], hW', trodAll_mk1 (shut_bool Try.underlying4 _), (trodAll_cons_mk (Below.trod laidOut (by kernel_rfl) (of_decide_eq_true (by kernel_rfl)) k0 bel lt0) (trodAll_cons_mk (Below.trod laidOut (by kernel_rfl) (of_decide_eq_true (by kernel_rfl)) k1 bel lt1) trodAll_mk0)), rfl, bel.frame _, fun h => by cases h⟩
theorem over : Rows.fnExactBestUsedRow.holds Try.pinned (OpenSpec.ofChange Rows.fnExactBestUsedSpec) :=
  OpenClaim.holds_of_wide 10 Try.f10 rfl rfl rfl rfl rfl rfl rfl ⟨rfl, rfl, rfl, rfl, rfl⟩ rfl rfl rfl rfl rfl (by kernel_rfl) Try.func10 (by kernel_rfl)
    (of_decide_eq_true (by kernel_rfl)) (by unfold Func.isWrapper; first | (rw [if_pos (by decide +kernel)]; kernel_rfl) | (rw [if_neg (by decide +kernel)]; exact ⟨rfl, rfl⟩))
    (fun os started H enc _ => lifted os started H enc)
end LFnExactBestUsed
/-- The statement. -/
theorem fnExactBestUsed_holds : Rows.FnExactBestUsedSaid := LFnExactBestUsed.over
#print axioms fnExactBestUsed_holds

end Go.Proofs.Ytncggcbpbejmcaa
