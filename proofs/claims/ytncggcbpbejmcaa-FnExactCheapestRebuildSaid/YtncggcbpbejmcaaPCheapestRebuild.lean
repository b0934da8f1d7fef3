/- For all rules, every part and every grade the program's CheapestRebuild and the reference's CheapestRebuild answer the same, and the rules are left as they were. No condition. -/
import Derived.Test.YtncggcbpbejmcaaLCheapest
import Derived.Test.YtncggcbpbejmcaaORule
import Derived.Test.YtncggcbpbejmcaaOUsed
namespace Go.Proofs.Ytncggcbpbejmcaa
open Go.RowKit

set_option maxHeartbeats 4000000 in
set_option maxRecDepth 20000 in
theorem walk_FnExactCheapestRebuild (a0 : Option Addr) (len0 cap0 : Nat) (xs0 : List Rule) (x1 : Used) (a2 : Int) (w : World) (p0 : RowS eRule w a0 len0 cap0 xs0) (q0 : ∀ x ∈ xs0, okRule x) (q1 : okUsed x1) (p2 : (Lit.int .i64 a2).wf = true) :
    Calls Try.prog 9 #[.slice a0 len0 cap0, .agg #[.string x1.name, .int .i64 x1.hours, .int .i64 x1.play, .int .i64 x1.rust, .int .i64 x1.dents], .int .i64 a2] w fun e w' => e = .returned (.bool true) ∧ Below w.heap.size w w' := by
  have hmax0 := p0.max
  go_enter Try.func9, Try.ntmps9
  go_wp2_with fail
  have hB : Below w.heap.size w (w.alloc (.cells #[.string x1.name, .int .i64 x1.hours, .int .i64 x1.play, .int .i64 x1.rust, .int .i64 x1.dents] 30)) := ((Below.refl _ _).alloc (Nat.le_refl _) _)
  have b0_0 : ((w.alloc (.cells #[.string x1.name, .int .i64 x1.hours, .int .i64 x1.play, .int .i64 x1.rust, .int .i64 x1.dents] 30))).cell? ⟨w.heap.size, 0, none⟩ = some (.string x1.name) := by simp
  have b0_1 : ((w.alloc (.cells #[.string x1.name, .int .i64 x1.hours, .int .i64 x1.play, .int .i64 x1.rust, .int .i64 x1.dents] 30))).cell? ⟨w.heap.size, 1, none⟩ = some (.int .i64 x1.hours) := by simp
  have b0_2 : ((w.alloc (.cells #[.string x1.name, .int .i64 x1.hours, .int .i64 x1.play, .int .i64 x1.rust, .int .i64 x1.dents] 30))).cell? ⟨w.heap.size, 2, none⟩ = some (.int .i64 x1.play) := by simp
  have b0_3 : ((w.alloc (.cells #[.string x1.name, .int .i64 x1.hours, .int .i64 x1.play, .int .i64 x1.rust, .int .i64 x1.dents] 30))).cell? ⟨w.heap.size, 3, none⟩ = some (.int .i64 x1.rust) := by simp
  have b0_4 : ((w.alloc (.cells #[.string x1.name, .int .i64 x1.hours, .int .i64 x1.play, .int .i64 x1.rust, .int .i64 x1.dents] 30))).cell? ⟨w.heap.size, 4, none⟩ = some (.int .i64 x1.dents) := by simp
  have hBS0 : w.heap.size + 1 ≤ ((w.alloc (.cells #[.string x1.name, .int .i64 x1.hours, .int .i64 x1.play, .int .i64 x1.rust, .int .i64 x1.dents] 30))).heap.size := by simp
  have hsW0 : Hid (w.heap.size + 1 ≤ ((w.alloc (.cells #[.string x1.name, .int .i64 x1.hours, .int .i64 x1.play, .int .i64 x1.rust, .int .i64 x1.dents] 30))).heap.size) := Lib.hid (by simp; try omega)
  generalize (w.alloc (.cells #[.string x1.name, .int .i64 x1.hours, .int .i64 x1.play, .int .i64 x1.rust, .int .i64 x1.dents] 30)) = W0 at *
  by_cases hl0 : (len0 : Int) ≤ 1048576
  rotate_left
  · refine (szRuleS_big a0 len0 cap0 1048576 W0 (by omega) (by omega) hmax0 (by omega)).mono ?_
    rintro e w' ⟨rfl, rfl⟩
    go_wp2_with fail
    go_ret
    exact ⟨rfl, hB⟩
  have hI0 := p0.sl (by omega)
  have hn0 : xs0.length ≤ 1048576 := by rw [p0.len]; omega
  refine (szRuleS_ok _ xs0 1048576 W0 (by omega) (by omega) (hI0.below hB) q0).mono ?_
  rintro e W1 ⟨rfl, hb⟩
  have hsW1 := Lib.hid hb.size
  replace b0_0 := (hb.cell (p := ⟨w.heap.size, 0, none⟩) (by simp only []; omega)).trans b0_0
  replace b0_1 := (hb.cell (p := ⟨w.heap.size, 1, none⟩) (by simp only []; omega)).trans b0_1
  replace b0_2 := (hb.cell (p := ⟨w.heap.size, 2, none⟩) (by simp only []; omega)).trans b0_2
  replace b0_3 := (hb.cell (p := ⟨w.heap.size, 3, none⟩) (by simp only []; omega)).trans b0_3
  replace b0_4 := (hb.cell (p := ⟨w.heap.size, 4, none⟩) (by simp only []; omega)).trans b0_4
  replace hBS0 := Nat.le_trans hBS0 hb.size
  replace hB := Below.step hB hb
  clear hb
  by_cases ht0 : ((totRule xs0 : Nat) : Int) ≤ 1048576
  rotate_left
  · rw [szr_neg ht0]
    go_wp2_with fail
    go_ret
    exact ⟨rfl, hB⟩
  rw [szr_pos ht0]
  go_wp2_with fail
  refine (szUsed_any x1 (1048576 - ((totRule xs0 : Nat) : Int)) W1 (by omega) (by omega) q1).mono ?_
  rintro e W2 ⟨rfl, hb⟩
  have hsW2 := Lib.hid hb.size
  replace b0_0 := (hb.cell (p := ⟨w.heap.size, 0, none⟩) (by simp only []; omega)).trans b0_0
  replace b0_1 := (hb.cell (p := ⟨w.heap.size, 1, none⟩) (by simp only []; omega)).trans b0_1
  replace b0_2 := (hb.cell (p := ⟨w.heap.size, 2, none⟩) (by simp only []; omega)).trans b0_2
  replace b0_3 := (hb.cell (p := ⟨w.heap.size, 3, none⟩) (by simp only []; omega)).trans b0_3
  replace b0_4 := (hb.cell (p := ⟨w.heap.size, 4, none⟩) (by simp only []; omega)).trans b0_4
  replace hBS0 := Nat.le_trans hBS0 hb.size
  replace hB := Below.step hB hb
  clear hb
  by_cases ht1 : ((strUsed x1 : Nat) : Int) ≤ (1048576 - ((totRule xs0 : Nat) : Int))
  rotate_left
  · rw [szr_neg ht1]
    go_wp2_with fail
    go_ret
    exact ⟨rfl, hB⟩
  rw [szr_pos ht1]
  go_wp2_with fail
  have KEEPW2 : Hid (∀ W, Below W2.heap.size W2 W → Below W2.heap.size W2 W ∧ W.cell? ⟨w.heap.size, 0, none⟩ = some (.string x1.name) ∧ W.cell? ⟨w.heap.size, 1, none⟩ = some (.int .i64 x1.hours) ∧ W.cell? ⟨w.heap.size, 2, none⟩ = some (.int .i64 x1.play) ∧ W.cell? ⟨w.heap.size, 3, none⟩ = some (.int .i64 x1.rust) ∧ W.cell? ⟨w.heap.size, 4, none⟩ = some (.int .i64 x1.dents)) := Lib.hid (fun W h => ⟨h, (h.cell (p := ⟨w.heap.size, 0, none⟩) (by simp only []; omega)).trans b0_0, (h.cell (p := ⟨w.heap.size, 1, none⟩) (by simp only []; omega)).trans b0_1, (h.cell (p := ⟨w.heap.size, 2, none⟩) (by simp only []; omega)).trans b0_2, (h.cell (p := ⟨w.heap.size, 3, none⟩) (by simp only []; omega)).trans b0_3, (h.cell (p := ⟨w.heap.size, 4, none⟩) (by simp only []; omega)).trans b0_4⟩)
  go_region_held3 (fun W => Below W2.heap.size W2 W ∧ W.cell? ⟨w.heap.size, 0, none⟩ = some (.string x1.name) ∧ W.cell? ⟨w.heap.size, 1, none⟩ = some (.int .i64 x1.hours) ∧ W.cell? ⟨w.heap.size, 2, none⟩ = some (.int .i64 x1.play) ∧ W.cell? ⟨w.heap.size, 3, none⟩ = some (.int .i64 x1.rust) ∧ W.cell? ⟨w.heap.size, 4, none⟩ = some (.int .i64 x1.dents)) (first | exact KEEPW2.out _ (Below.refl _ _).drew | exact KEEPW2.out _ (below_step2 (Below.refl _ _).drew hbW3 (Nat.le_refl _)) | exact KEEPW2.out _ (below_step2 (below_step2 (Below.refl _ _).drew hbW3 (Nat.le_refl _)) hbW4 ((below_step2 (Below.refl _ _).drew hbW3 (Nat.le_refl _)).size)) | exact KEEPW2.out _ (below_step2 (below_step2 (below_step2 (Below.refl _ _).drew hbW3 (Nat.le_refl _)) hbW4 ((below_step2 (Below.refl _ _).drew hbW3 (Nat.le_refl _)).size)) hbW5 ((below_step2 (below_step2 (Below.refl _ _).drew hbW3 (Nat.le_refl _)) hbW4 ((below_step2 (Below.refl _ _).drew hbW3 (Nat.le_refl _)).size)).size))) (first | (go_at_call 17; refine (toRuleS_any _ xs0 _ ((hI0.below hB).drew) hn0).mono ?_; rintro e W3 ⟨t3, rfl, ho_t3, hbW3⟩) | (go_at_call 22; refine (toUsed_any x1 _).mono ?_; rintro e W4 ⟨rfl, hbW4⟩) | (go_at_call 38; refine (sCheapestRebuild_law t3 xs0 x1 a2 _ (Sl.of_own (ho_t3.below hbW4) (big_of hn0)) hn0 q1 p2).mono ?_; rintro e W5 ⟨rfl, hbW5⟩))
  have hb : Below W2.heap.size W2 W5 := (below_step2 (below_step2 (below_step2 (Below.refl _ _).drew hbW3 (Nat.le_refl _)) hbW4 ((below_step2 (Below.refl _ _).drew hbW3 (Nat.le_refl _)).size)) hbW5 ((below_step2 (below_step2 (Below.refl _ _).drew hbW3 (Nat.le_refl _)) hbW4 ((below_step2 (Below.refl _ _).drew hbW3 (Nat.le_refl _)).size)).size))
  have hsW3 : Hid (W2.heap.size ≤ W3.heap.size) := Lib.hid hbW3.size
  have hsW4 : Hid (W3.heap.size ≤ W4.heap.size) := Lib.hid hbW4.size
  have hsW5 : Hid (W4.heap.size ≤ W5.heap.size) := Lib.hid hbW5.size
  have hk_t3 : Hid (∀ k, t3.ownBlock = some k → W2.heap.size ≤ k ∧ k < W3.heap.size) := Lib.hid (World.ownsRow.lt ho_t3)
  replace ho_t3 := ho_t3.below hbW4
  replace ho_t3 := ho_t3.below hbW5
  replace b0_0 := (hb.cell (p := ⟨w.heap.size, 0, none⟩) (by simp only []; omega)).trans b0_0
  replace b0_1 := (hb.cell (p := ⟨w.heap.size, 1, none⟩) (by simp only []; omega)).trans b0_1
  replace b0_2 := (hb.cell (p := ⟨w.heap.size, 2, none⟩) (by simp only []; omega)).trans b0_2
  replace b0_3 := (hb.cell (p := ⟨w.heap.size, 3, none⟩) (by simp only []; omega)).trans b0_3
  replace b0_4 := (hb.cell (p := ⟨w.heap.size, 4, none⟩) (by simp only []; omega)).trans b0_4
  replace hBS0 := Nat.le_trans hBS0 hb.size
  replace hB := Below.step hB hb
  clear hb KEEPW2 hbW3 hbW4 hbW5
  go_wp2_with fail
  refine (toRuleS_any _ xs0 W5 (hI0.below hB) hn0).mono ?_
  rintro e W6 ⟨t6, rfl, ho_t6, hb⟩
  have hk_t6 := Lib.hid (World.ownsRow.lt ho_t6)
  have hsW6 := Lib.hid hb.size
  replace ho_t3 := ho_t3.below hb
  replace b0_0 := (hb.cell (p := ⟨w.heap.size, 0, none⟩) (by simp only []; omega)).trans b0_0
  replace b0_1 := (hb.cell (p := ⟨w.heap.size, 1, none⟩) (by simp only []; omega)).trans b0_1
  replace b0_2 := (hb.cell (p := ⟨w.heap.size, 2, none⟩) (by simp only []; omega)).trans b0_2
  replace b0_3 := (hb.cell (p := ⟨w.heap.size, 3, none⟩) (by simp only []; omega)).trans b0_3
  replace b0_4 := (hb.cell (p := ⟨w.heap.size, 4, none⟩) (by simp only []; omega)).trans b0_4
  replace hBS0 := Nat.le_trans hBS0 hb.size
  replace hB := Below.step hB hb
  clear hb
  go_wp2_with fail
  refine (toUsed_any x1 W6).mono ?_
  rintro e W7 ⟨rfl, hb⟩
  have hsW7 := Lib.hid hb.size
  replace ho_t3 := ho_t3.below hb
  replace ho_t6 := ho_t6.below hb
  replace b0_0 := (hb.cell (p := ⟨w.heap.size, 0, none⟩) (by simp only []; omega)).trans b0_0
  replace b0_1 := (hb.cell (p := ⟨w.heap.size, 1, none⟩) (by simp only []; omega)).trans b0_1
  replace b0_2 := (hb.cell (p := ⟨w.heap.size, 2, none⟩) (by simp only []; omega)).trans b0_2
  replace b0_3 := (hb.cell (p := ⟨w.heap.size, 3, none⟩) (by simp only []; omega)).trans b0_3
  replace b0_4 := (hb.cell (p := ⟨w.heap.size, 4, none⟩) (by simp only []; omega)).trans b0_4
  replace hBS0 := Nat.le_trans hBS0 hb.size
  replace hB := Below.step hB hb
  clear hb
  go_wp2_with fail
  refine (iCheapestRebuild_law t6 xs0 x1 a2 W7 (Sl.of_own ho_t6 (big_of hn0)) hn0 q1 p2).mono ?_
  rintro e W8 ⟨rfl, hb⟩
  have hsW8 := Lib.hid hb.size
  replace ho_t3 := ho_t3.below hb
  replace ho_t6 := ho_t6.below hb
  replace b0_0 := (hb.cell (p := ⟨w.heap.size, 0, none⟩) (by simp only []; omega)).trans b0_0
  replace b0_1 := (hb.cell (p := ⟨w.heap.size, 1, none⟩) (by simp only []; omega)).trans b0_1
  replace b0_2 := (hb.cell (p := ⟨w.heap.size, 2, none⟩) (by simp only []; omega)).trans b0_2
  replace b0_3 := (hb.cell (p := ⟨w.heap.size, 3, none⟩) (by simp only []; omega)).trans b0_3
  replace b0_4 := (hb.cell (p := ⟨w.heap.size, 4, none⟩) (by simp only []; omega)).trans b0_4
  replace hBS0 := Nat.le_trans hBS0 hb.size
  replace hB := Below.step hB hb
  clear hb
  go_wp2_with fail
  refine (toRuleS_any _ xs0 W8 (hI0.below hB) hn0).mono ?_
  rintro e W9 ⟨t9, rfl, ho_t9, hb⟩
  have hk_t9 := Lib.hid (World.ownsRow.lt ho_t9)
  have hsW9 := Lib.hid hb.size
  replace ho_t3 := ho_t3.below hb
  replace ho_t6 := ho_t6.below hb
  replace b0_0 := (hb.cell (p := ⟨w.heap.size, 0, none⟩) (by simp only []; omega)).trans b0_0
  replace b0_1 := (hb.cell (p := ⟨w.heap.size, 1, none⟩) (by simp only []; omega)).trans b0_1
  replace b0_2 := (hb.cell (p := ⟨w.heap.size, 2, none⟩) (by simp only []; omega)).trans b0_2
  replace b0_3 := (hb.cell (p := ⟨w.heap.size, 3, none⟩) (by simp only []; omega)).trans b0_3
  replace b0_4 := (hb.cell (p := ⟨w.heap.size, 4, none⟩) (by simp only []; omega)).trans b0_4
  replace hBS0 := Nat.le_trans hBS0 hb.size
  replace hB := Below.step hB hb
  clear hb
  go_wp2_with fail
  refine (eqRuleS_same t6 t9 xs0 W9 (Sl.of_own ho_t6 (big_of hn0)) (Sl.of_own ho_t9 (big_of hn0))).mono ?_
  rintro e W10 ⟨rfl, hb⟩
  have hsW10 := Lib.hid hb.size
  replace ho_t3 := ho_t3.below hb
  replace ho_t6 := ho_t6.below hb
  replace ho_t9 := ho_t9.below hb
  replace b0_0 := (hb.cell (p := ⟨w.heap.size, 0, none⟩) (by simp only []; omega)).trans b0_0
  replace b0_1 := (hb.cell (p := ⟨w.heap.size, 1, none⟩) (by simp only []; omega)).trans b0_1
  replace b0_2 := (hb.cell (p := ⟨w.heap.size, 2, none⟩) (by simp only []; omega)).trans b0_2
  replace b0_3 := (hb.cell (p := ⟨w.heap.size, 3, none⟩) (by simp only []; omega)).trans b0_3
  replace b0_4 := (hb.cell (p := ⟨w.heap.size, 4, none⟩) (by simp only []; omega)).trans b0_4
  replace hBS0 := Nat.le_trans hBS0 hb.size
  replace hB := Below.step hB hb
  clear hb
  go_wp2_with fail
  go_ret
  exact ⟨rfl, hB⟩

namespace LFnExactCheapestRebuild
open Go.ChangeShapes Go.WideShapes Go.ChangeAt Go.RowKit
open Go.ChangeMaps (open_string shut_string)
set_option linter.unusedVariables false
set_option maxRecDepth 100000 in
theorem lifted (os : Os) (started : os.Started) (H : Type) (enc : TypeId × Value → H) :
    ReturnsInHanded {} Try.checked os 9 .any (Rows.fnExactCheapestRebuildSpec.pre6 enc Try.prog Try.f9 Rows.fnExactCheapestRebuildRow.domain false) (Rows.fnExactCheapestRebuildSpec.post enc Try.prog Try.f9 false true false false) := by
  refine returnsInHanded_of_change (C := Try.checked) own started (by kernel_rfl) Try.func9
    (ChangeSpec.witness6 (enc := enc) (C := Try.checked) false ⟨#[], #[.slice none 0 0, .agg #[.string ⟨#[]⟩, .int .i64 0, .int .i64 0, .int .i64 0, .int .i64 0], .int .i64 0], []⟩ 8 (by kernel_rfl) (by kernel_rfl) (by kernel_rfl) (by kernel_rfl)) ?_
  intro W base args ds gs before hval0 hW hcnd _
  have hval : ∀ (j : Nat) t v, Try.f9.params[j]? = some t → args[j]? = some v → Value.okWide Try.prog W .any base t v := hval0
  have hW' := hW
  obtain ⟨p, q, hA0, hV, rfl, hfz, hnd⟩ := hW
  have hA : DataW.TrodAll enc Try.prog W 0 (fun _ => true) true Try.f9.params.toList args.toList ds p := hA0
  rw [Try.params9] at hA hval
  obtain ⟨v0, vs0, d0, ds0, p0, q0, hargs, rfl, rfl, h0, r0⟩ := trodAll_cons hA
  obtain ⟨v1, vs1, d1, ds1, p1, q1, rfl, rfl, rfl, h1, r1⟩ := trodAll_cons r0
  obtain ⟨v2, vs2, d2, ds2, p2, q2, rfl, rfl, rfl, h2, r2⟩ := trodAll_cons r1
  obtain ⟨rfl, rfl, rfl⟩ := trodAll_nil r2
  obtain rfl : args = #[v0, v1, v2] := by cases args; simp_all
  obtain ⟨rfl, rfl⟩ := trodVars_none hV
  have k0 := h0
  have lt0 : ∀ x ∈ p0, x.block < W.heap.size := by obtain ⟨m, hm⟩ := k0; exact DataW.trod_lt m _ _ _ hm
  obtain ⟨a0, len0, cap0, rfl⟩ := okWide_slice Try.underlying22 (hval 0 22 v0 rfl rfl)
  obtain ⟨xs0, w0, u0⟩ : ∃ xs : List Rule, RowS eRule W a0 len0 cap0 xs ∧ ∀ x ∈ xs, okRule x := by
    obtain ⟨fuel, hf⟩ := h0
    exact openRuleS (by simpa [Value.cells] using hf)
  have k1 := h1
  have lt1 : ∀ x ∈ p1, x.block < W.heap.size := by obtain ⟨m, hm⟩ := k1; exact DataW.trod_lt m _ _ _ hm
  obtain ⟨x1, rfl, u1⟩ := openUsed (hval 1 30 v1 rfl rfl) h1
  have k2 := h2
  have lt2 : ∀ x ∈ p2, x.block < W.heap.size := by obtain ⟨m, hm⟩ := k2; exact DataW.trod_lt m _ _ _ hm
  obtain ⟨a2, rfl, rfl, rfl, w2⟩ := open_int Try.underlying2 (hval 2 2 v2 rfl rfl) h2
  clear hA0 hval0
  refine (walk_FnExactCheapestRebuild a0 len0 cap0 xs0 x1 a2 W w0 u0 u1 w2).mono fun e W' ⟨he, bel⟩ => ?_
  subst he
  exact ⟨_, rfl, _, _, _, [], _, [], hW', trodAll_mk1 (shut_bool Try.underlying4 _), (trodAll_cons_mk (Below.trod laidOut (by kernel_rfl) (of_decide_eq_true (by kernel_rfl)) k0 bel lt0) (trodAll_cons_mk (Below.trod laidOut (by kernel_rfl) (of_decide_eq_true (by kernel_rfl)) k1 bel lt1) (trodAll_cons_mk (Below.trod laidOut (by kernel_rfl) (of_decide_eq_true (by kernel_rfl)) k2 bel lt2) trodAll_mk0))), rfl, bel.frame _, fun h => by cases h⟩
theorem over : Rows.fnExactCheapestRebuildRow.holds Try.pinned (OpenSpec.ofChange Rows.fnExactCheapestRebuildSpec) :=
  OpenClaim.holds_of_wide 9 Try.f9 rfl rfl rfl rfl rfl rfl rfl ⟨rfl, rfl, rfl, rfl, rfl⟩ rfl rfl rfl rfl rfl (by kernel_rfl) Try.func9 (by kernel_rfl)
    (of_decide_eq_true (by kernel_rfl)) (by unfold Func.isWrapper; first | (rw [if_pos (by decide +kernel)]; kernel_rfl) | (rw [if_neg (by decide +kernel)]; exact ⟨rfl, rfl⟩))
    (fun os started H enc _ => lifted os started H enc)
end LFnExactCheapestRebuild
/-- The statement. -/
theorem fnExactCheapestRebuild_holds : Rows.FnExactCheapestRebuildSaid := LFnExactCheapestRebuild.over
#print axioms fnExactCheapestRebuild_holds

end Go.Proofs.Ytncggcbpbejmcaa
