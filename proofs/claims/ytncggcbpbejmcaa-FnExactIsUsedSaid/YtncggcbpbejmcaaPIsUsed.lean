/- For every used part the program's IsUsed and the reference's IsUsed answer the same. No condition. -/
import Derived.Test.YtncggcbpbejmcaaUsed
import Derived.Test.YtncggcbpbejmcaaOUsed
namespace Go.Proofs.Ytncggcbpbejmcaa
open Go.RowKit

set_option maxHeartbeats 4000000 in
set_option maxRecDepth 20000 in
theorem walk_FnExactIsUsed (x0 : Used) (w : World) (q0 : okUsed x0) :
    Calls Try.prog 4 #[.agg #[.string x0.name, .int .i64 x0.hours, .int .i64 x0.play, .int .i64 x0.rust, .int .i64 x0.dents]] w fun e w' => e = .returned (.bool true) ∧ Below w.heap.size w w' := by
  go_enter Try.func4, Try.ntmps4
  go_wp2_with fail
  have hB : Below w.heap.size w (w.alloc (.cells #[.string x0.name, .int .i64 x0.hours, .int .i64 x0.play, .int .i64 x0.rust, .int .i64 x0.dents] 30)) := ((Below.refl _ _).alloc (Nat.le_refl _) _)
  have b0_0 : ((w.alloc (.cells #[.string x0.name, .int .i64 x0.hours, .int .i64 x0.play, .int .i64 x0.rust, .int .i64 x0.dents] 30))).cell? ⟨w.heap.size, 0, none⟩ = some (.string x0.name) := by simp
  have b0_1 : ((w.alloc (.cells #[.string x0.name, .int .i64 x0.hours, .int .i64 x0.play, .int .i64 x0.rust, .int .i64 x0.dents] 30))).cell? ⟨w.heap.size, 1, none⟩ = some (.int .i64 x0.hours) := by simp
  have b0_2 : ((w.alloc (.cells #[.string x0.name, .int .i64 x0.hours, .int .i64 x0.play, .int .i64 x0.rust, .int .i64 x0.dents] 30))).cell? ⟨w.heap.size, 2, none⟩ = some (.int .i64 x0.play) := by simp
  have b0_3 : ((w.alloc (.cells #[.string x0.name, .int .i64 x0.hours, .int .i64 x0.play, .int .i64 x0.rust, .int .i64 x0.dents] 30))).cell? ⟨w.heap.size, 3, none⟩ = some (.int .i64 x0.rust) := by simp
  have b0_4 : ((w.alloc (.cells #[.string x0.name, .int .i64 x0.hours, .int .i64 x0.play, .int .i64 x0.rust, .int .i64 x0.dents] 30))).cell? ⟨w.heap.size, 4, none⟩ = some (.int .i64 x0.dents) := by simp
  have hBS : w.heap.size + 1 ≤ ((w.alloc (.cells #[.string x0.name, .int .i64 x0.hours, .int .i64 x0.play, .int .i64 x0.rust, .int .i64 x0.dents] 30))).heap.size := by simp
  generalize (w.alloc (.cells #[.string x0.name, .int .i64 x0.hours, .int .i64 x0.play, .int .i64 x0.rust, .int .i64 x0.dents] 30)) = W0 at *
  refine (szUsed_any x0 1048576 W0 (by omega) (by omega) q0).mono ?_
  rintro e W1 ⟨rfl, hb⟩
  have hsW1 := Lib.hid hb.size
  replace b0_0 := (hb.cell (p := ⟨w.heap.size, 0, none⟩) (by simp only []; omega)).trans b0_0
  replace b0_1 := (hb.cell (p := ⟨w.heap.size, 1, none⟩) (by simp only []; omega)).trans b0_1
  replace b0_2 := (hb.cell (p := ⟨w.heap.size, 2, none⟩) (by simp only []; omega)).trans b0_2
  replace b0_3 := (hb.cell (p := ⟨w.heap.size, 3, none⟩) (by simp only []; omega)).trans b0_3
  replace b0_4 := (hb.cell (p := ⟨w.heap.size, 4, none⟩) (by simp only []; omega)).trans b0_4
  replace hBS := Nat.le_trans hBS hb.size
  replace hB := Below.step hB hb
  clear hb
  by_cases ht0 : ((strUsed x0 : Nat) : Int) ≤ 1048576
  rotate_left
  · rw [szr_neg ht0]
    go_wp2_with fail
    go_ret
    exact ⟨rfl, hB⟩
  rw [szr_pos ht0]
  go_wp2_with fail
  refine (toUsed_any x0 W1).mono ?_
  rintro e W2 ⟨rfl, hb⟩
  have hsW2 := Lib.hid hb.size
  replace b0_0 := (hb.cell (p := ⟨w.heap.size, 0, none⟩) (by simp only []; omega)).trans b0_0
  replace b0_1 := (hb.cell (p := ⟨w.heap.size, 1, none⟩) (by simp only []; omega)).trans b0_1
  replace b0_2 := (hb.cell (p := ⟨w.heap.size, 2, none⟩) (by simp only []; omega)).trans b0_2
  replace b0_3 := (hb.cell (p := ⟨w.heap.size, 3, none⟩) (by simp only []; omega)).trans b0_3
  replace b0_4 := (hb.cell (p := ⟨w.heap.size, 4, none⟩) (by simp only []; omega)).trans b0_4
  replace hBS := Nat.le_trans hBS hb.size
  replace hB := Below.step hB hb
  clear hb
  go_wp2_with fail
  refine (sIsUsed_law x0 W2 q0).mono ?_
  rintro e W3 ⟨rfl, hb⟩
  have hsW3 := Lib.hid hb.size
  replace b0_0 := (hb.cell (p := ⟨w.heap.size, 0, none⟩) (by simp only []; omega)).trans b0_0
  replace b0_1 := (hb.cell (p := ⟨w.heap.size, 1, none⟩) (by simp only []; omega)).trans b0_1
  replace b0_2 := (hb.cell (p := ⟨w.heap.size, 2, none⟩) (by simp only []; omega)).trans b0_2
  replace b0_3 := (hb.cell (p := ⟨w.heap.size, 3, none⟩) (by simp only []; omega)).trans b0_3
  replace b0_4 := (hb.cell (p := ⟨w.heap.size, 4, none⟩) (by simp only []; omega)).trans b0_4
  replace hBS := Nat.le_trans hBS hb.size
  replace hB := Below.step hB hb
  clear hb
  go_wp2_with fail
  refine (toUsed_any x0 W3).mono ?_
  rintro e W4 ⟨rfl, hb⟩
  have hsW4 := Lib.hid hb.size
  replace b0_0 := (hb.cell (p := ⟨w.heap.size, 0, none⟩) (by simp only []; omega)).trans b0_0
  replace b0_1 := (hb.cell (p := ⟨w.heap.size, 1, none⟩) (by simp only []; omega)).trans b0_1
  replace b0_2 := (hb.cell (p := ⟨w.heap.size, 2, none⟩) (by simp only []; omega)).trans b0_2
  replace b0_3 := (hb.cell (p := ⟨w.heap.size, 3, none⟩) (by simp only []; omega)).trans b0_3
  replace b0_4 := (hb.cell (p := ⟨w.heap.size, 4, none⟩) (by simp only []; omega)).trans b0_4
  replace hBS := Nat.le_trans hBS hb.size
  replace hB := Below.step hB hb
  clear hb
  go_wp2_with fail
  refine (iIsUsed_law x0 W4 q0).mono ?_
  rintro e W5 ⟨rfl, hb⟩
  have hsW5 := Lib.hid hb.size
  replace b0_0 := (hb.cell (p := ⟨w.heap.size, 0, none⟩) (by simp only []; omega)).trans b0_0
  replace b0_1 := (hb.cell (p := ⟨w.heap.size, 1, none⟩) (by simp only []; omega)).trans b0_1
  replace b0_2 := (hb.cell (p := ⟨w.heap.size, 2, none⟩) (by simp only []; omega)).trans b0_2
  replace b0_3 := (hb.cell (p := ⟨w.heap.size, 3, none⟩) (by simp only []; omega)).trans b0_3
  replace b0_4 := (hb.cell (p := ⟨w.heap.size, 4, none⟩) (by simp only []; omega)).trans b0_4
  replace hBS := Nat.le_trans hBS hb.size
  replace hB := Below.step hB hb
  clear hb
  go_wp2_with fail
  go_ret
  exact ⟨rfl, hB⟩

namespace LFnExactIsUsed
open Go.ChangeShapes Go.WideShapes Go.ChangeAt Go.RowKit
open Go.ChangeMaps (open_string shut_string)
set_option linter.unusedVariables false
set_option maxRecDepth 100000 in
theorem lifted (os : Os) (started : os.Started) (H : Type) (enc : TypeId × Value → H) :
    ReturnsInHanded {} Try.checked os 4 .any (Rows.fnExactIsUsedSpec.pre6 enc Try.prog Try.f4 Rows.fnExactIsUsedRow.domain false) (Rows.fnExactIsUsedSpec.post enc Try.prog Try.f4 false true false false) := by
  refine returnsInHanded_of_change (C := Try.checked) own started (by kernel_rfl) Try.func4
    (ChangeSpec.witness6 (enc := enc) (C := Try.checked) false ⟨#[], #[.agg #[.string ⟨#[]⟩, .int .i64 0, .int .i64 0, .int .i64 0, .int .i64 0]], []⟩ 8 (by kernel_rfl) (by kernel_rfl) (by kernel_rfl) (by kernel_rfl)) ?_
  intro W base args ds gs before hval0 hW hcnd _
  have hval : ∀ (j : Nat) t v, Try.f4.params[j]? = some t → args[j]? = some v → Value.okWide Try.prog W .any base t v := hval0
  have hW' := hW
  obtain ⟨p, q, hA0, hV, rfl, hfz, hnd⟩ := hW
  have hA : DataW.TrodAll enc Try.prog W 0 (fun _ => true) true Try.f4.params.toList args.toList ds p := hA0
  rw [Try.params4] at hA hval
  obtain ⟨v0, vs0, d0, ds0, p0, q0, hargs, rfl, rfl, h0, r0⟩ := trodAll_cons hA
  obtain ⟨rfl, rfl, rfl⟩ := trodAll_nil r0
  obtain rfl : args = #[v0] := by cases args; simp_all
  obtain ⟨rfl, rfl⟩ := trodVars_none hV
  have k0 := h0
  have lt0 : ∀ x ∈ p0, x.block < W.heap.size := by obtain ⟨m, hm⟩ := k0; exact DataW.trod_lt m _ _ _ hm
  obtain ⟨x0, rfl, u0⟩ := openUsed (hval 0 30 v0 rfl rfl) h0
  clear hA0 hval0
  refine (walk_FnExactIsUsed x0 W u0).mono fun e W' ⟨he, bel⟩ => ?_
  subst he
  exact ⟨_, rfl, _, _, _, [], _, [], hW', trodAll_mk1 (shut_bool Try.underlying4 _), (trodAll_cons_mk (Below.trod laidOut (by kernel_rfl) (of_decide_eq_true (by kernel_rfl)) k0 bel lt0) trodAll_mk0), rfl, bel.frame _, fun h => by cases h⟩
theorem over : Rows.fnExactIsUsedRow.holds Try.pinned (OpenSpec.ofChange Rows.fnExactIsUsedSpec) :=
  OpenClaim.holds_of_wide 4 Try.f4 rfl rfl rfl rfl rfl rfl rfl ⟨rfl, rfl, rfl, rfl, rfl⟩ rfl rfl rfl rfl rfl (by kernel_rfl) Try.func4 (by kernel_rfl)
    (of_decide_eq_true (by kernel_rfl)) (by unfold Func.isWrapper; first | (rw [if_pos (by decide +kernel)]; kernel_rfl) | (rw [if_neg (by decide +kernel)]; exact ⟨rfl, rfl⟩))
    (fun os started H enc _ => lifted os started H enc)
end LFnExactIsUsed
/-- The statement. -/
theorem fnExactIsUsed_holds : Rows.FnExactIsUsedSaid := LFnExactIsUsed.over
#print axioms fnExactIsUsed_holds

end Go.Proofs.Ytncggcbpbejmcaa
