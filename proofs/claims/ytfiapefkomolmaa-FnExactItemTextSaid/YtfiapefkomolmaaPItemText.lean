/- For every item the program's ItemText and the reference's ItemText answer the same. No condition. -/
import Derived.Test.YtfiapefkomolmaaItemText
import Derived.Test.YtfiapefkomolmaaOItem
namespace Go.Proofs.Ytfiapefkomolmaa
open Go.RowKit

set_option maxHeartbeats 4000000 in
set_option maxRecDepth 20000 in
theorem walk_FnExactItemText (x0 : Item) (w : World) (q0 : okItem x0) :
    Calls Try.prog 5 #[.agg #[.string x0.name, .int .i64 x0.pieces, .int .i64 x0.cents, .bool x0.work]] w fun e w' => e = .returned (.bool true) ∧ Below w.heap.size w w' := by
  go_enter Try.func5, Try.ntmps5
  go_wp2_with fail
  have hB : Below w.heap.size w (w.alloc (.cells #[.string x0.name, .int .i64 x0.pieces, .int .i64 x0.cents, .bool x0.work] 36)) := ((Below.refl _ _).alloc (Nat.le_refl _) _)
  have b0_0 : ((w.alloc (.cells #[.string x0.name, .int .i64 x0.pieces, .int .i64 x0.cents, .bool x0.work] 36))).cell? ⟨w.heap.size, 0, none⟩ = some (.string x0.name) := by simp
  have b0_1 : ((w.alloc (.cells #[.string x0.name, .int .i64 x0.pieces, .int .i64 x0.cents, .bool x0.work] 36))).cell? ⟨w.heap.size, 1, none⟩ = some (.int .i64 x0.pieces) := by simp
  have b0_2 : ((w.alloc (.cells #[.string x0.name, .int .i64 x0.pieces, .int .i64 x0.cents, .bool x0.work] 36))).cell? ⟨w.heap.size, 2, none⟩ = some (.int .i64 x0.cents) := by simp
  have b0_3 : ((w.alloc (.cells #[.string x0.name, .int .i64 x0.pieces, .int .i64 x0.cents, .bool x0.work] 36))).cell? ⟨w.heap.size, 3, none⟩ = some (.bool x0.work) := by simp
  have hBS0 : w.heap.size + 1 ≤ ((w.alloc (.cells #[.string x0.name, .int .i64 x0.pieces, .int .i64 x0.cents, .bool x0.work] 36))).heap.size := by simp
  generalize (w.alloc (.cells #[.string x0.name, .int .i64 x0.pieces, .int .i64 x0.cents, .bool x0.work] 36)) = W0 at *
  refine (szItem_any x0 1048576 W0 (by omega) (by omega) q0).mono ?_
  rintro e W1 ⟨rfl, hb⟩
  have hsW1 := Lib.hid hb.size
  replace b0_0 := (hb.cell (p := ⟨w.heap.size, 0, none⟩) (by simp only []; omega)).trans b0_0
  replace b0_1 := (hb.cell (p := ⟨w.heap.size, 1, none⟩) (by simp only []; omega)).trans b0_1
  replace b0_2 := (hb.cell (p := ⟨w.heap.size, 2, none⟩) (by simp only []; omega)).trans b0_2
  replace b0_3 := (hb.cell (p := ⟨w.heap.size, 3, none⟩) (by simp only []; omega)).trans b0_3
  replace hBS0 := Nat.le_trans hBS0 hb.size
  replace hB := Below.step hB hb
  clear hb
  by_cases ht0 : ((strItem x0 : Nat) : Int) ≤ 1048576
  rotate_left
  · rw [szr_neg ht0]
    go_wp2_with fail
    go_ret
    exact ⟨rfl, hB⟩
  rw [szr_pos ht0]
  go_wp2_with fail
  refine (toItem_any x0 W1).mono ?_
  rintro e W2 ⟨rfl, hb⟩
  have hsW2 := Lib.hid hb.size
  replace b0_0 := (hb.cell (p := ⟨w.heap.size, 0, none⟩) (by simp only []; omega)).trans b0_0
  replace b0_1 := (hb.cell (p := ⟨w.heap.size, 1, none⟩) (by simp only []; omega)).trans b0_1
  replace b0_2 := (hb.cell (p := ⟨w.heap.size, 2, none⟩) (by simp only []; omega)).trans b0_2
  replace b0_3 := (hb.cell (p := ⟨w.heap.size, 3, none⟩) (by simp only []; omega)).trans b0_3
  replace hBS0 := Nat.le_trans hBS0 hb.size
  replace hB := Below.step hB hb
  clear hb
  go_wp2_with fail
  refine (sItemText_law x0 W2 q0).mono ?_
  rintro e W3 ⟨rfl, hb⟩
  have hsW3 := Lib.hid hb.size
  replace b0_0 := (hb.cell (p := ⟨w.heap.size, 0, none⟩) (by simp only []; omega)).trans b0_0
  replace b0_1 := (hb.cell (p := ⟨w.heap.size, 1, none⟩) (by simp only []; omega)).trans b0_1
  replace b0_2 := (hb.cell (p := ⟨w.heap.size, 2, none⟩) (by simp only []; omega)).trans b0_2
  replace b0_3 := (hb.cell (p := ⟨w.heap.size, 3, none⟩) (by simp only []; omega)).trans b0_3
  replace hBS0 := Nat.le_trans hBS0 hb.size
  replace hB := Below.step hB hb
  clear hb
  go_wp2_with fail
  refine (toItem_any x0 W3).mono ?_
  rintro e W4 ⟨rfl, hb⟩
  have hsW4 := Lib.hid hb.size
  replace b0_0 := (hb.cell (p := ⟨w.heap.size, 0, none⟩) (by simp only []; omega)).trans b0_0
  replace b0_1 := (hb.cell (p := ⟨w.heap.size, 1, none⟩) (by simp only []; omega)).trans b0_1
  replace b0_2 := (hb.cell (p := ⟨w.heap.size, 2, none⟩) (by simp only []; omega)).trans b0_2
  replace b0_3 := (hb.cell (p := ⟨w.heap.size, 3, none⟩) (by simp only []; omega)).trans b0_3
  replace hBS0 := Nat.le_trans hBS0 hb.size
  replace hB := Below.step hB hb
  clear hb
  go_wp2_with fail
  refine (iItemText_law x0 W4 q0).mono ?_
  rintro e W5 ⟨rfl, hb⟩
  have hsW5 := Lib.hid hb.size
  replace b0_0 := (hb.cell (p := ⟨w.heap.size, 0, none⟩) (by simp only []; omega)).trans b0_0
  replace b0_1 := (hb.cell (p := ⟨w.heap.size, 1, none⟩) (by simp only []; omega)).trans b0_1
  replace b0_2 := (hb.cell (p := ⟨w.heap.size, 2, none⟩) (by simp only []; omega)).trans b0_2
  replace b0_3 := (hb.cell (p := ⟨w.heap.size, 3, none⟩) (by simp only []; omega)).trans b0_3
  replace hBS0 := Nat.le_trans hBS0 hb.size
  replace hB := Below.step hB hb
  clear hb
  go_wp2_with fail
  go_ret
  exact ⟨rfl, hB⟩

namespace LFnExactItemText
open Go.ChangeShapes Go.WideShapes Go.ChangeAt Go.RowKit
open Go.ChangeMaps (open_string shut_string)
set_option linter.unusedVariables false
set_option maxRecDepth 100000 in
theorem lifted (os : Os) (started : os.Started) (H : Type) (enc : TypeId × Value → H) :
    ReturnsInHanded {} Try.checked os 5 .any (Rows.fnExactItemTextSpec.pre6 enc Try.prog Try.f5 Rows.fnExactItemTextRow.domain false) (Rows.fnExactItemTextSpec.post enc Try.prog Try.f5 false true false false) := by
  refine returnsInHanded_of_change (C := Try.checked) own started (by kernel_rfl) Try.func5
    (ChangeSpec.witness6 (enc := enc) (C := Try.checked) false ⟨#[], #[.agg #[.string ⟨#[]⟩, .int .i64 0, .int .i64 0, .bool false]], []⟩ 8 (by kernel_rfl) (by kernel_rfl) (by kernel_rfl) (by kernel_rfl)) ?_
  intro W base args ds gs before hval0 hW hcnd _
  have hval : ∀ (j : Nat) t v, Try.f5.params[j]? = some t → args[j]? = some v → Value.okWide Try.prog W .any base t v := hval0
  have hW' := hW
  obtain ⟨p, q, hA0, hV, rfl, hfz, hnd⟩ := hW
  have hA : DataW.TrodAll enc Try.prog W 0 (fun _ => true) true Try.f5.params.toList args.toList ds p := hA0
  rw [Try.params5] at hA hval
  obtain ⟨v0, vs0, d0, ds0, p0, q0, hargs, rfl, rfl, h0, r0⟩ := trodAll_cons hA
  obtain ⟨rfl, rfl, rfl⟩ := trodAll_nil r0
  obtain rfl : args = #[v0] := by cases args; simp_all
  obtain ⟨rfl, rfl⟩ := trodVars_none hV
  have k0 := h0
  have lt0 : ∀ x ∈ p0, x.block < W.heap.size := by obtain ⟨m, hm⟩ := k0; exact DataW.trod_lt m _ _ _ hm
  obtain ⟨x0, rfl, u0⟩ := openItem (hval 0 36 v0 rfl rfl) h0
  clear hA0 hval0
  refine (walk_FnExactItemText x0 W u0).mono fun e W' ⟨he, bel⟩ => ?_
  subst he
  exact ⟨_, rfl, _, _, _, [], _, [], hW', trodAll_mk1 (shut_bool Try.underlying4 _), (trodAll_cons_mk (Below.trod laidOut (by kernel_rfl) (of_decide_eq_true (by kernel_rfl)) k0 bel lt0) trodAll_mk0), rfl, bel.frame _, fun h => by cases h⟩
theorem over : Rows.fnExactItemTextRow.holds Try.pinned (OpenSpec.ofChange Rows.fnExactItemTextSpec) :=
  OpenClaim.holds_of_wide 5 Try.f5 rfl rfl rfl rfl rfl rfl rfl ⟨rfl, rfl, rfl, rfl, rfl⟩ rfl rfl rfl rfl rfl (by kernel_rfl) Try.func5 (by kernel_rfl)
    (of_decide_eq_true (by kernel_rfl)) (by unfold Func.isWrapper; first | (rw [if_pos (by decide +kernel)]; kernel_rfl) | (rw [if_neg (by decide +kernel)]; exact ⟨rfl, rfl⟩))
    (fun os started H enc _ => lifted os started H enc)
end LFnExactItemText
/-- The statement. -/
theorem fnExactItemText_holds : Rows.FnExactItemTextSaid := LFnExactItemText.over
#print axioms fnExactItemText_holds

end Go.Proofs.Ytfiapefkomolmaa
