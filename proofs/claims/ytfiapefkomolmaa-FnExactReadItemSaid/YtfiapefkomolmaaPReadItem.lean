/- For every text the program's ReadItem and the reference's ReadItem answer the same. No condition. -/
import Derived.Test.YtfiapefkomolmaaReadI
import Derived.Test.YtfiapefkomolmaaReadS
import Derived.Test.YtfiapefkomolmaaOItem
namespace Go.Proofs.Ytfiapefkomolmaa
open Go.RowKit

set_option maxHeartbeats 4000000 in
set_option maxRecDepth 20000 in
theorem walk_FnExactReadItem (a0 : ByteArray) (w : World) (p0 : a0.size ≤ maxLen) :
    Calls Try.prog 8 #[.string a0] w fun e w' => e = .returned (.bool true) ∧ Below w.heap.size w w' := by
  have hB : Below w.heap.size w w := Below.refl _ _
  have hmax0 : a0.size ≤ 9223372036854775807 := p0
  by_cases hn0 : a0.size ≤ 1048576
  rotate_left
  · go_enter Try.func8, Try.ntmps8
    go_wp2_with fail
    go_ret
    exact ⟨rfl, hB⟩
  go_enter Try.func8, Try.ntmps8
  go_wp2_with fail
  refine (sReadItem_law a0 w hn0).mono ?_
  rintro e W1 ⟨rfl, hb⟩
  have hsW1 := Lib.hid hb.size
  replace hB := Below.step hB hb
  clear hb
  go_wp2_with fail
  have hb : Below W1.heap.size W1 (W1.alloc (.cells #[.string ((ReadItem_r a0).1).name, .int .i64 ((ReadItem_r a0).1).pieces, .int .i64 ((ReadItem_r a0).1).cents, .bool ((ReadItem_r a0).1).work] 40)) := (Below.refl _ _).alloc (Nat.le_refl _) _
  have w0B_0 : (W1.alloc (.cells #[.string ((ReadItem_r a0).1).name, .int .i64 ((ReadItem_r a0).1).pieces, .int .i64 ((ReadItem_r a0).1).cents, .bool ((ReadItem_r a0).1).work] 40)).cell? ⟨W1.heap.size, 0, none⟩ = some (.string ((ReadItem_r a0).1).name) := (box_new _ _ _ 0).trans rfl
  have w0B_1 : (W1.alloc (.cells #[.string ((ReadItem_r a0).1).name, .int .i64 ((ReadItem_r a0).1).pieces, .int .i64 ((ReadItem_r a0).1).cents, .bool ((ReadItem_r a0).1).work] 40)).cell? ⟨W1.heap.size, 1, none⟩ = some (.int .i64 ((ReadItem_r a0).1).pieces) := (box_new _ _ _ 1).trans rfl
  have w0B_2 : (W1.alloc (.cells #[.string ((ReadItem_r a0).1).name, .int .i64 ((ReadItem_r a0).1).pieces, .int .i64 ((ReadItem_r a0).1).cents, .bool ((ReadItem_r a0).1).work] 40)).cell? ⟨W1.heap.size, 2, none⟩ = some (.int .i64 ((ReadItem_r a0).1).cents) := (box_new _ _ _ 2).trans rfl
  have w0B_3 : (W1.alloc (.cells #[.string ((ReadItem_r a0).1).name, .int .i64 ((ReadItem_r a0).1).pieces, .int .i64 ((ReadItem_r a0).1).cents, .bool ((ReadItem_r a0).1).work] 40)).cell? ⟨W1.heap.size, 3, none⟩ = some (.bool ((ReadItem_r a0).1).work) := (box_new _ _ _ 3).trans rfl
  have w0BS : W1.heap.size + 1 ≤ (W1.alloc (.cells #[.string ((ReadItem_r a0).1).name, .int .i64 ((ReadItem_r a0).1).pieces, .int .i64 ((ReadItem_r a0).1).cents, .bool ((ReadItem_r a0).1).work] 40)).heap.size := by simp
  generalize W1.alloc (.cells #[.string ((ReadItem_r a0).1).name, .int .i64 ((ReadItem_r a0).1).pieces, .int .i64 ((ReadItem_r a0).1).cents, .bool ((ReadItem_r a0).1).work] 40) = W2 at *
  have hsW2 := Lib.hid hb.size
  replace hB := Below.step hB hb
  clear hb
  refine (iReadItem_law a0 W2 hn0).mono ?_
  rintro e W3 ⟨rfl, hb⟩
  have hsW3 := Lib.hid hb.size
  replace w0B_0 := (hb.cell (p := ⟨W1.heap.size, 0, none⟩) (by simp only []; omega)).trans w0B_0
  replace w0B_1 := (hb.cell (p := ⟨W1.heap.size, 1, none⟩) (by simp only []; omega)).trans w0B_1
  replace w0B_2 := (hb.cell (p := ⟨W1.heap.size, 2, none⟩) (by simp only []; omega)).trans w0B_2
  replace w0B_3 := (hb.cell (p := ⟨W1.heap.size, 3, none⟩) (by simp only []; omega)).trans w0B_3
  replace w0BS := Nat.le_trans w0BS hb.size
  replace hB := Below.step hB hb
  clear hb
  have w0B_0A : ∀ o, (W3.alloc o).cell? ⟨W1.heap.size, 0, none⟩ = _ := fun o => (box_old _ o _ (by simp only []; omega)).trans w0B_0
  have w0B_1A : ∀ o, (W3.alloc o).cell? ⟨W1.heap.size, 1, none⟩ = _ := fun o => (box_old _ o _ (by simp only []; omega)).trans w0B_1
  have w0B_2A : ∀ o, (W3.alloc o).cell? ⟨W1.heap.size, 2, none⟩ = _ := fun o => (box_old _ o _ (by simp only []; omega)).trans w0B_2
  have w0B_3A : ∀ o, (W3.alloc o).cell? ⟨W1.heap.size, 3, none⟩ = _ := fun o => (box_old _ o _ (by simp only []; omega)).trans w0B_3
  go_wp2_with fail
  clear w0B_0A w0B_1A w0B_2A w0B_3A
  have hb : Below W3.heap.size W3 (W3.alloc (.cells #[.string ((ReadItem_r a0).1).name, .int .i64 ((ReadItem_r a0).1).pieces, .int .i64 ((ReadItem_r a0).1).cents, .bool ((ReadItem_r a0).1).work] 40)) := (Below.refl _ _).alloc (Nat.le_refl _) _
  have g0B_0 : (W3.alloc (.cells #[.string ((ReadItem_r a0).1).name, .int .i64 ((ReadItem_r a0).1).pieces, .int .i64 ((ReadItem_r a0).1).cents, .bool ((ReadItem_r a0).1).work] 40)).cell? ⟨W3.heap.size, 0, none⟩ = some (.string ((ReadItem_r a0).1).name) := (box_new _ _ _ 0).trans rfl
  have g0B_1 : (W3.alloc (.cells #[.string ((ReadItem_r a0).1).name, .int .i64 ((ReadItem_r a0).1).pieces, .int .i64 ((ReadItem_r a0).1).cents, .bool ((ReadItem_r a0).1).work] 40)).cell? ⟨W3.heap.size, 1, none⟩ = some (.int .i64 ((ReadItem_r a0).1).pieces) := (box_new _ _ _ 1).trans rfl
  have g0B_2 : (W3.alloc (.cells #[.string ((ReadItem_r a0).1).name, .int .i64 ((ReadItem_r a0).1).pieces, .int .i64 ((ReadItem_r a0).1).cents, .bool ((ReadItem_r a0).1).work] 40)).cell? ⟨W3.heap.size, 2, none⟩ = some (.int .i64 ((ReadItem_r a0).1).cents) := (box_new _ _ _ 2).trans rfl
  have g0B_3 : (W3.alloc (.cells #[.string ((ReadItem_r a0).1).name, .int .i64 ((ReadItem_r a0).1).pieces, .int .i64 ((ReadItem_r a0).1).cents, .bool ((ReadItem_r a0).1).work] 40)).cell? ⟨W3.heap.size, 3, none⟩ = some (.bool ((ReadItem_r a0).1).work) := (box_new _ _ _ 3).trans rfl
  have g0BS : W3.heap.size + 1 ≤ (W3.alloc (.cells #[.string ((ReadItem_r a0).1).name, .int .i64 ((ReadItem_r a0).1).pieces, .int .i64 ((ReadItem_r a0).1).cents, .bool ((ReadItem_r a0).1).work] 40)).heap.size := by simp
  generalize W3.alloc (.cells #[.string ((ReadItem_r a0).1).name, .int .i64 ((ReadItem_r a0).1).pieces, .int .i64 ((ReadItem_r a0).1).cents, .bool ((ReadItem_r a0).1).work] 40) = W4 at *
  have hsW4 := Lib.hid hb.size
  replace w0B_0 := (hb.cell (p := ⟨W1.heap.size, 0, none⟩) (by simp only []; omega)).trans w0B_0
  replace w0B_1 := (hb.cell (p := ⟨W1.heap.size, 1, none⟩) (by simp only []; omega)).trans w0B_1
  replace w0B_2 := (hb.cell (p := ⟨W1.heap.size, 2, none⟩) (by simp only []; omega)).trans w0B_2
  replace w0B_3 := (hb.cell (p := ⟨W1.heap.size, 3, none⟩) (by simp only []; omega)).trans w0B_3
  replace w0BS := Nat.le_trans w0BS hb.size
  replace hB := Below.step hB hb
  clear hb
  refine (eqItem_same ((ReadItem_r a0).1) W4).mono ?_
  rintro e W5 ⟨rfl, hb⟩
  have hsW5 := Lib.hid hb.size
  replace w0B_0 := (hb.cell (p := ⟨W1.heap.size, 0, none⟩) (by simp only []; omega)).trans w0B_0
  replace w0B_1 := (hb.cell (p := ⟨W1.heap.size, 1, none⟩) (by simp only []; omega)).trans w0B_1
  replace w0B_2 := (hb.cell (p := ⟨W1.heap.size, 2, none⟩) (by simp only []; omega)).trans w0B_2
  replace w0B_3 := (hb.cell (p := ⟨W1.heap.size, 3, none⟩) (by simp only []; omega)).trans w0B_3
  replace g0B_0 := (hb.cell (p := ⟨W3.heap.size, 0, none⟩) (by simp only []; omega)).trans g0B_0
  replace g0B_1 := (hb.cell (p := ⟨W3.heap.size, 1, none⟩) (by simp only []; omega)).trans g0B_1
  replace g0B_2 := (hb.cell (p := ⟨W3.heap.size, 2, none⟩) (by simp only []; omega)).trans g0B_2
  replace g0B_3 := (hb.cell (p := ⟨W3.heap.size, 3, none⟩) (by simp only []; omega)).trans g0B_3
  replace w0BS := Nat.le_trans w0BS hb.size
  replace g0BS := Nat.le_trans g0BS hb.size
  replace hB := Below.step hB hb
  clear hb
  go_wp2_with fail
  go_ret
  exact ⟨rfl, hB⟩

namespace LFnExactReadItem
open Go.ChangeShapes Go.WideShapes Go.ChangeAt Go.RowKit
open Go.ChangeMaps (open_string shut_string)
set_option linter.unusedVariables false
set_option maxRecDepth 100000 in
theorem lifted (os : Os) (started : os.Started) (H : Type) (enc : TypeId × Value → H) :
    ReturnsInHanded {} Try.checked os 8 .any (Rows.fnExactReadItemSpec.pre6 enc Try.prog Try.f8 Rows.fnExactReadItemRow.domain false) (Rows.fnExactReadItemSpec.post enc Try.prog Try.f8 false true false false) := by
  refine returnsInHanded_of_change (C := Try.checked) own started (by kernel_rfl) Try.func8
    (ChangeSpec.witness6 (enc := enc) (C := Try.checked) false ⟨#[], #[.string ⟨#[]⟩], []⟩ 8 (by kernel_rfl) (by kernel_rfl) (by kernel_rfl) (by kernel_rfl)) ?_
  intro W base args ds gs before hval0 hW hcnd _
  have hval : ∀ (j : Nat) t v, Try.f8.params[j]? = some t → args[j]? = some v → Value.okWide Try.prog W .any base t v := hval0
  have hW' := hW
  obtain ⟨p, q, hA0, hV, rfl, hfz, hnd⟩ := hW
  have hA : DataW.TrodAll enc Try.prog W 0 (fun _ => true) true Try.f8.params.toList args.toList ds p := hA0
  rw [Try.params8] at hA hval
  obtain ⟨v0, vs0, d0, ds0, p0, q0, hargs, rfl, rfl, h0, r0⟩ := trodAll_cons hA
  obtain ⟨rfl, rfl, rfl⟩ := trodAll_nil r0
  obtain rfl : args = #[v0] := by cases args; simp_all
  obtain ⟨rfl, rfl⟩ := trodVars_none hV
  have k0 := h0
  have lt0 : ∀ x ∈ p0, x.block < W.heap.size := by obtain ⟨m, hm⟩ := k0; exact DataW.trod_lt m _ _ _ hm
  obtain ⟨a0, rfl, rfl, rfl, w0⟩ := open_string Try.underlying9 (hval 0 9 v0 rfl rfl) h0
  clear hA0 hval0
  refine (walk_FnExactReadItem a0 W w0).mono fun e W' ⟨he, bel⟩ => ?_
  subst he
  exact ⟨_, rfl, _, _, _, [], _, [], hW', trodAll_mk1 (shut_bool Try.underlying4 _), (trodAll_cons_mk (Below.trod laidOut (by kernel_rfl) (of_decide_eq_true (by kernel_rfl)) k0 bel lt0) trodAll_mk0), rfl, bel.frame _, fun h => by cases h⟩
theorem over : Rows.fnExactReadItemRow.holds Try.pinned (OpenSpec.ofChange Rows.fnExactReadItemSpec) :=
  OpenClaim.holds_of_wide 8 Try.f8 rfl rfl rfl rfl rfl rfl rfl ⟨rfl, rfl, rfl, rfl, rfl⟩ rfl rfl rfl rfl rfl (by kernel_rfl) Try.func8 (by kernel_rfl)
    (of_decide_eq_true (by kernel_rfl)) (by unfold Func.isWrapper; first | (rw [if_pos (by decide +kernel)]; kernel_rfl) | (rw [if_neg (by decide +kernel)]; exact ⟨rfl, rfl⟩))
    (fun os started H enc _ => lifted os started H enc)
end LFnExactReadItem
/-- The statement. -/
theorem fnExactReadItem_holds : Rows.FnExactReadItemSaid := LFnExactReadItem.over
#print axioms fnExactReadItem_holds

end Go.Proofs.Ytfiapefkomolmaa
