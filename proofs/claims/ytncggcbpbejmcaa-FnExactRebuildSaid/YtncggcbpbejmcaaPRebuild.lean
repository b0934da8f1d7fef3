/- For every used part and all numbers the program's Rebuild and the reference's Rebuild answer the same. No condition. -/
import Derived.Test.YtncggcbpbejmcaaRebuilt
import Derived.Test.YtncggcbpbejmcaaOUsed
namespace Go.Proofs.Ytncggcbpbejmcaa
open Go.RowKit

set_option maxHeartbeats 4000000 in
set_option maxRecDepth 20000 in
theorem walk_FnExactRebuild (x0 : Used) (a1 : Int) (a2 : Int) (w : World) (q0 : okUsed x0) (p1 : (Lit.int .i64 a1).wf = true) (p2 : (Lit.int .i64 a2).wf = true) :
    Calls Try.prog 5 #[.agg #[.string x0.name, .int .i64 x0.hours, .int .i64 x0.play, .int .i64 x0.rust, .int .i64 x0.dents], .int .i64 a1, .int .i64 a2] w fun e w' => e = .returned (.bool true) ∧ Below w.heap.size w w' := by
  go_enter Try.func5, Try.ntmps5
  go_wp2_with fail
  have hB : Below w.heap.size w (w.alloc (.cells #[.string x0.name, .int .i64 x0.hours, .int .i64 x0.play, .int .i64 x0.rust, .int .i64 x0.dents] 30)) := ((Below.refl _ _).alloc (Nat.le_refl _) _)
  have b0_0 : ((w.alloc (.cells #[.string x0.name, .int .i64 x0.hours, .int .i64 x0.play, .int .i64 x0.rust, .int .i64 x0.dents] 30))).cell? ⟨w.heap.size, 0, none⟩ = some (.string x0.name) := by simp
  have b0_1 : ((w.alloc (.cells #[.string x0.name, .int .i64 x0.hours, .int .i64 x0.play, .int .i64 x0.rust, .int .i64 x0.dents] 30))).cell? ⟨w.heap.size, 1, none⟩ = some (.int .i64 x0.hours) := by simp
  have b0_2 : ((w.alloc (.cells #[.string x0.name, .int .i64 x0.hours, .int .i64 x0.play, .int .i64 x0.rust, .int .i64 x0.dents] 30))).cell? ⟨w.heap.size, 2, none⟩ = some (.int .i64 x0.play) := by simp
  have b0_3 : ((w.alloc (.cells #[.string x0.name, .int .i64 x0.hours, .int .i64 x0.play, .int .i64 x0.rust, .int .i64 x0.dents] 30))).cell? ⟨w.heap.size, 3, none⟩ = some (.int .i64 x0.rust) := by simp
  have b0_4 : ((w.alloc (.cells #[.string x0.name, .int .i64 x0.hours, .int .i64 x0.play, .int .i64 x0.rust, .int .i64 x0.dents] 30))).cell? ⟨w.heap.size, 4, none⟩ = some (.int .i64 x0.dents) := by simp
  have hBS0 : w.heap.size + 1 ≤ ((w.alloc (.cells #[.string x0.name, .int .i64 x0.hours, .int .i64 x0.play, .int .i64 x0.rust, .int .i64 x0.dents] 30))).heap.size := by simp
  generalize (w.alloc (.cells #[.string x0.name, .int .i64 x0.hours, .int .i64 x0.play, .int .i64 x0.rust, .int .i64 x0.dents] 30)) = W0 at *
  refine (szUsed_any x0 1048576 W0 (by omega) (by omega) q0).mono ?_
  rintro e W1 ⟨rfl, hb⟩
  have hsW1 := Lib.hid hb.size
  replace b0_0 := (hb.cell (p := ⟨w.heap.size, 0, none⟩) (by simp only []; omega)).trans b0_0
  replace b0_1 := (hb.cell (p := ⟨w.heap.size, 1, none⟩) (by simp only []; omega)).trans b0_1
  replace b0_2 := (hb.cell (p := ⟨w.heap.size, 2, none⟩) (by simp only []; omega)).trans b0_2
  replace b0_3 := (hb.cell (p := ⟨w.heap.size, 3, none⟩) (by simp only []; omega)).trans b0_3
  replace b0_4 := (hb.cell (p := ⟨w.heap.size, 4, none⟩) (by simp only []; omega)).trans b0_4
  replace hBS0 := Nat.le_trans hBS0 hb.size
  replace hB := Below.step hB hb
  clear hb
  by_cases ht0 : ((strUsed x0 : Nat) : Int) ≤ 1048576
  rotate_left
  · rw [szr_neg ht0]
    go_wp2_with fail
    go_ret
    exact ⟨rfl, hB⟩
  rw [szr_pos ht0]
  go_wp2_with fail
  refine (toUsed_any x0 W1).mono ?_
  rintro e W2 ⟨rfl, hb⟩
  have hsW2 := Lib.hid hb.size
  replace b0_0 := (hb.cell (p := ⟨w.heap.size, 0, none⟩) (by simp only []; omega)).trans b0_0
  replace b0_1 := (hb.cell (p := ⟨w.heap.size, 1, none⟩) (by simp only []; omega)).trans b0_1
  replace b0_2 := (hb.cell (p := ⟨w.heap.size, 2, none⟩) (by simp only []; omega)).trans b0_2
  replace b0_3 := (hb.cell (p := ⟨w.heap.size, 3, none⟩) (by simp only []; omega)).trans b0_3
  replace b0_4 := (hb.cell (p := ⟨w.heap.size, 4, none⟩) (by simp only []; omega)).trans b0_4
  replace hBS0 := Nat.le_trans hBS0 hb.size
  replace hB := Below.step hB hb
  clear hb
  go_wp2_with fail
  refine (sRebuild_law x0 a1 a2 W2 q0 p1 p2).mono ?_
  rintro e W3 ⟨rfl, hb⟩
  have hsW3 := Lib.hid hb.size
  replace b0_0 := (hb.cell (p := ⟨w.heap.size, 0, none⟩) (by simp only []; omega)).trans b0_0
  replace b0_1 := (hb.cell (p := ⟨w.heap.size, 1, none⟩) (by simp only []; omega)).trans b0_1
  replace b0_2 := (hb.cell (p := ⟨w.heap.size, 2, none⟩) (by simp only []; omega)).trans b0_2
  replace b0_3 := (hb.cell (p := ⟨w.heap.size, 3, none⟩) (by simp only []; omega)).trans b0_3
  replace b0_4 := (hb.cell (p := ⟨w.heap.size, 4, none⟩) (by simp only []; omega)).trans b0_4
  replace hBS0 := Nat.le_trans hBS0 hb.size
  replace hB := Below.step hB hb
  clear hb
  have b0_0A : ∀ o, (W3.alloc o).cell? ⟨w.heap.size, 0, none⟩ = _ := fun o => (box_old _ o _ (by simp only []; omega)).trans b0_0
  have b0_1A : ∀ o, (W3.alloc o).cell? ⟨w.heap.size, 1, none⟩ = _ := fun o => (box_old _ o _ (by simp only []; omega)).trans b0_1
  have b0_2A : ∀ o, (W3.alloc o).cell? ⟨w.heap.size, 2, none⟩ = _ := fun o => (box_old _ o _ (by simp only []; omega)).trans b0_2
  have b0_3A : ∀ o, (W3.alloc o).cell? ⟨w.heap.size, 3, none⟩ = _ := fun o => (box_old _ o _ (by simp only []; omega)).trans b0_3
  have b0_4A : ∀ o, (W3.alloc o).cell? ⟨w.heap.size, 4, none⟩ = _ := fun o => (box_old _ o _ (by simp only []; omega)).trans b0_4
  go_wp2_with fail
  clear b0_0A b0_1A b0_2A b0_3A b0_4A
  have hb : Below W3.heap.size W3 (W3.alloc (.cells #[.string ((Rebuild_r x0 a1 a2).1).name, .int .i64 ((Rebuild_r x0 a1 a2).1).hours, .int .i64 ((Rebuild_r x0 a1 a2).1).play, .int .i64 ((Rebuild_r x0 a1 a2).1).rust, .int .i64 ((Rebuild_r x0 a1 a2).1).dents] 33)) := (Below.refl _ _).alloc (Nat.le_refl _) _
  have w0B_0 : (W3.alloc (.cells #[.string ((Rebuild_r x0 a1 a2).1).name, .int .i64 ((Rebuild_r x0 a1 a2).1).hours, .int .i64 ((Rebuild_r x0 a1 a2).1).play, .int .i64 ((Rebuild_r x0 a1 a2).1).rust, .int .i64 ((Rebuild_r x0 a1 a2).1).dents] 33)).cell? ⟨W3.heap.size, 0, none⟩ = some (.string ((Rebuild_r x0 a1 a2).1).name) := (box_new _ _ _ 0).trans rfl
  have w0B_1 : (W3.alloc (.cells #[.string ((Rebuild_r x0 a1 a2).1).name, .int .i64 ((Rebuild_r x0 a1 a2).1).hours, .int .i64 ((Rebuild_r x0 a1 a2).1).play, .int .i64 ((Rebuild_r x0 a1 a2).1).rust, .int .i64 ((Rebuild_r x0 a1 a2).1).dents] 33)).cell? ⟨W3.heap.size, 1, none⟩ = some (.int .i64 ((Rebuild_r x0 a1 a2).1).hours) := (box_new _ _ _ 1).trans rfl
  have w0B_2 : (W3.alloc (.cells #[.string ((Rebuild_r x0 a1 a2).1).name, .int .i64 ((Rebuild_r x0 a1 a2).1).hours, .int .i64 ((Rebuild_r x0 a1 a2).1).play, .int .i64 ((Rebuild_r x0 a1 a2).1).rust, .int .i64 ((Rebuild_r x0 a1 a2).1).dents] 33)).cell? ⟨W3.heap.size, 2, none⟩ = some (.int .i64 ((Rebuild_r x0 a1 a2).1).play) := (box_new _ _ _ 2).trans rfl
  have w0B_3 : (W3.alloc (.cells #[.string ((Rebuild_r x0 a1 a2).1).name, .int .i64 ((Rebuild_r x0 a1 a2).1).hours, .int .i64 ((Rebuild_r x0 a1 a2).1).play, .int .i64 ((Rebuild_r x0 a1 a2).1).rust, .int .i64 ((Rebuild_r x0 a1 a2).1).dents] 33)).cell? ⟨W3.heap.size, 3, none⟩ = some (.int .i64 ((Rebuild_r x0 a1 a2).1).rust) := (box_new _ _ _ 3).trans rfl
  have w0B_4 : (W3.alloc (.cells #[.string ((Rebuild_r x0 a1 a2).1).name, .int .i64 ((Rebuild_r x0 a1 a2).1).hours, .int .i64 ((Rebuild_r x0 a1 a2).1).play, .int .i64 ((Rebuild_r x0 a1 a2).1).rust, .int .i64 ((Rebuild_r x0 a1 a2).1).dents] 33)).cell? ⟨W3.heap.size, 4, none⟩ = some (.int .i64 ((Rebuild_r x0 a1 a2).1).dents) := (box_new _ _ _ 4).trans rfl
  have w0BS : W3.heap.size + 1 ≤ (W3.alloc (.cells #[.string ((Rebuild_r x0 a1 a2).1).name, .int .i64 ((Rebuild_r x0 a1 a2).1).hours, .int .i64 ((Rebuild_r x0 a1 a2).1).play, .int .i64 ((Rebuild_r x0 a1 a2).1).rust, .int .i64 ((Rebuild_r x0 a1 a2).1).dents] 33)).heap.size := by simp
  generalize W3.alloc (.cells #[.string ((Rebuild_r x0 a1 a2).1).name, .int .i64 ((Rebuild_r x0 a1 a2).1).hours, .int .i64 ((Rebuild_r x0 a1 a2).1).play, .int .i64 ((Rebuild_r x0 a1 a2).1).rust, .int .i64 ((Rebuild_r x0 a1 a2).1).dents] 33) = W4 at *
  have hsW4 := Lib.hid hb.size
  replace b0_0 := (hb.cell (p := ⟨w.heap.size, 0, none⟩) (by simp only []; omega)).trans b0_0
  replace b0_1 := (hb.cell (p := ⟨w.heap.size, 1, none⟩) (by simp only []; omega)).trans b0_1
  replace b0_2 := (hb.cell (p := ⟨w.heap.size, 2, none⟩) (by simp only []; omega)).trans b0_2
  replace b0_3 := (hb.cell (p := ⟨w.heap.size, 3, none⟩) (by simp only []; omega)).trans b0_3
  replace b0_4 := (hb.cell (p := ⟨w.heap.size, 4, none⟩) (by simp only []; omega)).trans b0_4
  replace hBS0 := Nat.le_trans hBS0 hb.size
  replace hB := Below.step hB hb
  clear hb
  refine (toUsed_any x0 W4).mono ?_
  rintro e W5 ⟨rfl, hb⟩
  have hsW5 := Lib.hid hb.size
  replace b0_0 := (hb.cell (p := ⟨w.heap.size, 0, none⟩) (by simp only []; omega)).trans b0_0
  replace b0_1 := (hb.cell (p := ⟨w.heap.size, 1, none⟩) (by simp only []; omega)).trans b0_1
  replace b0_2 := (hb.cell (p := ⟨w.heap.size, 2, none⟩) (by simp only []; omega)).trans b0_2
  replace b0_3 := (hb.cell (p := ⟨w.heap.size, 3, none⟩) (by simp only []; omega)).trans b0_3
  replace b0_4 := (hb.cell (p := ⟨w.heap.size, 4, none⟩) (by simp only []; omega)).trans b0_4
  replace w0B_0 := (hb.cell (p := ⟨W3.heap.size, 0, none⟩) (by simp only []; omega)).trans w0B_0
  replace w0B_1 := (hb.cell (p := ⟨W3.heap.size, 1, none⟩) (by simp only []; omega)).trans w0B_1
  replace w0B_2 := (hb.cell (p := ⟨W3.heap.size, 2, none⟩) (by simp only []; omega)).trans w0B_2
  replace w0B_3 := (hb.cell (p := ⟨W3.heap.size, 3, none⟩) (by simp only []; omega)).trans w0B_3
  replace w0B_4 := (hb.cell (p := ⟨W3.heap.size, 4, none⟩) (by simp only []; omega)).trans w0B_4
  replace hBS0 := Nat.le_trans hBS0 hb.size
  replace w0BS := Nat.le_trans w0BS hb.size
  replace hB := Below.step hB hb
  clear hb
  go_wp2_with fail
  refine (iRebuild_law x0 a1 a2 W5 q0 p1 p2).mono ?_
  rintro e W6 ⟨rfl, hb⟩
  have hsW6 := Lib.hid hb.size
  replace b0_0 := (hb.cell (p := ⟨w.heap.size, 0, none⟩) (by simp only []; omega)).trans b0_0
  replace b0_1 := (hb.cell (p := ⟨w.heap.size, 1, none⟩) (by simp only []; omega)).trans b0_1
  replace b0_2 := (hb.cell (p := ⟨w.heap.size, 2, none⟩) (by simp only []; omega)).trans b0_2
  replace b0_3 := (hb.cell (p := ⟨w.heap.size, 3, none⟩) (by simp only []; omega)).trans b0_3
  replace b0_4 := (hb.cell (p := ⟨w.heap.size, 4, none⟩) (by simp only []; omega)).trans b0_4
  replace w0B_0 := (hb.cell (p := ⟨W3.heap.size, 0, none⟩) (by simp only []; omega)).trans w0B_0
  replace w0B_1 := (hb.cell (p := ⟨W3.heap.size, 1, none⟩) (by simp only []; omega)).trans w0B_1
  replace w0B_2 := (hb.cell (p := ⟨W3.heap.size, 2, none⟩) (by simp only []; omega)).trans w0B_2
  replace w0B_3 := (hb.cell (p := ⟨W3.heap.size, 3, none⟩) (by simp only []; omega)).trans w0B_3
  replace w0B_4 := (hb.cell (p := ⟨W3.heap.size, 4, none⟩) (by simp only []; omega)).trans w0B_4
  replace hBS0 := Nat.le_trans hBS0 hb.size
  replace w0BS := Nat.le_trans w0BS hb.size
  replace hB := Below.step hB hb
  clear hb
  have b0_0A : ∀ o, (W6.alloc o).cell? ⟨w.heap.size, 0, none⟩ = _ := fun o => (box_old _ o _ (by simp only []; omega)).trans b0_0
  have b0_1A : ∀ o, (W6.alloc o).cell? ⟨w.heap.size, 1, none⟩ = _ := fun o => (box_old _ o _ (by simp only []; omega)).trans b0_1
  have b0_2A : ∀ o, (W6.alloc o).cell? ⟨w.heap.size, 2, none⟩ = _ := fun o => (box_old _ o _ (by simp only []; omega)).trans b0_2
  have b0_3A : ∀ o, (W6.alloc o).cell? ⟨w.heap.size, 3, none⟩ = _ := fun o => (box_old _ o _ (by simp only []; omega)).trans b0_3
  have b0_4A : ∀ o, (W6.alloc o).cell? ⟨w.heap.size, 4, none⟩ = _ := fun o => (box_old _ o _ (by simp only []; omega)).trans b0_4
  have w0B_0A : ∀ o, (W6.alloc o).cell? ⟨W3.heap.size, 0, none⟩ = _ := fun o => (box_old _ o _ (by simp only []; omega)).trans w0B_0
  have w0B_1A : ∀ o, (W6.alloc o).cell? ⟨W3.heap.size, 1, none⟩ = _ := fun o => (box_old _ o _ (by simp only []; omega)).trans w0B_1
  have w0B_2A : ∀ o, (W6.alloc o).cell? ⟨W3.heap.size, 2, none⟩ = _ := fun o => (box_old _ o _ (by simp only []; omega)).trans w0B_2
  have w0B_3A : ∀ o, (W6.alloc o).cell? ⟨W3.heap.size, 3, none⟩ = _ := fun o => (box_old _ o _ (by simp only []; omega)).trans w0B_3
  have w0B_4A : ∀ o, (W6.alloc o).cell? ⟨W3.heap.size, 4, none⟩ = _ := fun o => (box_old _ o _ (by simp only []; omega)).trans w0B_4
  go_wp2_with fail
  clear b0_0A b0_1A b0_2A b0_3A b0_4A w0B_0A w0B_1A w0B_2A w0B_3A w0B_4A
  have hb : Below W6.heap.size W6 (W6.alloc (.cells #[.string ((Rebuild_r x0 a1 a2).1).name, .int .i64 ((Rebuild_r x0 a1 a2).1).hours, .int .i64 ((Rebuild_r x0 a1 a2).1).play, .int .i64 ((Rebuild_r x0 a1 a2).1).rust, .int .i64 ((Rebuild_r x0 a1 a2).1).dents] 33)) := (Below.refl _ _).alloc (Nat.le_refl _) _
  have g0B_0 : (W6.alloc (.cells #[.string ((Rebuild_r x0 a1 a2).1).name, .int .i64 ((Rebuild_r x0 a1 a2).1).hours, .int .i64 ((Rebuild_r x0 a1 a2).1).play, .int .i64 ((Rebuild_r x0 a1 a2).1).rust, .int .i64 ((Rebuild_r x0 a1 a2).1).dents] 33)).cell? ⟨W6.heap.size, 0, none⟩ = some (.string ((Rebuild_r x0 a1 a2).1).name) := (box_new _ _ _ 0).trans rfl
  have g0B_1 : (W6.alloc (.cells #[.string ((Rebuild_r x0 a1 a2).1).name, .int .i64 ((Rebuild_r x0 a1 a2).1).hours, .int .i64 ((Rebuild_r x0 a1 a2).1).play, .int .i64 ((Rebuild_r x0 a1 a2).1).rust, .int .i64 ((Rebuild_r x0 a1 a2).1).dents] 33)).cell? ⟨W6.heap.size, 1, none⟩ = some (.int .i64 ((Rebuild_r x0 a1 a2).1).hours) := (box_new _ _ _ 1).trans rfl
  have g0B_2 : (W6.alloc (.cells #[.string ((Rebuild_r x0 a1 a2).1).name, .int .i64 ((Rebuild_r x0 a1 a2).1).hours, .int .i64 ((Rebuild_r x0 a1 a2).1).play, .int .i64 ((Rebuild_r x0 a1 a2).1).rust, .int .i64 ((Rebuild_r x0 a1 a2).1).dents] 33)).cell? ⟨W6.heap.size, 2, none⟩ = some (.int .i64 ((Rebuild_r x0 a1 a2).1).play) := (box_new _ _ _ 2).trans rfl
  have g0B_3 : (W6.alloc (.cells #[.string ((Rebuild_r x0 a1 a2).1).name, .int .i64 ((Rebuild_r x0 a1 a2).1).hours, .int .i64 ((Rebuild_r x0 a1 a2).1).play, .int .i64 ((Rebuild_r x0 a1 a2).1).rust, .int .i64 ((Rebuild_r x0 a1 a2).1).dents] 33)).cell? ⟨W6.heap.size, 3, none⟩ = some (.int .i64 ((Rebuild_r x0 a1 a2).1).rust) := (box_new _ _ _ 3).trans rfl
  have g0B_4 : (W6.alloc (.cells #[.string ((Rebuild_r x0 a1 a2).1).name, .int .i64 ((Rebuild_r x0 a1 a2).1).hours, .int .i64 ((Rebuild_r x0 a1 a2).1).play, .int .i64 ((Rebuild_r x0 a1 a2).1).rust, .int .i64 ((Rebuild_r x0 a1 a2).1).dents] 33)).cell? ⟨W6.heap.size, 4, none⟩ = some (.int .i64 ((Rebuild_r x0 a1 a2).1).dents) := (box_new _ _ _ 4).trans rfl
  have g0BS : W6.heap.size + 1 ≤ (W6.alloc (.cells #[.string ((Rebuild_r x0 a1 a2).1).name, .int .i64 ((Rebuild_r x0 a1 a2).1).hours, .int .i64 ((Rebuild_r x0 a1 a2).1).play, .int .i64 ((Rebuild_r x0 a1 a2).1).rust, .int .i64 ((Rebuild_r x0 a1 a2).1).dents] 33)).heap.size := by simp
  generalize W6.alloc (.cells #[.string ((Rebuild_r x0 a1 a2).1).name, .int .i64 ((Rebuild_r x0 a1 a2).1).hours, .int .i64 ((Rebuild_r x0 a1 a2).1).play, .int .i64 ((Rebuild_r x0 a1 a2).1).rust, .int .i64 ((Rebuild_r x0 a1 a2).1).dents] 33) = W7 at *
  have hsW7 := Lib.hid hb.size
  replace b0_0 := (hb.cell (p := ⟨w.heap.size, 0, none⟩) (by simp only []; omega)).trans b0_0
  replace b0_1 := (hb.cell (p := ⟨w.heap.size, 1, none⟩) (by simp only []; omega)).trans b0_1
  replace b0_2 := (hb.cell (p := ⟨w.heap.size, 2, none⟩) (by simp only []; omega)).trans b0_2
  replace b0_3 := (hb.cell (p := ⟨w.heap.size, 3, none⟩) (by simp only []; omega)).trans b0_3
  replace b0_4 := (hb.cell (p := ⟨w.heap.size, 4, none⟩) (by simp only []; omega)).trans b0_4
  replace w0B_0 := (hb.cell (p := ⟨W3.heap.size, 0, none⟩) (by simp only []; omega)).trans w0B_0
  replace w0B_1 := (hb.cell (p := ⟨W3.heap.size, 1, none⟩) (by simp only []; omega)).trans w0B_1
  replace w0B_2 := (hb.cell (p := ⟨W3.heap.size, 2, none⟩) (by simp only []; omega)).trans w0B_2
  replace w0B_3 := (hb.cell (p := ⟨W3.heap.size, 3, none⟩) (by simp only []; omega)).trans w0B_3
  replace w0B_4 := (hb.cell (p := ⟨W3.heap.size, 4, none⟩) (by simp only []; omega)).trans w0B_4
  replace hBS0 := Nat.le_trans hBS0 hb.size
  replace w0BS := Nat.le_trans w0BS hb.size
  replace hB := Below.step hB hb
  clear hb
  refine (eqUsed_same ((Rebuild_r x0 a1 a2).1) W7).mono ?_
  rintro e W8 ⟨rfl, hb⟩
  have hsW8 := Lib.hid hb.size
  replace b0_0 := (hb.cell (p := ⟨w.heap.size, 0, none⟩) (by simp only []; omega)).trans b0_0
  replace b0_1 := (hb.cell (p := ⟨w.heap.size, 1, none⟩) (by simp only []; omega)).trans b0_1
  replace b0_2 := (hb.cell (p := ⟨w.heap.size, 2, none⟩) (by simp only []; omega)).trans b0_2
  replace b0_3 := (hb.cell (p := ⟨w.heap.size, 3, none⟩) (by simp only []; omega)).trans b0_3
  replace b0_4 := (hb.cell (p := ⟨w.heap.size, 4, none⟩) (by simp only []; omega)).trans b0_4
  replace w0B_0 := (hb.cell (p := ⟨W3.heap.size, 0, none⟩) (by simp only []; omega)).trans w0B_0
  replace w0B_1 := (hb.cell (p := ⟨W3.heap.size, 1, none⟩) (by simp only []; omega)).trans w0B_1
  replace w0B_2 := (hb.cell (p := ⟨W3.heap.size, 2, none⟩) (by simp only []; omega)).trans w0B_2
  replace w0B_3 := (hb.cell (p := ⟨W3.heap.size, 3, none⟩) (by simp only []; omega)).trans w0B_3
  replace w0B_4 := (hb.cell (p := ⟨W3.heap.size, 4, none⟩) (by simp only []; omega)).trans w0B_4
  replace g0B_0 := (hb.cell (p := ⟨W6.heap.size, 0, none⟩) (by simp only []; omega)).trans g0B_0
  replace g0B_1 := (hb.cell (p := ⟨W6.heap.size, 1, none⟩) (by simp only []; omega)).trans g0B_1
  replace g0B_2 := (hb.cell (p := ⟨W6.heap.size, 2, none⟩) (by simp only []; omega)).trans g0B_2
  replace g0B_3 := (hb.cell (p := ⟨W6.heap.size, 3, none⟩) (by simp only []; omega)).trans g0B_3
  replace g0B_4 := (hb.cell (p := ⟨W6.heap.size, 4, none⟩) (by simp only []; omega)).trans g0B_4
  replace hBS0 := Nat.le_trans hBS0 hb.size
  replace w0BS := Nat.le_trans w0BS hb.size
  replace g0BS := Nat.le_trans g0BS hb.size
  replace hB := Below.step hB hb
  clear hb
  go_wp2_with fail
  go_ret
  exact ⟨rfl, hB⟩

namespace LFnExactRebuild
open Go.ChangeShapes Go.WideShapes Go.ChangeAt Go.RowKit
open Go.ChangeMaps (open_string shut_string)
set_option linter.unusedVariables false
set_option maxRecDepth 100000 in
theorem lifted (os : Os) (started : os.Started) (H : Type) (enc : TypeId × Value → H) :
    ReturnsInHanded {} Try.checked os 5 .any (Rows.fnExactRebuildSpec.pre6 enc Try.prog Try.f5 Rows.fnExactRebuildRow.domain false) (Rows.fnExactRebuildSpec.post enc Try.prog Try.f5 false true false false) := by
  refine returnsInHanded_of_change (C := Try.checked) own started (by kernel_rfl) Try.func5
    (ChangeSpec.witness6 (enc := enc) (C := Try.checked) false ⟨#[], #[.agg #[.string ⟨#[]⟩, .int .i64 0, .int .i64 0, .int .i64 0, .int .i64 0], .int .i64 0, .int .i64 0], []⟩ 8 (by kernel_rfl) (by kernel_rfl) (by kernel_rfl) (by kernel_rfl)) ?_
  intro W base args ds gs before hval0 hW hcnd _
  have hval : ∀ (j : Nat) t v, Try.f5.params[j]? = some t → args[j]? = some v → Value.okWide Try.prog W .any base t v := hval0
  have hW' := hW
  obtain ⟨p, q, hA0, hV, rfl, hfz, hnd⟩ := hW
  have hA : DataW.TrodAll enc Try.prog W 0 (fun _ => true) true Try.f5.params.toList args.toList ds p := hA0
  rw [Try.params5] at hA hval
  obtain ⟨v0, vs0, d0, ds0, p0, q0, hargs, rfl, rfl, h0, r0⟩ := trodAll_cons hA
  obtain ⟨v1, vs1, d1, ds1, p1, q1, rfl, rfl, rfl, h1, r1⟩ := trodAll_cons r0
  obtain ⟨v2, vs2, d2, ds2, p2, q2, rfl, rfl, rfl, h2, r2⟩ := trodAll_cons r1
  obtain ⟨rfl, rfl, rfl⟩ := trodAll_nil r2
  obtain rfl : args = #[v0, v1, v2] := by cases args; simp_all
  obtain ⟨rfl, rfl⟩ := trodVars_none hV
  have k0 := h0
  have lt0 : ∀ x ∈ p0, x.block < W.heap.size := by obtain ⟨m, hm⟩ := k0; exact DataW.trod_lt m _ _ _ hm
  obtain ⟨x0, rfl, u0⟩ := openUsed (hval 0 30 v0 rfl rfl) h0
  have k1 := h1
  have lt1 : ∀ x ∈ p1, x.block < W.heap.size := by obtain ⟨m, hm⟩ := k1; exact DataW.trod_lt m _ _ _ hm
  obtain ⟨a1, rfl, rfl, rfl, w1⟩ := open_int Try.underlying2 (hval 1 2 v1 rfl rfl) h1
  have k2 := h2
  have lt2 : ∀ x ∈ p2, x.block < W.heap.size := by obtain ⟨m, hm⟩ := k2; exact DataW.trod_lt m _ _ _ hm
  obtain ⟨a2, rfl, rfl, rfl, w2⟩ := open_int Try.underlying2 (hval 2 2 v2 rfl rfl) h2
  clear hA0 hval0
  refine (walk_FnExactRebuild x0 a1 a2 W u0 w1 w2).mono fun e W' ⟨he, bel⟩ => ?_
  subst he
  exact ⟨_, rfl, _, _, _, [], _, [], hW', trodAll_mk1 (shut_bool Try.underlying4 _), (trodAll_cons_mk (Below.trod laidOut (by kernel_rfl) (of_decide_eq_true (by kernel_rfl)) k0 bel lt0) (trodAll_cons_mk (Below.trod laidOut (by kernel_rfl) (of_decide_eq_true (by kernel_rfl)) k1 bel lt1) (trodAll_cons_mk (Below.trod laidOut (by kernel_rfl) (of_decide_eq_true (by kernel_rfl)) k2 bel lt2) trodAll_mk0))), rfl, bel.frame _, fun h => by cases h⟩
theorem over : Rows.fnExactRebuildRow.holds Try.pinned (OpenSpec.ofChange Rows.fnExactRebuildSpec) :=
  OpenClaim.holds_of_wide 5 Try.f5 rfl rfl rfl rfl rfl rfl rfl ⟨rfl, rfl, rfl, rfl, rfl⟩ rfl rfl rfl rfl rfl (by kernel_rfl) Try.func5 (by kernel_rfl)
    (of_decide_eq_true (by kernel_rfl)) (by unfold Func.isWrapper; first | (rw [if_pos (by decide +kernel)]; kernel_rfl) | (rw [if_neg (by decide +kernel)]; exact ⟨rfl, rfl⟩))
    (fun os started H enc _ => lifted os started H enc)
end LFnExactRebuild
/-- The statement. -/
theorem fnExactRebuild_holds : Rows.FnExactRebuildSaid := LFnExactRebuild.over
#print axioms fnExactRebuild_holds

end Go.Proofs.Ytncggcbpbejmcaa
