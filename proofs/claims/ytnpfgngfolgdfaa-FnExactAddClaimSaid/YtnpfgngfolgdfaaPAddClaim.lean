/- For every list of claims and every claim the program's AddClaim and the reference's AddClaim answer the same, in memory of the answer's own, and the list is left as it was. No condition. -/
import Derived.Test.YtnpfgngfolgdfaaAddClaim
import Derived.Test.YtnpfgngfolgdfaaOClaim
import Derived.Test.YtnpfgngfolgdfaaMClaim
namespace Go.Proofs.Ytnpfgngfolgdfaa
open Go.RowKit

set_option maxHeartbeats 4000000 in
set_option maxRecDepth 20000 in
theorem walk_FnExactAddClaim (a0 : Option Addr) (len0 cap0 : Nat) (xs0 : List Claim) (x1 : Claim) (w : World) (p0 : RowS eClaim w a0 len0 cap0 xs0) (q0 : ∀ x ∈ xs0, okClaim x) (q1 : okClaim x1) :
    Calls Try.prog 7 #[.slice a0 len0 cap0, .agg #[.string x1.part, .int .i64 x1.sold, .int .i64 x1.day, .int .i64 x1.tens]] w fun e w' => e = .returned (.bool true) ∧ Below w.heap.size w w' := by
  have hmax0 := p0.max
  go_enter Try.func7, Try.ntmps7
  go_wp2_with fail
  have hB : Below w.heap.size w (w.alloc (.cells #[.string x1.part, .int .i64 x1.sold, .int .i64 x1.day, .int .i64 x1.tens] 43)) := ((Below.refl _ _).alloc (Nat.le_refl _) _)
  have b0_0 : ((w.alloc (.cells #[.string x1.part, .int .i64 x1.sold, .int .i64 x1.day, .int .i64 x1.tens] 43))).cell? ⟨w.heap.size, 0, none⟩ = some (.string x1.part) := by simp
  have b0_1 : ((w.alloc (.cells #[.string x1.part, .int .i64 x1.sold, .int .i64 x1.day, .int .i64 x1.tens] 43))).cell? ⟨w.heap.size, 1, none⟩ = some (.int .i64 x1.sold) := by simp
  have b0_2 : ((w.alloc (.cells #[.string x1.part, .int .i64 x1.sold, .int .i64 x1.day, .int .i64 x1.tens] 43))).cell? ⟨w.heap.size, 2, none⟩ = some (.int .i64 x1.day) := by simp
  have b0_3 : ((w.alloc (.cells #[.string x1.part, .int .i64 x1.sold, .int .i64 x1.day, .int .i64 x1.tens] 43))).cell? ⟨w.heap.size, 3, none⟩ = some (.int .i64 x1.tens) := by simp
  have hBS0 : w.heap.size + 1 ≤ ((w.alloc (.cells #[.string x1.part, .int .i64 x1.sold, .int .i64 x1.day, .int .i64 x1.tens] 43))).heap.size := by simp
  have hsW0 : Hid (w.heap.size + 1 ≤ ((w.alloc (.cells #[.string x1.part, .int .i64 x1.sold, .int .i64 x1.day, .int .i64 x1.tens] 43))).heap.size) := Lib.hid (by simp; try omega)
  generalize (w.alloc (.cells #[.string x1.part, .int .i64 x1.sold, .int .i64 x1.day, .int .i64 x1.tens] 43)) = W0 at *
  by_cases hl0 : (len0 : Int) ≤ 1048576
  rotate_left
  · refine (szClaimS_big a0 len0 cap0 1048576 W0 (by omega) (by omega) hmax0 (by omega)).mono ?_
    rintro e w' ⟨rfl, rfl⟩
    go_wp2_with fail
    go_ret
    exact ⟨rfl, hB⟩
  have hI0 := p0.sl (by omega)
  have hn0 : xs0.length ≤ 1048576 := by rw [p0.len]; omega
  refine (szClaimS_ok _ xs0 1048576 W0 (by omega) (by omega) (hI0.below hB) q0).mono ?_
  rintro e W1 ⟨rfl, hb⟩
  have hsW1 := Lib.hid hb.size
  replace b0_0 := (hb.cell (p := ⟨w.heap.size, 0, none⟩) (by simp only []; omega)).trans b0_0
  replace b0_1 := (hb.cell (p := ⟨w.heap.size, 1, none⟩) (by simp only []; omega)).trans b0_1
  replace b0_2 := (hb.cell (p := ⟨w.heap.size, 2, none⟩) (by simp only []; omega)).trans b0_2
  replace b0_3 := (hb.cell (p := ⟨w.heap.size, 3, none⟩) (by simp only []; omega)).trans b0_3
  replace hBS0 := Nat.le_trans hBS0 hb.size
  replace hB := Below.step hB hb
  clear hb
  by_cases ht0 : ((totClaim xs0 : Nat) : Int) ≤ 1048576
  rotate_left
  · rw [szr_neg ht0]
    go_wp2_with fail
    go_ret
    exact ⟨rfl, hB⟩
  rw [szr_pos ht0]
  go_wp2_with fail
  refine (szClaim_any x1 (1048576 - ((totClaim xs0 : Nat) : Int)) W1 (by omega) (by omega) q1).mono ?_
  rintro e W2 ⟨rfl, hb⟩
  have hsW2 := Lib.hid hb.size
  replace b0_0 := (hb.cell (p := ⟨w.heap.size, 0, none⟩) (by simp only []; omega)).trans b0_0
  replace b0_1 := (hb.cell (p := ⟨w.heap.size, 1, none⟩) (by simp only []; omega)).trans b0_1
  replace b0_2 := (hb.cell (p := ⟨w.heap.size, 2, none⟩) (by simp only []; omega)).trans b0_2
  replace b0_3 := (hb.cell (p := ⟨w.heap.size, 3, none⟩) (by simp only []; omega)).trans b0_3
  replace hBS0 := Nat.le_trans hBS0 hb.size
  replace hB := Below.step hB hb
  clear hb
  by_cases ht1 : ((strClaim x1 : Nat) : Int) ≤ (1048576 - ((totClaim xs0 : Nat) : Int))
  rotate_left
  · rw [szr_neg ht1]
    go_wp2_with fail
    go_ret
    exact ⟨rfl, hB⟩
  rw [szr_pos ht1]
  go_wp2_with fail
  have KEEPW2 : Hid (∀ W, Below W2.heap.size W2 W → Below W2.heap.size W2 W ∧ W.cell? ⟨w.heap.size, 0, none⟩ = some (.string x1.part) ∧ W.cell? ⟨w.heap.size, 1, none⟩ = some (.int .i64 x1.sold) ∧ W.cell? ⟨w.heap.size, 2, none⟩ = some (.int .i64 x1.day) ∧ W.cell? ⟨w.heap.size, 3, none⟩ = some (.int .i64 x1.tens)) := Lib.hid (fun W h => ⟨h, (h.cell (p := ⟨w.heap.size, 0, none⟩) (by simp only []; omega)).trans b0_0, (h.cell (p := ⟨w.heap.size, 1, none⟩) (by simp only []; omega)).trans b0_1, (h.cell (p := ⟨w.heap.size, 2, none⟩) (by simp only []; omega)).trans b0_2, (h.cell (p := ⟨w.heap.size, 3, none⟩) (by simp only []; omega)).trans b0_3⟩)
  go_region_held3 (fun W => Below W2.heap.size W2 W ∧ W.cell? ⟨w.heap.size, 0, none⟩ = some (.string x1.part) ∧ W.cell? ⟨w.heap.size, 1, none⟩ = some (.int .i64 x1.sold) ∧ W.cell? ⟨w.heap.size, 2, none⟩ = some (.int .i64 x1.day) ∧ W.cell? ⟨w.heap.size, 3, none⟩ = some (.int .i64 x1.tens)) (first | exact KEEPW2.out _ (Below.refl _ _).drew | exact KEEPW2.out _ (below_step2 (Below.refl _ _).drew hbW3 (Nat.le_refl _)) | exact KEEPW2.out _ (below_step2 (below_step2 (Below.refl _ _).drew hbW3 (Nat.le_refl _)) hbW4 ((below_step2 (Below.refl _ _).drew hbW3 (Nat.le_refl _)).size)) | exact KEEPW2.out _ (below_step2 (below_step2 (below_step2 (Below.refl _ _).drew hbW3 (Nat.le_refl _)) hbW4 ((below_step2 (Below.refl _ _).drew hbW3 (Nat.le_refl _)).size)) hbW5 ((below_step2 (below_step2 (Below.refl _ _).drew hbW3 (Nat.le_refl _)) hbW4 ((below_step2 (Below.refl _ _).drew hbW3 (Nat.le_refl _)).size)).size))) (first | (go_at_call 19; refine (toClaimS_any _ xs0 _ ((hI0.below hB).drew) hn0).mono ?_; rintro e W3 ⟨t3, rfl, ho_t3, hbW3⟩) | (go_at_call 31; refine (toClaim_any x1 _).mono ?_; rintro e W4 ⟨rfl, hbW4⟩) | (go_at_call 30; refine (sAddClaim_law t3 xs0 x1 _ (Sl.of_own (ho_t3.below hbW4) (big_of hn0)) hn0 q0 q1).mono ?_; rintro e W5 ⟨v_w0, rfl, ho_w0, hbW5⟩))
  have hb : Below W2.heap.size W2 W5 := (below_step2 (below_step2 (below_step2 (Below.refl _ _).drew hbW3 (Nat.le_refl _)) hbW4 ((below_step2 (Below.refl _ _).drew hbW3 (Nat.le_refl _)).size)) hbW5 ((below_step2 (below_step2 (Below.refl _ _).drew hbW3 (Nat.le_refl _)) hbW4 ((below_step2 (Below.refl _ _).drew hbW3 (Nat.le_refl _)).size)).size))
  have hsW3 : Hid (W2.heap.size ≤ W3.heap.size) := Lib.hid hbW3.size
  have hsW4 : Hid (W3.heap.size ≤ W4.heap.size) := Lib.hid hbW4.size
  have hsW5 : Hid (W4.heap.size ≤ W5.heap.size) := Lib.hid hbW5.size
  have hk_t3 : Hid (∀ k, t3.ownBlock = some k → W2.heap.size ≤ k ∧ k < W3.heap.size) := Lib.hid (World.ownsRow.lt ho_t3)
  replace ho_t3 := ho_t3.below hbW4
  replace ho_t3 := ho_t3.below hbW5
  have hk_w0 := Lib.hid (World.ownsRow.lt ho_w0)
  replace b0_0 := (hb.cell (p := ⟨w.heap.size, 0, none⟩) (by simp only []; omega)).trans b0_0
  replace b0_1 := (hb.cell (p := ⟨w.heap.size, 1, none⟩) (by simp only []; omega)).trans b0_1
  replace b0_2 := (hb.cell (p := ⟨w.heap.size, 2, none⟩) (by simp only []; omega)).trans b0_2
  replace b0_3 := (hb.cell (p := ⟨w.heap.size, 3, none⟩) (by simp only []; omega)).trans b0_3
  replace hBS0 := Nat.le_trans hBS0 hb.size
  replace hB := Below.step hB hb
  clear hb KEEPW2 hbW3 hbW4 hbW5
  go_wp2_with fail
  refine (toClaimS_any _ xs0 W5 (hI0.below hB) hn0).mono ?_
  rintro e W6 ⟨t6, rfl, ho_t6, hb⟩
  have hk_t6 := Lib.hid (World.ownsRow.lt ho_t6)
  have hsW6 := Lib.hid hb.size
  replace ho_t3 := ho_t3.below hb
  replace ho_w0 := ho_w0.below hb
  replace b0_0 := (hb.cell (p := ⟨w.heap.size, 0, none⟩) (by simp only []; omega)).trans b0_0
  replace b0_1 := (hb.cell (p := ⟨w.heap.size, 1, none⟩) (by simp only []; omega)).trans b0_1
  replace b0_2 := (hb.cell (p := ⟨w.heap.size, 2, none⟩) (by simp only []; omega)).trans b0_2
  replace b0_3 := (hb.cell (p := ⟨w.heap.size, 3, none⟩) (by simp only []; omega)).trans b0_3
  replace hBS0 := Nat.le_trans hBS0 hb.size
  replace hB := Below.step hB hb
  clear hb
  go_wp2_with fail
  refine (toClaim_any x1 W6).mono ?_
  rintro e W7 ⟨rfl, hb⟩
  have hsW7 := Lib.hid hb.size
  replace ho_t3 := ho_t3.below hb
  replace ho_w0 := ho_w0.below hb
  replace ho_t6 := ho_t6.below hb
  replace b0_0 := (hb.cell (p := ⟨w.heap.size, 0, none⟩) (by simp only []; omega)).trans b0_0
  replace b0_1 := (hb.cell (p := ⟨w.heap.size, 1, none⟩) (by simp only []; omega)).trans b0_1
  replace b0_2 := (hb.cell (p := ⟨w.heap.size, 2, none⟩) (by simp only []; omega)).trans b0_2
  replace b0_3 := (hb.cell (p := ⟨w.heap.size, 3, none⟩) (by simp only []; omega)).trans b0_3
  replace hBS0 := Nat.le_trans hBS0 hb.size
  replace hB := Below.step hB hb
  clear hb
  go_wp2_with fail
  refine (iAddClaim_law t6 xs0 x1 W7 (Sl.of_own ho_t6 (big_of hn0)) hn0 q0 q1).mono ?_
  rintro e W8 ⟨v_g0, rfl, ho_g0, hb⟩
  have hk_g0 := Lib.hid (World.ownsRow.lt ho_g0)
  have hsW8 := Lib.hid hb.size
  replace ho_t3 := ho_t3.below hb
  replace ho_w0 := ho_w0.below hb
  replace ho_t6 := ho_t6.below hb
  replace b0_0 := (hb.cell (p := ⟨w.heap.size, 0, none⟩) (by simp only []; omega)).trans b0_0
  replace b0_1 := (hb.cell (p := ⟨w.heap.size, 1, none⟩) (by simp only []; omega)).trans b0_1
  replace b0_2 := (hb.cell (p := ⟨w.heap.size, 2, none⟩) (by simp only []; omega)).trans b0_2
  replace b0_3 := (hb.cell (p := ⟨w.heap.size, 3, none⟩) (by simp only []; omega)).trans b0_3
  replace hBS0 := Nat.le_trans hBS0 hb.size
  replace hB := Below.step hB hb
  clear hb
  go_wp2_with fail
  refine (eqClaimS_same v_g0 v_w0 ((AddClaim_r xs0 x1).1) W8 (Sl.of_own ho_g0 (big_of (AddClaim_len xs0 x1))) (Sl.of_own ho_w0 (big_of (AddClaim_len xs0 x1)))).mono ?_
  rintro e W9 ⟨rfl, hb⟩
  have hsW9 := Lib.hid hb.size
  replace ho_t3 := ho_t3.below hb
  replace ho_w0 := ho_w0.below hb
  replace ho_t6 := ho_t6.below hb
  replace ho_g0 := ho_g0.below hb
  replace b0_0 := (hb.cell (p := ⟨w.heap.size, 0, none⟩) (by simp only []; omega)).trans b0_0
  replace b0_1 := (hb.cell (p := ⟨w.heap.size, 1, none⟩) (by simp only []; omega)).trans b0_1
  replace b0_2 := (hb.cell (p := ⟨w.heap.size, 2, none⟩) (by simp only []; omega)).trans b0_2
  replace b0_3 := (hb.cell (p := ⟨w.heap.size, 3, none⟩) (by simp only []; omega)).trans b0_3
  replace hBS0 := Nat.le_trans hBS0 hb.size
  replace hB := Below.step hB hb
  clear hb
  go_wp2_with fail
  refine (toClaimS_any _ xs0 W9 (hI0.below hB) hn0).mono ?_
  rintro e W10 ⟨t10, rfl, ho_t10, hb⟩
  have hk_t10 := Lib.hid (World.ownsRow.lt ho_t10)
  have hsW10 := Lib.hid hb.size
  replace ho_t3 := ho_t3.below hb
  replace ho_w0 := ho_w0.below hb
  replace ho_t6 := ho_t6.below hb
  replace ho_g0 := ho_g0.below hb
  replace b0_0 := (hb.cell (p := ⟨w.heap.size, 0, none⟩) (by simp only []; omega)).trans b0_0
  replace b0_1 := (hb.cell (p := ⟨w.heap.size, 1, none⟩) (by simp only []; omega)).trans b0_1
  replace b0_2 := (hb.cell (p := ⟨w.heap.size, 2, none⟩) (by simp only []; omega)).trans b0_2
  replace b0_3 := (hb.cell (p := ⟨w.heap.size, 3, none⟩) (by simp only []; omega)).trans b0_3
  replace hBS0 := Nat.le_trans hBS0 hb.size
  replace hB := Below.step hB hb
  clear hb
  go_wp2_with fail
  refine (eqClaimS_same t6 t10 xs0 W10 (Sl.of_own ho_t6 (big_of hn0)) (Sl.of_own ho_t10 (big_of hn0))).mono ?_
  rintro e W11 ⟨rfl, hb⟩
  have hsW11 := Lib.hid hb.size
  replace ho_t3 := ho_t3.below hb
  replace ho_w0 := ho_w0.below hb
  replace ho_t6 := ho_t6.below hb
  replace ho_g0 := ho_g0.below hb
  replace ho_t10 := ho_t10.below hb
  replace b0_0 := (hb.cell (p := ⟨w.heap.size, 0, none⟩) (by simp only []; omega)).trans b0_0
  replace b0_1 := (hb.cell (p := ⟨w.heap.size, 1, none⟩) (by simp only []; omega)).trans b0_1
  replace b0_2 := (hb.cell (p := ⟨w.heap.size, 2, none⟩) (by simp only []; omega)).trans b0_2
  replace b0_3 := (hb.cell (p := ⟨w.heap.size, 3, none⟩) (by simp only []; omega)).trans b0_3
  replace hBS0 := Nat.le_trans hBS0 hb.size
  replace hB := Below.step hB hb
  clear hb
  go_wp2_with fail
  have hcW12 := Lib.hid (cntClaimS_le xs0 hn0)
  refine (markClaimS_law t6 xs0 1 W5.heap.size W11 ho_t6 hn0 (by omega) (by have cW12 := hcW12.out; omega)).mono ?_
  rintro e W12 ⟨rfl, hn_t6, hg⟩
  replace ho_t3 := Own.kept ho_t3 hg (ne_lt hk_t3.out hk_t6.out (by have sW0 := hsW0.out; have sW1 := hsW1.out; have sW2 := hsW2.out; have sW3 := hsW3.out; have sW4 := hsW4.out; have sW5 := hsW5.out; have sW6 := hsW6.out; have sW7 := hsW7.out; have sW8 := hsW8.out; have sW9 := hsW9.out; have sW10 := hsW10.out; have sW11 := hsW11.out; omega))
  replace ho_w0 := Own.kept ho_w0 hg (ne_lt hk_w0.out hk_t6.out (by have sW0 := hsW0.out; have sW1 := hsW1.out; have sW2 := hsW2.out; have sW3 := hsW3.out; have sW4 := hsW4.out; have sW5 := hsW5.out; have sW6 := hsW6.out; have sW7 := hsW7.out; have sW8 := hsW8.out; have sW9 := hsW9.out; have sW10 := hsW10.out; have sW11 := hsW11.out; omega))
  replace ho_g0 := Own.kept ho_g0 hg (ne_lt hk_g0.out hk_t6.out (by have sW0 := hsW0.out; have sW1 := hsW1.out; have sW2 := hsW2.out; have sW3 := hsW3.out; have sW4 := hsW4.out; have sW5 := hsW5.out; have sW6 := hsW6.out; have sW7 := hsW7.out; have sW8 := hsW8.out; have sW9 := hsW9.out; have sW10 := hsW10.out; have sW11 := hsW11.out; omega))
  replace ho_t10 := Own.kept ho_t10 hg (ne_lt hk_t10.out hk_t6.out (by have sW0 := hsW0.out; have sW1 := hsW1.out; have sW2 := hsW2.out; have sW3 := hsW3.out; have sW4 := hsW4.out; have sW5 := hsW5.out; have sW6 := hsW6.out; have sW7 := hsW7.out; have sW8 := hsW8.out; have sW9 := hsW9.out; have sW10 := hsW10.out; have sW11 := hsW11.out; omega))
  replace ho_t6 := hn_t6
  have hsW12 := Lib.hid hg.size
  replace b0_0 := (hg.cell_far ⟨w.heap.size, 0, none⟩ (by simp only []; omega) (fun e => by have hkk := hk_t6.out _ e.symm; have sW0 := hsW0.out; have sW1 := hsW1.out; have sW2 := hsW2.out; have sW3 := hsW3.out; have sW4 := hsW4.out; have sW5 := hsW5.out; have sW6 := hsW6.out; have sW7 := hsW7.out; have sW8 := hsW8.out; have sW9 := hsW9.out; have sW10 := hsW10.out; have sW11 := hsW11.out; simp only [] at hkk; omega)).trans b0_0
  replace b0_1 := (hg.cell_far ⟨w.heap.size, 1, none⟩ (by simp only []; omega) (fun e => by have hkk := hk_t6.out _ e.symm; have sW0 := hsW0.out; have sW1 := hsW1.out; have sW2 := hsW2.out; have sW3 := hsW3.out; have sW4 := hsW4.out; have sW5 := hsW5.out; have sW6 := hsW6.out; have sW7 := hsW7.out; have sW8 := hsW8.out; have sW9 := hsW9.out; have sW10 := hsW10.out; have sW11 := hsW11.out; simp only [] at hkk; omega)).trans b0_1
  replace b0_2 := (hg.cell_far ⟨w.heap.size, 2, none⟩ (by simp only []; omega) (fun e => by have hkk := hk_t6.out _ e.symm; have sW0 := hsW0.out; have sW1 := hsW1.out; have sW2 := hsW2.out; have sW3 := hsW3.out; have sW4 := hsW4.out; have sW5 := hsW5.out; have sW6 := hsW6.out; have sW7 := hsW7.out; have sW8 := hsW8.out; have sW9 := hsW9.out; have sW10 := hsW10.out; have sW11 := hsW11.out; simp only [] at hkk; omega)).trans b0_2
  replace b0_3 := (hg.cell_far ⟨w.heap.size, 3, none⟩ (by simp only []; omega) (fun e => by have hkk := hk_t6.out _ e.symm; have sW0 := hsW0.out; have sW1 := hsW1.out; have sW2 := hsW2.out; have sW3 := hsW3.out; have sW4 := hsW4.out; have sW5 := hsW5.out; have sW6 := hsW6.out; have sW7 := hsW7.out; have sW8 := hsW8.out; have sW9 := hsW9.out; have sW10 := hsW10.out; have sW11 := hsW11.out; simp only [] at hkk; omega)).trans b0_3
  replace hBS0 := Nat.le_trans hBS0 hg.size
  replace hB := hB.grown hg hB.size (fun k hk => by have hkk := hk_t6.out k hk; have sW0 := hsW0.out; have sW1 := hsW1.out; have sW2 := hsW2.out; have sW3 := hsW3.out; have sW4 := hsW4.out; have sW5 := hsW5.out; have sW6 := hsW6.out; have sW7 := hsW7.out; have sW8 := hsW8.out; have sW9 := hsW9.out; have sW10 := hsW10.out; have sW11 := hsW11.out; omega)
  clear hg
  go_wp2_with fail
  refine (eqClaimS_same v_g0 v_w0 ((AddClaim_r xs0 x1).1) W12 (Sl.of_own ho_g0 (big_of (AddClaim_len xs0 x1))) (Sl.of_own ho_w0 (big_of (AddClaim_len xs0 x1)))).mono ?_
  rintro e W13 ⟨rfl, hb⟩
  have hsW13 := Lib.hid hb.size
  replace ho_t3 := ho_t3.below hb
  replace ho_w0 := ho_w0.below hb
  replace ho_t6 := ho_t6.below hb
  replace ho_g0 := ho_g0.below hb
  replace ho_t10 := ho_t10.below hb
  replace b0_0 := (hb.cell (p := ⟨w.heap.size, 0, none⟩) (by simp only []; omega)).trans b0_0
  replace b0_1 := (hb.cell (p := ⟨w.heap.size, 1, none⟩) (by simp only []; omega)).trans b0_1
  replace b0_2 := (hb.cell (p := ⟨w.heap.size, 2, none⟩) (by simp only []; omega)).trans b0_2
  replace b0_3 := (hb.cell (p := ⟨w.heap.size, 3, none⟩) (by simp only []; omega)).trans b0_3
  replace hBS0 := Nat.le_trans hBS0 hb.size
  replace hB := Below.step hB hb
  clear hb
  go_wp2_with fail
  have hcW14 := Lib.hid (cntClaimS_le ((AddClaim_r xs0 x1).1) (AddClaim_len xs0 x1))
  refine (markClaimS_law v_g0 ((AddClaim_r xs0 x1).1) 1 W7.heap.size W13 ho_g0 (AddClaim_len xs0 x1) (by omega) (by have cW12 := hcW12.out; have cW14 := hcW14.out; omega)).mono ?_
  rintro e W14 ⟨rfl, hn_g0, hg⟩
  replace ho_t3 := Own.kept ho_t3 hg (ne_lt hk_t3.out hk_g0.out (by have sW0 := hsW0.out; have sW1 := hsW1.out; have sW2 := hsW2.out; have sW3 := hsW3.out; have sW4 := hsW4.out; have sW5 := hsW5.out; have sW6 := hsW6.out; have sW7 := hsW7.out; have sW8 := hsW8.out; have sW9 := hsW9.out; have sW10 := hsW10.out; have sW11 := hsW11.out; have sW12 := hsW12.out; have sW13 := hsW13.out; omega))
  replace ho_w0 := Own.kept ho_w0 hg (ne_lt hk_w0.out hk_g0.out (by have sW0 := hsW0.out; have sW1 := hsW1.out; have sW2 := hsW2.out; have sW3 := hsW3.out; have sW4 := hsW4.out; have sW5 := hsW5.out; have sW6 := hsW6.out; have sW7 := hsW7.out; have sW8 := hsW8.out; have sW9 := hsW9.out; have sW10 := hsW10.out; have sW11 := hsW11.out; have sW12 := hsW12.out; have sW13 := hsW13.out; omega))
  replace ho_t6 := Own.kept ho_t6 hg (ne_lt hk_t6.out hk_g0.out (by have sW0 := hsW0.out; have sW1 := hsW1.out; have sW2 := hsW2.out; have sW3 := hsW3.out; have sW4 := hsW4.out; have sW5 := hsW5.out; have sW6 := hsW6.out; have sW7 := hsW7.out; have sW8 := hsW8.out; have sW9 := hsW9.out; have sW10 := hsW10.out; have sW11 := hsW11.out; have sW12 := hsW12.out; have sW13 := hsW13.out; omega))
  replace ho_t10 := Own.kept ho_t10 hg (ne_lt hk_t10.out hk_g0.out (by have sW0 := hsW0.out; have sW1 := hsW1.out; have sW2 := hsW2.out; have sW3 := hsW3.out; have sW4 := hsW4.out; have sW5 := hsW5.out; have sW6 := hsW6.out; have sW7 := hsW7.out; have sW8 := hsW8.out; have sW9 := hsW9.out; have sW10 := hsW10.out; have sW11 := hsW11.out; have sW12 := hsW12.out; have sW13 := hsW13.out; omega))
  replace ho_g0 := hn_g0
  have hsW14 := Lib.hid hg.size
  replace b0_0 := (hg.cell_far ⟨w.heap.size, 0, none⟩ (by simp only []; omega) (fun e => by have hkk := hk_g0.out _ e.symm; have sW0 := hsW0.out; have sW1 := hsW1.out; have sW2 := hsW2.out; have sW3 := hsW3.out; have sW4 := hsW4.out; have sW5 := hsW5.out; have sW6 := hsW6.out; have sW7 := hsW7.out; have sW8 := hsW8.out; have sW9 := hsW9.out; have sW10 := hsW10.out; have sW11 := hsW11.out; have sW12 := hsW12.out; have sW13 := hsW13.out; simp only [] at hkk; omega)).trans b0_0
  replace b0_1 := (hg.cell_far ⟨w.heap.size, 1, none⟩ (by simp only []; omega) (fun e => by have hkk := hk_g0.out _ e.symm; have sW0 := hsW0.out; have sW1 := hsW1.out; have sW2 := hsW2.out; have sW3 := hsW3.out; have sW4 := hsW4.out; have sW5 := hsW5.out; have sW6 := hsW6.out; have sW7 := hsW7.out; have sW8 := hsW8.out; have sW9 := hsW9.out; have sW10 := hsW10.out; have sW11 := hsW11.out; have sW12 := hsW12.out; have sW13 := hsW13.out; simp only [] at hkk; omega)).trans b0_1
  replace b0_2 := (hg.cell_far ⟨w.heap.size, 2, none⟩ (by simp only []; omega) (fun e => by have hkk := hk_g0.out _ e.symm; have sW0 := hsW0.out; have sW1 := hsW1.out; have sW2 := hsW2.out; have sW3 := hsW3.out; have sW4 := hsW4.out; have sW5 := hsW5.out; have sW6 := hsW6.out; have sW7 := hsW7.out; have sW8 := hsW8.out; have sW9 := hsW9.out; have sW10 := hsW10.out; have sW11 := hsW11.out; have sW12 := hsW12.out; have sW13 := hsW13.out; simp only [] at hkk; omega)).trans b0_2
  replace b0_3 := (hg.cell_far ⟨w.heap.size, 3, none⟩ (by simp only []; omega) (fun e => by have hkk := hk_g0.out _ e.symm; have sW0 := hsW0.out; have sW1 := hsW1.out; have sW2 := hsW2.out; have sW3 := hsW3.out; have sW4 := hsW4.out; have sW5 := hsW5.out; have sW6 := hsW6.out; have sW7 := hsW7.out; have sW8 := hsW8.out; have sW9 := hsW9.out; have sW10 := hsW10.out; have sW11 := hsW11.out; have sW12 := hsW12.out; have sW13 := hsW13.out; simp only [] at hkk; omega)).trans b0_3
  replace hBS0 := Nat.le_trans hBS0 hg.size
  replace hB := hB.grown hg hB.size (fun k hk => by have hkk := hk_g0.out k hk; have sW0 := hsW0.out; have sW1 := hsW1.out; have sW2 := hsW2.out; have sW3 := hsW3.out; have sW4 := hsW4.out; have sW5 := hsW5.out; have sW6 := hsW6.out; have sW7 := hsW7.out; have sW8 := hsW8.out; have sW9 := hsW9.out; have sW10 := hsW10.out; have sW11 := hsW11.out; have sW12 := hsW12.out; have sW13 := hsW13.out; omega)
  clear hg
  go_wp2_with fail
  refine (heldClaimS_law v_g0 ((AddClaim_r xs0 x1).1) 1 W14 (Sl.of_own ho_g0 (by rw [mkClaimS_len]; exact (big_of (AddClaim_len xs0 x1)))) (AddClaim_len xs0 x1) (by omega) (by omega)).mono ?_
  rintro e W15 ⟨rfl, hb⟩
  have hsW15 := Lib.hid hb.size
  replace ho_t3 := ho_t3.below hb
  replace ho_w0 := ho_w0.below hb
  replace ho_t6 := ho_t6.below hb
  replace ho_g0 := ho_g0.below hb
  replace ho_t10 := ho_t10.below hb
  replace b0_0 := (hb.cell (p := ⟨w.heap.size, 0, none⟩) (by simp only []; omega)).trans b0_0
  replace b0_1 := (hb.cell (p := ⟨w.heap.size, 1, none⟩) (by simp only []; omega)).trans b0_1
  replace b0_2 := (hb.cell (p := ⟨w.heap.size, 2, none⟩) (by simp only []; omega)).trans b0_2
  replace b0_3 := (hb.cell (p := ⟨w.heap.size, 3, none⟩) (by simp only []; omega)).trans b0_3
  replace hBS0 := Nat.le_trans hBS0 hb.size
  replace hB := Below.step hB hb
  clear hb
  go_wp2_with fail
  have KEEPW15 : Hid (∀ W, Below W15.heap.size W15 W → Below W15.heap.size W15 W ∧ W.cell? ⟨w.heap.size, 0, none⟩ = some (.string x1.part) ∧ W.cell? ⟨w.heap.size, 1, none⟩ = some (.int .i64 x1.sold) ∧ W.cell? ⟨w.heap.size, 2, none⟩ = some (.int .i64 x1.day) ∧ W.cell? ⟨w.heap.size, 3, none⟩ = some (.int .i64 x1.tens)) := Lib.hid (fun W h => ⟨h, (h.cell (p := ⟨w.heap.size, 0, none⟩) (by simp only []; omega)).trans b0_0, (h.cell (p := ⟨w.heap.size, 1, none⟩) (by simp only []; omega)).trans b0_1, (h.cell (p := ⟨w.heap.size, 2, none⟩) (by simp only []; omega)).trans b0_2, (h.cell (p := ⟨w.heap.size, 3, none⟩) (by simp only []; omega)).trans b0_3⟩)
  go_region_held3 (fun W => Below W15.heap.size W15 W ∧ W.cell? ⟨w.heap.size, 0, none⟩ = some (.string x1.part) ∧ W.cell? ⟨w.heap.size, 1, none⟩ = some (.int .i64 x1.sold) ∧ W.cell? ⟨w.heap.size, 2, none⟩ = some (.int .i64 x1.day) ∧ W.cell? ⟨w.heap.size, 3, none⟩ = some (.int .i64 x1.tens)) (first | exact KEEPW15.out _ (Below.refl _ _).drew | exact KEEPW15.out _ (below_step2 (Below.refl _ _).drew hbW16 (Nat.le_refl _)) | exact KEEPW15.out _ (below_step2 (below_step2 (Below.refl _ _).drew hbW16 (Nat.le_refl _)) hbW17 ((below_step2 (Below.refl _ _).drew hbW16 (Nat.le_refl _)).size)) | exact KEEPW15.out _ (below_step2 (below_step2 (below_step2 (Below.refl _ _).drew hbW16 (Nat.le_refl _)) hbW17 ((below_step2 (Below.refl _ _).drew hbW16 (Nat.le_refl _)).size)) hbW18 ((below_step2 (below_step2 (Below.refl _ _).drew hbW16 (Nat.le_refl _)) hbW17 ((below_step2 (Below.refl _ _).drew hbW16 (Nat.le_refl _)).size)).size))) (first | (go_at_call 19; refine (toClaimS_any _ xs0 _ ((hI0.below hB).drew) hn0).mono ?_; rintro e W16 ⟨t16, rfl, ho_t16, hbW16⟩) | (go_at_call 31; refine (toClaim_any x1 _).mono ?_; rintro e W17 ⟨rfl, hbW17⟩) | (go_at_call 32; refine (iAddClaim_law t16 xs0 x1 _ (Sl.of_own (ho_t16.below hbW17) (big_of hn0)) hn0 q0 q1).mono ?_; rintro e W18 ⟨v_h0, rfl, ho_h0, hbW18⟩))
  have hb : Below W15.heap.size W15 W18 := (below_step2 (below_step2 (below_step2 (Below.refl _ _).drew hbW16 (Nat.le_refl _)) hbW17 ((below_step2 (Below.refl _ _).drew hbW16 (Nat.le_refl _)).size)) hbW18 ((below_step2 (below_step2 (Below.refl _ _).drew hbW16 (Nat.le_refl _)) hbW17 ((below_step2 (Below.refl _ _).drew hbW16 (Nat.le_refl _)).size)).size))
  have hsW16 : Hid (W15.heap.size ≤ W16.heap.size) := Lib.hid hbW16.size
  have hsW17 : Hid (W16.heap.size ≤ W17.heap.size) := Lib.hid hbW17.size
  have hsW18 : Hid (W17.heap.size ≤ W18.heap.size) := Lib.hid hbW18.size
  have hk_t16 : Hid (∀ k, t16.ownBlock = some k → W15.heap.size ≤ k ∧ k < W16.heap.size) := Lib.hid (World.ownsRow.lt ho_t16)
  replace ho_t16 := ho_t16.below hbW17
  replace ho_t16 := ho_t16.below hbW18
  have hk_h0 := Lib.hid (World.ownsRow.lt ho_h0)
  replace ho_t3 := ho_t3.below hb
  replace ho_w0 := ho_w0.below hb
  replace ho_t6 := ho_t6.below hb
  replace ho_g0 := ho_g0.below hb
  replace ho_t10 := ho_t10.below hb
  replace b0_0 := (hb.cell (p := ⟨w.heap.size, 0, none⟩) (by simp only []; omega)).trans b0_0
  replace b0_1 := (hb.cell (p := ⟨w.heap.size, 1, none⟩) (by simp only []; omega)).trans b0_1
  replace b0_2 := (hb.cell (p := ⟨w.heap.size, 2, none⟩) (by simp only []; omega)).trans b0_2
  replace b0_3 := (hb.cell (p := ⟨w.heap.size, 3, none⟩) (by simp only []; omega)).trans b0_3
  replace hBS0 := Nat.le_trans hBS0 hb.size
  replace hB := Below.step hB hb
  clear hb KEEPW15 hbW16 hbW17 hbW18
  go_wp2_with fail
  refine (eqClaimS_same v_h0 v_w0 ((AddClaim_r xs0 x1).1) W18 (Sl.of_own ho_h0 (big_of (AddClaim_len xs0 x1))) (Sl.of_own ho_w0 (big_of (AddClaim_len xs0 x1)))).mono ?_
  rintro e W19 ⟨rfl, hb⟩
  have hsW19 := Lib.hid hb.size
  replace ho_t3 := ho_t3.below hb
  replace ho_w0 := ho_w0.below hb
  replace ho_t6 := ho_t6.below hb
  replace ho_g0 := ho_g0.below hb
  replace ho_t10 := ho_t10.below hb
  replace ho_t16 := ho_t16.below hb
  replace ho_h0 := ho_h0.below hb
  replace b0_0 := (hb.cell (p := ⟨w.heap.size, 0, none⟩) (by simp only []; omega)).trans b0_0
  replace b0_1 := (hb.cell (p := ⟨w.heap.size, 1, none⟩) (by simp only []; omega)).trans b0_1
  replace b0_2 := (hb.cell (p := ⟨w.heap.size, 2, none⟩) (by simp only []; omega)).trans b0_2
  replace b0_3 := (hb.cell (p := ⟨w.heap.size, 3, none⟩) (by simp only []; omega)).trans b0_3
  replace hBS0 := Nat.le_trans hBS0 hb.size
  replace hB := Below.step hB hb
  clear hb
  go_wp2_with fail
  refine (heldClaimS_law v_g0 ((AddClaim_r xs0 x1).1) 1 W19 (Sl.of_own ho_g0 (by rw [mkClaimS_len]; exact (big_of (AddClaim_len xs0 x1)))) (AddClaim_len xs0 x1) (by omega) (by omega)).mono ?_
  rintro e W20 ⟨rfl, hb⟩
  have hsW20 := Lib.hid hb.size
  replace ho_t3 := ho_t3.below hb
  replace ho_w0 := ho_w0.below hb
  replace ho_t6 := ho_t6.below hb
  replace ho_g0 := ho_g0.below hb
  replace ho_t10 := ho_t10.below hb
  replace ho_t16 := ho_t16.below hb
  replace ho_h0 := ho_h0.below hb
  replace b0_0 := (hb.cell (p := ⟨w.heap.size, 0, none⟩) (by simp only []; omega)).trans b0_0
  replace b0_1 := (hb.cell (p := ⟨w.heap.size, 1, none⟩) (by simp only []; omega)).trans b0_1
  replace b0_2 := (hb.cell (p := ⟨w.heap.size, 2, none⟩) (by simp only []; omega)).trans b0_2
  replace b0_3 := (hb.cell (p := ⟨w.heap.size, 3, none⟩) (by simp only []; omega)).trans b0_3
  replace hBS0 := Nat.le_trans hBS0 hb.size
  replace hB := Below.step hB hb
  clear hb
  go_wp2_with fail
  go_ret
  exact ⟨rfl, hB⟩

namespace LFnExactAddClaim
open Go.ChangeShapes Go.WideShapes Go.ChangeAt Go.RowKit
open Go.ChangeMaps (open_string shut_string)
set_option linter.unusedVariables false
set_option maxRecDepth 100000 in
theorem lifted (os : Os) (started : os.Started) (H : Type) (enc : TypeId × Value → H) :
    ReturnsInHanded {} Try.checked os 7 .any (Rows.fnExactAddClaimSpec.pre6 enc Try.prog Try.f7 Rows.fnExactAddClaimRow.domain false) (Rows.fnExactAddClaimSpec.post enc Try.prog Try.f7 false true false false) := by
  refine returnsInHanded_of_change (C := Try.checked) own started (by kernel_rfl) Try.func7
    (ChangeSpec.witness6 (enc := enc) (C := Try.checked) false ⟨#[], #[.slice none 0 0, .agg #[.string ⟨#[]⟩, .int .i64 0, .int .i64 0, .int .i64 0]], []⟩ 8 (by kernel_rfl) (by kernel_rfl) (by kernel_rfl) (by kernel_rfl)) ?_
  intro W base args ds gs before hval0 hW hcnd _
  have hval : ∀ (j : Nat) t v, Try.f7.params[j]? = some t → args[j]? = some v → Value.okWide Try.prog W .any base t v := hval0
  have hW' := hW
  obtain ⟨p, q, hA0, hV, rfl, hfz, hnd⟩ := hW
  have hA : DataW.TrodAll enc Try.prog W 0 (fun _ => true) true Try.f7.params.toList args.toList ds p := hA0
  rw [Try.params7] at hA hval
  obtain ⟨v0, vs0, d0, ds0, p0, q0, hargs, rfl, rfl, h0, r0⟩ := trodAll_cons hA
  obtain ⟨v1, vs1, d1, ds1, p1, q1, rfl, rfl, rfl, h1, r1⟩ := trodAll_cons r0
  obtain ⟨rfl, rfl, rfl⟩ := trodAll_nil r1
  obtain rfl : args = #[v0, v1] := by cases args; simp_all
  obtain ⟨rfl, rfl⟩ := trodVars_none hV
  have k0 := h0
  have lt0 : ∀ x ∈ p0, x.block < W.heap.size := by obtain ⟨m, hm⟩ := k0; exact DataW.trod_lt m _ _ _ hm
  obtain ⟨a0, len0, cap0, rfl⟩ := okWide_slice Try.underlying25 (hval 0 25 v0 rfl rfl)
  obtain ⟨xs0, w0, u0⟩ : ∃ xs : List Claim, RowS eClaim W a0 len0 cap0 xs ∧ ∀ x ∈ xs, okClaim x := by
    obtain ⟨fuel, hf⟩ := h0
    exact openClaimS (by simpa [Value.cells] using hf)
  have k1 := h1
  have lt1 : ∀ x ∈ p1, x.block < W.heap.size := by obtain ⟨m, hm⟩ := k1; exact DataW.trod_lt m _ _ _ hm
  obtain ⟨x1, rfl, u1⟩ := openClaim (hval 1 43 v1 rfl rfl) h1
  clear hA0 hval0
  refine (walk_FnExactAddClaim a0 len0 cap0 xs0 x1 W w0 u0 u1).mono fun e W' ⟨he, bel⟩ => ?_
  subst he
  exact ⟨_, rfl, _, _, _, [], _, [], hW', trodAll_mk1 (shut_bool Try.underlying4 _), (trodAll_cons_mk (Below.trod laidOut (by kernel_rfl) (of_decide_eq_true (by kernel_rfl)) k0 bel lt0) (trodAll_cons_mk (Below.trod laidOut (by kernel_rfl) (of_decide_eq_true (by kernel_rfl)) k1 bel lt1) trodAll_mk0)), rfl, bel.frame _, fun h => by cases h⟩
theorem over : Rows.fnExactAddClaimRow.holds Try.pinned (OpenSpec.ofChange Rows.fnExactAddClaimSpec) :=
  OpenClaim.holds_of_wide 7 Try.f7 rfl rfl rfl rfl rfl rfl rfl ⟨rfl, rfl, rfl, rfl, rfl⟩ rfl rfl rfl rfl rfl (by kernel_rfl) Try.func7 (by kernel_rfl)
    (of_decide_eq_true (by kernel_rfl)) (by unfold Func.isWrapper; first | (rw [if_pos (by decide +kernel)]; kernel_rfl) | (rw [if_neg (by decide +kernel)]; exact ⟨rfl, rfl⟩))
    (fun os started H enc _ => lifted os started H enc)
end LFnExactAddClaim
/-- The statement. -/
theorem fnExactAddClaim_holds : Rows.FnExactAddClaimSaid := LFnExactAddClaim.over
#print axioms fnExactAddClaim_holds

end Go.Proofs.Ytnpfgngfolgdfaa
