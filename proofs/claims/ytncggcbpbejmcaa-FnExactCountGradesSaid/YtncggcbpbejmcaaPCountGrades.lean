/- For all rules and every list of parts the program's CountGrades and the reference's CountGrades answer the same, in memory of the answer's own, and the lists are left as they were. No condition. -/
import Derived.Test.YtncggcbpbejmcaaLCountGrades
import Derived.Test.YtncggcbpbejmcaaORule
import Derived.Test.YtncggcbpbejmcaaOUsed
import Derived.Test.YtncggcbpbejmcaaMRule
import Derived.Test.YtncggcbpbejmcaaMUsed
namespace Go.Proofs.Ytncggcbpbejmcaa
open Go.RowKit

set_option maxHeartbeats 4000000 in
set_option maxRecDepth 20000 in
theorem walk_FnExactCountGrades (a0 : Option Addr) (len0 cap0 : Nat) (xs0 : List Rule) (a1 : Option Addr) (len1 cap1 : Nat) (xs1 : List Used) (w : World) (p0 : RowS eRule w a0 len0 cap0 xs0) (q0 : ∀ x ∈ xs0, okRule x) (p1 : RowS eUsed w a1 len1 cap1 xs1) (q1 : ∀ x ∈ xs1, okUsed x) :
    Calls Try.prog 11 #[.slice a0 len0 cap0, .slice a1 len1 cap1] w fun e w' => e = .returned (.bool true) ∧ Below w.heap.size w w' := by
  have hB : Below w.heap.size w w := Below.refl _ _
  have hmax0 := p0.max
  have hmax1 := p1.max
  go_enter Try.func11, Try.ntmps11
  go_wp2_with fail
  by_cases hl0 : (len0 : Int) ≤ 1048576
  rotate_left
  · refine (szRuleS_big a0 len0 cap0 1048576 w (by omega) (by omega) hmax0 (by omega)).mono ?_
    rintro e w' ⟨rfl, rfl⟩
    go_wp2_with fail
    go_ret
    exact ⟨rfl, hB⟩
  have hI0 := p0.sl (by omega)
  have hn0 : xs0.length ≤ 1048576 := by rw [p0.len]; omega
  refine (szRuleS_ok _ xs0 1048576 w (by omega) (by omega) (hI0.below hB) q0).mono ?_
  rintro e W1 ⟨rfl, hb⟩
  have hsW1 := Lib.hid hb.size
  replace hB := Below.step hB hb
  clear hb
  by_cases ht0 : ((totRule xs0 : Nat) : Int) ≤ 1048576
  rotate_left
  · rw [szr_neg ht0]
    go_wp2_with fail
    go_ret
    exact ⟨rfl, hB⟩
  rw [szr_pos ht0]
  go_wp2_with fail
  by_cases hl1 : (len1 : Int) ≤ (1048576 - ((totRule xs0 : Nat) : Int))
  rotate_left
  · refine (szUsedS_big a1 len1 cap1 (1048576 - ((totRule xs0 : Nat) : Int)) W1 (by omega) (by omega) hmax1 (by omega)).mono ?_
    rintro e w' ⟨rfl, rfl⟩
    go_wp2_with fail
    go_ret
    exact ⟨rfl, hB⟩
  have hI1 := p1.sl (by omega)
  have hn1 : xs1.length ≤ 1048576 := by rw [p1.len]; omega
  refine (szUsedS_ok _ xs1 (1048576 - ((totRule xs0 : Nat) : Int)) W1 (by omega) (by omega) (hI1.below hB) q1).mono ?_
  rintro e W2 ⟨rfl, hb⟩
  have hsW2 := Lib.hid hb.size
  replace hB := Below.step hB hb
  clear hb
  by_cases ht1 : ((totUsed xs1 : Nat) : Int) ≤ (1048576 - ((totRule xs0 : Nat) : Int))
  rotate_left
  · rw [szr_neg ht1]
    go_wp2_with fail
    go_ret
    exact ⟨rfl, hB⟩
  rw [szr_pos ht1]
  go_wp2_with fail
  refine (toRuleS_any _ xs0 W2 (hI0.below hB) hn0).mono ?_
  rintro e W3 ⟨t3, rfl, ho_t3, hb⟩
  have hk_t3 := Lib.hid (World.ownsRow.lt ho_t3)
  have hsW3 := Lib.hid hb.size
  replace hB := Below.step hB hb
  clear hb
  go_wp2_with fail
  refine (toUsedS_any _ xs1 W3 (hI1.below hB) hn1).mono ?_
  rintro e W4 ⟨t4, rfl, ho_t4, hb⟩
  have hk_t4 := Lib.hid (World.ownsRow.lt ho_t4)
  have hsW4 := Lib.hid hb.size
  replace ho_t3 := ho_t3.below hb
  replace hB := Below.step hB hb
  clear hb
  go_wp2_with fail
  refine (sCountGrades_law t3 xs0 t4 xs1 W4 (Sl.of_own ho_t3 (big_of hn0)) hn0 (Sl.of_own ho_t4 (big_of hn1)) hn1 q1).mono ?_
  rintro e W5 ⟨v_w0, rfl, ho_w0, hb⟩
  have hk_w0 := Lib.hid (World.ownsRow.lt ho_w0)
  have hsW5 := Lib.hid hb.size
  replace ho_t3 := ho_t3.below hb
  replace ho_t4 := ho_t4.below hb
  replace hB := Below.step hB hb
  clear hb
  go_wp2_with fail
  refine (toRuleS_any _ xs0 W5 (hI0.below hB) hn0).mono ?_
  rintro e W6 ⟨t6, rfl, ho_t6, hb⟩
  have hk_t6 := Lib.hid (World.ownsRow.lt ho_t6)
  have hsW6 := Lib.hid hb.size
  replace ho_t3 := ho_t3.below hb
  replace ho_t4 := ho_t4.below hb
  replace ho_w0 := ho_w0.below hb
  replace hB := Below.step hB hb
  clear hb
  go_wp2_with fail
  refine (toUsedS_any _ xs1 W6 (hI1.below hB) hn1).mono ?_
  rintro e W7 ⟨t7, rfl, ho_t7, hb⟩
  have hk_t7 := Lib.hid (World.ownsRow.lt ho_t7)
  have hsW7 := Lib.hid hb.size
  replace ho_t3 := ho_t3.below hb
  replace ho_t4 := ho_t4.below hb
  replace ho_w0 := ho_w0.below hb
  replace ho_t6 := ho_t6.below hb
  replace hB := Below.step hB hb
  clear hb
  go_wp2_with fail
  refine (iCountGrades_law t6 xs0 t7 xs1 W7 (Sl.of_own ho_t6 (big_of hn0)) hn0 (Sl.of_own ho_t7 (big_of hn1)) hn1 q1).mono ?_
  rintro e W8 ⟨v_g0, rfl, ho_g0, hb⟩
  have hk_g0 := Lib.hid (World.ownsRow.lt ho_g0)
  have hsW8 := Lib.hid hb.size
  replace ho_t3 := ho_t3.below hb
  replace ho_t4 := ho_t4.below hb
  replace ho_w0 := ho_w0.below hb
  replace ho_t6 := ho_t6.below hb
  replace ho_t7 := ho_t7.below hb
  replace hB := Below.step hB hb
  clear hb
  go_wp2_with fail
  refine (eqInt64S_same v_g0 v_w0 ((CountGrades_r xs0 xs1).1) W8 (Sl.of_own ho_g0 (big_of (CountGrades_len xs0 xs1))) (Sl.of_own ho_w0 (big_of (CountGrades_len xs0 xs1)))).mono ?_
  rintro e W9 ⟨rfl, hb⟩
  have hsW9 := Lib.hid hb.size
  replace ho_t3 := ho_t3.below hb
  replace ho_t4 := ho_t4.below hb
  replace ho_w0 := ho_w0.below hb
  replace ho_t6 := ho_t6.below hb
  replace ho_t7 := ho_t7.below hb
  replace ho_g0 := ho_g0.below hb
  replace hB := Below.step hB hb
  clear hb
  go_wp2_with fail
  refine (toRuleS_any _ xs0 W9 (hI0.below hB) hn0).mono ?_
  rintro e W10 ⟨t10, rfl, ho_t10, hb⟩
  have hk_t10 := Lib.hid (World.ownsRow.lt ho_t10)
  have hsW10 := Lib.hid hb.size
  replace ho_t3 := ho_t3.below hb
  replace ho_t4 := ho_t4.below hb
  replace ho_w0 := ho_w0.below hb
  replace ho_t6 := ho_t6.below hb
  replace ho_t7 := ho_t7.below hb
  replace ho_g0 := ho_g0.below hb
  replace hB := Below.step hB hb
  clear hb
  go_wp2_with fail
  refine (eqRuleS_same t6 t10 xs0 W10 (Sl.of_own ho_t6 (big_of hn0)) (Sl.of_own ho_t10 (big_of hn0))).mono ?_
  rintro e W11 ⟨rfl, hb⟩
  have hsW11 := Lib.hid hb.size
  replace ho_t3 := ho_t3.below hb
  replace ho_t4 := ho_t4.below hb
  replace ho_w0 := ho_w0.below hb
  replace ho_t6 := ho_t6.below hb
  replace ho_t7 := ho_t7.below hb
  replace ho_g0 := ho_g0.below hb
  replace ho_t10 := ho_t10.below hb
  replace hB := Below.step hB hb
  clear hb
  go_wp2_with fail
  refine (toUsedS_any _ xs1 W11 (hI1.below hB) hn1).mono ?_
  rintro e W12 ⟨t12, rfl, ho_t12, hb⟩
  have hk_t12 := Lib.hid (World.ownsRow.lt ho_t12)
  have hsW12 := Lib.hid hb.size
  replace ho_t3 := ho_t3.below hb
  replace ho_t4 := ho_t4.below hb
  replace ho_w0 := ho_w0.below hb
  replace ho_t6 := ho_t6.below hb
  replace ho_t7 := ho_t7.below hb
  replace ho_g0 := ho_g0.below hb
  replace ho_t10 := ho_t10.below hb
  replace hB := Below.step hB hb
  clear hb
  go_wp2_with fail
  refine (eqUsedS_same t7 t12 xs1 W12 (Sl.of_own ho_t7 (big_of hn1)) (Sl.of_own ho_t12 (big_of hn1))).mono ?_
  rintro e W13 ⟨rfl, hb⟩
  have hsW13 := Lib.hid hb.size
  replace ho_t3 := ho_t3.below hb
  replace ho_t4 := ho_t4.below hb
  replace ho_w0 := ho_w0.below hb
  replace ho_t6 := ho_t6.below hb
  replace ho_t7 := ho_t7.below hb
  replace ho_g0 := ho_g0.below hb
  replace ho_t10 := ho_t10.below hb
  replace ho_t12 := ho_t12.below hb
  replace hB := Below.step hB hb
  clear hb
  go_wp2_with fail
  have hcW14 := Lib.hid (cntRuleS_le xs0 hn0)
  refine (markRuleS_law t6 xs0 1 W5.heap.size W13 ho_t6 hn0 (by omega) (by have cW14 := hcW14.out; omega)).mono ?_
  rintro e W14 ⟨rfl, hn_t6, hg⟩
  replace ho_t3 := Own.kept ho_t3 hg (ne_lt hk_t3.out hk_t6.out (by have sW1 := hsW1.out; have sW2 := hsW2.out; have sW3 := hsW3.out; have sW4 := hsW4.out; have sW5 := hsW5.out; have sW6 := hsW6.out; have sW7 := hsW7.out; have sW8 := hsW8.out; have sW9 := hsW9.out; have sW10 := hsW10.out; have sW11 := hsW11.out; have sW12 := hsW12.out; have sW13 := hsW13.out; omega))
  replace ho_t4 := Own.kept ho_t4 hg (ne_lt hk_t4.out hk_t6.out (by have sW1 := hsW1.out; have sW2 := hsW2.out; have sW3 := hsW3.out; have sW4 := hsW4.out; have sW5 := hsW5.out; have sW6 := hsW6.out; have sW7 := hsW7.out; have sW8 := hsW8.out; have sW9 := hsW9.out; have sW10 := hsW10.out; have sW11 := hsW11.out; have sW12 := hsW12.out; have sW13 := hsW13.out; omega))
  replace ho_w0 := Own.kept ho_w0 hg (ne_lt hk_w0.out hk_t6.out (by have sW1 := hsW1.out; have sW2 := hsW2.out; have sW3 := hsW3.out; have sW4 := hsW4.out; have sW5 := hsW5.out; have sW6 := hsW6.out; have sW7 := hsW7.out; have sW8 := hsW8.out; have sW9 := hsW9.out; have sW10 := hsW10.out; have sW11 := hsW11.out; have sW12 := hsW12.out; have sW13 := hsW13.out; omega))
  replace ho_t7 := Own.kept ho_t7 hg (ne_lt hk_t7.out hk_t6.out (by have sW1 := hsW1.out; have sW2 := hsW2.out; have sW3 := hsW3.out; have sW4 := hsW4.out; have sW5 := hsW5.out; have sW6 := hsW6.out; have sW7 := hsW7.out; have sW8 := hsW8.out; have sW9 := hsW9.out; have sW10 := hsW10.out; have sW11 := hsW11.out; have sW12 := hsW12.out; have sW13 := hsW13.out; omega))
  replace ho_g0 := Own.kept ho_g0 hg (ne_lt hk_g0.out hk_t6.out (by have sW1 := hsW1.out; have sW2 := hsW2.out; have sW3 := hsW3.out; have sW4 := hsW4.out; have sW5 := hsW5.out; have sW6 := hsW6.out; have sW7 := hsW7.out; have sW8 := hsW8.out; have sW9 := hsW9.out; have sW10 := hsW10.out; have sW11 := hsW11.out; have sW12 := hsW12.out; have sW13 := hsW13.out; omega))
  replace ho_t10 := Own.kept ho_t10 hg (ne_lt hk_t10.out hk_t6.out (by have sW1 := hsW1.out; have sW2 := hsW2.out; have sW3 := hsW3.out; have sW4 := hsW4.out; have sW5 := hsW5.out; have sW6 := hsW6.out; have sW7 := hsW7.out; have sW8 := hsW8.out; have sW9 := hsW9.out; have sW10 := hsW10.out; have sW11 := hsW11.out; have sW12 := hsW12.out; have sW13 := hsW13.out; omega))
  replace ho_t12 := Own.kept ho_t12 hg (ne_lt hk_t12.out hk_t6.out (by have sW1 := hsW1.out; have sW2 := hsW2.out; have sW3 := hsW3.out; have sW4 := hsW4.out; have sW5 := hsW5.out; have sW6 := hsW6.out; have sW7 := hsW7.out; have sW8 := hsW8.out; have sW9 := hsW9.out; have sW10 := hsW10.out; have sW11 := hsW11.out; have sW12 := hsW12.out; have sW13 := hsW13.out; omega))
  replace ho_t6 := hn_t6
  have hsW14 := Lib.hid hg.size
  replace hB := hB.grown hg hB.size (fun k hk => by have hkk := hk_t6.out k hk; have sW1 := hsW1.out; have sW2 := hsW2.out; have sW3 := hsW3.out; have sW4 := hsW4.out; have sW5 := hsW5.out; have sW6 := hsW6.out; have sW7 := hsW7.out; have sW8 := hsW8.out; have sW9 := hsW9.out; have sW10 := hsW10.out; have sW11 := hsW11.out; have sW12 := hsW12.out; have sW13 := hsW13.out; omega)
  clear hg
  go_wp2_with fail
  have hcW15 := Lib.hid (cntUsedS_le xs1 hn1)
  refine (markUsedS_law t7 xs1 (1 + (cntRuleS xs0 : Nat)) W6.heap.size W14 ho_t7 hn1 (by omega) (by have cW14 := hcW14.out; have cW15 := hcW15.out; omega)).mono ?_
  rintro e W15 ⟨rfl, hn_t7, hg⟩
  replace ho_t3 := Own.kept ho_t3 hg (ne_lt hk_t3.out hk_t7.out (by have sW1 := hsW1.out; have sW2 := hsW2.out; have sW3 := hsW3.out; have sW4 := hsW4.out; have sW5 := hsW5.out; have sW6 := hsW6.out; have sW7 := hsW7.out; have sW8 := hsW8.out; have sW9 := hsW9.out; have sW10 := hsW10.out; have sW11 := hsW11.out; have sW12 := hsW12.out; have sW13 := hsW13.out; have sW14 := hsW14.out; omega))
  replace ho_t4 := Own.kept ho_t4 hg (ne_lt hk_t4.out hk_t7.out (by have sW1 := hsW1.out; have sW2 := hsW2.out; have sW3 := hsW3.out; have sW4 := hsW4.out; have sW5 := hsW5.out; have sW6 := hsW6.out; have sW7 := hsW7.out; have sW8 := hsW8.out; have sW9 := hsW9.out; have sW10 := hsW10.out; have sW11 := hsW11.out; have sW12 := hsW12.out; have sW13 := hsW13.out; have sW14 := hsW14.out; omega))
  replace ho_w0 := Own.kept ho_w0 hg (ne_lt hk_w0.out hk_t7.out (by have sW1 := hsW1.out; have sW2 := hsW2.out; have sW3 := hsW3.out; have sW4 := hsW4.out; have sW5 := hsW5.out; have sW6 := hsW6.out; have sW7 := hsW7.out; have sW8 := hsW8.out; have sW9 := hsW9.out; have sW10 := hsW10.out; have sW11 := hsW11.out; have sW12 := hsW12.out; have sW13 := hsW13.out; have sW14 := hsW14.out; omega))
  replace ho_t6 := Own.kept ho_t6 hg (ne_lt hk_t6.out hk_t7.out (by have sW1 := hsW1.out; have sW2 := hsW2.out; have sW3 := hsW3.out; have sW4 := hsW4.out; have sW5 := hsW5.out; have sW6 := hsW6.out; have sW7 := hsW7.out; have sW8 := hsW8.out; have sW9 := hsW9.out; have sW10 := hsW10.out; have sW11 := hsW11.out; have sW12 := hsW12.out; have sW13 := hsW13.out; have sW14 := hsW14.out; omega))
  replace ho_g0 := Own.kept ho_g0 hg (ne_lt hk_g0.out hk_t7.out (by have sW1 := hsW1.out; have sW2 := hsW2.out; have sW3 := hsW3.out; have sW4 := hsW4.out; have sW5 := hsW5.out; have sW6 := hsW6.out; have sW7 := hsW7.out; have sW8 := hsW8.out; have sW9 := hsW9.out; have sW10 := hsW10.out; have sW11 := hsW11.out; have sW12 := hsW12.out; have sW13 := hsW13.out; have sW14 := hsW14.out; omega))
  replace ho_t10 := Own.kept ho_t10 hg (ne_lt hk_t10.out hk_t7.out (by have sW1 := hsW1.out; have sW2 := hsW2.out; have sW3 := hsW3.out; have sW4 := hsW4.out; have sW5 := hsW5.out; have sW6 := hsW6.out; have sW7 := hsW7.out; have sW8 := hsW8.out; have sW9 := hsW9.out; have sW10 := hsW10.out; have sW11 := hsW11.out; have sW12 := hsW12.out; have sW13 := hsW13.out; have sW14 := hsW14.out; omega))
  replace ho_t12 := Own.kept ho_t12 hg (ne_lt hk_t12.out hk_t7.out (by have sW1 := hsW1.out; have sW2 := hsW2.out; have sW3 := hsW3.out; have sW4 := hsW4.out; have sW5 := hsW5.out; have sW6 := hsW6.out; have sW7 := hsW7.out; have sW8 := hsW8.out; have sW9 := hsW9.out; have sW10 := hsW10.out; have sW11 := hsW11.out; have sW12 := hsW12.out; have sW13 := hsW13.out; have sW14 := hsW14.out; omega))
  replace ho_t7 := hn_t7
  have hsW15 := Lib.hid hg.size
  replace hB := hB.grown hg hB.size (fun k hk => by have hkk := hk_t7.out k hk; have sW1 := hsW1.out; have sW2 := hsW2.out; have sW3 := hsW3.out; have sW4 := hsW4.out; have sW5 := hsW5.out; have sW6 := hsW6.out; have sW7 := hsW7.out; have sW8 := hsW8.out; have sW9 := hsW9.out; have sW10 := hsW10.out; have sW11 := hsW11.out; have sW12 := hsW12.out; have sW13 := hsW13.out; have sW14 := hsW14.out; omega)
  clear hg
  go_wp2_with fail
  refine (eqInt64S_same v_g0 v_w0 ((CountGrades_r xs0 xs1).1) W15 (Sl.of_own ho_g0 (big_of (CountGrades_len xs0 xs1))) (Sl.of_own ho_w0 (big_of (CountGrades_len xs0 xs1)))).mono ?_
  rintro e W16 ⟨rfl, hb⟩
  have hsW16 := Lib.hid hb.size
  replace ho_t3 := ho_t3.below hb
  replace ho_t4 := ho_t4.below hb
  replace ho_w0 := ho_w0.below hb
  replace ho_t6 := ho_t6.below hb
  replace ho_t7 := ho_t7.below hb
  replace ho_g0 := ho_g0.below hb
  replace ho_t10 := ho_t10.below hb
  replace ho_t12 := ho_t12.below hb
  replace hB := Below.step hB hb
  clear hb
  go_wp2_with fail
  have hcW17 := Lib.hid (cntInt64S_le ((CountGrades_r xs0 xs1).1) (CountGrades_len xs0 xs1))
  refine (markInt64S_law v_g0 ((CountGrades_r xs0 xs1).1) 1 W7.heap.size W16 ho_g0 (CountGrades_len xs0 xs1) (by omega) (by have cW14 := hcW14.out; have cW15 := hcW15.out; have cW17 := hcW17.out; omega)).mono ?_
  rintro e W17 ⟨rfl, hn_g0, hg⟩
  replace ho_t3 := Own.kept ho_t3 hg (ne_lt hk_t3.out hk_g0.out (by have sW1 := hsW1.out; have sW2 := hsW2.out; have sW3 := hsW3.out; have sW4 := hsW4.out; have sW5 := hsW5.out; have sW6 := hsW6.out; have sW7 := hsW7.out; have sW8 := hsW8.out; have sW9 := hsW9.out; have sW10 := hsW10.out; have sW11 := hsW11.out; have sW12 := hsW12.out; have sW13 := hsW13.out; have sW14 := hsW14.out; have sW15 := hsW15.out; have sW16 := hsW16.out; omega))
  replace ho_t4 := Own.kept ho_t4 hg (ne_lt hk_t4.out hk_g0.out (by have sW1 := hsW1.out; have sW2 := hsW2.out; have sW3 := hsW3.out; have sW4 := hsW4.out; have sW5 := hsW5.out; have sW6 := hsW6.out; have sW7 := hsW7.out; have sW8 := hsW8.out; have sW9 := hsW9.out; have sW10 := hsW10.out; have sW11 := hsW11.out; have sW12 := hsW12.out; have sW13 := hsW13.out; have sW14 := hsW14.out; have sW15 := hsW15.out; have sW16 := hsW16.out; omega))
  replace ho_w0 := Own.kept ho_w0 hg (ne_lt hk_w0.out hk_g0.out (by have sW1 := hsW1.out; have sW2 := hsW2.out; have sW3 := hsW3.out; have sW4 := hsW4.out; have sW5 := hsW5.out; have sW6 := hsW6.out; have sW7 := hsW7.out; have sW8 := hsW8.out; have sW9 := hsW9.out; have sW10 := hsW10.out; have sW11 := hsW11.out; have sW12 := hsW12.out; have sW13 := hsW13.out; have sW14 := hsW14.out; have sW15 := hsW15.out; have sW16 := hsW16.out; omega))
  replace ho_t6 := Own.kept ho_t6 hg (ne_lt hk_t6.out hk_g0.out (by have sW1 := hsW1.out; have sW2 := hsW2.out; have sW3 := hsW3.out; have sW4 := hsW4.out; have sW5 := hsW5.out; have sW6 := hsW6.out; have sW7 := hsW7.out; have sW8 := hsW8.out; have sW9 := hsW9.out; have sW10 := hsW10.out; have sW11 := hsW11.out; have sW12 := hsW12.out; have sW13 := hsW13.out; have sW14 := hsW14.out; have sW15 := hsW15.out; have sW16 := hsW16.out; omega))
  replace ho_t7 := Own.kept ho_t7 hg (ne_lt hk_t7.out hk_g0.out (by have sW1 := hsW1.out; have sW2 := hsW2.out; have sW3 := hsW3.out; have sW4 := hsW4.out; have sW5 := hsW5.out; have sW6 := hsW6.out; have sW7 := hsW7.out; have sW8 := hsW8.out; have sW9 := hsW9.out; have sW10 := hsW10.out; have sW11 := hsW11.out; have sW12 := hsW12.out; have sW13 := hsW13.out; have sW14 := hsW14.out; have sW15 := hsW15.out; have sW16 := hsW16.out; omega))
  replace ho_t10 := Own.kept ho_t10 hg (ne_lt hk_t10.out hk_g0.out (by have sW1 := hsW1.out; have sW2 := hsW2.out; have sW3 := hsW3.out; have sW4 := hsW4.out; have sW5 := hsW5.out; have sW6 := hsW6.out; have sW7 := hsW7.out; have sW8 := hsW8.out; have sW9 := hsW9.out; have sW10 := hsW10.out; have sW11 := hsW11.out; have sW12 := hsW12.out; have sW13 := hsW13.out; have sW14 := hsW14.out; have sW15 := hsW15.out; have sW16 := hsW16.out; omega))
  replace ho_t12 := Own.kept ho_t12 hg (ne_lt hk_t12.out hk_g0.out (by have sW1 := hsW1.out; have sW2 := hsW2.out; have sW3 := hsW3.out; have sW4 := hsW4.out; have sW5 := hsW5.out; have sW6 := hsW6.out; have sW7 := hsW7.out; have sW8 := hsW8.out; have sW9 := hsW9.out; have sW10 := hsW10.out; have sW11 := hsW11.out; have sW12 := hsW12.out; have sW13 := hsW13.out; have sW14 := hsW14.out; have sW15 := hsW15.out; have sW16 := hsW16.out; omega))
  replace ho_g0 := hn_g0
  have hsW17 := Lib.hid hg.size
  replace hB := hB.grown hg hB.size (fun k hk => by have hkk := hk_g0.out k hk; have sW1 := hsW1.out; have sW2 := hsW2.out; have sW3 := hsW3.out; have sW4 := hsW4.out; have sW5 := hsW5.out; have sW6 := hsW6.out; have sW7 := hsW7.out; have sW8 := hsW8.out; have sW9 := hsW9.out; have sW10 := hsW10.out; have sW11 := hsW11.out; have sW12 := hsW12.out; have sW13 := hsW13.out; have sW14 := hsW14.out; have sW15 := hsW15.out; have sW16 := hsW16.out; omega)
  clear hg
  go_wp2_with fail
  refine (heldInt64S_law v_g0 ((CountGrades_r xs0 xs1).1) 1 W17 (Sl.of_own ho_g0 (by rw [mkInt64S_len]; exact (big_of (CountGrades_len xs0 xs1)))) (CountGrades_len xs0 xs1) (by omega) (by omega)).mono ?_
  rintro e W18 ⟨rfl, hb⟩
  have hsW18 := Lib.hid hb.size
  replace ho_t3 := ho_t3.below hb
  replace ho_t4 := ho_t4.below hb
  replace ho_w0 := ho_w0.below hb
  replace ho_t6 := ho_t6.below hb
  replace ho_t7 := ho_t7.below hb
  replace ho_g0 := ho_g0.below hb
  replace ho_t10 := ho_t10.below hb
  replace ho_t12 := ho_t12.below hb
  replace hB := Below.step hB hb
  clear hb
  go_wp2_with fail
  refine (toRuleS_any _ xs0 W18 (hI0.below hB) hn0).mono ?_
  rintro e W19 ⟨t19, rfl, ho_t19, hb⟩
  have hk_t19 := Lib.hid (World.ownsRow.lt ho_t19)
  have hsW19 := Lib.hid hb.size
  replace ho_t3 := ho_t3.below hb
  replace ho_t4 := ho_t4.below hb
  replace ho_w0 := ho_w0.below hb
  replace ho_t6 := ho_t6.below hb
  replace ho_t7 := ho_t7.below hb
  replace ho_g0 := ho_g0.below hb
  replace ho_t10 := ho_t10.below hb
  replace ho_t12 := ho_t12.below hb
  replace hB := Below.step hB hb
  clear hb
  go_wp2_with fail
  refine (toUsedS_any _ xs1 W19 (hI1.below hB) hn1).mono ?_
  rintro e W20 ⟨t20, rfl, ho_t20, hb⟩
  have hk_t20 := Lib.hid (World.ownsRow.lt ho_t20)
  have hsW20 := Lib.hid hb.size
  replace ho_t3 := ho_t3.below hb
  replace ho_t4 := ho_t4.below hb
  replace ho_w0 := ho_w0.below hb
  replace ho_t6 := ho_t6.below hb
  replace ho_t7 := ho_t7.below hb
  replace ho_g0 := ho_g0.below hb
  replace ho_t10 := ho_t10.below hb
  replace ho_t12 := ho_t12.below hb
  replace ho_t19 := ho_t19.below hb
  replace hB := Below.step hB hb
  clear hb
  go_wp2_with fail
  refine (iCountGrades_law t19 xs0 t20 xs1 W20 (Sl.of_own ho_t19 (big_of hn0)) hn0 (Sl.of_own ho_t20 (big_of hn1)) hn1 q1).mono ?_
  rintro e W21 ⟨v_h0, rfl, ho_h0, hb⟩
  have hk_h0 := Lib.hid (World.ownsRow.lt ho_h0)
  have hsW21 := Lib.hid hb.size
  replace ho_t3 := ho_t3.below hb
  replace ho_t4 := ho_t4.below hb
  replace ho_w0 := ho_w0.below hb
  replace ho_t6 := ho_t6.below hb
  replace ho_t7 := ho_t7.below hb
  replace ho_g0 := ho_g0.below hb
  replace ho_t10 := ho_t10.below hb
  replace ho_t12 := ho_t12.below hb
  replace ho_t19 := ho_t19.below hb
  replace ho_t20 := ho_t20.below hb
  replace hB := Below.step hB hb
  clear hb
  go_wp2_with fail
  refine (eqInt64S_same v_h0 v_w0 ((CountGrades_r xs0 xs1).1) W21 (Sl.of_own ho_h0 (big_of (CountGrades_len xs0 xs1))) (Sl.of_own ho_w0 (big_of (CountGrades_len xs0 xs1)))).mono ?_
  rintro e W22 ⟨rfl, hb⟩
  have hsW22 := Lib.hid hb.size
  replace ho_t3 := ho_t3.below hb
  replace ho_t4 := ho_t4.below hb
  replace ho_w0 := ho_w0.below hb
  replace ho_t6 := ho_t6.below hb
  replace ho_t7 := ho_t7.below hb
  replace ho_g0 := ho_g0.below hb
  replace ho_t10 := ho_t10.below hb
  replace ho_t12 := ho_t12.below hb
  replace ho_t19 := ho_t19.below hb
  replace ho_t20 := ho_t20.below hb
  replace ho_h0 := ho_h0.below hb
  replace hB := Below.step hB hb
  clear hb
  go_wp2_with fail
  refine (heldInt64S_law v_g0 ((CountGrades_r xs0 xs1).1) 1 W22 (Sl.of_own ho_g0 (by rw [mkInt64S_len]; exact (big_of (CountGrades_len xs0 xs1)))) (CountGrades_len xs0 xs1) (by omega) (by omega)).mono ?_
  rintro e W23 ⟨rfl, hb⟩
  have hsW23 := Lib.hid hb.size
  replace ho_t3 := ho_t3.below hb
  replace ho_t4 := ho_t4.below hb
  replace ho_w0 := ho_w0.below hb
  replace ho_t6 := ho_t6.below hb
  replace ho_t7 := ho_t7.below hb
  replace ho_g0 := ho_g0.below hb
  replace ho_t10 := ho_t10.below hb
  replace ho_t12 := ho_t12.below hb
  replace ho_t19 := ho_t19.below hb
  replace ho_t20 := ho_t20.below hb
  replace ho_h0 := ho_h0.below hb
  replace hB := Below.step hB hb
  clear hb
  go_wp2_with fail
  go_ret
  exact ⟨rfl, hB⟩

namespace LFnExactCountGrades
open Go.ChangeShapes Go.WideShapes Go.ChangeAt Go.RowKit
open Go.ChangeMaps (open_string shut_string)
set_option linter.unusedVariables false
set_option maxRecDepth 100000 in
theorem lifted (os : Os) (started : os.Started) (H : Type) (enc : TypeId × Value → H) :
    ReturnsInHanded {} Try.checked os 11 .any (Rows.fnExactCountGradesSpec.pre6 enc Try.prog Try.f11 Rows.fnExactCountGradesRow.domain false) (Rows.fnExactCountGradesSpec.post enc Try.prog Try.f11 false true false false) := by
  refine returnsInHanded_of_change (C := Try.checked) own started (by kernel_rfl) Try.func11
    (ChangeSpec.witness6 (enc := enc) (C := Try.checked) false ⟨#[], #[.slice none 0 0, .slice none 0 0], []⟩ 8 (by kernel_rfl) (by kernel_rfl) (by kernel_rfl) (by kernel_rfl)) ?_
  intro W base args ds gs before hval0 hW hcnd _
  have hval : ∀ (j : Nat) t v, Try.f11.params[j]? = some t → args[j]? = some v → Value.okWide Try.prog W .any base t v := hval0
  have hW' := hW
  obtain ⟨p, q, hA0, hV, rfl, hfz, hnd⟩ := hW
  have hA : DataW.TrodAll enc Try.prog W 0 (fun _ => true) true Try.f11.params.toList args.toList ds p := hA0
  rw [Try.params11] at hA hval
  obtain ⟨v0, vs0, d0, ds0, p0, q0, hargs, rfl, rfl, h0, r0⟩ := trodAll_cons hA
  obtain ⟨v1, vs1, d1, ds1, p1, q1, rfl, rfl, rfl, h1, r1⟩ := trodAll_cons r0
  obtain ⟨rfl, rfl, rfl⟩ := trodAll_nil r1
  obtain rfl : args = #[v0, v1] := by cases args; simp_all
  obtain ⟨rfl, rfl⟩ := trodVars_none hV
  have k0 := h0
  have lt0 : ∀ x ∈ p0, x.block < W.heap.size := by obtain ⟨m, hm⟩ := k0; exact DataW.trod_lt m _ _ _ hm
  obtain ⟨a0, len0, cap0, rfl⟩ := okWide_slice Try.underlying22 (hval 0 22 v0 rfl rfl)
  obtain ⟨xs0, w0, u0⟩ : ∃ xs : List Rule, RowS eRule W a0 len0 cap0 xs ∧ ∀ x ∈ xs, okRule x := by
    obtain ⟨fuel, hf⟩ := h0
    exact openRuleS (by simpa [Value.cells] using hf)
  have k1 := h1
  have lt1 : ∀ x ∈ p1, x.block < W.heap.size := by obtain ⟨m, hm⟩ := k1; exact DataW.trod_lt m _ _ _ hm
  obtain ⟨a1, len1, cap1, rfl⟩ := okWide_slice Try.underlying55 (hval 1 55 v1 rfl rfl)
  obtain ⟨xs1, w1, u1⟩ : ∃ xs : List Used, RowS eUsed W a1 len1 cap1 xs ∧ ∀ x ∈ xs, okUsed x := by
    obtain ⟨fuel, hf⟩ := h1
    exact openUsedS (by simpa [Value.cells] using hf)
  clear hA0 hval0
  refine (walk_FnExactCountGrades a0 len0 cap0 xs0 a1 len1 cap1 xs1 W w0 u0 w1 u1).mono fun e W' ⟨he, bel⟩ => ?_
  subst he
  exact ⟨_, rfl, _, _, _, [], _, [], hW', trodAll_mk1 (shut_bool Try.underlying4 _), (trodAll_cons_mk (Below.trod laidOut (by kernel_rfl) (of_decide_eq_true (by kernel_rfl)) k0 bel lt0) (trodAll_cons_mk (Below.trod laidOut (by kernel_rfl) (of_decide_eq_true (by kernel_rfl)) k1 bel lt1) trodAll_mk0)), rfl, bel.frame _, fun h => by cases h⟩
theorem over : Rows.fnExactCountGradesRow.holds Try.pinned (OpenSpec.ofChange Rows.fnExactCountGradesSpec) :=
  OpenClaim.holds_of_wide 11 Try.f11 rfl rfl rfl rfl rfl rfl rfl ⟨rfl, rfl, rfl, rfl, rfl⟩ rfl rfl rfl rfl rfl (by kernel_rfl) Try.func11 (by kernel_rfl)
    (of_decide_eq_true (by kernel_rfl)) (by unfold Func.isWrapper; first | (rw [if_pos (by decide +kernel)]; kernel_rfl) | (rw [if_neg (by decide +kernel)]; exact ⟨rfl, rfl⟩))
    (fun os started H enc _ => lifted os started H enc)
end LFnExactCountGrades
/-- The statement. -/
theorem fnExactCountGrades_holds : Rows.FnExactCountGradesSaid := LFnExactCountGrades.over
#print axioms fnExactCountGrades_holds

end Go.Proofs.Ytncggcbpbejmcaa
