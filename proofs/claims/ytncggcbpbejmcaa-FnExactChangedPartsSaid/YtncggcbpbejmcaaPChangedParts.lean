/- For all rules, other rules and lists of parts the program's ChangedParts and the reference's ChangedParts answer the same, in memory of the answer's own, and the lists are left as they were. No condition. -/
import Derived.Test.YtncggcbpbejmcaaLChanged
import Derived.Test.YtncggcbpbejmcaaORule
import Derived.Test.YtncggcbpbejmcaaOUsed
import Derived.Test.YtncggcbpbejmcaaMRule
import Derived.Test.YtncggcbpbejmcaaMUsed
namespace Go.Proofs.Ytncggcbpbejmcaa
open Go.RowKit

set_option maxHeartbeats 4000000 in
set_option maxRecDepth 20000 in
theorem walk_FnExactChangedParts (a0 : Option Addr) (len0 cap0 : Nat) (xs0 : List Rule) (a1 : Option Addr) (len1 cap1 : Nat) (xs1 : List Rule) (a2 : Option Addr) (len2 cap2 : Nat) (xs2 : List Used) (w : World) (p0 : RowS eRule w a0 len0 cap0 xs0) (q0 : ∀ x ∈ xs0, okRule x) (p1 : RowS eRule w a1 len1 cap1 xs1) (q1 : ∀ x ∈ xs1, okRule x) (p2 : RowS eUsed w a2 len2 cap2 xs2) (q2 : ∀ x ∈ xs2, okUsed x) :
    Calls Try.prog 12 #[.slice a0 len0 cap0, .slice a1 len1 cap1, .slice a2 len2 cap2] w fun e w' => e = .returned (.bool true) ∧ Below w.heap.size w w' := by
  have hB : Below w.heap.size w w := Below.refl _ _
  have hmax0 := p0.max
  have hmax1 := p1.max
  have hmax2 := p2.max
  go_enter Try.func12, Try.ntmps12
  go_wp2_with fail
  by_cases hl0 : (len0 : Int) ≤ 1048576
  rotate_left
  · refine (szRuleS_big a0 len0 cap0 1048576 w (by omega) (by omega) hmax0 (by omega)).mono ?_
    rintro e w' ⟨rfl, rfl⟩
    go_wp2_with fail
    go_ret
    exact ⟨rfl, hB⟩
  have hI0 := p0.sl (by omega)
  have hn0 : xs0.length ≤ 1048576 := by rw [p0.len]; omega
  refine (szRuleS_ok _ xs0 1048576 w (by omega) (by omega) (hI0.below hB) q0).mono ?_
  rintro e W1 ⟨rfl, hb⟩
  have hsW1 := Lib.hid hb.size
  replace hB := Below.step hB hb
  clear hb
  by_cases ht0 : ((totRule xs0 : Nat) : Int) ≤ 1048576
  rotate_left
  · rw [szr_neg ht0]
    go_wp2_with fail
    go_ret
    exact ⟨rfl, hB⟩
  rw [szr_pos ht0]
  go_wp2_with fail
  by_cases hl1 : (len1 : Int) ≤ (1048576 - ((totRule xs0 : Nat) : Int))
  rotate_left
  · refine (szRuleS_big a1 len1 cap1 (1048576 - ((totRule xs0 : Nat) : Int)) W1 (by omega) (by omega) hmax1 (by omega)).mono ?_
    rintro e w' ⟨rfl, rfl⟩
    go_wp2_with fail
    go_ret
    exact ⟨rfl, hB⟩
  have hI1 := p1.sl (by omega)
  have hn1 : xs1.length ≤ 1048576 := by rw [p1.len]; omega
  refine (szRuleS_ok _ xs1 (1048576 - ((totRule xs0 : Nat) : Int)) W1 (by omega) (by omega) (hI1.below hB) q1).mono ?_
  rintro e W2 ⟨rfl, hb⟩
  have hsW2 := Lib.hid hb.size
  replace hB := Below.step hB hb
  clear hb
  by_cases ht1 : ((totRule xs1 : Nat) : Int) ≤ (1048576 - ((totRule xs0 : Nat) : Int))
  rotate_left
  · rw [szr_neg ht1]
    go_wp2_with fail
    go_ret
    exact ⟨rfl, hB⟩
  rw [szr_pos ht1]
  go_wp2_with fail
  by_cases hl2 : (len2 : Int) ≤ ((1048576 - ((totRule xs0 : Nat) : Int)) - ((totRule xs1 : Nat) : Int))
  rotate_left
  · refine (szUsedS_big a2 len2 cap2 ((1048576 - ((totRule xs0 : Nat) : Int)) - ((totRule xs1 : Nat) : Int)) W2 (by omega) (by omega) hmax2 (by omega)).mono ?_
    rintro e w' ⟨rfl, rfl⟩
    go_wp2_with fail
    go_ret
    exact ⟨rfl, hB⟩
  have hI2 := p2.sl (by omega)
  have hn2 : xs2.length ≤ 1048576 := by rw [p2.len]; omega
  refine (szUsedS_ok _ xs2 ((1048576 - ((totRule xs0 : Nat) : Int)) - ((totRule xs1 : Nat) : Int)) W2 (by omega) (by omega) (hI2.below hB) q2).mono ?_
  rintro e W3 ⟨rfl, hb⟩
  have hsW3 := Lib.hid hb.size
  replace hB := Below.step hB hb
  clear hb
  by_cases ht2 : ((totUsed xs2 : Nat) : Int) ≤ ((1048576 - ((totRule xs0 : Nat) : Int)) - ((totRule xs1 : Nat) : Int))
  rotate_left
  · rw [szr_neg ht2]
    go_wp2_with fail
    go_ret
    exact ⟨rfl, hB⟩
  rw [szr_pos ht2]
  go_wp2_with fail
  refine (toRuleS_any _ xs0 W3 (hI0.below hB) hn0).mono ?_
  rintro e W4 ⟨t4, rfl, ho_t4, hb⟩
  have hk_t4 := Lib.hid (World.ownsRow.lt ho_t4)
  have hsW4 := Lib.hid hb.size
  replace hB := Below.step hB hb
  clear hb
  go_wp2_with fail
  refine (toRuleS_any _ xs1 W4 (hI1.below hB) hn1).mono ?_
  rintro e W5 ⟨t5, rfl, ho_t5, hb⟩
  have hk_t5 := Lib.hid (World.ownsRow.lt ho_t5)
  have hsW5 := Lib.hid hb.size
  replace ho_t4 := ho_t4.below hb
  replace hB := Below.step hB hb
  clear hb
  go_wp2_with fail
  refine (toUsedS_any _ xs2 W5 (hI2.below hB) hn2).mono ?_
  rintro e W6 ⟨t6, rfl, ho_t6, hb⟩
  have hk_t6 := Lib.hid (World.ownsRow.lt ho_t6)
  have hsW6 := Lib.hid hb.size
  replace ho_t4 := ho_t4.below hb
  replace ho_t5 := ho_t5.below hb
  replace hB := Below.step hB hb
  clear hb
  go_wp2_with fail
  refine (sChangedParts_law t4 xs0 t5 xs1 t6 xs2 W6 (Sl.of_own ho_t4 (big_of hn0)) hn0 (Sl.of_own ho_t5 (big_of hn1)) hn1 (Sl.of_own ho_t6 (big_of hn2)) hn2 q2).mono ?_
  rintro e W7 ⟨v_w0, rfl, ho_w0, hb⟩
  have hk_w0 := Lib.hid (World.ownsRow.lt ho_w0)
  have hsW7 := Lib.hid hb.size
  replace ho_t4 := ho_t4.below hb
  replace ho_t5 := ho_t5.below hb
  replace ho_t6 := ho_t6.below hb
  replace hB := Below.step hB hb
  clear hb
  go_wp2_with fail
  refine (toRuleS_any _ xs0 W7 (hI0.below hB) hn0).mono ?_
  rintro e W8 ⟨t8, rfl, ho_t8, hb⟩
  have hk_t8 := Lib.hid (World.ownsRow.lt ho_t8)
  have hsW8 := Lib.hid hb.size
  replace ho_t4 := ho_t4.below hb
  replace ho_t5 := ho_t5.below hb
  replace ho_t6 := ho_t6.below hb
  replace ho_w0 := ho_w0.below hb
  replace hB := Below.step hB hb
  clear hb
  go_wp2_with fail
  refine (toRuleS_any _ xs1 W8 (hI1.below hB) hn1).mono ?_
  rintro e W9 ⟨t9, rfl, ho_t9, hb⟩
  have hk_t9 := Lib.hid (World.ownsRow.lt ho_t9)
  have hsW9 := Lib.hid hb.size
  replace ho_t4 := ho_t4.below hb
  replace ho_t5 := ho_t5.below hb
  replace ho_t6 := ho_t6.below hb
  replace ho_w0 := ho_w0.below hb
  replace ho_t8 := ho_t8.below hb
  replace hB := Below.step hB hb
  clear hb
  go_wp2_with fail
  refine (toUsedS_any _ xs2 W9 (hI2.below hB) hn2).mono ?_
  rintro e W10 ⟨t10, rfl, ho_t10, hb⟩
  have hk_t10 := Lib.hid (World.ownsRow.lt ho_t10)
  have hsW10 := Lib.hid hb.size
  replace ho_t4 := ho_t4.below hb
  replace ho_t5 := ho_t5.below hb
  replace ho_t6 := ho_t6.below hb
  replace ho_w0 := ho_w0.below hb
  replace ho_t8 := ho_t8.below hb
  replace ho_t9 := ho_t9.below hb
  replace hB := Below.step hB hb
  clear hb
  go_wp2_with fail
  refine (iChangedParts_law t8 xs0 t9 xs1 t10 xs2 W10 (Sl.of_own ho_t8 (big_of hn0)) hn0 (Sl.of_own ho_t9 (big_of hn1)) hn1 (Sl.of_own ho_t10 (big_of hn2)) hn2 q2).mono ?_
  rintro e W11 ⟨v_g0, rfl, ho_g0, hb⟩
  have hk_g0 := Lib.hid (World.ownsRow.lt ho_g0)
  have hsW11 := Lib.hid hb.size
  replace ho_t4 := ho_t4.below hb
  replace ho_t5 := ho_t5.below hb
  replace ho_t6 := ho_t6.below hb
  replace ho_w0 := ho_w0.below hb
  replace ho_t8 := ho_t8.below hb
  replace ho_t9 := ho_t9.below hb
  replace ho_t10 := ho_t10.below hb
  replace hB := Below.step hB hb
  clear hb
  go_wp2_with fail
  refine (eqStringS_same v_g0 v_w0 ((ChangedParts_r xs0 xs1 xs2).1) W11 (Sl.of_own ho_g0 (big_of (ChangedParts_len xs0 xs1 xs2))) (Sl.of_own ho_w0 (big_of (ChangedParts_len xs0 xs1 xs2)))).mono ?_
  rintro e W12 ⟨rfl, hb⟩
  have hsW12 := Lib.hid hb.size
  replace ho_t4 := ho_t4.below hb
  replace ho_t5 := ho_t5.below hb
  replace ho_t6 := ho_t6.below hb
  replace ho_w0 := ho_w0.below hb
  replace ho_t8 := ho_t8.below hb
  replace ho_t9 := ho_t9.below hb
  replace ho_t10 := ho_t10.below hb
  replace ho_g0 := ho_g0.below hb
  replace hB := Below.step hB hb
  clear hb
  go_wp2_with fail
  refine (toRuleS_any _ xs0 W12 (hI0.below hB) hn0).mono ?_
  rintro e W13 ⟨t13, rfl, ho_t13, hb⟩
  have hk_t13 := Lib.hid (World.ownsRow.lt ho_t13)
  have hsW13 := Lib.hid hb.size
  replace ho_t4 := ho_t4.below hb
  replace ho_t5 := ho_t5.below hb
  replace ho_t6 := ho_t6.below hb
  replace ho_w0 := ho_w0.below hb
  replace ho_t8 := ho_t8.below hb
  replace ho_t9 := ho_t9.below hb
  replace ho_t10 := ho_t10.below hb
  replace ho_g0 := ho_g0.below hb
  replace hB := Below.step hB hb
  clear hb
  go_wp2_with fail
  refine (eqRuleS_same t8 t13 xs0 W13 (Sl.of_own ho_t8 (big_of hn0)) (Sl.of_own ho_t13 (big_of hn0))).mono ?_
  rintro e W14 ⟨rfl, hb⟩
  have hsW14 := Lib.hid hb.size
  replace ho_t4 := ho_t4.below hb
  replace ho_t5 := ho_t5.below hb
  replace ho_t6 := ho_t6.below hb
  replace ho_w0 := ho_w0.below hb
  replace ho_t8 := ho_t8.below hb
  replace ho_t9 := ho_t9.below hb
  replace ho_t10 := ho_t10.below hb
  replace ho_g0 := ho_g0.below hb
  replace ho_t13 := ho_t13.below hb
  replace hB := Below.step hB hb
  clear hb
  go_wp2_with fail
  refine (toRuleS_any _ xs1 W14 (hI1.below hB) hn1).mono ?_
  rintro e W15 ⟨t15, rfl, ho_t15, hb⟩
  have hk_t15 := Lib.hid (World.ownsRow.lt ho_t15)
  have hsW15 := Lib.hid hb.size
  replace ho_t4 := ho_t4.below hb
  replace ho_t5 := ho_t5.below hb
  replace ho_t6 := ho_t6.below hb
  replace ho_w0 := ho_w0.below hb
  replace ho_t8 := ho_t8.below hb
  replace ho_t9 := ho_t9.below hb
  replace ho_t10 := ho_t10.below hb
  replace ho_g0 := ho_g0.below hb
  replace ho_t13 := ho_t13.below hb
  replace hB := Below.step hB hb
  clear hb
  go_wp2_with fail
  refine (eqRuleS_same t9 t15 xs1 W15 (Sl.of_own ho_t9 (big_of hn1)) (Sl.of_own ho_t15 (big_of hn1))).mono ?_
  rintro e W16 ⟨rfl, hb⟩
  have hsW16 := Lib.hid hb.size
  replace ho_t4 := ho_t4.below hb
  replace ho_t5 := ho_t5.below hb
  replace ho_t6 := ho_t6.below hb
  replace ho_w0 := ho_w0.below hb
  replace ho_t8 := ho_t8.below hb
  replace ho_t9 := ho_t9.below hb
  replace ho_t10 := ho_t10.below hb
  replace ho_g0 := ho_g0.below hb
  replace ho_t13 := ho_t13.below hb
  replace ho_t15 := ho_t15.below hb
  replace hB := Below.step hB hb
  clear hb
  go_wp2_with fail
  refine (toUsedS_any _ xs2 W16 (hI2.below hB) hn2).mono ?_
  rintro e W17 ⟨t17, rfl, ho_t17, hb⟩
  have hk_t17 := Lib.hid (World.ownsRow.lt ho_t17)
  have hsW17 := Lib.hid hb.size
  replace ho_t4 := ho_t4.below hb
  replace ho_t5 := ho_t5.below hb
  replace ho_t6 := ho_t6.below hb
  replace ho_w0 := ho_w0.below hb
  replace ho_t8 := ho_t8.below hb
  replace ho_t9 := ho_t9.below hb
  replace ho_t10 := ho_t10.below hb
  replace ho_g0 := ho_g0.below hb
  replace ho_t13 := ho_t13.below hb
  replace ho_t15 := ho_t15.below hb
  replace hB := Below.step hB hb
  clear hb
  go_wp2_with fail
  refine (eqUsedS_same t10 t17 xs2 W17 (Sl.of_own ho_t10 (big_of hn2)) (Sl.of_own ho_t17 (big_of hn2))).mono ?_
  rintro e W18 ⟨rfl, hb⟩
  have hsW18 := Lib.hid hb.size
  replace ho_t4 := ho_t4.below hb
  replace ho_t5 := ho_t5.below hb
  replace ho_t6 := ho_t6.below hb
  replace ho_w0 := ho_w0.below hb
  replace ho_t8 := ho_t8.below hb
  replace ho_t9 := ho_t9.below hb
  replace ho_t10 := ho_t10.below hb
  replace ho_g0 := ho_g0.below hb
  replace ho_t13 := ho_t13.below hb
  replace ho_t15 := ho_t15.below hb
  replace ho_t17 := ho_t17.below hb
  replace hB := Below.step hB hb
  clear hb
  go_wp2_with fail
  have hcW19 := Lib.hid (cntRuleS_le xs0 hn0)
  refine (markRuleS_law t8 xs0 1 W7.heap.size W18 ho_t8 hn0 (by omega) (by have cW19 := hcW19.out; omega)).mono ?_
  rintro e W19 ⟨rfl, hn_t8, hg⟩
  replace ho_t4 := Own.kept ho_t4 hg (ne_lt hk_t4.out hk_t8.out (by have sW1 := hsW1.out; have sW2 := hsW2.out; have sW3 := hsW3.out; have sW4 := hsW4.out; have sW5 := hsW5.out; have sW6 := hsW6.out; have sW7 := hsW7.out; have sW8 := hsW8.out; have sW9 := hsW9.out; have sW10 := hsW10.out; have sW11 := hsW11.out; have sW12 := hsW12.out; have sW13 := hsW13.out; have sW14 := hsW14.out; have sW15 := hsW15.out; have sW16 := hsW16.out; have sW17 := hsW17.out; have sW18 := hsW18.out; omega))
  replace ho_t5 := Own.kept ho_t5 hg (ne_lt hk_t5.out hk_t8.out (by have sW1 := hsW1.out; have sW2 := hsW2.out; have sW3 := hsW3.out; have sW4 := hsW4.out; have sW5 := hsW5.out; have sW6 := hsW6.out; have sW7 := hsW7.out; have sW8 := hsW8.out; have sW9 := hsW9.out; have sW10 := hsW10.out; have sW11 := hsW11.out; have sW12 := hsW12.out; have sW13 := hsW13.out; have sW14 := hsW14.out; have sW15 := hsW15.out; have sW16 := hsW16.out; have sW17 := hsW17.out; have sW18 := hsW18.out; omega))
  replace ho_t6 := Own.kept ho_t6 hg (ne_lt hk_t6.out hk_t8.out (by have sW1 := hsW1.out; have sW2 := hsW2.out; have sW3 := hsW3.out; have sW4 := hsW4.out; have sW5 := hsW5.out; have sW6 := hsW6.out; have sW7 := hsW7.out; have sW8 := hsW8.out; have sW9 := hsW9.out; have sW10 := hsW10.out; have sW11 := hsW11.out; have sW12 := hsW12.out; have sW13 := hsW13.out; have sW14 := hsW14.out; have sW15 := hsW15.out; have sW16 := hsW16.out; have sW17 := hsW17.out; have sW18 := hsW18.out; omega))
  replace ho_w0 := Own.kept ho_w0 hg (ne_lt hk_w0.out hk_t8.out (by have sW1 := hsW1.out; have sW2 := hsW2.out; have sW3 := hsW3.out; have sW4 := hsW4.out; have sW5 := hsW5.out; have sW6 := hsW6.out; have sW7 := hsW7.out; have sW8 := hsW8.out; have sW9 := hsW9.out; have sW10 := hsW10.out; have sW11 := hsW11.out; have sW12 := hsW12.out; have sW13 := hsW13.out; have sW14 := hsW14.out; have sW15 := hsW15.out; have sW16 := hsW16.out; have sW17 := hsW17.out; have sW18 := hsW18.out; omega))
  replace ho_t9 := Own.kept ho_t9 hg (ne_lt hk_t9.out hk_t8.out (by have sW1 := hsW1.out; have sW2 := hsW2.out; have sW3 := hsW3.out; have sW4 := hsW4.out; have sW5 := hsW5.out; have sW6 := hsW6.out; have sW7 := hsW7.out; have sW8 := hsW8.out; have sW9 := hsW9.out; have sW10 := hsW10.out; have sW11 := hsW11.out; have sW12 := hsW12.out; have sW13 := hsW13.out; have sW14 := hsW14.out; have sW15 := hsW15.out; have sW16 := hsW16.out; have sW17 := hsW17.out; have sW18 := hsW18.out; omega))
  replace ho_t10 := Own.kept ho_t10 hg (ne_lt hk_t10.out hk_t8.out (by have sW1 := hsW1.out; have sW2 := hsW2.out; have sW3 := hsW3.out; have sW4 := hsW4.out; have sW5 := hsW5.out; have sW6 := hsW6.out; have sW7 := hsW7.out; have sW8 := hsW8.out; have sW9 := hsW9.out; have sW10 := hsW10.out; have sW11 := hsW11.out; have sW12 := hsW12.out; have sW13 := hsW13.out; have sW14 := hsW14.out; have sW15 := hsW15.out; have sW16 := hsW16.out; have sW17 := hsW17.out; have sW18 := hsW18.out; omega))
  replace ho_g0 := Own.kept ho_g0 hg (ne_lt hk_g0.out hk_t8.out (by have sW1 := hsW1.out; have sW2 := hsW2.out; have sW3 := hsW3.out; have sW4 := hsW4.out; have sW5 := hsW5.out; have sW6 := hsW6.out; have sW7 := hsW7.out; have sW8 := hsW8.out; have sW9 := hsW9.out; have sW10 := hsW10.out; have sW11 := hsW11.out; have sW12 := hsW12.out; have sW13 := hsW13.out; have sW14 := hsW14.out; have sW15 := hsW15.out; have sW16 := hsW16.out; have sW17 := hsW17.out; have sW18 := hsW18.out; omega))
  replace ho_t13 := Own.kept ho_t13 hg (ne_lt hk_t13.out hk_t8.out (by have sW1 := hsW1.out; have sW2 := hsW2.out; have sW3 := hsW3.out; have sW4 := hsW4.out; have sW5 := hsW5.out; have sW6 := hsW6.out; have sW7 := hsW7.out; have sW8 := hsW8.out; have sW9 := hsW9.out; have sW10 := hsW10.out; have sW11 := hsW11.out; have sW12 := hsW12.out; have sW13 := hsW13.out; have sW14 := hsW14.out; have sW15 := hsW15.out; have sW16 := hsW16.out; have sW17 := hsW17.out; have sW18 := hsW18.out; omega))
  replace ho_t15 := Own.kept ho_t15 hg (ne_lt hk_t15.out hk_t8.out (by have sW1 := hsW1.out; have sW2 := hsW2.out; have sW3 := hsW3.out; have sW4 := hsW4.out; have sW5 := hsW5.out; have sW6 := hsW6.out; have sW7 := hsW7.out; have sW8 := hsW8.out; have sW9 := hsW9.out; have sW10 := hsW10.out; have sW11 := hsW11.out; have sW12 := hsW12.out; have sW13 := hsW13.out; have sW14 := hsW14.out; have sW15 := hsW15.out; have sW16 := hsW16.out; have sW17 := hsW17.out; have sW18 := hsW18.out; omega))
  replace ho_t17 := Own.kept ho_t17 hg (ne_lt hk_t17.out hk_t8.out (by have sW1 := hsW1.out; have sW2 := hsW2.out; have sW3 := hsW3.out; have sW4 := hsW4.out; have sW5 := hsW5.out; have sW6 := hsW6.out; have sW7 := hsW7.out; have sW8 := hsW8.out; have sW9 := hsW9.out; have sW10 := hsW10.out; have sW11 := hsW11.out; have sW12 := hsW12.out; have sW13 := hsW13.out; have sW14 := hsW14.out; have sW15 := hsW15.out; have sW16 := hsW16.out; have sW17 := hsW17.out; have sW18 := hsW18.out; omega))
  replace ho_t8 := hn_t8
  have hsW19 := Lib.hid hg.size
  replace hB := hB.grown hg hB.size (fun k hk => by have hkk := hk_t8.out k hk; have sW1 := hsW1.out; have sW2 := hsW2.out; have sW3 := hsW3.out; have sW4 := hsW4.out; have sW5 := hsW5.out; have sW6 := hsW6.out; have sW7 := hsW7.out; have sW8 := hsW8.out; have sW9 := hsW9.out; have sW10 := hsW10.out; have sW11 := hsW11.out; have sW12 := hsW12.out; have sW13 := hsW13.out; have sW14 := hsW14.out; have sW15 := hsW15.out; have sW16 := hsW16.out; have sW17 := hsW17.out; have sW18 := hsW18.out; omega)
  clear hg
  go_wp2_with fail
  have hcW20 := Lib.hid (cntRuleS_le xs1 hn1)
  refine (markRuleS_law t9 xs1 (1 + (cntRuleS xs0 : Nat)) W8.heap.size W19 ho_t9 hn1 (by omega) (by have cW19 := hcW19.out; have cW20 := hcW20.out; omega)).mono ?_
  rintro e W20 ⟨rfl, hn_t9, hg⟩
  replace ho_t4 := Own.kept ho_t4 hg (ne_lt hk_t4.out hk_t9.out (by have sW1 := hsW1.out; have sW2 := hsW2.out; have sW3 := hsW3.out; have sW4 := hsW4.out; have sW5 := hsW5.out; have sW6 := hsW6.out; have sW7 := hsW7.out; have sW8 := hsW8.out; have sW9 := hsW9.out; have sW10 := hsW10.out; have sW11 := hsW11.out; have sW12 := hsW12.out; have sW13 := hsW13.out; have sW14 := hsW14.out; have sW15 := hsW15.out; have sW16 := hsW16.out; have sW17 := hsW17.out; have sW18 := hsW18.out; have sW19 := hsW19.out; omega))
  replace ho_t5 := Own.kept ho_t5 hg (ne_lt hk_t5.out hk_t9.out (by have sW1 := hsW1.out; have sW2 := hsW2.out; have sW3 := hsW3.out; have sW4 := hsW4.out; have sW5 := hsW5.out; have sW6 := hsW6.out; have sW7 := hsW7.out; have sW8 := hsW8.out; have sW9 := hsW9.out; have sW10 := hsW10.out; have sW11 := hsW11.out; have sW12 := hsW12.out; have sW13 := hsW13.out; have sW14 := hsW14.out; have sW15 := hsW15.out; have sW16 := hsW16.out; have sW17 := hsW17.out; have sW18 := hsW18.out; have sW19 := hsW19.out; omega))
  replace ho_t6 := Own.kept ho_t6 hg (ne_lt hk_t6.out hk_t9.out (by have sW1 := hsW1.out; have sW2 := hsW2.out; have sW3 := hsW3.out; have sW4 := hsW4.out; have sW5 := hsW5.out; have sW6 := hsW6.out; have sW7 := hsW7.out; have sW8 := hsW8.out; have sW9 := hsW9.out; have sW10 := hsW10.out; have sW11 := hsW11.out; have sW12 := hsW12.out; have sW13 := hsW13.out; have sW14 := hsW14.out; have sW15 := hsW15.out; have sW16 := hsW16.out; have sW17 := hsW17.out; have sW18 := hsW18.out; have sW19 := hsW19.out; omega))
  replace ho_w0 := Own.kept ho_w0 hg (ne_lt hk_w0.out hk_t9.out (by have sW1 := hsW1.out; have sW2 := hsW2.out; have sW3 := hsW3.out; have sW4 := hsW4.out; have sW5 := hsW5.out; have sW6 := hsW6.out; have sW7 := hsW7.out; have sW8 := hsW8.out; have sW9 := hsW9.out; have sW10 := hsW10.out; have sW11 := hsW11.out; have sW12 := hsW12.out; have sW13 := hsW13.out; have sW14 := hsW14.out; have sW15 := hsW15.out; have sW16 := hsW16.out; have sW17 := hsW17.out; have sW18 := hsW18.out; have sW19 := hsW19.out; omega))
  replace ho_t8 := Own.kept ho_t8 hg (ne_lt hk_t8.out hk_t9.out (by have sW1 := hsW1.out; have sW2 := hsW2.out; have sW3 := hsW3.out; have sW4 := hsW4.out; have sW5 := hsW5.out; have sW6 := hsW6.out; have sW7 := hsW7.out; have sW8 := hsW8.out; have sW9 := hsW9.out; have sW10 := hsW10.out; have sW11 := hsW11.out; have sW12 := hsW12.out; have sW13 := hsW13.out; have sW14 := hsW14.out; have sW15 := hsW15.out; have sW16 := hsW16.out; have sW17 := hsW17.out; have sW18 := hsW18.out; have sW19 := hsW19.out; omega))
  replace ho_t10 := Own.kept ho_t10 hg (ne_lt hk_t10.out hk_t9.out (by have sW1 := hsW1.out; have sW2 := hsW2.out; have sW3 := hsW3.out; have sW4 := hsW4.out; have sW5 := hsW5.out; have sW6 := hsW6.out; have sW7 := hsW7.out; have sW8 := hsW8.out; have sW9 := hsW9.out; have sW10 := hsW10.out; have sW11 := hsW11.out; have sW12 := hsW12.out; have sW13 := hsW13.out; have sW14 := hsW14.out; have sW15 := hsW15.out; have sW16 := hsW16.out; have sW17 := hsW17.out; have sW18 := hsW18.out; have sW19 := hsW19.out; omega))
  replace ho_g0 := Own.kept ho_g0 hg (ne_lt hk_g0.out hk_t9.out (by have sW1 := hsW1.out; have sW2 := hsW2.out; have sW3 := hsW3.out; have sW4 := hsW4.out; have sW5 := hsW5.out; have sW6 := hsW6.out; have sW7 := hsW7.out; have sW8 := hsW8.out; have sW9 := hsW9.out; have sW10 := hsW10.out; have sW11 := hsW11.out; have sW12 := hsW12.out; have sW13 := hsW13.out; have sW14 := hsW14.out; have sW15 := hsW15.out; have sW16 := hsW16.out; have sW17 := hsW17.out; have sW18 := hsW18.out; have sW19 := hsW19.out; omega))
  replace ho_t13 := Own.kept ho_t13 hg (ne_lt hk_t13.out hk_t9.out (by have sW1 := hsW1.out; have sW2 := hsW2.out; have sW3 := hsW3.out; have sW4 := hsW4.out; have sW5 := hsW5.out; have sW6 := hsW6.out; have sW7 := hsW7.out; have sW8 := hsW8.out; have sW9 := hsW9.out; have sW10 := hsW10.out; have sW11 := hsW11.out; have sW12 := hsW12.out; have sW13 := hsW13.out; have sW14 := hsW14.out; have sW15 := hsW15.out; have sW16 := hsW16.out; have sW17 := hsW17.out; have sW18 := hsW18.out; have sW19 := hsW19.out; omega))
  replace ho_t15 := Own.kept ho_t15 hg (ne_lt hk_t15.out hk_t9.out (by have sW1 := hsW1.out; have sW2 := hsW2.out; have sW3 := hsW3.out; have sW4 := hsW4.out; have sW5 := hsW5.out; have sW6 := hsW6.out; have sW7 := hsW7.out; have sW8 := hsW8.out; have sW9 := hsW9.out; have sW10 := hsW10.out; have sW11 := hsW11.out; have sW12 := hsW12.out; have sW13 := hsW13.out; have sW14 := hsW14.out; have sW15 := hsW15.out; have sW16 := hsW16.out; have sW17 := hsW17.out; have sW18 := hsW18.out; have sW19 := hsW19.out; omega))
  replace ho_t17 := Own.kept ho_t17 hg (ne_lt hk_t17.out hk_t9.out (by have sW1 := hsW1.out; have sW2 := hsW2.out; have sW3 := hsW3.out; have sW4 := hsW4.out; have sW5 := hsW5.out; have sW6 := hsW6.out; have sW7 := hsW7.out; have sW8 := hsW8.out; have sW9 := hsW9.out; have sW10 := hsW10.out; have sW11 := hsW11.out; have sW12 := hsW12.out; have sW13 := hsW13.out; have sW14 := hsW14.out; have sW15 := hsW15.out; have sW16 := hsW16.out; have sW17 := hsW17.out; have sW18 := hsW18.out; have sW19 := hsW19.out; omega))
  replace ho_t9 := hn_t9
  have hsW20 := Lib.hid hg.size
  replace hB := hB.grown hg hB.size (fun k hk => by have hkk := hk_t9.out k hk; have sW1 := hsW1.out; have sW2 := hsW2.out; have sW3 := hsW3.out; have sW4 := hsW4.out; have sW5 := hsW5.out; have sW6 := hsW6.out; have sW7 := hsW7.out; have sW8 := hsW8.out; have sW9 := hsW9.out; have sW10 := hsW10.out; have sW11 := hsW11.out; have sW12 := hsW12.out; have sW13 := hsW13.out; have sW14 := hsW14.out; have sW15 := hsW15.out; have sW16 := hsW16.out; have sW17 := hsW17.out; have sW18 := hsW18.out; have sW19 := hsW19.out; omega)
  clear hg
  go_wp2_with fail
  have hcW21 := Lib.hid (cntUsedS_le xs2 hn2)
  refine (markUsedS_law t10 xs2 ((1 + (cntRuleS xs0 : Nat)) + (cntRuleS xs1 : Nat)) W9.heap.size W20 ho_t10 hn2 (by omega) (by have cW19 := hcW19.out; have cW20 := hcW20.out; have cW21 := hcW21.out; omega)).mono ?_
  rintro e W21 ⟨rfl, hn_t10, hg⟩
  replace ho_t4 := Own.kept ho_t4 hg (ne_lt hk_t4.out hk_t10.out (by have sW1 := hsW1.out; have sW2 := hsW2.out; have sW3 := hsW3.out; have sW4 := hsW4.out; have sW5 := hsW5.out; have sW6 := hsW6.out; have sW7 := hsW7.out; have sW8 := hsW8.out; have sW9 := hsW9.out; have sW10 := hsW10.out; have sW11 := hsW11.out; have sW12 := hsW12.out; have sW13 := hsW13.out; have sW14 := hsW14.out; have sW15 := hsW15.out; have sW16 := hsW16.out; have sW17 := hsW17.out; have sW18 := hsW18.out; have sW19 := hsW19.out; have sW20 := hsW20.out; omega))
  replace ho_t5 := Own.kept ho_t5 hg (ne_lt hk_t5.out hk_t10.out (by have sW1 := hsW1.out; have sW2 := hsW2.out; have sW3 := hsW3.out; have sW4 := hsW4.out; have sW5 := hsW5.out; have sW6 := hsW6.out; have sW7 := hsW7.out; have sW8 := hsW8.out; have sW9 := hsW9.out; have sW10 := hsW10.out; have sW11 := hsW11.out; have sW12 := hsW12.out; have sW13 := hsW13.out; have sW14 := hsW14.out; have sW15 := hsW15.out; have sW16 := hsW16.out; have sW17 := hsW17.out; have sW18 := hsW18.out; have sW19 := hsW19.out; have sW20 := hsW20.out; omega))
  replace ho_t6 := Own.kept ho_t6 hg (ne_lt hk_t6.out hk_t10.out (by have sW1 := hsW1.out; have sW2 := hsW2.out; have sW3 := hsW3.out; have sW4 := hsW4.out; have sW5 := hsW5.out; have sW6 := hsW6.out; have sW7 := hsW7.out; have sW8 := hsW8.out; have sW9 := hsW9.out; have sW10 := hsW10.out; have sW11 := hsW11.out; have sW12 := hsW12.out; have sW13 := hsW13.out; have sW14 := hsW14.out; have sW15 := hsW15.out; have sW16 := hsW16.out; have sW17 := hsW17.out; have sW18 := hsW18.out; have sW19 := hsW19.out; have sW20 := hsW20.out; omega))
  replace ho_w0 := Own.kept ho_w0 hg (ne_lt hk_w0.out hk_t10.out (by have sW1 := hsW1.out; have sW2 := hsW2.out; have sW3 := hsW3.out; have sW4 := hsW4.out; have sW5 := hsW5.out; have sW6 := hsW6.out; have sW7 := hsW7.out; have sW8 := hsW8.out; have sW9 := hsW9.out; have sW10 := hsW10.out; have sW11 := hsW11.out; have sW12 := hsW12.out; have sW13 := hsW13.out; have sW14 := hsW14.out; have sW15 := hsW15.out; have sW16 := hsW16.out; have sW17 := hsW17.out; have sW18 := hsW18.out; have sW19 := hsW19.out; have sW20 := hsW20.out; omega))
  replace ho_t8 := Own.kept ho_t8 hg (ne_lt hk_t8.out hk_t10.out (by have sW1 := hsW1.out; have sW2 := hsW2.out; have sW3 := hsW3.out; have sW4 := hsW4.out; have sW5 := hsW5.out; have sW6 := hsW6.out; have sW7 := hsW7.out; have sW8 := hsW8.out; have sW9 := hsW9.out; have sW10 := hsW10.out; have sW11 := hsW11.out; have sW12 := hsW12.out; have sW13 := hsW13.out; have sW14 := hsW14.out; have sW15 := hsW15.out; have sW16 := hsW16.out; have sW17 := hsW17.out; have sW18 := hsW18.out; have sW19 := hsW19.out; have sW20 := hsW20.out; omega))
  replace ho_t9 := Own.kept ho_t9 hg (ne_lt hk_t9.out hk_t10.out (by have sW1 := hsW1.out; have sW2 := hsW2.out; have sW3 := hsW3.out; have sW4 := hsW4.out; have sW5 := hsW5.out; have sW6 := hsW6.out; have sW7 := hsW7.out; have sW8 := hsW8.out; have sW9 := hsW9.out; have sW10 := hsW10.out; have sW11 := hsW11.out; have sW12 := hsW12.out; have sW13 := hsW13.out; have sW14 := hsW14.out; have sW15 := hsW15.out; have sW16 := hsW16.out; have sW17 := hsW17.out; have sW18 := hsW18.out; have sW19 := hsW19.out; have sW20 := hsW20.out; omega))
  replace ho_g0 := Own.kept ho_g0 hg (ne_lt hk_g0.out hk_t10.out (by have sW1 := hsW1.out; have sW2 := hsW2.out; have sW3 := hsW3.out; have sW4 := hsW4.out; have sW5 := hsW5.out; have sW6 := hsW6.out; have sW7 := hsW7.out; have sW8 := hsW8.out; have sW9 := hsW9.out; have sW10 := hsW10.out; have sW11 := hsW11.out; have sW12 := hsW12.out; have sW13 := hsW13.out; have sW14 := hsW14.out; have sW15 := hsW15.out; have sW16 := hsW16.out; have sW17 := hsW17.out; have sW18 := hsW18.out; have sW19 := hsW19.out; have sW20 := hsW20.out; omega))
  replace ho_t13 := Own.kept ho_t13 hg (ne_lt hk_t13.out hk_t10.out (by have sW1 := hsW1.out; have sW2 := hsW2.out; have sW3 := hsW3.out; have sW4 := hsW4.out; have sW5 := hsW5.out; have sW6 := hsW6.out; have sW7 := hsW7.out; have sW8 := hsW8.out; have sW9 := hsW9.out; have sW10 := hsW10.out; have sW11 := hsW11.out; have sW12 := hsW12.out; have sW13 := hsW13.out; have sW14 := hsW14.out; have sW15 := hsW15.out; have sW16 := hsW16.out; have sW17 := hsW17.out; have sW18 := hsW18.out; have sW19 := hsW19.out; have sW20 := hsW20.out; omega))
  replace ho_t15 := Own.kept ho_t15 hg (ne_lt hk_t15.out hk_t10.out (by have sW1 := hsW1.out; have sW2 := hsW2.out; have sW3 := hsW3.out; have sW4 := hsW4.out; have sW5 := hsW5.out; have sW6 := hsW6.out; have sW7 := hsW7.out; have sW8 := hsW8.out; have sW9 := hsW9.out; have sW10 := hsW10.out; have sW11 := hsW11.out; have sW12 := hsW12.out; have sW13 := hsW13.out; have sW14 := hsW14.out; have sW15 := hsW15.out; have sW16 := hsW16.out; have sW17 := hsW17.out; have sW18 := hsW18.out; have sW19 := hsW19.out; have sW20 := hsW20.out; omega))
  replace ho_t17 := Own.kept ho_t17 hg (ne_lt hk_t17.out hk_t10.out (by have sW1 := hsW1.out; have sW2 := hsW2.out; have sW3 := hsW3.out; have sW4 := hsW4.out; have sW5 := hsW5.out; have sW6 := hsW6.out; have sW7 := hsW7.out; have sW8 := hsW8.out; have sW9 := hsW9.out; have sW10 := hsW10.out; have sW11 := hsW11.out; have sW12 := hsW12.out; have sW13 := hsW13.out; have sW14 := hsW14.out; have sW15 := hsW15.out; have sW16 := hsW16.out; have sW17 := hsW17.out; have sW18 := hsW18.out; have sW19 := hsW19.out; have sW20 := hsW20.out; omega))
  replace ho_t10 := hn_t10
  have hsW21 := Lib.hid hg.size
  replace hB := hB.grown hg hB.size (fun k hk => by have hkk := hk_t10.out k hk; have sW1 := hsW1.out; have sW2 := hsW2.out; have sW3 := hsW3.out; have sW4 := hsW4.out; have sW5 := hsW5.out; have sW6 := hsW6.out; have sW7 := hsW7.out; have sW8 := hsW8.out; have sW9 := hsW9.out; have sW10 := hsW10.out; have sW11 := hsW11.out; have sW12 := hsW12.out; have sW13 := hsW13.out; have sW14 := hsW14.out; have sW15 := hsW15.out; have sW16 := hsW16.out; have sW17 := hsW17.out; have sW18 := hsW18.out; have sW19 := hsW19.out; have sW20 := hsW20.out; omega)
  clear hg
  go_wp2_with fail
  refine (eqStringS_same v_g0 v_w0 ((ChangedParts_r xs0 xs1 xs2).1) W21 (Sl.of_own ho_g0 (big_of (ChangedParts_len xs0 xs1 xs2))) (Sl.of_own ho_w0 (big_of (ChangedParts_len xs0 xs1 xs2)))).mono ?_
  rintro e W22 ⟨rfl, hb⟩
  have hsW22 := Lib.hid hb.size
  replace ho_t4 := ho_t4.below hb
  replace ho_t5 := ho_t5.below hb
  replace ho_t6 := ho_t6.below hb
  replace ho_w0 := ho_w0.below hb
  replace ho_t8 := ho_t8.below hb
  replace ho_t9 := ho_t9.below hb
  replace ho_t10 := ho_t10.below hb
  replace ho_g0 := ho_g0.below hb
  replace ho_t13 := ho_t13.below hb
  replace ho_t15 := ho_t15.below hb
  replace ho_t17 := ho_t17.below hb
  replace hB := Below.step hB hb
  clear hb
  go_wp2_with fail
  have hcW23 := Lib.hid (cntStringS_le ((ChangedParts_r xs0 xs1 xs2).1) (ChangedParts_len xs0 xs1 xs2))
  refine (markStringS_law v_g0 ((ChangedParts_r xs0 xs1 xs2).1) 1 W10.heap.size W22 ho_g0 (ChangedParts_len xs0 xs1 xs2) (by omega) (by have cW19 := hcW19.out; have cW20 := hcW20.out; have cW21 := hcW21.out; have cW23 := hcW23.out; omega)).mono ?_
  rintro e W23 ⟨rfl, hn_g0, hg⟩
  replace ho_t4 := Own.kept ho_t4 hg (ne_lt hk_t4.out hk_g0.out (by have sW1 := hsW1.out; have sW2 := hsW2.out; have sW3 := hsW3.out; have sW4 := hsW4.out; have sW5 := hsW5.out; have sW6 := hsW6.out; have sW7 := hsW7.out; have sW8 := hsW8.out; have sW9 := hsW9.out; have sW10 := hsW10.out; have sW11 := hsW11.out; have sW12 := hsW12.out; have sW13 := hsW13.out; have sW14 := hsW14.out; have sW15 := hsW15.out; have sW16 := hsW16.out; have sW17 := hsW17.out; have sW18 := hsW18.out; have sW19 := hsW19.out; have sW20 := hsW20.out; have sW21 := hsW21.out; have sW22 := hsW22.out; omega))
  replace ho_t5 := Own.kept ho_t5 hg (ne_lt hk_t5.out hk_g0.out (by have sW1 := hsW1.out; have sW2 := hsW2.out; have sW3 := hsW3.out; have sW4 := hsW4.out; have sW5 := hsW5.out; have sW6 := hsW6.out; have sW7 := hsW7.out; have sW8 := hsW8.out; have sW9 := hsW9.out; have sW10 := hsW10.out; have sW11 := hsW11.out; have sW12 := hsW12.out; have sW13 := hsW13.out; have sW14 := hsW14.out; have sW15 := hsW15.out; have sW16 := hsW16.out; have sW17 := hsW17.out; have sW18 := hsW18.out; have sW19 := hsW19.out; have sW20 := hsW20.out; have sW21 := hsW21.out; have sW22 := hsW22.out; omega))
  replace ho_t6 := Own.kept ho_t6 hg (ne_lt hk_t6.out hk_g0.out (by have sW1 := hsW1.out; have sW2 := hsW2.out; have sW3 := hsW3.out; have sW4 := hsW4.out; have sW5 := hsW5.out; have sW6 := hsW6.out; have sW7 := hsW7.out; have sW8 := hsW8.out; have sW9 := hsW9.out; have sW10 := hsW10.out; have sW11 := hsW11.out; have sW12 := hsW12.out; have sW13 := hsW13.out; have sW14 := hsW14.out; have sW15 := hsW15.out; have sW16 := hsW16.out; have sW17 := hsW17.out; have sW18 := hsW18.out; have sW19 := hsW19.out; have sW20 := hsW20.out; have sW21 := hsW21.out; have sW22 := hsW22.out; omega))
  replace ho_w0 := Own.kept ho_w0 hg (ne_lt hk_w0.out hk_g0.out (by have sW1 := hsW1.out; have sW2 := hsW2.out; have sW3 := hsW3.out; have sW4 := hsW4.out; have sW5 := hsW5.out; have sW6 := hsW6.out; have sW7 := hsW7.out; have sW8 := hsW8.out; have sW9 := hsW9.out; have sW10 := hsW10.out; have sW11 := hsW11.out; have sW12 := hsW12.out; have sW13 := hsW13.out; have sW14 := hsW14.out; have sW15 := hsW15.out; have sW16 := hsW16.out; have sW17 := hsW17.out; have sW18 := hsW18.out; have sW19 := hsW19.out; have sW20 := hsW20.out; have sW21 := hsW21.out; have sW22 := hsW22.out; omega))
  replace ho_t8 := Own.kept ho_t8 hg (ne_lt hk_t8.out hk_g0.out (by have sW1 := hsW1.out; have sW2 := hsW2.out; have sW3 := hsW3.out; have sW4 := hsW4.out; have sW5 := hsW5.out; have sW6 := hsW6.out; have sW7 := hsW7.out; have sW8 := hsW8.out; have sW9 := hsW9.out; have sW10 := hsW10.out; have sW11 := hsW11.out; have sW12 := hsW12.out; have sW13 := hsW13.out; have sW14 := hsW14.out; have sW15 := hsW15.out; have sW16 := hsW16.out; have sW17 := hsW17.out; have sW18 := hsW18.out; have sW19 := hsW19.out; have sW20 := hsW20.out; have sW21 := hsW21.out; have sW22 := hsW22.out; omega))
  replace ho_t9 := Own.kept ho_t9 hg (ne_lt hk_t9.out hk_g0.out (by have sW1 := hsW1.out; have sW2 := hsW2.out; have sW3 := hsW3.out; have sW4 := hsW4.out; have sW5 := hsW5.out; have sW6 := hsW6.out; have sW7 := hsW7.out; have sW8 := hsW8.out; have sW9 := hsW9.out; have sW10 := hsW10.out; have sW11 := hsW11.out; have sW12 := hsW12.out; have sW13 := hsW13.out; have sW14 := hsW14.out; have sW15 := hsW15.out; have sW16 := hsW16.out; have sW17 := hsW17.out; have sW18 := hsW18.out; have sW19 := hsW19.out; have sW20 := hsW20.out; have sW21 := hsW21.out; have sW22 := hsW22.out; omega))
  replace ho_t10 := Own.kept ho_t10 hg (ne_lt hk_t10.out hk_g0.out (by have sW1 := hsW1.out; have sW2 := hsW2.out; have sW3 := hsW3.out; have sW4 := hsW4.out; have sW5 := hsW5.out; have sW6 := hsW6.out; have sW7 := hsW7.out; have sW8 := hsW8.out; have sW9 := hsW9.out; have sW10 := hsW10.out; have sW11 := hsW11.out; have sW12 := hsW12.out; have sW13 := hsW13.out; have sW14 := hsW14.out; have sW15 := hsW15.out; have sW16 := hsW16.out; have sW17 := hsW17.out; have sW18 := hsW18.out; have sW19 := hsW19.out; have sW20 := hsW20.out; have sW21 := hsW21.out; have sW22 := hsW22.out; omega))
  replace ho_t13 := Own.kept ho_t13 hg (ne_lt hk_t13.out hk_g0.out (by have sW1 := hsW1.out; have sW2 := hsW2.out; have sW3 := hsW3.out; have sW4 := hsW4.out; have sW5 := hsW5.out; have sW6 := hsW6.out; have sW7 := hsW7.out; have sW8 := hsW8.out; have sW9 := hsW9.out; have sW10 := hsW10.out; have sW11 := hsW11.out; have sW12 := hsW12.out; have sW13 := hsW13.out; have sW14 := hsW14.out; have sW15 := hsW15.out; have sW16 := hsW16.out; have sW17 := hsW17.out; have sW18 := hsW18.out; have sW19 := hsW19.out; have sW20 := hsW20.out; have sW21 := hsW21.out; have sW22 := hsW22.out; omega))
  replace ho_t15 := Own.kept ho_t15 hg (ne_lt hk_t15.out hk_g0.out (by have sW1 := hsW1.out; have sW2 := hsW2.out; have sW3 := hsW3.out; have sW4 := hsW4.out; have sW5 := hsW5.out; have sW6 := hsW6.out; have sW7 := hsW7.out; have sW8 := hsW8.out; have sW9 := hsW9.out; have sW10 := hsW10.out; have sW11 := hsW11.out; have sW12 := hsW12.out; have sW13 := hsW13.out; have sW14 := hsW14.out; have sW15 := hsW15.out; have sW16 := hsW16.out; have sW17 := hsW17.out; have sW18 := hsW18.out; have sW19 := hsW19.out; have sW20 := hsW20.out; have sW21 := hsW21.out; have sW22 := hsW22.out; omega))
  replace ho_t17 := Own.kept ho_t17 hg (ne_lt hk_t17.out hk_g0.out (by have sW1 := hsW1.out; have sW2 := hsW2.out; have sW3 := hsW3.out; have sW4 := hsW4.out; have sW5 := hsW5.out; have sW6 := hsW6.out; have sW7 := hsW7.out; have sW8 := hsW8.out; have sW9 := hsW9.out; have sW10 := hsW10.out; have sW11 := hsW11.out; have sW12 := hsW12.out; have sW13 := hsW13.out; have sW14 := hsW14.out; have sW15 := hsW15.out; have sW16 := hsW16.out; have sW17 := hsW17.out; have sW18 := hsW18.out; have sW19 := hsW19.out; have sW20 := hsW20.out; have sW21 := hsW21.out; have sW22 := hsW22.out; omega))
  replace ho_g0 := hn_g0
  have hsW23 := Lib.hid hg.size
  replace hB := hB.grown hg hB.size (fun k hk => by have hkk := hk_g0.out k hk; have sW1 := hsW1.out; have sW2 := hsW2.out; have sW3 := hsW3.out; have sW4 := hsW4.out; have sW5 := hsW5.out; have sW6 := hsW6.out; have sW7 := hsW7.out; have sW8 := hsW8.out; have sW9 := hsW9.out; have sW10 := hsW10.out; have sW11 := hsW11.out; have sW12 := hsW12.out; have sW13 := hsW13.out; have sW14 := hsW14.out; have sW15 := hsW15.out; have sW16 := hsW16.out; have sW17 := hsW17.out; have sW18 := hsW18.out; have sW19 := hsW19.out; have sW20 := hsW20.out; have sW21 := hsW21.out; have sW22 := hsW22.out; omega)
  clear hg
  go_wp2_with fail
  refine (heldStringS_law v_g0 ((ChangedParts_r xs0 xs1 xs2).1) 1 W23 (Sl.of_own ho_g0 (by rw [mkStringS_len]; exact (big_of (ChangedParts_len xs0 xs1 xs2)))) (ChangedParts_len xs0 xs1 xs2) (by omega) (by omega)).mono ?_
  rintro e W24 ⟨rfl, hb⟩
  have hsW24 := Lib.hid hb.size
  replace ho_t4 := ho_t4.below hb
  replace ho_t5 := ho_t5.below hb
  replace ho_t6 := ho_t6.below hb
  replace ho_w0 := ho_w0.below hb
  replace ho_t8 := ho_t8.below hb
  replace ho_t9 := ho_t9.below hb
  replace ho_t10 := ho_t10.below hb
  replace ho_g0 := ho_g0.below hb
  replace ho_t13 := ho_t13.below hb
  replace ho_t15 := ho_t15.below hb
  replace ho_t17 := ho_t17.below hb
  replace hB := Below.step hB hb
  clear hb
  go_wp2_with fail
  refine (toRuleS_any _ xs0 W24 (hI0.below hB) hn0).mono ?_
  rintro e W25 ⟨t25, rfl, ho_t25, hb⟩
  have hk_t25 := Lib.hid (World.ownsRow.lt ho_t25)
  have hsW25 := Lib.hid hb.size
  replace ho_t4 := ho_t4.below hb
  replace ho_t5 := ho_t5.below hb
  replace ho_t6 := ho_t6.below hb
  replace ho_w0 := ho_w0.below hb
  replace ho_t8 := ho_t8.below hb
  replace ho_t9 := ho_t9.below hb
  replace ho_t10 := ho_t10.below hb
  replace ho_g0 := ho_g0.below hb
  replace ho_t13 := ho_t13.below hb
  replace ho_t15 := ho_t15.below hb
  replace ho_t17 := ho_t17.below hb
  replace hB := Below.step hB hb
  clear hb
  go_wp2_with fail
  refine (toRuleS_any _ xs1 W25 (hI1.below hB) hn1).mono ?_
  rintro e W26 ⟨t26, rfl, ho_t26, hb⟩
  have hk_t26 := Lib.hid (World.ownsRow.lt ho_t26)
  have hsW26 := Lib.hid hb.size
  replace ho_t4 := ho_t4.below hb
  replace ho_t5 := ho_t5.below hb
  replace ho_t6 := ho_t6.below hb
  replace ho_w0 := ho_w0.below hb
  replace ho_t8 := ho_t8.below hb
  replace ho_t9 := ho_t9.below hb
  replace ho_t10 := ho_t10.below hb
  replace ho_g0 := ho_g0.below hb
  replace ho_t13 := ho_t13.below hb
  replace ho_t15 := ho_t15.below hb
  replace ho_t17 := ho_t17.below hb
  replace ho_t25 := ho_t25.below hb
  replace hB := Below.step hB hb
  clear hb
  go_wp2_with fail
  refine (toUsedS_any _ xs2 W26 (hI2.below hB) hn2).mono ?_
  rintro e W27 ⟨t27, rfl, ho_t27, hb⟩
  have hk_t27 := Lib.hid (World.ownsRow.lt ho_t27)
  have hsW27 := Lib.hid hb.size
  replace ho_t4 := ho_t4.below hb
  replace ho_t5 := ho_t5.below hb
  replace ho_t6 := ho_t6.below hb
  replace ho_w0 := ho_w0.below hb
  replace ho_t8 := ho_t8.below hb
  replace ho_t9 := ho_t9.below hb
  replace ho_t10 := ho_t10.below hb
  replace ho_g0 := ho_g0.below hb
  replace ho_t13 := ho_t13.below hb
  replace ho_t15 := ho_t15.below hb
  replace ho_t17 := ho_t17.below hb
  replace ho_t25 := ho_t25.below hb
  replace ho_t26 := ho_t26.below hb
  replace hB := Below.step hB hb
  clear hb
  go_wp2_with fail
  refine (iChangedParts_law t25 xs0 t26 xs1 t27 xs2 W27 (Sl.of_own ho_t25 (big_of hn0)) hn0 (Sl.of_own ho_t26 (big_of hn1)) hn1 (Sl.of_own ho_t27 (big_of hn2)) hn2 q2).mono ?_
  rintro e W28 ⟨v_h0, rfl, ho_h0, hb⟩
  have hk_h0 := Lib.hid (World.ownsRow.lt ho_h0)
  have hsW28 := Lib.hid hb.size
  replace ho_t4 := ho_t4.below hb
  replace ho_t5 := ho_t5.below hb
  replace ho_t6 := ho_t6.below hb
  replace ho_w0 := ho_w0.below hb
  replace ho_t8 := ho_t8.below hb
  replace ho_t9 := ho_t9.below hb
  replace ho_t10 := ho_t10.below hb
  replace ho_g0 := ho_g0.below hb
  replace ho_t13 := ho_t13.below hb
  replace ho_t15 := ho_t15.below hb
  replace ho_t17 := ho_t17.below hb
  replace ho_t25 := ho_t25.below hb
  replace ho_t26 := ho_t26.below hb
  replace ho_t27 := ho_t27.below hb
  replace hB := Below.step hB hb
  clear hb
  go_wp2_with fail
  refine (eqStringS_same v_h0 v_w0 ((ChangedParts_r xs0 xs1 xs2).1) W28 (Sl.of_own ho_h0 (big_of (ChangedParts_len xs0 xs1 xs2))) (Sl.of_own ho_w0 (big_of (ChangedParts_len xs0 xs1 xs2)))).mono ?_
  rintro e W29 ⟨rfl, hb⟩
  have hsW29 := Lib.hid hb.size
  replace ho_t4 := ho_t4.below hb
  replace ho_t5 := ho_t5.below hb
  replace ho_t6 := ho_t6.below hb
  replace ho_w0 := ho_w0.below hb
  replace ho_t8 := ho_t8.below hb
  replace ho_t9 := ho_t9.below hb
  replace ho_t10 := ho_t10.below hb
  replace ho_g0 := ho_g0.below hb
  replace ho_t13 := ho_t13.below hb
  replace ho_t15 := ho_t15.below hb
  replace ho_t17 := ho_t17.below hb
  replace ho_t25 := ho_t25.below hb
  replace ho_t26 := ho_t26.below hb
  replace ho_t27 := ho_t27.below hb
  replace ho_h0 := ho_h0.below hb
  replace hB := Below.step hB hb
  clear hb
  go_wp2_with fail
  refine (heldStringS_law v_g0 ((ChangedParts_r xs0 xs1 xs2).1) 1 W29 (Sl.of_own ho_g0 (by rw [mkStringS_len]; exact (big_of (ChangedParts_len xs0 xs1 xs2)))) (ChangedParts_len xs0 xs1 xs2) (by omega) (by omega)).mono ?_
  rintro e W30 ⟨rfl, hb⟩
  have hsW30 := Lib.hid hb.size
  replace ho_t4 := ho_t4.below hb
  replace ho_t5 := ho_t5.below hb
  replace ho_t6 := ho_t6.below hb
  replace ho_w0 := ho_w0.below hb
  replace ho_t8 := ho_t8.below hb
  replace ho_t9 := ho_t9.below hb
  replace ho_t10 := ho_t10.below hb
  replace ho_g0 := ho_g0.below hb
  replace ho_t13 := ho_t13.below hb
  replace ho_t15 := ho_t15.below hb
  replace ho_t17 := ho_t17.below hb
  replace ho_t25 := ho_t25.below hb
  replace ho_t26 := ho_t26.below hb
  replace ho_t27 := ho_t27.below hb
  replace ho_h0 := ho_h0.below hb
  replace hB := Below.step hB hb
  clear hb
  go_wp2_with fail
  go_ret
  exact ⟨rfl, hB⟩

namespace LFnExactChangedParts
open Go.ChangeShapes Go.WideShapes Go.ChangeAt Go.RowKit
open Go.ChangeMaps (open_string shut_string)
set_option linter.unusedVariables false
set_option maxRecDepth 100000 in
theorem lifted (os : Os) (started : os.Started) (H : Type) (enc : TypeId × Value → H) :
    ReturnsInHanded {} Try.checked os 12 .any (Rows.fnExactChangedPartsSpec.pre6 enc Try.prog Try.f12 Rows.fnExactChangedPartsRow.domain false) (Rows.fnExactChangedPartsSpec.post enc Try.prog Try.f12 false true false false) := by
  refine returnsInHanded_of_change (C := Try.checked) own started (by kernel_rfl) Try.func12
    (ChangeSpec.witness6 (enc := enc) (C := Try.checked) false ⟨#[], #[.slice none 0 0, .slice none 0 0, .slice none 0 0], []⟩ 8 (by kernel_rfl) (by kernel_rfl) (by kernel_rfl) (by kernel_rfl)) ?_
  intro W base args ds gs before hval0 hW hcnd _
  have hval : ∀ (j : Nat) t v, Try.f12.params[j]? = some t → args[j]? = some v → Value.okWide Try.prog W .any base t v := hval0
  have hW' := hW
  obtain ⟨p, q, hA0, hV, rfl, hfz, hnd⟩ := hW
  have hA : DataW.TrodAll enc Try.prog W 0 (fun _ => true) true Try.f12.params.toList args.toList ds p := hA0
  rw [Try.params12] at hA hval
  obtain ⟨v0, vs0, d0, ds0, p0, q0, hargs, rfl, rfl, h0, r0⟩ := trodAll_cons hA
  obtain ⟨v1, vs1, d1, ds1, p1, q1, rfl, rfl, rfl, h1, r1⟩ := trodAll_cons r0
  obtain ⟨v2, vs2, d2, ds2, p2, q2, rfl, rfl, rfl, h2, r2⟩ := trodAll_cons r1
  obtain ⟨rfl, rfl, rfl⟩ := trodAll_nil r2
  obtain rfl : args = #[v0, v1, v2] := by cases args; simp_all
  obtain ⟨rfl, rfl⟩ := trodVars_none hV
  have k0 := h0
  have lt0 : ∀ x ∈ p0, x.block < W.heap.size := by obtain ⟨m, hm⟩ := k0; exact DataW.trod_lt m _ _ _ hm
  obtain ⟨a0, len0, cap0, rfl⟩ := okWide_slice Try.underlying22 (hval 0 22 v0 rfl rfl)
  obtain ⟨xs0, w0, u0⟩ : ∃ xs : List Rule, RowS eRule W a0 len0 cap0 xs ∧ ∀ x ∈ xs, okRule x := by
    obtain ⟨fuel, hf⟩ := h0
    exact openRuleS (by simpa [Value.cells] using hf)
  have k1 := h1
  have lt1 : ∀ x ∈ p1, x.block < W.heap.size := by obtain ⟨m, hm⟩ := k1; exact DataW.trod_lt m _ _ _ hm
  obtain ⟨a1, len1, cap1, rfl⟩ := okWide_slice Try.underlying22 (hval 1 22 v1 rfl rfl)
  obtain ⟨xs1, w1, u1⟩ : ∃ xs : List Rule, RowS eRule W a1 len1 cap1 xs ∧ ∀ x ∈ xs, okRule x := by
    obtain ⟨fuel, hf⟩ := h1
    exact openRuleS (by simpa [Value.cells] using hf)
  have k2 := h2
  have lt2 : ∀ x ∈ p2, x.block < W.heap.size := by obtain ⟨m, hm⟩ := k2; exact DataW.trod_lt m _ _ _ hm
  obtain ⟨a2, len2, cap2, rfl⟩ := okWide_slice Try.underlying55 (hval 2 55 v2 rfl rfl)
  obtain ⟨xs2, w2, u2⟩ : ∃ xs : List Used, RowS eUsed W a2 len2 cap2 xs ∧ ∀ x ∈ xs, okUsed x := by
    obtain ⟨fuel, hf⟩ := h2
    exact openUsedS (by simpa [Value.cells] using hf)
  clear hA0 hval0
  refine (walk_FnExactChangedParts a0 len0 cap0 xs0 a1 len1 cap1 xs1 a2 len2 cap2 xs2 W w0 u0 w1 u1 w2 u2).mono fun e W' ⟨he, bel⟩ => ?_
  subst he
  exact ⟨_, rfl, _, _, _, [], _, [], hW', trodAll_mk1 (shut_bool Try.underlying4 _), (trodAll_cons_mk (Below.trod laidOut (by kernel_rfl) (of_decide_eq_true (by kernel_rfl)) k0 bel lt0) (trodAll_cons_mk (Below.trod laidOut (by kernel_rfl) (of_decide_eq_true (by kernel_rfl)) k1 bel lt1) (trodAll_cons_mk (Below.trod laidOut (by kernel_rfl) (of_decide_eq_true (by kernel_rfl)) k2 bel lt2) trodAll_mk0))), rfl, bel.frame _, fun h => by cases h⟩
theorem over : Rows.fnExactChangedPartsRow.holds Try.pinned (OpenSpec.ofChange Rows.fnExactChangedPartsSpec) :=
  OpenClaim.holds_of_wide 12 Try.f12 rfl rfl rfl rfl rfl rfl rfl ⟨rfl, rfl, rfl, rfl, rfl⟩ rfl rfl rfl rfl rfl (by kernel_rfl) Try.func12 (by kernel_rfl)
    (of_decide_eq_true (by kernel_rfl)) (by unfold Func.isWrapper; first | (rw [if_pos (by decide +kernel)]; kernel_rfl) | (rw [if_neg (by decide +kernel)]; exact ⟨rfl, rfl⟩))
    (fun os started H enc _ => lifted os started H enc)
end LFnExactChangedParts
/-- The statement. -/
theorem fnExactChangedParts_holds : Rows.FnExactChangedPartsSaid := LFnExactChangedParts.over
#print axioms fnExactChangedParts_holds

end Go.Proofs.Ytncggcbpbejmcaa
