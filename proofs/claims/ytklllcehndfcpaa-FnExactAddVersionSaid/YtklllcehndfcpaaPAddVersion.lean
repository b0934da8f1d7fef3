/- For every list of versions, every number and every list of lines the program's AddVersion and the reference's AddVersion answer the same, the arguments are left as they were, and the answer is the caller's own. No condition. -/
import Derived.Test.YtklllcehndfcpaaAddV
import Derived.Test.YtklllcehndfcpaaSpans
import Derived.Test.YtklllcehndfcpaaLift
namespace Go.Proofs.Ytklllcehndfcpaa
open Go.RowKit
set_option maxHeartbeats 4000000 in
set_option maxRecDepth 20000 in
theorem walk_FnExactAddVersion (a0 : Option Addr) (len0 cap0 : Nat) (xs0 : List Ver) (a1 : Int) (a2 : Option Addr) (len2 cap2 : Nat) (xs2 : List Line) (w : World) (p0 : RowV w a0 len0 cap0 xs0) (q0 : ∀ x ∈ xs0, okVer x) (p1 : (Lit.int .i64 a1).wf = true) (p2 : RowS eLine w a2 len2 cap2 xs2) (q2 : ∀ x ∈ xs2, okLine x) :
    Calls Try.prog 8 #[.slice a0 len0 cap0, .int .i64 a1, .slice a2 len2 cap2] w fun e w' => e = .returned (.bool true) ∧ Below w.heap.size w w' := by
  have HB : Hid (Below w.heap.size w w) := Lib.hid (Below.refl _ _)
  have HP0 := Lib.hid p0
  have HQ0 := Lib.hid q0
  have hmax0 := p0.max
  have hlen0 := p0.len
  clear p0 q0
  have HP2 := Lib.hid p2
  have HQ2 := Lib.hid q2
  have hmax2 := p2.max
  have hlen2 := p2.len
  clear p2 q2
  go_enter Try.func8, Try.ntmps8
  go_wp2_with fail
  refine (szVersionS_any a0 len0 cap0 xs0 1048576 w (HP0.out.below HB.out) (by omega) (by omega)).mono ?_
  rintro e W1 ⟨r0, rfl, hr0, hb⟩
  have hsW1 : Hid (w.heap.size ≤ W1.heap.size) := Lib.hid hb.size
  replace HB := Lib.hid (Below.step HB.out hb)
  clear hb
  by_cases hneg0 : r0 < 0
  · go_wp2_with fail
    go_ret
    exact ⟨rfl, HB.out⟩
  have hr00 : 0 ≤ r0 ∧ r0 + totV xs0 ≤ 1048576 := hr0.resolve_left (by omega)
  obtain ⟨hr0a, hr0b⟩ := hr00
  have hn0 : totV xs0 ≤ 1048576 := by omega
  have HI0 := Lib.hid (HP0.out.rd hn0)
  clear hr0
  go_wp2_with fail
  by_cases hl2 : (len2 : Int) ≤ r0
  rotate_left
  · refine (szLineS_big a2 len2 cap2 r0 W1 (by omega) (by omega) hmax2 (by omega)).mono ?_
    rintro e w' ⟨rfl, rfl⟩
    go_wp2_with fail
    go_ret
    exact ⟨rfl, HB.out⟩
  have HI2 := Lib.hid (HP2.out.sl (by omega))
  have hn2 : xs2.length ≤ 1048576 := by omega
  refine (szLineS_ok _ xs2 r0 W1 (by omega) (by omega) (HI2.out.below HB.out) HQ2.out).mono ?_
  rintro e W2 ⟨rfl, hb⟩
  have hsW2 : Hid (W1.heap.size ≤ W2.heap.size) := Lib.hid hb.size
  replace HB := Lib.hid (Below.step HB.out hb)
  clear hb
  by_cases ht2 : ((totLine xs2 : Nat) : Int) ≤ r0
  rotate_left
  · rw [szr_neg ht2]
    go_wp2_with fail
    go_ret
    exact ⟨rfl, HB.out⟩
  rw [szr_pos ht2]
  go_wp2_with fail
  refine (toVersionS_any _ xs0 W2 (HI0.out.below HB.out) hn0).mono ?_
  rintro e W3 ⟨t3, rfl, ho, hb⟩
  have ho_t3 := Lib.hid ho
  clear ho
  have hsW3 : Hid (W2.heap.size ≤ W3.heap.size) := Lib.hid hb.size
  replace HB := Lib.hid (Below.step HB.out hb)
  clear hb
  go_wp2_with fail
  refine (toLineS_any _ xs2 W3 (HI2.out.below HB.out) hn2).mono ?_
  rintro e W4 ⟨t4, rfl, ho, hb⟩
  have ho_t4 := Lib.hid (OwnB.of ho)
  clear ho
  have hsW4 : Hid (W3.heap.size ≤ W4.heap.size) := Lib.hid hb.size
  replace ho_t3 := Lib.hid (ho_t3.out.below hb)
  replace HB := Lib.hid (Below.step HB.out hb)
  clear hb
  go_wp2_with fail
  refine (sAddVersion_law t3 xs0 a1 t4 xs2 W4 (OwnV.rd ho_t3.out (tot_big hn0)) hn0 HQ0.out p1 (OwnB.sl ho_t4.out hn2) hn2 HQ2.out).mono ?_
  rintro e W5 ⟨v_w0, rfl, how0, hb⟩
  have ho_w0 := Lib.hid how0
  clear how0
  have hsW5 : Hid (W4.heap.size ≤ W5.heap.size) := Lib.hid hb.size
  replace ho_t3 := Lib.hid (ho_t3.out.below hb)
  replace ho_t4 := Lib.hid (ho_t4.out.below hb)
  replace HB := Lib.hid (Below.step HB.out hb)
  clear hb
  go_wp2_with fail
  refine (toVersionS_any _ xs0 W5 (HI0.out.below HB.out) hn0).mono ?_
  rintro e W6 ⟨t6, rfl, ho, hb⟩
  have ho_t6 := Lib.hid ho
  clear ho
  have hsW6 : Hid (W5.heap.size ≤ W6.heap.size) := Lib.hid hb.size
  replace ho_t3 := Lib.hid (ho_t3.out.below hb)
  replace ho_t4 := Lib.hid (ho_t4.out.below hb)
  replace ho_w0 := Lib.hid (ho_w0.out.below hb)
  replace HB := Lib.hid (Below.step HB.out hb)
  clear hb
  go_wp2_with fail
  refine (toLineS_any _ xs2 W6 (HI2.out.below HB.out) hn2).mono ?_
  rintro e W7 ⟨t7, rfl, ho, hb⟩
  have ho_t7 := Lib.hid (OwnB.of ho)
  clear ho
  have hsW7 : Hid (W6.heap.size ≤ W7.heap.size) := Lib.hid hb.size
  replace ho_t3 := Lib.hid (ho_t3.out.below hb)
  replace ho_t4 := Lib.hid (ho_t4.out.below hb)
  replace ho_w0 := Lib.hid (ho_w0.out.below hb)
  replace ho_t6 := Lib.hid (ho_t6.out.below hb)
  replace HB := Lib.hid (Below.step HB.out hb)
  clear hb
  go_wp2_with fail
  refine (iAddVersion_law t6 xs0 a1 t7 xs2 W7 (OwnV.rd ho_t6.out (tot_big hn0)) hn0 HQ0.out p1 (OwnB.sl ho_t7.out hn2) hn2 HQ2.out).mono ?_
  rintro e W8 ⟨v_g0, rfl, hog0, hb⟩
  have ho_g0 := Lib.hid hog0
  clear hog0
  have hsW8 : Hid (W7.heap.size ≤ W8.heap.size) := Lib.hid hb.size
  replace ho_t3 := Lib.hid (ho_t3.out.below hb)
  replace ho_t4 := Lib.hid (ho_t4.out.below hb)
  replace ho_w0 := Lib.hid (ho_w0.out.below hb)
  replace ho_t6 := Lib.hid (ho_t6.out.below hb)
  replace ho_t7 := Lib.hid (ho_t7.out.below hb)
  replace HB := Lib.hid (Below.step HB.out hb)
  clear hb
  go_wp2_with fail
  refine (eqVersionS_same v_g0 v_w0 ((AddVersion_r xs0 a1 xs2).1) W8 (OwnV.rd ho_g0.out (AddVersion_tot xs0 a1 xs2 hn0 hn2)) (OwnV.rd ho_w0.out (AddVersion_tot xs0 a1 xs2 hn0 hn2))).mono ?_
  rintro e W9 ⟨rfl, hb⟩
  have hsW9 : Hid (W8.heap.size ≤ W9.heap.size) := Lib.hid hb.size
  replace ho_t3 := Lib.hid (ho_t3.out.below hb)
  replace ho_t4 := Lib.hid (ho_t4.out.below hb)
  replace ho_w0 := Lib.hid (ho_w0.out.below hb)
  replace ho_t6 := Lib.hid (ho_t6.out.below hb)
  replace ho_t7 := Lib.hid (ho_t7.out.below hb)
  replace ho_g0 := Lib.hid (ho_g0.out.below hb)
  replace HB := Lib.hid (Below.step HB.out hb)
  clear hb
  go_wp2_with fail
  refine (toVersionS_any _ xs0 W9 (HI0.out.below HB.out) hn0).mono ?_
  rintro e W10 ⟨t10, rfl, ho, hb⟩
  have ho_t10 := Lib.hid ho
  clear ho
  have hsW10 : Hid (W9.heap.size ≤ W10.heap.size) := Lib.hid hb.size
  replace ho_t3 := Lib.hid (ho_t3.out.below hb)
  replace ho_t4 := Lib.hid (ho_t4.out.below hb)
  replace ho_w0 := Lib.hid (ho_w0.out.below hb)
  replace ho_t6 := Lib.hid (ho_t6.out.below hb)
  replace ho_t7 := Lib.hid (ho_t7.out.below hb)
  replace ho_g0 := Lib.hid (ho_g0.out.below hb)
  replace HB := Lib.hid (Below.step HB.out hb)
  clear hb
  go_wp2_with fail
  refine (eqVersionS_same t6 t10 xs0 W10 (OwnV.rd ho_t6.out (tot_big hn0)) (OwnV.rd ho_t10.out (tot_big hn0))).mono ?_
  rintro e W11 ⟨rfl, hb⟩
  have hsW11 : Hid (W10.heap.size ≤ W11.heap.size) := Lib.hid hb.size
  replace ho_t3 := Lib.hid (ho_t3.out.below hb)
  replace ho_t4 := Lib.hid (ho_t4.out.below hb)
  replace ho_w0 := Lib.hid (ho_w0.out.below hb)
  replace ho_t6 := Lib.hid (ho_t6.out.below hb)
  replace ho_t7 := Lib.hid (ho_t7.out.below hb)
  replace ho_g0 := Lib.hid (ho_g0.out.below hb)
  replace ho_t10 := Lib.hid (ho_t10.out.below hb)
  replace HB := Lib.hid (Below.step HB.out hb)
  clear hb
  go_wp2_with fail
  refine (toLineS_any _ xs2 W11 (HI2.out.below HB.out) hn2).mono ?_
  rintro e W12 ⟨t12, rfl, ho, hb⟩
  have ho_t12 := Lib.hid (OwnB.of ho)
  clear ho
  have hsW12 : Hid (W11.heap.size ≤ W12.heap.size) := Lib.hid hb.size
  replace ho_t3 := Lib.hid (ho_t3.out.below hb)
  replace ho_t4 := Lib.hid (ho_t4.out.below hb)
  replace ho_w0 := Lib.hid (ho_w0.out.below hb)
  replace ho_t6 := Lib.hid (ho_t6.out.below hb)
  replace ho_t7 := Lib.hid (ho_t7.out.below hb)
  replace ho_g0 := Lib.hid (ho_g0.out.below hb)
  replace ho_t10 := Lib.hid (ho_t10.out.below hb)
  replace HB := Lib.hid (Below.step HB.out hb)
  clear hb
  go_wp2_with fail
  refine (eqLineS_same t7 t12 xs2 W12 (OwnB.sl ho_t7.out hn2) (OwnB.sl ho_t12.out hn2)).mono ?_
  rintro e W13 ⟨rfl, hb⟩
  have hsW13 : Hid (W12.heap.size ≤ W13.heap.size) := Lib.hid hb.size
  replace ho_t3 := Lib.hid (ho_t3.out.below hb)
  replace ho_t4 := Lib.hid (ho_t4.out.below hb)
  replace ho_w0 := Lib.hid (ho_w0.out.below hb)
  replace ho_t6 := Lib.hid (ho_t6.out.below hb)
  replace ho_t7 := Lib.hid (ho_t7.out.below hb)
  replace ho_g0 := Lib.hid (ho_g0.out.below hb)
  replace ho_t10 := Lib.hid (ho_t10.out.below hb)
  replace ho_t12 := Lib.hid (ho_t12.out.below hb)
  replace HB := Lib.hid (Below.step HB.out hb)
  clear hb
  go_wp2_with fail
  have hcW14 := Lib.hid (cntVersionS_le xs0 (tot_big hn0))
  refine (markVersionS_law t6 xs0 1 W5.heap.size W6.heap.size W13 ho_t6.out (tot_big hn0) (lines_le hn0) (by omega) (by have cW14 := hcW14.out; omega) (by have sW1 := hsW1.out; have sW2 := hsW2.out; have sW3 := hsW3.out; have sW4 := hsW4.out; have sW5 := hsW5.out; have sW6 := hsW6.out; have sW7 := hsW7.out; have sW8 := hsW8.out; have sW9 := hsW9.out; have sW10 := hsW10.out; have sW11 := hsW11.out; have sW12 := hsW12.out; have sW13 := hsW13.out; omega)).mono ?_
  rintro e W14 ⟨rfl, hn_t6, hsp⟩
  have hsW14 : Hid (W13.heap.size ≤ W14.heap.size) := Lib.hid hsp.size
  replace ho_t3 := Lib.hid (ho_t3.out.span hsp (by have sW1 := hsW1.out; have sW2 := hsW2.out; have sW3 := hsW3.out; have sW4 := hsW4.out; have sW5 := hsW5.out; have sW6 := hsW6.out; have sW7 := hsW7.out; have sW8 := hsW8.out; have sW9 := hsW9.out; have sW10 := hsW10.out; have sW11 := hsW11.out; have sW12 := hsW12.out; have sW13 := hsW13.out; have sW14 := hsW14.out; omega))
  replace ho_t4 := Lib.hid (ho_t4.out.span hsp (by have sW1 := hsW1.out; have sW2 := hsW2.out; have sW3 := hsW3.out; have sW4 := hsW4.out; have sW5 := hsW5.out; have sW6 := hsW6.out; have sW7 := hsW7.out; have sW8 := hsW8.out; have sW9 := hsW9.out; have sW10 := hsW10.out; have sW11 := hsW11.out; have sW12 := hsW12.out; have sW13 := hsW13.out; have sW14 := hsW14.out; omega))
  replace ho_w0 := Lib.hid (ho_w0.out.span hsp (by have sW1 := hsW1.out; have sW2 := hsW2.out; have sW3 := hsW3.out; have sW4 := hsW4.out; have sW5 := hsW5.out; have sW6 := hsW6.out; have sW7 := hsW7.out; have sW8 := hsW8.out; have sW9 := hsW9.out; have sW10 := hsW10.out; have sW11 := hsW11.out; have sW12 := hsW12.out; have sW13 := hsW13.out; have sW14 := hsW14.out; omega))
  replace ho_t7 := Lib.hid (ho_t7.out.span hsp (by have sW1 := hsW1.out; have sW2 := hsW2.out; have sW3 := hsW3.out; have sW4 := hsW4.out; have sW5 := hsW5.out; have sW6 := hsW6.out; have sW7 := hsW7.out; have sW8 := hsW8.out; have sW9 := hsW9.out; have sW10 := hsW10.out; have sW11 := hsW11.out; have sW12 := hsW12.out; have sW13 := hsW13.out; have sW14 := hsW14.out; omega))
  replace ho_g0 := Lib.hid (ho_g0.out.span hsp (by have sW1 := hsW1.out; have sW2 := hsW2.out; have sW3 := hsW3.out; have sW4 := hsW4.out; have sW5 := hsW5.out; have sW6 := hsW6.out; have sW7 := hsW7.out; have sW8 := hsW8.out; have sW9 := hsW9.out; have sW10 := hsW10.out; have sW11 := hsW11.out; have sW12 := hsW12.out; have sW13 := hsW13.out; have sW14 := hsW14.out; omega))
  replace ho_t10 := Lib.hid (ho_t10.out.span hsp (by have sW1 := hsW1.out; have sW2 := hsW2.out; have sW3 := hsW3.out; have sW4 := hsW4.out; have sW5 := hsW5.out; have sW6 := hsW6.out; have sW7 := hsW7.out; have sW8 := hsW8.out; have sW9 := hsW9.out; have sW10 := hsW10.out; have sW11 := hsW11.out; have sW12 := hsW12.out; have sW13 := hsW13.out; have sW14 := hsW14.out; omega))
  replace ho_t12 := Lib.hid (ho_t12.out.span hsp (by have sW1 := hsW1.out; have sW2 := hsW2.out; have sW3 := hsW3.out; have sW4 := hsW4.out; have sW5 := hsW5.out; have sW6 := hsW6.out; have sW7 := hsW7.out; have sW8 := hsW8.out; have sW9 := hsW9.out; have sW10 := hsW10.out; have sW11 := hsW11.out; have sW12 := hsW12.out; have sW13 := hsW13.out; have sW14 := hsW14.out; omega))
  replace ho_t6 := Lib.hid hn_t6
  replace HB := Lib.hid (HB.out.trans (hsp.below (by have sW1 := hsW1.out; have sW2 := hsW2.out; have sW3 := hsW3.out; have sW4 := hsW4.out; have sW5 := hsW5.out; have sW6 := hsW6.out; have sW7 := hsW7.out; have sW8 := hsW8.out; have sW9 := hsW9.out; have sW10 := hsW10.out; have sW11 := hsW11.out; have sW12 := hsW12.out; have sW13 := hsW13.out; have sW14 := hsW14.out; omega)))
  clear hsp hn_t6
  go_wp2_with fail
  have hcW15 := Lib.hid (cntLineS_le xs2 hn2)
  refine (markLineS_law t7 xs2 (1 + (cntVersionS xs0 : Nat)) W6.heap.size W14 ho_t7.out.1 hn2 (by omega) (by have cW14 := hcW14.out; have cW15 := hcW15.out; omega)).mono ?_
  rintro e W15 ⟨rfl, hn0, hg⟩
  obtain ⟨hn_t7, hsp⟩ := OwnB.mark ho_t7.out hn0 hg (by have sW1 := hsW1.out; have sW2 := hsW2.out; have sW3 := hsW3.out; have sW4 := hsW4.out; have sW5 := hsW5.out; have sW6 := hsW6.out; have sW7 := hsW7.out; have sW8 := hsW8.out; have sW9 := hsW9.out; have sW10 := hsW10.out; have sW11 := hsW11.out; have sW12 := hsW12.out; have sW13 := hsW13.out; have sW14 := hsW14.out; omega)
  have hsW15 : Hid (W14.heap.size ≤ W15.heap.size) := Lib.hid hsp.size
  replace ho_t3 := Lib.hid (ho_t3.out.span hsp (by have sW1 := hsW1.out; have sW2 := hsW2.out; have sW3 := hsW3.out; have sW4 := hsW4.out; have sW5 := hsW5.out; have sW6 := hsW6.out; have sW7 := hsW7.out; have sW8 := hsW8.out; have sW9 := hsW9.out; have sW10 := hsW10.out; have sW11 := hsW11.out; have sW12 := hsW12.out; have sW13 := hsW13.out; have sW14 := hsW14.out; have sW15 := hsW15.out; omega))
  replace ho_t4 := Lib.hid (ho_t4.out.span hsp (by have sW1 := hsW1.out; have sW2 := hsW2.out; have sW3 := hsW3.out; have sW4 := hsW4.out; have sW5 := hsW5.out; have sW6 := hsW6.out; have sW7 := hsW7.out; have sW8 := hsW8.out; have sW9 := hsW9.out; have sW10 := hsW10.out; have sW11 := hsW11.out; have sW12 := hsW12.out; have sW13 := hsW13.out; have sW14 := hsW14.out; have sW15 := hsW15.out; omega))
  replace ho_w0 := Lib.hid (ho_w0.out.span hsp (by have sW1 := hsW1.out; have sW2 := hsW2.out; have sW3 := hsW3.out; have sW4 := hsW4.out; have sW5 := hsW5.out; have sW6 := hsW6.out; have sW7 := hsW7.out; have sW8 := hsW8.out; have sW9 := hsW9.out; have sW10 := hsW10.out; have sW11 := hsW11.out; have sW12 := hsW12.out; have sW13 := hsW13.out; have sW14 := hsW14.out; have sW15 := hsW15.out; omega))
  replace ho_t6 := Lib.hid (ho_t6.out.span hsp (by have sW1 := hsW1.out; have sW2 := hsW2.out; have sW3 := hsW3.out; have sW4 := hsW4.out; have sW5 := hsW5.out; have sW6 := hsW6.out; have sW7 := hsW7.out; have sW8 := hsW8.out; have sW9 := hsW9.out; have sW10 := hsW10.out; have sW11 := hsW11.out; have sW12 := hsW12.out; have sW13 := hsW13.out; have sW14 := hsW14.out; have sW15 := hsW15.out; omega))
  replace ho_g0 := Lib.hid (ho_g0.out.span hsp (by have sW1 := hsW1.out; have sW2 := hsW2.out; have sW3 := hsW3.out; have sW4 := hsW4.out; have sW5 := hsW5.out; have sW6 := hsW6.out; have sW7 := hsW7.out; have sW8 := hsW8.out; have sW9 := hsW9.out; have sW10 := hsW10.out; have sW11 := hsW11.out; have sW12 := hsW12.out; have sW13 := hsW13.out; have sW14 := hsW14.out; have sW15 := hsW15.out; omega))
  replace ho_t10 := Lib.hid (ho_t10.out.span hsp (by have sW1 := hsW1.out; have sW2 := hsW2.out; have sW3 := hsW3.out; have sW4 := hsW4.out; have sW5 := hsW5.out; have sW6 := hsW6.out; have sW7 := hsW7.out; have sW8 := hsW8.out; have sW9 := hsW9.out; have sW10 := hsW10.out; have sW11 := hsW11.out; have sW12 := hsW12.out; have sW13 := hsW13.out; have sW14 := hsW14.out; have sW15 := hsW15.out; omega))
  replace ho_t12 := Lib.hid (ho_t12.out.span hsp (by have sW1 := hsW1.out; have sW2 := hsW2.out; have sW3 := hsW3.out; have sW4 := hsW4.out; have sW5 := hsW5.out; have sW6 := hsW6.out; have sW7 := hsW7.out; have sW8 := hsW8.out; have sW9 := hsW9.out; have sW10 := hsW10.out; have sW11 := hsW11.out; have sW12 := hsW12.out; have sW13 := hsW13.out; have sW14 := hsW14.out; have sW15 := hsW15.out; omega))
  replace ho_t7 := Lib.hid hn_t7
  replace HB := Lib.hid (HB.out.trans (hsp.below (by have sW1 := hsW1.out; have sW2 := hsW2.out; have sW3 := hsW3.out; have sW4 := hsW4.out; have sW5 := hsW5.out; have sW6 := hsW6.out; have sW7 := hsW7.out; have sW8 := hsW8.out; have sW9 := hsW9.out; have sW10 := hsW10.out; have sW11 := hsW11.out; have sW12 := hsW12.out; have sW13 := hsW13.out; have sW14 := hsW14.out; have sW15 := hsW15.out; omega)))
  clear hsp hn_t7 hn0 hg
  go_wp2_with fail
  refine (eqVersionS_same v_g0 v_w0 ((AddVersion_r xs0 a1 xs2).1) W15 (OwnV.rd ho_g0.out (AddVersion_tot xs0 a1 xs2 hn0 hn2)) (OwnV.rd ho_w0.out (AddVersion_tot xs0 a1 xs2 hn0 hn2))).mono ?_
  rintro e W16 ⟨rfl, hb⟩
  have hsW16 : Hid (W15.heap.size ≤ W16.heap.size) := Lib.hid hb.size
  replace ho_t3 := Lib.hid (ho_t3.out.below hb)
  replace ho_t4 := Lib.hid (ho_t4.out.below hb)
  replace ho_w0 := Lib.hid (ho_w0.out.below hb)
  replace ho_t6 := Lib.hid (ho_t6.out.below hb)
  replace ho_t7 := Lib.hid (ho_t7.out.below hb)
  replace ho_g0 := Lib.hid (ho_g0.out.below hb)
  replace ho_t10 := Lib.hid (ho_t10.out.below hb)
  replace ho_t12 := Lib.hid (ho_t12.out.below hb)
  replace HB := Lib.hid (Below.step HB.out hb)
  clear hb
  go_wp2_with fail
  have hcW17 := Lib.hid (cntVersionS_le ((AddVersion_r xs0 a1 xs2).1) (AddVersion_tot xs0 a1 xs2 hn0 hn2))
  refine (markVersionS_law v_g0 ((AddVersion_r xs0 a1 xs2).1) 1 W7.heap.size W8.heap.size W16 ho_g0.out (AddVersion_tot xs0 a1 xs2 hn0 hn2) (AddVersion_lines xs0 a1 xs2 hn0 hn2) (by omega) (by have cW14 := hcW14.out; have cW15 := hcW15.out; have cW17 := hcW17.out; omega) (by have sW1 := hsW1.out; have sW2 := hsW2.out; have sW3 := hsW3.out; have sW4 := hsW4.out; have sW5 := hsW5.out; have sW6 := hsW6.out; have sW7 := hsW7.out; have sW8 := hsW8.out; have sW9 := hsW9.out; have sW10 := hsW10.out; have sW11 := hsW11.out; have sW12 := hsW12.out; have sW13 := hsW13.out; have sW14 := hsW14.out; have sW15 := hsW15.out; have sW16 := hsW16.out; omega)).mono ?_
  rintro e W17 ⟨rfl, hn_g0, hsp⟩
  have hsW17 : Hid (W16.heap.size ≤ W17.heap.size) := Lib.hid hsp.size
  replace ho_t3 := Lib.hid (ho_t3.out.span hsp (by have sW1 := hsW1.out; have sW2 := hsW2.out; have sW3 := hsW3.out; have sW4 := hsW4.out; have sW5 := hsW5.out; have sW6 := hsW6.out; have sW7 := hsW7.out; have sW8 := hsW8.out; have sW9 := hsW9.out; have sW10 := hsW10.out; have sW11 := hsW11.out; have sW12 := hsW12.out; have sW13 := hsW13.out; have sW14 := hsW14.out; have sW15 := hsW15.out; have sW16 := hsW16.out; have sW17 := hsW17.out; omega))
  replace ho_t4 := Lib.hid (ho_t4.out.span hsp (by have sW1 := hsW1.out; have sW2 := hsW2.out; have sW3 := hsW3.out; have sW4 := hsW4.out; have sW5 := hsW5.out; have sW6 := hsW6.out; have sW7 := hsW7.out; have sW8 := hsW8.out; have sW9 := hsW9.out; have sW10 := hsW10.out; have sW11 := hsW11.out; have sW12 := hsW12.out; have sW13 := hsW13.out; have sW14 := hsW14.out; have sW15 := hsW15.out; have sW16 := hsW16.out; have sW17 := hsW17.out; omega))
  replace ho_w0 := Lib.hid (ho_w0.out.span hsp (by have sW1 := hsW1.out; have sW2 := hsW2.out; have sW3 := hsW3.out; have sW4 := hsW4.out; have sW5 := hsW5.out; have sW6 := hsW6.out; have sW7 := hsW7.out; have sW8 := hsW8.out; have sW9 := hsW9.out; have sW10 := hsW10.out; have sW11 := hsW11.out; have sW12 := hsW12.out; have sW13 := hsW13.out; have sW14 := hsW14.out; have sW15 := hsW15.out; have sW16 := hsW16.out; have sW17 := hsW17.out; omega))
  replace ho_t6 := Lib.hid (ho_t6.out.span hsp (by have sW1 := hsW1.out; have sW2 := hsW2.out; have sW3 := hsW3.out; have sW4 := hsW4.out; have sW5 := hsW5.out; have sW6 := hsW6.out; have sW7 := hsW7.out; have sW8 := hsW8.out; have sW9 := hsW9.out; have sW10 := hsW10.out; have sW11 := hsW11.out; have sW12 := hsW12.out; have sW13 := hsW13.out; have sW14 := hsW14.out; have sW15 := hsW15.out; have sW16 := hsW16.out; have sW17 := hsW17.out; omega))
  replace ho_t7 := Lib.hid (ho_t7.out.span hsp (by have sW1 := hsW1.out; have sW2 := hsW2.out; have sW3 := hsW3.out; have sW4 := hsW4.out; have sW5 := hsW5.out; have sW6 := hsW6.out; have sW7 := hsW7.out; have sW8 := hsW8.out; have sW9 := hsW9.out; have sW10 := hsW10.out; have sW11 := hsW11.out; have sW12 := hsW12.out; have sW13 := hsW13.out; have sW14 := hsW14.out; have sW15 := hsW15.out; have sW16 := hsW16.out; have sW17 := hsW17.out; omega))
  replace ho_t10 := Lib.hid (ho_t10.out.span hsp (by have sW1 := hsW1.out; have sW2 := hsW2.out; have sW3 := hsW3.out; have sW4 := hsW4.out; have sW5 := hsW5.out; have sW6 := hsW6.out; have sW7 := hsW7.out; have sW8 := hsW8.out; have sW9 := hsW9.out; have sW10 := hsW10.out; have sW11 := hsW11.out; have sW12 := hsW12.out; have sW13 := hsW13.out; have sW14 := hsW14.out; have sW15 := hsW15.out; have sW16 := hsW16.out; have sW17 := hsW17.out; omega))
  replace ho_t12 := Lib.hid (ho_t12.out.span hsp (by have sW1 := hsW1.out; have sW2 := hsW2.out; have sW3 := hsW3.out; have sW4 := hsW4.out; have sW5 := hsW5.out; have sW6 := hsW6.out; have sW7 := hsW7.out; have sW8 := hsW8.out; have sW9 := hsW9.out; have sW10 := hsW10.out; have sW11 := hsW11.out; have sW12 := hsW12.out; have sW13 := hsW13.out; have sW14 := hsW14.out; have sW15 := hsW15.out; have sW16 := hsW16.out; have sW17 := hsW17.out; omega))
  replace ho_g0 := Lib.hid hn_g0
  replace HB := Lib.hid (HB.out.trans (hsp.below (by have sW1 := hsW1.out; have sW2 := hsW2.out; have sW3 := hsW3.out; have sW4 := hsW4.out; have sW5 := hsW5.out; have sW6 := hsW6.out; have sW7 := hsW7.out; have sW8 := hsW8.out; have sW9 := hsW9.out; have sW10 := hsW10.out; have sW11 := hsW11.out; have sW12 := hsW12.out; have sW13 := hsW13.out; have sW14 := hsW14.out; have sW15 := hsW15.out; have sW16 := hsW16.out; have sW17 := hsW17.out; omega)))
  clear hsp hn_g0
  go_wp2_with fail
  refine (heldVersionS_law v_g0 ((AddVersion_r xs0 a1 xs2).1) 1 W17 (OwnV.rdm ho_g0.out (AddVersion_tot xs0 a1 xs2 hn0 hn2)) (AddVersion_tot xs0 a1 xs2 hn0 hn2) (AddVersion_lines xs0 a1 xs2 hn0 hn2) (by omega) (by omega)).mono ?_
  rintro e W18 ⟨rfl, hb⟩
  have hsW18 : Hid (W17.heap.size ≤ W18.heap.size) := Lib.hid hb.size
  replace ho_t3 := Lib.hid (ho_t3.out.below hb)
  replace ho_t4 := Lib.hid (ho_t4.out.below hb)
  replace ho_w0 := Lib.hid (ho_w0.out.below hb)
  replace ho_t6 := Lib.hid (ho_t6.out.below hb)
  replace ho_t7 := Lib.hid (ho_t7.out.below hb)
  replace ho_g0 := Lib.hid (ho_g0.out.below hb)
  replace ho_t10 := Lib.hid (ho_t10.out.below hb)
  replace ho_t12 := Lib.hid (ho_t12.out.below hb)
  replace HB := Lib.hid (Below.step HB.out hb)
  clear hb
  go_wp2_with fail
  refine (toVersionS_any _ xs0 W18 (HI0.out.below HB.out) hn0).mono ?_
  rintro e W19 ⟨t19, rfl, ho, hb⟩
  have ho_t19 := Lib.hid ho
  clear ho
  have hsW19 : Hid (W18.heap.size ≤ W19.heap.size) := Lib.hid hb.size
  replace ho_t3 := Lib.hid (ho_t3.out.below hb)
  replace ho_t4 := Lib.hid (ho_t4.out.below hb)
  replace ho_w0 := Lib.hid (ho_w0.out.below hb)
  replace ho_t6 := Lib.hid (ho_t6.out.below hb)
  replace ho_t7 := Lib.hid (ho_t7.out.below hb)
  replace ho_g0 := Lib.hid (ho_g0.out.below hb)
  replace ho_t10 := Lib.hid (ho_t10.out.below hb)
  replace ho_t12 := Lib.hid (ho_t12.out.below hb)
  replace HB := Lib.hid (Below.step HB.out hb)
  clear hb
  go_wp2_with fail
  refine (toLineS_any _ xs2 W19 (HI2.out.below HB.out) hn2).mono ?_
  rintro e W20 ⟨t20, rfl, ho, hb⟩
  have ho_t20 := Lib.hid (OwnB.of ho)
  clear ho
  have hsW20 : Hid (W19.heap.size ≤ W20.heap.size) := Lib.hid hb.size
  replace ho_t3 := Lib.hid (ho_t3.out.below hb)
  replace ho_t4 := Lib.hid (ho_t4.out.below hb)
  replace ho_w0 := Lib.hid (ho_w0.out.below hb)
  replace ho_t6 := Lib.hid (ho_t6.out.below hb)
  replace ho_t7 := Lib.hid (ho_t7.out.below hb)
  replace ho_g0 := Lib.hid (ho_g0.out.below hb)
  replace ho_t10 := Lib.hid (ho_t10.out.below hb)
  replace ho_t12 := Lib.hid (ho_t12.out.below hb)
  replace ho_t19 := Lib.hid (ho_t19.out.below hb)
  replace HB := Lib.hid (Below.step HB.out hb)
  clear hb
  go_wp2_with fail
  refine (iAddVersion_law t19 xs0 a1 t20 xs2 W20 (OwnV.rd ho_t19.out (tot_big hn0)) hn0 HQ0.out p1 (OwnB.sl ho_t20.out hn2) hn2 HQ2.out).mono ?_
  rintro e W21 ⟨v_h0, rfl, hoh0, hb⟩
  have ho_h0 := Lib.hid hoh0
  clear hoh0
  have hsW21 : Hid (W20.heap.size ≤ W21.heap.size) := Lib.hid hb.size
  replace ho_t3 := Lib.hid (ho_t3.out.below hb)
  replace ho_t4 := Lib.hid (ho_t4.out.below hb)
  replace ho_w0 := Lib.hid (ho_w0.out.below hb)
  replace ho_t6 := Lib.hid (ho_t6.out.below hb)
  replace ho_t7 := Lib.hid (ho_t7.out.below hb)
  replace ho_g0 := Lib.hid (ho_g0.out.below hb)
  replace ho_t10 := Lib.hid (ho_t10.out.below hb)
  replace ho_t12 := Lib.hid (ho_t12.out.below hb)
  replace ho_t19 := Lib.hid (ho_t19.out.below hb)
  replace ho_t20 := Lib.hid (ho_t20.out.below hb)
  replace HB := Lib.hid (Below.step HB.out hb)
  clear hb
  go_wp2_with fail
  refine (eqVersionS_same v_h0 v_w0 ((AddVersion_r xs0 a1 xs2).1) W21 (OwnV.rd ho_h0.out (AddVersion_tot xs0 a1 xs2 hn0 hn2)) (OwnV.rd ho_w0.out (AddVersion_tot xs0 a1 xs2 hn0 hn2))).mono ?_
  rintro e W22 ⟨rfl, hb⟩
  have hsW22 : Hid (W21.heap.size ≤ W22.heap.size) := Lib.hid hb.size
  replace ho_t3 := Lib.hid (ho_t3.out.below hb)
  replace ho_t4 := Lib.hid (ho_t4.out.below hb)
  replace ho_w0 := Lib.hid (ho_w0.out.below hb)
  replace ho_t6 := Lib.hid (ho_t6.out.below hb)
  replace ho_t7 := Lib.hid (ho_t7.out.below hb)
  replace ho_g0 := Lib.hid (ho_g0.out.below hb)
  replace ho_t10 := Lib.hid (ho_t10.out.below hb)
  replace ho_t12 := Lib.hid (ho_t12.out.below hb)
  replace ho_t19 := Lib.hid (ho_t19.out.below hb)
  replace ho_t20 := Lib.hid (ho_t20.out.below hb)
  replace ho_h0 := Lib.hid (ho_h0.out.below hb)
  replace HB := Lib.hid (Below.step HB.out hb)
  clear hb
  go_wp2_with fail
  refine (heldVersionS_law v_g0 ((AddVersion_r xs0 a1 xs2).1) 1 W22 (OwnV.rdm ho_g0.out (AddVersion_tot xs0 a1 xs2 hn0 hn2)) (AddVersion_tot xs0 a1 xs2 hn0 hn2) (AddVersion_lines xs0 a1 xs2 hn0 hn2) (by omega) (by omega)).mono ?_
  rintro e W23 ⟨rfl, hb⟩
  have hsW23 : Hid (W22.heap.size ≤ W23.heap.size) := Lib.hid hb.size
  replace ho_t3 := Lib.hid (ho_t3.out.below hb)
  replace ho_t4 := Lib.hid (ho_t4.out.below hb)
  replace ho_w0 := Lib.hid (ho_w0.out.below hb)
  replace ho_t6 := Lib.hid (ho_t6.out.below hb)
  replace ho_t7 := Lib.hid (ho_t7.out.below hb)
  replace ho_g0 := Lib.hid (ho_g0.out.below hb)
  replace ho_t10 := Lib.hid (ho_t10.out.below hb)
  replace ho_t12 := Lib.hid (ho_t12.out.below hb)
  replace ho_t19 := Lib.hid (ho_t19.out.below hb)
  replace ho_t20 := Lib.hid (ho_t20.out.below hb)
  replace ho_h0 := Lib.hid (ho_h0.out.below hb)
  replace HB := Lib.hid (Below.step HB.out hb)
  clear hb
  go_wp2_with fail
  go_ret
  exact ⟨rfl, HB.out⟩

namespace LFnExactAddVersion
open Go.ChangeShapes Go.WideShapes Go.ChangeAt Go.RowKit
open Go.ChangeMaps (open_string shut_string)
set_option linter.unusedVariables false
set_option maxRecDepth 100000 in
theorem lifted (os : Os) (started : os.Started) (H : Type) (enc : TypeId × Value → H) :
    ReturnsInHanded {} Try.checked os 8 .any (Rows.fnExactAddVersionSpec.pre6 enc Try.prog Try.f8 Rows.fnExactAddVersionRow.domain false) (Rows.fnExactAddVersionSpec.post enc Try.prog Try.f8 false true false false) := by
  refine returnsInHanded_of_change (C := Try.checked) own started (by kernel_rfl) Try.func8
    (ChangeSpec.witness6 (enc := enc) (C := Try.checked) false ⟨#[], #[.slice none 0 0, .int .i64 0, .slice none 0 0], []⟩ 8 (by kernel_rfl) (by kernel_rfl) (by kernel_rfl) (by kernel_rfl)) ?_
  intro W base args ds gs before hval0 hW hcnd _
  have hval : ∀ (j : Nat) t v, Try.f8.params[j]? = some t → args[j]? = some v → Value.okWide Try.prog W .any base t v := hval0
  have hW' := hW
  obtain ⟨p, q, hA0, hV, rfl, hfz, hnd⟩ := hW
  have hA : DataW.TrodAll enc Try.prog W 0 (fun _ => true) true Try.f8.params.toList args.toList ds p := hA0
  rw [Try.params8] at hA hval
  obtain ⟨v0, vs0, d0, ds0, p0, q0, hargs, rfl, rfl, h0, r0⟩ := trodAll_cons hA
  obtain ⟨v1, vs1, d1, ds1, p1, q1, rfl, rfl, rfl, h1, r1⟩ := trodAll_cons r0
  obtain ⟨v2, vs2, d2, ds2, p2, q2, rfl, rfl, rfl, h2, r2⟩ := trodAll_cons r1
  obtain ⟨rfl, rfl, rfl⟩ := trodAll_nil r2
  obtain rfl : args = #[v0, v1, v2] := by cases args; simp_all
  obtain ⟨rfl, rfl⟩ := trodVars_none hV
  have k0 := h0
  have lt0 : ∀ x ∈ p0, x.block < W.heap.size := by obtain ⟨m, hm⟩ := k0; exact DataW.trod_lt m _ _ _ hm
  obtain ⟨a0, len0, cap0, rfl⟩ := okWide_slice Try.underlying22 (hval 0 22 v0 rfl rfl)
  obtain ⟨xs0, w0, u0⟩ : ∃ xs : List Ver, RowV W a0 len0 cap0 xs ∧ ∀ x ∈ xs, okVer x := by
    obtain ⟨fuel, hf⟩ := h0
    exact openVersionS (by simpa [Value.cells] using hf)
  have k1 := h1
  have lt1 : ∀ x ∈ p1, x.block < W.heap.size := by obtain ⟨m, hm⟩ := k1; exact DataW.trod_lt m _ _ _ hm
  obtain ⟨a1, rfl, rfl, rfl, w1⟩ := open_int Try.underlying2 (hval 1 2 v1 rfl rfl) h1
  have k2 := h2
  have lt2 : ∀ x ∈ p2, x.block < W.heap.size := by obtain ⟨m, hm⟩ := k2; exact DataW.trod_lt m _ _ _ hm
  obtain ⟨a2, len2, cap2, rfl⟩ := okWide_slice Try.underlying42 (hval 2 42 v2 rfl rfl)
  obtain ⟨xs2, w2, u2⟩ : ∃ xs : List Line, RowS eLine W a2 len2 cap2 xs ∧ ∀ x ∈ xs, okLine x := by
    obtain ⟨fuel, hf⟩ := h2
    exact openLineS (by simpa [Value.cells] using hf)
  clear hA0 hval0
  refine (walk_FnExactAddVersion a0 len0 cap0 xs0 a1 a2 len2 cap2 xs2 W w0 u0 w1 w2 u2).mono fun e W' ⟨he, bel⟩ => ?_
  subst he
  exact ⟨_, rfl, _, _, _, [], _, [], hW', trodAll_mk1 (shut_bool Try.underlying4 _), (trodAll_cons_mk (Below.trod laidOut (by kernel_rfl) (of_decide_eq_true (by kernel_rfl)) k0 bel lt0) (trodAll_cons_mk (Below.trod laidOut (by kernel_rfl) (of_decide_eq_true (by kernel_rfl)) k1 bel lt1) (trodAll_cons_mk (Below.trod laidOut (by kernel_rfl) (of_decide_eq_true (by kernel_rfl)) k2 bel lt2) trodAll_mk0))), rfl, bel.frame _, fun h => by cases h⟩
theorem over : Rows.fnExactAddVersionRow.holds Try.pinned (OpenSpec.ofChange Rows.fnExactAddVersionSpec) :=
  OpenClaim.holds_of_wide 8 Try.f8 rfl rfl rfl rfl rfl rfl rfl ⟨rfl, rfl, rfl, rfl, rfl⟩ rfl rfl rfl rfl rfl (by kernel_rfl) Try.func8 (by kernel_rfl)
    (of_decide_eq_true (by kernel_rfl)) (by unfold Func.isWrapper; first | (rw [if_pos (by decide +kernel)]; kernel_rfl) | (rw [if_neg (by decide +kernel)]; exact ⟨rfl, rfl⟩))
    (fun os started H enc _ => lifted os started H enc)
end LFnExactAddVersion
/-- The statement. -/
theorem fnExactAddVersion_holds : Rows.FnExactAddVersionSaid := LFnExactAddVersion.over
#print axioms fnExactAddVersion_holds

end Go.Proofs.Ytklllcehndfcpaa
