/- For every list of versions, every number, every key and every value the program's SetValue and the reference's SetValue answer the same, the list is left as it was, and the answer is the caller's own. No condition. -/
import Derived.Test.YtklllcehndfcpaaSetV
import Derived.Test.YtklllcehndfcpaaSetI
import Derived.Test.YtklllcehndfcpaaSpans
import Derived.Test.YtklllcehndfcpaaLift
namespace Go.Proofs.Ytklllcehndfcpaa
open Go.RowKit
set_option maxHeartbeats 4000000 in
set_option maxRecDepth 20000 in
theorem walk_FnExactSetValue (a0 : Option Addr) (len0 cap0 : Nat) (xs0 : List Ver) (a1 : Int) (a2 : ByteArray) (a3 : Int) (w : World) (p0 : RowV w a0 len0 cap0 xs0) (q0 : ∀ x ∈ xs0, okVer x) (p1 : (Lit.int .i64 a1).wf = true) (p2 : a2.size ≤ maxLen) (p3 : (Lit.int .i64 a3).wf = true) :
    Calls Try.prog 9 #[.slice a0 len0 cap0, .int .i64 a1, .string a2, .int .i64 a3] w fun e w' => e = .returned (.bool true) ∧ Below w.heap.size w w' := by
  have HB : Hid (Below w.heap.size w w) := Lib.hid (Below.refl _ _)
  have HP0 := Lib.hid p0
  have HQ0 := Lib.hid q0
  have hmax0 := p0.max
  have hlen0 := p0.len
  clear p0 q0
  have hmax2 : a2.size ≤ 9223372036854775807 := p2
  by_cases hn2 : a2.size ≤ 1048576
  rotate_left
  · go_enter Try.func9, Try.ntmps9
    go_wp2_with fail
    go_ret
    exact ⟨rfl, HB.out⟩
  go_enter Try.func9, Try.ntmps9
  go_wp2_with fail
  refine (szVersionS_any a0 len0 cap0 xs0 1048576 w (HP0.out.below HB.out) (by omega) (by omega)).mono ?_
  rintro e W1 ⟨r0, rfl, hr0, hb⟩
  have hsW1 : Hid (w.heap.size ≤ W1.heap.size) := Lib.hid hb.size
  replace HB := Lib.hid (Below.step HB.out hb)
  clear hb
  by_cases hneg0 : r0 < 0
  · go_wp2_with fail
    go_ret
    exact ⟨rfl, HB.out⟩
  have hr00 : 0 ≤ r0 ∧ r0 + totV xs0 ≤ 1048576 := hr0.resolve_left (by omega)
  obtain ⟨hr0a, hr0b⟩ := hr00
  have hn0 : totV xs0 ≤ 1048576 := by omega
  have HI0 := Lib.hid (HP0.out.rd hn0)
  clear hr0
  go_wp2_with fail
  refine (toVersionS_any _ xs0 W1 (HI0.out.below HB.out) hn0).mono ?_
  rintro e W2 ⟨t2, rfl, ho, hb⟩
  have ho_t2 := Lib.hid ho
  clear ho
  have hsW2 : Hid (W1.heap.size ≤ W2.heap.size) := Lib.hid hb.size
  replace HB := Lib.hid (Below.step HB.out hb)
  clear hb
  go_wp2_with fail
  refine (sSetValue_law t2 xs0 a1 a2 a3 W2 (OwnV.rd ho_t2.out (tot_big hn0)) hn0 HQ0.out p1 hn2 p3).mono ?_
  rintro e W3 ⟨v_w0, rfl, how0, hb⟩
  have ho_w0 := Lib.hid how0
  clear how0
  have hsW3 : Hid (W2.heap.size ≤ W3.heap.size) := Lib.hid hb.size
  replace ho_t2 := Lib.hid (ho_t2.out.below hb)
  replace HB := Lib.hid (Below.step HB.out hb)
  clear hb
  go_wp2_with fail
  refine (toVersionS_any _ xs0 W3 (HI0.out.below HB.out) hn0).mono ?_
  rintro e W4 ⟨t4, rfl, ho, hb⟩
  have ho_t4 := Lib.hid ho
  clear ho
  have hsW4 : Hid (W3.heap.size ≤ W4.heap.size) := Lib.hid hb.size
  replace ho_t2 := Lib.hid (ho_t2.out.below hb)
  replace ho_w0 := Lib.hid (ho_w0.out.below hb)
  replace HB := Lib.hid (Below.step HB.out hb)
  clear hb
  go_wp2_with fail
  refine (iSetValue_law t4 xs0 a1 a2 a3 W4 (OwnV.rd ho_t4.out (tot_big hn0)) hn0 HQ0.out p1 hn2 p3).mono ?_
  rintro e W5 ⟨v_g0, rfl, hog0, hb⟩
  have ho_g0 := Lib.hid hog0
  clear hog0
  have hsW5 : Hid (W4.heap.size ≤ W5.heap.size) := Lib.hid hb.size
  replace ho_t2 := Lib.hid (ho_t2.out.below hb)
  replace ho_w0 := Lib.hid (ho_w0.out.below hb)
  replace ho_t4 := Lib.hid (ho_t4.out.below hb)
  replace HB := Lib.hid (Below.step HB.out hb)
  clear hb
  go_wp2_with fail
  refine (eqVersionS_same v_g0 v_w0 ((SetValue_r xs0 a1 a2 a3).1) W5 (OwnV.rd ho_g0.out (SetValue_tot xs0 a1 a2 a3 hn0)) (OwnV.rd ho_w0.out (SetValue_tot xs0 a1 a2 a3 hn0))).mono ?_
  rintro e W6 ⟨rfl, hb⟩
  have hsW6 : Hid (W5.heap.size ≤ W6.heap.size) := Lib.hid hb.size
  replace ho_t2 := Lib.hid (ho_t2.out.below hb)
  replace ho_w0 := Lib.hid (ho_w0.out.below hb)
  replace ho_t4 := Lib.hid (ho_t4.out.below hb)
  replace ho_g0 := Lib.hid (ho_g0.out.below hb)
  replace HB := Lib.hid (Below.step HB.out hb)
  clear hb
  go_wp2_with fail
  refine (toVersionS_any _ xs0 W6 (HI0.out.below HB.out) hn0).mono ?_
  rintro e W7 ⟨t7, rfl, ho, hb⟩
  have ho_t7 := Lib.hid ho
  clear ho
  have hsW7 : Hid (W6.heap.size ≤ W7.heap.size) := Lib.hid hb.size
  replace ho_t2 := Lib.hid (ho_t2.out.below hb)
  replace ho_w0 := Lib.hid (ho_w0.out.below hb)
  replace ho_t4 := Lib.hid (ho_t4.out.below hb)
  replace ho_g0 := Lib.hid (ho_g0.out.below hb)
  replace HB := Lib.hid (Below.step HB.out hb)
  clear hb
  go_wp2_with fail
  refine (eqVersionS_same t4 t7 xs0 W7 (OwnV.rd ho_t4.out (tot_big hn0)) (OwnV.rd ho_t7.out (tot_big hn0))).mono ?_
  rintro e W8 ⟨rfl, hb⟩
  have hsW8 : Hid (W7.heap.size ≤ W8.heap.size) := Lib.hid hb.size
  replace ho_t2 := Lib.hid (ho_t2.out.below hb)
  replace ho_w0 := Lib.hid (ho_w0.out.below hb)
  replace ho_t4 := Lib.hid (ho_t4.out.below hb)
  replace ho_g0 := Lib.hid (ho_g0.out.below hb)
  replace ho_t7 := Lib.hid (ho_t7.out.below hb)
  replace HB := Lib.hid (Below.step HB.out hb)
  clear hb
  go_wp2_with fail
  have hcW9 := Lib.hid (cntVersionS_le xs0 (tot_big hn0))
  refine (markVersionS_law t4 xs0 1 W3.heap.size W4.heap.size W8 ho_t4.out (tot_big hn0) (lines_le hn0) (by omega) (by have cW9 := hcW9.out; omega) (by have sW1 := hsW1.out; have sW2 := hsW2.out; have sW3 := hsW3.out; have sW4 := hsW4.out; have sW5 := hsW5.out; have sW6 := hsW6.out; have sW7 := hsW7.out; have sW8 := hsW8.out; omega)).mono ?_
  rintro e W9 ⟨rfl, hn_t4, hsp⟩
  have hsW9 : Hid (W8.heap.size ≤ W9.heap.size) := Lib.hid hsp.size
  replace ho_t2 := Lib.hid (ho_t2.out.span hsp (by have sW1 := hsW1.out; have sW2 := hsW2.out; have sW3 := hsW3.out; have sW4 := hsW4.out; have sW5 := hsW5.out; have sW6 := hsW6.out; have sW7 := hsW7.out; have sW8 := hsW8.out; have sW9 := hsW9.out; omega))
  replace ho_w0 := Lib.hid (ho_w0.out.span hsp (by have sW1 := hsW1.out; have sW2 := hsW2.out; have sW3 := hsW3.out; have sW4 := hsW4.out; have sW5 := hsW5.out; have sW6 := hsW6.out; have sW7 := hsW7.out; have sW8 := hsW8.out; have sW9 := hsW9.out; omega))
  replace ho_g0 := Lib.hid (ho_g0.out.span hsp (by have sW1 := hsW1.out; have sW2 := hsW2.out; have sW3 := hsW3.out; have sW4 := hsW4.out; have sW5 := hsW5.out; have sW6 := hsW6.out; have sW7 := hsW7.out; have sW8 := hsW8.out; have sW9 := hsW9.out; omega))
  replace ho_t7 := Lib.hid (ho_t7.out.span hsp (by have sW1 := hsW1.out; have sW2 := hsW2.out; have sW3 := hsW3.out; have sW4 := hsW4.out; have sW5 := hsW5.out; have sW6 := hsW6.out; have sW7 := hsW7.out; have sW8 := hsW8.out; have sW9 := hsW9.out; omega))
  replace ho_t4 := Lib.hid hn_t4
  replace HB := Lib.hid (HB.out.trans (hsp.below (by have sW1 := hsW1.out; have sW2 := hsW2.out; have sW3 := hsW3.out; have sW4 := hsW4.out; have sW5 := hsW5.out; have sW6 := hsW6.out; have sW7 := hsW7.out; have sW8 := hsW8.out; have sW9 := hsW9.out; omega)))
  clear hsp hn_t4
  go_wp2_with fail
  refine (eqVersionS_same v_g0 v_w0 ((SetValue_r xs0 a1 a2 a3).1) W9 (OwnV.rd ho_g0.out (SetValue_tot xs0 a1 a2 a3 hn0)) (OwnV.rd ho_w0.out (SetValue_tot xs0 a1 a2 a3 hn0))).mono ?_
  rintro e W10 ⟨rfl, hb⟩
  have hsW10 : Hid (W9.heap.size ≤ W10.heap.size) := Lib.hid hb.size
  replace ho_t2 := Lib.hid (ho_t2.out.below hb)
  replace ho_w0 := Lib.hid (ho_w0.out.below hb)
  replace ho_t4 := Lib.hid (ho_t4.out.below hb)
  replace ho_g0 := Lib.hid (ho_g0.out.below hb)
  replace ho_t7 := Lib.hid (ho_t7.out.below hb)
  replace HB := Lib.hid (Below.step HB.out hb)
  clear hb
  go_wp2_with fail
  have hcW11 := Lib.hid (cntVersionS_le ((SetValue_r xs0 a1 a2 a3).1) (SetValue_tot xs0 a1 a2 a3 hn0))
  refine (markVersionS_law v_g0 ((SetValue_r xs0 a1 a2 a3).1) 1 W4.heap.size W5.heap.size W10 ho_g0.out (SetValue_tot xs0 a1 a2 a3 hn0) (SetValue_lines xs0 a1 a2 a3 hn0) (by omega) (by have cW9 := hcW9.out; have cW11 := hcW11.out; omega) (by have sW1 := hsW1.out; have sW2 := hsW2.out; have sW3 := hsW3.out; have sW4 := hsW4.out; have sW5 := hsW5.out; have sW6 := hsW6.out; have sW7 := hsW7.out; have sW8 := hsW8.out; have sW9 := hsW9.out; have sW10 := hsW10.out; omega)).mono ?_
  rintro e W11 ⟨rfl, hn_g0, hsp⟩
  have hsW11 : Hid (W10.heap.size ≤ W11.heap.size) := Lib.hid hsp.size
  replace ho_t2 := Lib.hid (ho_t2.out.span hsp (by have sW1 := hsW1.out; have sW2 := hsW2.out; have sW3 := hsW3.out; have sW4 := hsW4.out; have sW5 := hsW5.out; have sW6 := hsW6.out; have sW7 := hsW7.out; have sW8 := hsW8.out; have sW9 := hsW9.out; have sW10 := hsW10.out; have sW11 := hsW11.out; omega))
  replace ho_w0 := Lib.hid (ho_w0.out.span hsp (by have sW1 := hsW1.out; have sW2 := hsW2.out; have sW3 := hsW3.out; have sW4 := hsW4.out; have sW5 := hsW5.out; have sW6 := hsW6.out; have sW7 := hsW7.out; have sW8 := hsW8.out; have sW9 := hsW9.out; have sW10 := hsW10.out; have sW11 := hsW11.out; omega))
  replace ho_t4 := Lib.hid (ho_t4.out.span hsp (by have sW1 := hsW1.out; have sW2 := hsW2.out; have sW3 := hsW3.out; have sW4 := hsW4.out; have sW5 := hsW5.out; have sW6 := hsW6.out; have sW7 := hsW7.out; have sW8 := hsW8.out; have sW9 := hsW9.out; have sW10 := hsW10.out; have sW11 := hsW11.out; omega))
  replace ho_t7 := Lib.hid (ho_t7.out.span hsp (by have sW1 := hsW1.out; have sW2 := hsW2.out; have sW3 := hsW3.out; have sW4 := hsW4.out; have sW5 := hsW5.out; have sW6 := hsW6.out; have sW7 := hsW7.out; have sW8 := hsW8.out; have sW9 := hsW9.out; have sW10 := hsW10.out; have sW11 := hsW11.out; omega))
  replace ho_g0 := Lib.hid hn_g0
  replace HB := Lib.hid (HB.out.trans (hsp.below (by have sW1 := hsW1.out; have sW2 := hsW2.out; have sW3 := hsW3.out; have sW4 := hsW4.out; have sW5 := hsW5.out; have sW6 := hsW6.out; have sW7 := hsW7.out; have sW8 := hsW8.out; have sW9 := hsW9.out; have sW10 := hsW10.out; have sW11 := hsW11.out; omega)))
  clear hsp hn_g0
  go_wp2_with fail
  refine (heldVersionS_law v_g0 ((SetValue_r xs0 a1 a2 a3).1) 1 W11 (OwnV.rdm ho_g0.out (SetValue_tot xs0 a1 a2 a3 hn0)) (SetValue_tot xs0 a1 a2 a3 hn0) (SetValue_lines xs0 a1 a2 a3 hn0) (by omega) (by omega)).mono ?_
  rintro e W12 ⟨rfl, hb⟩
  have hsW12 : Hid (W11.heap.size ≤ W12.heap.size) := Lib.hid hb.size
  replace ho_t2 := Lib.hid (ho_t2.out.below hb)
  replace ho_w0 := Lib.hid (ho_w0.out.below hb)
  replace ho_t4 := Lib.hid (ho_t4.out.below hb)
  replace ho_g0 := Lib.hid (ho_g0.out.below hb)
  replace ho_t7 := Lib.hid (ho_t7.out.below hb)
  replace HB := Lib.hid (Below.step HB.out hb)
  clear hb
  go_wp2_with fail
  refine (toVersionS_any _ xs0 W12 (HI0.out.below HB.out) hn0).mono ?_
  rintro e W13 ⟨t13, rfl, ho, hb⟩
  have ho_t13 := Lib.hid ho
  clear ho
  have hsW13 : Hid (W12.heap.size ≤ W13.heap.size) := Lib.hid hb.size
  replace ho_t2 := Lib.hid (ho_t2.out.below hb)
  replace ho_w0 := Lib.hid (ho_w0.out.below hb)
  replace ho_t4 := Lib.hid (ho_t4.out.below hb)
  replace ho_g0 := Lib.hid (ho_g0.out.below hb)
  replace ho_t7 := Lib.hid (ho_t7.out.below hb)
  replace HB := Lib.hid (Below.step HB.out hb)
  clear hb
  go_wp2_with fail
  refine (iSetValue_law t13 xs0 a1 a2 a3 W13 (OwnV.rd ho_t13.out (tot_big hn0)) hn0 HQ0.out p1 hn2 p3).mono ?_
  rintro e W14 ⟨v_h0, rfl, hoh0, hb⟩
  have ho_h0 := Lib.hid hoh0
  clear hoh0
  have hsW14 : Hid (W13.heap.size ≤ W14.heap.size) := Lib.hid hb.size
  replace ho_t2 := Lib.hid (ho_t2.out.below hb)
  replace ho_w0 := Lib.hid (ho_w0.out.below hb)
  replace ho_t4 := Lib.hid (ho_t4.out.below hb)
  replace ho_g0 := Lib.hid (ho_g0.out.below hb)
  replace ho_t7 := Lib.hid (ho_t7.out.below hb)
  replace ho_t13 := Lib.hid (ho_t13.out.below hb)
  replace HB := Lib.hid (Below.step HB.out hb)
  clear hb
  go_wp2_with fail
  refine (eqVersionS_same v_h0 v_w0 ((SetValue_r xs0 a1 a2 a3).1) W14 (OwnV.rd ho_h0.out (SetValue_tot xs0 a1 a2 a3 hn0)) (OwnV.rd ho_w0.out (SetValue_tot xs0 a1 a2 a3 hn0))).mono ?_
  rintro e W15 ⟨rfl, hb⟩
  have hsW15 : Hid (W14.heap.size ≤ W15.heap.size) := Lib.hid hb.size
  replace ho_t2 := Lib.hid (ho_t2.out.below hb)
  replace ho_w0 := Lib.hid (ho_w0.out.below hb)
  replace ho_t4 := Lib.hid (ho_t4.out.below hb)
  replace ho_g0 := Lib.hid (ho_g0.out.below hb)
  replace ho_t7 := Lib.hid (ho_t7.out.below hb)
  replace ho_t13 := Lib.hid (ho_t13.out.below hb)
  replace ho_h0 := Lib.hid (ho_h0.out.below hb)
  replace HB := Lib.hid (Below.step HB.out hb)
  clear hb
  go_wp2_with fail
  refine (heldVersionS_law v_g0 ((SetValue_r xs0 a1 a2 a3).1) 1 W15 (OwnV.rdm ho_g0.out (SetValue_tot xs0 a1 a2 a3 hn0)) (SetValue_tot xs0 a1 a2 a3 hn0) (SetValue_lines xs0 a1 a2 a3 hn0) (by omega) (by omega)).mono ?_
  rintro e W16 ⟨rfl, hb⟩
  have hsW16 : Hid (W15.heap.size ≤ W16.heap.size) := Lib.hid hb.size
  replace ho_t2 := Lib.hid (ho_t2.out.below hb)
  replace ho_w0 := Lib.hid (ho_w0.out.below hb)
  replace ho_t4 := Lib.hid (ho_t4.out.below hb)
  replace ho_g0 := Lib.hid (ho_g0.out.below hb)
  replace ho_t7 := Lib.hid (ho_t7.out.below hb)
  replace ho_t13 := Lib.hid (ho_t13.out.below hb)
  replace ho_h0 := Lib.hid (ho_h0.out.below hb)
  replace HB := Lib.hid (Below.step HB.out hb)
  clear hb
  go_wp2_with fail
  go_ret
  exact ⟨rfl, HB.out⟩

namespace LFnExactSetValue
open Go.ChangeShapes Go.WideShapes Go.ChangeAt Go.RowKit
open Go.ChangeMaps (open_string shut_string)
set_option linter.unusedVariables false
set_option maxRecDepth 100000 in
theorem lifted (os : Os) (started : os.Started) (H : Type) (enc : TypeId × Value → H) :
    ReturnsInHanded {} Try.checked os 9 .any (Rows.fnExactSetValueSpec.pre6 enc Try.prog Try.f9 Rows.fnExactSetValueRow.domain false) (Rows.fnExactSetValueSpec.post enc Try.prog Try.f9 false true false false) := by
  refine returnsInHanded_of_change (C := Try.checked) own started (by kernel_rfl) Try.func9
    (ChangeSpec.witness6 (enc := enc) (C := Try.checked) false ⟨#[], #[.slice none 0 0, .int .i64 0, .string ⟨#[]⟩, .int .i64 0], []⟩ 8 (by kernel_rfl) (by kernel_rfl) (by kernel_rfl) (by kernel_rfl)) ?_
  intro W base args ds gs before hval0 hW hcnd _
  have hval : ∀ (j : Nat) t v, Try.f9.params[j]? = some t → args[j]? = some v → Value.okWide Try.prog W .any base t v := hval0
  have hW' := hW
  obtain ⟨p, q, hA0, hV, rfl, hfz, hnd⟩ := hW
  have hA : DataW.TrodAll enc Try.prog W 0 (fun _ => true) true Try.f9.params.toList args.toList ds p := hA0
  rw [Try.params9] at hA hval
  obtain ⟨v0, vs0, d0, ds0, p0, q0, hargs, rfl, rfl, h0, r0⟩ := trodAll_cons hA
  obtain ⟨v1, vs1, d1, ds1, p1, q1, rfl, rfl, rfl, h1, r1⟩ := trodAll_cons r0
  obtain ⟨v2, vs2, d2, ds2, p2, q2, rfl, rfl, rfl, h2, r2⟩ := trodAll_cons r1
  obtain ⟨v3, vs3, d3, ds3, p3, q3, rfl, rfl, rfl, h3, r3⟩ := trodAll_cons r2
  obtain ⟨rfl, rfl, rfl⟩ := trodAll_nil r3
  obtain rfl : args = #[v0, v1, v2, v3] := by cases args; simp_all
  obtain ⟨rfl, rfl⟩ := trodVars_none hV
  have k0 := h0
  have lt0 : ∀ x ∈ p0, x.block < W.heap.size := by obtain ⟨m, hm⟩ := k0; exact DataW.trod_lt m _ _ _ hm
  obtain ⟨a0, len0, cap0, rfl⟩ := okWide_slice Try.underlying22 (hval 0 22 v0 rfl rfl)
  obtain ⟨xs0, w0, u0⟩ : ∃ xs : List Ver, RowV W a0 len0 cap0 xs ∧ ∀ x ∈ xs, okVer x := by
    obtain ⟨fuel, hf⟩ := h0
    exact openVersionS (by simpa [Value.cells] using hf)
  have k1 := h1
  have lt1 : ∀ x ∈ p1, x.block < W.heap.size := by obtain ⟨m, hm⟩ := k1; exact DataW.trod_lt m _ _ _ hm
  obtain ⟨a1, rfl, rfl, rfl, w1⟩ := open_int Try.underlying2 (hval 1 2 v1 rfl rfl) h1
  have k2 := h2
  have lt2 : ∀ x ∈ p2, x.block < W.heap.size := by obtain ⟨m, hm⟩ := k2; exact DataW.trod_lt m _ _ _ hm
  obtain ⟨a2, rfl, rfl, rfl, w2⟩ := open_string Try.underlying9 (hval 2 9 v2 rfl rfl) h2
  have k3 := h3
  have lt3 : ∀ x ∈ p3, x.block < W.heap.size := by obtain ⟨m, hm⟩ := k3; exact DataW.trod_lt m _ _ _ hm
  obtain ⟨a3, rfl, rfl, rfl, w3⟩ := open_int Try.underlying2 (hval 3 2 v3 rfl rfl) h3
  clear hA0 hval0
  refine (walk_FnExactSetValue a0 len0 cap0 xs0 a1 a2 a3 W w0 u0 w1 w2 w3).mono fun e W' ⟨he, bel⟩ => ?_
  subst he
  exact ⟨_, rfl, _, _, _, [], _, [], hW', trodAll_mk1 (shut_bool Try.underlying4 _), (trodAll_cons_mk (Below.trod laidOut (by kernel_rfl) (of_decide_eq_true (by kernel_rfl)) k0 bel lt0) (trodAll_cons_mk (Below.trod laidOut (by kernel_rfl) (of_decide_eq_true (by kernel_rfl)) k1 bel lt1) (trodAll_cons_mk (Below.trod laidOut (by kernel_rfl) (of_decide_eq_true (by kernel_rfl)) k2 bel lt2) (trodAll_cons_mk (Below.trod laidOut (by kernel_rfl) (of_decide_eq_true (by kernel_rfl)) k3 bel lt3) trodAll_mk0)))), rfl, bel.frame _, fun h => by cases h⟩
theorem over : Rows.fnExactSetValueRow.holds Try.pinned (OpenSpec.ofChange Rows.fnExactSetValueSpec) :=
  OpenClaim.holds_of_wide 9 Try.f9 rfl rfl rfl rfl rfl rfl rfl ⟨rfl, rfl, rfl, rfl, rfl⟩ rfl rfl rfl rfl rfl (by kernel_rfl) Try.func9 (by kernel_rfl)
    (of_decide_eq_true (by kernel_rfl)) (by unfold Func.isWrapper; first | (rw [if_pos (by decide +kernel)]; kernel_rfl) | (rw [if_neg (by decide +kernel)]; exact ⟨rfl, rfl⟩))
    (fun os started H enc _ => lifted os started H enc)
end LFnExactSetValue
/-- The statement. -/
theorem fnExactSetValue_holds : Rows.FnExactSetValueSaid := LFnExactSetValue.over
#print axioms fnExactSetValue_holds

end Go.Proofs.Ytklllcehndfcpaa
