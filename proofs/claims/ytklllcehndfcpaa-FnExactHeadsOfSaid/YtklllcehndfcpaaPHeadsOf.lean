/- For every list of versions the program's HeadsOf and the reference's HeadsOf answer the same, the list is left as it was, and the answer is the caller's own. No condition. -/
import Derived.Test.YtklllcehndfcpaaHeads
import Derived.Test.YtklllcehndfcpaaSpans
import Derived.Test.YtklllcehndfcpaaLift
namespace Go.Proofs.Ytklllcehndfcpaa
open Go.RowKit
set_option maxHeartbeats 4000000 in
set_option maxRecDepth 20000 in
theorem walk_FnExactHeadsOf (a0 : Option Addr) (len0 cap0 : Nat) (xs0 : List Ver) (w : World) (p0 : RowV w a0 len0 cap0 xs0) (q0 : ∀ x ∈ xs0, okVer x) :
    Calls Try.prog 6 #[.slice a0 len0 cap0] w fun e w' => e = .returned (.bool true) ∧ Below w.heap.size w w' := by
  have HB : Hid (Below w.heap.size w w) := Lib.hid (Below.refl _ _)
  have HP0 := Lib.hid p0
  have HQ0 := Lib.hid q0
  have hmax0 := p0.max
  have hlen0 := p0.len
  clear p0 q0
  go_enter Try.func6, Try.ntmps6
  go_wp2_with fail
  refine (szVersionS_any a0 len0 cap0 xs0 1048576 w (HP0.out.below HB.out) (by omega) (by omega)).mono ?_
  rintro e W1 ⟨r0, rfl, hr0, hb⟩
  have hsW1 : Hid (w.heap.size ≤ W1.heap.size) := Lib.hid hb.size
  replace HB := Lib.hid (Below.step HB.out hb)
  clear hb
  by_cases hneg0 : r0 < 0
  · go_wp2_with fail
    go_ret
    exact ⟨rfl, HB.out⟩
  have hr00 : 0 ≤ r0 ∧ r0 + totV xs0 ≤ 1048576 := hr0.resolve_left (by omega)
  obtain ⟨hr0a, hr0b⟩ := hr00
  have hn0 : totV xs0 ≤ 1048576 := by omega
  have HI0 := Lib.hid (HP0.out.rd hn0)
  clear hr0
  go_wp2_with fail
  refine (toVersionS_any _ xs0 W1 (HI0.out.below HB.out) hn0).mono ?_
  rintro e W2 ⟨t2, rfl, ho, hb⟩
  have ho_t2 := Lib.hid ho
  clear ho
  have hsW2 : Hid (W1.heap.size ≤ W2.heap.size) := Lib.hid hb.size
  replace HB := Lib.hid (Below.step HB.out hb)
  clear hb
  go_wp2_with fail
  refine (sHeadsOf_law t2 xs0 W2 (OwnV.rd ho_t2.out (tot_big hn0)) hn0 HQ0.out).mono ?_
  rintro e W3 ⟨v_w0, rfl, how0, hb⟩
  have ho_w0 := Lib.hid (OwnB.of how0)
  clear how0
  have hsW3 : Hid (W2.heap.size ≤ W3.heap.size) := Lib.hid hb.size
  replace ho_t2 := Lib.hid (ho_t2.out.below hb)
  replace HB := Lib.hid (Below.step HB.out hb)
  clear hb
  go_wp2_with fail
  refine (toVersionS_any _ xs0 W3 (HI0.out.below HB.out) hn0).mono ?_
  rintro e W4 ⟨t4, rfl, ho, hb⟩
  have ho_t4 := Lib.hid ho
  clear ho
  have hsW4 : Hid (W3.heap.size ≤ W4.heap.size) := Lib.hid hb.size
  replace ho_t2 := Lib.hid (ho_t2.out.below hb)
  replace ho_w0 := Lib.hid (ho_w0.out.below hb)
  replace HB := Lib.hid (Below.step HB.out hb)
  clear hb
  go_wp2_with fail
  refine (iHeadsOf_law t4 xs0 W4 (OwnV.rd ho_t4.out (tot_big hn0)) hn0 HQ0.out).mono ?_
  rintro e W5 ⟨v_g0, rfl, hog0, hb⟩
  have ho_g0 := Lib.hid (OwnB.of hog0)
  clear hog0
  have hsW5 : Hid (W4.heap.size ≤ W5.heap.size) := Lib.hid hb.size
  replace ho_t2 := Lib.hid (ho_t2.out.below hb)
  replace ho_w0 := Lib.hid (ho_w0.out.below hb)
  replace ho_t4 := Lib.hid (ho_t4.out.below hb)
  replace HB := Lib.hid (Below.step HB.out hb)
  clear hb
  go_wp2_with fail
  refine (eqInt64S_same v_g0 v_w0 ((HeadsOf_r xs0).1) W5 (OwnB.sl ho_g0.out (HeadsOf_tot xs0 hn0)) (OwnB.sl ho_w0.out (HeadsOf_tot xs0 hn0))).mono ?_
  rintro e W6 ⟨rfl, hb⟩
  have hsW6 : Hid (W5.heap.size ≤ W6.heap.size) := Lib.hid hb.size
  replace ho_t2 := Lib.hid (ho_t2.out.below hb)
  replace ho_w0 := Lib.hid (ho_w0.out.below hb)
  replace ho_t4 := Lib.hid (ho_t4.out.below hb)
  replace ho_g0 := Lib.hid (ho_g0.out.below hb)
  replace HB := Lib.hid (Below.step HB.out hb)
  clear hb
  go_wp2_with fail
  refine (toVersionS_any _ xs0 W6 (HI0.out.below HB.out) hn0).mono ?_
  rintro e W7 ⟨t7, rfl, ho, hb⟩
  have ho_t7 := Lib.hid ho
  clear ho
  have hsW7 : Hid (W6.heap.size ≤ W7.heap.size) := Lib.hid hb.size
  replace ho_t2 := Lib.hid (ho_t2.out.below hb)
  replace ho_w0 := Lib.hid (ho_w0.out.below hb)
  replace ho_t4 := Lib.hid (ho_t4.out.below hb)
  replace ho_g0 := Lib.hid (ho_g0.out.below hb)
  replace HB := Lib.hid (Below.step HB.out hb)
  clear hb
  go_wp2_with fail
  refine (eqVersionS_same t4 t7 xs0 W7 (OwnV.rd ho_t4.out (tot_big hn0)) (OwnV.rd ho_t7.out (tot_big hn0))).mono ?_
  rintro e W8 ⟨rfl, hb⟩
  have hsW8 : Hid (W7.heap.size ≤ W8.heap.size) := Lib.hid hb.size
  replace ho_t2 := Lib.hid (ho_t2.out.below hb)
  replace ho_w0 := Lib.hid (ho_w0.out.below hb)
  replace ho_t4 := Lib.hid (ho_t4.out.below hb)
  replace ho_g0 := Lib.hid (ho_g0.out.below hb)
  replace ho_t7 := Lib.hid (ho_t7.out.below hb)
  replace HB := Lib.hid (Below.step HB.out hb)
  clear hb
  go_wp2_with fail
  have hcW9 := Lib.hid (cntVersionS_le xs0 (tot_big hn0))
  refine (markVersionS_law t4 xs0 1 W3.heap.size W4.heap.size W8 ho_t4.out (tot_big hn0) (lines_le hn0) (by omega) (by have cW9 := hcW9.out; omega) (by have sW1 := hsW1.out; have sW2 := hsW2.out; have sW3 := hsW3.out; have sW4 := hsW4.out; have sW5 := hsW5.out; have sW6 := hsW6.out; have sW7 := hsW7.out; have sW8 := hsW8.out; omega)).mono ?_
  rintro e W9 ⟨rfl, hn_t4, hsp⟩
  have hsW9 : Hid (W8.heap.size ≤ W9.heap.size) := Lib.hid hsp.size
  replace ho_t2 := Lib.hid (ho_t2.out.span hsp (by have sW1 := hsW1.out; have sW2 := hsW2.out; have sW3 := hsW3.out; have sW4 := hsW4.out; have sW5 := hsW5.out; have sW6 := hsW6.out; have sW7 := hsW7.out; have sW8 := hsW8.out; have sW9 := hsW9.out; omega))
  replace ho_w0 := Lib.hid (ho_w0.out.span hsp (by have sW1 := hsW1.out; have sW2 := hsW2.out; have sW3 := hsW3.out; have sW4 := hsW4.out; have sW5 := hsW5.out; have sW6 := hsW6.out; have sW7 := hsW7.out; have sW8 := hsW8.out; have sW9 := hsW9.out; omega))
  replace ho_g0 := Lib.hid (ho_g0.out.span hsp (by have sW1 := hsW1.out; have sW2 := hsW2.out; have sW3 := hsW3.out; have sW4 := hsW4.out; have sW5 := hsW5.out; have sW6 := hsW6.out; have sW7 := hsW7.out; have sW8 := hsW8.out; have sW9 := hsW9.out; omega))
  replace ho_t7 := Lib.hid (ho_t7.out.span hsp (by have sW1 := hsW1.out; have sW2 := hsW2.out; have sW3 := hsW3.out; have sW4 := hsW4.out; have sW5 := hsW5.out; have sW6 := hsW6.out; have sW7 := hsW7.out; have sW8 := hsW8.out; have sW9 := hsW9.out; omega))
  replace ho_t4 := Lib.hid hn_t4
  replace HB := Lib.hid (HB.out.trans (hsp.below (by have sW1 := hsW1.out; have sW2 := hsW2.out; have sW3 := hsW3.out; have sW4 := hsW4.out; have sW5 := hsW5.out; have sW6 := hsW6.out; have sW7 := hsW7.out; have sW8 := hsW8.out; have sW9 := hsW9.out; omega)))
  clear hsp hn_t4
  go_wp2_with fail
  refine (eqInt64S_same v_g0 v_w0 ((HeadsOf_r xs0).1) W9 (OwnB.sl ho_g0.out (HeadsOf_tot xs0 hn0)) (OwnB.sl ho_w0.out (HeadsOf_tot xs0 hn0))).mono ?_
  rintro e W10 ⟨rfl, hb⟩
  have hsW10 : Hid (W9.heap.size ≤ W10.heap.size) := Lib.hid hb.size
  replace ho_t2 := Lib.hid (ho_t2.out.below hb)
  replace ho_w0 := Lib.hid (ho_w0.out.below hb)
  replace ho_t4 := Lib.hid (ho_t4.out.below hb)
  replace ho_g0 := Lib.hid (ho_g0.out.below hb)
  replace ho_t7 := Lib.hid (ho_t7.out.below hb)
  replace HB := Lib.hid (Below.step HB.out hb)
  clear hb
  go_wp2_with fail
  have hcW11 := Lib.hid (cntInt64S_le ((HeadsOf_r xs0).1) (HeadsOf_tot xs0 hn0))
  refine (markInt64S_law v_g0 ((HeadsOf_r xs0).1) 1 W4.heap.size W10 ho_g0.out.1 (HeadsOf_tot xs0 hn0) (by omega) (by have cW9 := hcW9.out; have cW11 := hcW11.out; omega)).mono ?_
  rintro e W11 ⟨rfl, hn0, hg⟩
  obtain ⟨hn_g0, hsp⟩ := OwnB.mark ho_g0.out hn0 hg (by have sW1 := hsW1.out; have sW2 := hsW2.out; have sW3 := hsW3.out; have sW4 := hsW4.out; have sW5 := hsW5.out; have sW6 := hsW6.out; have sW7 := hsW7.out; have sW8 := hsW8.out; have sW9 := hsW9.out; have sW10 := hsW10.out; omega)
  have hsW11 : Hid (W10.heap.size ≤ W11.heap.size) := Lib.hid hsp.size
  replace ho_t2 := Lib.hid (ho_t2.out.span hsp (by have sW1 := hsW1.out; have sW2 := hsW2.out; have sW3 := hsW3.out; have sW4 := hsW4.out; have sW5 := hsW5.out; have sW6 := hsW6.out; have sW7 := hsW7.out; have sW8 := hsW8.out; have sW9 := hsW9.out; have sW10 := hsW10.out; have sW11 := hsW11.out; omega))
  replace ho_w0 := Lib.hid (ho_w0.out.span hsp (by have sW1 := hsW1.out; have sW2 := hsW2.out; have sW3 := hsW3.out; have sW4 := hsW4.out; have sW5 := hsW5.out; have sW6 := hsW6.out; have sW7 := hsW7.out; have sW8 := hsW8.out; have sW9 := hsW9.out; have sW10 := hsW10.out; have sW11 := hsW11.out; omega))
  replace ho_t4 := Lib.hid (ho_t4.out.span hsp (by have sW1 := hsW1.out; have sW2 := hsW2.out; have sW3 := hsW3.out; have sW4 := hsW4.out; have sW5 := hsW5.out; have sW6 := hsW6.out; have sW7 := hsW7.out; have sW8 := hsW8.out; have sW9 := hsW9.out; have sW10 := hsW10.out; have sW11 := hsW11.out; omega))
  replace ho_t7 := Lib.hid (ho_t7.out.span hsp (by have sW1 := hsW1.out; have sW2 := hsW2.out; have sW3 := hsW3.out; have sW4 := hsW4.out; have sW5 := hsW5.out; have sW6 := hsW6.out; have sW7 := hsW7.out; have sW8 := hsW8.out; have sW9 := hsW9.out; have sW10 := hsW10.out; have sW11 := hsW11.out; omega))
  replace ho_g0 := Lib.hid hn_g0
  replace HB := Lib.hid (HB.out.trans (hsp.below (by have sW1 := hsW1.out; have sW2 := hsW2.out; have sW3 := hsW3.out; have sW4 := hsW4.out; have sW5 := hsW5.out; have sW6 := hsW6.out; have sW7 := hsW7.out; have sW8 := hsW8.out; have sW9 := hsW9.out; have sW10 := hsW10.out; have sW11 := hsW11.out; omega)))
  clear hsp hn_g0 hn0 hg
  go_wp2_with fail
  refine (heldInt64S_law v_g0 ((HeadsOf_r xs0).1) 1 W11 (OwnB.sl ho_g0.out (by rw [mkInt64S_len]; exact (HeadsOf_tot xs0 hn0))) (HeadsOf_tot xs0 hn0) (by omega) (by omega)).mono ?_
  rintro e W12 ⟨rfl, hb⟩
  have hsW12 : Hid (W11.heap.size ≤ W12.heap.size) := Lib.hid hb.size
  replace ho_t2 := Lib.hid (ho_t2.out.below hb)
  replace ho_w0 := Lib.hid (ho_w0.out.below hb)
  replace ho_t4 := Lib.hid (ho_t4.out.below hb)
  replace ho_g0 := Lib.hid (ho_g0.out.below hb)
  replace ho_t7 := Lib.hid (ho_t7.out.below hb)
  replace HB := Lib.hid (Below.step HB.out hb)
  clear hb
  go_wp2_with fail
  refine (toVersionS_any _ xs0 W12 (HI0.out.below HB.out) hn0).mono ?_
  rintro e W13 ⟨t13, rfl, ho, hb⟩
  have ho_t13 := Lib.hid ho
  clear ho
  have hsW13 : Hid (W12.heap.size ≤ W13.heap.size) := Lib.hid hb.size
  replace ho_t2 := Lib.hid (ho_t2.out.below hb)
  replace ho_w0 := Lib.hid (ho_w0.out.below hb)
  replace ho_t4 := Lib.hid (ho_t4.out.below hb)
  replace ho_g0 := Lib.hid (ho_g0.out.below hb)
  replace ho_t7 := Lib.hid (ho_t7.out.below hb)
  replace HB := Lib.hid (Below.step HB.out hb)
  clear hb
  go_wp2_with fail
  refine (iHeadsOf_law t13 xs0 W13 (OwnV.rd ho_t13.out (tot_big hn0)) hn0 HQ0.out).mono ?_
  rintro e W14 ⟨v_h0, rfl, hoh0, hb⟩
  have ho_h0 := Lib.hid (OwnB.of hoh0)
  clear hoh0
  have hsW14 : Hid (W13.heap.size ≤ W14.heap.size) := Lib.hid hb.size
  replace ho_t2 := Lib.hid (ho_t2.out.below hb)
  replace ho_w0 := Lib.hid (ho_w0.out.below hb)
  replace ho_t4 := Lib.hid (ho_t4.out.below hb)
  replace ho_g0 := Lib.hid (ho_g0.out.below hb)
  replace ho_t7 := Lib.hid (ho_t7.out.below hb)
  replace ho_t13 := Lib.hid (ho_t13.out.below hb)
  replace HB := Lib.hid (Below.step HB.out hb)
  clear hb
  go_wp2_with fail
  refine (eqInt64S_same v_h0 v_w0 ((HeadsOf_r xs0).1) W14 (OwnB.sl ho_h0.out (HeadsOf_tot xs0 hn0)) (OwnB.sl ho_w0.out (HeadsOf_tot xs0 hn0))).mono ?_
  rintro e W15 ⟨rfl, hb⟩
  have hsW15 : Hid (W14.heap.size ≤ W15.heap.size) := Lib.hid hb.size
  replace ho_t2 := Lib.hid (ho_t2.out.below hb)
  replace ho_w0 := Lib.hid (ho_w0.out.below hb)
  replace ho_t4 := Lib.hid (ho_t4.out.below hb)
  replace ho_g0 := Lib.hid (ho_g0.out.below hb)
  replace ho_t7 := Lib.hid (ho_t7.out.below hb)
  replace ho_t13 := Lib.hid (ho_t13.out.below hb)
  replace ho_h0 := Lib.hid (ho_h0.out.below hb)
  replace HB := Lib.hid (Below.step HB.out hb)
  clear hb
  go_wp2_with fail
  refine (heldInt64S_law v_g0 ((HeadsOf_r xs0).1) 1 W15 (OwnB.sl ho_g0.out (by rw [mkInt64S_len]; exact (HeadsOf_tot xs0 hn0))) (HeadsOf_tot xs0 hn0) (by omega) (by omega)).mono ?_
  rintro e W16 ⟨rfl, hb⟩
  have hsW16 : Hid (W15.heap.size ≤ W16.heap.size) := Lib.hid hb.size
  replace ho_t2 := Lib.hid (ho_t2.out.below hb)
  replace ho_w0 := Lib.hid (ho_w0.out.below hb)
  replace ho_t4 := Lib.hid (ho_t4.out.below hb)
  replace ho_g0 := Lib.hid (ho_g0.out.below hb)
  replace ho_t7 := Lib.hid (ho_t7.out.below hb)
  replace ho_t13 := Lib.hid (ho_t13.out.below hb)
  replace ho_h0 := Lib.hid (ho_h0.out.below hb)
  replace HB := Lib.hid (Below.step HB.out hb)
  clear hb
  go_wp2_with fail
  go_ret
  exact ⟨rfl, HB.out⟩

namespace LFnExactHeadsOf
open Go.ChangeShapes Go.WideShapes Go.ChangeAt Go.RowKit
open Go.ChangeMaps (open_string shut_string)
set_option linter.unusedVariables false
set_option maxRecDepth 100000 in
theorem lifted (os : Os) (started : os.Started) (H : Type) (enc : TypeId × Value → H) :
    ReturnsInHanded {} Try.checked os 6 .any (Rows.fnExactHeadsOfSpec.pre6 enc Try.prog Try.f6 Rows.fnExactHeadsOfRow.domain false) (Rows.fnExactHeadsOfSpec.post enc Try.prog Try.f6 false true false false) := by
  refine returnsInHanded_of_change (C := Try.checked) own started (by kernel_rfl) Try.func6
    (ChangeSpec.witness6 (enc := enc) (C := Try.checked) false ⟨#[], #[.slice none 0 0], []⟩ 8 (by kernel_rfl) (by kernel_rfl) (by kernel_rfl) (by kernel_rfl)) ?_
  intro W base args ds gs before hval0 hW hcnd _
  have hval : ∀ (j : Nat) t v, Try.f6.params[j]? = some t → args[j]? = some v → Value.okWide Try.prog W .any base t v := hval0
  have hW' := hW
  obtain ⟨p, q, hA0, hV, rfl, hfz, hnd⟩ := hW
  have hA : DataW.TrodAll enc Try.prog W 0 (fun _ => true) true Try.f6.params.toList args.toList ds p := hA0
  rw [Try.params6] at hA hval
  obtain ⟨v0, vs0, d0, ds0, p0, q0, hargs, rfl, rfl, h0, r0⟩ := trodAll_cons hA
  obtain ⟨rfl, rfl, rfl⟩ := trodAll_nil r0
  obtain rfl : args = #[v0] := by cases args; simp_all
  obtain ⟨rfl, rfl⟩ := trodVars_none hV
  have k0 := h0
  have lt0 : ∀ x ∈ p0, x.block < W.heap.size := by obtain ⟨m, hm⟩ := k0; exact DataW.trod_lt m _ _ _ hm
  obtain ⟨a0, len0, cap0, rfl⟩ := okWide_slice Try.underlying22 (hval 0 22 v0 rfl rfl)
  obtain ⟨xs0, w0, u0⟩ : ∃ xs : List Ver, RowV W a0 len0 cap0 xs ∧ ∀ x ∈ xs, okVer x := by
    obtain ⟨fuel, hf⟩ := h0
    exact openVersionS (by simpa [Value.cells] using hf)
  clear hA0 hval0
  refine (walk_FnExactHeadsOf a0 len0 cap0 xs0 W w0 u0).mono fun e W' ⟨he, bel⟩ => ?_
  subst he
  exact ⟨_, rfl, _, _, _, [], _, [], hW', trodAll_mk1 (shut_bool Try.underlying4 _), (trodAll_cons_mk (Below.trod laidOut (by kernel_rfl) (of_decide_eq_true (by kernel_rfl)) k0 bel lt0) trodAll_mk0), rfl, bel.frame _, fun h => by cases h⟩
theorem over : Rows.fnExactHeadsOfRow.holds Try.pinned (OpenSpec.ofChange Rows.fnExactHeadsOfSpec) :=
  OpenClaim.holds_of_wide 6 Try.f6 rfl rfl rfl rfl rfl rfl rfl ⟨rfl, rfl, rfl, rfl, rfl⟩ rfl rfl rfl rfl rfl (by kernel_rfl) Try.func6 (by kernel_rfl)
    (of_decide_eq_true (by kernel_rfl)) (by unfold Func.isWrapper; first | (rw [if_pos (by decide +kernel)]; kernel_rfl) | (rw [if_neg (by decide +kernel)]; exact ⟨rfl, rfl⟩))
    (fun os started H enc _ => lifted os started H enc)
end LFnExactHeadsOf
/-- The statement. -/
theorem fnExactHeadsOf_holds : Rows.FnExactHeadsOfSaid := LFnExactHeadsOf.over
#print axioms fnExactHeadsOf_holds

end Go.Proofs.Ytklllcehndfcpaa
