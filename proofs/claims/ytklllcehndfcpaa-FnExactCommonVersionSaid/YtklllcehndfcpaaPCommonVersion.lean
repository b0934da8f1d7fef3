/- For every list of versions and every two numbers the program's CommonVersion and the reference's CommonVersion answer the same, and the list is left as it was. No condition. -/
import Derived.Test.YtklllcehndfcpaaCommon
import Derived.Test.YtklllcehndfcpaaSpans
import Derived.Test.YtklllcehndfcpaaLift
namespace Go.Proofs.Ytklllcehndfcpaa
open Go.RowKit
set_option maxHeartbeats 4000000 in
set_option maxRecDepth 20000 in
theorem walk_FnExactCommonVersion (a0 : Option Addr) (len0 cap0 : Nat) (xs0 : List Ver) (a1 : Int) (a2 : Int) (w : World) (p0 : RowV w a0 len0 cap0 xs0) (q0 : ∀ x ∈ xs0, okVer x) (p1 : (Lit.int .i64 a1).wf = true) (p2 : (Lit.int .i64 a2).wf = true) :
    Calls Try.prog 5 #[.slice a0 len0 cap0, .int .i64 a1, .int .i64 a2] w fun e w' => e = .returned (.bool true) ∧ Below w.heap.size w w' := by
  have HB : Hid (Below w.heap.size w w) := Lib.hid (Below.refl _ _)
  have HP0 := Lib.hid p0
  have HQ0 := Lib.hid q0
  have hmax0 := p0.max
  have hlen0 := p0.len
  clear p0 q0
  go_enter Try.func5, Try.ntmps5
  go_wp2_with fail
  refine (szVersionS_any a0 len0 cap0 xs0 1048576 w (HP0.out.below HB.out) (by omega) (by omega)).mono ?_
  rintro e W1 ⟨r0, rfl, hr0, hb⟩
  have hsW1 : Hid (w.heap.size ≤ W1.heap.size) := Lib.hid hb.size
  replace HB := Lib.hid (Below.step HB.out hb)
  clear hb
  by_cases hneg0 : r0 < 0
  · go_wp2_with fail
    go_ret
    exact ⟨rfl, HB.out⟩
  have hr00 : 0 ≤ r0 ∧ r0 + totV xs0 ≤ 1048576 := hr0.resolve_left (by omega)
  obtain ⟨hr0a, hr0b⟩ := hr00
  have hn0 : totV xs0 ≤ 1048576 := by omega
  have HI0 := Lib.hid (HP0.out.rd hn0)
  clear hr0
  go_wp2_with fail
  refine (toVersionS_any _ xs0 W1 (HI0.out.below HB.out) hn0).mono ?_
  rintro e W2 ⟨t2, rfl, ho, hb⟩
  have ho_t2 := Lib.hid ho
  clear ho
  have hsW2 : Hid (W1.heap.size ≤ W2.heap.size) := Lib.hid hb.size
  replace HB := Lib.hid (Below.step HB.out hb)
  clear hb
  go_wp2_with fail
  refine (sCommonVersion_law t2 xs0 a1 a2 W2 (OwnV.rd ho_t2.out (tot_big hn0)) hn0 HQ0.out p1 p2).mono ?_
  rintro e W3 ⟨rfl, hb⟩
  have hsW3 : Hid (W2.heap.size ≤ W3.heap.size) := Lib.hid hb.size
  replace ho_t2 := Lib.hid (ho_t2.out.below hb)
  replace HB := Lib.hid (Below.step HB.out hb)
  clear hb
  go_wp2_with fail
  refine (toVersionS_any _ xs0 W3 (HI0.out.below HB.out) hn0).mono ?_
  rintro e W4 ⟨t4, rfl, ho, hb⟩
  have ho_t4 := Lib.hid ho
  clear ho
  have hsW4 : Hid (W3.heap.size ≤ W4.heap.size) := Lib.hid hb.size
  replace ho_t2 := Lib.hid (ho_t2.out.below hb)
  replace HB := Lib.hid (Below.step HB.out hb)
  clear hb
  go_wp2_with fail
  refine (iCommonVersion_law t4 xs0 a1 a2 W4 (OwnV.rd ho_t4.out (tot_big hn0)) hn0 HQ0.out p1 p2).mono ?_
  rintro e W5 ⟨rfl, hb⟩
  have hsW5 : Hid (W4.heap.size ≤ W5.heap.size) := Lib.hid hb.size
  replace ho_t2 := Lib.hid (ho_t2.out.below hb)
  replace ho_t4 := Lib.hid (ho_t4.out.below hb)
  replace HB := Lib.hid (Below.step HB.out hb)
  clear hb
  go_wp2_with fail
  refine (toVersionS_any _ xs0 W5 (HI0.out.below HB.out) hn0).mono ?_
  rintro e W6 ⟨t6, rfl, ho, hb⟩
  have ho_t6 := Lib.hid ho
  clear ho
  have hsW6 : Hid (W5.heap.size ≤ W6.heap.size) := Lib.hid hb.size
  replace ho_t2 := Lib.hid (ho_t2.out.below hb)
  replace ho_t4 := Lib.hid (ho_t4.out.below hb)
  replace HB := Lib.hid (Below.step HB.out hb)
  clear hb
  go_wp2_with fail
  refine (eqVersionS_same t4 t6 xs0 W6 (OwnV.rd ho_t4.out (tot_big hn0)) (OwnV.rd ho_t6.out (tot_big hn0))).mono ?_
  rintro e W7 ⟨rfl, hb⟩
  have hsW7 : Hid (W6.heap.size ≤ W7.heap.size) := Lib.hid hb.size
  replace ho_t2 := Lib.hid (ho_t2.out.below hb)
  replace ho_t4 := Lib.hid (ho_t4.out.below hb)
  replace ho_t6 := Lib.hid (ho_t6.out.below hb)
  replace HB := Lib.hid (Below.step HB.out hb)
  clear hb
  go_wp2_with fail
  go_ret
  exact ⟨rfl, HB.out⟩

namespace LFnExactCommonVersion
open Go.ChangeShapes Go.WideShapes Go.ChangeAt Go.RowKit
open Go.ChangeMaps (open_string shut_string)
set_option linter.unusedVariables false
set_option maxRecDepth 100000 in
theorem lifted (os : Os) (started : os.Started) (H : Type) (enc : TypeId × Value → H) :
    ReturnsInHanded {} Try.checked os 5 .any (Rows.fnExactCommonVersionSpec.pre6 enc Try.prog Try.f5 Rows.fnExactCommonVersionRow.domain false) (Rows.fnExactCommonVersionSpec.post enc Try.prog Try.f5 false true false false) := by
  refine returnsInHanded_of_change (C := Try.checked) own started (by kernel_rfl) Try.func5
    (ChangeSpec.witness6 (enc := enc) (C := Try.checked) false ⟨#[], #[.slice none 0 0, .int .i64 0, .int .i64 0], []⟩ 8 (by kernel_rfl) (by kernel_rfl) (by kernel_rfl) (by kernel_rfl)) ?_
  intro W base args ds gs before hval0 hW hcnd _
  have hval : ∀ (j : Nat) t v, Try.f5.params[j]? = some t → args[j]? = some v → Value.okWide Try.prog W .any base t v := hval0
  have hW' := hW
  obtain ⟨p, q, hA0, hV, rfl, hfz, hnd⟩ := hW
  have hA : DataW.TrodAll enc Try.prog W 0 (fun _ => true) true Try.f5.params.toList args.toList ds p := hA0
  rw [Try.params5] at hA hval
  obtain ⟨v0, vs0, d0, ds0, p0, q0, hargs, rfl, rfl, h0, r0⟩ := trodAll_cons hA
  obtain ⟨v1, vs1, d1, ds1, p1, q1, rfl, rfl, rfl, h1, r1⟩ := trodAll_cons r0
  obtain ⟨v2, vs2, d2, ds2, p2, q2, rfl, rfl, rfl, h2, r2⟩ := trodAll_cons r1
  obtain ⟨rfl, rfl, rfl⟩ := trodAll_nil r2
  obtain rfl : args = #[v0, v1, v2] := by cases args; simp_all
  obtain ⟨rfl, rfl⟩ := trodVars_none hV
  have k0 := h0
  have lt0 : ∀ x ∈ p0, x.block < W.heap.size := by obtain ⟨m, hm⟩ := k0; exact DataW.trod_lt m _ _ _ hm
  obtain ⟨a0, len0, cap0, rfl⟩ := okWide_slice Try.underlying22 (hval 0 22 v0 rfl rfl)
  obtain ⟨xs0, w0, u0⟩ : ∃ xs : List Ver, RowV W a0 len0 cap0 xs ∧ ∀ x ∈ xs, okVer x := by
    obtain ⟨fuel, hf⟩ := h0
    exact openVersionS (by simpa [Value.cells] using hf)
  have k1 := h1
  have lt1 : ∀ x ∈ p1, x.block < W.heap.size := by obtain ⟨m, hm⟩ := k1; exact DataW.trod_lt m _ _ _ hm
  obtain ⟨a1, rfl, rfl, rfl, w1⟩ := open_int Try.underlying2 (hval 1 2 v1 rfl rfl) h1
  have k2 := h2
  have lt2 : ∀ x ∈ p2, x.block < W.heap.size := by obtain ⟨m, hm⟩ := k2; exact DataW.trod_lt m _ _ _ hm
  obtain ⟨a2, rfl, rfl, rfl, w2⟩ := open_int Try.underlying2 (hval 2 2 v2 rfl rfl) h2
  clear hA0 hval0
  refine (walk_FnExactCommonVersion a0 len0 cap0 xs0 a1 a2 W w0 u0 w1 w2).mono fun e W' ⟨he, bel⟩ => ?_
  subst he
  exact ⟨_, rfl, _, _, _, [], _, [], hW', trodAll_mk1 (shut_bool Try.underlying4 _), (trodAll_cons_mk (Below.trod laidOut (by kernel_rfl) (of_decide_eq_true (by kernel_rfl)) k0 bel lt0) (trodAll_cons_mk (Below.trod laidOut (by kernel_rfl) (of_decide_eq_true (by kernel_rfl)) k1 bel lt1) (trodAll_cons_mk (Below.trod laidOut (by kernel_rfl) (of_decide_eq_true (by kernel_rfl)) k2 bel lt2) trodAll_mk0))), rfl, bel.frame _, fun h => by cases h⟩
theorem over : Rows.fnExactCommonVersionRow.holds Try.pinned (OpenSpec.ofChange Rows.fnExactCommonVersionSpec) :=
  OpenClaim.holds_of_wide 5 Try.f5 rfl rfl rfl rfl rfl rfl rfl ⟨rfl, rfl, rfl, rfl, rfl⟩ rfl rfl rfl rfl rfl (by kernel_rfl) Try.func5 (by kernel_rfl)
    (of_decide_eq_true (by kernel_rfl)) (by unfold Func.isWrapper; first | (rw [if_pos (by decide +kernel)]; kernel_rfl) | (rw [if_neg (by decide +kernel)]; exact ⟨rfl, rfl⟩))
    (fun os started H enc _ => lifted os started H enc)
end LFnExactCommonVersion
/-- The statement. -/
theorem fnExactCommonVersion_holds : Rows.FnExactCommonVersionSaid := LFnExactCommonVersion.over
#print axioms fnExactCommonVersion_holds

end Go.Proofs.Ytklllcehndfcpaa
