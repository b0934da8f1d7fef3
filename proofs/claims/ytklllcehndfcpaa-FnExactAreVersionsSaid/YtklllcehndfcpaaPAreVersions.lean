/- For every list of versions the program's AreVersions and the reference's AreVersions answer the same, and the list is left as it was. No condition. -/
import Derived.Test.YtklllcehndfcpaaVersB
import Derived.Test.YtklllcehndfcpaaSpans
import Derived.Test.YtklllcehndfcpaaLift
namespace Go.Proofs.Ytklllcehndfcpaa
open Go.RowKit
set_option maxHeartbeats 4000000 in
set_option maxRecDepth 20000 in
theorem walk_FnExactAreVersions (a0 : Option Addr) (len0 cap0 : Nat) (xs0 : List Ver) (w : World) (p0 : RowV w a0 len0 cap0 xs0) (q0 : ∀ x ∈ xs0, okVer x) :
    Calls Try.prog 3 #[.slice a0 len0 cap0] w fun e w' => e = .returned (.bool true) ∧ Below w.heap.size w w' := by
  have HB : Hid (Below w.heap.size w w) := Lib.hid (Below.refl _ _)
  have HP0 := Lib.hid p0
  have HQ0 := Lib.hid q0
  have hmax0 := p0.max
  have hlen0 := p0.len
  clear p0 q0
  go_enter Try.func3, Try.ntmps3
  go_wp2_with fail
  refine (szVersionS_any a0 len0 cap0 xs0 1048576 w (HP0.out.below HB.out) (by omega) (by omega)).mono ?_
  rintro e W1 ⟨r0, rfl, hr0, hb⟩
  have hsW1 : Hid (w.heap.size ≤ W1.heap.size) := Lib.hid hb.size
  replace HB := Lib.hid (Below.step HB.out hb)
  clear hb
  by_cases hneg0 : r0 < 0
  · go_wp2_with fail
    go_ret
    exact ⟨rfl, HB.out⟩
  have hr00 : 0 ≤ r0 ∧ r0 + totV xs0 ≤ 1048576 := hr0.resolve_left (by omega)
  obtain ⟨hr0a, hr0b⟩ := hr00
  have hn0 : totV xs0 ≤ 1048576 := by omega
  have HI0 := Lib.hid (HP0.out.rd hn0)
  clear hr0
  go_wp2_with fail
  refine (toVersionS_any _ xs0 W1 (HI0.out.below HB.out) hn0).mono ?_
  rintro e W2 ⟨t2, rfl, ho, hb⟩
  have ho_t2 := Lib.hid ho
  clear ho
  have hsW2 : Hid (W1.heap.size ≤ W2.heap.size) := Lib.hid hb.size
  replace HB := Lib.hid (Below.step HB.out hb)
  clear hb
  go_wp2_with fail
  refine (sAreVersions_law t2 xs0 W2 (OwnV.rd ho_t2.out (tot_big hn0)) hn0 HQ0.out).mono ?_
  rintro e W3 ⟨rfl, hb⟩
  have hsW3 : Hid (W2.heap.size ≤ W3.heap.size) := Lib.hid hb.size
  replace ho_t2 := Lib.hid (ho_t2.out.below hb)
  replace HB := Lib.hid (Below.step HB.out hb)
  clear hb
  go_wp2_with fail
  refine (toVersionS_any _ xs0 W3 (HI0.out.below HB.out) hn0).mono ?_
  rintro e W4 ⟨t4, rfl, ho, hb⟩
  have ho_t4 := Lib.hid ho
  clear ho
  have hsW4 : Hid (W3.heap.size ≤ W4.heap.size) := Lib.hid hb.size
  replace ho_t2 := Lib.hid (ho_t2.out.below hb)
  replace HB := Lib.hid (Below.step HB.out hb)
  clear hb
  go_wp2_with fail
  refine (iAreVersions_law t4 xs0 W4 (OwnV.rd ho_t4.out (tot_big hn0)) hn0 HQ0.out).mono ?_
  rintro e W5 ⟨rfl, hb⟩
  have hsW5 : Hid (W4.heap.size ≤ W5.heap.size) := Lib.hid hb.size
  replace ho_t2 := Lib.hid (ho_t2.out.below hb)
  replace ho_t4 := Lib.hid (ho_t4.out.below hb)
  replace HB := Lib.hid (Below.step HB.out hb)
  clear hb
  go_wp2_with fail
  refine (toVersionS_any _ xs0 W5 (HI0.out.below HB.out) hn0).mono ?_
  rintro e W6 ⟨t6, rfl, ho, hb⟩
  have ho_t6 := Lib.hid ho
  clear ho
  have hsW6 : Hid (W5.heap.size ≤ W6.heap.size) := Lib.hid hb.size
  replace ho_t2 := Lib.hid (ho_t2.out.below hb)
  replace ho_t4 := Lib.hid (ho_t4.out.below hb)
  replace HB := Lib.hid (Below.step HB.out hb)
  clear hb
  go_wp2_with fail
  refine (eqVersionS_same t4 t6 xs0 W6 (OwnV.rd ho_t4.out (tot_big hn0)) (OwnV.rd ho_t6.out (tot_big hn0))).mono ?_
  rintro e W7 ⟨rfl, hb⟩
  have hsW7 : Hid (W6.heap.size ≤ W7.heap.size) := Lib.hid hb.size
  replace ho_t2 := Lib.hid (ho_t2.out.below hb)
  replace ho_t4 := Lib.hid (ho_t4.out.below hb)
  replace ho_t6 := Lib.hid (ho_t6.out.below hb)
  replace HB := Lib.hid (Below.step HB.out hb)
  clear hb
  go_wp2_with fail
  go_ret
  exact ⟨rfl, HB.out⟩

namespace LFnExactAreVersions
open Go.ChangeShapes Go.WideShapes Go.ChangeAt Go.RowKit
open Go.ChangeMaps (open_string shut_string)
set_option linter.unusedVariables false
set_option maxRecDepth 100000 in
theorem lifted (os : Os) (started : os.Started) (H : Type) (enc : TypeId × Value → H) :
    ReturnsInHanded {} Try.checked os 3 .any (Rows.fnExactAreVersionsSpec.pre6 enc Try.prog Try.f3 Rows.fnExactAreVersionsRow.domain false) (Rows.fnExactAreVersionsSpec.post enc Try.prog Try.f3 false true false false) := by
  refine returnsInHanded_of_change (C := Try.checked) own started (by kernel_rfl) Try.func3
    (ChangeSpec.witness6 (enc := enc) (C := Try.checked) false ⟨#[], #[.slice none 0 0], []⟩ 8 (by kernel_rfl) (by kernel_rfl) (by kernel_rfl) (by kernel_rfl)) ?_
  intro W base args ds gs before hval0 hW hcnd _
  have hval : ∀ (j : Nat) t v, Try.f3.params[j]? = some t → args[j]? = some v → Value.okWide Try.prog W .any base t v := hval0
  have hW' := hW
  obtain ⟨p, q, hA0, hV, rfl, hfz, hnd⟩ := hW
  have hA : DataW.TrodAll enc Try.prog W 0 (fun _ => true) true Try.f3.params.toList args.toList ds p := hA0
  rw [Try.params3] at hA hval
  obtain ⟨v0, vs0, d0, ds0, p0, q0, hargs, rfl, rfl, h0, r0⟩ := trodAll_cons hA
  obtain ⟨rfl, rfl, rfl⟩ := trodAll_nil r0
  obtain rfl : args = #[v0] := by cases args; simp_all
  obtain ⟨rfl, rfl⟩ := trodVars_none hV
  have k0 := h0
  have lt0 : ∀ x ∈ p0, x.block < W.heap.size := by obtain ⟨m, hm⟩ := k0; exact DataW.trod_lt m _ _ _ hm
  obtain ⟨a0, len0, cap0, rfl⟩ := okWide_slice Try.underlying22 (hval 0 22 v0 rfl rfl)
  obtain ⟨xs0, w0, u0⟩ : ∃ xs : List Ver, RowV W a0 len0 cap0 xs ∧ ∀ x ∈ xs, okVer x := by
    obtain ⟨fuel, hf⟩ := h0
    exact openVersionS (by simpa [Value.cells] using hf)
  clear hA0 hval0
  refine (walk_FnExactAreVersions a0 len0 cap0 xs0 W w0 u0).mono fun e W' ⟨he, bel⟩ => ?_
  subst he
  exact ⟨_, rfl, _, _, _, [], _, [], hW', trodAll_mk1 (shut_bool Try.underlying4 _), (trodAll_cons_mk (Below.trod laidOut (by kernel_rfl) (of_decide_eq_true (by kernel_rfl)) k0 bel lt0) trodAll_mk0), rfl, bel.frame _, fun h => by cases h⟩
theorem over : Rows.fnExactAreVersionsRow.holds Try.pinned (OpenSpec.ofChange Rows.fnExactAreVersionsSpec) :=
  OpenClaim.holds_of_wide 3 Try.f3 rfl rfl rfl rfl rfl rfl rfl ⟨rfl, rfl, rfl, rfl, rfl⟩ rfl rfl rfl rfl rfl (by kernel_rfl) Try.func3 (by kernel_rfl)
    (of_decide_eq_true (by kernel_rfl)) (by unfold Func.isWrapper; first | (rw [if_pos (by decide +kernel)]; kernel_rfl) | (rw [if_neg (by decide +kernel)]; exact ⟨rfl, rfl⟩))
    (fun os started H enc _ => lifted os started H enc)
end LFnExactAreVersions
/-- The statement. -/
theorem fnExactAreVersions_holds : Rows.FnExactAreVersionsSaid := LFnExactAreVersions.over
#print axioms fnExactAreVersions_holds

end Go.Proofs.Ytklllcehndfcpaa
