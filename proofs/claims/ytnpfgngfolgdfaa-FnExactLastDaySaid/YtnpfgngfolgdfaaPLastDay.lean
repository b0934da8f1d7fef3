/- For all terms, parts and days the program's LastDay and the reference's LastDay answer the same, and the terms are left as they were. No condition. -/
import Derived.Test.YtnpfgngfolgdfaaLastDay
import Derived.Test.YtnpfgngfolgdfaaOTerm
namespace Go.Proofs.Ytnpfgngfolgdfaa
open Go.RowKit

set_option maxHeartbeats 4000000 in
set_option maxRecDepth 20000 in
theorem walk_FnExactLastDay (a0 : Option Addr) (len0 cap0 : Nat) (xs0 : List Term) (a1 : ByteArray) (a2 : Int) (w : World) (p0 : RowS eTerm w a0 len0 cap0 xs0) (q0 : ∀ x ∈ xs0, okTerm x) (p1 : a1.size ≤ maxLen) (p2 : (Lit.int .i64 a2).wf = true) :
    Calls Try.prog 6 #[.slice a0 len0 cap0, .string a1, .int .i64 a2] w fun e w' => e = .returned (.bool true) ∧ Below w.heap.size w w' := by
  have hB : Below w.heap.size w w := Below.refl _ _
  have hmax0 := p0.max
  have hmax1 : a1.size ≤ 9223372036854775807 := p1
  by_cases hn1 : a1.size ≤ 1048576
  rotate_left
  · go_enter Try.func6, Try.ntmps6
    go_wp2_with fail
    go_ret
    exact ⟨rfl, hB⟩
  go_enter Try.func6, Try.ntmps6
  go_wp2_with fail
  by_cases hl0 : (len0 : Int) ≤ 1048576
  rotate_left
  · refine (szTermS_big a0 len0 cap0 1048576 w (by omega) (by omega) hmax0 (by omega)).mono ?_
    rintro e w' ⟨rfl, rfl⟩
    go_wp2_with fail
    go_ret
    exact ⟨rfl, hB⟩
  have hI0 := p0.sl (by omega)
  have hn0 : xs0.length ≤ 1048576 := by rw [p0.len]; omega
  refine (szTermS_ok _ xs0 1048576 w (by omega) (by omega) (hI0.below hB) q0).mono ?_
  rintro e W1 ⟨rfl, hb⟩
  have hsW1 := Lib.hid hb.size
  replace hB := Below.step hB hb
  clear hb
  by_cases ht0 : ((totTerm xs0 : Nat) : Int) ≤ 1048576
  rotate_left
  · rw [szr_neg ht0]
    go_wp2_with fail
    go_ret
    exact ⟨rfl, hB⟩
  rw [szr_pos ht0]
  go_wp2_with fail
  refine (toTermS_any _ xs0 W1 (hI0.below hB) hn0).mono ?_
  rintro e W2 ⟨t2, rfl, ho_t2, hb⟩
  have hk_t2 := Lib.hid (World.ownsRow.lt ho_t2)
  have hsW2 := Lib.hid hb.size
  replace hB := Below.step hB hb
  clear hb
  go_wp2_with fail
  refine (sLastDay_law t2 xs0 a1 a2 W2 (Sl.of_own ho_t2 (big_of hn0)) hn0 q0 hn1 p2).mono ?_
  rintro e W3 ⟨rfl, hb⟩
  have hsW3 := Lib.hid hb.size
  replace ho_t2 := ho_t2.below hb
  replace hB := Below.step hB hb
  clear hb
  go_wp2_with fail
  refine (toTermS_any _ xs0 W3 (hI0.below hB) hn0).mono ?_
  rintro e W4 ⟨t4, rfl, ho_t4, hb⟩
  have hk_t4 := Lib.hid (World.ownsRow.lt ho_t4)
  have hsW4 := Lib.hid hb.size
  replace ho_t2 := ho_t2.below hb
  replace hB := Below.step hB hb
  clear hb
  go_wp2_with fail
  refine (iLastDay_law t4 xs0 a1 a2 W4 (Sl.of_own ho_t4 (big_of hn0)) hn0 q0 hn1 p2).mono ?_
  rintro e W5 ⟨rfl, hb⟩
  have hsW5 := Lib.hid hb.size
  replace ho_t2 := ho_t2.below hb
  replace ho_t4 := ho_t4.below hb
  replace hB := Below.step hB hb
  clear hb
  go_wp2_with fail
  refine (toTermS_any _ xs0 W5 (hI0.below hB) hn0).mono ?_
  rintro e W6 ⟨t6, rfl, ho_t6, hb⟩
  have hk_t6 := Lib.hid (World.ownsRow.lt ho_t6)
  have hsW6 := Lib.hid hb.size
  replace ho_t2 := ho_t2.below hb
  replace ho_t4 := ho_t4.below hb
  replace hB := Below.step hB hb
  clear hb
  go_wp2_with fail
  refine (eqTermS_same t4 t6 xs0 W6 (Sl.of_own ho_t4 (big_of hn0)) (Sl.of_own ho_t6 (big_of hn0))).mono ?_
  rintro e W7 ⟨rfl, hb⟩
  have hsW7 := Lib.hid hb.size
  replace ho_t2 := ho_t2.below hb
  replace ho_t4 := ho_t4.below hb
  replace ho_t6 := ho_t6.below hb
  replace hB := Below.step hB hb
  clear hb
  go_wp2_with fail
  go_ret
  exact ⟨rfl, hB⟩

namespace LFnExactLastDay
open Go.ChangeShapes Go.WideShapes Go.ChangeAt Go.RowKit
open Go.ChangeMaps (open_string shut_string)
set_option linter.unusedVariables false
set_option maxRecDepth 100000 in
theorem lifted (os : Os) (started : os.Started) (H : Type) (enc : TypeId × Value → H) :
    ReturnsInHanded {} Try.checked os 6 .any (Rows.fnExactLastDaySpec.pre6 enc Try.prog Try.f6 Rows.fnExactLastDayRow.domain false) (Rows.fnExactLastDaySpec.post enc Try.prog Try.f6 false true false false) := by
  refine returnsInHanded_of_change (C := Try.checked) own started (by kernel_rfl) Try.func6
    (ChangeSpec.witness6 (enc := enc) (C := Try.checked) false ⟨#[], #[.slice none 0 0, .string ⟨#[]⟩, .int .i64 0], []⟩ 8 (by kernel_rfl) (by kernel_rfl) (by kernel_rfl) (by kernel_rfl)) ?_
  intro W base args ds gs before hval0 hW hcnd _
  have hval : ∀ (j : Nat) t v, Try.f6.params[j]? = some t → args[j]? = some v → Value.okWide Try.prog W .any base t v := hval0
  have hW' := hW
  obtain ⟨p, q, hA0, hV, rfl, hfz, hnd⟩ := hW
  have hA : DataW.TrodAll enc Try.prog W 0 (fun _ => true) true Try.f6.params.toList args.toList ds p := hA0
  rw [Try.params6] at hA hval
  obtain ⟨v0, vs0, d0, ds0, p0, q0, hargs, rfl, rfl, h0, r0⟩ := trodAll_cons hA
  obtain ⟨v1, vs1, d1, ds1, p1, q1, rfl, rfl, rfl, h1, r1⟩ := trodAll_cons r0
  obtain ⟨v2, vs2, d2, ds2, p2, q2, rfl, rfl, rfl, h2, r2⟩ := trodAll_cons r1
  obtain ⟨rfl, rfl, rfl⟩ := trodAll_nil r2
  obtain rfl : args = #[v0, v1, v2] := by cases args; simp_all
  obtain ⟨rfl, rfl⟩ := trodVars_none hV
  have k0 := h0
  have lt0 : ∀ x ∈ p0, x.block < W.heap.size := by obtain ⟨m, hm⟩ := k0; exact DataW.trod_lt m _ _ _ hm
  obtain ⟨a0, len0, cap0, rfl⟩ := okWide_slice Try.underlying32 (hval 0 32 v0 rfl rfl)
  obtain ⟨xs0, w0, u0⟩ : ∃ xs : List Term, RowS eTerm W a0 len0 cap0 xs ∧ ∀ x ∈ xs, okTerm x := by
    obtain ⟨fuel, hf⟩ := h0
    exact openTermS (by simpa [Value.cells] using hf)
  have k1 := h1
  have lt1 : ∀ x ∈ p1, x.block < W.heap.size := by obtain ⟨m, hm⟩ := k1; exact DataW.trod_lt m _ _ _ hm
  obtain ⟨a1, rfl, rfl, rfl, w1⟩ := open_string Try.underlying9 (hval 1 9 v1 rfl rfl) h1
  have k2 := h2
  have lt2 : ∀ x ∈ p2, x.block < W.heap.size := by obtain ⟨m, hm⟩ := k2; exact DataW.trod_lt m _ _ _ hm
  obtain ⟨a2, rfl, rfl, rfl, w2⟩ := open_int Try.underlying2 (hval 2 2 v2 rfl rfl) h2
  clear hA0 hval0
  refine (walk_FnExactLastDay a0 len0 cap0 xs0 a1 a2 W w0 u0 w1 w2).mono fun e W' ⟨he, bel⟩ => ?_
  subst he
  exact ⟨_, rfl, _, _, _, [], _, [], hW', trodAll_mk1 (shut_bool Try.underlying4 _), (trodAll_cons_mk (Below.trod laidOut (by kernel_rfl) (of_decide_eq_true (by kernel_rfl)) k0 bel lt0) (trodAll_cons_mk (Below.trod laidOut (by kernel_rfl) (of_decide_eq_true (by kernel_rfl)) k1 bel lt1) (trodAll_cons_mk (Below.trod laidOut (by kernel_rfl) (of_decide_eq_true (by kernel_rfl)) k2 bel lt2) trodAll_mk0))), rfl, bel.frame _, fun h => by cases h⟩
theorem over : Rows.fnExactLastDayRow.holds Try.pinned (OpenSpec.ofChange Rows.fnExactLastDaySpec) :=
  OpenClaim.holds_of_wide 6 Try.f6 rfl rfl rfl rfl rfl rfl rfl ⟨rfl, rfl, rfl, rfl, rfl⟩ rfl rfl rfl rfl rfl (by kernel_rfl) Try.func6 (by kernel_rfl)
    (of_decide_eq_true (by kernel_rfl)) (by unfold Func.isWrapper; first | (rw [if_pos (by decide +kernel)]; kernel_rfl) | (rw [if_neg (by decide +kernel)]; exact ⟨rfl, rfl⟩))
    (fun os started H enc _ => lifted os started H enc)
end LFnExactLastDay
/-- The statement. -/
theorem fnExactLastDay_holds : Rows.FnExactLastDaySaid := LFnExactLastDay.over
#print axioms fnExactLastDay_holds

end Go.Proofs.Ytnpfgngfolgdfaa
