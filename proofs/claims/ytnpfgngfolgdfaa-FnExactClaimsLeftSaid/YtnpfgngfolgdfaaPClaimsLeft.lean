/- For all terms, all claims and every part the program's ClaimsLeft and the reference's ClaimsLeft answer the same, and the lists are left as they were. No condition. -/
import Derived.Test.YtnpfgngfolgdfaaLClaimsLeft
import Derived.Test.YtnpfgngfolgdfaaOTerm
import Derived.Test.YtnpfgngfolgdfaaOClaim
namespace Go.Proofs.Ytnpfgngfolgdfaa
open Go.RowKit

set_option maxHeartbeats 4000000 in
set_option maxRecDepth 20000 in
theorem walk_FnExactClaimsLeft (a0 : Option Addr) (len0 cap0 : Nat) (xs0 : List Term) (a1 : Option Addr) (len1 cap1 : Nat) (xs1 : List Claim) (a2 : ByteArray) (w : World) (p0 : RowS eTerm w a0 len0 cap0 xs0) (q0 : ∀ x ∈ xs0, okTerm x) (p1 : RowS eClaim w a1 len1 cap1 xs1) (q1 : ∀ x ∈ xs1, okClaim x) (p2 : a2.size ≤ maxLen) :
    Calls Try.prog 8 #[.slice a0 len0 cap0, .slice a1 len1 cap1, .string a2] w fun e w' => e = .returned (.bool true) ∧ Below w.heap.size w w' := by
  have hB : Below w.heap.size w w := Below.refl _ _
  have hmax0 := p0.max
  have hmax1 := p1.max
  have hmax2 : a2.size ≤ 9223372036854775807 := p2
  by_cases hn2 : a2.size ≤ 1048576
  rotate_left
  · go_enter Try.func8, Try.ntmps8
    go_wp2_with fail
    go_ret
    exact ⟨rfl, hB⟩
  go_enter Try.func8, Try.ntmps8
  go_wp2_with fail
  by_cases hl0 : (len0 : Int) ≤ 1048576
  rotate_left
  · refine (szTermS_big a0 len0 cap0 1048576 w (by omega) (by omega) hmax0 (by omega)).mono ?_
    rintro e w' ⟨rfl, rfl⟩
    go_wp2_with fail
    go_ret
    exact ⟨rfl, hB⟩
  have hI0 := p0.sl (by omega)
  have hn0 : xs0.length ≤ 1048576 := by rw [p0.len]; omega
  refine (szTermS_ok _ xs0 1048576 w (by omega) (by omega) (hI0.below hB) q0).mono ?_
  rintro e W1 ⟨rfl, hb⟩
  have hsW1 := Lib.hid hb.size
  replace hB := Below.step hB hb
  clear hb
  by_cases ht0 : ((totTerm xs0 : Nat) : Int) ≤ 1048576
  rotate_left
  · rw [szr_neg ht0]
    go_wp2_with fail
    go_ret
    exact ⟨rfl, hB⟩
  rw [szr_pos ht0]
  go_wp2_with fail
  by_cases hl1 : (len1 : Int) ≤ (1048576 - ((totTerm xs0 : Nat) : Int))
  rotate_left
  · refine (szClaimS_big a1 len1 cap1 (1048576 - ((totTerm xs0 : Nat) : Int)) W1 (by omega) (by omega) hmax1 (by omega)).mono ?_
    rintro e w' ⟨rfl, rfl⟩
    go_wp2_with fail
    go_ret
    exact ⟨rfl, hB⟩
  have hI1 := p1.sl (by omega)
  have hn1 : xs1.length ≤ 1048576 := by rw [p1.len]; omega
  refine (szClaimS_ok _ xs1 (1048576 - ((totTerm xs0 : Nat) : Int)) W1 (by omega) (by omega) (hI1.below hB) q1).mono ?_
  rintro e W2 ⟨rfl, hb⟩
  have hsW2 := Lib.hid hb.size
  replace hB := Below.step hB hb
  clear hb
  by_cases ht1 : ((totClaim xs1 : Nat) : Int) ≤ (1048576 - ((totTerm xs0 : Nat) : Int))
  rotate_left
  · rw [szr_neg ht1]
    go_wp2_with fail
    go_ret
    exact ⟨rfl, hB⟩
  rw [szr_pos ht1]
  go_wp2_with fail
  refine (toTermS_any _ xs0 W2 (hI0.below hB) hn0).mono ?_
  rintro e W3 ⟨t3, rfl, ho_t3, hb⟩
  have hk_t3 := Lib.hid (World.ownsRow.lt ho_t3)
  have hsW3 := Lib.hid hb.size
  replace hB := Below.step hB hb
  clear hb
  go_wp2_with fail
  refine (toClaimS_any _ xs1 W3 (hI1.below hB) hn1).mono ?_
  rintro e W4 ⟨t4, rfl, ho_t4, hb⟩
  have hk_t4 := Lib.hid (World.ownsRow.lt ho_t4)
  have hsW4 := Lib.hid hb.size
  replace ho_t3 := ho_t3.below hb
  replace hB := Below.step hB hb
  clear hb
  go_wp2_with fail
  refine (sClaimsLeft_law t3 xs0 t4 xs1 a2 W4 (Sl.of_own ho_t3 (big_of hn0)) hn0 q0 (Sl.of_own ho_t4 (big_of hn1)) hn1 q1 hn2).mono ?_
  rintro e W5 ⟨rfl, hb⟩
  have hsW5 := Lib.hid hb.size
  replace ho_t3 := ho_t3.below hb
  replace ho_t4 := ho_t4.below hb
  replace hB := Below.step hB hb
  clear hb
  go_wp2_with fail
  refine (toTermS_any _ xs0 W5 (hI0.below hB) hn0).mono ?_
  rintro e W6 ⟨t6, rfl, ho_t6, hb⟩
  have hk_t6 := Lib.hid (World.ownsRow.lt ho_t6)
  have hsW6 := Lib.hid hb.size
  replace ho_t3 := ho_t3.below hb
  replace ho_t4 := ho_t4.below hb
  replace hB := Below.step hB hb
  clear hb
  go_wp2_with fail
  refine (toClaimS_any _ xs1 W6 (hI1.below hB) hn1).mono ?_
  rintro e W7 ⟨t7, rfl, ho_t7, hb⟩
  have hk_t7 := Lib.hid (World.ownsRow.lt ho_t7)
  have hsW7 := Lib.hid hb.size
  replace ho_t3 := ho_t3.below hb
  replace ho_t4 := ho_t4.below hb
  replace ho_t6 := ho_t6.below hb
  replace hB := Below.step hB hb
  clear hb
  go_wp2_with fail
  refine (iClaimsLeft_law t6 xs0 t7 xs1 a2 W7 (Sl.of_own ho_t6 (big_of hn0)) hn0 q0 (Sl.of_own ho_t7 (big_of hn1)) hn1 q1 hn2).mono ?_
  rintro e W8 ⟨rfl, hb⟩
  have hsW8 := Lib.hid hb.size
  replace ho_t3 := ho_t3.below hb
  replace ho_t4 := ho_t4.below hb
  replace ho_t6 := ho_t6.below hb
  replace ho_t7 := ho_t7.below hb
  replace hB := Below.step hB hb
  clear hb
  go_wp2_with fail
  refine (toTermS_any _ xs0 W8 (hI0.below hB) hn0).mono ?_
  rintro e W9 ⟨t9, rfl, ho_t9, hb⟩
  have hk_t9 := Lib.hid (World.ownsRow.lt ho_t9)
  have hsW9 := Lib.hid hb.size
  replace ho_t3 := ho_t3.below hb
  replace ho_t4 := ho_t4.below hb
  replace ho_t6 := ho_t6.below hb
  replace ho_t7 := ho_t7.below hb
  replace hB := Below.step hB hb
  clear hb
  go_wp2_with fail
  refine (eqTermS_same t6 t9 xs0 W9 (Sl.of_own ho_t6 (big_of hn0)) (Sl.of_own ho_t9 (big_of hn0))).mono ?_
  rintro e W10 ⟨rfl, hb⟩
  have hsW10 := Lib.hid hb.size
  replace ho_t3 := ho_t3.below hb
  replace ho_t4 := ho_t4.below hb
  replace ho_t6 := ho_t6.below hb
  replace ho_t7 := ho_t7.below hb
  replace ho_t9 := ho_t9.below hb
  replace hB := Below.step hB hb
  clear hb
  go_wp2_with fail
  refine (toClaimS_any _ xs1 W10 (hI1.below hB) hn1).mono ?_
  rintro e W11 ⟨t11, rfl, ho_t11, hb⟩
  have hk_t11 := Lib.hid (World.ownsRow.lt ho_t11)
  have hsW11 := Lib.hid hb.size
  replace ho_t3 := ho_t3.below hb
  replace ho_t4 := ho_t4.below hb
  replace ho_t6 := ho_t6.below hb
  replace ho_t7 := ho_t7.below hb
  replace ho_t9 := ho_t9.below hb
  replace hB := Below.step hB hb
  clear hb
  go_wp2_with fail
  refine (eqClaimS_same t7 t11 xs1 W11 (Sl.of_own ho_t7 (big_of hn1)) (Sl.of_own ho_t11 (big_of hn1))).mono ?_
  rintro e W12 ⟨rfl, hb⟩
  have hsW12 := Lib.hid hb.size
  replace ho_t3 := ho_t3.below hb
  replace ho_t4 := ho_t4.below hb
  replace ho_t6 := ho_t6.below hb
  replace ho_t7 := ho_t7.below hb
  replace ho_t9 := ho_t9.below hb
  replace ho_t11 := ho_t11.below hb
  replace hB := Below.step hB hb
  clear hb
  go_wp2_with fail
  go_ret
  exact ⟨rfl, hB⟩

namespace LFnExactClaimsLeft
open Go.ChangeShapes Go.WideShapes Go.ChangeAt Go.RowKit
open Go.ChangeMaps (open_string shut_string)
set_option linter.unusedVariables false
set_option maxRecDepth 100000 in
theorem lifted (os : Os) (started : os.Started) (H : Type) (enc : TypeId × Value → H) :
    ReturnsInHanded {} Try.checked os 8 .any (Rows.fnExactClaimsLeftSpec.pre6 enc Try.prog Try.f8 Rows.fnExactClaimsLeftRow.domain false) (Rows.fnExactClaimsLeftSpec.post enc Try.prog Try.f8 false true false false) := by
  refine returnsInHanded_of_change (C := Try.checked) own started (by kernel_rfl) Try.func8
    (ChangeSpec.witness6 (enc := enc) (C := Try.checked) false ⟨#[], #[.slice none 0 0, .slice none 0 0, .string ⟨#[]⟩], []⟩ 8 (by kernel_rfl) (by kernel_rfl) (by kernel_rfl) (by kernel_rfl)) ?_
  intro W base args ds gs before hval0 hW hcnd _
  have hval : ∀ (j : Nat) t v, Try.f8.params[j]? = some t → args[j]? = some v → Value.okWide Try.prog W .any base t v := hval0
  have hW' := hW
  obtain ⟨p, q, hA0, hV, rfl, hfz, hnd⟩ := hW
  have hA : DataW.TrodAll enc Try.prog W 0 (fun _ => true) true Try.f8.params.toList args.toList ds p := hA0
  rw [Try.params8] at hA hval
  obtain ⟨v0, vs0, d0, ds0, p0, q0, hargs, rfl, rfl, h0, r0⟩ := trodAll_cons hA
  obtain ⟨v1, vs1, d1, ds1, p1, q1, rfl, rfl, rfl, h1, r1⟩ := trodAll_cons r0
  obtain ⟨v2, vs2, d2, ds2, p2, q2, rfl, rfl, rfl, h2, r2⟩ := trodAll_cons r1
  obtain ⟨rfl, rfl, rfl⟩ := trodAll_nil r2
  obtain rfl : args = #[v0, v1, v2] := by cases args; simp_all
  obtain ⟨rfl, rfl⟩ := trodVars_none hV
  have k0 := h0
  have lt0 : ∀ x ∈ p0, x.block < W.heap.size := by obtain ⟨m, hm⟩ := k0; exact DataW.trod_lt m _ _ _ hm
  obtain ⟨a0, len0, cap0, rfl⟩ := okWide_slice Try.underlying32 (hval 0 32 v0 rfl rfl)
  obtain ⟨xs0, w0, u0⟩ : ∃ xs : List Term, RowS eTerm W a0 len0 cap0 xs ∧ ∀ x ∈ xs, okTerm x := by
    obtain ⟨fuel, hf⟩ := h0
    exact openTermS (by simpa [Value.cells] using hf)
  have k1 := h1
  have lt1 : ∀ x ∈ p1, x.block < W.heap.size := by obtain ⟨m, hm⟩ := k1; exact DataW.trod_lt m _ _ _ hm
  obtain ⟨a1, len1, cap1, rfl⟩ := okWide_slice Try.underlying25 (hval 1 25 v1 rfl rfl)
  obtain ⟨xs1, w1, u1⟩ : ∃ xs : List Claim, RowS eClaim W a1 len1 cap1 xs ∧ ∀ x ∈ xs, okClaim x := by
    obtain ⟨fuel, hf⟩ := h1
    exact openClaimS (by simpa [Value.cells] using hf)
  have k2 := h2
  have lt2 : ∀ x ∈ p2, x.block < W.heap.size := by obtain ⟨m, hm⟩ := k2; exact DataW.trod_lt m _ _ _ hm
  obtain ⟨a2, rfl, rfl, rfl, w2⟩ := open_string Try.underlying9 (hval 2 9 v2 rfl rfl) h2
  clear hA0 hval0
  refine (walk_FnExactClaimsLeft a0 len0 cap0 xs0 a1 len1 cap1 xs1 a2 W w0 u0 w1 u1 w2).mono fun e W' ⟨he, bel⟩ => ?_
  subst he
  exact ⟨_, rfl, _, _, _, [], _, [], hW', trodAll_mk1 (shut_bool Try.underlying4 _), (trodAll_cons_mk (Below.trod laidOut (by kernel_rfl) (of_decide_eq_true (by kernel_rfl)) k0 bel lt0) (trodAll_cons_mk (Below.trod laidOut (by kernel_rfl) (of_decide_eq_true (by kernel_rfl)) k1 bel lt1) (trodAll_cons_mk (Below.trod laidOut (by kernel_rfl) (of_decide_eq_true (by kernel_rfl)) k2 bel lt2) trodAll_mk0))), rfl, bel.frame _, fun h => by cases h⟩
theorem over : Rows.fnExactClaimsLeftRow.holds Try.pinned (OpenSpec.ofChange Rows.fnExactClaimsLeftSpec) :=
  OpenClaim.holds_of_wide 8 Try.f8 rfl rfl rfl rfl rfl rfl rfl ⟨rfl, rfl, rfl, rfl, rfl⟩ rfl rfl rfl rfl rfl (by kernel_rfl) Try.func8 (by kernel_rfl)
    (of_decide_eq_true (by kernel_rfl)) (by unfold Func.isWrapper; first | (rw [if_pos (by decide +kernel)]; kernel_rfl) | (rw [if_neg (by decide +kernel)]; exact ⟨rfl, rfl⟩))
    (fun os started H enc _ => lifted os started H enc)
end LFnExactClaimsLeft
/-- The statement. -/
theorem fnExactClaimsLeft_holds : Rows.FnExactClaimsLeftSaid := LFnExactClaimsLeft.over
#print axioms fnExactClaimsLeft_holds

end Go.Proofs.Ytnpfgngfolgdfaa
