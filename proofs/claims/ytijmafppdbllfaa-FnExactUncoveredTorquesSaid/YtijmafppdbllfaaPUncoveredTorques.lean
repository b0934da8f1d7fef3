/- For every list of wrenches the program's UncoveredTorques and the reference's UncoveredTorques answer the same, and the list is left as it was. No condition. -/
import Derived.Test.YtijmafppdbllfaaUncI
import Derived.Test.YtijmafppdbllfaaUncS
import Derived.Test.YtijmafppdbllfaaOWrench
import Derived.Test.YtijmafppdbllfaaMWrench
import Derived.Test.YtijmafppdbllfaaLift
namespace Go.Proofs.Ytijmafppdbllfaa
open Go.RowKit

theorem OwnP.keptFar {w w' : World} {base : Nat} {v : Value} {ps : List (Int × Int)} {row : Option Nat} (h : OwnP w base v ps) (hg : w.grownBy w' row) (hr : ∀ k, row = some k → k < base) : OwnP w' base v ps := by
  obtain ⟨bs, h1, h2, h4, h3⟩ := h
  refine ⟨bs, World.ownsRow.kept h1 hg ?_, h2, h4, fun k b p hk hp => ?_⟩
  · rcases hv : v.ownBlock with _ | k
    · exact .inl rfl
    · refine .inr (fun e => ?_)
      have := (World.ownsRow.lt h1 k hv).1
      have := hr k e.symm
      omega
  · obtain ⟨q1, q2⟩ := h3 k b p hk hp
    exact ⟨q1, q2.same (hg.block b q2.lt (fun e => by have := hr b e.symm; omega))⟩
set_option maxHeartbeats 4000000 in
set_option maxRecDepth 20000 in
theorem walk_FnExactUncoveredTorques (a0 : Option Addr) (len0 cap0 : Nat) (xs0 : List Wrench) (w : World) (p0 : RowS eWrench w a0 len0 cap0 xs0) (q0 : ∀ x ∈ xs0, okWrench x) :
    Calls Try.prog 11 #[.slice a0 len0 cap0] w fun e w' => e = .returned (.bool true) ∧ Below w.heap.size w w' := by
  have hB : Below w.heap.size w w := Below.refl _ _
  have hmax0 := p0.max
  have HLEN := Lib.hid (UncoveredTorques_len xs0)
  have HBIG := Lib.hid (big_of (UncoveredTorques_len xs0))
  have hcnt := cntInt64SS_le _ (UncoveredTorques_len xs0)
  go_enter Try.func11, Try.ntmps11
  go_wp2_with fail
  by_cases hl0 : (len0 : Int) ≤ 1048576
  rotate_left
  · refine (szWrenchS_big a0 len0 cap0 1048576 w (by omega) (by omega) hmax0 (by omega)).mono ?_
    rintro e w' ⟨rfl, rfl⟩
    go_wp2_with fail
    go_ret
    exact ⟨rfl, hB⟩
  have HI0 := Lib.hid (p0.sl (by omega))
  have hn0 : xs0.length ≤ 1048576 := by rw [p0.len]; omega
  have hcw := cntWrenchS_le xs0 hn0
  refine (szWrenchS_ok _ xs0 1048576 w (by omega) (by omega) (HI0.out.below hB) q0).mono ?_
  rintro e W1 ⟨rfl, hb⟩
  have B1 := Lib.hid (Below.step hB hb)
  clear hb hB p0
  by_cases ht0 : ((totWrench xs0 : Nat) : Int) ≤ 1048576
  rotate_left
  · rw [szr_neg ht0]
    go_wp2_with fail
    go_ret
    exact ⟨rfl, B1.out⟩
  rw [szr_pos ht0]
  go_wp2_with fail
  clear ht0
  refine (toWrenchS_any _ xs0 W1 (HI0.out.below B1.out) hn0).mono ?_
  rintro e W2 ⟨t2, rfl, ho2, hb⟩
  have B2 := Lib.hid (Below.step B1.out hb)
  have O2 := Lib.hid (Sl.of_own ho2 (big_of hn0))
  clear hb ho2
  go_wp2_with fail
  refine (sUncoveredTorques_law t2 xs0 W2 O2.out hn0).mono ?_
  rintro e W3 ⟨u0, rfl, ho3, hb⟩
  have B3 := Lib.hid (Below.step B2.out hb)
  have R3 := Lib.hid (RdP.of_own ho3 HBIG.out)
  clear hb ho3 O2
  go_wp2_with fail
  refine (toWrenchS_any _ xs0 W3 (HI0.out.below B3.out) hn0).mono ?_
  rintro e W4 ⟨x0, rfl, ho4, hb⟩
  have B4 := Lib.hid (Below.step B3.out hb)
  have S4 : Hid (Below W3.heap.size W3 W4) := Lib.hid hb
  have K4 := Lib.hid (World.ownsRow.lt ho4)
  have X4 := Lib.hid ho4
  clear hb ho4
  go_wp2_with fail
  refine (iUncoveredTorques_law x0 xs0 W4 (Sl.of_own X4.out (big_of hn0)) hn0).mono ?_
  rintro e W5 ⟨u1, rfl, ho5, hb⟩
  have B5 := Lib.hid (Below.step B4.out hb)
  have S5 := Lib.hid (Below.step S4.out hb)
  have X5 := Lib.hid (X4.out.below hb)
  have T5 : Hid (Below W4.heap.size W4 W5) := Lib.hid hb
  have G5 := Lib.hid ho5
  clear hb ho5 X4
  go_wp2_with fail
  refine (eqInt64SS_same u1 u0 _ W5 (RdP.of_own G5.out HBIG.out) (R3.out.below S5.out)).mono ?_
  rintro e W6 ⟨rfl, hb⟩
  have B6 := Lib.hid (Below.step B5.out hb)
  have S6 := Lib.hid (Below.step S5.out hb)
  have T6 := Lib.hid (Below.step T5.out hb)
  have X6 := Lib.hid (X5.out.below hb)
  have G6 := Lib.hid (G5.out.below hb)
  clear hb X5 G5
  go_wp2_with fail
  refine (toWrenchS_any _ xs0 W6 (HI0.out.below B6.out) hn0).mono ?_
  rintro e W7 ⟨t7, rfl, ho7, hb⟩
  have B7 := Lib.hid (Below.step B6.out hb)
  have S7 := Lib.hid (Below.step S6.out hb)
  have T7 := Lib.hid (Below.step T6.out hb)
  have X7 := Lib.hid (X6.out.below hb)
  have G7 := Lib.hid (G6.out.below hb)
  have O7 := Lib.hid (Sl.of_own ho7 (big_of hn0))
  clear hb X6 G6 ho7
  go_wp2_with fail
  refine (eqWrenchS_same x0 t7 xs0 W7 (Sl.of_own X7.out (big_of hn0)) O7.out).mono ?_
  rintro e W8 ⟨rfl, hb⟩
  have B8 := Lib.hid (Below.step B7.out hb)
  have S8 := Lib.hid (Below.step S7.out hb)
  have T8 := Lib.hid (Below.step T7.out hb)
  have X8 := Lib.hid (X7.out.below hb)
  have G8 := Lib.hid (G7.out.below hb)
  clear hb X7 G7 O7
  go_wp2_with fail
  refine (markWrenchS_law x0 xs0 1 W3.heap.size W8 X8.out hn0 (by omega) (by omega)).mono ?_
  rintro e W9 ⟨rfl, hx9, hg⟩
  have B9 : Hid (Below w.heap.size w W9) := Lib.hid (B8.out.grown hg B8.out.size (fun k hk => by have := (K4.out k hk).1; have := B3.out.size; omega))
  have S9 : Hid (Below W3.heap.size W3 W9) := Lib.hid (S8.out.grown hg S8.out.size (fun k hk => (K4.out k hk).1))
  have G9 : Hid (OwnP W9 W4.heap.size u1 (UncoveredTorques_r xs0).1) := Lib.hid (G8.out.keptFar hg (fun k hk => (K4.out k hk).2))
  have SZ9 : Hid (W4.heap.size ≤ W9.heap.size) := Lib.hid (Nat.le_trans T8.out.size hg.size)
  clear hg hx9 X8 G8
  go_wp2_with fail
  refine (eqInt64SS_same u1 u0 _ W9 (RdP.of_own G9.out HBIG.out) (R3.out.below S9.out)).mono ?_
  rintro e W10 ⟨rfl, hb⟩
  have B10 := Lib.hid (Below.step B9.out hb)
  have S10 := Lib.hid (Below.step S9.out hb)
  have G10 := Lib.hid (G9.out.below hb)
  have SZ10 : Hid (W4.heap.size ≤ W10.heap.size) := Lib.hid (Nat.le_trans SZ9.out hb.size)
  clear hb G9
  go_wp2_with fail
  refine (markInt64SS_law u1 _ 1 W4.heap.size W10 G10.out HLEN.out (by omega) (by omega) SZ10.out).mono ?_
  rintro e W11 ⟨rfl, hg11, hb⟩
  have B11 : Hid (Below w.heap.size w W11) := Lib.hid (B10.out.trans (hb.mono B4.out.size))
  have S11 : Hid (Below W3.heap.size W3 W11) := Lib.hid (S10.out.trans (hb.mono S4.out.size))
  have G11 := Lib.hid hg11
  clear hb hg11 G10
  go_wp2_with fail
  refine (heldInt64SS_law u1 _ 1 W11 (RdP.of_own G11.out (by rw [mkInt64SS_len]; exact HBIG.out)) HLEN.out (by omega) (by omega)).mono ?_
  rintro e W12 ⟨rfl, hb⟩
  have B12 := Lib.hid (Below.step B11.out hb)
  have S12 := Lib.hid (Below.step S11.out hb)
  have G12 := Lib.hid (G11.out.below hb)
  clear hb G11
  go_wp2_with fail
  refine (toWrenchS_any _ xs0 W12 (HI0.out.below B12.out) hn0).mono ?_
  rintro e W13 ⟨t13, rfl, ho13, hb⟩
  have B13 := Lib.hid (Below.step B12.out hb)
  have S13 := Lib.hid (Below.step S12.out hb)
  have G13 := Lib.hid (G12.out.below hb)
  have O13 := Lib.hid (Sl.of_own ho13 (big_of hn0))
  clear hb G12 ho13
  go_wp2_with fail
  refine (iUncoveredTorques_law t13 xs0 W13 O13.out hn0).mono ?_
  rintro e W14 ⟨u14, rfl, ho14, hb⟩
  have B14 := Lib.hid (Below.step B13.out hb)
  have S14 := Lib.hid (Below.step S13.out hb)
  have G14 := Lib.hid (G13.out.below hb)
  have H14 := Lib.hid (RdP.of_own ho14 HBIG.out)
  clear hb G13 ho14 O13
  go_wp2_with fail
  refine (eqInt64SS_same u14 u0 _ W14 H14.out (R3.out.below S14.out)).mono ?_
  rintro e W15 ⟨rfl, hb⟩
  have B15 := Lib.hid (Below.step B14.out hb)
  have G15 := Lib.hid (G14.out.below hb)
  clear hb G14 H14
  go_wp2_with fail
  refine (heldInt64SS_law u1 _ 1 W15 (RdP.of_own G15.out (by rw [mkInt64SS_len]; exact HBIG.out)) HLEN.out (by omega) (by omega)).mono ?_
  rintro e W16 ⟨rfl, hb⟩
  have B16 := Lib.hid (Below.step B15.out hb)
  clear hb
  go_wp2
  go_ret
  exact ⟨rfl, B16.out⟩
namespace LFnExactUncoveredTorques
open Go.ChangeShapes Go.WideShapes Go.ChangeAt Go.RowKit
open Go.ChangeMaps (open_string shut_string)
set_option linter.unusedVariables false
set_option maxRecDepth 100000 in
theorem lifted (os : Os) (started : os.Started) (H : Type) (enc : TypeId × Value → H) :
    ReturnsInHanded {} Try.checked os 11 .any (Rows.fnExactUncoveredTorquesSpec.pre6 enc Try.prog Try.f11 Rows.fnExactUncoveredTorquesRow.domain false) (Rows.fnExactUncoveredTorquesSpec.post enc Try.prog Try.f11 false true false false) := by
  refine returnsInHanded_of_change (C := Try.checked) own started (by kernel_rfl) Try.func11
    (ChangeSpec.witness6 (enc := enc) (C := Try.checked) false ⟨#[], #[.slice none 0 0], []⟩ 8 (by kernel_rfl) (by kernel_rfl) (by kernel_rfl) (by kernel_rfl)) ?_
  intro W base args ds gs before hval0 hW hcnd _
  have hval : ∀ (j : Nat) t v, Try.f11.params[j]? = some t → args[j]? = some v → Value.okWide Try.prog W .any base t v := hval0
  have hW' := hW
  obtain ⟨p, q, hA0, hV, rfl, hfz, hnd⟩ := hW
  have hA : DataW.TrodAll enc Try.prog W 0 (fun _ => true) true Try.f11.params.toList args.toList ds p := hA0
  rw [Try.params11] at hA hval
  obtain ⟨v0, vs0, d0, ds0, p0, q0, hargs, rfl, rfl, h0, r0⟩ := trodAll_cons hA
  obtain ⟨rfl, rfl, rfl⟩ := trodAll_nil r0
  obtain rfl : args = #[v0] := by cases args; simp_all
  obtain ⟨rfl, rfl⟩ := trodVars_none hV
  have k0 := h0
  have lt0 : ∀ x ∈ p0, x.block < W.heap.size := by obtain ⟨m, hm⟩ := k0; exact DataW.trod_lt m _ _ _ hm
  obtain ⟨a0, len0, cap0, rfl⟩ := okWide_slice Try.underlying35 (hval 0 35 v0 rfl rfl)
  obtain ⟨xs0, w0, u0⟩ : ∃ xs : List Wrench, RowS eWrench W a0 len0 cap0 xs ∧ ∀ x ∈ xs, okWrench x := by
    obtain ⟨fuel, hf⟩ := h0
    exact openWrenchS (by simpa [Value.cells] using hf)
  clear hA0 hval0
  refine (walk_FnExactUncoveredTorques a0 len0 cap0 xs0 W w0 u0).mono fun e W' ⟨he, bel⟩ => ?_
  subst he
  exact ⟨_, rfl, _, _, _, [], _, [], hW', trodAll_mk1 (shut_bool Try.underlying4 _), (trodAll_cons_mk (Below.trod laidOut (by kernel_rfl) (of_decide_eq_true (by kernel_rfl)) k0 bel lt0) trodAll_mk0), rfl, bel.frame _, fun h => by cases h⟩
theorem over : Rows.fnExactUncoveredTorquesRow.holds Try.pinned (OpenSpec.ofChange Rows.fnExactUncoveredTorquesSpec) :=
  OpenClaim.holds_of_wide 11 Try.f11 rfl rfl rfl rfl rfl rfl rfl ⟨rfl, rfl, rfl, rfl, rfl⟩ rfl rfl rfl rfl rfl (by kernel_rfl) Try.func11 (by kernel_rfl)
    (of_decide_eq_true (by kernel_rfl)) (by unfold Func.isWrapper; first | (rw [if_pos (by decide +kernel)]; kernel_rfl) | (rw [if_neg (by decide +kernel)]; exact ⟨rfl, rfl⟩))
    (fun os started H enc _ => lifted os started H enc)
end LFnExactUncoveredTorques
/-- The statement. -/
theorem fnExactUncoveredTorques_holds : Rows.FnExactUncoveredTorquesSaid := LFnExactUncoveredTorques.over
#print axioms fnExactUncoveredTorques_holds

end Go.Proofs.Ytijmafppdbllfaa
