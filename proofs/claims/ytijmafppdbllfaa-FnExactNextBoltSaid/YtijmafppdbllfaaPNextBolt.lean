/- For all readings and torques the program's NextBolt and the reference's NextBolt answer the same, and the readings are left as they were. No condition. -/
import Derived.Test.YtijmafppdbllfaaNext
import Derived.Test.YtijmafppdbllfaaLift
namespace Go.Proofs.Ytijmafppdbllfaa
open Go.RowKit

set_option maxHeartbeats 4000000 in
set_option maxRecDepth 20000 in
theorem walk_FnExactNextBolt (a0 : Option Addr) (len0 cap0 : Nat) (z0 : List Int) (a1 : Int) (w : World) (p0 : IsRow .i64 w a0 len0 cap0 z0) (p1 : (Lit.int .i64 a1).wf = true) :
    Calls Try.prog 8 #[.slice a0 len0 cap0, .int .i64 a1] w fun e w' => e = .returned (.bool true) ∧ Below w.heap.size w w' := by
  have hB : Below w.heap.size w w := Below.refl _ _
  have hmax0 := p0.max
  by_cases hl0 : len0 ≤ 1048576
  rotate_left
  · go_enter Try.func8, Try.ntmps8
    go_wp2_with fail
    go_ret
    exact ⟨rfl, hB⟩
  have hI0 := p0.ints (by omega)
  have hn0 : (z0.take len0).length ≤ 1048576 := by rw [p0.len]; omega
  generalize z0.take len0 = xs0 at hI0 hn0
  go_enter Try.func8, Try.ntmps8
  go_wp2_with fail
  refine (toInt64S_any _ xs0 w (hI0.below hB) hn0).mono ?_
  rintro e W1 ⟨t1, rfl, ho_t1, hb⟩
  have hk_t1 := Lib.hid (World.ownsRow.lt ho_t1)
  have hsW1 := Lib.hid hb.size
  replace hB := Below.step hB hb
  clear hb
  go_wp2_with fail
  refine (sNextBolt_law t1 xs0 a1 W1 (Sl.of_own ho_t1 (big_of hn0)) hn0 p1).mono ?_
  rintro e W2 ⟨rfl, hb⟩
  have hsW2 := Lib.hid hb.size
  replace ho_t1 := ho_t1.below hb
  replace hB := Below.step hB hb
  clear hb
  go_wp2_with fail
  refine (toInt64S_any _ xs0 W2 (hI0.below hB) hn0).mono ?_
  rintro e W3 ⟨t3, rfl, ho_t3, hb⟩
  have hk_t3 := Lib.hid (World.ownsRow.lt ho_t3)
  have hsW3 := Lib.hid hb.size
  replace ho_t1 := ho_t1.below hb
  replace hB := Below.step hB hb
  clear hb
  go_wp2_with fail
  refine (iNextBolt_law t3 xs0 a1 W3 (Sl.of_own ho_t3 (big_of hn0)) hn0 p1).mono ?_
  rintro e W4 ⟨rfl, hb⟩
  have hsW4 := Lib.hid hb.size
  replace ho_t1 := ho_t1.below hb
  replace ho_t3 := ho_t3.below hb
  replace hB := Below.step hB hb
  clear hb
  go_wp2_with fail
  refine (toInt64S_any _ xs0 W4 (hI0.below hB) hn0).mono ?_
  rintro e W5 ⟨t5, rfl, ho_t5, hb⟩
  have hk_t5 := Lib.hid (World.ownsRow.lt ho_t5)
  have hsW5 := Lib.hid hb.size
  replace ho_t1 := ho_t1.below hb
  replace ho_t3 := ho_t3.below hb
  replace hB := Below.step hB hb
  clear hb
  go_wp2_with fail
  refine (eqInt64S_same t3 t5 xs0 W5 (Sl.of_own ho_t3 (big_of hn0)) (Sl.of_own ho_t5 (big_of hn0))).mono ?_
  rintro e W6 ⟨rfl, hb⟩
  have hsW6 := Lib.hid hb.size
  replace ho_t1 := ho_t1.below hb
  replace ho_t3 := ho_t3.below hb
  replace ho_t5 := ho_t5.below hb
  replace hB := Below.step hB hb
  clear hb
  go_wp2_with fail
  go_ret
  exact ⟨rfl, hB⟩

namespace LFnExactNextBolt
open Go.ChangeShapes Go.WideShapes Go.ChangeAt Go.RowKit
open Go.ChangeMaps (open_string shut_string)
set_option linter.unusedVariables false
set_option maxRecDepth 100000 in
theorem lifted (os : Os) (started : os.Started) (H : Type) (enc : TypeId × Value → H) :
    ReturnsInHanded {} Try.checked os 8 .any (Rows.fnExactNextBoltSpec.pre6 enc Try.prog Try.f8 Rows.fnExactNextBoltRow.domain false) (Rows.fnExactNextBoltSpec.post enc Try.prog Try.f8 false true false false) := by
  refine returnsInHanded_of_change (C := Try.checked) own started (by kernel_rfl) Try.func8
    (ChangeSpec.witness6 (enc := enc) (C := Try.checked) false ⟨#[], #[.slice none 0 0, .int .i64 0], []⟩ 8 (by kernel_rfl) (by kernel_rfl) (by kernel_rfl) (by kernel_rfl)) ?_
  intro W base args ds gs before hval0 hW hcnd _
  have hval : ∀ (j : Nat) t v, Try.f8.params[j]? = some t → args[j]? = some v → Value.okWide Try.prog W .any base t v := hval0
  have hW' := hW
  obtain ⟨p, q, hA0, hV, rfl, hfz, hnd⟩ := hW
  have hA : DataW.TrodAll enc Try.prog W 0 (fun _ => true) true Try.f8.params.toList args.toList ds p := hA0
  rw [Try.params8] at hA hval
  obtain ⟨v0, vs0, d0, ds0, p0, q0, hargs, rfl, rfl, h0, r0⟩ := trodAll_cons hA
  obtain ⟨v1, vs1, d1, ds1, p1, q1, rfl, rfl, rfl, h1, r1⟩ := trodAll_cons r0
  obtain ⟨rfl, rfl, rfl⟩ := trodAll_nil r1
  obtain rfl : args = #[v0, v1] := by cases args; simp_all
  obtain ⟨rfl, rfl⟩ := trodVars_none hV
  have k0 := h0
  have lt0 : ∀ x ∈ p0, x.block < W.heap.size := by obtain ⟨m, hm⟩ := k0; exact DataW.trod_lt m _ _ _ hm
  obtain ⟨a0, len0, cap0, rfl⟩ := okWide_slice Try.underlying22 (hval 0 22 v0 rfl rfl)
  obtain ⟨z0, w0⟩ : ∃ zs, IsRow .i64 W a0 len0 cap0 zs := by
    obtain ⟨fuel, hf⟩ := h0
    rcases open_ints Try.underlying22 Try.underlying2 (by kernel_rfl) hf with ⟨hcs, _⟩ | ⟨x, l, c, zs, hcs, _, hl, hm, hz, _, hcell, hwz⟩
    · simp [Value.cells] at hcs
      obtain ⟨rfl, rfl, rfl⟩ := hcs
      exact ⟨[], .inl ⟨rfl, rfl, rfl, rfl⟩⟩
    · simp [Value.cells] at hcs
      obtain ⟨rfl, rfl, rfl⟩ := hcs
      exact ⟨zs, .inr ⟨_, rfl, hl, hm, by simpa using hz, hcell, hwz⟩⟩
  have k1 := h1
  have lt1 : ∀ x ∈ p1, x.block < W.heap.size := by obtain ⟨m, hm⟩ := k1; exact DataW.trod_lt m _ _ _ hm
  obtain ⟨a1, rfl, rfl, rfl, w1⟩ := open_int Try.underlying2 (hval 1 2 v1 rfl rfl) h1
  clear hA0 hval0
  refine (walk_FnExactNextBolt a0 len0 cap0 z0 a1 W w0 w1).mono fun e W' ⟨he, bel⟩ => ?_
  subst he
  exact ⟨_, rfl, _, _, _, [], _, [], hW', trodAll_mk1 (shut_bool Try.underlying4 _), (trodAll_cons_mk (Below.trod laidOut (by kernel_rfl) (of_decide_eq_true (by kernel_rfl)) k0 bel lt0) (trodAll_cons_mk (Below.trod laidOut (by kernel_rfl) (of_decide_eq_true (by kernel_rfl)) k1 bel lt1) trodAll_mk0)), rfl, bel.frame _, fun h => by cases h⟩
theorem over : Rows.fnExactNextBoltRow.holds Try.pinned (OpenSpec.ofChange Rows.fnExactNextBoltSpec) :=
  OpenClaim.holds_of_wide 8 Try.f8 rfl rfl rfl rfl rfl rfl rfl ⟨rfl, rfl, rfl, rfl, rfl⟩ rfl rfl rfl rfl rfl (by kernel_rfl) Try.func8 (by kernel_rfl)
    (of_decide_eq_true (by kernel_rfl)) (by unfold Func.isWrapper; first | (rw [if_pos (by decide +kernel)]; kernel_rfl) | (rw [if_neg (by decide +kernel)]; exact ⟨rfl, rfl⟩))
    (fun os started H enc _ => lifted os started H enc)
end LFnExactNextBolt
/-- The statement. -/
theorem fnExactNextBolt_holds : Rows.FnExactNextBoltSaid := LFnExactNextBolt.over
#print axioms fnExactNextBolt_holds

end Go.Proofs.Ytijmafppdbllfaa
