/- Contracts of VerdictsOf (chapter 28). No statement of the seat is proved here. -/
import Derived.Test.YtnpfgngfolgdfaaVerdCode
namespace Go.Proofs.Ytnpfgngfolgdfaa
open Go.RowKit

def VerdictsOf_r (T : List Term) (C : List Claim) : List Int × Int := if bothB T C then (verdL T C C.length, 0) else ([], 1)
theorem VerdictsOf_bad {T : List Term} {C : List Claim} (h : bothB T C = false) : VerdictsOf_r T C = ([], 1) := by unfold VerdictsOf_r; rw [h]; rfl
theorem VerdictsOf_ok {T : List Term} {C : List Claim} (h : bothB T C = true) : VerdictsOf_r T C = (verdL T C C.length, 0) := by unfold VerdictsOf_r; rw [h]; rfl
theorem VerdictsOf_len (T : List Term) (C : List Claim) : (VerdictsOf_r T C).1.length ≤ 1048576 := by
  unfold VerdictsOf_r
  split
  · rename_i h
    have := (areClaims_at (bothB_of h).2).1
    simp only [verdL_len]; omega
  · simp
set_option maxHeartbeats 4000000 in
set_option maxRecDepth 20000 in
theorem iVerdictsOf_law (v : Value) (T : List Term) (u : Value) (C : List Claim) (w : World) (hv : Sl eTerm w v T) (_ : T.length ≤ 1048576) (hqT : ∀ x ∈ T, okTerm x) (hu : Sl eClaim w u C) (_ : C.length ≤ 1048576) (hqC : ∀ x ∈ C, okClaim x) :
    Calls Try.prog 40 #[v, u] w fun e w' => ∃ x, e = .returned (.tuple #[x, .int .i64 (VerdictsOf_r T C).2]) ∧ Own eI w' w.heap.size 2 x (VerdictsOf_r T C).1 ∧ Below w.heap.size w w' := by
  rcases hA : areTerms T
  · have HR := Lib.hid (VerdictsOf_bad (bothB_1 (C := C) hA))
    have HA := Lib.hid hA
    clear hA
    rw [HR.out]
    go_enter Try.func40, Try.ntmps40
    go_wp2_with fail
    refine (iAreTerms_any v T w hv hqT).mono ?_
    rintro e w1 ⟨rfl, hb⟩
    rw [HA.out]
    go_wp2
    go_ret2
    exact ⟨_, rfl, Own.nil_ _ _ _ _, hb⟩
  rcases hC : areClaims C
  · have HR := Lib.hid (VerdictsOf_bad (bothB_2 (T := T) hC))
    have HA := Lib.hid hA
    have HC := Lib.hid hC
    clear hA hC
    rw [HR.out]
    go_enter Try.func40, Try.ntmps40
    go_wp2_with fail
    refine (iAreTerms_any v T w hv hqT).mono ?_
    rintro e w1 ⟨rfl, hb⟩
    rw [HA.out]
    have hu1 := hu.below hb
    go_wp2_with fail
    refine (iAreClaims_any u C w1 hu1 hqC).mono ?_
    rintro e w2 ⟨rfl, hb2⟩
    rw [HC.out]
    go_wp2
    go_ret2
    exact ⟨_, rfl, Own.nil_ _ _ _ _, Below.step hb hb2⟩
  · have HR := Lib.hid (VerdictsOf_ok (bothB_ok hA hC))
    have HA := Lib.hid hA
    have HC := Lib.hid hC
    clear hA hC
    rw [HR.out]
    go_enter Try.func40, Try.ntmps40
    go_wp2_with fail
    refine (iAreTerms_any v T w hv hqT).mono ?_
    rintro e w1 ⟨rfl, hb⟩
    rw [HA.out]
    have hu1 := hu.below hb
    go_wp2_with fail
    refine (iAreClaims_any u C w1 hu1 hqC).mono ?_
    rintro e w2 ⟨rfl, hb2⟩
    rw [HC.out]
    go_wp2_with fail
    refine (verdictsOf_any v T u C w2 ((hv.below hb).below hb2) (hu1.below hb2) HA.out HC.out).mono ?_
    rintro e w3 ⟨x, y, rfl, hx, hy, hb3⟩
    have hs2 := Nat.le_trans hb.size hb2.size
    go_wp2
    go_ret2
    exact ⟨_, rfl, hx.mono hs2, Below.step (Below.step hb hb2) hb3⟩
set_option maxHeartbeats 4000000 in
set_option maxRecDepth 20000 in
theorem sVerdictsOf_law (v : Value) (T : List Term) (u : Value) (C : List Claim) (w : World) (hv : Sl eTerm w v T) (_ : T.length ≤ 1048576) (hqT : ∀ x ∈ T, okTerm x) (hu : Sl eClaim w u C) (_ : C.length ≤ 1048576) (hqC : ∀ x ∈ C, okClaim x) :
    Calls Try.prog 39 #[v, u] w fun e w' => ∃ x, e = .returned (.tuple #[x, .int .i64 (VerdictsOf_r T C).2]) ∧ Own eI w' w.heap.size 2 x (VerdictsOf_r T C).1 ∧ Below w.heap.size w w' := by
  rcases hA : bothB T C
  · have HR := Lib.hid (VerdictsOf_bad hA)
    have HC := Lib.hid (bothCode_1 hA)
    clear hA
    rw [HR.out]
    go_enter Try.func39, Try.ntmps39
    go_wp2_with fail
    refine (l28Code_any v T u C w hv hqT hu hqC).mono ?_
    rintro e w1 ⟨rfl, hb⟩
    rw [HC.out]
    go_wp2
    go_ret2
    exact ⟨_, rfl, Own.nil_ _ _ _ _, hb⟩
  · obtain ⟨hA1, hT1⟩ := bothB_of hA
    have HR := Lib.hid (VerdictsOf_ok hA)
    have HC := Lib.hid (bothCode_0 hA)
    have HA := Lib.hid hA1
    have HT := Lib.hid hT1
    clear hA hA1 hT1
    rw [HR.out]
    go_enter Try.func39, Try.ntmps39
    go_wp2_with fail
    refine (l28Code_any v T u C w hv hqT hu hqC).mono ?_
    rintro e w1 ⟨rfl, hb⟩
    rw [HC.out]
    go_wp2_with fail
    refine (l28Verdicts_any v T u C w1 (hv.below hb) (hu.below hb) HA.out HT.out).mono ?_
    rintro e w3 ⟨x, rfl, hx, hb3⟩
    have hs2 := hb.size
    go_wp2
    go_ret2
    exact ⟨_, rfl, hx.mono hs2, Below.step hb hb3⟩
end Go.Proofs.Ytnpfgngfolgdfaa
