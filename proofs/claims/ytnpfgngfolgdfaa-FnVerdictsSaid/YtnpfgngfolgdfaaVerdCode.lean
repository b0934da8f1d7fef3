/- Contracts of VerdictsOf, CountVerdicts, ClaimsLeft and WorstPart (chapter 28). No statement of the seat is proved here. -/
import Derived.Test.YtnpfgngfolgdfaaVerdictsI
import Derived.Test.YtnpfgngfolgdfaaVerdictsS
namespace Go.Proofs.Ytnpfgngfolgdfaa
open Go.RowKit

def bothB (T : List Term) (C : List Claim) : Bool := areTerms T && areClaims C
theorem bothB_1 {T : List Term} {C : List Claim} (h : areTerms T = false) : bothB T C = false := by unfold bothB; rw [h]; rfl
theorem bothB_2 {T : List Term} {C : List Claim} (h : areClaims C = false) : bothB T C = false := by unfold bothB; rw [h]; simp
theorem bothB_ok {T : List Term} {C : List Claim} (h : areTerms T = true) (h2 : areClaims C = true) : bothB T C = true := by unfold bothB; rw [h, h2]; rfl
theorem bothB_of {T : List Term} {C : List Claim} (h : bothB T C = true) : areTerms T = true ∧ areClaims C = true := by unfold bothB at h; simpa using h
def bothCode (T : List Term) (C : List Claim) : Int := if bothB T C then 0 else 1
theorem bothCode_0 {T : List Term} {C : List Claim} (h : bothB T C = true) : bothCode T C = 0 := by unfold bothCode; rw [h]; rfl
theorem bothCode_1 {T : List Term} {C : List Claim} (h : bothB T C = false) : bothCode T C = 1 := by unfold bothCode; rw [h]; rfl
set_option maxHeartbeats 1000000 in
theorem l28Code_any (v : Value) (T : List Term) (u : Value) (C : List Claim) (w : World) (hv : Sl eTerm w v T) (hqT : ∀ x ∈ T, okTerm x) (hu : Sl eClaim w u C) (hqC : ∀ x ∈ C, okClaim x) :
    Calls Try.prog 71 #[v, u] w fun e w' => e = .returned (.int .i64 (bothCode T C)) ∧ Below w.heap.size w w' := by
  unfold bothCode bothB
  rcases hA : areTerms T <;> rcases hC : areClaims C
  all_goals
    have HA := Lib.hid hA
    have HC := Lib.hid hC
    clear hA hC
    go_enter Try.func71, Try.ntmps71
    go_wp2_with fail
    refine (sAreTerms_any v T w hv hqT).mono ?_
    rintro e w1 ⟨rfl, hb⟩
    rw [HA.out]
    have hu1 := hu.below hb
    go_wp2_with fail
    try
      refine (sAreClaims_any u C w1 hu1 hqC).mono ?_
      rintro e w2 ⟨rfl, hb2⟩
      rw [HC.out]
      replace hb := Below.step hb hb2
      go_wp2
    go_ret
    exact ⟨rfl, hb⟩
theorem grL_len_le {T : List Term} {C : List Claim} (h : areTerms T = true) (k : Nat) : (grL T C k).length ≤ 10 := by
  rw [grL_len]; unfold areTerms at h; rw [Bool.and_eq_true, decide_eq_true_eq] at h; exact h.1
end Go.Proofs.Ytnpfgngfolgdfaa
