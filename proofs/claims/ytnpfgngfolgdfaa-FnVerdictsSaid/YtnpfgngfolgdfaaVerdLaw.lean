/- The plain law of verdicts: no part has more granted claims than its term has, and verdicts are counted together (chapter 28). No statement of the seat is proved here. -/
import Derived.Test.YtnpfgngfolgdfaaLVerdictsOf
import Derived.Test.YtnpfgngfolgdfaaLCountVerdicts
import Derived.Test.YtnpfgngfolgdfaaLClaimsLeft
import Derived.Test.YtnpfgngfolgdfaaLWorstPart
namespace Go.Proofs.Ytnpfgngfolgdfaa
open Go.RowKit

/-- how many of the first k verdicts are x -/
def cntV (vs : List Int) (x : Int) : Nat → Int
  | 0 => 0
  | k + 1 => if vs.getD k 0 == x then cntV vs x k + 1 else cntV vs x k
theorem cntV_bd (vs : List Int) (x : Int) : ∀ k, 0 ≤ cntV vs x k ∧ cntV vs x k ≤ k
  | 0 => by simp [cntV]
  | k + 1 => by
    have ih := cntV_bd vs x k
    rw [cntV]
    split <;> omega
theorem tally_cnt (vs : List Int) (h : ∀ i, 0 ≤ vs.getD i 0 ∧ vs.getD i 0 ≤ 4) : ∀ (k j : Nat), j < 5 → (tally vs k).getD j 0 = cntV vs j k
  | 0, j, hj => by
    rw [tally, getD_at _ _ _ (by simp; exact hj), List.getElem_replicate]
    rfl
  | k + 1, j, hj => by
    have ih := tally_cnt vs h k
    have hb := h k
    rw [tally, cntV]
    rw [getD_at _ _ _ (by rw [List.length_set, tally_len]; exact hj), List.getElem_set]
    by_cases e : (vs.getD k 0).toNat = j
    · rw [if_pos e, if_pos (by rw [beq_iff_eq]; omega), e, ih j hj]
    · rw [if_neg e, if_neg (by rw [beq_iff_eq]; omega), ← ih j hj, getD_at (tally vs k) _ j (by rw [tally_len]; exact hj)]
theorem verdL_bd (T : List Term) (C : List Claim) (m i : Nat) : 0 ≤ (verdL T C m).getD i 0 ∧ (verdL T C m).getD i 0 ≤ 4 := by
  by_cases h : i < m
  · rw [verdL_at h]; exact vAt_bd T C i
  · rw [List.getD_eq_getElem?_getD, List.getElem?_eq_none (by rw [verdL_len]; omega)]
    simp
theorem vAt_zero {T : List Term} {C : List Claim} {k : Nat} (h : vAt T C k = 0) : ∃ (j : Nat) (hj : j < T.length), isPart (C.getD k zClaim).part T[j] = true ∧ (T.take j).any (isPart (C.getD k zClaim).part) = false ∧ cntG T C k (C.getD k zClaim).part < T[j].claims := by
  unfold vAt verd1 at h
  split at h
  · omega
  · rename_i hf
    obtain ⟨j, hj, e, h2, h3⟩ := firstAt_get hf
    rw [e, Int.toNat_natCast, getD_at _ _ _ hj] at h
    split at h
    · omega
    · split at h
      · omega
      · split at h
        · omega
        · exact ⟨j, hj, h2, h3, by omega⟩
theorem grant_le {T : List Term} {C : List Claim} (ha : areTerms T = true) {i : Nat} (hi : i < T.length) : ∀ k, cntG T C k T[i].part ≤ T[i].claims
  | 0 => by
    have := areTerms_at ha i hi
    simp only [cntG]
    omega
  | k + 1 => by
    have ih := grant_le (C := C) ha hi k
    by_cases hv : vAt T C k = 0
    · rw [cntG_yes hv]
      by_cases hp : (C.getD k zClaim).part.toList = T[i].part.toList
      · obtain ⟨j, hj, h1, h2, h3⟩ := vAt_zero hv
        have hij : i = j := by
          rcases Nat.decEq i j with h | h
          · have h4 := part_ne ha hj h1 h2 hi h
            have h5 : isPart (C.getD k zClaim).part T[i] = true := isPart_iff.2 hp.symm
            rw [h4] at h5; cases h5
          · exact h
        subst hij
        rw [cntG_congr T C hp k] at h3
        rw [if_pos (by rw [hp]; exact beq_self_eq_true _)]
        omega
      · rw [if_neg (by rw [beq_iff_eq]; exact hp)]
        exact ih
    · rw [cntG_no hv]; exact ih
theorem cntG_mono (T : List Term) (C : List Claim) (s : ByteArray) (k : Nat) : ∀ d, cntG T C k s ≤ cntG T C (k + d) s
  | 0 => Int.le_refl _
  | d + 1 => by
    have ih := cntG_mono T C s k d
    rw [show k + (d + 1) = (k + d) + 1 by omega, cntG]
    simp only []
    split <;> omega
theorem worst_max (T : List Term) (C : List Claim) : ∀ k, k ≤ T.length → 0 ≤ (worst T C k).2 ∧ ∀ (i : Nat) (hi : i < T.length), i < k → cntG T C C.length T[i].part ≤ (worst T C k).2
  | 0, _ => ⟨by simp [worst], fun i hi h => by omega⟩
  | k + 1, hk => by
    obtain ⟨h0, ih⟩ := worst_max T C k (by omega)
    have hkl : k < T.length := hk
    rw [worst, getD_at _ _ _ hkl]
    have hb := cntG_bd T C C.length T[k].part
    split
    · rename_i hlt
      refine ⟨hb.1, fun i hi hik => ?_⟩
      by_cases e : i = k
      · subst e; exact Int.le_refl _
      · have := ih i hi (by omega)
        simp only
        omega
    · rename_i hlt
      refine ⟨h0, fun i hi hik => ?_⟩
      by_cases e : i = k
      · subst e; omega
      · exact ih i hi (by omega)
theorem worst_zero {T : List Term} {C : List Claim} (h : (worst T C T.length).2 = 0) {k : Nat} (hk : k < C.length) : vAt T C k ≠ 0 := by
  intro hv
  obtain ⟨j, hj, h1, _, _⟩ := vAt_zero hv
  have h2 := (worst_max T C T.length (Nat.le_refl _)).2 j hj hj
  have h3 := cntG_mono T C T[j].part (k + 1) (C.length - (k + 1))
  rw [show k + 1 + (C.length - (k + 1)) = C.length by omega] at h3
  have h4 := cntG_yes (s := T[j].part) hv
  rw [if_pos (by rw [isPart_iff.1 h1]; exact beq_self_eq_true _)] at h4
  have h5 := (cntG_bd T C k T[j].part).1
  omega
theorem cntV_zero {T : List Term} {C : List Claim} (h : (worst T C T.length).2 = 0) : ∀ k, k ≤ C.length → cntV (verdL T C C.length) 0 k = 0
  | 0, _ => rfl
  | k + 1, hk => by
    rw [cntV, verdL_at (by omega), if_neg (by rw [beq_iff_eq]; exact worst_zero h (by omega))]
    exact cntV_zero h k (by omega)
theorem first_is {T : List Term} (ha : areTerms T = true) {s : ByteArray} {i : Nat} (hi : i < T.length) (h : T[i].part.toList = s.toList) : firstAt (isPart s) T = (i : Int) := by
  have hp : isPart s T[i] = true := isPart_iff.2 h
  have hf : ¬ firstAt (isPart s) T < 0 := by
    rw [firstAt_neg]
    intro e
    rw [List.any_eq_false] at e
    exact e T[i] (List.getElem_mem hi) hp
  obtain ⟨j, hj, e, h2, h3⟩ := firstAt_get hf
  rcases Nat.decEq i j with hne | heq
  · have := part_ne ha hj h2 h3 hi hne
    rw [hp] at this; cases this
  · subst heq; exact e
/-- what is known of terms and claims that are asked together -/
structure VOk (T : List Term) (C : List Claim) (s : ByteArray) (l lc : Int) (n wc : Int) : Prop where
  le : ∀ (i : Nat) (hi : i < T.length), cntG T C C.length T[i].part ≤ T[i].claims
  worst : wc = 0 → ∀ (i : Nat) (hi : i < T.length), cntG T C C.length T[i].part ≤ n
  left : lc = 0 → ∀ (i : Nat) (hi : i < T.length), T[i].part.toList = s.toList → l = T[i].claims - cntG T C C.length T[i].part
  none : wc ≠ 0 → cntV (verdL T C C.length) 0 C.length = 0
theorem verd_ok {T : List Term} {C : List Claim} {s p : ByteArray} {l lc n wc : Int} (hb : bothB T C = true) (hL : ClaimsLeft_r T C s = (l, lc)) (hW : WorstPart_r T C = (p, n, wc)) : VOk T C s l lc n wc := by
  obtain ⟨hT, hC⟩ := bothB_of hb
  refine ⟨fun i hi => grant_le hT hi _, fun h0 i hi => ?_, fun h0 i hi hp => ?_, fun hne => ?_⟩
  · unfold WorstPart_r at hW
    rw [if_pos hb] at hW
    split at hW
    · injection hW with h1 h2; injection h2 with h2 h3; omega
    · injection hW with h1 h2
      injection h2 with h2 h3
      rw [← h2]
      exact (worst_max T C T.length (Nat.le_refl _)).2 i hi hi
  · unfold ClaimsLeft_r at hL
    split at hL
    · split at hL
      · injection hL with h1 h2; omega
      · rw [first_is hT hi hp, Int.toNat_natCast, getD_at _ _ _ hi] at hL
        injection hL with h1 h2
        rw [← h1, cntG_congr T C hp]
    · injection hL with h1 h2; omega
  · unfold WorstPart_r at hW
    rw [if_pos hb] at hW
    split at hW
    · rename_i h0
      exact cntV_zero h0 _ (Nat.le_refl _)
    · injection hW with h1 h2
      injection h2 with h2 h3
      exact absurd h3.symm hne
end Go.Proofs.Ytnpfgngfolgdfaa
