/- The plain law of the readings (P26). No statement of the seat is proved here. -/
import Derived.Test.YtijmafppdbllfaaNext
namespace Go.Proofs.Ytijmafppdbllfaa
open Go.RowKit

theorem steep_le (xs : List Int) : ∀ n k, k < n → gap xs k ≤ (steep xs n).2
  | n + 1, k, h => by
    rw [steep]
    by_cases e : k = n
    · subst e
      split
      · exact Int.le_refl _
      · omega
    · have := steep_le xs n k (by omega)
      split
      · simp only []; omega
      · exact this
theorem Steep_bad {xs : List Int} (h : areReadings xs = false) : SteepestPair_r xs = (0, 0, 1) := by unfold SteepestPair_r; rw [h]; rfl
theorem Steep_ok {xs : List Int} (h : areReadings xs = true) : SteepestPair_r xs = ((steep xs xs.length).1, (steep xs xs.length).2, 0) := by unfold SteepestPair_r; rw [if_pos h]
theorem IsEven_bad {xs : List Int} (t p : Int) (h : areReadings xs = false) : IsEven_r xs t p = (false, 1) := by unfold IsEven_r; rw [h]; rfl
theorem IsEven_out {xs : List Int} {t p : Int} (h : areReadings xs = true) (h2 : (inR t 1 2000 && inR p 0 100) = false) : IsEven_r xs t p = (false, 2) := by unfold IsEven_r; rw [if_pos h, h2]; rfl
theorem IsEven_ok {xs : List Int} {t p : Int} (h : areReadings xs = true) (h2 : (inR t 1 2000 && inR p 0 100) = true) : IsEven_r xs t p = (xs.all fun n => !farOff t p n, 0) := by unfold IsEven_r; rw [if_pos h, if_pos h2]
/-- what NextBolt answers where the readings are readings: a bolt below the torque, or a code -/
theorem NextBolt_cases {xs : List Int} {t : Int} (h : areReadings xs = true) : (∃ c, c ≠ 0 ∧ NextBolt_r xs t = (0, c)) ∨ ∃ q : Nat, q < xs.length ∧ xs.getD q 0 < t ∧ NextBolt_r xs t = ((q : Int), 0) := by
  by_cases hc : readCode xs t = 0
  · by_cases hf : firstAt (loose xs t) (star xs.length) < 0
    · exact .inl ⟨4, by decide, NextBolt_none hc (firstAt_neg.1 hf)⟩
    · obtain ⟨k, hk, _, h2, h3⟩ := firstAt_get hf
      have hn := NextBolt_some hc hk h3 h2
      obtain ⟨l1, l2⟩ := areReadings_len h
      obtain ⟨q, hq, hq2⟩ := (star_at l1 l2).2 k hk
      rw [hq] at hn h2
      refine .inr ⟨q, hq2, ?_, hn⟩
      unfold loose at h2
      rw [decide_eq_true_eq, Int.toNat_natCast] at h2
      exact h2
  · exact .inl ⟨_, hc, NextBolt_bad rfl hc⟩
end Go.Proofs.Ytijmafppdbllfaa
