/- How often each of five numbers occurs in a list: plain lemmas. No statement of the seat is proved here. -/
import Derived.Test.YtncggcbpbejmcaaWords
namespace Go.Proofs.Ytncggcbpbejmcaa
def tally (vs : List Int) : Nat → List Int
  | 0 => List.replicate 5 0
  | k + 1 => (tally vs k).set (vs.getD k 0).toNat ((tally vs k).getD (vs.getD k 0).toNat 0 + 1)
theorem tally_len (vs : List Int) : ∀ k, (tally vs k).length = 5
  | 0 => by simp [tally]
  | k + 1 => by rw [tally, List.length_set]; exact tally_len vs k
theorem tally_bd (vs : List Int) : ∀ k i, 0 ≤ (tally vs k).getD i 0 ∧ (tally vs k).getD i 0 ≤ k
  | 0, i => by
    rw [tally, List.getD_eq_getElem?_getD, List.getElem?_replicate]
    split <;> simp
  | k + 1, i => by
    have ih := tally_bd vs k i
    have ih2 := tally_bd vs k (vs.getD k 0).toNat
    rw [tally]
    rcases Nat.lt_or_ge i 5 with h | h
    · rw [getD_at _ _ _ (by rw [List.length_set, tally_len]; exact h), List.getElem_set]
      rw [getD_at _ _ _ (by rw [tally_len]; exact h)] at ih
      split <;> omega
    · have : ((tally vs k).set (vs.getD k 0).toNat ((tally vs k).getD (vs.getD k 0).toNat 0 + 1)).getD i 0 = 0 := by
        rw [List.getD_eq_getElem?_getD, List.getElem?_eq_none (by rw [List.length_set, tally_len]; exact h)]; rfl
      omega
end Go.Proofs.Ytncggcbpbejmcaa
