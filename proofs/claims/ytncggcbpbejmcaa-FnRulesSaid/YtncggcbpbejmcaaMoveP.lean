/- The plain law of MoveRule. No statement of the seat is proved here. -/
import Derived.Test.YtncggcbpbejmcaaRules
import Derived.Test.YtncggcbpbejmcaaCopy
namespace Go.Proofs.Ytncggcbpbejmcaa
open Go.RowKit

theorem shoved_set {α : Type} (rest : List α) (z r : α) (t : Nat) (ht : t ≤ rest.length) : (shoved (rest ++ [z]) t).set t r = rest.take t ++ [r] ++ rest.drop t := by
  have e1 : (rest ++ [z]).length - (t + 1) = rest.length - t := by rw [List.length_append, List.length_singleton]; omega
  have e2 : ((rest ++ [z]).drop t).take (rest.length - t) = rest.drop t := by
    rw [List.drop_append_of_le_length ht, List.take_append_of_le_length (by rw [List.length_drop]; omega), List.take_of_length_le (by rw [List.length_drop]; omega)]
  have e3 : ((rest ++ [z]).take (t + 1)).set t r = rest.take t ++ [r] := by
    have hl : t < (rest ++ [z]).length := by rw [List.length_append, List.length_singleton]; omega
    have h4 : (rest ++ [z]).take t = rest.take t := List.take_append_of_le_length ht
    rw [List.take_succ_eq_append_getElem hl, List.set_append_right _ _ (by rw [List.length_take]; omega), h4]
    congr 1
    have h5 : t - (rest.take t).length = 0 := by rw [List.length_take]; omega
    rw [h5]; rfl
  unfold shoved
  rw [e1, e2, List.set_append_left _ _ (by rw [List.length_take, List.length_append, List.length_singleton]; omega), e3]
def restL (R : List Rule) (i : Nat) : List Rule := R.take i ++ R.drop (i + 1)
def moved (R : List Rule) (i t : Nat) : List Rule := (restL R i).take t ++ [R.getD i zRule] ++ (restL R i).drop t
theorem restL_len {R : List Rule} {i : Nat} (h : i < R.length) : (restL R i).length + 1 = R.length := by unfold restL; rw [List.length_append, List.length_take, List.length_drop]; omega
theorem moved_len {R : List Rule} {i : Nat} (h : i < R.length) (t : Nat) : (moved R i t).length = R.length := by
  have := restL_len h
  unfold moved
  rw [List.length_append, List.length_append, List.length_take, List.length_drop, List.length_singleton]
  omega
theorem moved_eq {R : List Rule} {i t : Nat} (h : i < R.length) (h2 : t < R.length) (z : Rule) : (shoved (restL R i ++ [z]) t).set t (R.getD i zRule) = moved R i t := shoved_set _ _ _ _ (by have := restL_len h; omega)
def MoveRule_r (R : List Rule) (i t : Int) : List Rule × Int := if areRules R then (if inR i 0 (R.length - 1) && inR t 0 (R.length - 1) then (moved R i.toNat t.toNat, 0) else ([], 2)) else ([], 1)
theorem MoveRule_1 {R : List Rule} {i t : Int} (h : areRules R = false) : MoveRule_r R i t = ([], 1) := by unfold MoveRule_r; rw [h]; rfl
theorem MoveRule_2 {R : List Rule} {i t : Int} (h : areRules R = true) (h2 : (inR i 0 (R.length - 1) && inR t 0 (R.length - 1)) = false) : MoveRule_r R i t = ([], 2) := by unfold MoveRule_r; rw [h, h2]; rfl
theorem MoveRule_ok {R : List Rule} {i t : Nat} (h : areRules R = true) (h1 : i < R.length) (h2 : t < R.length) : MoveRule_r R i t = (moved R i t, 0) := by
  unfold MoveRule_r
  rw [if_pos h, if_pos (by rw [Bool.and_eq_true, inR_iff, inR_iff]; omega), Int.toNat_natCast, Int.toNat_natCast]
theorem MoveRule_len (R : List Rule) (i t : Int) : (MoveRule_r R i t).1.length ≤ 1048576 := by
  unfold MoveRule_r
  split
  · rename_i h
    unfold areRules at h
    rw [Bool.and_eq_true, decide_eq_true_eq] at h
    split
    · rename_i h2
      rw [Bool.and_eq_true, inR_iff, inR_iff] at h2
      have := moved_len (R := R) (i := i.toNat) (by omega) t.toNat
      simp only []; omega
    · simp
  · simp
end Go.Proofs.Ytncggcbpbejmcaa
