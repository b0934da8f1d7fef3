/- The plain law of turning a nipple back (chapter 7). No statement of the seat is proved here. -/
import Derived.Test.YtblaojjpclipaaaTurn
namespace Go.Proofs.Ytblaojjpclipaaa
open Go.RowKit

theorem ext_getD {xs ys : List Int} (hl : xs.length = ys.length) (h : ∀ m, xs.getD m 0 = ys.getD m 0) : xs = ys := by
  apply List.ext_getElem hl
  intro i h1 h2
  have := h i
  rwa [getD_at _ _ _ h1, getD_at _ _ _ h2] at this
theorem addAt_get (xs : List Int) (j : Nat) (v : Int) (m : Nat) : (addAt xs j v).getD m 0 = xs.getD m 0 + (if j = m ∧ m < xs.length then v else 0) := by
  unfold addAt
  rw [getD_set_if]
  split
  · rename_i h
    rw [h.1]
  · omega
theorem addAt_comm (xs : List Int) (i j : Nat) (a b : Int) : addAt (addAt xs i a) j b = addAt (addAt xs j b) i a := by
  apply ext_getD
  · simp [addAt_len]
  · intro m
    rw [addAt_get, addAt_get, addAt_get, addAt_get, addAt_len, addAt_len]
    omega
theorem addAt_back (xs : List Int) (i : Nat) (a : Int) : addAt (addAt xs i a) i (-a) = xs := by
  apply ext_getD
  · simp [addAt_len]
  · intro m
    rw [addAt_get, addAt_get, addAt_len]
    split <;> omega
theorem spr1_addAt (xs : List Int) (sp : Int) (d : Nat) (v : Int) (j : Nat) (b : Int) : spr1 (addAt xs j b) sp d v = addAt (spr1 xs sp d v) j b := by
  unfold spr1
  rw [addAt_len]
  split
  · rw [addAt_comm]
  · rw [addAt_comm xs j, addAt_comm _ j]
theorem spr_addAt (xs S : List Int) (sp q : Int) (j : Nat) (b : Int) : ∀ k, spr (addAt xs j b) S sp q k = addAt (spr xs S sp q k) j b
  | 0 => rfl
  | k + 1 => by rw [spr, spr, spr_addAt xs S sp q j b k, spr1_addAt]
theorem spr_spr1 (xs S : List Int) (sp q : Int) (d : Nat) (v : Int) (k : Nat) : spr (spr1 xs sp d v) S sp q k = spr1 (spr xs S sp q k) sp d v := by
  unfold spr1
  rw [spr_len]
  split
  · rw [spr_addAt]
  · rw [spr_addAt, spr_addAt]
theorem spr1_back (xs : List Int) (sp : Int) (d : Nat) (v : Int) : spr1 (spr1 xs sp d v) sp d (-v) = xs := by
  unfold spr1
  by_cases h : d = 0
  · rw [if_pos h, if_pos h, addAt_len, addAt_back]
  · rw [if_neg h, if_neg h, addAt_len, addAt_len]
    rw [addAt_comm (addAt xs _ v), addAt_back, addAt_back]
theorem spr_back (L S : List Int) (sp q : Int) : ∀ k, spr (spr L S sp q k) S sp (-q) k = L
  | 0 => rfl
  | k + 1 => by
    rw [spr, spr, spr_spr1, spr_back L S sp q k, Int.neg_mul, spr1_back]
theorem turn_back {L S t : List Int} {sp q c : Int} (h : TurnNipple_r L S sp q = (t, c)) (h0 : c = 0) : TurnNipple_r t S sp (-q) = (L, 0) ∧ t.length = L.length ∧ L.length ≤ 48 ∧ inR q (-100) 100 = true := by
  unfold TurnNipple_r at h
  split at h
  · rename_i h1
    split at h
    · rename_i h2
      split at h
      · rename_i h3
        injection h with e1 e2
        rw [Bool.and_eq_true] at h1 h2
        have hl : t.length = L.length := by rw [← e1, spr_len]
        have hq := inR_iff.1 h2.2
        rw [e1] at h3
        have hb := spr_back L S sp q S.length
        rw [e1] at hb
        have hLb := areTens_bd h1.1
        refine ⟨?_, hl, hLb.2.1, h2.2⟩
        have := Turn_4 (L := t) (S := S) (sp := sp) (q := -q) (by rw [h3, h1.2]; rfl) (by rw [hl, h2.1, inR_iff.2 (by omega)]; rfl) (by rw [hb]; exact h1.1)
        rw [this, hb]
      · injection h with e1 e2; omega
    · injection h with e1 e2; omega
  · injection h with e1 e2; omega
end Go.Proofs.Ytblaojjpclipaaa
