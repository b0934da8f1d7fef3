/- The first element with a property, as an index or -1; parts of slices. No statement of the seat is proved here. -/
import Derived.Test.YtnpfgngfolgdfaaStructs
namespace Go.Proofs.Ytnpfgngfolgdfaa
open Go.RowKit

def firstAt {α : Type} (p : α → Bool) (xs : List α) : Int := if xs.any p then ((xs.findIdx p : Nat) : Int) else -1
section
variable {α : Type} {p : α → Bool} {xs : List α}
theorem firstAt_none (h : xs.any p = false) : firstAt p xs = -1 := by unfold firstAt; rw [h]; rfl
theorem firstAt_at {k : Nat} (hk : k < xs.length) (h : (xs.take k).any p = false) (hp : p xs[k] = true) : firstAt p xs = k := by
  have ha : xs.any p = true := List.any_eq_true.2 ⟨xs[k], List.getElem_mem hk, hp⟩
  have e : xs.findIdx p = k := by
    rw [List.findIdx_eq hk]
    refine ⟨hp, fun j hj => ?_⟩
    rw [List.any_eq_false] at h
    have := h xs[j] (by rw [List.mem_take_iff_getElem]; exact ⟨j, by omega, rfl⟩)
    simpa using this
  unfold firstAt
  rw [ha, e]; rfl
theorem firstAt_neg : firstAt p xs < 0 ↔ xs.any p = false := by
  unfold firstAt
  cases h : xs.any p
  · simp
  · simp only [if_true]; constructor
    · intro h; omega
    · intro h; cases h
theorem firstAt_get (h : ¬ firstAt p xs < 0) : ∃ (k : Nat) (hk : k < xs.length), firstAt p xs = k ∧ p xs[k] = true ∧ (xs.take k).any p = false := by
  have ha : xs.any p = true := by
    rcases hb : xs.any p
    · exact absurd (firstAt_neg.2 hb) h
    · rfl
  have hlt : xs.findIdx p < xs.length := by
    rw [List.findIdx_lt_length]
    simpa using ha
  refine ⟨xs.findIdx p, hlt, by unfold firstAt; rw [ha]; rfl, List.findIdx_getElem (w := hlt), ?_⟩
  rw [List.any_eq_false]
  intro x hx
  rw [List.mem_take_iff_getElem] at hx
  obtain ⟨j, hj, rfl⟩ := hx
  have := List.not_of_lt_findIdx (p := p) (xs := xs) (i := j) (by omega)
  simpa using this
theorem any_take_succ (k : Nat) (h : k < xs.length) (ha : (xs.take k).any p = false) (hp : p xs[k] = false) : (xs.take (k + 1)).any p = false := by
  rw [List.take_succ_eq_append_getElem h, List.any_append, ha]; simp [hp]
theorem any_of_take (k : Nat) (h : xs.length ≤ k) (ha : (xs.take k).any p = false) : xs.any p = false := by
  rwa [List.take_of_length_le h] at ha
theorem firstAt_le {k : Nat} (hk : (xs.take k).any p = true) : firstAt p xs < k := by
  rw [List.any_eq_true] at hk
  obtain ⟨x, hx, hp⟩ := hk
  rw [List.mem_take_iff_getElem] at hx
  obtain ⟨j, hj, rfl⟩ := hx
  have ha : xs.any p = true := List.any_eq_true.2 ⟨xs[j], List.getElem_mem _, hp⟩
  have hj2 : j < xs.length := by omega
  have : xs.findIdx p ≤ j := by
    rcases Nat.lt_or_ge j (xs.findIdx p) with h | h
    · have := List.not_of_lt_findIdx (p := p) (xs := xs) (i := j) h
      rw [hp] at this
      cases this
    · exact h
  unfold firstAt
  rw [ha, if_pos rfl]
  omega
end
/-- the first k elements of a slice -/
theorem Sl.take {α : Type} {E : Enc α} {w : World} {A : Option Addr} {n cap : Nat} {xs : List α} (h : Sl E w (.slice A n cap) xs) (k : Nat) (hk : k ≤ n) : Sl E w (.slice A k cap) (xs.take k) := by
  obtain ⟨A', cap', e, hc, hm, h3⟩ := h.shape
  cases e
  have hl : (xs.take k).length = k := by simp; omega
  refine ⟨E.len _, by rw [hl]; unfold big40; omega, A, cap, by rw [hl], by rw [hl]; omega, fun hp => ?_⟩
  rw [hl] at hp
  obtain ⟨b, off, e, hb, _⟩ := h3 (by omega)
  obtain ⟨_, _, A2, cap2, e2, _, h4⟩ := h
  cases e2
  obtain ⟨b2, off2, e3, hb2, hx⟩ := h4 (by omega)
  refine ⟨b2, off2, e3, hb2, fun j u hu => hx j u ?_⟩
  rw [← E.take xs k hk] at hu
  rw [List.getElem?_take] at hu
  split at hu
  · exact hu
  · cases hu
end Go.Proofs.Ytnpfgngfolgdfaa
