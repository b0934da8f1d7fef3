/- The plain law of grades: silent rules give no grade, each part has one grade, the best part has the least grade (chapter 25). No statement of the seat is proved here. -/
import Derived.Test.YtncggcbpbejmcaaLGradeOf
import Derived.Test.YtncggcbpbejmcaaLCountGrades
import Derived.Test.YtncggcbpbejmcaaLBestUsed
import Derived.Test.YtncggcbpbejmcaaLSilent
import Derived.Test.YtncggcbpbejmcaaLaws
namespace Go.Proofs.Ytncggcbpbejmcaa
open Go.RowKit

theorem silL_mem {R : List Rule} {x : Int} : ∀ k, x ∈ silL R k → ∃ i : Nat, i < k ∧ x = (i : Int) ∧ silJ R i i = true
  | 0, h => by simp [silL] at h
  | k + 1, h => by
    rw [silL] at h
    split at h
    · rename_i hs
      rcases List.mem_append.1 h with h | h
      · obtain ⟨i, h1, h2, h3⟩ := silL_mem k h
        exact ⟨i, by omega, h2, h3⟩
      · exact ⟨k, by omega, List.mem_singleton.1 h, hs⟩
    · obtain ⟨i, h1, h2, h3⟩ := silL_mem k h
      exact ⟨i, by omega, h2, h3⟩
theorem silJ_or {R : List Rule} {k : Nat} : ∀ j, silJ R k j = true → mostF (R.getD k zRule).field < (R.getD k zRule).least ∨ ∃ i, i < j ∧ hides (R.getD i zRule) (R.getD k zRule) = true
  | 0, h => .inl (by rw [silJ, decide_eq_true_eq] at h; exact h)
  | j + 1, h => by
    rw [silJ, Bool.or_eq_true] at h
    rcases h with h | h
    · rcases silJ_or j h with h | ⟨i, h1, h2⟩
      · exact .inl h
      · exact .inr ⟨i, by omega, h2⟩
    · exact .inr ⟨j, by omega, h⟩
theorem numF_bd {x : Used} (h : isUsed x = true) (f : Int) (h0 : 0 ≤ f) (h3 : f ≤ 3) : 0 ≤ numF x f ∧ numF x f ≤ mostF f := by
  unfold isUsed at h
  rw [Bool.and_eq_true, List.all_eq_true] at h
  obtain ⟨k, rfl⟩ := Int.eq_ofNat_of_zero_le h0
  have := h.2 k (List.mem_range.2 (by omega))
  unfold usedAt at this
  exact inR_iff.1 this
/-- the rule that gives the grade is not silent -/
theorem grade_loud {R : List Rule} {x : Used} (hR : areRules R = true) (hx : isUsed x = true) : gradeIx R x ∉ silL R R.length := by
  intro hm
  obtain ⟨k, hk, e, hs⟩ := silL_mem _ hm
  have hn : ¬ firstAt (fires x) R < 0 := by
    have : firstAt (fires x) R = (k : Int) := e
    omega
  obtain ⟨j, hj, e2, hf, ht⟩ := firstAt_get hn
  have hjk : j = k := by
    have : firstAt (fires x) R = (k : Int) := e
    omega
  subst hjk
  have hfire : R[j].least ≤ numF x R[j].field := by unfold fires at hf; rw [decide_eq_true_eq] at hf; exact hf
  have hrj := (areRules_at hR).2 j hj
  have hnj := numF_bd hx R[j].field hrj.1 hrj.2.1
  rcases silJ_or j hs with h | ⟨i, hi, h⟩
  · rw [getD_at _ _ _ hj] at h
    omega
  · have hil : i < R.length := by omega
    rw [getD_at _ _ _ hj, getD_at _ _ _ hil] at h
    have hri := (areRules_at hR).2 i hil
    have hni := numF_bd hx R[i].field hri.1 hri.2.1
    have hno : fires x R[i] = false := by
      rw [List.any_eq_false] at ht
      have := ht R[i] (by rw [List.mem_take_iff_getElem]; exact ⟨i, by omega, rfl⟩)
      simpa using this
    unfold fires at hno
    rw [decide_eq_false_iff_not] at hno
    unfold hides at h
    rw [Bool.or_eq_true, beq_iff_eq, Bool.and_eq_true, beq_iff_eq, decide_eq_true_eq] at h
    rcases h with h | ⟨h1, h2⟩
    · omega
    · rw [h1] at hno
      omega
theorem grade_at {R : List Rule} {x : Used} {g i c : Int} (h : GradeOf_r R x = (g, i, c)) (h0 : c = 0) : areRules R = true ∧ isUsed x = true ∧ i = gradeIx R x ∧ ((i = -1 ∧ g = 0) ∨ ∃ (k : Nat) (hk : k < R.length), i = (k : Int) ∧ R[k].grade = g) := by
  unfold GradeOf_r at h
  split at h
  · rename_i hb
    rw [Bool.and_eq_true] at hb
    injection h with h1 h2
    injection h2 with h2 h3
    refine ⟨hb.1, hb.2, h2.symm, ?_⟩
    by_cases hn : firstAt (fires x) R < 0
    · left
      have hx := gradeF_none (firstAt_neg.1 hn)
      rw [hx.1] at h1
      rw [hx.2] at h2
      exact ⟨h2.symm, h1.symm⟩
    · right
      obtain ⟨j, hj, _, hf, ht⟩ := firstAt_get hn
      have hx := gradeF_at hj ht hf
      rw [hx.1] at h1
      rw [hx.2] at h2
      exact ⟨j, hj, h2.symm, h1⟩
  · injection h with h1 h2
    injection h2 with h2 h3
    omega
theorem bestG_min (R : List Rule) (L : List Used) : ∀ k i, i < k → gr R L (bestG R L k) ≤ gr R L i
  | 0, i, h => by omega
  | k + 1, i, h => by
    rw [bestG]
    by_cases hb : better R L k (bestG R L k) = true
    · rw [if_pos hb]
      have hle : gr R L k ≤ gr R L (bestG R L k) := by
        unfold better at hb
        rw [Bool.or_eq_true, decide_eq_true_eq, Bool.and_eq_true, beq_iff_eq] at hb
        omega
      by_cases e : i = k
      · subst e; exact Int.le_refl _
      · have := bestG_min R L k i (by omega)
        omega
    · rw [if_neg hb]
      have hle : gr R L (bestG R L k) ≤ gr R L k := by
        unfold better at hb
        rw [Bool.or_eq_true, decide_eq_true_eq] at hb
        omega
      by_cases e : i = k
      · subst e; exact hle
      · exact bestG_min R L k i (by omega)
theorem best_at {R : List Rule} {L : List Used} {b c : Int} (h : BestUsed_r R L = (b, c)) (h0 : c = 0) : gBoth R L = true ∧ ∃ (j : Nat) (hj : j < L.length), b = (j : Int) ∧ ∀ (i : Nat) (hi : i < L.length), gradeF R L[j] ≤ gradeF R L[i] := by
  unfold BestUsed_r at h
  split at h
  · rename_i hb
    split at h
    · injection h with h1 h2; omega
    · rename_i hl
      injection h with h1 h2
      have hj := bestG_lt R L L.length (by omega)
      refine ⟨hb, bestG R L L.length, hj, h1.symm, fun i hi => ?_⟩
      rw [gr_at hj, gr_at hi]
      exact bestG_min R L _ i hi
  · injection h with h1 h2; omega
theorem grade_all {R : List Rule} {L : List Used} (h : gBoth R L = true) (i : Nat) (hi : i < L.length) : GradeOf_r R L[i] = (gradeF R L[i], gradeIx R L[i], 0) := by
  obtain ⟨h1, h2⟩ := gBoth_of h
  exact GradeOf_ok (by rw [h1, (areUsed_at h2).2 i hi]; rfl)
theorem sumTo5 (l : List Int) : sumTo l 5 = l.getD 0 0 + l.getD 1 0 + l.getD 2 0 + l.getD 3 0 + l.getD 4 0 := by
  simp only [sumTo]
  omega
theorem set5 (l : List Int) (hl : l.length = 5) (k : Nat) (hk : k < 5) (x : Int) : sumTo (l.set k x) 5 = sumTo l 5 - l.getD k 0 + x := by
  match l, hl with
  | [a, b, c, d, e], _ =>
    rw [sumTo5, sumTo5]
    rcases (show k = 0 ∨ k = 1 ∨ k = 2 ∨ k = 3 ∨ k = 4 by omega) with rfl | rfl | rfl | rfl | rfl <;> simp <;> omega
theorem tally_sum (vs : List Int) (h : ∀ i, 0 ≤ vs.getD i 0 ∧ vs.getD i 0 ≤ 4) : ∀ k, sumTo (tally vs k) 5 = k
  | 0 => by rw [sumTo5]; simp [tally]
  | k + 1 => by
    have ih := tally_sum vs h k
    have hb := h k
    rw [tally, set5 _ (tally_len vs k) _ (by omega), ih]
    omega
theorem grades_bd {R : List Rule} (h : areRules R = true) (L : List Used) (i : Nat) : 0 ≤ (gradesL R L).getD i 0 ∧ (gradesL R L).getD i 0 ≤ 4 := by
  by_cases hi : i < L.length
  · rw [gradesL_at hi]; exact gradeF_bd h _
  · rw [List.getD_eq_getElem?_getD, List.getElem?_eq_none (by simp [gradesL]; omega)]
    simp
theorem count_sum {R : List Rule} {L : List Used} {c : List Int} {k : Int} (h : CountGrades_r R L = (c, k)) (h0 : k = 0) : c.length = 5 ∧ sumTo c 5 = L.length ∧ (∀ i, 0 ≤ c.getD i 0 ∧ c.getD i 0 ≤ L.length) ∧ L.length ≤ 60 := by
  rcases hb : gBoth R L
  · rw [CountGrades_bad hb] at h; injection h with h1 h2; omega
  · rw [CountGrades_ok hb] at h
    injection h with h1 h2
    subst h1
    obtain ⟨h3, h4⟩ := gBoth_of hb
    exact ⟨tally_len _ _, tally_sum _ (grades_bd h3 L) _, fun i => tally_bd _ _ i, (areUsed_at h4).1⟩
theorem sil_code {R : List Rule} {s : List Int} {c : Int} (h : SilentRules_r R = (s, c)) : (c == 0) = areRules R := by
  unfold SilentRules_r at h
  split at h <;> injection h with h1 h2 <;> subst h2
  · rename_i h; rw [h]; rfl
  · rename_i h; simp at h; rw [h]; rfl
end Go.Proofs.Ytncggcbpbejmcaa
