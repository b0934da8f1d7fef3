/- The plain law of rules: moving back, a rebuild's bounds, the cheapest rebuild's grade, changed parts both ways (chapter 25). No statement of the seat is proved here. -/
import Derived.Test.YtncggcbpbejmcaaGradeLaw
import Derived.Test.YtncggcbpbejmcaaLChanged
import Derived.Test.YtncggcbpbejmcaaLCheapest
import Derived.Test.YtncggcbpbejmcaaMoveP
namespace Go.Proofs.Ytncggcbpbejmcaa
open Go.RowKit

theorem rebuild_at {x r : Used} {p d c : Int} (h : Rebuild_r x p d = (r, c)) (h0 : c = 0) : isUsed x = true ∧ r = rebuiltF x p d ∧ r.play ≤ x.play ∧ r.play ≤ p ∧ r.rust = 0 ∧ r.dents ≤ x.dents ∧ 0 ≤ r.dents ∧ r.hours = x.hours ∧ r.name = x.name := by
  unfold Rebuild_r at h
  split at h
  · rename_i hu
    split at h
    · rename_i hp
      injection h with h1 h2
      subst h1
      rw [Bool.and_eq_true, inR_iff, inR_iff] at hp
      have hb := isUsed_bd hu
      unfold rebuiltF
      refine ⟨hu, rfl, ?_, ?_, rfl, ?_, ?_, rfl, rfl⟩ <;> simp only [] <;> omega
    · injection h with h1 h2; omega
  · injection h with h1 h2; omega
theorem rebuilt_is {x : Used} {d : Int} (h : isUsed x = true) (h0 : 0 ≤ d) : isUsed (rebuiltF x 0 d) = true := by
  have hb := isUsed_bd h
  unfold isUsed at h ⊢
  rw [Bool.and_eq_true] at h ⊢
  refine ⟨h.1, List.all_eq_true.2 fun i hi => ?_⟩
  have hi4 := List.mem_range.1 hi
  rcases (show i = 0 ∨ i = 1 ∨ i = 2 ∨ i = 3 by omega) with rfl | rfl | rfl | rfl
  · show inR x.hours 0 100000 = true
    exact inR_iff.2 (by omega)
  · show inR (min x.play 0) 0 5000 = true
    exact inR_iff.2 (by omega)
  · show inR 0 0 10 = true
    exact inR_iff.2 (by omega)
  · show inR (max 0 (x.dents - d)) 0 20 = true
    exact inR_iff.2 (by omega)
theorem chL_swap (R1 R2 : List Rule) (L : List Used) : ∀ k, chL R1 R2 L k = chL R2 R1 L k
  | 0 => rfl
  | k + 1 => by
    rw [chL, chL, chL_swap R1 R2 L k]
    by_cases h : gradeF R1 (L.getD k zUsed) = gradeF R2 (L.getD k zUsed)
    · rw [if_pos h, if_pos h.symm]
    · rw [if_neg h, if_neg (fun e => h e.symm)]
theorem changed_swap {R1 R2 : List Rule} {L : List Used} {c : List ByteArray} {k : Int} (h : ChangedParts_r R1 R2 L = (c, k)) (h0 : k = 0) : ChangedParts_r R2 R1 L = (c, 0) := by
  rcases hb : chOk R1 R2 L
  · rw [Changed_bad hb] at h; injection h with h1 h2; omega
  · rw [Changed_ok hb] at h
    injection h with h1 h2
    have hb2 : chOk R2 R1 L = true := by
      unfold chOk gBoth at hb ⊢
      simp only [Bool.and_eq_true] at hb ⊢
      exact ⟨hb.2.1, hb.1, hb.2.2⟩
    rw [Changed_ok hb2, ← h1, chL_swap]
theorem cheapFrom_at {R : List Rule} {x : Used} {g k c : Int} : ∀ (n d : Nat), cheapFrom R x g n d = (k, c) → c = 0 → ∃ j : Nat, k = (j : Int) ∧ j < d + n ∧ gradeF R (rebuiltF x 0 (j : Int)) ≤ g
  | 0, d, h, h0 => by rw [cheapFrom] at h; injection h with h1 h2; omega
  | n + 1, d, h, h0 => by
    rw [cheapFrom] at h
    split at h
    · rename_i hg
      injection h with h1 h2
      exact ⟨d, h1.symm, by omega, hg⟩
    · obtain ⟨j, h1, h2, h3⟩ := cheapFrom_at n (d + 1) h h0
      exact ⟨j, h1, by omega, h3⟩
theorem cheap_at {R : List Rule} {x : Used} {g k c : Int} (h : CheapestRebuild_r R x g = (k, c)) (h0 : c = 0) : 0 ≤ k ∧ k ≤ 20 ∧ Rebuild_r x 0 k = (rebuiltF x 0 k, 0) ∧ GradeOf_r R (rebuiltF x 0 k) = (gradeF R (rebuiltF x 0 k), gradeIx R (rebuiltF x 0 k), 0) ∧ gradeF R (rebuiltF x 0 k) ≤ g := by
  unfold CheapestRebuild_r at h
  split at h
  · rename_i hA
    split at h
    · obtain ⟨j, rfl, hj, hg⟩ := cheapFrom_at 21 0 h h0
      rw [Bool.and_eq_true] at hA
      refine ⟨by omega, by omega, ?_, GradeOf_ok (by rw [hA.1, rebuilt_is hA.2 (by omega)]; rfl), hg⟩
      unfold Rebuild_r
      rw [if_pos hA.2, if_pos (by rw [Bool.and_eq_true, inR_iff, inR_iff]; omega)]
    · injection h with h1 h2; omega
  · injection h with h1 h2; omega
theorem moved_take {R : List Rule} {a b : Nat} (ha : a < R.length) (hb : b < R.length) : (moved R a b).take b = (restL R a).take b ∧ (moved R a b).drop (b + 1) = (restL R a).drop b ∧ (moved R a b).getD b zRule = R.getD a zRule := by
  have hr := restL_len ha
  have hl : ((restL R a).take b).length = b := by rw [List.length_take]; omega
  unfold moved
  generalize restL R a = S at *
  refine ⟨?_, ?_, ?_⟩
  · rw [List.append_assoc, List.take_append_of_le_length (by omega), List.take_of_length_le (by omega)]
  · rw [List.drop_append, List.drop_of_length_le (by rw [List.length_append, List.length_singleton]; omega), List.length_append, hl, List.length_singleton, Nat.sub_self, List.nil_append, List.drop_zero]
  · rw [List.append_assoc, List.getD_eq_getElem?_getD, List.getElem?_append_right (by omega), hl, Nat.sub_self]
    rfl
theorem moved_back {R : List Rule} {a b : Nat} (ha : a < R.length) (hb : b < R.length) : moved (moved R a b) b a = R := by
  obtain ⟨h1, h2, h3⟩ := moved_take ha hb
  have hS : restL (moved R a b) b = restL R a := by
    rw [restL, h1, h2, List.take_append_drop]
  rw [moved, hS, h3]
  have hl : (R.take a).length = a := by rw [List.length_take]; omega
  unfold restL
  rw [List.take_append_of_le_length (by omega), List.take_of_length_le (by omega), List.drop_append, List.drop_of_length_le (by omega), hl, Nat.sub_self, List.nil_append, List.drop_zero]
  rw [List.getD_eq_getElem?_getD, List.getElem?_eq_getElem ha, Option.getD_some, List.append_assoc]
  have := List.take_append_drop a R
  rw [List.drop_eq_getElem_cons ha] at this
  exact this
theorem moved_mem {R : List Rule} {a b : Nat} (ha : a < R.length) {x : Rule} (h : x ∈ moved R a b) : x ∈ R := by
  have hR : ∀ y ∈ restL R a, y ∈ R := by
    intro y hy
    unfold restL at hy
    rcases List.mem_append.1 hy with hy | hy
    · exact List.mem_of_mem_take hy
    · exact List.mem_of_mem_drop hy
  unfold moved at h
  rcases List.mem_append.1 h with h | h
  · rcases List.mem_append.1 h with h | h
    · exact hR _ (List.mem_of_mem_take h)
    · rw [List.mem_singleton.1 h, List.getD_eq_getElem?_getD, List.getElem?_eq_getElem ha]
      exact List.getElem_mem ha
  · exact hR _ (List.mem_of_mem_drop h)
theorem move_back {R M : List Rule} {i t c : Int} (h : MoveRule_r R i t = (M, c)) (h0 : c = 0) : ∃ a b : Nat, i = (a : Int) ∧ t = (b : Int) ∧ ∃ (ha : a < R.length) (hb : b < M.length), MoveRule_r M t i = (R, 0) ∧ M[b] = R[a] := by
  unfold MoveRule_r at h
  split at h
  · rename_i hA
    split at h
    · rename_i hp
      rw [Bool.and_eq_true, inR_iff, inR_iff] at hp
      obtain ⟨a, rfl⟩ := Int.eq_ofNat_of_zero_le hp.1.1
      obtain ⟨b, rfl⟩ := Int.eq_ofNat_of_zero_le hp.2.1
      have ha : a < R.length := by omega
      have hb : b < R.length := by omega
      injection h with h1 h2
      rw [Int.toNat_natCast, Int.toNat_natCast] at h1
      have hM : M.length = R.length := by rw [← h1]; exact moved_len ha b
      have hMA : areRules M = true := by
        unfold areRules at hA ⊢
        rw [Bool.and_eq_true, decide_eq_true_eq, List.all_eq_true] at hA ⊢
        exact ⟨by omega, fun x hx => hA.2 x (moved_mem ha (h1 ▸ hx))⟩
      refine ⟨a, b, rfl, rfl, ha, by omega, ?_, ?_⟩
      · rw [MoveRule_ok hMA (by omega) (by omega), ← h1, moved_back ha hb]
      · have h3 := (moved_take ha hb).2.2
        rw [h1, List.getD_eq_getElem?_getD, List.getD_eq_getElem?_getD, List.getElem?_eq_getElem ha, List.getElem?_eq_getElem (by omega)] at h3
        exact h3
    · injection h with h1 h2; omega
  · injection h with h1 h2; omega
end Go.Proofs.Ytncggcbpbejmcaa
