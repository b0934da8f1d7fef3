/- The plain law of using pieces: one bin alone loses them, out of what was reserved (chapter 24). No statement of the seat is proved here. -/
import Derived.Test.YtblaojjpclipaaaStockI
namespace Go.Proofs.Ytblaojjpclipaaa
open Go.RowKit

theorem bl_irrefl : ∀ a : List UInt8, Op.bytesLess a a = false
  | [] => rfl
  | x :: a => by simp [Op.bytesLess, bl_irrefl a]
theorem bl_trans : ∀ a b c : List UInt8, Op.bytesLess a b = true → Op.bytesLess b c = true → Op.bytesLess a c = true
  | _, [], _, h, _ => by simp [Op.bytesLess] at h
  | _, _ :: _, [], _, h => by simp [Op.bytesLess] at h
  | [], _ :: _, _ :: _, _, _ => rfl
  | x :: a, y :: b, z :: c, h1, h2 => by
    simp only [Op.bytesLess, Bool.or_eq_true, decide_eq_true_eq, Bool.and_eq_true, beq_iff_eq] at *
    rcases h1 with h1 | ⟨rfl, h1⟩
    · rcases h2 with h2 | ⟨rfl, h2⟩
      · exact .inl (UInt8.lt_trans h1 h2)
      · exact .inl h1
    · rcases h2 with h2 | ⟨rfl, h2⟩
      · exact .inl h2
      · exact .inr ⟨rfl, bl_trans a b c h1 h2⟩
theorem stock_lt {xs : List Bin} (h : isStock xs = true) {i : Nat} (hi : i < xs.length) : ∀ (d : Nat) (hk : i + d + 1 < xs.length), keyLtS xs[i].code xs[i + d + 1].code = true
  | 0, hk => by
    unfold isStock at h
    rw [Bool.and_eq_true, List.all_eq_true] at h
    have h2 := h.2 (i + 1) (List.mem_range.2 hk)
    unfold binOk at h2
    rw [Bool.and_eq_true] at h2
    have h3 := h2.2
    rw [Nat.add_sub_cancel, getD_at _ _ _ hi, getD_at _ _ _ hk] at h3
    simpa using h3
  | d + 1, hk => by
    have ih := stock_lt h hi d (by omega)
    have h1 := stock_lt h (i := i + d + 1) (by omega) 0 (by omega)
    exact bl_trans _ _ _ ih h1
theorem stock_ne {xs : List Bin} (h : isStock xs = true) {i j : Nat} (hi : i < xs.length) (hj : j < xs.length) (hne : i ≠ j) : xs[i].code.toList ≠ xs[j].code.toList := by
  intro e
  rcases Nat.lt_or_gt_of_ne hne with hlt | hlt
  · obtain ⟨d, rfl⟩ : ∃ d, j = i + d + 1 := ⟨j - i - 1, by omega⟩
    have := stock_lt h hi d hj
    unfold keyLtS at this
    rw [e, bl_irrefl] at this
    cases this
  · obtain ⟨d, rfl⟩ : ∃ d, i = j + d + 1 := ⟨i - j - 1, by omega⟩
    have := stock_lt h hj d hi
    unfold keyLtS at this
    rw [e, bl_irrefl] at this
    cases this
/-- what is known where pieces were used -/
theorem used_at {xs u : List Bin} {s : ByteArray} {n c : Int} (h : UsePieces_r xs s n = (u, c)) (h0 : c = 0) : u.length = xs.length ∧ xs.length ≤ 20 ∧ 1 ≤ n ∧ n ≤ 100000 ∧ ∀ (i : Nat) (hi : i < xs.length) (hu : i < u.length),
    0 ≤ xs[i].amount ∧ xs[i].amount ≤ 100000 ∧ 0 ≤ xs[i].reserved ∧ xs[i].reserved ≤ xs[i].amount ∧ ((xs[i].code.toList == s.toList) = true → u[i] = usedB xs[i] n) ∧ ((xs[i].code.toList == s.toList) = false → u[i] = xs[i]) := by
  rcases Decidable.em (heldC xs s n = 0) with hC | hC
  · obtain ⟨hA, hN, j, hj, e, hp, _⟩ := code_zero (held_code0 hC)
    rw [Use_ok hC hj e] at h
    injection h with h1 h2
    subst h1
    obtain ⟨n0, n1⟩ := inR_iff.1 hN
    obtain ⟨hl, hat⟩ := isStock_at hA
    refine ⟨List.length_set, hl, n0, n1, fun i hi hu => ?_⟩
    obtain ⟨_, a0, a1, r0, r1⟩ := hat i hi
    refine ⟨a0, a1, r0, r1, fun hc => ?_, fun hc => ?_⟩
    · rw [List.getElem_set]
      by_cases hij : j = i
      · subst hij
        rw [if_pos rfl]
      · exfalso
        have hp' : xs[j].code.toList = s.toList := by unfold isBin at hp; exact beq_iff_eq.1 hp
        exact stock_ne hA hj hi hij (hp'.trans (beq_iff_eq.1 hc).symm)
    · rw [List.getElem_set]
      by_cases hij : j = i
      · subst hij
        unfold isBin at hp
        rw [hp] at hc
        cases hc
      · rw [if_neg hij]
  · rw [Use_bad hC] at h
    injection h with h1 h2
    exact absurd (h2.trans h0) hC
end Go.Proofs.Ytblaojjpclipaaa
