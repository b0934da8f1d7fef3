/- The plain law of claims: one on the last day is granted, one a day later is late; one that is added is the last one (chapter 28). No statement of the seat is proved here. -/
import Derived.Test.YtnpfgngfolgdfaaLastDay
import Derived.Test.YtnpfgngfolgdfaaAddClaim
import Derived.Test.YtnpfgngfolgdfaaLVerdictsOf
namespace Go.Proofs.Ytnpfgngfolgdfaa
open Go.RowKit

theorem areClaims_one {s : ByteArray} {a b : Int} (hs : isWord s = true) (ha : 0 ≤ a) (hab : a ≤ b) (hb : b ≤ 100000) : areClaims [⟨s, a, b, 0⟩] = true := by
  unfold areClaims
  rw [Bool.and_eq_true]
  refine ⟨by simp, ?_⟩
  rw [List.all_eq_true]
  intro i hi
  have hi' := List.mem_range.1 hi
  obtain rfl : i = 0 := by simpa using hi'
  unfold claimOk
  rw [getD_at _ _ 0 (by simp)]
  simp only [List.getElem_cons_zero]
  rw [hs, inR_iff.2 ⟨ha, by omega⟩, inR_iff.2 ⟨by omega, hb⟩, inR_iff.2 ⟨by omega, by omega⟩, decide_eq_true hab]
  rfl
theorem last_ok {T : List Term} {s : ByteArray} {sold d c : Int} (h : LastDay_r T s sold = (d, c)) (h0 : c = 0) : areTerms T = true ∧ isWord s = true ∧ 0 ≤ sold ∧ sold ≤ 100000 ∧ ∃ (j : Nat) (hj : j < T.length), firstAt (isPart s) T = (j : Int) ∧ d = min 100000 (sold + T[j].days) ∧ 1 ≤ T[j].days ∧ 1 ≤ T[j].tens ∧ 1 ≤ T[j].claims := by
  unfold LastDay_r at h
  split at h
  · rename_i hT
    split at h
    · rename_i hs
      split at h
      · rename_i hr
        obtain ⟨r0, r1⟩ := inR_iff.1 hr
        split at h
        · injection h with h1 h2; omega
        · rename_i hf
          obtain ⟨j, hj, e, _, _⟩ := firstAt_get hf
          injection h with h1 h2
          rw [e, Int.toNat_natCast, getD_at _ _ _ hj] at h1
          have ha := areTerms_at hT j hj
          exact ⟨hT, hs, r0, r1, j, hj, e, h1.symm, ha.2.2.1, ha.2.2.2.2.1, ha.2.2.2.2.2.2.1⟩
      · injection h with h1 h2; omega
    · injection h with h1 h2; omega
  · injection h with h1 h2; omega
theorem last_day {T : List Term} {s : ByteArray} {sold d c : Int} (h : LastDay_r T s sold = (d, c)) (h0 : c = 0) : 0 ≤ d ∧ d ≤ 100000 ∧ s.size ≤ 1048576 ∧ VerdictsOf_r T [⟨s, sold, d, 0⟩] = ([0], 0) ∧ (d ≠ 100000 → VerdictsOf_r T [⟨s, sold, d + 1, 0⟩] = ([2], 0)) := by
  obtain ⟨hT, hs, s0, s1, j, hj, e, hd, d1, d2, d3⟩ := last_ok h h0
  have hmin : d ≤ 100000 ∧ d ≤ sold + T[j].days ∧ (d = 100000 ∨ d = sold + T[j].days) := by
    rw [hd]
    rcases Int.le_total 100000 (sold + T[j].days) with hle | hle
    · rw [Int.min_eq_left hle]; omega
    · rw [Int.min_eq_right hle]; omega
  obtain ⟨m1, m2, m3⟩ := hmin
  have hsz : s.size ≤ 1048576 := by
    unfold isWord at hs
    rw [Bool.and_eq_true] at hs
    have := inR_iff.1 hs.1
    omega
  refine ⟨by omega, m1, hsz, ?_, fun hne => ?_⟩
  · rw [VerdictsOf_ok (bothB_ok hT (areClaims_one hs s0 (by omega) m1))]
    have hv : vAt T [⟨s, sold, d, 0⟩] 0 = 0 := vAt_granted (C := [⟨s, sold, d, 0⟩]) (k := 0) hj e (by simp; omega) (by simp; omega) (by simp [cntG]; omega)
    show (verdL T [⟨s, sold, d, 0⟩] 1, (0 : Int)) = _
    rw [verdL_succ hv]
    rfl
  · have hds : d = sold + T[j].days := by omega
    rw [VerdictsOf_ok (bothB_ok hT (areClaims_one hs s0 (by omega) (by omega)))]
    have hv : vAt T [⟨s, sold, d + 1, 0⟩] 0 = 2 := vAt_late (C := [⟨s, sold, d + 1, 0⟩]) (k := 0) hj e (by simp; omega)
    show (verdL T [⟨s, sold, d + 1, 0⟩] 1, (0 : Int)) = _
    rw [verdL_succ hv]
    rfl
theorem add_ok {xs a : List Claim} {c : Claim} {k : Int} (h : AddClaim_r xs c = (a, k)) (h0 : k = 0) : a = xs ++ [c] ∧ areClaims a = true := by
  unfold AddClaim_r at h
  split at h
  · split at h
    · injection h with h1 h2; omega
    · split at h
      · rename_i h3
        injection h with h1 h2
        exact ⟨h1.symm, by rw [← h1]; exact h3⟩
      · injection h with h1 h2; omega
  · injection h with h1 h2; omega
theorem add_okC {xs a : List Claim} {c : Claim} {k : Int} (h : AddClaim_r xs c = (a, k)) (hq : ∀ x ∈ xs, okClaim x) (hc : okClaim c) : ∀ x ∈ a, okClaim x := by
  unfold AddClaim_r at h
  split at h
  · split at h
    · injection h with h1 h2; subst h1; simp
    · split at h
      · injection h with h1 h2
        subst h1
        intro x hx
        rcases List.mem_append.1 hx with hx | hx
        · exact hq x hx
        · rw [List.mem_singleton.1 hx]; exact hc
      · injection h with h1 h2; subst h1; simp
  · injection h with h1 h2; subst h1; simp
end Go.Proofs.Ytnpfgngfolgdfaa
