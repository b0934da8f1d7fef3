/- Contracts of SplitTotal in the program and in the reference. No statement of the seat is proved here. -/
import Derived.Test.YtnpfgngfolgdfaaList
import Derived.Test.YtnpfgngfolgdfaaWords
import Derived.Test.YtnpfgngfolgdfaaOwn
namespace Go.Proofs.Ytnpfgngfolgdfaa
open Go.RowKit

def shareOf (s p : Int) (i : Nat) : Int := s / p + (if (i : Int) < s % p then 1 else 0)
def splitL (s p : Int) (k : Nat) : List Int := (List.range k).map (shareOf s p)
theorem splitL_len (s p : Int) (k : Nat) : (splitL s p k).length = k := by simp [splitL]
theorem splitL_succ (s p : Int) (k : Nat) : splitL s p (k + 1) = splitL s p k ++ [shareOf s p k] := by simp [splitL, List.range_succ]
def splitB (s p : Int) : Bool := inR s 0 1000000000 && inR p 1 20
def SplitTotal_r (s p : Int) : List Int × Int := if splitB s p then (splitL s p p.toNat, 0) else ([], 2)
theorem SplitTotal_len (s p : Int) : (SplitTotal_r s p).1.length ≤ 1048576 := by
  unfold SplitTotal_r
  split
  · rename_i h
    unfold splitB at h
    rw [Bool.and_eq_true, inR_iff, inR_iff] at h
    simp only [splitL_len]
    omega
  · simp
set_option maxHeartbeats 1000000 in
set_option maxRecDepth 10000 in
theorem iSplitTotal_law (s p : Int) (w : World) (_ : (Lit.int .i64 s).wf = true) (_ : (Lit.int .i64 p).wf = true) :
    Calls Try.prog 55 #[.int .i64 s, .int .i64 p] w fun e w' => ∃ v, e = .returned (.tuple #[v, .int .i64 (SplitTotal_r s p).2]) ∧ Own eI w' w.heap.size 2 v (SplitTotal_r s p).1 ∧ Below w.heap.size w w' := by
  rcases hA : inR s 0 1000000000 <;> rcases hP : inR p 1 20
  rotate_right
  · obtain ⟨s1, s2⟩ := inR_iff.1 hA
    obtain ⟨p1, p2⟩ := inR_iff.1 hP
    have hr : SplitTotal_r s p = (splitL s p p.toNat, 0) := by unfold SplitTotal_r splitB; rw [hA, hP]; rfl
    rw [hr]
    obtain ⟨n, rfl⟩ := Int.eq_ofNat_of_zero_le (show 0 ≤ p by omega)
    have HA := Lib.hid hA
    have HP := Lib.hid hP
    have tz : ((n : Int) == 0) = false := by simp; omega
    have q1 : 0 ≤ s / n := Int.ediv_nonneg s1 (by omega)
    have q2 : s / n ≤ s := Int.ediv_le_self _ s1
    have q3 := Int.emod_nonneg s (show (n : Int) ≠ 0 by omega)
    have q4 := Int.emod_lt_of_pos s (show (0 : Int) < n by omega)
    clear hA hP hr
    go_enter Try.func55, Try.ntmps55
    go_wp2_with (first
      | (go_at_call_of 63 s; refine (within_eq HA.out _).mono ?_; rintro e w' ⟨rfl, rfl⟩)
      | (go_at_call 63; refine (within_eq HP.out _).mono ?_; rintro e w' ⟨rfl, rfl⟩))
    go_loopg [7, 6] n (fun gi i v wr => ∃ k : Nat, k ≤ n ∧ gi = n - k ∧ i = .int .i64 k ∧ Own eI wr w.heap.size 2 v (splitL s n k) ∧ Below w.heap.size w wr ∧ w.heap.size ≤ wr.heap.size)
    case atStart => exact ⟨0, Nat.zero_le _, rfl, rfl, Own.nil_ _ _ _ _, Below.refl _ _, Nat.le_refl _⟩
    case round =>
      obtain ⟨k, hk, rfl, rfl, hown, hb, hs⟩ := hrel
      by_cases hlt : k < n
      · have hsh : shareOf s n k = s / n + (if (k : Int) < s % n then 1 else 0) := rfl
        by_cases hm : (k : Int) < s % n
        · rw [if_pos hm] at hsh
          have HSH := Lib.hid hsh
          clear hsh
          go_wp2_with (at_builtin; refine wpList_app eI rfl _ _ 56 rfl 2 (.int .i64 0) 8 Try.underlying56 info_i64 rfl (by decide) (by decide) w.heap.size _ _ rfl hown (by rw [splitL_len]; omega) hs (s / n + 1) _ rfl _ rfl rfl ?_)
          intro v' w' hown' hb' _ _ hs'
          have HO := Lib.hid hown'
          have HB := Lib.hid (hb.trans hb')
          clear hown' hb' hown hb
          go_wp2
          go_roundg (n - (k + 1))
          case measure => omega
          case rel => exact ⟨k + 1, by omega, rfl, by go_num, by rw [splitL_succ, HSH.out]; exact HO.out, HB.out, by omega⟩
        · rw [if_neg hm] at hsh
          have HSH := Lib.hid hsh
          clear hsh
          go_wp2_with (at_builtin; refine wpList_app eI rfl _ _ 56 rfl 2 (.int .i64 0) 8 Try.underlying56 info_i64 rfl (by decide) (by decide) w.heap.size _ _ rfl hown (by rw [splitL_len]; omega) hs (s / n) _ rfl _ rfl rfl ?_)
          intro v' w' hown' hb' _ _ hs'
          have HO := Lib.hid hown'
          have HB := Lib.hid (hb.trans hb')
          clear hown' hb' hown hb
          go_wp2
          go_roundg (n - (k + 1))
          case measure => omega
          case rel => exact ⟨k + 1, by omega, rfl, by go_num, by rw [splitL_succ, HSH.out, Int.add_zero]; exact HO.out, HB.out, by omega⟩
      · obtain rfl : k = n := by omega
        go_wp2
        go_ret2
        exact ⟨_, rfl, hown, hb⟩
  all_goals
    have hr : SplitTotal_r s p = ([], 2) := by unfold SplitTotal_r splitB; rw [hA, hP]; rfl
    rw [hr]
    have HA := Lib.hid hA
    have HP := Lib.hid hP
    clear hA hP hr
    go_enter Try.func55, Try.ntmps55
    go_wp2_with (first
      | (go_at_call_of 63 s; refine (within_eq HA.out _).mono ?_; rintro e w' ⟨rfl, rfl⟩)
      | (go_at_call_of 63 p; refine (within_eq HP.out _).mono ?_; rintro e w' ⟨rfl, rfl⟩))
    go_ret2
    exact ⟨_, rfl, Own.nil_ _ _ _ _, Below.refl _ _⟩

set_option maxHeartbeats 1000000 in
set_option maxRecDepth 10000 in
theorem sSplitTotal_law (s p : Int) (w : World) (_ : (Lit.int .i64 s).wf = true) (_ : (Lit.int .i64 p).wf = true) :
    Calls Try.prog 56 #[.int .i64 s, .int .i64 p] w fun e w' => ∃ v, e = .returned (.tuple #[v, .int .i64 (SplitTotal_r s p).2]) ∧ Own eI w' w.heap.size 2 v (SplitTotal_r s p).1 ∧ Below w.heap.size w w' := by
  rcases hA : inR s 0 1000000000 <;> rcases hP : inR p 1 20
  rotate_right
  · obtain ⟨s1, s2⟩ := inR_iff.1 hA
    obtain ⟨p1, p2⟩ := inR_iff.1 hP
    have hr : SplitTotal_r s p = (splitL s p p.toNat, 0) := by unfold SplitTotal_r splitB; rw [hA, hP]; rfl
    rw [hr]
    obtain ⟨n, rfl⟩ := Int.eq_ofNat_of_zero_le (show 0 ≤ p by omega)
    have HA := Lib.hid hA
    have HP := Lib.hid hP
    have tz : ((n : Int) == 0) = false := by simp; omega
    have q1 : 0 ≤ s / n := Int.ediv_nonneg s1 (by omega)
    have q2 : s / n ≤ s := Int.ediv_le_self _ s1
    have q3 := Int.emod_nonneg s (show (n : Int) ≠ 0 by omega)
    have q4 := Int.emod_lt_of_pos s (show (0 : Int) < n by omega)
    clear hA hP hr
    go_enter Try.func56, Try.ntmps56
    go_wp2_with (first
      | (go_at_call_of 58 s; refine (l01In_eq HA.out _).mono ?_; rintro e w' ⟨rfl, rfl⟩)
      | (go_at_call 58; refine (l01In_eq HP.out _).mono ?_; rintro e w' ⟨rfl, rfl⟩))
    go_loopg [7, 6] n (fun gi i v wr => ∃ k : Nat, k ≤ n ∧ gi = n - k ∧ i = .int .i64 k ∧ Own eI wr w.heap.size 2 v (splitL s n k) ∧ Below w.heap.size w wr ∧ w.heap.size ≤ wr.heap.size)
    case atStart => exact ⟨0, Nat.zero_le _, rfl, rfl, Own.empty _ _ _ _ (Nat.le_refl _), (Below.refl _ _).alloc (Nat.le_refl _) _, by simp⟩
    case round =>
      obtain ⟨k, hk, rfl, rfl, hown, hb, hs⟩ := hrel
      by_cases hlt : k < n
      · have hsh : shareOf s n k = s / n + (if (k : Int) < s % n then 1 else 0) := rfl
        by_cases hm : (k : Int) < s % n
        · rw [if_pos hm] at hsh
          have HSH := Lib.hid hsh
          clear hsh
          go_wp2_with (at_builtin; refine wpList_app eI rfl _ _ 56 rfl 2 (.int .i64 0) 8 Try.underlying56 info_i64 rfl (by decide) (by decide) w.heap.size _ _ rfl hown (by rw [splitL_len]; omega) hs (s / n + 1) _ rfl _ rfl rfl ?_)
          intro v' w' hown' hb' _ _ hs'
          have HO := Lib.hid hown'
          have HB := Lib.hid (hb.trans hb')
          clear hown' hb' hown hb
          go_wp2
          go_roundg (n - (k + 1))
          case measure => omega
          case rel => exact ⟨k + 1, by omega, rfl, by go_num, by rw [splitL_succ, HSH.out]; exact HO.out, HB.out, by omega⟩
        · rw [if_neg hm] at hsh
          have HSH := Lib.hid hsh
          clear hsh
          go_wp2_with (at_builtin; refine wpList_app eI rfl _ _ 56 rfl 2 (.int .i64 0) 8 Try.underlying56 info_i64 rfl (by decide) (by decide) w.heap.size _ _ rfl hown (by rw [splitL_len]; omega) hs (s / n) _ rfl _ rfl rfl ?_)
          intro v' w' hown' hb' _ _ hs'
          have HO := Lib.hid hown'
          have HB := Lib.hid (hb.trans hb')
          clear hown' hb' hown hb
          go_wp2
          go_roundg (n - (k + 1))
          case measure => omega
          case rel => exact ⟨k + 1, by omega, rfl, by go_num, by rw [splitL_succ, HSH.out, Int.add_zero]; exact HO.out, HB.out, by omega⟩
      · obtain rfl : k = n := by omega
        go_wp2
        go_ret2
        exact ⟨_, rfl, hown, hb⟩
  all_goals
    have hr : SplitTotal_r s p = ([], 2) := by unfold SplitTotal_r splitB; rw [hA, hP]; rfl
    rw [hr]
    have HA := Lib.hid hA
    have HP := Lib.hid hP
    clear hA hP hr
    go_enter Try.func56, Try.ntmps56
    go_wp2_with (first
      | (go_at_call_of 58 s; refine (l01In_eq HA.out _).mono ?_; rintro e w' ⟨rfl, rfl⟩)
      | (go_at_call_of 58 p; refine (l01In_eq HP.out _).mono ?_; rintro e w' ⟨rfl, rfl⟩))
    go_ret2
    exact ⟨_, rfl, Own.nil_ _ _ _ _, Below.refl _ _⟩
end Go.Proofs.Ytnpfgngfolgdfaa
