/- Contracts of the small functions on integers and on lists of integers. No statement of the seat is proved here. -/
import Derived.Test.YtijmafppdbllfaaLib
namespace Go.Proofs.Ytijmafppdbllfaa
open Go.RowKit

theorem info_i64 : (Try.prog.info? 2).map (fun i => (i.zero, i.size, i.bytes)) = some (some (.int .i64 0), 1, 8) := by kernel_rfl

theorem l01In_any (n lo hi : Int) (w : World) :
    Calls Try.prog 53 #[.int .i64 n, .int .i64 lo, .int .i64 hi] w fun e w' => e = .returned (.bool (inR n lo hi)) ∧ w = w' := by
  by_cases h1 : lo ≤ n <;> by_cases h2 : n ≤ hi
  all_goals
    go_enter Try.func53, Try.ntmps53
    go_wp2
    go_ret
    simp [h1, h2, inR]
theorem within_any (n lo hi : Int) (w : World) :
    Calls Try.prog 60 #[.int .i64 n, .int .i64 lo, .int .i64 hi] w fun e w' => e = .returned (.bool (inR n lo hi)) ∧ w = w' := by
  by_cases h1 : lo ≤ n <;> by_cases h2 : n ≤ hi
  all_goals
    go_enter Try.func60, Try.ntmps60
    go_wp2
    go_ret
    simp [h1, h2, inR]
theorem isRing_any (n : Int) (w : World) :
    Calls Try.prog 54 #[.int .i64 n] w fun e w' => e = .returned (.bool (inR n 3 12)) ∧ w = w' := by
  go_enter Try.func54, Try.ntmps54
  go_wp2_with (go_at_call 60; refine (within_any _ _ _ _).mono ?_; rintro e w' ⟨rfl, rfl⟩)
  go_ret
  exact ⟨rfl, rfl⟩
theorem isTorque_any (n : Int) (w : World) :
    Calls Try.prog 59 #[.int .i64 n] w fun e w' => e = .returned (.bool (inR n 1 2000)) ∧ w = w' := by
  go_enter Try.func59, Try.ntmps59
  go_wp2_with (go_at_call 60; refine (within_any _ _ _ _).mono ?_; rintro e w' ⟨rfl, rfl⟩)
  go_ret
  exact ⟨rfl, rfl⟩
theorem l26Torque_any (n : Int) (w : World) :
    Calls Try.prog 76 #[.int .i64 n] w fun e w' => e = .returned (.bool (inR n 1 2000)) ∧ w = w' := by
  go_enter Try.func76, Try.ntmps76
  go_wp2_with (go_at_call 53; refine (l01In_any _ _ _ _).mono ?_; rintro e w' ⟨rfl, rfl⟩)
  go_ret
  exact ⟨rfl, rfl⟩
/-- |n| -/
def iabs (n : Int) : Int := if n < 0 then -n else n
theorem l01Abs_any (n : Int) (w : World) (h1 : -1000000000000000000 ≤ n) (h2 : n ≤ 1000000000000000000) :
    Calls Try.prog 57 #[.int .i64 n] w fun e w' => e = .returned (.int .i64 (iabs n)) ∧ w = w' := by
  by_cases h : n < 0
  all_goals
    go_enter Try.func57, Try.ntmps57
    go_wp2
    go_ret
    exact ⟨ret_int (by unfold iabs; split <;> omega), rfl⟩
theorem abs_any (n : Int) (w : World) (h1 : -1000000000000000000 ≤ n) (h2 : n ≤ 1000000000000000000) :
    Calls Try.prog 58 #[.int .i64 n] w fun e w' => e = .returned (.int .i64 (iabs n)) ∧ w = w' := by
  by_cases h : n < 0
  all_goals
    go_enter Try.func58, Try.ntmps58
    go_wp2
    go_ret
    exact ⟨ret_int (by unfold iabs; split <;> omega), rfl⟩
theorem l01Mod_any (a m : Int) (w : World) (h1 : -1000000000000000000 ≤ a) (h2 : a ≤ 1000000000000000000) (m1 : 1 ≤ m) (m2 : m ≤ 1000000000000000000) :
    Calls Try.prog 77 #[.int .i64 a, .int .i64 m] w fun e w' => e = .returned (.int .i64 (a % m)) ∧ w = w' := by
  have t1 := Int.tmod_lt_of_pos a (show 0 < m by omega)
  have t2 : -m < a.tmod m := by
    have h := Int.tmod_lt_of_pos (-a) (show 0 < m by omega)
    rw [Int.neg_tmod] at h
    omega
  have tz : (m == 0) = false := by simp; omega
  go_enter Try.func77, Try.ntmps77
  go_wp2
  go_ret
  refine ⟨ret_int ?_, rfl⟩
  have : a.tmod m = a - m * (a.tdiv m) := by have := Int.mul_tdiv_add_tmod a m; omega
  rw [this]
  have e : a - m * a.tdiv m + m = a + m * (1 - a.tdiv m) := by rw [Int.mul_sub]; omega
  rw [e, Int.add_mul_emod_self_left]

theorem div_bounds (a b M : Int) (h1 : -M ≤ a) (h2 : a ≤ M) (hb : 1 ≤ b) : -M ≤ a / b ∧ a / b ≤ M := by
  rcases Int.lt_or_le a 0 with h | h
  rotate_left
  · have := Int.ediv_le_self b h
    have := Int.ediv_nonneg h (show 0 ≤ b by omega)
    omega
  · have e := Int.mul_ediv_add_emod a b
    have e1 := Int.emod_nonneg a (show b ≠ 0 by omega)
    have e2 : a / b < 0 := Int.ediv_neg_of_neg_of_pos h (by omega)
    have e3 : b * (a / b) ≤ 1 * (a / b) := Int.mul_le_mul_of_nonpos_right hb (by omega)
    have e4 := Int.emod_lt_of_pos a (show 0 < b by omega)
    refine ⟨?_, by omega⟩
    have : a ≤ a / b := by
      rcases Int.lt_or_le (a / b) a with h' | h'
      rotate_left
      · exact h'
      · exfalso
        have e5 : a / b + 1 ≤ a := by omega
        have e6 : b * (a / b + 1) ≤ b * a := Int.mul_le_mul_of_nonneg_left e5 (by omega)
        have e7 : b * a ≤ 1 * a := Int.mul_le_mul_of_nonpos_right hb (by omega)
        rw [Int.mul_add] at e6
        omega
    omega

theorem l01Floor_any (a b : Int) (w : World) (h1 : -1000000000000000000 ≤ a) (h2 : a ≤ 1000000000000000000) (m1 : 1 ≤ b) (m2 : b ≤ 1000000000000000000) :
    Calls Try.prog 79 #[.int .i64 a, .int .i64 b] w fun e w' => e = .returned (.int .i64 (a / b)) ∧ w = w' := by
  have tz : (b == 0) = false := by simp; omega
  have e1 := Int.mul_tdiv_add_tmod a b
  have t1 := Int.tmod_lt_of_pos a (show 0 < b by omega)
  have t2 : -b < a.tmod b := by
    have h := Int.tmod_lt_of_pos (-a) (show 0 < b by omega)
    rw [Int.neg_tmod] at h
    omega
  have q1 : -1000000000000000000 ≤ a.tdiv b ∧ a.tdiv b ≤ 1000000000000000000 := by
    have := Int.natAbs_tdiv_le_natAbs a b
    omega
  obtain ⟨q1, q2⟩ := q1
  have H := Lib.hid e1
  clear e1
  by_cases hneg : a.tmod b < 0
  · have hf : a / b = a.tdiv b - 1 := by
      have e1 := H.out
      have e2 : a = (a.tmod b + b) + b * (a.tdiv b - 1) := by rw [Int.mul_sub]; omega
      rw [e2, Int.add_mul_ediv_left _ _ (by omega), Int.ediv_eq_zero_of_lt (by omega) (by omega)]
      rw [← e2]; omega
    have HF := Lib.hid hf
    clear hf
    go_enter Try.func79, Try.ntmps79
    go_wp2
    go_ret
    exact ⟨ret_int HF.out.symm, rfl⟩
  · have hf : a / b = a.tdiv b := by
      have e1 := H.out
      have e2 : a = a.tmod b + b * (a.tdiv b) := by omega
      rw [e2, Int.add_mul_ediv_left _ _ (by omega), Int.ediv_eq_zero_of_lt (by omega) (by omega)]
      rw [← e2]; omega
    have HF := Lib.hid hf
    clear hf
    go_enter Try.func79, Try.ntmps79
    go_wp2
    go_ret
    exact ⟨ret_int HF.out.symm, rfl⟩
theorem l01Ceil_any (a b : Int) (w : World) (h1 : -1000000000000000000 ≤ a) (h2 : a ≤ 1000000000000000000) (m1 : 1 ≤ b) (m2 : b ≤ 1000000000000000000) :
    Calls Try.prog 68 #[.int .i64 a, .int .i64 b] w fun e w' => e = .returned (.int .i64 (-(-a / b))) ∧ w = w' := by
  have q := div_bounds (-a) b 1000000000000000000 (by omega) (by omega) m1
  obtain ⟨q1, q2⟩ := q
  go_enter Try.func68, Try.ntmps68
  go_wp2_with (go_at_call 79; refine (l01Floor_any _ _ _ ?_ ?_ m1 m2).mono ?_; omega; omega; rintro e w' ⟨rfl, rfl⟩)
  go_ret
  exact ⟨rfl, rfl⟩
theorem ceilDiv_any (a b : Int) (w : World) (h1 : 0 ≤ a) (h2 : a ≤ 1000000000000000000) (m1 : 1 ≤ b) (m2 : b ≤ 1000000000000000000) :
    Calls Try.prog 70 #[.int .i64 a, .int .i64 b] w fun e w' => e = .returned (.int .i64 ((a + b - 1) / b)) ∧ w = w' := by
  have tz : (b == 0) = false := by simp; omega
  have q1 : 0 ≤ (a + b - 1) / b := Int.ediv_nonneg (by omega) (by omega)
  have q2 : (a + b - 1) / b ≤ a + b - 1 := Int.ediv_le_self _ (by omega)
  go_enter Try.func70, Try.ntmps70
  go_wp2
  go_ret
  exact ⟨rfl, rfl⟩
theorem ceil_eq (a b : Int) (hb : 1 ≤ b) : -(-a / b) = (a + b - 1) / b := by
  have h1 := Int.mul_ediv_add_emod (-a) b
  have h2 := Int.emod_nonneg (-a) (show b ≠ 0 by omega)
  have h3 := Int.emod_lt_of_pos (-a) (show 0 < b by omega)
  generalize -a / b = q at *
  generalize -a % b = r at *
  have e : a + b - 1 = (b - 1 - r) + b * (-q) := by rw [Int.mul_neg]; omega
  rw [e, Int.add_mul_ediv_left _ _ (by omega), Int.ediv_eq_zero_of_lt (by omega) (by omega)]
  omega
def tightenB (n t s : Int) : Bool := inR n 3 12 && inR t 1 2000 && inR s 1 6
theorem isTighten_any (n t s : Int) (w : World) :
    Calls Try.prog 69 #[.int .i64 n, .int .i64 t, .int .i64 s] w fun e w' => e = .returned (.bool (tightenB n t s)) ∧ w = w' := by
  unfold tightenB
  rcases hA : inR n 3 12 <;> rcases hB : inR t 1 2000 <;> rcases hC : inR s 1 6
  all_goals
    have HA := Lib.hid hA
    have HB := Lib.hid hB
    have HC := Lib.hid hC
    clear hA hB hC
    go_enter Try.func69, Try.ntmps69
    go_wp2_with (first
      | (go_at_call 54; refine (isRing_any _ _).mono ?_; rintro e w' ⟨rfl, rfl⟩; rw [HA.out])
      | (go_at_call 59; refine (isTorque_any _ _).mono ?_; rintro e w' ⟨rfl, rfl⟩; rw [HB.out])
      | (go_at_call 60; refine (within_any _ _ _ _).mono ?_; rintro e w' ⟨rfl, rfl⟩; rw [HC.out]))
    go_ret
    exact ⟨rfl, rfl⟩
theorem l26Code_any (n t s : Int) (w : World) :
    Calls Try.prog 67 #[.int .i64 n, .int .i64 t, .int .i64 s] w fun e w' => e = .returned (.int .i64 (if tightenB n t s then 0 else 2)) ∧ w = w' := by
  unfold tightenB
  rcases hA : inR n 3 12 <;> rcases hB : inR t 1 2000 <;> rcases hC : inR s 1 6
  all_goals
    have HA := Lib.hid hA
    have HB := Lib.hid hB
    have HC := Lib.hid hC
    clear hA hB hC
    go_enter Try.func67, Try.ntmps67
    go_wp2_with (first
      | (go_at_call_of 53 n; refine (l01In_any _ _ _ _).mono ?_; rintro e w' ⟨rfl, rfl⟩; rw [HA.out])
      | (go_at_call 76; refine (l26Torque_any _ _).mono ?_; rintro e w' ⟨rfl, rfl⟩; rw [HB.out])
      | (go_at_call_of 53 s; refine (l01In_any _ _ _ _).mono ?_; rintro e w' ⟨rfl, rfl⟩; rw [HC.out]))
    go_ret
    exact ⟨rfl, rfl⟩
end Go.Proofs.Ytijmafppdbllfaa
