/- Contracts of the small functions on integers and on lists of integers. No statement of the seat is proved here. -/
import Derived.Test.YtnpfgngfolgdfaaLib
namespace Go.Proofs.Ytnpfgngfolgdfaa
open Go.RowKit

theorem info_i64 : (Try.prog.info? 2).map (fun i => (i.zero, i.size, i.bytes)) = some (some (.int .i64 0), 1, 8) := by kernel_rfl

theorem l01In_any (n lo hi : Int) (w : World) :
    Calls Try.prog 58 #[.int .i64 n, .int .i64 lo, .int .i64 hi] w fun e w' => e = .returned (.bool (inR n lo hi)) ∧ w = w' := by
  by_cases h1 : lo ≤ n <;> by_cases h2 : n ≤ hi
  all_goals
    go_enter Try.func58, Try.ntmps58
    go_wp2
    go_ret
    simp [h1, h2, inR]
theorem within_any (n lo hi : Int) (w : World) :
    Calls Try.prog 63 #[.int .i64 n, .int .i64 lo, .int .i64 hi] w fun e w' => e = .returned (.bool (inR n lo hi)) ∧ w = w' := by
  by_cases h1 : lo ≤ n <;> by_cases h2 : n ≤ hi
  all_goals
    go_enter Try.func63, Try.ntmps63
    go_wp2
    go_ret
    simp [h1, h2, inR]
/-- |n| -/
def iabs (n : Int) : Int := if n < 0 then -n else n

theorem div_bounds (a b M : Int) (h1 : -M ≤ a) (h2 : a ≤ M) (hb : 1 ≤ b) : -M ≤ a / b ∧ a / b ≤ M := by
  rcases Int.lt_or_le a 0 with h | h
  rotate_left
  · have := Int.ediv_le_self b h
    have := Int.ediv_nonneg h (show 0 ≤ b by omega)
    omega
  · have e := Int.mul_ediv_add_emod a b
    have e1 := Int.emod_nonneg a (show b ≠ 0 by omega)
    have e2 : a / b < 0 := Int.ediv_neg_of_neg_of_pos h (by omega)
    have e3 : b * (a / b) ≤ 1 * (a / b) := Int.mul_le_mul_of_nonpos_right hb (by omega)
    have e4 := Int.emod_lt_of_pos a (show 0 < b by omega)
    refine ⟨?_, by omega⟩
    have : a ≤ a / b := by
      rcases Int.lt_or_le (a / b) a with h' | h'
      rotate_left
      · exact h'
      · exfalso
        have e5 : a / b + 1 ≤ a := by omega
        have e6 : b * (a / b + 1) ≤ b * a := Int.mul_le_mul_of_nonneg_left e5 (by omega)
        have e7 : b * a ≤ 1 * a := Int.mul_le_mul_of_nonpos_right hb (by omega)
        rw [Int.mul_add] at e6
        omega
    omega

theorem ceil_eq (a b : Int) (hb : 1 ≤ b) : -(-a / b) = (a + b - 1) / b := by
  have h1 := Int.mul_ediv_add_emod (-a) b
  have h2 := Int.emod_nonneg (-a) (show b ≠ 0 by omega)
  have h3 := Int.emod_lt_of_pos (-a) (show 0 < b by omega)
  generalize -a / b = q at *
  generalize -a % b = r at *
  have e : a + b - 1 = (b - 1 - r) + b * (-q) := by rw [Int.mul_neg]; omega
  rw [e, Int.add_mul_ediv_left _ _ (by omega), Int.ediv_eq_zero_of_lt (by omega) (by omega)]
  omega
end Go.Proofs.Ytnpfgngfolgdfaa
