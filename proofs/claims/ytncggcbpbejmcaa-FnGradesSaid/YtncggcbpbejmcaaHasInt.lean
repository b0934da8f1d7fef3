/- The contract of hasInt. No statement of the seat is proved here. -/
import Derived.Test.YtncggcbpbejmcaaLaws
namespace Go.Proofs.Ytncggcbpbejmcaa
open Go.RowKit

set_option maxHeartbeats 400000 in
theorem hasInt_any (v : Value) (xs : List Int) (x : Int) (w : World) (hv : Ints w v xs) :
    Calls Try.prog 57 #[v, .int .i64 x] w fun e w' => e = .returned (.bool (xs.any (· == x))) ∧ w = w' := by
  obtain ⟨A, cap, rfl, _, hm, hc⟩ := Ints.shape hv
  go_enter Try.func57, Try.ntmps57
  go_wp2
  go_loop [5] (fun i => ∃ k : Nat, k ≤ xs.length ∧ i = .int .i64 k ∧ (xs.take k).all (fun y => !(y == x)) = true) (fun i => xs.length - (intOf i).toNat)
  case atStart => exact ⟨0, Nat.zero_le _, rfl, rfl⟩
  case round =>
    obtain ⟨k, hk, rfl, hall⟩ := hrel
    have HA := Lib.hid hall
    clear hall
    by_cases hlt : k < xs.length
    · obtain ⟨b, off, rfl, _, hcell⟩ := hc (by omega)
      have hck := hcell k hlt
      clear hcell
      rcases hx : (xs[k] == x)
      · go_wp2
        go_round
        case rel => exact ⟨k + 1, by omega, by go_num, all_take_succ xs k hlt _ HA.out (by simp [hx])⟩
        case measure => simp [intOf]; omega
      · go_wp2
        go_ret
        exact ⟨ret_bool (List.any_eq_true.2 ⟨xs[k], List.getElem_mem hlt, hx⟩).symm, rfl⟩
    · obtain rfl : k = xs.length := by omega
      go_wp2
      go_ret
      have h := all_of_take xs _ (Nat.le_refl _) _ HA.out
      exact ⟨ret_bool (by rw [eq_comm, List.any_eq_false]; intro y hy; have := List.all_eq_true.1 h y hy; simpa using this), rfl⟩
end Go.Proofs.Ytncggcbpbejmcaa
