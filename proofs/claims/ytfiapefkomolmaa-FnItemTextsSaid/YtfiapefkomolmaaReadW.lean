/- Weak contracts of the functions that read a decimal. No statement of the seat is proved here. -/
import Derived.Test.YtfiapefkomolmaaReadC
namespace Go.Proofs.Ytfiapefkomolmaa
open Go.RowKit

abbrev RdE (e : Ending) : Prop := ∃ (n : Int) (b : Bool), e = .returned (.tuple #[.int .i64 n, .bool b])
set_option maxHeartbeats 2000000 in
theorem readDec_any (s : ByteArray) (w : World) (hs : s.size ≤ 9223372036854775807) :
    Calls Try.prog 66 #[.string s] w fun e w' => RdE e ∧ w = w' := by
  by_cases h0 : s.size = 0
  · obtain rfl : s = ByteArray.empty := ByteArray.size_eq_zero_iff.1 h0
    clear h0 hs
    go_enter Try.func66, Try.ntmps66
    go_wp2
    go_ret2
    exact ⟨⟨_, _, rfl⟩, rfl⟩
  have hz : 0 < s.size := by omega
  have hne : ¬ s = ByteArray.empty := fun e => by rw [e] at hz; simp at hz
  have q0 : ((s.size : Int) == 0) = false := beq_eq_false_iff_ne.2 (by omega)
  rcases q45 : ((s[0].toNat : Int) == 45)
  · go_enter Try.func66, Try.ntmps66
    go_wp2
    all_goals first
      | (go_ret2; exact ⟨⟨_, _, rfl⟩, rfl⟩)
      | (go_loop [6, 5] (fun i q => ∃ (k : Nat) (n : Int), k ≤ s.size ∧ i = .int .i64 k ∧ q = .int .i64 n) (fun i _ => s.size - (intOf i).toNat)
         case atStart => exact ⟨0, 0, Nat.zero_le _, rfl, rfl⟩
         case round =>
           obtain ⟨k, n, hk, rfl, rfl⟩ := hrel
           by_cases hlt : k < s.size
           · go_wp2
             all_goals first
               | (go_ret2; exact ⟨⟨_, _, rfl⟩, rfl⟩)
               | (go_round
                  case rel => exact ⟨k + 1, _, by omega, by go_num, rfl⟩
                  case measure => simp [intOf]; omega)
           · go_wp2
             all_goals (go_ret2; exact ⟨⟨_, _, rfl⟩, rfl⟩))
  · go_enter Try.func66, Try.ntmps66
    go_wp2
    all_goals first
      | (go_ret2; exact ⟨⟨_, _, rfl⟩, rfl⟩)
      | (go_loop [6, 5] (fun i q => ∃ (k : Nat) (n : Int), k ≤ (s.size - 1) ∧ i = .int .i64 k ∧ q = .int .i64 n) (fun i _ => (s.size - 1) - (intOf i).toNat)
         case atStart => exact ⟨0, 0, Nat.zero_le _, rfl, rfl⟩
         case round =>
           obtain ⟨k, n, hk, rfl, rfl⟩ := hrel
           by_cases hlt : k < (s.size - 1)
           · go_wp2
             all_goals first
               | (go_ret2; exact ⟨⟨_, _, rfl⟩, rfl⟩)
               | (go_round
                  case rel =>
                    refine ⟨_, _, _, _, ⟨k + 1, by omega, ?_, _, rfl⟩, rfl, rfl, rfl, rfl⟩
                    go_num
                  case measure => simp [intOf]; omega)
           · go_wp2
             all_goals (go_ret2; exact ⟨⟨_, _, rfl⟩, rfl⟩))
set_option maxHeartbeats 2000000 in
theorem l01Value_any (s : ByteArray) (w : World) (hs : s.size ≤ 9223372036854775807) :
    Calls Try.prog 65 #[.string s] w fun e w' => RdE e ∧ Below w.heap.size w w' := by
  by_cases h0 : s.size < 1
  · have h0' : ((s.size : Int) < 1) := by omega
    go_enter Try.func65, Try.ntmps65
    go_wp2
    go_ret2
    exact ⟨⟨_, _, rfl⟩, Below.refl _ _⟩
  by_cases h13 : 13 < s.size
  · have h0' : ¬ ((s.size : Int) < 1) := by omega
    have h13' : (13 : Int) < (s.size : Int) := by omega
    go_enter Try.func65, Try.ntmps65
    go_wp2
    go_ret2
    exact ⟨⟨_, _, rfl⟩, Below.refl _ _⟩
  have h0' : ¬ ((s.size : Int) < 1) := by omega
  have h13' : ¬ ((13 : Int) < (s.size : Int)) := by omega
  have h14 : (s.size : Int) ≤ 13 := by omega
  have h15 : 1 ≤ (s.size : Int) := by omega
  go_enter Try.func65, Try.ntmps65
  go_wp2
  go_loop [5, 4] (fun i q => ∃ k n : Nat, k ≤ s.size ∧ i = .int .i64 k ∧ q = .int .i64 n ∧ n < 10 ^ k) (fun i _ => s.size - (intOf i).toNat)
  case atStart => exact ⟨0, 0, Nat.zero_le _, rfl, rfl, by simp⟩
  case round =>
    obtain ⟨k, n, hk, rfl, rfl, hn⟩ := hrel
    have hnb : n < 10000000000000 := Nat.lt_of_lt_of_le hn (pow_13 (by omega))
    by_cases hlt : k < s.size
    · have HN := Lib.hid hn
      clear hn
      by_cases d1 : (s[k].toNat : Int) < 48
      · go_wp2
        go_ret2
        exact ⟨⟨_, _, rfl⟩, Below.refl _ _⟩
      by_cases d2 : 57 < (s[k].toNat : Int)
      · go_wp2
        go_ret2
        exact ⟨⟨_, _, rfl⟩, Below.refl _ _⟩
      have w1 : IntKind.u8.wrap ((s[k].toNat : Int) - 48) = (s[k].toNat : Int) - 48 := IntWalk.u8_in _ (by omega)
      have w2 : IntKind.i64.wrap ((s[k].toNat : Int) - 48) = (s[k].toNat : Int) - 48 := IntWalk.i64_in _ (by omega)
      have w3 : IntKind.i64.wrap (10 * (n : Int)) = 10 * (n : Int) := IntWalk.i64_in _ (by omega)
      have w4 : IntKind.i64.wrap (10 * (n : Int) + ((s[k].toNat : Int) - 48)) = 10 * (n : Int) + ((s[k].toNat : Int) - 48) := IntWalk.i64_in _ (by omega)
      have HN2 : Hid (10 * n + (s[k].toNat - 48) < 10 ^ (k + 1)) := Lib.hid (by have := HN.out; rw [Nat.pow_succ]; omega)
      go_wp2
      go_round
      case rel => exact ⟨k + 1, _, by omega, by go_num, by congr 1; omega, HN2.out⟩
      case measure => simp [intOf]; omega
    · obtain rfl : k = s.size := by omega
      clear hn
      go_wp2_with fail
      refine (l01Dec_any n w (by omega)).mono ?_
      rintro e w2 ⟨rfl, hb2⟩
      go_wp2
      go_ret2
      exact ⟨⟨_, _, rfl⟩, hb2⟩
end Go.Proofs.Ytfiapefkomolmaa
