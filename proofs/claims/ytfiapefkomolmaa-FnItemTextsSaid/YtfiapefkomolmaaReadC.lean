/- Contracts of the functions that read a decimal. No statement of the seat is proved here. -/
import Derived.Test.YtfiapefkomolmaaReadP
import Derived.Test.YtfiapefkomolmaaDec
namespace Go.Proofs.Ytfiapefkomolmaa
open Go.RowKit

theorem pow_7 {k : Nat} (h : k ≤ 7) : 10 ^ k ≤ 10000000 := Nat.le_trans (Nat.pow_le_pow_right (by omega) h) (by decide)
theorem pow_13 {k : Nat} (h : k ≤ 13) : 10 ^ k ≤ 10000000000000 := Nat.le_trans (Nat.pow_le_pow_right (by omega) h) (by decide)
set_option maxHeartbeats 1000000 in
theorem readDec_ok (s : ByteArray) (m : Nat) (w : World) (h1 : 1 ≤ s.size) (h7 : s.size ≤ 7) (hd : ∀ i, i < s.size → 48 ≤ bt s i ∧ bt s i ≤ 57) (h0 : 1 < s.size → bt s 0 ≠ 48) (hm : dval s s.size = m) :
    Calls Try.prog 66 #[.string s] w fun e w' => e = .returned (.tuple #[.int .i64 m, .bool true]) ∧ w = w' := by
  have hz : 0 < s.size := by omega
  obtain ⟨z1, z2⟩ := hd 0 hz
  rw [bt_eq hz] at z1 z2 h0
  have HD := Lib.hid hd
  have HV := Lib.hid (dval_bd s (fun i hi => (hd i hi).2))
  have HM := Lib.hid hm
  have hne : ¬ s = ByteArray.empty := fun e => by rw [e] at hz; simp at hz
  have q0 : ((s.size : Int) == 0) = false := beq_eq_false_iff_ne.2 (by omega)
  have h18 : (s.size : Int) ≤ 18 := by omega
  have h18' : ¬ (18 < (s.size : Int)) := by omega
  have q45 : ((s[0].toNat : Int) == 45) = false := beq_eq_false_iff_ne.2 (by omega)
  have main : ∀ b, ((s[0].toNat : Int) == 48) = b → (b = false ∨ s.size = 1) → Calls Try.prog 66 #[.string s] w fun e w' => e = .returned (.tuple #[.int .i64 m, .bool true]) ∧ w = w' := by
    intro b q48 hb
    rcases b
    · clear hd hm z1 z2 h0 hb
      go_enter Try.func66, Try.ntmps66
      go_wp2
      go_loop [6, 5] (fun i q => ∃ k n : Nat, k ≤ s.size ∧ i = .int .i64 k ∧ q = .int .i64 n ∧ Hid (dval s k = n)) (fun i _ => s.size - (intOf i).toNat)
      case atStart => exact ⟨0, 0, Nat.zero_le _, rfl, rfl, Lib.hid rfl⟩
      case round =>
        obtain ⟨k, n, hk, rfl, rfl, HN⟩ := hrel
        by_cases hlt : k < s.size
        · obtain ⟨d1, d2⟩ := HD.out k hlt
          have HN2 : Hid (dval s (k + 1) = 10 * n + (s[k].toNat - 48)) := Lib.hid (by rw [dval, HN.out, bt_eq hlt])
          have hnb : n < 10000000 := Nat.lt_of_lt_of_le (HN.out ▸ HV.out k hk) (pow_7 (by omega))
          rw [bt_eq hlt] at d1 d2
          have d1' : ¬ ((s[k].toNat : Int) < 48) := by omega
          have d2' : ¬ (57 < (s[k].toNat : Int)) := by omega
          have w1 : IntKind.u8.wrap ((s[k].toNat : Int) - 48) = (s[k].toNat : Int) - 48 := IntWalk.u8_in _ (by omega)
          have w2 : IntKind.i64.wrap ((s[k].toNat : Int) - 48) = (s[k].toNat : Int) - 48 := IntWalk.i64_in _ (by omega)
          have w3 : IntKind.i64.wrap (10 * (n : Int)) = 10 * (n : Int) := IntWalk.i64_in _ (by omega)
          have w4 : IntKind.i64.wrap (10 * (n : Int) + ((s[k].toNat : Int) - 48)) = 10 * (n : Int) + ((s[k].toNat : Int) - 48) := IntWalk.i64_in _ (by omega)
          go_wp2
          go_round
          case rel => exact ⟨k + 1, _, by omega, by go_num, by congr 1; omega, HN2⟩
          case measure => simp [intOf]; omega
        · obtain rfl : k = s.size := by omega
          obtain rfl : n = m := by rw [← HN.out, HM.out]
          go_wp2
          go_ret2
          exact ⟨rfl, rfl⟩
    · obtain hone : s.size = 1 := by simpa using hb
      clear hd hm z1 z2 h0 hb
      have hone' : ¬ (1 < s.size) := by omega
      go_enter Try.func66, Try.ntmps66
      go_wp2
      go_loop [6, 5] (fun i q => ∃ k n : Nat, k ≤ s.size ∧ i = .int .i64 k ∧ q = .int .i64 n ∧ Hid (dval s k = n)) (fun i _ => s.size - (intOf i).toNat)
      case atStart => exact ⟨0, 0, Nat.zero_le _, rfl, rfl, Lib.hid rfl⟩
      case round =>
        obtain ⟨k, n, hk, rfl, rfl, HN⟩ := hrel
        by_cases hlt : k < s.size
        · obtain ⟨d1, d2⟩ := HD.out k hlt
          have HN2 : Hid (dval s (k + 1) = 10 * n + (s[k].toNat - 48)) := Lib.hid (by rw [dval, HN.out, bt_eq hlt])
          have hnb : n < 10000000 := Nat.lt_of_lt_of_le (HN.out ▸ HV.out k hk) (pow_7 (by omega))
          rw [bt_eq hlt] at d1 d2
          have d1' : ¬ ((s[k].toNat : Int) < 48) := by omega
          have d2' : ¬ (57 < (s[k].toNat : Int)) := by omega
          have w1 : IntKind.u8.wrap ((s[k].toNat : Int) - 48) = (s[k].toNat : Int) - 48 := IntWalk.u8_in _ (by omega)
          have w2 : IntKind.i64.wrap ((s[k].toNat : Int) - 48) = (s[k].toNat : Int) - 48 := IntWalk.i64_in _ (by omega)
          have w3 : IntKind.i64.wrap (10 * (n : Int)) = 10 * (n : Int) := IntWalk.i64_in _ (by omega)
          have w4 : IntKind.i64.wrap (10 * (n : Int) + ((s[k].toNat : Int) - 48)) = 10 * (n : Int) + ((s[k].toNat : Int) - 48) := IntWalk.i64_in _ (by omega)
          go_wp2
          go_round
          case rel => exact ⟨k + 1, _, by omega, by go_num, by congr 1; omega, HN2⟩
          case measure => simp [intOf]; omega
        · obtain rfl : k = s.size := by omega
          obtain rfl : n = m := by rw [← HN.out, HM.out]
          go_wp2
          go_ret2
          exact ⟨rfl, rfl⟩
  by_cases hone : 1 < s.size
  · exact main false (beq_eq_false_iff_ne.2 (by have := h0 hone; omega)) (.inl rfl)
  · exact main _ rfl (.inr (by omega))
set_option maxHeartbeats 1000000 in
theorem l01Value_ok (s : ByteArray) (m : Nat) (w : World) (h1 : 1 ≤ s.size) (h7 : s.size ≤ 7) (hd : ∀ i, i < s.size → 48 ≤ bt s i ∧ bt s i ≤ 57) (hm : dval s s.size = m) (hs : dec m = s) (hb : m ≤ 10000000) :
    Calls Try.prog 65 #[.string s] w fun e w' => e = .returned (.tuple #[.int .i64 m, .bool true]) ∧ Below w.heap.size w w' := by
  have HD := Lib.hid hd
  have HV := Lib.hid (dval_bd s (fun i hi => (hd i hi).2))
  have HM := Lib.hid hm
  have HS := Lib.hid hs
  clear hd hm hs
  go_enter Try.func65, Try.ntmps65
  go_wp2
  go_loop [5, 4] (fun i q => ∃ k n : Nat, k ≤ s.size ∧ i = .int .i64 k ∧ q = .int .i64 n ∧ Hid (dval s k = n)) (fun i _ => s.size - (intOf i).toNat)
  case atStart => exact ⟨0, 0, Nat.zero_le _, rfl, rfl, Lib.hid rfl⟩
  case round =>
    obtain ⟨k, n, hk, rfl, rfl, HN⟩ := hrel
    by_cases hlt : k < s.size
    · obtain ⟨d1, d2⟩ := HD.out k hlt
      have HN2 : Hid (dval s (k + 1) = 10 * n + (s[k].toNat - 48)) := Lib.hid (by rw [dval, HN.out, bt_eq hlt])
      have hnb : n < 10000000 := Nat.lt_of_lt_of_le (HN.out ▸ HV.out k hk) (pow_7 (by omega))
      rw [bt_eq hlt] at d1 d2
      have d1' : ¬ ((s[k].toNat : Int) < 48) := by omega
      have d2' : ¬ (57 < (s[k].toNat : Int)) := by omega
      have w1 : IntKind.u8.wrap ((s[k].toNat : Int) - 48) = (s[k].toNat : Int) - 48 := IntWalk.u8_in _ (by omega)
      have w2 : IntKind.i64.wrap ((s[k].toNat : Int) - 48) = (s[k].toNat : Int) - 48 := IntWalk.i64_in _ (by omega)
      have w3 : IntKind.i64.wrap (10 * (n : Int)) = 10 * (n : Int) := IntWalk.i64_in _ (by omega)
      have w4 : IntKind.i64.wrap (10 * (n : Int) + ((s[k].toNat : Int) - 48)) = 10 * (n : Int) + ((s[k].toNat : Int) - 48) := IntWalk.i64_in _ (by omega)
      go_wp2
      go_round
      case rel => exact ⟨k + 1, _, by omega, by go_num, by congr 1; omega, HN2⟩
      case measure => simp [intOf]; omega
    · obtain rfl : k = s.size := by omega
      obtain rfl : n = m := by rw [← HN.out, HM.out]
      go_wp2_with fail
      refine (l01Dec_any n w (by omega)).mono ?_
      rintro e w2 ⟨rfl, hb2⟩
      rw [HS.out]
      go_wp2
      go_ret2
      exact ⟨rfl, hb2⟩
end Go.Proofs.Ytfiapefkomolmaa
