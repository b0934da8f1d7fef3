/- Contracts of IsWord in the program and in the reference. No statement of the seat is proved here. -/
import Derived.Test.YtnpfgngfolgdfaaInts
namespace Go.Proofs.Ytnpfgngfolgdfaa
open Go.RowKit

theorem within_eq {n lo hi : Int} {b : Bool} (h : inR n lo hi = b) (w : World) : Calls Try.prog 63 #[.int .i64 n, .int .i64 lo, .int .i64 hi] w fun e w' => e = .returned (.bool b) ∧ w = w' := by
  subst h; exact within_any _ _ _ _
theorem l01In_eq {n lo hi : Int} {b : Bool} (h : inR n lo hi = b) (w : World) : Calls Try.prog 58 #[.int .i64 n, .int .i64 lo, .int .i64 hi] w fun e w' => e = .returned (.bool b) ∧ w = w' := by
  subst h; exact l01In_any _ _ _ _
theorem getD_at {α : Type} (xs : List α) (z : α) (k : Nat) (h : k < xs.length) : xs.getD k z = xs[k] := by simp [h]
theorem range_all_succ {p : Nat → Bool} {k : Nat} (h : (List.range k).all p = true) (hk : p k = true) : (List.range (k + 1)).all p = true := by
  rw [List.range_succ, List.all_append, h]; simp [hk]
theorem range_all_false {p : Nat → Bool} {k n : Nat} (h : k < n) (hk : p k = false) : (List.range n).all p = false := by
  rw [List.all_eq_false]; exact ⟨k, List.mem_range.2 h, by simp [hk]⟩

def lowAt (s : ByteArray) (i : Nat) : Bool := if h : i < s.size then inR (s[i].toNat : Int) 97 122 else true
def isWord (s : ByteArray) : Bool := inR s.size 1 16 && (List.range s.size).all (lowAt s)
theorem lowAt_eq {s : ByteArray} {k : Nat} (h : k < s.size) : lowAt s k = inR (s[k].toNat : Int) 97 122 := by unfold lowAt; rw [dif_pos h]

set_option maxHeartbeats 1000000 in
theorem iIsWord_any (s : ByteArray) (w : World) (hs : s.size ≤ 9223372036854775807) :
    Calls Try.prog 61 #[.string s] w fun e w' => e = .returned (.bool (isWord s)) ∧ w = w' := by
  rcases hA : inR s.size 1 16
  · rcases inR_false.1 hA with h | h
    all_goals
      have HA := Lib.hid hA
      clear hA
      go_enter Try.func61, Try.ntmps61
      go_wp2
      go_ret
      exact ⟨ret_bool (by unfold isWord; rw [HA.out]; rfl), rfl⟩
  obtain ⟨h1, h2⟩ := inR_iff.1 hA
  have HA := Lib.hid hA
  clear hA
  go_enter Try.func61, Try.ntmps61
  go_wp2
  go_loop [3] (fun i => ∃ k : Nat, k ≤ s.size ∧ i = .int .i64 k ∧ Hid ((List.range k).all (lowAt s) = true)) (fun i => s.size - (intOf i).toNat)
  case atStart => exact ⟨0, Nat.zero_le _, rfl, Lib.hid rfl⟩
  case round =>
    obtain ⟨k, hk, rfl, HS⟩ := hrel
    by_cases hlt : k < s.size
    · have hd := lowAt_eq hlt
      have hr : (s[k].toNat : Int) ≤ 255 := by have := s[k].toNat_lt; omega
      have HD := Lib.hid hd
      clear hd
      rcases hb : inR (s[k].toNat : Int) 97 122
      · have HB := Lib.hid hb
        rcases inR_false.1 hb with h | h
        all_goals
          clear hb
          go_wp2
          go_ret
          exact ⟨ret_bool (by unfold isWord; rw [range_all_false hlt (by rw [HD.out, HB.out])]; simp), rfl⟩
      · have HB := Lib.hid hb
        obtain ⟨g1, g2⟩ := inR_iff.1 hb
        clear hb
        go_wp2
        go_round
        case rel => exact ⟨k + 1, by omega, by go_num, Lib.hid (range_all_succ HS.out (by rw [HD.out, HB.out]))⟩
        case measure => simp [intOf]; omega
    · obtain rfl : k = s.size := by omega
      go_wp2
      go_ret
      exact ⟨ret_bool (by unfold isWord; rw [HA.out, HS.out]; rfl), rfl⟩
set_option maxHeartbeats 1000000 in
theorem sIsWord_any (s : ByteArray) (w : World) (hs : s.size ≤ 9223372036854775807) :
    Calls Try.prog 59 #[.string s] w fun e w' => e = .returned (.bool (isWord s)) ∧ w = w' := by
  go_enter Try.func59, Try.ntmps59
  go_wp2
  go_loop [3] (fun i => ∃ k : Nat, k ≤ s.size ∧ i = .int .i64 k ∧ Hid ((List.range k).all (lowAt s) = true)) (fun i => s.size - (intOf i).toNat)
  case atStart => exact ⟨0, Nat.zero_le _, rfl, Lib.hid rfl⟩
  case round =>
    obtain ⟨k, hk, rfl, HS⟩ := hrel
    by_cases hlt : k < s.size
    · have hd := lowAt_eq hlt
      have hr : (s[k].toNat : Int) ≤ 255 := by have := s[k].toNat_lt; omega
      have HD := Lib.hid hd
      clear hd
      rcases hb : inR (s[k].toNat : Int) 97 122
      · have HB := Lib.hid hb
        rcases inR_false.1 hb with h | h
        all_goals
          clear hb
          go_wp2
          go_ret
          exact ⟨ret_bool (by unfold isWord; rw [range_all_false hlt (by rw [HD.out, HB.out])]; simp), rfl⟩
      · have HB := Lib.hid hb
        obtain ⟨g1, g2⟩ := inR_iff.1 hb
        clear hb
        go_wp2
        go_round
        case rel => exact ⟨k + 1, by omega, by go_num, Lib.hid (range_all_succ HS.out (by rw [HD.out, HB.out]))⟩
        case measure => simp [intOf]; omega
    · obtain rfl : k = s.size := by omega
      go_wp2_with (go_at_call 58; refine (l01In_any _ _ _ _).mono ?_; rintro e w' ⟨rfl, rfl⟩)
      go_ret
      exact ⟨ret_bool (by unfold isWord; rw [HS.out, Bool.and_true]), rfl⟩
theorem iIsWord_eq {s : ByteArray} {b : Bool} (hs : s.size ≤ 9223372036854775807) (h : isWord s = b) (w : World) : Calls Try.prog 61 #[.string s] w fun e w' => e = .returned (.bool b) ∧ w = w' := by
  subst h; exact iIsWord_any _ _ hs
theorem sIsWord_eq {s : ByteArray} {b : Bool} (hs : s.size ≤ 9223372036854775807) (h : isWord s = b) (w : World) : Calls Try.prog 59 #[.string s] w fun e w' => e = .returned (.bool b) ∧ w = w' := by
  subst h; exact sIsWord_any _ _ hs
end Go.Proofs.Ytnpfgngfolgdfaa
