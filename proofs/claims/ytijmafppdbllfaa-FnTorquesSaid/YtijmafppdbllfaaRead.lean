/- Contracts of the functions on readings (chapter 26): the program's and the reference's compute the same Lean function. No statement of the seat is proved here. -/
import Derived.Test.YtijmafppdbllfaaList
namespace Go.Proofs.Ytijmafppdbllfaa
open Go.RowKit

def readCode (xs : List Int) (t : Int) : Int := if areReadings xs then (if inR t 1 2000 then 0 else 2) else 1
theorem l26Readings_any (v : Value) (xs : List Int) (t : Int) (w : World) (hv : Ints w v xs) :
    Calls Try.prog 56 #[v, .int .i64 t] w fun e w' => e = .returned (.int .i64 (readCode xs t)) ∧ w = w' := by
  unfold readCode
  obtain ⟨A, cap, rfl, _, hm, hc⟩ := Ints.shape hv
  clear hc
  rcases hA : areReadings xs <;> rcases hB : inR t 1 2000
  all_goals
    have HA := Lib.hid hA
    have HB := Lib.hid hB
    clear hA hB
    go_enter Try.func56, Try.ntmps56
    go_wp2_with (first
      | (go_at_call 15; refine (sAreReadings_any _ xs _ hv).mono ?_; rintro e w' ⟨rfl, rfl⟩; rw [HA.out])
      | (go_at_call 76; refine (l26Torque_any _ _).mono ?_; rintro e w' ⟨rfl, rfl⟩; rw [HB.out]))
    go_ret
    exact ⟨rfl, rfl⟩

theorem areReadings_len {xs : List Int} (h : areReadings xs = true) : 3 ≤ xs.length ∧ xs.length ≤ 12 := by
  unfold areReadings at h
  rw [Bool.and_eq_true, inR_iff] at h
  omega
theorem areReadings_at {xs : List Int} (h : areReadings xs = true) (k : Nat) (hk : k < xs.length) : 0 ≤ xs[k] ∧ xs[k] ≤ 2000 := by
  unfold areReadings at h
  rw [Bool.and_eq_true] at h
  have := List.all_eq_true.1 h.2 xs[k] (List.getElem_mem hk)
  rwa [inR_iff] at this

/-! ### the steepest pair -/
def gap (xs : List Int) (k : Nat) : Int := iabs (xs.getD k 0 - xs.getD ((k + 1) % xs.length) 0)
def steep (xs : List Int) : Nat → Int × Int
  | 0 => (0, -1)
  | k + 1 => if (steep xs k).2 < gap xs k then ((k : Int), gap xs k) else steep xs k
theorem gap_eq (xs : List Int) (k : Nat) (h : k < xs.length) (h' : (k + 1) % xs.length < xs.length) : gap xs k = iabs (xs[k] - xs[(k + 1) % xs.length]) := by
  unfold gap
  simp [h, h']
theorem tmod_cast_eq (k n : Nat) : ((k : Int) + 1).tmod (n : Int) = (((k + 1) % n : Nat) : Int) := by rw [Int.tmod_eq_emod_of_nonneg (by omega)]; rw [Int.natCast_emod]; rfl
theorem mod_cast_eq (k n : Nat) : ((k : Int) + 1) % (n : Int) = (((k + 1) % n : Nat) : Int) := by rw [Int.natCast_emod]; rfl
def SteepPost (xs : List Int) (e : Ending) : Prop := e = .returned (.tuple (if areReadings xs then #[.int .i64 (steep xs xs.length).1, .int .i64 (steep xs xs.length).2, .int .i64 0] else #[.int .i64 0, .int .i64 0, .int .i64 1]))
theorem steep_yes {xs : List Int} {k : Nat} (h : (steep xs k).2 < gap xs k) : steep xs (k + 1) = ((k : Int), gap xs k) := by rw [steep, if_pos h]
theorem steep_no {xs : List Int} {k : Nat} (h : ¬ (steep xs k).2 < gap xs k) : steep xs (k + 1) = steep xs k := by rw [steep, if_neg h]

set_option maxHeartbeats 1000000 in
theorem iSteepestPair_any (v : Value) (xs : List Int) (w : World) (hv : Ints w v xs) :
    Calls Try.prog 20 #[v] w fun e w' => SteepPost xs e ∧ w = w' := by
  obtain ⟨A, cap, rfl, _, hm, hc⟩ := Ints.shape hv
  rcases hA : areReadings xs
  · have HA := Lib.hid hA
    clear hA hc
    go_enter Try.func20, Try.ntmps20
    go_wp2_with (go_at_call 17; refine (iAreReadings_any _ xs _ hv).mono ?_; rintro e w' ⟨rfl, rfl⟩; rw [HA.out])
    go_ret3
    exact ⟨by unfold SteepPost; rw [HA.out]; rfl, rfl⟩
  · have hlen := areReadings_len hA
    obtain ⟨hl1, hl2⟩ := hlen
    have HA := Lib.hid hA
    obtain ⟨b, off, rfl, hbl, hcell⟩ := hc (by omega)
    have HC := Lib.hid hcell
    clear hA hc hcell
    go_enter Try.func20, Try.ntmps20
    go_wp2_with (go_at_call 17; refine (iAreReadings_any _ xs _ hv).mono ?_; rintro e w' ⟨rfl, rfl⟩; rw [HA.out])
    go_loop [15, 5, 6] (fun i p q => ∃ (k : Nat) (s1 s2 : Int), k ≤ xs.length ∧ i = .int .i64 k ∧ p = .int .i64 s1 ∧ q = .int .i64 s2 ∧ Hid (steep xs k = (s1, s2)) ∧ 0 ≤ s1 ∧ s1 ≤ k ∧ -1 ≤ s2 ∧ s2 ≤ 2000) (fun i _ _ => xs.length - (intOf i).toNat)
    case atStart => exact ⟨0, 0, -1, Nat.zero_le _, rfl, rfl, rfl, Lib.hid rfl, by omega, by omega, by omega, by omega⟩
    case round =>
      obtain ⟨k, s1, s2, hk, rfl, rfl, rfl, HS, b1, b2, b3, b4⟩ := hrel
      by_cases hlt : k < xs.length
      · have hck := HC.out k hlt
        have hmod : (k + 1) % xs.length < xs.length := Nat.mod_lt _ (by omega)
        have hcm := HC.out _ hmod
        have hm0 := mod_cast_eq k xs.length
        have hm1 : 0 ≤ ((k : Int) + 1) % (xs.length : Int) := by rw [hm0]; omega
        have hm2 : ((k : Int) + 1) % (xs.length : Int) < (xs.length : Int) := by rw [hm0]; omega
        have hm3 : (((k : Int) + 1) % (xs.length : Int)).toNat = (k + 1) % xs.length := by rw [hm0]; rfl
        clear hm0
        have ha := areReadings_at HA.out k hlt
        have hb := areReadings_at HA.out _ hmod
        have HG := Lib.hid (gap_eq xs k hlt hmod)
        generalize xs[k] = x at *
        generalize xs[(k + 1) % xs.length] = y at *
        obtain ⟨a1, a2⟩ := ha
        obtain ⟨a3, a4⟩ := hb
        have g1 : 0 ≤ iabs (x - y) ∧ iabs (x - y) ≤ 2000 := by unfold iabs; split <;> omega
        obtain ⟨g1, g2⟩ := g1
        by_cases hgt : s2 < iabs (x - y)
        · go_wp2_with (go_at_call 58; refine (abs_any _ _ ?_ ?_).mono ?_; omega; omega; rintro e w' ⟨rfl, rfl⟩)
          go_round
          case rel => exact ⟨k + 1, k, _, by omega, by go_num, rfl, rfl, Lib.hid (by rw [steep_yes (by rw [HS.out, HG.out]; exact hgt), HG.out]), by omega, by omega, by omega, by omega⟩
          case measure => simp [intOf]; omega
        · go_wp2_with (go_at_call 58; refine (abs_any _ _ ?_ ?_).mono ?_; omega; omega; rintro e w' ⟨rfl, rfl⟩)
          go_round
          case rel => exact ⟨k + 1, s1, s2, by omega, by go_num, rfl, rfl, Lib.hid (by rw [steep_no (by rw [HS.out, HG.out]; simp only []; omega), HS.out]), by omega, by omega, by omega, by omega⟩
          case measure => simp [intOf]; omega
      · obtain rfl : k = xs.length := by omega
        go_wp2
        go_ret3
        exact ⟨by unfold SteepPost; rw [HA.out, HS.out]; rfl, rfl⟩

set_option maxHeartbeats 1000000 in
theorem sSteepestPair_any (v : Value) (xs : List Int) (w : World) (hv : Ints w v xs) :
    Calls Try.prog 19 #[v] w fun e w' => SteepPost xs e ∧ ∃ m, w' = w.drewN m := by
  obtain ⟨A, cap, rfl, _, hm, hc⟩ := Ints.shape hv
  rcases hA : areReadings xs
  · have HA := Lib.hid hA
    have hR : readCode xs 1 = 1 := by unfold readCode; rw [hA]; rfl
    have HR := Lib.hid hR
    clear hA hc hR
    go_enter Try.func19, Try.ntmps19
    go_wp2_with (go_at_call 56; refine (l26Readings_any _ xs _ _ hv).mono ?_; rintro e w' ⟨rfl, rfl⟩; rw [HR.out])
    go_ret3
    exact ⟨by unfold SteepPost; rw [HA.out]; rfl, 0, rfl⟩
  · have hlen := areReadings_len hA
    obtain ⟨hl1, hl2⟩ := hlen
    have HA := Lib.hid hA
    have hR : readCode xs 1 = 0 := by unfold readCode; rw [hA]; rfl
    have HR := Lib.hid hR
    obtain ⟨b, off, rfl, hbl, hcell⟩ := hc (by omega)
    have HC := Lib.hid hcell
    clear hA hc hcell hR
    go_enter Try.func19, Try.ntmps19
    go_wp2_with (go_at_call 56; refine (l26Readings_any _ xs _ _ hv).mono ?_; rintro e w' ⟨rfl, rfl⟩; rw [HR.out])
    go_loopw [8, 6, 7] (fun i p q wr => ∃ (k : Nat) (s1 s2 : Int), k ≤ xs.length ∧ i = .int .i64 k ∧ p = .int .i64 s1 ∧ q = .int .i64 s2 ∧ Hid (steep xs k = (s1, s2)) ∧ 0 ≤ s1 ∧ s1 ≤ k ∧ -1 ≤ s2 ∧ s2 ≤ 2000 ∧ Hid (∃ m, wr = w.drewN m)) (fun i _ _ _ => xs.length - (intOf i).toNat)
    case atStart => exact ⟨0, 0, -1, Nat.zero_le _, rfl, rfl, rfl, Lib.hid rfl, by omega, by omega, by omega, by omega, Lib.hid ⟨0, rfl⟩⟩
    case round =>
      obtain ⟨k, s1, s2, hk, rfl, rfl, rfl, HS, b1, b2, b3, b4, HW⟩ := hrel
      obtain ⟨m, rfl⟩ := HW.out
      by_cases hlt : k < xs.length
      · have hck := HC.out k hlt
        have hmod : (k + 1) % xs.length < xs.length := Nat.mod_lt _ (by omega)
        have hcm := HC.out _ hmod
        have hm0 := mod_cast_eq k xs.length
        have hm1 : 0 ≤ ((k : Int) + 1) % (xs.length : Int) := by rw [hm0]; omega
        have hm2 : ((k : Int) + 1) % (xs.length : Int) < (xs.length : Int) := by rw [hm0]; omega
        have hm3 : (((k : Int) + 1) % (xs.length : Int)).toNat = (k + 1) % xs.length := by rw [hm0]; rfl
        clear hm0
        have ha := areReadings_at HA.out k hlt
        have hb := areReadings_at HA.out _ hmod
        have HG := Lib.hid (gap_eq xs k hlt hmod)
        generalize xs[k] = x at *
        generalize xs[(k + 1) % xs.length] = y at *
        obtain ⟨a1, a2⟩ := ha
        obtain ⟨a3, a4⟩ := hb
        have g1 : 0 ≤ iabs (x - y) ∧ iabs (x - y) ≤ 2000 := by unfold iabs; split <;> omega
        obtain ⟨g1, g2⟩ := g1
        have hw1 : IntKind.i64.wrap ((k : Int) + 1) = (k : Int) + 1 := IntWalk.i64_in _ (by omega)
        have hw2 : IntKind.i64.wrap (x - y) = x - y := IntWalk.i64_in _ (by omega)
        have tz : ¬ xs = [] := by intro h; rw [h] at hlt; exact absurd hlt (by simp)
        have hnn : ((k : Int) + 1).tmod (xs.length : Int) = ((k : Int) + 1) % (xs.length : Int) := IntWalk.rem_in _ _ (by omega)
        go_wp2
        go_quiet ((go_at_call 57; exact q_same2 (l01Abs_any _ _ (by omega) (by omega))))
        clear hw1 hw2 hm1 hm2 hm3 tz hnn
        by_cases hgt : s2 < iabs (x - y)
        · go_wp2
          go_roundw
          case rel => exact ⟨k + 1, k, _, by omega, by go_num, rfl, rfl, Lib.hid (by rw [steep_yes (by rw [HS.out, HG.out]; exact hgt), HG.out]), by omega, by omega, by omega, by omega, Lib.hid ⟨_, rfl⟩⟩
          case measure => simp [intOf]; omega
        · go_wp2
          go_roundw
          case rel => exact ⟨k + 1, s1, s2, by omega, by go_num, rfl, rfl, Lib.hid (by rw [steep_no (by rw [HS.out, HG.out]; simp only []; omega), HS.out]), by omega, by omega, by omega, by omega, Lib.hid ⟨_, rfl⟩⟩
          case measure => simp [intOf]; omega
      · obtain rfl : k = xs.length := by omega
        go_wp2
        go_ret3
        exact ⟨by unfold SteepPost; rw [HA.out, HS.out]; rfl, _, rfl⟩

/-! ### even readings -/
def farOff (t p n : Int) : Bool := decide (p * t < 100 * iabs (n - t))
def EvenPost (xs : List Int) (t p : Int) (e : Ending) : Prop :=
  e = .returned (.tuple (if areReadings xs then (if inR t 1 2000 && inR p 0 100 then #[.bool (xs.all fun n => !farOff t p n), .int .i64 0] else #[.bool false, .int .i64 2]) else #[.bool false, .int .i64 1]))
theorem mul_bd {a b A B : Int} (h1 : 0 ≤ a) (h2 : a ≤ A) (h3 : 0 ≤ b) (h4 : b ≤ B) : 0 ≤ a * b ∧ a * b ≤ A * B :=
  ⟨Int.mul_nonneg h1 h3, Int.mul_le_mul h2 h4 h3 (by omega)⟩

set_option maxHeartbeats 2000000 in
theorem iIsEven_any (v : Value) (xs : List Int) (t p : Int) (w : World) (hv : Ints w v xs) :
    Calls Try.prog 22 #[v, .int .i64 t, .int .i64 p] w fun e w' => EvenPost xs t p e ∧ w = w' := by
  obtain ⟨A, cap, rfl, _, hm, hc⟩ := Ints.shape hv
  rcases hA : areReadings xs
  · have HA := Lib.hid hA
    clear hA hc
    go_enter Try.func22, Try.ntmps22
    go_wp2_with (go_at_call 17; refine (iAreReadings_any _ xs _ hv).mono ?_; rintro e w' ⟨rfl, rfl⟩; rw [HA.out])
    go_ret2
    exact ⟨by unfold EvenPost; rw [HA.out]; rfl, rfl⟩
  rcases hB : inR t 1 2000 <;> rcases hC : inR p 0 100
  rotate_right
  · have hlen := areReadings_len hA
    obtain ⟨hl1, hl2⟩ := hlen
    obtain ⟨t1, t2⟩ := inR_iff.1 hB
    obtain ⟨p1, p2⟩ := inR_iff.1 hC
    obtain ⟨m1, m2⟩ := mul_bd p1 p2 (show 0 ≤ t by omega) t2
    have HA := Lib.hid hA
    have HB := Lib.hid hB
    have HC := Lib.hid hC
    obtain ⟨b, off, rfl, hbl, hcell⟩ := hc (by omega)
    have HL := Lib.hid hcell
    clear hA hB hC hc hcell
    go_enter Try.func22, Try.ntmps22
    go_wp2_with (first
      | (go_at_call 17; refine (iAreReadings_any _ xs _ hv).mono ?_; rintro e w' ⟨rfl, rfl⟩; rw [HA.out])
      | (go_at_call 59; refine (isTorque_any _ _).mono ?_; rintro e w' ⟨rfl, rfl⟩; rw [HB.out])
      | (go_at_call 60; refine (within_any _ _ _ _).mono ?_; rintro e w' ⟨rfl, rfl⟩; rw [HC.out]))
    go_loop [23] (fun i => ∃ k : Nat, k ≤ xs.length ∧ i = .int .i64 k ∧ Hid ((xs.take k).all (fun n => !farOff t p n) = true)) (fun i => xs.length - (intOf i).toNat)
    case atStart => exact ⟨0, Nat.zero_le _, rfl, Lib.hid rfl⟩
    case round =>
      obtain ⟨k, hk, rfl, HS⟩ := hrel
      by_cases hlt : k < xs.length
      · have hck := HL.out k hlt
        obtain ⟨a1, a2⟩ := areReadings_at HA.out k hlt
        have g1 : 0 ≤ iabs (xs[k] - t) ∧ iabs (xs[k] - t) ≤ 2000 := by unfold iabs; split <;> omega
        obtain ⟨g1, g2⟩ := g1
        by_cases hgt : p * t < 100 * iabs (xs[k] - t)
        · go_wp2_with (go_at_call 58; refine (abs_any _ _ ?_ ?_).mono ?_; omega; omega; rintro e w' ⟨rfl, rfl⟩)
          go_ret2
          refine ⟨?_, rfl⟩
          unfold EvenPost
          rw [HA.out, HB.out, HC.out, all_false_at xs k hlt (fun n => !farOff t p n) (by simp [farOff, hgt])]
          rfl
        · go_wp2_with (go_at_call 58; refine (abs_any _ _ ?_ ?_).mono ?_; omega; omega; rintro e w' ⟨rfl, rfl⟩)
          go_round
          case rel => exact ⟨k + 1, by omega, by go_num, Lib.hid (all_take_succ xs k hlt _ HS.out (by simp [farOff]; omega))⟩
          case measure => simp [intOf]; omega
      · obtain rfl : k = xs.length := by omega
        go_wp2
        go_ret2
        exact ⟨by unfold EvenPost; rw [HA.out, HB.out, HC.out, all_of_take xs _ (Nat.le_refl _) _ HS.out]; rfl, rfl⟩
  all_goals
    have HA := Lib.hid hA
    have HB := Lib.hid hB
    have HC := Lib.hid hC
    clear hA hB hC hc
    go_enter Try.func22, Try.ntmps22
    go_wp2_with (first
      | (go_at_call 17; refine (iAreReadings_any _ xs _ hv).mono ?_; rintro e w' ⟨rfl, rfl⟩; rw [HA.out])
      | (go_at_call 59; refine (isTorque_any _ _).mono ?_; rintro e w' ⟨rfl, rfl⟩; rw [HB.out])
      | (go_at_call 60; refine (within_any _ _ _ _).mono ?_; rintro e w' ⟨rfl, rfl⟩; rw [HC.out]))
    go_ret2
    exact ⟨by unfold EvenPost; rw [HA.out, HB.out, HC.out]; rfl, rfl⟩

set_option maxHeartbeats 2000000 in
theorem sIsEven_any (v : Value) (xs : List Int) (t p : Int) (w : World) (hv : Ints w v xs) :
    Calls Try.prog 21 #[v, .int .i64 t, .int .i64 p] w fun e w' => EvenPost xs t p e ∧ w = w' := by
  obtain ⟨A, cap, rfl, _, hm, hc⟩ := Ints.shape hv
  rcases hA : areReadings xs
  · have HA := Lib.hid hA
    have HR := Lib.hid (show readCode xs t = 1 by unfold readCode; rw [hA]; rfl)
    clear hA hc
    go_enter Try.func21, Try.ntmps21
    go_wp2_with (go_at_call 56; refine (l26Readings_any _ xs _ _ hv).mono ?_; rintro e w' ⟨rfl, rfl⟩; rw [HR.out])
    go_ret2
    exact ⟨by unfold EvenPost; rw [HA.out]; rfl, rfl⟩
  rcases hB : inR t 1 2000
  · have HA := Lib.hid hA
    have HB := Lib.hid hB
    have HR := Lib.hid (show readCode xs t = 2 by unfold readCode; rw [hA, hB]; rfl)
    clear hA hB hc
    go_enter Try.func21, Try.ntmps21
    go_wp2_with (go_at_call 56; refine (l26Readings_any _ xs _ _ hv).mono ?_; rintro e w' ⟨rfl, rfl⟩; rw [HR.out])
    go_ret2
    exact ⟨by unfold EvenPost; rw [HA.out, HB.out]; rfl, rfl⟩
  have HR := Lib.hid (show readCode xs t = 0 by unfold readCode; rw [hA, hB]; rfl)
  rcases hC : inR p 0 100
  · have HA := Lib.hid hA
    have HB := Lib.hid hB
    have HC := Lib.hid hC
    clear hA hB hC hc
    go_enter Try.func21, Try.ntmps21
    go_wp2_with (first
      | (go_at_call 56; refine (l26Readings_any _ xs _ _ hv).mono ?_; rintro e w' ⟨rfl, rfl⟩; rw [HR.out])
      | (go_at_call 53; refine (l01In_any _ _ _ _).mono ?_; rintro e w' ⟨rfl, rfl⟩; rw [HC.out]))
    go_ret2
    exact ⟨by unfold EvenPost; rw [HA.out, HB.out, HC.out]; rfl, rfl⟩
  · have hlen := areReadings_len hA
    obtain ⟨hl1, hl2⟩ := hlen
    obtain ⟨t1, t2⟩ := inR_iff.1 hB
    obtain ⟨p1, p2⟩ := inR_iff.1 hC
    obtain ⟨m1, m2⟩ := mul_bd p1 p2 (show 0 ≤ t by omega) t2
    have HA := Lib.hid hA
    have HB := Lib.hid hB
    have HC := Lib.hid hC
    obtain ⟨b, off, rfl, hbl, hcell⟩ := hc (by omega)
    have HL := Lib.hid hcell
    clear hA hB hC hc hcell
    go_enter Try.func21, Try.ntmps21
    go_wp2_with (first
      | (go_at_call 56; refine (l26Readings_any _ xs _ _ hv).mono ?_; rintro e w' ⟨rfl, rfl⟩; rw [HR.out])
      | (go_at_call 53; refine (l01In_any _ _ _ _).mono ?_; rintro e w' ⟨rfl, rfl⟩; rw [HC.out]))
    go_loop [9] (fun i => ∃ k : Nat, k ≤ xs.length ∧ i = .int .i64 k ∧ Hid ((xs.take k).all (fun n => !farOff t p n) = true)) (fun i => xs.length - (intOf i).toNat)
    case atStart => exact ⟨0, Nat.zero_le _, rfl, Lib.hid rfl⟩
    case round =>
      obtain ⟨k, hk, rfl, HS⟩ := hrel
      by_cases hlt : k < xs.length
      · have hck := HL.out k hlt
        obtain ⟨a1, a2⟩ := areReadings_at HA.out k hlt
        have g1 : 0 ≤ iabs (xs[k] - t) ∧ iabs (xs[k] - t) ≤ 2000 := by unfold iabs; split <;> omega
        obtain ⟨g1, g2⟩ := g1
        by_cases hgt : p * t < 100 * iabs (xs[k] - t)
        · go_wp2_with (go_at_call 57; refine (l01Abs_any _ _ ?_ ?_).mono ?_; omega; omega; rintro e w' ⟨rfl, rfl⟩)
          go_ret2
          refine ⟨?_, rfl⟩
          unfold EvenPost
          rw [HA.out, HB.out, HC.out, all_false_at xs k hlt (fun n => !farOff t p n) (by simp [farOff, hgt])]
          rfl
        · go_wp2_with (go_at_call 57; refine (l01Abs_any _ _ ?_ ?_).mono ?_; omega; omega; rintro e w' ⟨rfl, rfl⟩)
          go_round
          case rel => exact ⟨k + 1, by omega, by go_num, Lib.hid (all_take_succ xs k hlt _ HS.out (by simp [farOff]; omega))⟩
          case measure => simp [intOf]; omega
      · obtain rfl : k = xs.length := by omega
        go_wp2
        go_ret2
        exact ⟨by unfold EvenPost; rw [HA.out, HB.out, HC.out, all_of_take xs _ (Nat.le_refl _) _ HS.out]; rfl, rfl⟩
end Go.Proofs.Ytijmafppdbllfaa
