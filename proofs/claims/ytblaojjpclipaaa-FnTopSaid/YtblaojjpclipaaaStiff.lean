/- Contracts of both IsStiffness (chapter 7). No statement of the seat is proved here. -/
import Derived.Test.YtblaojjpclipaaaTens
namespace Go.Proofs.Ytblaojjpclipaaa
open Go.RowKit

theorem stiff_len {xs : List Int} (h : ¬ (1 ≤ xs.length ∧ xs.length ≤ 4)) : isStiff xs = false := by
  unfold isStiff
  rw [inR_false.2 (by omega), Bool.false_and, Bool.false_and]
theorem stiff_all {xs : List Int} (h : xs.all (inR · (-200) 200) = false) : isStiff xs = false := by
  unfold isStiff
  rw [h, Bool.and_false, Bool.false_and]
theorem stiff_ok {xs : List Int} (h : 1 ≤ xs.length ∧ xs.length ≤ 4) (h2 : xs.all (inR · (-200) 200) = true) : isStiff xs = (decide (0 < xs.getD 0 0) && decide (0 < 2 * sumN xs xs.length - xs.getD 0 0)) := by
  unfold isStiff
  rw [inR_iff.2 (by omega), h2, Bool.true_and, Bool.true_and]
theorem sumN_bd4 {xs : List Int} (h : Bd 200 xs) (hl : xs.length ≤ 4) : -800 ≤ sumN xs xs.length ∧ sumN xs xs.length ≤ 800 := by
  have := sumN_bd h xs.length
  have h2 : (200 : Int) * (xs.length : Int) ≤ 800 := by omega
  omega
theorem Bd.mono {c d : Int} {xs : List Int} (h : Bd c xs) (hd : c ≤ d) : Bd d xs := fun k => by have := h k; omega
set_option maxHeartbeats 4000000 in
set_option maxRecDepth 10000 in
theorem iIsStiffness_any (v : Value) (xs : List Int) (w : World) (hv : Ints w v xs) :
    Calls Try.prog 26 #[v] w fun e w' => e = .returned (.bool (isStiff xs)) ∧ ∃ m, w' = w.drewN m := by
  have HV := Lib.hid hv
  obtain ⟨A, cap, rfl, hcap, hm, hc⟩ := Ints.shape hv
  clear hv
  by_cases h1 : 1 ≤ xs.length
  rotate_left
  · have HR := Lib.hid (stiff_len (xs := xs) (by omega))
    have h1i : (xs.length : Int) < 1 := by omega
    clear hc h1
    go_enter Try.func26, Try.ntmps26
    go_wp2
    go_ret
    exact ⟨ret_bool HR.out.symm, 0, rfl⟩
  by_cases h4 : xs.length ≤ 4
  rotate_left
  · have HR := Lib.hid (stiff_len (xs := xs) (by omega))
    have h1i : ¬ (xs.length : Int) < 1 := by omega
    have h4i : (4 : Int) < (xs.length : Int) := by omega
    clear hc h1 h4
    go_enter Try.func26, Try.ntmps26
    go_wp2
    go_ret
    exact ⟨ret_bool HR.out.symm, 0, rfl⟩
  have h1i : ¬ (xs.length : Int) < 1 := by omega
  have h4i : ¬ (4 : Int) < (xs.length : Int) := by omega
  rcases hal : xs.all (inR · (-200) 200)
  · have HR := Lib.hid (stiff_all hal)
    have HA := Lib.hid hal
    clear hc h1 h4 hal
    go_enter Try.func26, Try.ntmps26
    go_wp2_with fail
    refine (allWithin_any _ xs _ _ _ HV.out).mono ?_
    rintro e w' ⟨rfl, rfl⟩
    rw [HA.out]
    go_wp2
    go_ret
    exact ⟨ret_bool HR.out.symm, 0, rfl⟩
  have HR := Lib.hid (stiff_ok ⟨h1, h4⟩ hal)
  have HA := Lib.hid hal
  have hB : Bd 200 xs := Bd.all hal (by omega) (by omega) (by omega)
  obtain ⟨b, off, rfl, hbl, hcell⟩ := hc (by omega)
  have c0 : w.cell? ⟨b, off, none⟩ = some (.int .i64 xs[0]) := hcell 0 (by omega)
  have hx0 := hB 0
  have h0l : 0 < xs.length := by omega
  have HX0 := Lib.hid (getD_at xs 0 0 h0l)
  rw [getD_at xs 0 0 h0l] at hx0
  have hsd := sumN_drop xs (xs.length - 1)
  rw [show xs.length - 1 + 1 = xs.length by omega, getD_at xs 0 0 h0l] at hsd
  have hdl : (xs.drop 1).length = xs.length - 1 := by simp
  have hsb := sumN_bd4 (hB.drop 1) (by omega)
  have HB1 := Lib.hid ((hB.drop 1).mono (d := 100000) (by omega))
  have HT : Hid (∀ (W : World), W = w → Ints W (.slice (some ⟨b, off + 1, none⟩) (xs.length - 1) (cap - 1)) (xs.drop 1)) := Lib.hid (fun W h => by subst h; exact HV.out.tail h0l)
  rw [hdl] at hsb
  have HSD := Lib.hid hsd
  have HDL := Lib.hid hdl
  clear hc hcell hal hB hsd hdl
  obtain ⟨x0, e0⟩ : ∃ x0, x0 = xs[0] := ⟨_, rfl⟩
  rw [← e0] at c0 hx0 HX0 HSD
  clear e0
  obtain ⟨q, e1⟩ : ∃ q, q = sumN (xs.drop 1) (xs.length - 1) := ⟨_, rfl⟩
  rw [← e1] at hsb HSD
  have HQ := Lib.hid e1
  clear e1
  have i1 : (1 : Int) ≤ (xs.length : Int) := by omega
  by_cases hp : 0 < x0
  · have hpd : decide (0 < x0) = true := decide_eq_true hp
    have hw1 : IntKind.i64.wrap (2 * q) = 2 * q := IntWalk.i64_in _ (by omega)
    have hw2 : IntKind.i64.wrap (-x0) = -x0 := IntWalk.i64_in _ (by omega)
    have HRR : Hid (isStiff xs = decide (-x0 < 2 * q)) := Lib.hid (by
      rw [HR.out, HX0.out, HSD.out, hpd, Bool.true_and]
      by_cases h : -x0 < 2 * q
      · rw [decide_eq_true h, decide_eq_true (by omega)]
      · rw [decide_eq_false h, decide_eq_false (by omega)])
    have TOT : Hid (∀ k, Calls Try.prog 55 #[.slice (some ⟨b, off + 1, none⟩) (xs.length - 1) (cap - 1)] (w.drewN k) fun e w' => e = .returned (.int .i64 q) ∧ w.drewN k = w') := Lib.hid (fun k => by
      have h := total_any _ (xs.drop 1) (w.drewN k) (Sl.drewN (HT.out w rfl) k) HB1.out (by rw [HDL.out]; omega)
      rw [HDL.out, ← HQ.out] at h
      exact h)
    by_cases hc1 : 1 < cap
    · have hc1i : (1 : Int) < (cap : Int) := by omega
      go_enter Try.func26, Try.ntmps26
      go_wp2_with fail
      refine (allWithin_any _ xs _ _ _ HV.out).mono ?_
      rintro e w' ⟨rfl, rfl⟩
      rw [HA.out]
      go_wp2
      go_quiet (first | exact q_same (TOT.out _))
      go_wp2
      go_ret
      exact ⟨ret_bool HRR.out.symm, _, rfl⟩
    · obtain rfl : cap = 1 := by omega
      have hl1 : xs.length = 1 := by omega
      have hq0 : q = 0 := by rw [HQ.out, hl1]; rfl
      have TOT1 : Hid (∀ k (A : Option Addr) (c : Nat), Calls Try.prog 55 #[.slice A 0 c] (w.drewN k) fun e w' => e = .returned (.int .i64 q) ∧ w.drewN k = w') := Lib.hid (fun k A c => by
        have h := total_any _ [] (w.drewN k) (Ints.none_ A c) (fun j => by simp) (by simp)
        rw [hq0]
        exact h)
      have HL1 := Lib.hid hl1
      clear hl1 hq0 TOT HT
      go_enter Try.func26, Try.ntmps26
      go_wp2_with fail
      refine (allWithin_any _ xs _ _ _ HV.out).mono ?_
      rintro e w' ⟨rfl, rfl⟩
      rw [HA.out]
      rw [HL1.out]
      go_wp2
      go_quiet (first | exact q_same (TOT1.out _ _ _))
      go_wp2
      go_ret
      exact ⟨ret_bool HRR.out.symm, _, rfl⟩
  · have hpd : decide (0 < x0) = false := decide_eq_false hp
    have HRR : Hid (isStiff xs = false) := Lib.hid (by rw [HR.out, HX0.out, hpd, Bool.false_and])
    go_enter Try.func26, Try.ntmps26
    go_wp2_with fail
    refine (allWithin_any _ xs _ _ _ HV.out).mono ?_
    rintro e w' ⟨rfl, rfl⟩
    rw [HA.out]
    go_wp2
    go_quiet (fail)
    go_wp2
    go_ret
    exact ⟨ret_bool HRR.out.symm, _, rfl⟩
set_option maxHeartbeats 2000000 in
theorem l07Gain_any (v : Value) (xs : List Int) (w : World) (hv : Ints w v xs) (hB : Bd 200 xs) (h1 : 1 ≤ xs.length) (h4 : xs.length ≤ 4) :
    Calls Try.prog 57 #[v] w fun e w' => e = .returned (.int .i64 (2 * sumN xs xs.length - xs.getD 0 0)) ∧ ∃ m, w' = w.drewN m := by
  have HV := Lib.hid hv
  obtain ⟨A, cap, rfl, hcap, hm, hc⟩ := Ints.shape hv
  clear hv
  obtain ⟨b, off, rfl, hbl, hcell⟩ := hc (by omega)
  have h0l : 0 < xs.length := by omega
  have c0 : w.cell? ⟨b, off, none⟩ = some (.int .i64 xs[0]) := hcell 0 (by omega)
  have hx0 := hB 0
  have hsb := sumN_bd4 hB h4
  have HB1 := Lib.hid (hB.mono (d := 100000) (by omega))
  have HX0 := Lib.hid (getD_at xs 0 0 h0l)
  rw [getD_at xs 0 0 h0l] at hx0
  obtain ⟨x0, e0⟩ : ∃ x0, x0 = xs[0] := ⟨_, rfl⟩
  rw [← e0] at c0 hx0 HX0
  obtain ⟨q, e1⟩ : ∃ q, q = sumN xs xs.length := ⟨_, rfl⟩
  rw [← e1] at hsb
  have SUM : Hid (∀ k, Calls Try.prog 78 #[.slice (some ⟨b, off, none⟩) xs.length cap] (w.drewN k) fun e w' => e = .returned (.int .i64 q) ∧ w.drewN k = w') := Lib.hid (fun k => by
    rw [e1]
    exact l01Sum_any _ xs (w.drewN k) (Sl.drewN HV.out k) HB1.out (by omega))
  have HQ := Lib.hid e1
  have hw1 : IntKind.i64.wrap (2 * q) = 2 * q := IntWalk.i64_in _ (by omega)
  have hw2 : IntKind.i64.wrap (2 * q - x0) = 2 * q - x0 := IntWalk.i64_in _ (by omega)
  clear hc hcell e0 e1 hB
  go_enter Try.func57, Try.ntmps57
  go_wp2
  go_quiet (first | exact q_same (SUM.out _))
  go_wp2
  go_ret
  exact ⟨ret_int (by rw [HX0.out, HQ.out]), _, rfl⟩
set_option maxHeartbeats 4000000 in
set_option maxRecDepth 10000 in
theorem sIsStiffness_any (v : Value) (xs : List Int) (w : World) (hv : Ints w v xs) :
    Calls Try.prog 32 #[v] w fun e w' => e = .returned (.bool (isStiff xs)) ∧ ∃ m, w' = w.drewN m := by
  have HV := Lib.hid hv
  obtain ⟨A, cap, rfl, _, hm, hc⟩ := Ints.shape hv
  clear hv
  go_enter Try.func32, Try.ntmps32
  go_wp2
  go_loop [3] (fun i => ∃ k : Nat, k ≤ xs.length ∧ i = .int .i64 k ∧ (xs.take k).all (inR · (-200) 200) = true) (fun i => xs.length - (intOf i).toNat)
  case atStart => exact ⟨0, Nat.zero_le _, rfl, rfl⟩
  case round =>
    obtain ⟨k, hk, rfl, hall⟩ := hrel
    have HA := Lib.hid hall
    clear hall
    by_cases hlt : k < xs.length
    · obtain ⟨b, off, rfl, _, hcell⟩ := hc (by omega)
      have hck := hcell k hlt
      clear hcell
      go_wp2_with (go_at_call 33; refine (l01In_any _ _ _ _).mono ?_; rintro e w' ⟨rfl, rfl⟩)
      · go_ret
        have h1 : (!inR xs[k] (-200) 200) = true := by assumption
        exact ⟨ret_bool (stiff_all (all_false_at xs k hlt (inR · (-200) 200) (by simpa using h1))).symm, 0, rfl⟩
      · have h1 : (!inR xs[k] (-200) 200) = false := by assumption
        go_round
        case rel => exact ⟨k + 1, by omega, by go_num, all_take_succ xs k hlt _ HA.out (by simpa using h1)⟩
        case measure => simp [intOf]; omega
    · obtain rfl : k = xs.length := by omega
      have HAL := Lib.hid (all_of_take xs _ (Nat.le_refl _) _ HA.out)
      by_cases h14 : 1 ≤ xs.length ∧ xs.length ≤ 4
      · have HI : Hid (inR (xs.length : Int) 1 4 = true) := Lib.hid (inR_iff.2 (by omega))
        have HR := Lib.hid (stiff_ok h14 HAL.out)
        have hB : Bd 200 xs := Bd.all HAL.out (by omega) (by omega) (by omega)
        have HBB := Lib.hid hB
        obtain ⟨b, off, rfl, hbl, hcell⟩ := hc (by omega)
        have h0l : 0 < xs.length := by omega
        have c0 : w.cell? ⟨b, off, none⟩ = some (.int .i64 xs[0]) := hcell 0 (by omega)
        have HX0 := Lib.hid (getD_at xs 0 0 h0l)
        obtain ⟨x0, e0⟩ : ∃ x0, x0 = xs[0] := ⟨_, rfl⟩
        rw [← e0] at c0 HX0
        obtain ⟨g, e1⟩ : ∃ g, g = 2 * sumN xs xs.length - xs.getD 0 0 := ⟨_, rfl⟩
        rw [← e1, HX0.out] at HR
        have HG := Lib.hid e1
        have h0i : (0 : Int) < (xs.length : Int) := by omega
        clear e0 e1 hcell hc hB
        obtain ⟨l1, l4⟩ := h14
        by_cases hp : 0 < x0
        · have hpd : decide (0 < x0) = true := decide_eq_true hp
          go_wp2_with fail
          refine (l01In_any _ _ _ _).mono ?_
          rintro e w' ⟨rfl, rfl⟩
          rw [HI.out]
          go_wp2_with fail
          refine (l07Gain_any _ xs w HV.out HBB.out l1 l4).mono ?_
          rw [← HG.out]
          rintro e w' ⟨rfl, m, rfl⟩
          go_wp2
          go_ret
          exact ⟨ret_bool (by rw [HR.out, hpd, Bool.true_and]), m, rfl⟩
        · have hpd : decide (0 < x0) = false := decide_eq_false hp
          go_wp2_with fail
          refine (l01In_any _ _ _ _).mono ?_
          rintro e w' ⟨rfl, rfl⟩
          rw [HI.out]
          go_wp2
          go_ret
          exact ⟨ret_bool (by rw [HR.out, hpd, Bool.false_and]), 0, rfl⟩
      · have HI : Hid (inR (xs.length : Int) 1 4 = false) := Lib.hid (inR_false.2 (by omega))
        have HR := Lib.hid (stiff_len h14)
        clear h14
        go_wp2_with fail
        refine (l01In_any _ _ _ _).mono ?_
        rintro e w' ⟨rfl, rfl⟩
        rw [HI.out]
        go_wp2
        go_ret
        exact ⟨ret_bool HR.out.symm, 0, rfl⟩
end Go.Proofs.Ytblaojjpclipaaa
