/- Contracts of NextBolt (chapter 26). No statement of the seat is proved here. -/
import Derived.Test.YtijmafppdbllfaaStarL
import Derived.Test.YtijmafppdbllfaaReadL
import Derived.Test.YtijmafppdbllfaaFind
namespace Go.Proofs.Ytijmafppdbllfaa
open Go.RowKit

theorem star_bolts : (List.range 13).all (fun n => decide (n < 3) || ((star n).length == n && (star n).all fun b => decide (0 ≤ b) && decide (b < n))) = true := by decide +kernel
theorem star_at {n : Nat} (h3 : 3 ≤ n) (h12 : n ≤ 12) : (star n).length = n ∧ ∀ (k : Nat) (hk : k < (star n).length), ∃ q : Nat, (star n)[k] = q ∧ q < n := by
  have h := List.all_eq_true.1 star_bolts n (List.mem_range.2 (by omega))
  rw [Bool.or_eq_true, decide_eq_true_eq, Bool.and_eq_true, beq_iff_eq, List.all_eq_true] at h
  rcases h with h | h
  · omega
  · refine ⟨h.1, fun k hk => ?_⟩
    have h2 := h.2 _ (List.getElem_mem hk)
    rw [Bool.and_eq_true, decide_eq_true_eq, decide_eq_true_eq] at h2
    exact ⟨(star n)[k].toNat, by omega, by omega⟩
def loose (xs : List Int) (t b : Int) : Bool := decide (xs.getD b.toNat 0 < t)
def NextBolt_r (xs : List Int) (t : Int) : Int × Int :=
  if readCode xs t = 0 then (if firstAt (loose xs t) (star xs.length) < 0 then (0, 4) else ((star xs.length).getD (firstAt (loose xs t) (star xs.length)).toNat 0, 0)) else (0, readCode xs t)
abbrev NextBolt_e (xs : List Int) (t : Int) : Ending := .returned (.tuple #[.int .i64 (NextBolt_r xs t).1, .int .i64 (NextBolt_r xs t).2])
theorem NextBolt_e_of {xs : List Int} {t a b : Int} (h : NextBolt_r xs t = (a, b)) : Ending.returned (.tuple #[.int .i64 a, .int .i64 b]) = NextBolt_e xs t := by unfold NextBolt_e; rw [h]
theorem NextBolt_bad {xs : List Int} {t c : Int} (h : readCode xs t = c) (hc : c ≠ 0) : NextBolt_r xs t = (0, c) := by unfold NextBolt_r; rw [h, if_neg hc]
theorem NextBolt_none {xs : List Int} {t : Int} (h : readCode xs t = 0) (hc : (star xs.length).any (loose xs t) = false) : NextBolt_r xs t = (0, 4) := by unfold NextBolt_r; rw [if_pos h, if_pos (firstAt_neg.2 hc)]
theorem NextBolt_some {xs : List Int} {t : Int} (h : readCode xs t = 0) {k : Nat} (hk : k < (star xs.length).length) (h1 : ((star xs.length).take k).any (loose xs t) = false) (h2 : loose xs t (star xs.length)[k] = true) : NextBolt_r xs t = ((star xs.length)[k], 0) := by
  unfold NextBolt_r; rw [if_pos h, firstAt_at hk h1 h2, if_neg (by omega), Int.toNat_natCast]; simp [hk]

set_option maxHeartbeats 4000000 in
theorem iNextBolt_any (v : Value) (xs : List Int) (t : Int) (w : World) (hv : Ints w v xs) :
    Calls Try.prog 33 #[v, .int .i64 t] w fun e w' => e = NextBolt_e xs t ∧ Below w.heap.size w w' := by
  have HV := Lib.hid hv
  obtain ⟨A, cap, rfl, _, hm, hc⟩ := Ints.shape hv
  clear hv
  rcases hA : areReadings xs
  · have HC : Hid (readCode xs t = 1) := Lib.hid (by unfold readCode; rw [hA]; rfl)
    have HA := Lib.hid hA
    clear hA hc
    go_enter Try.func33, Try.ntmps33
    go_wp2_with (go_at_call 17; refine (iAreReadings_any _ xs _ HV.out).mono ?_; rintro e w' ⟨rfl, rfl⟩; rw [HA.out])
    go_ret2
    exact ⟨NextBolt_e_of (NextBolt_bad HC.out (by decide)), Below.refl _ _⟩
  rcases hB : inR t 1 2000
  · have HC : Hid (readCode xs t = 2) := Lib.hid (by unfold readCode; rw [hA, hB]; rfl)
    have HA := Lib.hid hA
    have HB := Lib.hid hB
    clear hA hB hc
    go_enter Try.func33, Try.ntmps33
    go_wp2_with (first
      | (go_at_call 17; refine (iAreReadings_any _ xs _ HV.out).mono ?_; rintro e w' ⟨rfl, rfl⟩; rw [HA.out])
      | (go_at_call 59; refine (isTorque_any _ _).mono ?_; rintro e w' ⟨rfl, rfl⟩; rw [HB.out]))
    go_ret2
    exact ⟨NextBolt_e_of (NextBolt_bad HC.out (by decide)), Below.refl _ _⟩
  have HC : Hid (readCode xs t = 0) := Lib.hid (by unfold readCode; rw [hA, hB]; rfl)
  have HA := Lib.hid hA
  have HB := Lib.hid hB
  have hlen := areReadings_len hA
  obtain ⟨hl1, hl2⟩ := hlen
  obtain ⟨b, off, rfl, hbl, hcell⟩ := hc (by omega)
  clear hA hB hc
  go_enter Try.func33, Try.ntmps33
  go_wp2_with (first
    | (go_at_call 17; refine (iAreReadings_any _ xs _ HV.out).mono ?_; rintro e w' ⟨rfl, rfl⟩; rw [HA.out])
    | (go_at_call 59; refine (isTorque_any _ _).mono ?_; rintro e w' ⟨rfl, rfl⟩; rw [HB.out]))
  refine (starOrder_any xs.length w (by omega) (by omega)).mono ?_
  rintro e w1 ⟨u, rfl, ho, hb⟩
  obtain ⟨hsl, hst⟩ := star_at hl1 hl2
  have hbig : (star xs.length).length ≤ 1048576 := by omega
  obtain ⟨A2, cap2, rfl, _, _, hc2⟩ := Ints.shape (Sl.of_own ho (big_of hbig))
  obtain ⟨b2, off2, rfl, _, hcell2⟩ := hc2 (by omega)
  have HX := Lib.hid (fun (k : Nat) (hk : k < xs.length) => (hb.cell (p := ⟨b, off + k, none⟩) hbl).trans (hcell k hk))
  have HB1 := Lib.hid hb
  have HN := Lib.hid (fun h => NextBolt_none (xs := xs) (t := t) HC.out h)
  have HO := Lib.hid (fun (k : Nat) (hk : k < (star xs.length).length) h1 h2 => NextBolt_some (xs := xs) (t := t) HC.out (k := k) hk h1 h2)
  have HT := Lib.hid hst
  have HC2 := Lib.hid hcell2
  clear hcell hc2 hcell2 hb ho hst
  generalize star xs.length = L at *
  rw [hsl]
  go_wp2
  go_loop [18] (fun i => ∃ k : Nat, k ≤ xs.length ∧ i = .int .i64 k ∧ Hid ((L.take k).any (loose xs t) = false)) (fun i => xs.length - (intOf i).toNat)
  case atStart => exact ⟨0, Nat.zero_le _, rfl, Lib.hid rfl⟩
  case round =>
    obtain ⟨k, hk, rfl, HS⟩ := hrel
    by_cases hlt : k < xs.length
    · have hkL : k < L.length := by omega
      obtain ⟨q, hq, hq2⟩ := HT.out k hkL
      have c2 := HC2.out k hkL
      have c1 := HX.out q hq2
      rw [hq] at c2
      have HE : Hid (loose xs t L[k] = decide (xs[q] < t)) := Lib.hid (by unfold loose; rw [hq, Int.toNat_natCast]; simp [hq2])
      have HQ := Lib.hid hq
      clear hq
      rcases hx : decide (xs[q] < t)
      · have HXX := Lib.hid hx
        go_wp2
        go_round
        case rel => exact ⟨k + 1, by omega, by go_num, Lib.hid (any_take_succ k hkL HS.out (by rw [HE.out]; exact HXX.out))⟩
        case measure => simp [intOf]; omega
      · have HXX := Lib.hid hx
        go_wp2
        go_ret2
        exact ⟨NextBolt_e_of (by rw [HO.out k hkL HS.out (by rw [HE.out]; exact HXX.out), HQ.out]), HB1.out⟩
    · obtain rfl : k = xs.length := by omega
      go_wp2
      go_ret2
      exact ⟨NextBolt_e_of (HN.out (any_of_take _ (by omega) HS.out)), HB1.out⟩
set_option maxHeartbeats 4000000 in
theorem sNextBolt_any (v : Value) (xs : List Int) (t : Int) (w : World) (hv : Ints w v xs) :
    Calls Try.prog 32 #[v, .int .i64 t] w fun e w' => e = NextBolt_e xs t ∧ Below w.heap.size w w' := by
  have HV := Lib.hid hv
  obtain ⟨A, cap, rfl, _, hm, hc⟩ := Ints.shape hv
  clear hv
  by_cases hC : readCode xs t = 0
  rotate_left
  · have HC := Lib.hid hC
    have hne : (readCode xs t != 0) = true := by rw [bne_iff_ne]; exact hC
    clear hC hc
    go_enter Try.func32, Try.ntmps32
    go_wp2_with (go_at_call 56; refine (l26Readings_any _ xs _ _ HV.out).mono ?_; rintro e w' ⟨rfl, rfl⟩)
    go_ret2
    exact ⟨NextBolt_e_of (NextBolt_bad rfl HC.out), Below.refl _ _⟩
  have hA : areReadings xs = true := by
    rcases h : areReadings xs
    · unfold readCode at hC; rw [h] at hC; cases hC
    · rfl
  have HC := Lib.hid hC
  have hlen := areReadings_len hA
  obtain ⟨hl1, hl2⟩ := hlen
  obtain ⟨b, off, rfl, hbl, hcell⟩ := hc (by omega)
  clear hA hC hc
  go_enter Try.func32, Try.ntmps32
  go_wp2_with (go_at_call 56; refine (l26Readings_any _ xs _ _ HV.out).mono ?_; rintro e w' ⟨rfl, rfl⟩; rw [HC.out])
  refine (l26Star_any xs.length w (by omega) (by omega)).mono ?_
  rintro e w1 ⟨u, rfl, ho, hb⟩
  obtain ⟨hsl, hst⟩ := star_at hl1 hl2
  have hbig : (star xs.length).length ≤ 1048576 := by omega
  obtain ⟨A2, cap2, rfl, _, _, hc2⟩ := Ints.shape (Sl.of_own ho (big_of hbig))
  obtain ⟨b2, off2, rfl, _, hcell2⟩ := hc2 (by omega)
  have HX := Lib.hid (fun (k : Nat) (hk : k < xs.length) => (hb.cell (p := ⟨b, off + k, none⟩) hbl).trans (hcell k hk))
  have HB1 := Lib.hid hb
  have HN := Lib.hid (fun h => NextBolt_none (xs := xs) (t := t) HC.out h)
  have HO := Lib.hid (fun (k : Nat) (hk : k < (star xs.length).length) h1 h2 => NextBolt_some (xs := xs) (t := t) HC.out (k := k) hk h1 h2)
  have HT := Lib.hid hst
  have HC2 := Lib.hid hcell2
  clear hcell hc2 hcell2 hb ho hst
  generalize star xs.length = L at *
  go_wp2
  go_loop [8] (fun i => ∃ k : Nat, k ≤ xs.length ∧ i = .int .i64 k ∧ Hid ((L.take k).any (loose xs t) = false)) (fun i => xs.length - (intOf i).toNat)
  case atStart => exact ⟨0, Nat.zero_le _, rfl, Lib.hid rfl⟩
  case round =>
    obtain ⟨k, hk, rfl, HS⟩ := hrel
    by_cases hlt : k < xs.length
    · have hkL : k < L.length := by omega
      have hkL2 : (k : Int) < (L.length : Int) := by omega
      obtain ⟨q, hq, hq2⟩ := HT.out k hkL
      have c2 := HC2.out k hkL
      have c1 := HX.out q hq2
      rw [hq] at c2
      have HE : Hid (loose xs t L[k] = decide (xs[q] < t)) := Lib.hid (by unfold loose; rw [hq, Int.toNat_natCast]; simp [hq2])
      have HQ := Lib.hid hq
      clear hq
      rcases hx : decide (xs[q] < t)
      · have HXX := Lib.hid hx
        go_wp2
        go_round
        case rel => exact ⟨k + 1, by omega, by go_num, Lib.hid (any_take_succ k hkL HS.out (by rw [HE.out]; exact HXX.out))⟩
        case measure => simp [intOf]; omega
      · have HXX := Lib.hid hx
        go_wp2
        go_ret2
        exact ⟨NextBolt_e_of (by rw [HO.out k hkL HS.out (by rw [HE.out]; exact HXX.out), HQ.out]), HB1.out⟩
    · obtain rfl : k = xs.length := by omega
      have hkL2 : ¬ (xs.length : Int) < (L.length : Int) := by omega
      go_wp2
      go_ret2
      exact ⟨NextBolt_e_of (HN.out (any_of_take _ (by omega) HS.out)), HB1.out⟩

theorem iNextBolt_law (v : Value) (xs : List Int) (t : Int) (w : World) (hv : Ints w v xs) (_ : xs.length ≤ 1048576) (_ : (Lit.int .i64 t).wf = true) :
    Calls Try.prog 33 #[v, .int .i64 t] w fun e w' => e = .returned (.tuple #[.int .i64 (NextBolt_r xs t).1, .int .i64 (NextBolt_r xs t).2]) ∧ Below w.heap.size w w' := iNextBolt_any v xs t w hv
theorem sNextBolt_law (v : Value) (xs : List Int) (t : Int) (w : World) (hv : Ints w v xs) (_ : xs.length ≤ 1048576) (_ : (Lit.int .i64 t).wf = true) :
    Calls Try.prog 32 #[v, .int .i64 t] w fun e w' => e = .returned (.tuple #[.int .i64 (NextBolt_r xs t).1, .int .i64 (NextBolt_r xs t).2]) ∧ Below w.heap.size w w' := sNextBolt_any v xs t w hv
end Go.Proofs.Ytijmafppdbllfaa
