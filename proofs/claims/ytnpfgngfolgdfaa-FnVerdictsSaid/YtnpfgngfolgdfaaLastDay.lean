/- Contracts of LastDay (chapter 28). No statement of the seat is proved here. -/
import Derived.Test.YtnpfgngfolgdfaaAreTerms
import Derived.Test.YtnpfgngfolgdfaaClaims
namespace Go.Proofs.Ytnpfgngfolgdfaa
open Go.RowKit

theorem areTerms_at {xs : List Term} (h : areTerms xs = true) (k : Nat) (hk : k < xs.length) : xs.length ≤ 10 ∧ isWord xs[k].part = true ∧ 1 ≤ xs[k].days ∧ xs[k].days ≤ 10000 ∧ 1 ≤ xs[k].tens ∧ xs[k].tens ≤ 10000000 ∧ 1 ≤ xs[k].claims ∧ xs[k].claims ≤ 20 ∧ (xs.take k).any (isPart xs[k].part) = false := by
  unfold areTerms at h
  rw [Bool.and_eq_true, decide_eq_true_eq, List.all_eq_true] at h
  have h2 := h.2 k (List.mem_range.2 hk)
  unfold termOk termB at h2
  rw [getD_at _ _ _ hk] at h2
  simp only [Bool.and_eq_true, inR_iff, Bool.not_eq_true'] at h2
  exact ⟨h.1, h2.1.1.1.1, h2.1.1.1.2.1, h2.1.1.1.2.2, h2.1.1.2.1, h2.1.1.2.2, h2.1.2.1, h2.1.2.2, h2.2⟩
def LastDay_r (xs : List Term) (s : ByteArray) (d : Int) : Int × Int :=
  if areTerms xs then
    if isWord s then
      if inR d 0 100000 then
        if firstAt (isPart s) xs < 0 then (0, 4) else (min 100000 (d + (xs.getD (firstAt (isPart s) xs).toNat zTerm).days), 0)
      else (0, 2)
    else (0, 1)
  else (0, 1)
abbrev LastDay_e (xs : List Term) (s : ByteArray) (d : Int) : Ending := .returned (.tuple #[.int .i64 (LastDay_r xs s d).1, .int .i64 (LastDay_r xs s d).2])
theorem LastDay_e_of {xs : List Term} {s : ByteArray} {d a b : Int} (h : LastDay_r xs s d = (a, b)) : Ending.returned (.tuple #[.int .i64 a, .int .i64 b]) = LastDay_e xs s d := by unfold LastDay_e; rw [h]
set_option maxHeartbeats 4000000 in
set_option maxRecDepth 20000 in
theorem iLastDay_any (v : Value) (xs : List Term) (s : ByteArray) (d : Int) (w : World) (hv : Sl eTerm w v xs) (hq : ∀ x ∈ xs, okTerm x) (hs : s.size ≤ 9223372036854775807) :
    Calls Try.prog 28 #[v, .string s, .int .i64 d] w fun e w' => e = LastDay_e xs s d ∧ Below w.heap.size w w' := by
  have HV := Lib.hid hv
  obtain ⟨A, cap, rfl, _, hm, hc⟩ := hv.shape
  clear hv
  rcases hA : areTerms xs
  · have HA := Lib.hid hA
    clear hA hc
    go_enter Try.func28, Try.ntmps28
    go_wp2_with fail
    refine (iAreTerms_any _ xs w HV.out hq).mono ?_
    rintro e w1 ⟨rfl, hb0⟩
    rw [HA.out]
    go_wp2
    go_ret2
    exact ⟨LastDay_e_of (by unfold LastDay_r; rw [HA.out]; rfl), hb0⟩
  rcases hW : isWord s
  · have HA := Lib.hid hA
    have HW := Lib.hid hW
    clear hA hW hc
    go_enter Try.func28, Try.ntmps28
    go_wp2_with fail
    refine (iAreTerms_any _ xs w HV.out hq).mono ?_
    rintro e w1 ⟨rfl, hb0⟩
    rw [HA.out]
    go_wp2_with (go_at_call 61; refine (iIsWord_eq hs HW.out _).mono ?_; rintro e w' ⟨rfl, rfl⟩)
    go_ret2
    exact ⟨LastDay_e_of (by unfold LastDay_r; rw [HA.out, HW.out]; rfl), hb0⟩
  rcases hD : inR d 0 100000
  · have HA := Lib.hid hA
    have HW := Lib.hid hW
    have HD := Lib.hid hD
    clear hA hW hD hc
    go_enter Try.func28, Try.ntmps28
    go_wp2_with fail
    refine (iAreTerms_any _ xs w HV.out hq).mono ?_
    rintro e w1 ⟨rfl, hb0⟩
    rw [HA.out]
    go_wp2_with (first | (go_at_call 61; refine (iIsWord_eq hs HW.out _).mono ?_; rintro e w' ⟨rfl, rfl⟩) | (go_at_call 62; refine (isDate_eq HD.out _).mono ?_; rintro e w' ⟨rfl, rfl⟩))
    go_ret2
    exact ⟨LastDay_e_of (by unfold LastDay_r; rw [HA.out, HW.out, HD.out]; rfl), hb0⟩
  have HA := Lib.hid hA
  have HW := Lib.hid hW
  have HD := Lib.hid hD
  clear hA hW hD
  go_enter Try.func28, Try.ntmps28
  go_wp2_with fail
  refine (iAreTerms_any _ xs w HV.out hq).mono ?_
  rintro e w1 ⟨rfl, hb0⟩
  rw [HA.out]
  have HV1 := Lib.hid (HV.out.below hb0)
  go_wp2_with (first | (go_at_call 61; refine (iIsWord_eq hs HW.out _).mono ?_; rintro e w' ⟨rfl, rfl⟩) | (go_at_call 62; refine (isDate_eq HD.out _).mono ?_; rintro e w' ⟨rfl, rfl⟩))
  refine (findTerm_any _ xs s w1 HV1.out).mono ?_
  rintro e w2 ⟨rfl, hb1⟩
  have HB := Lib.hid (Below.step hb0 hb1)
  have HB2 := Lib.hid hb1
  by_cases hj : firstAt (isPart s) xs < 0
  · have g : decide (firstAt (isPart s) xs < 0) = true := decide_eq_true hj
    have HJ := Lib.hid hj
    clear hc hj
    go_wp2
    go_ret2
    exact ⟨LastDay_e_of (by unfold LastDay_r; rw [HA.out, HW.out, HD.out, if_pos HJ.out]; rfl), HB.out⟩
  · obtain ⟨j, hjl, hj1, _, _⟩ := firstAt_get hj
    obtain ⟨h10, _, d1, d2, _, _, _, _, _⟩ := areTerms_at HA.out j hjl
    obtain ⟨b, off, rfl, hbl, hcell⟩ := hc (by omega)
    have hbb := HB.out
    have c0 : w2.cell? ⟨b, off + j * 4, none⟩ = some (.string xs[j].part) := (hbb.cell (p := ⟨b, off + j * 4, none⟩) hbl).trans (by simpa [eTerm, Nat.add_assoc] using hcell j hjl 0 _ (by decide) rfl)
    have c1 : w2.cell? ⟨b, off + j * 4 + 1, none⟩ = some (.int .i64 xs[j].days) := (hbb.cell (p := ⟨b, off + j * 4 + 1, none⟩) hbl).trans (by simpa [eTerm, Nat.add_assoc] using hcell j hjl 1 _ (by decide) rfl)
    have c2 : w2.cell? ⟨b, off + j * 4 + 2, none⟩ = some (.int .i64 xs[j].tens) := (hbb.cell (p := ⟨b, off + j * 4 + 2, none⟩) hbl).trans (by simpa [eTerm, Nat.add_assoc] using hcell j hjl 2 _ (by decide) rfl)
    have c3 : w2.cell? ⟨b, off + j * 4 + 3, none⟩ = some (.int .i64 xs[j].claims) := (hbb.cell (p := ⟨b, off + j * 4 + 3, none⟩) hbl).trans (by simpa [eTerm, Nat.add_assoc] using hcell j hjl 3 _ (by decide) rfl)
    have hdd := inR_iff.1 HD.out
    obtain ⟨d3, d4⟩ := hdd
    have HR : Hid (LastDay_r xs s d = (min 100000 (d + xs[j].days), 0)) := Lib.hid (by unfold LastDay_r; rw [HA.out, HW.out, HD.out, if_neg hj, hj1]; rw [Int.toNat_natCast, getD_at _ _ _ hjl]; rfl)
    rw [hj1]
    clear hc hcell hj hj1 hbb
    generalize xs[j].days = dd at *
    have hw : IntKind.i64.wrap (d + dd) = d + dd := IntWalk.i64_in _ (by omega)
    go_wp2
    all_goals
      go_ret2
      exact ⟨LastDay_e_of (by rw [HR.out]; exact Prod.ext (by simp only []; omega) rfl), HB.out⟩
set_option maxHeartbeats 4000000 in
set_option maxRecDepth 20000 in
theorem sLastDay_any (v : Value) (xs : List Term) (s : ByteArray) (d : Int) (w : World) (hv : Sl eTerm w v xs) (hq : ∀ x ∈ xs, okTerm x) (hs : s.size ≤ 9223372036854775807) :
    Calls Try.prog 27 #[v, .string s, .int .i64 d] w fun e w' => e = LastDay_e xs s d ∧ Below w.heap.size w w' := by
  have HV := Lib.hid hv
  obtain ⟨A, cap, rfl, _, hm, hc⟩ := hv.shape
  clear hv
  rcases hA : areTerms xs
  · have HA := Lib.hid hA
    clear hA hc
    go_enter Try.func27, Try.ntmps27
    go_wp2_with fail
    refine (sAreTerms_any _ xs w HV.out hq).mono ?_
    rintro e w1 ⟨rfl, hb0⟩
    rw [HA.out]
    go_wp2
    go_ret2
    exact ⟨LastDay_e_of (by unfold LastDay_r; rw [HA.out]; rfl), hb0⟩
  rcases hW : isWord s
  · have HA := Lib.hid hA
    have HW := Lib.hid hW
    clear hA hW hc
    go_enter Try.func27, Try.ntmps27
    go_wp2_with fail
    refine (sAreTerms_any _ xs w HV.out hq).mono ?_
    rintro e w1 ⟨rfl, hb0⟩
    rw [HA.out]
    go_wp2_with (go_at_call 59; refine (sIsWord_eq hs HW.out _).mono ?_; rintro e w' ⟨rfl, rfl⟩)
    go_ret2
    exact ⟨LastDay_e_of (by unfold LastDay_r; rw [HA.out, HW.out]; rfl), hb0⟩
  rcases hD : inR d 0 100000
  · have HA := Lib.hid hA
    have HW := Lib.hid hW
    have HD := Lib.hid hD
    clear hA hW hD hc
    go_enter Try.func27, Try.ntmps27
    go_wp2_with fail
    refine (sAreTerms_any _ xs w HV.out hq).mono ?_
    rintro e w1 ⟨rfl, hb0⟩
    rw [HA.out]
    go_wp2_with (first | (go_at_call 59; refine (sIsWord_eq hs HW.out _).mono ?_; rintro e w' ⟨rfl, rfl⟩) | (go_at_call 60; refine (l28Day_eq HD.out _).mono ?_; rintro e w' ⟨rfl, rfl⟩))
    go_ret2
    exact ⟨LastDay_e_of (by unfold LastDay_r; rw [HA.out, HW.out, HD.out]; rfl), hb0⟩
  have HA := Lib.hid hA
  have HW := Lib.hid hW
  have HD := Lib.hid hD
  clear hA hW hD
  go_enter Try.func27, Try.ntmps27
  go_wp2_with fail
  refine (sAreTerms_any _ xs w HV.out hq).mono ?_
  rintro e w1 ⟨rfl, hb0⟩
  rw [HA.out]
  have HV1 := Lib.hid (HV.out.below hb0)
  go_wp2_with (first | (go_at_call 59; refine (sIsWord_eq hs HW.out _).mono ?_; rintro e w' ⟨rfl, rfl⟩) | (go_at_call 60; refine (l28Day_eq HD.out _).mono ?_; rintro e w' ⟨rfl, rfl⟩))
  refine (l28Find_any _ xs s w1 HV1.out).mono ?_
  rintro e w2 ⟨rfl, rfl⟩
  have HB := Lib.hid hb0
  have HB2 := Lib.hid (Below.refl w1.heap.size w1)
  by_cases hj : firstAt (isPart s) xs < 0
  · have g : decide (firstAt (isPart s) xs < 0) = true := decide_eq_true hj
    have HJ := Lib.hid hj
    clear hc hj
    go_wp2
    go_ret2
    exact ⟨LastDay_e_of (by unfold LastDay_r; rw [HA.out, HW.out, HD.out, if_pos HJ.out]; rfl), HB.out⟩
  · obtain ⟨j, hjl, hj1, _, _⟩ := firstAt_get hj
    obtain ⟨h10, _, d1, d2, _, _, _, _, _⟩ := areTerms_at HA.out j hjl
    obtain ⟨b, off, rfl, hbl, hcell⟩ := hc (by omega)
    have hbb := HB.out
    have c0 : w1.cell? ⟨b, off + j * 4, none⟩ = some (.string xs[j].part) := (hbb.cell (p := ⟨b, off + j * 4, none⟩) hbl).trans (by simpa [eTerm, Nat.add_assoc] using hcell j hjl 0 _ (by decide) rfl)
    have c1 : w1.cell? ⟨b, off + j * 4 + 1, none⟩ = some (.int .i64 xs[j].days) := (hbb.cell (p := ⟨b, off + j * 4 + 1, none⟩) hbl).trans (by simpa [eTerm, Nat.add_assoc] using hcell j hjl 1 _ (by decide) rfl)
    have c2 : w1.cell? ⟨b, off + j * 4 + 2, none⟩ = some (.int .i64 xs[j].tens) := (hbb.cell (p := ⟨b, off + j * 4 + 2, none⟩) hbl).trans (by simpa [eTerm, Nat.add_assoc] using hcell j hjl 2 _ (by decide) rfl)
    have c3 : w1.cell? ⟨b, off + j * 4 + 3, none⟩ = some (.int .i64 xs[j].claims) := (hbb.cell (p := ⟨b, off + j * 4 + 3, none⟩) hbl).trans (by simpa [eTerm, Nat.add_assoc] using hcell j hjl 3 _ (by decide) rfl)
    have hdd := inR_iff.1 HD.out
    obtain ⟨d3, d4⟩ := hdd
    have HR : Hid (LastDay_r xs s d = (min 100000 (d + xs[j].days), 0)) := Lib.hid (by unfold LastDay_r; rw [HA.out, HW.out, HD.out, if_neg hj, hj1]; rw [Int.toNat_natCast, getD_at _ _ _ hjl]; rfl)
    rw [hj1]
    clear hc hcell hj hj1 hbb
    generalize xs[j].days = dd at *
    have hw : IntKind.i64.wrap (d + dd) = d + dd := IntWalk.i64_in _ (by omega)
    go_wp2
    all_goals
      go_ret2
      exact ⟨LastDay_e_of (by rw [HR.out]; exact Prod.ext (by simp only []; omega) rfl), HB.out⟩
theorem iLastDay_law (v : Value) (xs : List Term) (s : ByteArray) (d : Int) (w : World) (hv : Sl eTerm w v xs) (_ : xs.length ≤ 1048576) (hq : ∀ x ∈ xs, okTerm x) (hs : s.size ≤ 1048576) (_ : (Lit.int .i64 d).wf = true) :
    Calls Try.prog 28 #[v, .string s, .int .i64 d] w fun e w' => e = .returned (.tuple #[.int .i64 (LastDay_r xs s d).1, .int .i64 (LastDay_r xs s d).2]) ∧ Below w.heap.size w w' := iLastDay_any v xs s d w hv hq (by omega)
theorem sLastDay_law (v : Value) (xs : List Term) (s : ByteArray) (d : Int) (w : World) (hv : Sl eTerm w v xs) (_ : xs.length ≤ 1048576) (hq : ∀ x ∈ xs, okTerm x) (hs : s.size ≤ 1048576) (_ : (Lit.int .i64 d).wf = true) :
    Calls Try.prog 27 #[v, .string s, .int .i64 d] w fun e w' => e = .returned (.tuple #[.int .i64 (LastDay_r xs s d).1, .int .i64 (LastDay_r xs s d).2]) ∧ Below w.heap.size w w' := sLastDay_any v xs s d w hv hq (by omega)
end Go.Proofs.Ytnpfgngfolgdfaa
