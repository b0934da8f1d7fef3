/- Contracts of ClaimsLeft (chapter 28). No statement of the seat is proved here. -/
import Derived.Test.YtnpfgngfolgdfaaVerdCode
namespace Go.Proofs.Ytnpfgngfolgdfaa
open Go.RowKit

def ClaimsLeft_r (T : List Term) (C : List Claim) (s : ByteArray) : Int × Int :=
  if bothB T C && isWord s then (if firstAt (isPart s) T < 0 then (0, 4) else ((T.getD (firstAt (isPart s) T).toNat zTerm).claims - cntG T C C.length s, 0)) else (0, 1)
theorem ClaimsLeft_bad (s : ByteArray) {T : List Term} {C : List Claim} (h : bothB T C = false) : ClaimsLeft_r T C s = (0, 1) := by unfold ClaimsLeft_r; rw [h]; rfl
theorem ClaimsLeft_word {s : ByteArray} {T : List Term} {C : List Claim} (h : isWord s = false) : ClaimsLeft_r T C s = (0, 1) := by unfold ClaimsLeft_r; rw [h]; simp
theorem ClaimsLeft_none {s : ByteArray} {T : List Term} {C : List Claim} (h : bothB T C = true) (h2 : isWord s = true) (h3 : firstAt (isPart s) T < 0) : ClaimsLeft_r T C s = (0, 4) := by unfold ClaimsLeft_r; rw [h, h2, if_pos h3]; rfl
theorem ClaimsLeft_some {s : ByteArray} {T : List Term} {C : List Claim} (h : bothB T C = true) (h2 : isWord s = true) {j : Nat} (hj : j < T.length) (h3 : firstAt (isPart s) T = (j : Int)) : ClaimsLeft_r T C s = (T[j].claims - cntG T C C.length s, 0) := by
  unfold ClaimsLeft_r; rw [if_pos (by rw [h, h2]; rfl), h3, if_neg (by omega), Int.toNat_natCast, getD_at _ _ _ hj]
abbrev ClaimsLeft_e (T : List Term) (C : List Claim) (s : ByteArray) : Ending := .returned (.tuple #[.int .i64 (ClaimsLeft_r T C s).1, .int .i64 (ClaimsLeft_r T C s).2])
theorem ClaimsLeft_e_of {T : List Term} {C : List Claim} {s : ByteArray} {a b : Int} (h : ClaimsLeft_r T C s = (a, b)) : Ending.returned (.tuple #[.int .i64 a, .int .i64 b]) = ClaimsLeft_e T C s := by unfold ClaimsLeft_e; rw [h]
set_option maxHeartbeats 4000000 in
set_option maxRecDepth 20000 in
theorem iClaimsLeft_law (v : Value) (T : List Term) (u : Value) (C : List Claim) (s : ByteArray) (w : World) (hv : Sl eTerm w v T) (_ : T.length ≤ 1048576) (hqT : ∀ x ∈ T, okTerm x) (hu : Sl eClaim w u C) (_ : C.length ≤ 1048576) (hqC : ∀ x ∈ C, okClaim x) (hs : s.size ≤ 1048576) :
    Calls Try.prog 36 #[v, u, .string s] w fun e w' => e = ClaimsLeft_e T C s ∧ Below w.heap.size w w' := by
  rcases hA : areTerms T
  · have HR := Lib.hid (ClaimsLeft_bad s (bothB_1 (C := C) hA))
    have HA := Lib.hid hA
    clear hA
    go_enter Try.func36, Try.ntmps36
    go_wp2_with fail
    refine (iAreTerms_any v T w hv hqT).mono ?_
    rintro e w1 ⟨rfl, hb⟩
    rw [HA.out]
    go_wp2
    go_ret2
    exact ⟨ClaimsLeft_e_of HR.out, hb⟩
  rcases hC : areClaims C
  · have HR := Lib.hid (ClaimsLeft_bad s (bothB_2 (T := T) hC))
    have HA := Lib.hid hA
    have HC := Lib.hid hC
    clear hA hC
    go_enter Try.func36, Try.ntmps36
    go_wp2_with fail
    refine (iAreTerms_any v T w hv hqT).mono ?_
    rintro e w1 ⟨rfl, hb⟩
    rw [HA.out]
    have hu1 := hu.below hb
    go_wp2_with fail
    refine (iAreClaims_any u C w1 hu1 hqC).mono ?_
    rintro e w2 ⟨rfl, hb2⟩
    rw [HC.out]
    go_wp2
    go_ret2
    exact ⟨ClaimsLeft_e_of HR.out, Below.step hb hb2⟩
  rcases hW : isWord s
  · have HR := Lib.hid (ClaimsLeft_word (T := T) (C := C) hW)
    have HA := Lib.hid hA
    have HC := Lib.hid hC
    have HW := Lib.hid hW
    have hs2 : s.size ≤ 9223372036854775807 := by omega
    clear hA hC hW
    go_enter Try.func36, Try.ntmps36
    go_wp2_with fail
    refine (iAreTerms_any v T w hv hqT).mono ?_
    rintro e w1 ⟨rfl, hb⟩
    rw [HA.out]
    have hu1 := hu.below hb
    go_wp2_with fail
    refine (iAreClaims_any u C w1 hu1 hqC).mono ?_
    rintro e w2 ⟨rfl, hb2⟩
    rw [HC.out]
    go_wp2_with fail
    refine (iIsWord_eq hs2 HW.out _).mono ?_
    rintro e w3 ⟨rfl, rfl⟩
    go_wp2
    go_ret2
    exact ⟨ClaimsLeft_e_of HR.out, Below.step hb hb2⟩
  by_cases hj : firstAt (isPart s) T < 0
  · have HR := Lib.hid (ClaimsLeft_none (bothB_ok hA hC) hW hj)
    have g : decide (firstAt (isPart s) T < 0) = true := decide_eq_true hj
    have HA := Lib.hid hA
    have HC := Lib.hid hC
    have HW := Lib.hid hW
    have hs2 : s.size ≤ 9223372036854775807 := by omega
    clear hA hC hW hj
    go_enter Try.func36, Try.ntmps36
    go_wp2_with fail
    refine (iAreTerms_any v T w hv hqT).mono ?_
    rintro e w1 ⟨rfl, hb⟩
    rw [HA.out]
    have hu1 := hu.below hb
    go_wp2_with fail
    refine (iAreClaims_any u C w1 hu1 hqC).mono ?_
    rintro e w2 ⟨rfl, hb2⟩
    rw [HC.out]
    go_wp2_with fail
    refine (iIsWord_eq hs2 HW.out _).mono ?_
    rintro e w3 ⟨rfl, rfl⟩
    go_wp2_with fail
    have hv2 := (hv.below hb).below hb2
    refine (findTerm_any _ T s w2 hv2).mono ?_
    rintro e w3 ⟨rfl, hb3⟩
    go_wp2
    go_ret2
    exact ⟨ClaimsLeft_e_of HR.out, Below.step (Below.step hb hb2) hb3⟩
  · obtain ⟨j, hjl, hj1, hj2, hj3⟩ := firstAt_get hj
    have HR := Lib.hid (ClaimsLeft_some (bothB_ok hA hC) hW hjl hj1)
    have HJ1 := Lib.hid hj1
    have HPE : Hid (cntG T C C.length T[j].part = cntG T C C.length s) := Lib.hid (cntG_congr T C (isPart_iff.1 hj2) _)
    obtain ⟨h10, _, t1, t2, t3, t4, t5, t6, _⟩ := areTerms_at hA j hjl
    have h20 := (areClaims_at hC).1
    obtain ⟨q0, q1⟩ := cntG_bd T C C.length s
    have HA := Lib.hid hA
    have HC := Lib.hid hC
    have HW := Lib.hid hW
    have hs2 : s.size ≤ 9223372036854775807 := by omega
    clear hA hC hW hj hj1 hj2 hj3
    go_enter Try.func36, Try.ntmps36
    go_wp2_with fail
    refine (iAreTerms_any v T w hv hqT).mono ?_
    rintro e w1 ⟨rfl, hb⟩
    rw [HA.out]
    have hu1 := hu.below hb
    go_wp2_with fail
    refine (iAreClaims_any u C w1 hu1 hqC).mono ?_
    rintro e w2 ⟨rfl, hb2⟩
    rw [HC.out]
    go_wp2_with fail
    refine (iIsWord_eq hs2 HW.out _).mono ?_
    rintro e w3 ⟨rfl, rfl⟩
    go_wp2_with fail
    have hv2 := (hv.below hb).below hb2
    refine (findTerm_any _ T s w2 hv2).mono ?_
    rintro e w3 ⟨rfl, hb3⟩
    rw [HJ1.out]
    go_wp2_with fail
    refine (verdictsOf_any v T u C w3 (hv2.below hb3) ((hu1.below hb2).below hb3) HA.out HC.out).mono ?_
    rintro e w4 ⟨x, y, rfl, hx, hy, hb4⟩
    have hv4 := (hv2.below hb3).below hb4
    obtain ⟨A, cap, rfl, _, hm, hc⟩ := hv4.shape
    obtain ⟨b2, off2, rfl, hbl2, hcell2⟩ := hc (by omega)
    have hbb := Below.refl w4.heap.size w4
    have x0 : w4.cell? ⟨b2, off2 + j * 4, none⟩ = some (.string T[j].part) := (hbb.cell (p := ⟨b2, off2 + j * 4, none⟩) hbl2).trans (by simpa [eTerm, Nat.add_assoc] using hcell2 j hjl 0 _ (by decide) rfl)
    have x1 : w4.cell? ⟨b2, off2 + j * 4 + 1, none⟩ = some (.int .i64 T[j].days) := (hbb.cell (p := ⟨b2, off2 + j * 4 + 1, none⟩) hbl2).trans (by simpa [eTerm, Nat.add_assoc] using hcell2 j hjl 1 _ (by decide) rfl)
    have x2 : w4.cell? ⟨b2, off2 + j * 4 + 2, none⟩ = some (.int .i64 T[j].tens) := (hbb.cell (p := ⟨b2, off2 + j * 4 + 2, none⟩) hbl2).trans (by simpa [eTerm, Nat.add_assoc] using hcell2 j hjl 2 _ (by decide) rfl)
    have x3 : w4.cell? ⟨b2, off2 + j * 4 + 3, none⟩ = some (.int .i64 T[j].claims) := (hbb.cell (p := ⟨b2, off2 + j * 4 + 3, none⟩) hbl2).trans (by simpa [eTerm, Nat.add_assoc] using hcell2 j hjl 3 _ (by decide) rfl)
    have hys := Ints.shapeL (Sl.of_own hy (by rw [grL_len]; unfold big40; omega)) (grL_len T C C.length)
    obtain ⟨A5, cap5, rfl, _, _, hc5⟩ := hys
    obtain ⟨b5, off5, rfl, hbl5, hcell5⟩ := hc5 (by omega)
    have gx := hcell5 j hjl
    rw [grL_at hjl, HPE.out] at gx
    have HBF := Lib.hid (Below.step (Below.step (Below.step hb hb2) hb3) hb4)
    clear hbb hc hcell2 hc5 hcell5 hb hb2 hb3 hb4 hx hy hv hu hu1 hv2 hv4
    generalize cntG T C C.length s = gk at *
    generalize T[j] = y at *
    obtain ⟨yp, yd, yt, yc⟩ := y
    simp only at *
    have hw1 : IntKind.i64.wrap (yc - gk) = yc - gk := IntWalk.i64_in _ (by omega)
    go_wp2
    go_quiet (fail)
    go_wp2
    go_ret2
    exact ⟨ClaimsLeft_e_of HR.out, below_drewN' HBF.out _⟩
set_option maxHeartbeats 4000000 in
set_option maxRecDepth 20000 in
theorem sClaimsLeft_law (v : Value) (T : List Term) (u : Value) (C : List Claim) (s : ByteArray) (w : World) (hv : Sl eTerm w v T) (_ : T.length ≤ 1048576) (hqT : ∀ x ∈ T, okTerm x) (hu : Sl eClaim w u C) (_ : C.length ≤ 1048576) (hqC : ∀ x ∈ C, okClaim x) (hs : s.size ≤ 1048576) :
    Calls Try.prog 35 #[v, u, .string s] w fun e w' => e = ClaimsLeft_e T C s ∧ Below w.heap.size w w' := by
  rcases hA : bothB T C
  · have HR := Lib.hid (ClaimsLeft_bad s hA)
    have HC := Lib.hid (bothCode_1 hA)
    clear hA
    have hs2 : s.size ≤ 9223372036854775807 := by omega
    go_enter Try.func35, Try.ntmps35
    go_wp2_with fail
    refine (l28Code_any v T u C w hv hqT hu hqC).mono ?_
    rintro e w1 ⟨rfl, hb⟩
    rw [HC.out]
    go_wp2_with fail
    refine (l28Find_any _ T s w1 (hv.below hb)).mono ?_
    rintro e w2 ⟨rfl, rfl⟩
    go_wp2
    go_ret2
    exact ⟨ClaimsLeft_e_of HR.out, hb⟩
  rcases hW : isWord s
  · have HR := Lib.hid (ClaimsLeft_word (T := T) (C := C) hW)
    have HC := Lib.hid (bothCode_0 hA)
    have HW := Lib.hid hW
    clear hA hW
    have hs2 : s.size ≤ 9223372036854775807 := by omega
    go_enter Try.func35, Try.ntmps35
    go_wp2_with fail
    refine (l28Code_any v T u C w hv hqT hu hqC).mono ?_
    rintro e w1 ⟨rfl, hb⟩
    rw [HC.out]
    go_wp2_with fail
    refine (sIsWord_eq hs2 HW.out _).mono ?_
    rintro e w2 ⟨rfl, rfl⟩
    go_wp2_with fail
    refine (l28Find_any _ T s w1 (hv.below hb)).mono ?_
    rintro e w2 ⟨rfl, rfl⟩
    go_wp2
    go_ret2
    exact ⟨ClaimsLeft_e_of HR.out, hb⟩
  by_cases hj : firstAt (isPart s) T < 0
  · have HR := Lib.hid (ClaimsLeft_none hA hW hj)
    have HC := Lib.hid (bothCode_0 hA)
    have HW := Lib.hid hW
    have g : decide (firstAt (isPart s) T < 0) = true := decide_eq_true hj
    clear hA hW hj
    have hs2 : s.size ≤ 9223372036854775807 := by omega
    go_enter Try.func35, Try.ntmps35
    go_wp2_with fail
    refine (l28Code_any v T u C w hv hqT hu hqC).mono ?_
    rintro e w1 ⟨rfl, hb⟩
    rw [HC.out]
    go_wp2_with fail
    refine (sIsWord_eq hs2 HW.out _).mono ?_
    rintro e w2 ⟨rfl, rfl⟩
    go_wp2_with fail
    refine (l28Find_any _ T s w1 (hv.below hb)).mono ?_
    rintro e w2 ⟨rfl, rfl⟩
    go_wp2
    go_ret2
    exact ⟨ClaimsLeft_e_of HR.out, hb⟩
  · obtain ⟨j, hjl, hj1, hj2, hj3⟩ := firstAt_get hj
    obtain ⟨hA1, hT1⟩ := bothB_of hA
    have HR := Lib.hid (ClaimsLeft_some hA hW hjl hj1)
    have HC := Lib.hid (bothCode_0 hA)
    have HW := Lib.hid hW
    have HJ1 := Lib.hid hj1
    obtain ⟨h10, _, t1, t2, t3, t4, t5, t6, _⟩ := areTerms_at hA1 j hjl
    have h20 := (areClaims_at hT1).1
    obtain ⟨q0, q1⟩ := cntG_bd T C C.length s
    have HA := Lib.hid hA1
    have HT := Lib.hid hT1
    clear hA hA1 hT1 hW hj hj1 hj2 hj3
    have hs2 : s.size ≤ 9223372036854775807 := by omega
    go_enter Try.func35, Try.ntmps35
    go_wp2_with fail
    refine (l28Code_any v T u C w hv hqT hu hqC).mono ?_
    rintro e w1 ⟨rfl, hb⟩
    rw [HC.out]
    go_wp2_with fail
    refine (sIsWord_eq hs2 HW.out _).mono ?_
    rintro e w2 ⟨rfl, rfl⟩
    go_wp2_with fail
    refine (l28Find_any _ T s w1 (hv.below hb)).mono ?_
    rintro e w2 ⟨rfl, rfl⟩
    rw [HJ1.out]
    have hv1 := hv.below hb
    have HV1 := Lib.hid hv1
    have HU1 := Lib.hid (hu.below hb)
    obtain ⟨A, cap, rfl, _, hm, hc⟩ := hv1.shape
    obtain ⟨b2, off2, rfl, hbl2, hcell2⟩ := hc (by omega)
    have hbb := Below.refl w1.heap.size w1
    have x0 : w1.cell? ⟨b2, off2 + j * 4, none⟩ = some (.string T[j].part) := (hbb.cell (p := ⟨b2, off2 + j * 4, none⟩) hbl2).trans (by simpa [eTerm, Nat.add_assoc] using hcell2 j hjl 0 _ (by decide) rfl)
    have x1 : w1.cell? ⟨b2, off2 + j * 4 + 1, none⟩ = some (.int .i64 T[j].days) := (hbb.cell (p := ⟨b2, off2 + j * 4 + 1, none⟩) hbl2).trans (by simpa [eTerm, Nat.add_assoc] using hcell2 j hjl 1 _ (by decide) rfl)
    have x2 : w1.cell? ⟨b2, off2 + j * 4 + 2, none⟩ = some (.int .i64 T[j].tens) := (hbb.cell (p := ⟨b2, off2 + j * 4 + 2, none⟩) hbl2).trans (by simpa [eTerm, Nat.add_assoc] using hcell2 j hjl 2 _ (by decide) rfl)
    have x3 : w1.cell? ⟨b2, off2 + j * 4 + 3, none⟩ = some (.int .i64 T[j].claims) := (hbb.cell (p := ⟨b2, off2 + j * 4 + 3, none⟩) hbl2).trans (by simpa [eTerm, Nat.add_assoc] using hcell2 j hjl 3 _ (by decide) rfl)
    have hcall : ∀ x W, Own eI W w1.heap.size 2 x (verdL T C C.length) → Below w1.heap.size w1 W → Calls Try.prog 72 #[u, x, .string s] W fun e w' => e = .returned (.int .i64 (cntG T C C.length s)) ∧ W = w' := fun x W hx hbW => by
      have h := l28Granted_any u C x (verdL T C C.length) s W (HU1.out.below hbW) (Sl.of_own hx (by rw [verdL_len]; unfold big40; omega)) (by rw [verdL_len]; omega)
      rw [verdL_len, grantN_cnt T C s C.length C.length (Nat.le_refl _)] at h
      exact h
    have HCALL := Lib.hid hcall
    have HB := Lib.hid hb
    clear hcall hbb hc hcell2 hb hv hu hv1
    generalize cntG T C C.length s = gk at *
    have hyc : ∃ yc, T[j].claims = yc := ⟨_, rfl⟩
    obtain ⟨yc, hyc⟩ := hyc
    rw [hyc] at x3 t5 t6 HR
    clear hyc
    have hw1 : IntKind.i64.wrap (yc - gk) = yc - gk := IntWalk.i64_in _ (by omega)
    go_wp2
    go_region_held3 (fun w' => w'.cell? ⟨b2, off2 + j * 4 + 3, none⟩ = some (.int .i64 yc)) (first | exact x3 | exact (hb3.cell (p := ⟨b2, off2 + j * 4 + 3, none⟩) hbl2).trans x3)
      (first
        | (go_at_call 73; refine (l28Verdicts_any _ T _ C w1.drew HV1.out.drew HU1.out.drew HA.out HT.out).mono ?_; rintro e w3 ⟨x, rfl, hx, hb3⟩)
        | (go_at_call 72; refine (HCALL.out _ _ hx ⟨hb3.os, hb3.tape, hb3.output, hb3.size, hb3.block⟩).mono ?_; rintro e w4 ⟨rfl, rfl⟩))
    go_wp2
    go_ret2
    exact ⟨ClaimsLeft_e_of HR.out, Below.step HB.out ⟨hb3.os, hb3.tape, hb3.output, hb3.size, hb3.block⟩⟩
end Go.Proofs.Ytnpfgngfolgdfaa
