/- Contracts of WorstPart (chapter 28). No statement of the seat is proved here. -/
import Derived.Test.YtnpfgngfolgdfaaVerdCode
namespace Go.Proofs.Ytnpfgngfolgdfaa
open Go.RowKit

def worst (T : List Term) (C : List Claim) : Nat → ByteArray × Int
  | 0 => (⟨#[]⟩, 0)
  | k + 1 => if (worst T C k).2 < cntG T C C.length (T.getD k zTerm).part then ((T.getD k zTerm).part, cntG T C C.length (T.getD k zTerm).part) else worst T C k
theorem worst_yes {T : List Term} {C : List Claim} {k : Nat} {s : ByteArray} {m : Int} (h : worst T C k = (s, m)) (h2 : m < cntG T C C.length (T.getD k zTerm).part) : worst T C (k + 1) = ((T.getD k zTerm).part, cntG T C C.length (T.getD k zTerm).part) := by rw [worst, h, if_pos h2]
theorem worst_no {T : List Term} {C : List Claim} {k : Nat} {s : ByteArray} {m : Int} (h : worst T C k = (s, m)) (h2 : ¬ m < cntG T C C.length (T.getD k zTerm).part) : worst T C (k + 1) = (s, m) := by rw [worst, h, if_neg h2]
def WorstPart_r (T : List Term) (C : List Claim) : ByteArray × Int × Int := if bothB T C then (if (worst T C T.length).2 = 0 then (⟨#[]⟩, 0, 4) else ((worst T C T.length).1, (worst T C T.length).2, 0)) else (⟨#[]⟩, 0, 1)
theorem WorstPart_bad {T : List Term} {C : List Claim} (h : bothB T C = false) : WorstPart_r T C = (⟨#[]⟩, 0, 1) := by unfold WorstPart_r; rw [h]; rfl
theorem WorstPart_none {T : List Term} {C : List Claim} {s : ByteArray} (h : bothB T C = true) (h2 : worst T C T.length = (s, 0)) : WorstPart_r T C = (⟨#[]⟩, 0, 4) := by unfold WorstPart_r; rw [h, h2]; rfl
theorem WorstPart_some {T : List Term} {C : List Claim} {s : ByteArray} {m : Int} (h : bothB T C = true) (h2 : worst T C T.length = (s, m)) (h3 : m ≠ 0) : WorstPart_r T C = (s, m, 0) := by unfold WorstPart_r; rw [h, h2, if_pos rfl, if_neg h3]
abbrev WorstPart_e (T : List Term) (C : List Claim) : Ending := .returned (.tuple #[.string (WorstPart_r T C).1, .int .i64 (WorstPart_r T C).2.1, .int .i64 (WorstPart_r T C).2.2])
theorem WorstPart_e_of {T : List Term} {C : List Claim} {s : ByteArray} {m c : Int} (h : WorstPart_r T C = (s, m, c)) : Ending.returned (.tuple #[.string s, .int .i64 m, .int .i64 c]) = WorstPart_e T C := by unfold WorstPart_e; rw [h]
set_option maxHeartbeats 4000000 in
set_option maxRecDepth 20000 in
theorem iWorstPart_law (v : Value) (T : List Term) (u : Value) (C : List Claim) (w : World) (hv : Sl eTerm w v T) (_ : T.length ≤ 1048576) (hqT : ∀ x ∈ T, okTerm x) (hu : Sl eClaim w u C) (_ : C.length ≤ 1048576) (hqC : ∀ x ∈ C, okClaim x) :
    Calls Try.prog 38 #[v, u] w fun e w' => e = WorstPart_e T C ∧ Below w.heap.size w w' := by
  rcases hA : areTerms T
  · have HR := Lib.hid (WorstPart_bad (bothB_1 (C := C) hA))
    have HA := Lib.hid hA
    clear hA
    go_enter Try.func38, Try.ntmps38
    go_wp2_with fail
    refine (iAreTerms_any v T w hv hqT).mono ?_
    rintro e w1 ⟨rfl, hb⟩
    rw [HA.out]
    go_wp2
    go_ret3
    exact ⟨WorstPart_e_of HR.out, hb⟩
  rcases hC : areClaims C
  · have HR := Lib.hid (WorstPart_bad (bothB_2 (T := T) hC))
    have HA := Lib.hid hA
    have HC := Lib.hid hC
    clear hA hC
    go_enter Try.func38, Try.ntmps38
    go_wp2_with fail
    refine (iAreTerms_any v T w hv hqT).mono ?_
    rintro e w1 ⟨rfl, hb⟩
    rw [HA.out]
    have hu1 := hu.below hb
    go_wp2_with fail
    refine (iAreClaims_any u C w1 hu1 hqC).mono ?_
    rintro e w2 ⟨rfl, hb2⟩
    rw [HC.out]
    go_wp2
    go_ret3
    exact ⟨WorstPart_e_of HR.out, Below.step hb hb2⟩
  · have HOK := Lib.hid (bothB_ok hA hC)
    have h20 := (areClaims_at hC).1
    have h10 : T.length ≤ 10 := by unfold areTerms at hA; rw [Bool.and_eq_true, decide_eq_true_eq] at hA; exact hA.1
    have HA := Lib.hid hA
    have HC := Lib.hid hC
    clear hA hC
    go_enter Try.func38, Try.ntmps38
    go_wp2_with fail
    refine (iAreTerms_any v T w hv hqT).mono ?_
    rintro e w1 ⟨rfl, hb⟩
    rw [HA.out]
    have hu1 := hu.below hb
    go_wp2_with fail
    refine (iAreClaims_any u C w1 hu1 hqC).mono ?_
    rintro e w2 ⟨rfl, hb2⟩
    rw [HC.out]
    go_wp2_with fail
    refine (verdictsOf_any v T u C w2 ((hv.below hb).below hb2) (hu1.below hb2) HA.out HC.out).mono ?_
    rintro e w3 ⟨x, y, rfl, hx, hy, hb3⟩
    obtain ⟨A, cap, rfl, _, hm, hc⟩ := (((hv.below hb).below hb2).below hb3).shape
    have hys := Ints.shapeL (Sl.of_own hy (by rw [grL_len]; unfold big40; omega)) (grL_len T C C.length)
    obtain ⟨A5, cap5, rfl, _, _, hc5⟩ := hys
    have HB := Lib.hid (Below.step (Below.step hb hb2) hb3)
    clear hb hb2 hb3 hv hu hu1 hx hy
    go_wp2
    go_loop [29, 7, 8] (fun i p q => ∃ (k : Nat) (s : ByteArray) (m : Int), k ≤ T.length ∧ i = .int .i64 k ∧ p = .string s ∧ q = .int .i64 m ∧ 0 ≤ m ∧ m ≤ 20 ∧ Hid (worst T C k = (s, m))) (fun i _ _ => T.length - (intOf i).toNat)
    case atStart => exact ⟨0, _, 0, Nat.zero_le _, rfl, rfl, rfl, by omega, by omega, Lib.hid rfl⟩
    case round =>
      obtain ⟨k, s, m, hk, rfl, rfl, rfl, m0, m1, HM⟩ := hrel
      by_cases hlt : k < T.length
      · obtain ⟨b2, off2, rfl, hbl2, hcell2⟩ := hc (by omega)
        obtain ⟨b5, off5, rfl, hbl5, hcell5⟩ := hc5 (by omega)
        have hbb := Below.refl w3.heap.size w3
        have x0 : w3.cell? ⟨b2, off2 + k * 4, none⟩ = some (.string T[k].part) := (hbb.cell (p := ⟨b2, off2 + k * 4, none⟩) hbl2).trans (by simpa [eTerm, Nat.add_assoc] using hcell2 k hlt 0 _ (by decide) rfl)
        have x1 : w3.cell? ⟨b2, off2 + k * 4 + 1, none⟩ = some (.int .i64 T[k].days) := (hbb.cell (p := ⟨b2, off2 + k * 4 + 1, none⟩) hbl2).trans (by simpa [eTerm, Nat.add_assoc] using hcell2 k hlt 1 _ (by decide) rfl)
        have x2 : w3.cell? ⟨b2, off2 + k * 4 + 2, none⟩ = some (.int .i64 T[k].tens) := (hbb.cell (p := ⟨b2, off2 + k * 4 + 2, none⟩) hbl2).trans (by simpa [eTerm, Nat.add_assoc] using hcell2 k hlt 2 _ (by decide) rfl)
        have x3 : w3.cell? ⟨b2, off2 + k * 4 + 3, none⟩ = some (.int .i64 T[k].claims) := (hbb.cell (p := ⟨b2, off2 + k * 4 + 3, none⟩) hbl2).trans (by simpa [eTerm, Nat.add_assoc] using hcell2 k hlt 3 _ (by decide) rfl)
        have c0g : w3.cell? ⟨b5, off5 + k, none⟩ = some (.int .i64 (cntG T C C.length T[k].part)) := by
          have gx := hcell5 k hlt
          rw [grL_at hlt] at gx
          exact gx
        have hgx : T.getD k zTerm = T[k] := getD_at _ _ _ hlt
        have HY := Lib.hid (worst_yes HM.out)
        have HN := Lib.hid (worst_no HM.out)
        rw [hgx] at HY HN
        obtain ⟨q0, q1⟩ := cntG_bd T C C.length T[k].part
        clear hbb hc hcell2 hgx hc5 hcell5
        generalize cntG T C C.length T[k].part = gk at *
        generalize T[k] = y at *
        obtain ⟨yp, yd, yt, yc⟩ := y
        simp only at *
        by_cases hgt : m < gk
        · go_wp2
          go_round
          case rel => exact ⟨k + 1, _, _, by omega, by go_num, rfl, rfl, by omega, by omega, Lib.hid (HY.out hgt)⟩
          case measure => simp [intOf]; omega
        · go_wp2
          go_round
          case rel => exact ⟨k + 1, _, _, by omega, by go_num, rfl, rfl, m0, m1, Lib.hid (HN.out (by omega))⟩
          case measure => simp [intOf]; omega
      · obtain rfl : k = T.length := by omega
        by_cases hm0 : m = 0
        · subst hm0
          go_wp2
          go_ret3
          exact ⟨WorstPart_e_of (WorstPart_none HOK.out HM.out), HB.out⟩
        · have e0 : (m == 0) = false := beq_eq_false_iff_ne.2 hm0
          have HM0 := Lib.hid hm0
          clear hm0
          go_wp2
          go_ret3
          exact ⟨WorstPart_e_of (WorstPart_some HOK.out HM.out HM0.out), HB.out⟩
set_option maxHeartbeats 4000000 in
set_option maxRecDepth 20000 in
theorem sWorstPart_law (v : Value) (T : List Term) (u : Value) (C : List Claim) (w : World) (hv : Sl eTerm w v T) (_ : T.length ≤ 1048576) (hqT : ∀ x ∈ T, okTerm x) (hu : Sl eClaim w u C) (_ : C.length ≤ 1048576) (hqC : ∀ x ∈ C, okClaim x) :
    Calls Try.prog 37 #[v, u] w fun e w' => e = WorstPart_e T C ∧ Below w.heap.size w w' := by
  rcases hA : bothB T C
  · have HR := Lib.hid (WorstPart_bad hA)
    have HC := Lib.hid (bothCode_1 hA)
    clear hA
    go_enter Try.func37, Try.ntmps37
    go_wp2_with fail
    refine (l28Code_any v T u C w hv hqT hu hqC).mono ?_
    rintro e w1 ⟨rfl, hb⟩
    rw [HC.out]
    go_wp2
    go_ret3
    exact ⟨WorstPart_e_of HR.out, hb⟩
  · obtain ⟨hA1, hT1⟩ := bothB_of hA
    have HOK := Lib.hid hA
    have h20 := (areClaims_at hT1).1
    have h10 : T.length ≤ 10 := by unfold areTerms at hA1; rw [Bool.and_eq_true, decide_eq_true_eq] at hA1; exact hA1.1
    have HC := Lib.hid (bothCode_0 hA)
    have HA := Lib.hid hA1
    have HT := Lib.hid hT1
    clear hA hA1 hT1
    go_enter Try.func37, Try.ntmps37
    go_wp2_with fail
    refine (l28Code_any v T u C w hv hqT hu hqC).mono ?_
    rintro e w1 ⟨rfl, hb⟩
    rw [HC.out]
    go_wp2_with fail
    refine (l28Verdicts_any v T u C w1 (hv.below hb) (hu.below hb) HA.out HT.out).mono ?_
    rintro e w3 ⟨x, rfl, hx, hb3⟩
    have HG : Hid (∀ s, Calls Try.prog 72 #[u, x, .string s] w3 fun e w' => e = .returned (.int .i64 (cntG T C C.length s)) ∧ w3 = w') := Lib.hid (fun s => by
      have h := l28Granted_any u C x (verdL T C C.length) s w3 ((hu.below hb).below hb3) (Sl.of_own hx (by rw [verdL_len]; unfold big40; omega)) (by rw [verdL_len]; omega)
      rw [verdL_len, grantN_cnt T C s C.length C.length (Nat.le_refl _)] at h
      exact h)
    obtain ⟨A, cap, rfl, _, hm, hc⟩ := ((hv.below hb).below hb3).shape
    have HB := Lib.hid (Below.step hb hb3)
    clear hb hb3 hv hu hx
    go_wp2
    go_loop [11, 8, 9] (fun i p q => ∃ (k : Nat) (s : ByteArray) (m : Int), k ≤ T.length ∧ i = .int .i64 k ∧ p = .string s ∧ q = .int .i64 m ∧ 0 ≤ m ∧ m ≤ 20 ∧ Hid (worst T C k = (s, m))) (fun i _ _ => T.length - (intOf i).toNat)
    case atStart => exact ⟨0, _, 0, Nat.zero_le _, rfl, rfl, rfl, by omega, by omega, Lib.hid rfl⟩
    case round =>
      obtain ⟨k, s, m, hk, rfl, rfl, rfl, m0, m1, HM⟩ := hrel
      by_cases hlt : k < T.length
      · obtain ⟨b2, off2, rfl, hbl2, hcell2⟩ := hc (by omega)
        have hbb := Below.refl w3.heap.size w3
        have x0 : w3.cell? ⟨b2, off2 + k * 4, none⟩ = some (.string T[k].part) := (hbb.cell (p := ⟨b2, off2 + k * 4, none⟩) hbl2).trans (by simpa [eTerm, Nat.add_assoc] using hcell2 k hlt 0 _ (by decide) rfl)
        have x1 : w3.cell? ⟨b2, off2 + k * 4 + 1, none⟩ = some (.int .i64 T[k].days) := (hbb.cell (p := ⟨b2, off2 + k * 4 + 1, none⟩) hbl2).trans (by simpa [eTerm, Nat.add_assoc] using hcell2 k hlt 1 _ (by decide) rfl)
        have x2 : w3.cell? ⟨b2, off2 + k * 4 + 2, none⟩ = some (.int .i64 T[k].tens) := (hbb.cell (p := ⟨b2, off2 + k * 4 + 2, none⟩) hbl2).trans (by simpa [eTerm, Nat.add_assoc] using hcell2 k hlt 2 _ (by decide) rfl)
        have x3 : w3.cell? ⟨b2, off2 + k * 4 + 3, none⟩ = some (.int .i64 T[k].claims) := (hbb.cell (p := ⟨b2, off2 + k * 4 + 3, none⟩) hbl2).trans (by simpa [eTerm, Nat.add_assoc] using hcell2 k hlt 3 _ (by decide) rfl)
        have hgx : T.getD k zTerm = T[k] := getD_at _ _ _ hlt
        have HY := Lib.hid (worst_yes HM.out)
        have HN := Lib.hid (worst_no HM.out)
        rw [hgx] at HY HN
        obtain ⟨q0, q1⟩ := cntG_bd T C C.length T[k].part
        have HCALL : Hid (∀ X : Unit, Calls Try.prog 72 #[u, x, .string T[k].part] w3 fun e w' => e = .returned (.int .i64 (cntG T C C.length T[k].part)) ∧ w3 = w') := Lib.hid (fun _ => HG.out T[k].part)
        clear hbb hc hcell2 hgx
        generalize cntG T C C.length T[k].part = gk at *
        generalize T[k] = y at *
        obtain ⟨yp, yd, yt, yc⟩ := y
        simp only at *
        by_cases hgt : m < gk
        · go_wp2_with (go_at_call 72; refine (HCALL.out ()).mono ?_; rintro e w4 ⟨rfl, rfl⟩)
          go_round
          case rel => exact ⟨k + 1, _, _, by omega, by go_num, rfl, rfl, by omega, by omega, Lib.hid (HY.out hgt)⟩
          case measure => simp [intOf]; omega
        · go_wp2_with (go_at_call 72; refine (HCALL.out ()).mono ?_; rintro e w4 ⟨rfl, rfl⟩)
          go_round
          case rel => exact ⟨k + 1, _, _, by omega, by go_num, rfl, rfl, m0, m1, Lib.hid (HN.out (by omega))⟩
          case measure => simp [intOf]; omega
      · obtain rfl : k = T.length := by omega
        by_cases hm0 : m = 0
        · subst hm0
          go_wp2
          go_ret3
          exact ⟨WorstPart_e_of (WorstPart_none HOK.out HM.out), HB.out⟩
        · have e0 : (m == 0) = false := beq_eq_false_iff_ne.2 hm0
          have HM0 := Lib.hid hm0
          clear hm0
          go_wp2
          go_ret3
          exact ⟨WorstPart_e_of (WorstPart_some HOK.out HM.out HM0.out), HB.out⟩
end Go.Proofs.Ytnpfgngfolgdfaa
