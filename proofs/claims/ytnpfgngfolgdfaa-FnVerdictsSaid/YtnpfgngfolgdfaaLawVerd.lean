/- The walk of the statement on verdicts (P28). No statement of the seat is proved here. -/
import Derived.Test.YtnpfgngfolgdfaaVerdLaw
import Derived.Test.YtnpfgngfolgdfaaDrawV
import Derived.Test.YtnpfgngfolgdfaaLaws
import Derived.Test.YtnpfgngfolgdfaaVerdictText
namespace Go.Proofs.Ytnpfgngfolgdfaa
open Go.RowKit

set_option maxHeartbeats 16000000 in
set_option maxRecDepth 20000 in
theorem walk_FnVerdicts (a0 : Option Addr) (len0 cap0 : Nat) (z0 : List Int) (w : World) (p0 : IsRow .u8 w a0 len0 cap0 z0) :
    Calls Try.prog 13 #[.slice a0 len0 cap0] w fun e w' => e = .returned (.bool true) ∧ Below w.heap.size w w' := by
  obtain ⟨hcap, hby⟩ := p0.bytes
  have hmax := p0.max
  by_cases hbig : 4096 < len0
  · have HD : Hid (decide (4096 < len0) = true) := Lib.hid (decide_eq_true hbig)
    go_enter Try.func13, Try.ntmps13
    go_wp2_with fail
    refine (big_any a0 len0 cap0 w hmax).mono ?_
    rintro e w1 ⟨rfl, rfl⟩
    rw [HD.out]
    go_wp2
    go_ret
    exact ⟨rfl, Below.refl _ _⟩
  have HD : Hid (decide (4096 < len0) = false) := Lib.hid (decide_eq_false hbig)
  have hl4 : len0 ≤ 4096 := by omega
  have HBY := Lib.hid hby
  go_enter Try.func13, Try.ntmps13
  go_wp2_with fail
  refine (big_any a0 len0 cap0 w hmax).mono ?_
  rintro e w1 ⟨rfl, rfl⟩
  rw [HD.out]
  go_wp2_with fail
  refine (DrawClaimsLeft_any a0 len0 cap0 w hl4 hcap hby).mono ?_
  rintro e w2 ⟨tv, T, cv, C, s, rfl, ho, hTl, hTk, ho2, hCl, hCk, hs20, hb⟩
  have BW := Lib.hid hb
  have TV := Lib.hid (Sl.of_own ho (by unfold big40; omega))
  have CV := Lib.hid (Sl.of_own ho2 (by unfold big40; omega))
  have HKT := Lib.hid hTk
  have HKC := Lib.hid hCk
  have hTl2 : T.length ≤ 1048576 := by omega
  have hCl2 : C.length ≤ 1048576 := by omega
  have hs2 : s.size ≤ 1048576 := by omega
  obtain ⟨l, lc, hCLF⟩ : ∃ a c, ClaimsLeft_r T C s = (a, c) := ⟨_, _, rfl⟩
  obtain ⟨vs, vc, hVO⟩ : ∃ a c, VerdictsOf_r T C = (a, c) := ⟨_, _, rfl⟩
  obtain ⟨cs, cc, hCT⟩ : ∃ a c, CountVerdicts_r T C = (a, c) := ⟨_, _, rfl⟩
  obtain ⟨wp, n, wc, hWP⟩ : ∃ a b c, WorstPart_r T C = (a, b, c) := ⟨_, _, _, rfl⟩
  have hvl : vs.length ≤ 1048576 := by have := VerdictsOf_len T C; rw [hVO] at this; exact this
  have hcl : cs.length ≤ 1048576 := by have := CountVerdicts_len T C; rw [hCT] at this; exact this
  have HL0 := Lib.hid hCLF
  have HLE := Lib.hid (ClaimsLeft_e_of hCLF)
  have HVO := Lib.hid hVO
  have HCT := Lib.hid hCT
  have HW0 := Lib.hid hWP
  have HWE := Lib.hid (WorstPart_e_of hWP)
  clear ho ho2 hTk hCk p0 hbig hmax hby hb hCLF hVO hCT hWP
  go_wp2_with fail
  refine (iClaimsLeft_law tv T cv C s w2 TV.out hTl2 HKT.out CV.out hCl2 HKC.out hs2).mono ?_
  rw [← HLE.out]
  rintro e w3 ⟨rfl, hb⟩
  replace TV := Lib.hid (TV.out.below hb)
  replace CV := Lib.hid (CV.out.below hb)
  replace BW := Lib.hid (Below.step BW.out hb)
  clear hb
  go_wp2_with fail
  refine (sClaimsLeft_law tv T cv C s w3 TV.out hTl2 HKT.out CV.out hCl2 HKC.out hs2).mono ?_
  rw [← HLE.out]
  rintro e w4 ⟨rfl, hb⟩
  replace TV := Lib.hid (TV.out.below hb)
  replace CV := Lib.hid (CV.out.below hb)
  replace BW := Lib.hid (Below.step BW.out hb)
  clear hb
  go_wp2_with fail
  refine (iVerdictsOf_law tv T cv C w4 TV.out hTl2 HKT.out CV.out hCl2 HKC.out).mono ?_
  rw [HVO.out]
  rintro e w5 ⟨m0, rfl, ho, hb⟩
  replace TV := Lib.hid (TV.out.below hb)
  replace CV := Lib.hid (CV.out.below hb)
  replace BW := Lib.hid (Below.step BW.out hb)
  have S_m0 := Lib.hid (Sl.of_own ho (big_of hvl))
  clear ho hb
  go_wp2_with fail
  refine (sVerdictsOf_law tv T cv C w5 TV.out hTl2 HKT.out CV.out hCl2 HKC.out).mono ?_
  rw [HVO.out]
  rintro e w6 ⟨m1, rfl, ho, hb⟩
  replace TV := Lib.hid (TV.out.below hb)
  replace CV := Lib.hid (CV.out.below hb)
  replace S_m0 := Lib.hid (S_m0.out.below hb)
  replace BW := Lib.hid (Below.step BW.out hb)
  have S_m1 := Lib.hid (Sl.of_own ho (big_of hvl))
  clear ho hb
  go_wp2_with fail
  refine (iCountVerdicts_law tv T cv C w6 TV.out hTl2 HKT.out CV.out hCl2 HKC.out).mono ?_
  rw [HCT.out]
  rintro e w7 ⟨q0, rfl, ho, hb⟩
  replace TV := Lib.hid (TV.out.below hb)
  replace CV := Lib.hid (CV.out.below hb)
  replace S_m0 := Lib.hid (S_m0.out.below hb)
  replace S_m1 := Lib.hid (S_m1.out.below hb)
  replace BW := Lib.hid (Below.step BW.out hb)
  have S_q0 := Lib.hid (Sl.of_own ho (big_of hcl))
  clear ho hb
  go_wp2_with fail
  refine (sCountVerdicts_law tv T cv C w7 TV.out hTl2 HKT.out CV.out hCl2 HKC.out).mono ?_
  rw [HCT.out]
  rintro e w8 ⟨q1, rfl, ho, hb⟩
  replace TV := Lib.hid (TV.out.below hb)
  replace CV := Lib.hid (CV.out.below hb)
  replace S_m0 := Lib.hid (S_m0.out.below hb)
  replace S_m1 := Lib.hid (S_m1.out.below hb)
  replace S_q0 := Lib.hid (S_q0.out.below hb)
  replace BW := Lib.hid (Below.step BW.out hb)
  have S_q1 := Lib.hid (Sl.of_own ho (big_of hcl))
  clear ho hb
  go_wp2_with fail
  refine (iWorstPart_law tv T cv C w8 TV.out hTl2 HKT.out CV.out hCl2 HKC.out).mono ?_
  rw [← HWE.out]
  rintro e w9 ⟨rfl, hb⟩
  replace TV := Lib.hid (TV.out.below hb)
  replace CV := Lib.hid (CV.out.below hb)
  replace S_m0 := Lib.hid (S_m0.out.below hb)
  replace S_m1 := Lib.hid (S_m1.out.below hb)
  replace S_q0 := Lib.hid (S_q0.out.below hb)
  replace S_q1 := Lib.hid (S_q1.out.below hb)
  replace BW := Lib.hid (Below.step BW.out hb)
  clear hb
  go_wp2_with fail
  refine (sWorstPart_law tv T cv C w9 TV.out hTl2 HKT.out CV.out hCl2 HKC.out).mono ?_
  rw [← HWE.out]
  rintro e w10 ⟨rfl, hb⟩
  replace TV := Lib.hid (TV.out.below hb)
  replace CV := Lib.hid (CV.out.below hb)
  replace S_m0 := Lib.hid (S_m0.out.below hb)
  replace S_m1 := Lib.hid (S_m1.out.below hb)
  replace S_q0 := Lib.hid (S_q0.out.below hb)
  replace S_q1 := Lib.hid (S_q1.out.below hb)
  replace BW := Lib.hid (Below.step BW.out hb)
  clear hb
  go_wp2_with fail
  refine (DrawVerdictText_any a0 len0 cap0 w10 hl4 hcap (Bytes.below HBY.out BW.out)).mono ?_
  rintro e w11 ⟨x, rfl, x0, x1, hb⟩
  have wx : Hid ((Lit.int .i64 x).wf = true) := Lib.hid (wf_in (by omega) (by omega))
  obtain ⟨tx, tc, hTX⟩ : ∃ a c, VerdictText_r x = (a, c) := ⟨_, _, rfl⟩
  have HTX := Lib.hid hTX
  clear hTX
  replace TV := Lib.hid (TV.out.below hb)
  replace CV := Lib.hid (CV.out.below hb)
  replace S_m0 := Lib.hid (S_m0.out.below hb)
  replace S_m1 := Lib.hid (S_m1.out.below hb)
  replace S_q0 := Lib.hid (S_q0.out.below hb)
  replace S_q1 := Lib.hid (S_q1.out.below hb)
  replace BW := Lib.hid (Below.step BW.out hb)
  clear hb
  go_wp2_with fail
  refine (iVerdictText_law x w11 wx.out).mono ?_
  rw [HTX.out]
  rintro e w12 ⟨rfl, hb⟩
  replace TV := Lib.hid (TV.out.below hb)
  replace CV := Lib.hid (CV.out.below hb)
  replace S_m0 := Lib.hid (S_m0.out.below hb)
  replace S_m1 := Lib.hid (S_m1.out.below hb)
  replace S_q0 := Lib.hid (S_q0.out.below hb)
  replace S_q1 := Lib.hid (S_q1.out.below hb)
  replace BW := Lib.hid (Below.step BW.out hb)
  clear hb
  go_wp2_with fail
  refine (sVerdictText_law x w12 wx.out).mono ?_
  rw [HTX.out]
  rintro e w13 ⟨rfl, hb⟩
  replace TV := Lib.hid (TV.out.below hb)
  replace CV := Lib.hid (CV.out.below hb)
  replace S_m0 := Lib.hid (S_m0.out.below hb)
  replace S_m1 := Lib.hid (S_m1.out.below hb)
  replace S_q0 := Lib.hid (S_q0.out.below hb)
  replace S_q1 := Lib.hid (S_q1.out.below hb)
  replace BW := Lib.hid (Below.step BW.out hb)
  clear hb
  go_wp2_with fail
  refine (toB_draw (likeInts_same m0 m1 vs w13 S_m0.out S_m1.out)).mono ?_
  rintro e w14 ⟨rfl, hb⟩
  replace TV := Lib.hid (TV.out.below hb)
  replace CV := Lib.hid (CV.out.below hb)
  replace S_m0 := Lib.hid (S_m0.out.below hb)
  replace S_m1 := Lib.hid (S_m1.out.below hb)
  replace S_q0 := Lib.hid (S_q0.out.below hb)
  replace S_q1 := Lib.hid (S_q1.out.below hb)
  replace BW := Lib.hid (Below.step BW.out hb)
  clear hb
  go_wp2_with fail
  refine (toB_draw (likeInts_same q0 q1 cs w14 S_q0.out S_q1.out)).mono ?_
  rintro e w15 ⟨rfl, hb⟩
  replace TV := Lib.hid (TV.out.below hb)
  replace CV := Lib.hid (CV.out.below hb)
  replace S_m0 := Lib.hid (S_m0.out.below hb)
  replace S_m1 := Lib.hid (S_m1.out.below hb)
  replace S_q0 := Lib.hid (S_q0.out.below hb)
  replace S_q1 := Lib.hid (S_q1.out.below hb)
  replace BW := Lib.hid (Below.step BW.out hb)
  clear hb
  obtain ⟨bt, hbt⟩ : ∃ b, AreTerms_r T = b := ⟨_, rfl⟩
  obtain ⟨bc, hbc⟩ : ∃ b, AreClaims_r C = b := ⟨_, rfl⟩
  have HBT := Lib.hid hbt
  have HBC := Lib.hid hbc
  clear hbt hbc
  go_wp2_with fail
  refine (iAreTerms_law tv T w15 TV.out hTl2 HKT.out).mono ?_
  rw [HBT.out]
  rintro e w16 ⟨rfl, hb⟩
  replace TV := Lib.hid (TV.out.below hb)
  replace CV := Lib.hid (CV.out.below hb)
  replace S_m0 := Lib.hid (S_m0.out.below hb)
  replace S_m1 := Lib.hid (S_m1.out.below hb)
  replace S_q0 := Lib.hid (S_q0.out.below hb)
  replace S_q1 := Lib.hid (S_q1.out.below hb)
  replace BW := Lib.hid (Below.step BW.out hb)
  clear hb
  go_wp2_with fail
  refine (sAreTerms_law tv T w16 TV.out hTl2 HKT.out).mono ?_
  rw [HBT.out]
  rintro e w17 ⟨rfl, hb⟩
  replace TV := Lib.hid (TV.out.below hb)
  replace CV := Lib.hid (CV.out.below hb)
  replace S_m0 := Lib.hid (S_m0.out.below hb)
  replace S_m1 := Lib.hid (S_m1.out.below hb)
  replace S_q0 := Lib.hid (S_q0.out.below hb)
  replace S_q1 := Lib.hid (S_q1.out.below hb)
  replace BW := Lib.hid (Below.step BW.out hb)
  clear hb
  go_wp2_with fail
  refine (iAreClaims_law cv C w17 CV.out hCl2 HKC.out).mono ?_
  rw [HBC.out]
  rintro e w18 ⟨rfl, hb⟩
  replace TV := Lib.hid (TV.out.below hb)
  replace CV := Lib.hid (CV.out.below hb)
  replace S_m0 := Lib.hid (S_m0.out.below hb)
  replace S_m1 := Lib.hid (S_m1.out.below hb)
  replace S_q0 := Lib.hid (S_q0.out.below hb)
  replace S_q1 := Lib.hid (S_q1.out.below hb)
  replace BW := Lib.hid (Below.step BW.out hb)
  clear hb
  go_wp2_with fail
  refine (sAreClaims_law cv C w18 CV.out hCl2 HKC.out).mono ?_
  rw [HBC.out]
  rintro e w19 ⟨rfl, hb⟩
  replace TV := Lib.hid (TV.out.below hb)
  replace CV := Lib.hid (CV.out.below hb)
  replace S_m0 := Lib.hid (S_m0.out.below hb)
  replace S_m1 := Lib.hid (S_m1.out.below hb)
  replace S_q0 := Lib.hid (S_q0.out.below hb)
  replace S_q1 := Lib.hid (S_q1.out.below hb)
  replace BW := Lib.hid (Below.step BW.out hb)
  clear hb
  by_cases hv0 : vc = 0
  rotate_left
  · have hvb : (vc == 0) = false := beq_eq_false_iff_ne.2 hv0
    go_wp2
    go_ret
    exact ⟨rfl, BW.out⟩
  subst hv0
  have hBB : bothB T C = true := by
    rcases h : bothB T C
    · have e1 := HVO.out.symm.trans (VerdictsOf_bad h)
      injection e1 with _ e2
      cases e2
    · rfl
  have e1 := HVO.out.symm.trans (VerdictsOf_ok hBB)
  injection e1 with e1 _
  have e2 := HCT.out.symm.trans (CountVerdicts_ok hBB)
  injection e2 with e2 _
  have hvC : vs.length = C.length := by rw [e1, verdL_len]
  have hcC : cs.length = 5 := by rw [e2, tally_len]
  have HOK := Lib.hid (verd_ok hBB HL0.out HW0.out)
  have HCN : Hid (∀ j : Nat, j < 5 → cs.getD j 0 = cntV vs j vs.length) := Lib.hid (fun j hj => by
    rw [e2, hvC, e1]
    exact tally_cnt _ (fun i => verdL_bd T C C.length i) _ j hj)
  have HGR : Hid (∀ s : ByteArray, grantN C vs s C.length = cntG T C C.length s) := Lib.hid (fun s => by rw [e1]; exact grantN_cnt T C s C.length C.length (Nat.le_refl _))
  have hC20 : C.length ≤ 20 := (areClaims_at (bothB_of hBB).2).1
  have HTC : Hid (∀ (i : Nat) (hi : i < T.length), 1 ≤ T[i].claims ∧ T[i].claims ≤ 20) := Lib.hid (fun i hi => by have h := areTerms_at (bothB_of hBB).1 i hi; omega)
  have HZ : Hid (wc ≠ 0 → cntV vs 0 vs.length = 0) := Lib.hid (fun h => by have := HOK.out.none h; rw [hvC, e1]; exact this)
  obtain ⟨Av, capv, rfl, _, _, hsv⟩ := Ints.shape S_m0.out
  obtain ⟨Aq, capq, rfl, _, _, hsq⟩ := Ints.shape S_q0.out
  obtain ⟨At, capt, rfl, _, _, hst⟩ := TV.out.shape
  obtain ⟨Ac, capc, rfl, _, _, hsc⟩ := CV.out.shape
  obtain ⟨bq, oq, rfl, hlq, hcq⟩ := hsq (by omega)
  have HQ : Hid (∀ (W : World), Below w19.heap.size w19 W → ∀ j : Nat, j < 5 → W.cell? ⟨bq, oq + j, none⟩ = some (.int .i64 (cntV vs j vs.length))) := Lib.hid (fun W hW j hj => by
    rw [← HCN.out j hj, getD_at _ _ _ (by omega)]
    exact (hW.cell (p := ⟨bq, oq + j, none⟩) hlq).trans (hcq j (by omega)))
  clear e1 e2 hBB hsq hcq
  rw [hcC] at *
  go_wp2
  go_loopg [29] 5 (fun gk kk wr => ∃ k : Nat, k ≤ 5 ∧ gk = 5 - k ∧ kk = .int .i64 k ∧ Below w19.heap.size w19 wr)
  case atStart => exact ⟨0, by omega, rfl, rfl, Below.refl _ _⟩
  case round =>
    obtain ⟨k, hk, rfl, rfl, hb⟩ := hrel
    by_cases hk5 : k < 5
    · have hk5i : (k : Int) < 5 := by omega
      have hk0i : (0 : Int) ≤ (k : Int) := by omega
      have hkw : IntKind.i64.wrap ((k : Int) + 1) = (k : Int) + 1 := IntWalk.i64_in _ (by omega)
      have HBO := Lib.hid hb
      clear hb
      go_wp2
      go_loopg [30, 31] vs.length (fun gi f i wr => ∃ (j : Nat) (q : Int), j ≤ vs.length ∧ gi = vs.length - j ∧ i = .int .i64 j ∧ f = .int .i64 q ∧ 0 ≤ q ∧ q ≤ j ∧ Hid (cntV vs k j = q) ∧ Hid (Below w19.heap.size w19 wr))
      case atStart => exact ⟨0, 0, by omega, rfl, rfl, rfl, by omega, by omega, Lib.hid rfl, HBO⟩
      case round =>
        obtain ⟨j, q, hj, rfl, rfl, rfl, q0, q1, HN, HB⟩ := hrel
        clear HBO
        by_cases hlt : j < vs.length
        · obtain ⟨bv, ov, rfl, hlv, hcv⟩ := hsv (by omega)
          have c0 := (HB.out.cell (p := ⟨bv, ov + j, none⟩) hlv).trans (hcv j hlt)
          have hqw : IntKind.i64.wrap (q + 1) = q + 1 := IntWalk.i64_in _ (by omega)
          have HX : Hid (vs.getD j 0 = vs[j]) := Lib.hid (getD_at _ _ _ hlt)
          clear hsv hcv
          generalize vs[j] = vj at *
          rcases g : (vj == (k : Int))
          · have HN2 : Hid (cntV vs k (j + 1) = q) := Lib.hid (by rw [cntV, HX.out, g]; exact HN.out)
            go_wp2
            go_roundg (vs.length - (j + 1))
            case measure => omega
            case rel => exact ⟨j + 1, q, by omega, rfl, by go_num, rfl, q0, by omega, HN2, HB⟩
          · have HN2 : Hid (cntV vs k (j + 1) = q + 1) := Lib.hid (by rw [cntV, HX.out, g]; rw [← HN.out]; rfl)
            go_wp2
            go_roundg (vs.length - (j + 1))
            case measure => omega
            case rel => exact ⟨j + 1, q + 1, by omega, rfl, by go_num, by go_num, by omega, by omega, HN2, HB⟩
        · obtain rfl : j = vs.length := by omega
          have c0 := HQ.out _ HB.out k hk5
          rw [HN.out] at c0
          go_wp2
          go_roundg (5 - (k + 1))
          case measure => omega
          case rel => exact ⟨k + 1, by omega, rfl, by go_num, HB.out⟩
    · obtain rfl : k = 5 := by omega
      have HB1 := Lib.hid hb
      clear hb hk5
      go_wp2
      go_loopg [32] T.length (fun gi ii wr => ∃ i : Nat, i ≤ T.length ∧ gi = T.length - i ∧ ii = .int .i64 i ∧ Hid (Below w19.heap.size w19 wr))
      case atStart => exact ⟨0, by omega, rfl, rfl, HB1⟩
      case round =>
        obtain ⟨i, hi, rfl, rfl, HB2⟩ := hrel
        clear HB1
        by_cases hiT : i < T.length
        · have hi0i : (0 : Int) ≤ (i : Int) := by omega
          have hiTi : (i : Int) < (T.length : Int) := by omega
          have hiw : IntKind.i64.wrap ((i : Int) + 1) = (i : Int) + 1 := IntWalk.i64_in _ (by omega)
          obtain ⟨bt2, ot, rfl, hlt2, hct⟩ := hst (by omega)
          have TI : Hid (∀ W, Below w19.heap.size w19 W → W.cell? ⟨bt2, ot + i * 4, none⟩ = some (.string T[i].part) ∧ W.cell? ⟨bt2, ot + i * 4 + 3, none⟩ = some (.int .i64 T[i].claims)) := Lib.hid (fun W hW => by
            have t0 : W.cell? ⟨bt2, ot + i * 4, none⟩ = some (.string T[i].part) := (hW.cell (p := ⟨bt2, ot + i * 4, none⟩) hlt2).trans (by simpa [eTerm, Nat.add_assoc] using hct i hiT 0 _ (by decide) rfl)
            have t1 : W.cell? ⟨bt2, ot + i * 4 + 1, none⟩ = some (.int .i64 T[i].days) := (hW.cell (p := ⟨bt2, ot + i * 4 + 1, none⟩) hlt2).trans (by simpa [eTerm, Nat.add_assoc] using hct i hiT 1 _ (by decide) rfl)
            have t2 : W.cell? ⟨bt2, ot + i * 4 + 2, none⟩ = some (.int .i64 T[i].tens) := (hW.cell (p := ⟨bt2, ot + i * 4 + 2, none⟩) hlt2).trans (by simpa [eTerm, Nat.add_assoc] using hct i hiT 2 _ (by decide) rfl)
            have t3 : W.cell? ⟨bt2, ot + i * 4 + 3, none⟩ = some (.int .i64 T[i].claims) := (hW.cell (p := ⟨bt2, ot + i * 4 + 3, none⟩) hlt2).trans (by simpa [eTerm, Nat.add_assoc] using hct i hiT 3 _ (by decide) rfl)
            exact ⟨t0, t3⟩)
          have hclm := HTC.out i hiT
          have O1 : Hid (cntG T C C.length T[i].part ≤ T[i].claims) := Lib.hid (HOK.out.le i hiT)
          have O2 : Hid (wc = 0 → cntG T C C.length T[i].part ≤ n) := Lib.hid (fun h => HOK.out.worst h i hiT)
          have O3 : Hid (lc = 0 → T[i].part.toList = s.toList → l = T[i].claims - cntG T C C.length T[i].part) := Lib.hid (fun h h2 => HOK.out.left h i hiT h2)
          generalize T[i] = t at *
          obtain ⟨pt, dys, tns, clm⟩ := t
          simp only at *
          clear hst hct
          go_wp2
          go_loopg [33, 34] C.length (fun gj g jj wr => ∃ (j : Nat) (q : Int), j ≤ C.length ∧ gj = C.length - j ∧ jj = .int .i64 j ∧ g = .int .i64 q ∧ 0 ≤ q ∧ q ≤ j ∧ Hid (grantN C vs pt j = q) ∧ Hid (Below w19.heap.size w19 wr))
          case atStart => exact ⟨0, 0, by omega, rfl, rfl, rfl, by omega, by omega, Lib.hid rfl, HB2⟩
          case round =>
            obtain ⟨j, q, hj, rfl, rfl, rfl, q0, q1, HN, HB⟩ := hrel
            clear HB2
            obtain ⟨t0, t3⟩ := TI.out _ HB.out
            by_cases hlt : j < C.length
            · have hltv : j < vs.length := by omega
              obtain ⟨bv, ov, rfl, hlv, hcv⟩ := hsv (by omega)
              obtain ⟨bc2, oc, rfl, hlc, hcc⟩ := hsc (by omega)
              have c0 := (HB.out.cell (p := ⟨bv, ov + j, none⟩) hlv).trans (hcv j hltv)
              have hbt := HB.out
              have d0 : wr.cell? ⟨bc2, oc + j * 4, none⟩ = some (.string C[j].part) := (hbt.cell (p := ⟨bc2, oc + j * 4, none⟩) hlc).trans (by simpa [eClaim, Nat.add_assoc] using hcc j hlt 0 _ (by decide) rfl)
              have d1 : wr.cell? ⟨bc2, oc + j * 4 + 1, none⟩ = some (.int .i64 C[j].sold) := (hbt.cell (p := ⟨bc2, oc + j * 4 + 1, none⟩) hlc).trans (by simpa [eClaim, Nat.add_assoc] using hcc j hlt 1 _ (by decide) rfl)
              have d2 : wr.cell? ⟨bc2, oc + j * 4 + 2, none⟩ = some (.int .i64 C[j].day) := (hbt.cell (p := ⟨bc2, oc + j * 4 + 2, none⟩) hlc).trans (by simpa [eClaim, Nat.add_assoc] using hcc j hlt 2 _ (by decide) rfl)
              have d3 : wr.cell? ⟨bc2, oc + j * 4 + 3, none⟩ = some (.int .i64 C[j].tens) := (hbt.cell (p := ⟨bc2, oc + j * 4 + 3, none⟩) hlc).trans (by simpa [eClaim, Nat.add_assoc] using hcc j hlt 3 _ (by decide) rfl)
              have hj0 : (0 : Int) ≤ (j : Int) := by omega
              have hj1 : (j : Int) < (C.length : Int) := by omega
              have hj2 : (j : Int) < (vs.length : Int) := by omega
              have hjw : IntKind.i64.wrap ((j : Int) + 1) = (j : Int) + 1 := IntWalk.i64_in _ (by omega)
              have hqw : IntKind.i64.wrap (q + 1) = q + 1 := IntWalk.i64_in _ (by omega)
              have HGA : Hid (grantAt C vs pt j = ((C[j].part.toList == pt.toList) && (vs[j] == 0))) := Lib.hid (by unfold grantAt; rw [getD_at _ _ _ hlt, getD_at _ _ _ hltv])
              clear hsv hcv hsc hcc hbt d1 d2 d3
              generalize vs[j] = vj at *
              generalize C[j].part = cp at *
              rcases g : (cp.toList == pt.toList)
              · have HG : Hid (grantN C vs pt (j + 1) = q) := Lib.hid ((grantN_no (by rw [HGA.out, g]; rfl)).trans HN.out)
                go_wp2
                go_quiet (fail)
                go_wp2
                go_roundg (C.length - (j + 1))
                case measure => omega
                case rel => exact ⟨j + 1, q, by omega, rfl, by go_num, rfl, q0, by omega, HG, Lib.hid (below_drewN' HB.out _)⟩
              · rcases g2 : (vj == 0)
                · have HG : Hid (grantN C vs pt (j + 1) = q) := Lib.hid ((grantN_no (by rw [HGA.out, g, g2]; rfl)).trans HN.out)
                  go_wp2
                  go_quiet (fail)
                  go_wp2
                  go_roundg (C.length - (j + 1))
                  case measure => omega
                  case rel => exact ⟨j + 1, q, by omega, rfl, by go_num, rfl, q0, by omega, HG, Lib.hid (below_drewN' HB.out _)⟩
                · have HG : Hid (grantN C vs pt (j + 1) = q + 1) := Lib.hid ((grantN_yes (by rw [HGA.out, g, g2]; rfl)).trans (by rw [HN.out]))
                  go_wp2
                  go_quiet (fail)
                  go_wp2
                  go_roundg (C.length - (j + 1))
                  case measure => omega
                  case rel => exact ⟨j + 1, q + 1, by omega, rfl, by go_num, by go_num, by omega, by omega, HG, Lib.hid (below_drewN' HB.out _)⟩
            · obtain rfl : j = C.length := by omega
              have hq : q = cntG T C C.length pt := HN.out.symm.trans (HGR.out pt)
              have o1 := O1.out
              have o2 := O2.out
              have o3 := O3.out
              rw [← hq] at o1 o2 o3
              have dd1 : decide (clm < q) = false := decide_eq_false (by omega)
              have hsw : IntKind.i64.wrap (clm - q) = clm - q := IntWalk.i64_in _ (by omega)
              have OO3 := Lib.hid o3
              clear hq o3 hlt O1 O2 O3 HN
              by_cases hwc : wc = 0
              · have dd2 : decide (n < q) = false := decide_eq_false (by have := o2 hwc; omega)
                have hwb : (wc == 0) = true := beq_iff_eq.2 hwc
                clear o2 hwc
                rcases g : (pt.toList == s.toList)
                · clear OO3
                  go_wp2
                  go_roundg (T.length - (i + 1))
                  case measure => omega
                  case rel => exact ⟨i + 1, by omega, rfl, by go_num, HB⟩
                · by_cases hlc : lc = 0
                  · have hlb : (l == clm - q) = true := beq_iff_eq.2 (OO3.out hlc (beq_iff_eq.1 g))
                    have hlcb : (lc == 0) = true := beq_iff_eq.2 hlc
                    clear OO3 hlc
                    go_wp2
                    go_roundg (T.length - (i + 1))
                    case measure => omega
                    case rel => exact ⟨i + 1, by omega, rfl, by go_num, HB⟩
                  · have hlcb : (lc == 0) = false := beq_eq_false_iff_ne.2 hlc
                    clear OO3 hlc
                    go_wp2
                    go_roundg (T.length - (i + 1))
                    case measure => omega
                    case rel => exact ⟨i + 1, by omega, rfl, by go_num, HB⟩
              · have hwb : (wc == 0) = false := beq_eq_false_iff_ne.2 hwc
                clear o2 hwc
                rcases dd2 : decide (n < q)
                · rcases g : (pt.toList == s.toList)
                  · clear OO3
                    go_wp2
                    go_roundg (T.length - (i + 1))
                    case measure => omega
                    case rel => exact ⟨i + 1, by omega, rfl, by go_num, HB⟩
                  · by_cases hlc : lc = 0
                    · have hlb : (l == clm - q) = true := beq_iff_eq.2 (OO3.out hlc (beq_iff_eq.1 g))
                      have hlcb : (lc == 0) = true := beq_iff_eq.2 hlc
                      clear OO3 hlc
                      go_wp2
                      go_roundg (T.length - (i + 1))
                      case measure => omega
                      case rel => exact ⟨i + 1, by omega, rfl, by go_num, HB⟩
                    · have hlcb : (lc == 0) = false := beq_eq_false_iff_ne.2 hlc
                      clear OO3 hlc
                      go_wp2
                      go_roundg (T.length - (i + 1))
                      case measure => omega
                      case rel => exact ⟨i + 1, by omega, rfl, by go_num, HB⟩
                · rcases g : (pt.toList == s.toList)
                  · clear OO3
                    go_wp2
                    go_roundg (T.length - (i + 1))
                    case measure => omega
                    case rel => exact ⟨i + 1, by omega, rfl, by go_num, HB⟩
                  · by_cases hlc : lc = 0
                    · have hlb : (l == clm - q) = true := beq_iff_eq.2 (OO3.out hlc (beq_iff_eq.1 g))
                      have hlcb : (lc == 0) = true := beq_iff_eq.2 hlc
                      clear OO3 hlc
                      go_wp2
                      go_roundg (T.length - (i + 1))
                      case measure => omega
                      case rel => exact ⟨i + 1, by omega, rfl, by go_num, HB⟩
                    · have hlcb : (lc == 0) = false := beq_eq_false_iff_ne.2 hlc
                      clear OO3 hlc
                      go_wp2
                      go_roundg (T.length - (i + 1))
                      case measure => omega
                      case rel => exact ⟨i + 1, by omega, rfl, by go_num, HB⟩
        · obtain rfl : i = T.length := by omega
          have HBF := Lib.hid (Below.step BW.out HB2.out)
          by_cases hwc : wc = 0
          · subst hwc
            go_wp2
            go_ret
            exact ⟨rfl, HBF.out⟩
          · have hwb : (wc == 0) = false := beq_eq_false_iff_ne.2 hwc
            have c0 : wr.cell? ⟨bq, oq, none⟩ = some (.int .i64 (cntV vs 0 vs.length)) := HQ.out _ HB2.out 0 (by omega)
            rw [HZ.out hwc] at c0
            clear hwc
            go_wp2
            go_ret
            exact ⟨rfl, HBF.out⟩
end Go.Proofs.Ytnpfgngfolgdfaa
