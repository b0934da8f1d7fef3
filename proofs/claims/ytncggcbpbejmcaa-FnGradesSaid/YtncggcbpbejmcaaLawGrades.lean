/- The walk of the statement on grades (P25). No statement of the seat is proved here. -/
import Derived.Test.YtncggcbpbejmcaaGradeLaw
import Derived.Test.YtncggcbpbejmcaaDrawG
import Derived.Test.YtncggcbpbejmcaaHasInt
import Derived.Deep.RegionHeld3
namespace Go.Proofs.Ytncggcbpbejmcaa
open Go.RowKit

set_option maxHeartbeats 16000000 in
set_option maxRecDepth 20000 in
theorem walk_FnGrades (a0 : Option Addr) (len0 cap0 : Nat) (z0 : List Int) (w : World) (p0 : IsRow .u8 w a0 len0 cap0 z0) :
    Calls Try.prog 13 #[.slice a0 len0 cap0] w fun e w' => e = .returned (.bool true) ∧ Below w.heap.size w w' := by
  obtain ⟨hcap, hby⟩ := p0.bytes
  have hmax := p0.max
  by_cases hbig : 4096 < len0
  · have HD : Hid (decide (4096 < len0) = true) := Lib.hid (decide_eq_true hbig)
    go_enter Try.func13, Try.ntmps13
    go_wp2_with fail
    refine (big_any a0 len0 cap0 w hmax).mono ?_
    rintro e w1 ⟨rfl, rfl⟩
    rw [HD.out]
    go_wp2
    go_ret
    exact ⟨rfl, Below.refl _ _⟩
  have HD : Hid (decide (4096 < len0) = false) := Lib.hid (decide_eq_false hbig)
  have hl4 : len0 ≤ 4096 := by omega
  have HBY := Lib.hid hby
  go_enter Try.func13, Try.ntmps13
  go_wp2_with fail
  refine (big_any a0 len0 cap0 w hmax).mono ?_
  rintro e w1 ⟨rfl, rfl⟩
  rw [HD.out]
  go_wp2_with fail
  refine (DrawBestUsed_any a0 len0 cap0 w hl4 hcap hby).mono ?_
  rintro e w2 ⟨v, R, u, L, rfl, ho, hrl, hu, hul, hk, hb⟩
  have BW := Lib.hid hb
  have V := Lib.hid (Sl.of_own ho (by unfold big40; omega))
  have U := Lib.hid (Sl.of_own hu (by unfold big40; omega))
  have HK := Lib.hid hk
  have hrl2 : R.length ≤ 1048576 := by omega
  have hul2 : L.length ≤ 1048576 := by omega
  obtain ⟨b, bc, hBU⟩ : ∃ a c, BestUsed_r R L = (a, c) := ⟨_, _, rfl⟩
  obtain ⟨c, cc, hCG⟩ : ∃ a c, CountGrades_r R L = (a, c) := ⟨_, _, rfl⟩
  obtain ⟨s, sc, hSR⟩ : ∃ a c, SilentRules_r R = (a, c) := ⟨_, _, rfl⟩
  have hcl : c.length ≤ 1048576 := by have := CountGrades_len R L; rw [hCG] at this; exact this
  have hsl : s.length ≤ 1048576 := by have := SilentRules_len R; rw [hSR] at this; exact this
  have HBU := Lib.hid (BestUsed_e_of hBU)
  have HB0 := Lib.hid hBU
  have HCG := Lib.hid hCG
  have HSR := Lib.hid hSR
  clear ho hu hk p0 hbig hmax hBU hCG hSR hb hby
  go_wp2_with fail
  refine (iBestUsed_law v R u L w2 V.out hrl2 U.out hul2 HK.out).mono ?_
  rw [← HBU.out]
  rintro e w3 ⟨rfl, hb⟩
  replace V := Lib.hid (V.out.below hb)
  replace U := Lib.hid (U.out.below hb)
  replace BW := Lib.hid (Below.step BW.out hb)
  clear hb
  go_wp2_with fail
  refine (sBestUsed_law v R u L w3 V.out hrl2 U.out hul2 HK.out).mono ?_
  rw [← HBU.out]
  rintro e w4 ⟨rfl, hb⟩
  replace V := Lib.hid (V.out.below hb)
  replace U := Lib.hid (U.out.below hb)
  replace BW := Lib.hid (Below.step BW.out hb)
  clear hb
  go_wp2_with fail
  refine (iCountGrades_law v R u L w4 V.out hrl2 U.out hul2 HK.out).mono ?_
  rw [HCG.out]
  rintro e w5 ⟨c0, rfl, ho, hb⟩
  replace V := Lib.hid (V.out.below hb)
  replace U := Lib.hid (U.out.below hb)
  replace BW := Lib.hid (Below.step BW.out hb)
  have S_c0 := Lib.hid (Sl.of_own ho (big_of hcl))
  clear ho hb
  go_wp2_with fail
  refine (sCountGrades_law v R u L w5 V.out hrl2 U.out hul2 HK.out).mono ?_
  rw [HCG.out]
  rintro e w6 ⟨c1, rfl, ho, hb⟩
  replace V := Lib.hid (V.out.below hb)
  replace U := Lib.hid (U.out.below hb)
  replace S_c0 := Lib.hid (S_c0.out.below hb)
  replace BW := Lib.hid (Below.step BW.out hb)
  have S_c1 := Lib.hid (Sl.of_own ho (big_of hcl))
  clear ho hb
  go_wp2_with fail
  refine (iSilentRules_law v R w6 V.out hrl2).mono ?_
  rw [HSR.out]
  rintro e w7 ⟨s0, rfl, ho, hb⟩
  replace V := Lib.hid (V.out.below hb)
  replace U := Lib.hid (U.out.below hb)
  replace S_c0 := Lib.hid (S_c0.out.below hb)
  replace S_c1 := Lib.hid (S_c1.out.below hb)
  replace BW := Lib.hid (Below.step BW.out hb)
  have S_s0 := Lib.hid (Sl.of_own ho (big_of hsl))
  clear ho hb
  go_wp2_with fail
  refine (sSilentRules_law v R w7 V.out hrl2).mono ?_
  rw [HSR.out]
  rintro e w8 ⟨s1, rfl, ho, hb⟩
  replace V := Lib.hid (V.out.below hb)
  replace U := Lib.hid (U.out.below hb)
  replace S_c0 := Lib.hid (S_c0.out.below hb)
  replace S_c1 := Lib.hid (S_c1.out.below hb)
  replace S_s0 := Lib.hid (S_s0.out.below hb)
  replace BW := Lib.hid (Below.step BW.out hb)
  have S_s1 := Lib.hid (Sl.of_own ho (big_of hsl))
  clear ho hb
  go_wp2_with fail
  refine (DrawGradeOf_any a0 len0 cap0 w8 hl4 hcap (Bytes.below HBY.out BW.out)).mono ?_
  rintro e w9 ⟨r, R2, x, rfl, ho, hr2, hx, hb⟩
  have RR := Lib.hid (Sl.of_own ho (by unfold big40; omega))
  have HXO := Lib.hid hx
  have hr22 : R2.length ≤ 1048576 := by omega
  replace V := Lib.hid (V.out.below hb)
  replace U := Lib.hid (U.out.below hb)
  replace S_c0 := Lib.hid (S_c0.out.below hb)
  replace S_c1 := Lib.hid (S_c1.out.below hb)
  replace S_s0 := Lib.hid (S_s0.out.below hb)
  replace S_s1 := Lib.hid (S_s1.out.below hb)
  replace BW := Lib.hid (Below.step BW.out hb)
  clear hb ho hx
  obtain ⟨g, ix, gc, hGO⟩ : ∃ a b c, GradeOf_r R2 x = (a, b, c) := ⟨_, _, _, rfl⟩
  have HGO := Lib.hid hGO
  clear hGO
  have hbx : ∀ j, (w9.alloc (.cells #[.string x.name, .int .i64 x.hours, .int .i64 x.play, .int .i64 x.rust, .int .i64 x.dents] 33)).cell? ⟨w9.heap.size, j, none⟩ = #[Value.string x.name, .int .i64 x.hours, .int .i64 x.play, .int .i64 x.rust, .int .i64 x.dents][j]? := fun j => box_new _ _ _ j
  have KX : Hid (∀ W, Below (w9.alloc (.cells #[.string x.name, .int .i64 x.hours, .int .i64 x.play, .int .i64 x.rust, .int .i64 x.dents] 33)).heap.size (w9.alloc (.cells #[.string x.name, .int .i64 x.hours, .int .i64 x.play, .int .i64 x.rust, .int .i64 x.dents] 33)) W → W.cell? ⟨w9.heap.size, 0, none⟩ = some (.string x.name) ∧ W.cell? ⟨w9.heap.size, 1, none⟩ = some (.int .i64 x.hours) ∧ W.cell? ⟨w9.heap.size, 2, none⟩ = some (.int .i64 x.play) ∧ W.cell? ⟨w9.heap.size, 3, none⟩ = some (.int .i64 x.rust) ∧ W.cell? ⟨w9.heap.size, 4, none⟩ = some (.int .i64 x.dents)) := Lib.hid (fun W h => ⟨(h.cell (p := ⟨w9.heap.size, 0, none⟩) (by simp)).trans ((hbx 0).trans rfl), (h.cell (p := ⟨w9.heap.size, 1, none⟩) (by simp)).trans ((hbx 1).trans rfl), (h.cell (p := ⟨w9.heap.size, 2, none⟩) (by simp)).trans ((hbx 2).trans rfl), (h.cell (p := ⟨w9.heap.size, 3, none⟩) (by simp)).trans ((hbx 3).trans rfl), (h.cell (p := ⟨w9.heap.size, 4, none⟩) (by simp)).trans ((hbx 4).trans rfl)⟩)
  have EX : Hid (Below (w9.alloc (.cells #[.string x.name, .int .i64 x.hours, .int .i64 x.play, .int .i64 x.rust, .int .i64 x.dents] 33)).heap.size (w9.alloc (.cells #[.string x.name, .int .i64 x.hours, .int .i64 x.play, .int .i64 x.rust, .int .i64 x.dents] 33)) (w9.alloc (.cells #[.string x.name, .int .i64 x.hours, .int .i64 x.play, .int .i64 x.rust, .int .i64 x.dents] 33))) := Lib.hid (Below.refl _ _)
  have hb : Below w9.heap.size w9 (w9.alloc (.cells #[.string x.name, .int .i64 x.hours, .int .i64 x.play, .int .i64 x.rust, .int .i64 x.dents] 33)) := (Below.refl _ _).alloc (Nat.le_refl _) _
  clear hbx
  replace V := Lib.hid (V.out.below hb)
  replace U := Lib.hid (U.out.below hb)
  replace S_c0 := Lib.hid (S_c0.out.below hb)
  replace S_c1 := Lib.hid (S_c1.out.below hb)
  replace S_s0 := Lib.hid (S_s0.out.below hb)
  replace S_s1 := Lib.hid (S_s1.out.below hb)
  replace RR := Lib.hid (RR.out.below hb)
  replace BW := Lib.hid (Below.step BW.out hb)
  clear hb
  obtain ⟨x0, x1, x2, x3, x4⟩ := KX.out _ EX.out
  go_wp2_with fail
  generalize w9.alloc (.cells #[.string x.name, .int .i64 x.hours, .int .i64 x.play, .int .i64 x.rust, .int .i64 x.dents] 33) = wX at *
  generalize w9.heap.size = X at *
  refine (iGradeOf_law r R2 x wX RR.out hr22 HXO.out).mono ?_
  rw [HGO.out]
  rintro e w11 ⟨rfl, hb⟩
  clear x0 x1 x2 x3 x4
  replace V := Lib.hid (V.out.below hb)
  replace U := Lib.hid (U.out.below hb)
  replace S_c0 := Lib.hid (S_c0.out.below hb)
  replace S_c1 := Lib.hid (S_c1.out.below hb)
  replace S_s0 := Lib.hid (S_s0.out.below hb)
  replace S_s1 := Lib.hid (S_s1.out.below hb)
  replace RR := Lib.hid (RR.out.below hb)
  replace BW := Lib.hid (Below.step BW.out hb)
  replace EX := Lib.hid (Below.step EX.out hb)
  clear hb
  obtain ⟨x0, x1, x2, x3, x4⟩ := KX.out _ EX.out
  go_wp2_with fail
  refine (sGradeOf_law r R2 x w11 RR.out hr22 HXO.out).mono ?_
  rw [HGO.out]
  rintro e w12 ⟨rfl, hb⟩
  clear x0 x1 x2 x3 x4
  replace V := Lib.hid (V.out.below hb)
  replace U := Lib.hid (U.out.below hb)
  replace S_c0 := Lib.hid (S_c0.out.below hb)
  replace S_c1 := Lib.hid (S_c1.out.below hb)
  replace S_s0 := Lib.hid (S_s0.out.below hb)
  replace S_s1 := Lib.hid (S_s1.out.below hb)
  replace RR := Lib.hid (RR.out.below hb)
  replace BW := Lib.hid (Below.step BW.out hb)
  replace EX := Lib.hid (Below.step EX.out hb)
  clear hb
  -- region 13
  have LI1 : Hid (∀ W, Below w12.heap.size w12 W → Calls Try.prog 56 #[c0, c1] W fun e w' => e = .returned (.bool true) ∧ Below w12.heap.size w12 w') := Lib.hid (fun W h => (toB_draw (likeInts_same c0 c1 c W (S_c0.out.below h) (S_c1.out.below h))).mono fun _ _ hh => ⟨hh.1, Below.step h hh.2⟩)
  have LI2 : Hid (∀ W, Below w12.heap.size w12 W → Calls Try.prog 56 #[s0, s1] W fun e w' => e = .returned (.bool true) ∧ Below w12.heap.size w12 w') := Lib.hid (fun W h => (toB_draw (likeInts_same s0 s1 s W (S_s0.out.below h) (S_s1.out.below h))).mono fun _ _ hh => ⟨hh.1, Below.step h hh.2⟩)
  have IU1 : Hid (∀ W, Below w12.heap.size w12 W → Calls Try.prog 23 #[.agg #[.string x.name, .int .i64 x.hours, .int .i64 x.play, .int .i64 x.rust, .int .i64 x.dents]] W fun e w' => e = .returned (.bool (isUsed x)) ∧ Below w12.heap.size w12 w') := Lib.hid (fun W h => (iIsUsed_any x W HXO.out).mono fun _ _ hh => ⟨hh.1, Below.step h hh.2⟩)
  have IU2 : Hid (∀ W, Below w12.heap.size w12 W → Calls Try.prog 21 #[.agg #[.string x.name, .int .i64 x.hours, .int .i64 x.play, .int .i64 x.rust, .int .i64 x.dents]] W fun e w' => e = .returned (.bool (isUsed x)) ∧ Below w12.heap.size w12 w') := Lib.hid (fun W h => (sIsUsed_any x W HXO.out).mono fun _ _ hh => ⟨hh.1, Below.step h hh.2⟩)
  have ARL : Hid (∀ W, Below w12.heap.size w12 W → Calls Try.prog 18 #[v] W fun e w' => e = .returned (.bool (sc == 0)) ∧ Below w12.heap.size w12 w') := Lib.hid (fun W h => (iAreRules_law v R W (V.out.below h) hrl2).mono fun _ _ hh => ⟨by rw [hh.1]; exact ret_bool (sil_code HSR.out).symm, Below.step h hh.2⟩)
  have KEEP : Hid (∀ W, Below w12.heap.size w12 W → W.cell? ⟨X, 0, none⟩ = some (.string x.name) ∧ W.cell? ⟨X, 1, none⟩ = some (.int .i64 x.hours) ∧ W.cell? ⟨X, 2, none⟩ = some (.int .i64 x.play) ∧ W.cell? ⟨X, 3, none⟩ = some (.int .i64 x.rust) ∧ W.cell? ⟨X, 4, none⟩ = some (.int .i64 x.dents)) := Lib.hid (fun W h => KX.out W (Below.step EX.out h))
  have BR0 : Below w12.heap.size w12 w12.drew := (Below.refl _ _).drew
  have TOK1 : True := trivial
  generalize hIU : isUsed x = iu at *
  have HIU := Lib.hid hIU
  clear hIU
  go_wp2
  go_region_held3 (fun W => W.cell? ⟨X, 0, none⟩ = some (.string x.name) ∧ W.cell? ⟨X, 1, none⟩ = some (.int .i64 x.hours) ∧ W.cell? ⟨X, 2, none⟩ = some (.int .i64 x.play) ∧ W.cell? ⟨X, 3, none⟩ = some (.int .i64 x.rust) ∧ W.cell? ⟨X, 4, none⟩ = some (.int .i64 x.dents)) (first | exact KEEP.out _ BR0 | exact KEEP.out _ hb)
    (first
      | (go_at_call 56; clear TOK1; refine (LI1.out _ ?_).mono ?_; (first | assumption); rintro e wn ⟨rfl, hb⟩)
      | (go_at_call 56; refine (LI2.out _ ?_).mono ?_; (first | assumption); rintro e wn ⟨rfl, hb⟩)
      | (go_at_call 23; refine (IU1.out _ ?_).mono ?_; (first | assumption); rintro e wn ⟨rfl, hb⟩)
      | (go_at_call 21; refine (IU2.out _ ?_).mono ?_; (first | assumption); rintro e wn ⟨rfl, hb⟩)
      | (go_at_call 18; refine (ARL.out _ ?_).mono ?_; (first | assumption); rintro e wn ⟨rfl, hb⟩))
  -- TAIL
  have BN := Lib.hid hb
  obtain ⟨A, cap, rfl, _, hm, hc⟩ := U.out.shape
  clear hb LI1 LI2 IU1 IU2 ARL KEEP KX EX S_c1 S_s0 S_s1 HBY HIU HBU HSR
  have hno1 : True := trivial
  by_cases hg0 : gc = 0
  · subst hg0
    obtain ⟨ha, hix, hixe, hor⟩ := grade_at HGO.out rfl
    have HOR := Lib.hid hor
    have HNO : Hid ((silL R2 R2.length).any (· == ix) = false) := Lib.hid (by
      rw [List.any_eq_false]
      intro y hy
      rw [beq_iff_eq]
      intro e
      have hl := grade_loud ha hix
      rw [← hixe, ← e] at hl
      exact hl hy)
    have HSO := Lib.hid (SilentRules_ok ha)
    have hsl2 : (silL R2 R2.length).length ≤ 1048576 := by
      have := SilentRules_len R2
      rw [HSO.out] at this
      exact this
    clear ha hix hixe hor
    go_wp2_with fail
    refine (iSilentRules_law r R2 wn (RR.out.below BN.out) hr22).mono ?_
    rw [HSO.out]
    rintro e wS ⟨sv, rfl, hoS, hbS⟩
    have HSI := Lib.hid (Sl.of_own hoS (big_of hsl2))
    have BS := Lib.hid (Below.step BN.out hbS)
    clear hoS hbS
    go_wp2_with fail
    refine (hasInt_any sv (silL R2 R2.length) ix wS HSI.out).mono ?_
    rintro e wT ⟨rfl, rfl⟩
    rw [HNO.out]
    rcases HOR.out with ⟨rfl, rfl⟩ | ⟨k, hk, rfl, hgr⟩
    · rcases hB : gBoth R L
      · have e1 := HCG.out.symm.trans (CountGrades_bad hB)
        injection e1 with e1 e2
        subst e2
        have hbc : bc ≠ 0 := fun e => by
          have := (best_at HB0.out e).1
          rw [hB] at this
          cases this
        have hbb : (bc == 0) = false := beq_eq_false_iff_ne.2 hbc
        have HF := Lib.hid (Below.step BW.out BS.out)
        clear hB e1 hbc
        go_wp2
        go_ret
        exact ⟨rfl, HF.out⟩
      · have e1 := HCG.out.symm.trans (CountGrades_ok hB)
        injection e1 with _ e2
        subst e2
        obtain ⟨h5, hsum, hbd, h60⟩ := count_sum HCG.out rfl
        have HSUM : Hid (sumTo c c.length = (L.length : Int)) := Lib.hid (by rw [h5]; exact hsum)
        have HBD := Lib.hid hbd
        have HGB := Lib.hid hB
        have HSI := Lib.hid (S_c0.out.below BS.out)
        have hc6 : c.length ≤ 1000000 := by omega
        clear hbd hsum hB
        go_wp2_with fail
        refine (sum_any c0 c wS HSI.out hc6 (fun k hk => by have := HBD.out k; omega)).mono ?_
        rintro e wU ⟨rfl, rfl⟩
        rw [HSUM.out]
        by_cases hbc : bc = 0
        · subst hbc
          obtain ⟨_, j, hj, rfl, hmin⟩ := best_at HB0.out rfl
          have HMIN := Lib.hid hmin
          obtain ⟨bb, off, rfl, hbl, hcell⟩ := hc (by omega)
          have hbt := BS.out
          have y0 : wS.cell? ⟨bb, off + j * 5, none⟩ = some (.string L[j].name) := (hbt.cell (p := ⟨bb, off + j * 5, none⟩) hbl).trans (by simpa [eUsed, Nat.add_assoc] using hcell j hj 0 _ (by decide) rfl)
          have y1 : wS.cell? ⟨bb, off + j * 5 + 1, none⟩ = some (.int .i64 L[j].hours) := (hbt.cell (p := ⟨bb, off + j * 5 + 1, none⟩) hbl).trans (by simpa [eUsed, Nat.add_assoc] using hcell j hj 1 _ (by decide) rfl)
          have y2 : wS.cell? ⟨bb, off + j * 5 + 2, none⟩ = some (.int .i64 L[j].play) := (hbt.cell (p := ⟨bb, off + j * 5 + 2, none⟩) hbl).trans (by simpa [eUsed, Nat.add_assoc] using hcell j hj 2 _ (by decide) rfl)
          have y3 : wS.cell? ⟨bb, off + j * 5 + 3, none⟩ = some (.int .i64 L[j].rust) := (hbt.cell (p := ⟨bb, off + j * 5 + 3, none⟩) hbl).trans (by simpa [eUsed, Nat.add_assoc] using hcell j hj 3 _ (by decide) rfl)
          have y4 : wS.cell? ⟨bb, off + j * 5 + 4, none⟩ = some (.int .i64 L[j].dents) := (hbt.cell (p := ⟨bb, off + j * 5 + 4, none⟩) hbl).trans (by simpa [eUsed, Nat.add_assoc] using hcell j hj 4 _ (by decide) rfl)
          have hjI : (0 : Int) ≤ (j : Int) := by omega
          have hjL : (j : Int) < (L.length : Int) := by omega
          have HOKJ := Lib.hid (HK.out _ (List.getElem_mem hj))
          clear hmin hbt
          go_wp2_with fail
          refine (iGradeOf_law v R L[j] wS (V.out.below BS.out) hrl2 HOKJ.out).mono ?_
          rw [grade_all HGB.out j hj]
          rintro e wV ⟨rfl, hbV⟩
          have BV := Below.step BS.out hbV
          clear hbV y0 y1 y2 y3 y4
          go_wp2
          go_loopg [30] L.length (fun gi i wr => ∃ k : Nat, k ≤ L.length ∧ gi = L.length - k ∧ i = .int .i64 k ∧ Below w12.heap.size w12 wr)
          case atStart => exact ⟨0, Nat.zero_le _, rfl, rfl, BV⟩
          case round =>
            obtain ⟨k, hk, rfl, rfl, hb⟩ := hrel
            clear BV
            by_cases hlt : k < L.length
            · have hlt2 := hlt
              have y0 : wr.cell? ⟨bb, off + k * 5, none⟩ = some (.string L[k].name) := (hb.cell (p := ⟨bb, off + k * 5, none⟩) hbl).trans (by simpa [eUsed, Nat.add_assoc] using hcell k hlt 0 _ (by decide) rfl)
              have y1 : wr.cell? ⟨bb, off + k * 5 + 1, none⟩ = some (.int .i64 L[k].hours) := (hb.cell (p := ⟨bb, off + k * 5 + 1, none⟩) hbl).trans (by simpa [eUsed, Nat.add_assoc] using hcell k hlt 1 _ (by decide) rfl)
              have y2 : wr.cell? ⟨bb, off + k * 5 + 2, none⟩ = some (.int .i64 L[k].play) := (hb.cell (p := ⟨bb, off + k * 5 + 2, none⟩) hbl).trans (by simpa [eUsed, Nat.add_assoc] using hcell k hlt 2 _ (by decide) rfl)
              have y3 : wr.cell? ⟨bb, off + k * 5 + 3, none⟩ = some (.int .i64 L[k].rust) := (hb.cell (p := ⟨bb, off + k * 5 + 3, none⟩) hbl).trans (by simpa [eUsed, Nat.add_assoc] using hcell k hlt 3 _ (by decide) rfl)
              have y4 : wr.cell? ⟨bb, off + k * 5 + 4, none⟩ = some (.int .i64 L[k].dents) := (hb.cell (p := ⟨bb, off + k * 5 + 4, none⟩) hbl).trans (by simpa [eUsed, Nat.add_assoc] using hcell k hlt 4 _ (by decide) rfl)
              have HOKK := Lib.hid (HK.out _ (List.getElem_mem hlt))
              have HBK := Lib.hid hb
              have hle := HMIN.out k hlt
              have d1 : decide (gradeF R L[k] < gradeF R L[j]) = false := decide_eq_false (by omega)
              have HAT := Lib.hid (grade_all HGB.out k hlt)
              clear hb
              go_wp2_with fail
              refine (iGradeOf_law v R L[k] wr (V.out.below HBK.out) hrl2 HOKK.out).mono ?_
              rw [HAT.out]
              rintro e w3 ⟨rfl, hb3⟩
              have HB := Lib.hid (Below.step HBK.out hb3)
              clear hb3 y0 y1 y2 y3 y4
              go_wp2
              go_roundg (L.length - (k + 1))
              case measure => omega
              case rel => exact ⟨k + 1, by omega, rfl, by go_num, HB.out⟩
            · obtain rfl : k = L.length := by omega
              have HF := Lib.hid (Below.step BW.out hb)
              clear hb
              go_wp2
              go_ret
              exact ⟨rfl, HF.out⟩
        · have hbb : (bc == 0) = false := beq_eq_false_iff_ne.2 hbc
          have HF := Lib.hid (Below.step BW.out BS.out)
          go_wp2
          go_ret
          exact ⟨rfl, HF.out⟩
    · obtain ⟨Ar, capr, rfl, _, hmr, hcr⟩ := RR.out.shape
      obtain ⟨br, offr, rfl, hbr, hcellr⟩ := hcr (by omega)
      have hbt := BS.out
      have d0 : wS.cell? ⟨br, offr + k * 3, none⟩ = some (.int .i64 R2[k].field) := (hbt.cell (p := ⟨br, offr + k * 3, none⟩) hbr).trans (by simpa [eRule, Nat.add_assoc] using hcellr k hk 0 _ (by decide) rfl)
      have d1 : wS.cell? ⟨br, offr + k * 3 + 1, none⟩ = some (.int .i64 R2[k].least) := (hbt.cell (p := ⟨br, offr + k * 3 + 1, none⟩) hbr).trans (by simpa [eRule, Nat.add_assoc] using hcellr k hk 1 _ (by decide) rfl)
      have d2 : wS.cell? ⟨br, offr + k * 3 + 2, none⟩ = some (.int .i64 R2[k].grade) := (hbt.cell (p := ⟨br, offr + k * 3 + 2, none⟩) hbr).trans (by simpa [eRule, Nat.add_assoc] using hcellr k hk 2 _ (by decide) rfl)
      rw [hgr] at d2
      have hkI : (0 : Int) ≤ (k : Int) := by omega
      have hkL : (k : Int) < (R2.length : Int) := by omega
      have hkn : decide ((k : Int) < 0) = false := decide_eq_false (by omega)
      clear hbt hcr hcellr
      rcases hB : gBoth R L
      · have e1 := HCG.out.symm.trans (CountGrades_bad hB)
        injection e1 with e1 e2
        subst e2
        have hbc : bc ≠ 0 := fun e => by
          have := (best_at HB0.out e).1
          rw [hB] at this
          cases this
        have hbb : (bc == 0) = false := beq_eq_false_iff_ne.2 hbc
        have HF := Lib.hid (Below.step BW.out BS.out)
        clear hB e1 hbc
        go_wp2
        go_ret
        exact ⟨rfl, HF.out⟩
      · have e1 := HCG.out.symm.trans (CountGrades_ok hB)
        injection e1 with _ e2
        subst e2
        obtain ⟨h5, hsum, hbd, h60⟩ := count_sum HCG.out rfl
        have HSUM : Hid (sumTo c c.length = (L.length : Int)) := Lib.hid (by rw [h5]; exact hsum)
        have HBD := Lib.hid hbd
        have HGB := Lib.hid hB
        have HSI := Lib.hid (S_c0.out.below BS.out)
        have hc6 : c.length ≤ 1000000 := by omega
        clear hbd hsum hB
        go_wp2_with fail
        refine (sum_any c0 c wS HSI.out hc6 (fun k hk => by have := HBD.out k; omega)).mono ?_
        rintro e wU ⟨rfl, rfl⟩
        rw [HSUM.out]
        by_cases hbc : bc = 0
        · subst hbc
          obtain ⟨_, j, hj, rfl, hmin⟩ := best_at HB0.out rfl
          have HMIN := Lib.hid hmin
          obtain ⟨bb, off, rfl, hbl, hcell⟩ := hc (by omega)
          have hbt := BS.out
          have y0 : wS.cell? ⟨bb, off + j * 5, none⟩ = some (.string L[j].name) := (hbt.cell (p := ⟨bb, off + j * 5, none⟩) hbl).trans (by simpa [eUsed, Nat.add_assoc] using hcell j hj 0 _ (by decide) rfl)
          have y1 : wS.cell? ⟨bb, off + j * 5 + 1, none⟩ = some (.int .i64 L[j].hours) := (hbt.cell (p := ⟨bb, off + j * 5 + 1, none⟩) hbl).trans (by simpa [eUsed, Nat.add_assoc] using hcell j hj 1 _ (by decide) rfl)
          have y2 : wS.cell? ⟨bb, off + j * 5 + 2, none⟩ = some (.int .i64 L[j].play) := (hbt.cell (p := ⟨bb, off + j * 5 + 2, none⟩) hbl).trans (by simpa [eUsed, Nat.add_assoc] using hcell j hj 2 _ (by decide) rfl)
          have y3 : wS.cell? ⟨bb, off + j * 5 + 3, none⟩ = some (.int .i64 L[j].rust) := (hbt.cell (p := ⟨bb, off + j * 5 + 3, none⟩) hbl).trans (by simpa [eUsed, Nat.add_assoc] using hcell j hj 3 _ (by decide) rfl)
          have y4 : wS.cell? ⟨bb, off + j * 5 + 4, none⟩ = some (.int .i64 L[j].dents) := (hbt.cell (p := ⟨bb, off + j * 5 + 4, none⟩) hbl).trans (by simpa [eUsed, Nat.add_assoc] using hcell j hj 4 _ (by decide) rfl)
          have hjI : (0 : Int) ≤ (j : Int) := by omega
          have hjL : (j : Int) < (L.length : Int) := by omega
          have HOKJ := Lib.hid (HK.out _ (List.getElem_mem hj))
          clear hmin hbt
          go_wp2_with fail
          refine (iGradeOf_law v R L[j] wS (V.out.below BS.out) hrl2 HOKJ.out).mono ?_
          rw [grade_all HGB.out j hj]
          rintro e wV ⟨rfl, hbV⟩
          have BV := Below.step BS.out hbV
          clear hbV y0 y1 y2 y3 y4
          go_wp2
          go_loopg [30] L.length (fun gi i wr => ∃ k : Nat, k ≤ L.length ∧ gi = L.length - k ∧ i = .int .i64 k ∧ Below w12.heap.size w12 wr)
          case atStart => exact ⟨0, Nat.zero_le _, rfl, rfl, BV⟩
          case round =>
            obtain ⟨k, hk, rfl, rfl, hb⟩ := hrel
            clear BV
            by_cases hlt : k < L.length
            · have hlt2 := hlt
              have y0 : wr.cell? ⟨bb, off + k * 5, none⟩ = some (.string L[k].name) := (hb.cell (p := ⟨bb, off + k * 5, none⟩) hbl).trans (by simpa [eUsed, Nat.add_assoc] using hcell k hlt 0 _ (by decide) rfl)
              have y1 : wr.cell? ⟨bb, off + k * 5 + 1, none⟩ = some (.int .i64 L[k].hours) := (hb.cell (p := ⟨bb, off + k * 5 + 1, none⟩) hbl).trans (by simpa [eUsed, Nat.add_assoc] using hcell k hlt 1 _ (by decide) rfl)
              have y2 : wr.cell? ⟨bb, off + k * 5 + 2, none⟩ = some (.int .i64 L[k].play) := (hb.cell (p := ⟨bb, off + k * 5 + 2, none⟩) hbl).trans (by simpa [eUsed, Nat.add_assoc] using hcell k hlt 2 _ (by decide) rfl)
              have y3 : wr.cell? ⟨bb, off + k * 5 + 3, none⟩ = some (.int .i64 L[k].rust) := (hb.cell (p := ⟨bb, off + k * 5 + 3, none⟩) hbl).trans (by simpa [eUsed, Nat.add_assoc] using hcell k hlt 3 _ (by decide) rfl)
              have y4 : wr.cell? ⟨bb, off + k * 5 + 4, none⟩ = some (.int .i64 L[k].dents) := (hb.cell (p := ⟨bb, off + k * 5 + 4, none⟩) hbl).trans (by simpa [eUsed, Nat.add_assoc] using hcell k hlt 4 _ (by decide) rfl)
              have HOKK := Lib.hid (HK.out _ (List.getElem_mem hlt))
              have HBK := Lib.hid hb
              have hle := HMIN.out k hlt
              have d1 : decide (gradeF R L[k] < gradeF R L[j]) = false := decide_eq_false (by omega)
              have HAT := Lib.hid (grade_all HGB.out k hlt)
              clear hb
              go_wp2_with fail
              refine (iGradeOf_law v R L[k] wr (V.out.below HBK.out) hrl2 HOKK.out).mono ?_
              rw [HAT.out]
              rintro e w3 ⟨rfl, hb3⟩
              have HB := Lib.hid (Below.step HBK.out hb3)
              clear hb3 y0 y1 y2 y3 y4
              go_wp2
              go_roundg (L.length - (k + 1))
              case measure => omega
              case rel => exact ⟨k + 1, by omega, rfl, by go_num, HB.out⟩
            · obtain rfl : k = L.length := by omega
              have HF := Lib.hid (Below.step BW.out hb)
              clear hb
              go_wp2
              go_ret
              exact ⟨rfl, HF.out⟩
        · have hbb : (bc == 0) = false := beq_eq_false_iff_ne.2 hbc
          have HF := Lib.hid (Below.step BW.out BS.out)
          go_wp2
          go_ret
          exact ⟨rfl, HF.out⟩
  · have hgb : (gc == 0) = false := beq_eq_false_iff_ne.2 hg0
    rcases hB : gBoth R L
    · have e1 := HCG.out.symm.trans (CountGrades_bad hB)
      injection e1 with e1 e2
      subst e2
      have hbc : bc ≠ 0 := fun e => by
        have := (best_at HB0.out e).1
        rw [hB] at this
        cases this
      have hbb : (bc == 0) = false := beq_eq_false_iff_ne.2 hbc
      have HF := Lib.hid (Below.step BW.out BN.out)
      clear hB e1 hbc
      go_wp2
      go_ret
      exact ⟨rfl, HF.out⟩
    · have e1 := HCG.out.symm.trans (CountGrades_ok hB)
      injection e1 with _ e2
      subst e2
      obtain ⟨h5, hsum, hbd, h60⟩ := count_sum HCG.out rfl
      have HSUM : Hid (sumTo c c.length = (L.length : Int)) := Lib.hid (by rw [h5]; exact hsum)
      have HBD := Lib.hid hbd
      have HGB := Lib.hid hB
      have HSI := Lib.hid (S_c0.out.below BN.out)
      have hc6 : c.length ≤ 1000000 := by omega
      clear hbd hsum hB
      go_wp2_with fail
      refine (sum_any c0 c wn HSI.out hc6 (fun k hk => by have := HBD.out k; omega)).mono ?_
      rintro e wU ⟨rfl, rfl⟩
      rw [HSUM.out]
      by_cases hbc : bc = 0
      · subst hbc
        obtain ⟨_, j, hj, rfl, hmin⟩ := best_at HB0.out rfl
        have HMIN := Lib.hid hmin
        obtain ⟨bb, off, rfl, hbl, hcell⟩ := hc (by omega)
        have hbt := BN.out
        have y0 : wn.cell? ⟨bb, off + j * 5, none⟩ = some (.string L[j].name) := (hbt.cell (p := ⟨bb, off + j * 5, none⟩) hbl).trans (by simpa [eUsed, Nat.add_assoc] using hcell j hj 0 _ (by decide) rfl)
        have y1 : wn.cell? ⟨bb, off + j * 5 + 1, none⟩ = some (.int .i64 L[j].hours) := (hbt.cell (p := ⟨bb, off + j * 5 + 1, none⟩) hbl).trans (by simpa [eUsed, Nat.add_assoc] using hcell j hj 1 _ (by decide) rfl)
        have y2 : wn.cell? ⟨bb, off + j * 5 + 2, none⟩ = some (.int .i64 L[j].play) := (hbt.cell (p := ⟨bb, off + j * 5 + 2, none⟩) hbl).trans (by simpa [eUsed, Nat.add_assoc] using hcell j hj 2 _ (by decide) rfl)
        have y3 : wn.cell? ⟨bb, off + j * 5 + 3, none⟩ = some (.int .i64 L[j].rust) := (hbt.cell (p := ⟨bb, off + j * 5 + 3, none⟩) hbl).trans (by simpa [eUsed, Nat.add_assoc] using hcell j hj 3 _ (by decide) rfl)
        have y4 : wn.cell? ⟨bb, off + j * 5 + 4, none⟩ = some (.int .i64 L[j].dents) := (hbt.cell (p := ⟨bb, off + j * 5 + 4, none⟩) hbl).trans (by simpa [eUsed, Nat.add_assoc] using hcell j hj 4 _ (by decide) rfl)
        have hjI : (0 : Int) ≤ (j : Int) := by omega
        have hjL : (j : Int) < (L.length : Int) := by omega
        have HOKJ := Lib.hid (HK.out _ (List.getElem_mem hj))
        clear hmin hbt
        go_wp2_with fail
        refine (iGradeOf_law v R L[j] wn (V.out.below BN.out) hrl2 HOKJ.out).mono ?_
        rw [grade_all HGB.out j hj]
        rintro e wV ⟨rfl, hbV⟩
        have BV := Below.step BN.out hbV
        clear hbV y0 y1 y2 y3 y4
        go_wp2
        go_loopg [30] L.length (fun gi i wr => ∃ k : Nat, k ≤ L.length ∧ gi = L.length - k ∧ i = .int .i64 k ∧ Below w12.heap.size w12 wr)
        case atStart => exact ⟨0, Nat.zero_le _, rfl, rfl, BV⟩
        case round =>
          obtain ⟨k, hk, rfl, rfl, hb⟩ := hrel
          clear BV
          by_cases hlt : k < L.length
          · have hlt2 := hlt
            have y0 : wr.cell? ⟨bb, off + k * 5, none⟩ = some (.string L[k].name) := (hb.cell (p := ⟨bb, off + k * 5, none⟩) hbl).trans (by simpa [eUsed, Nat.add_assoc] using hcell k hlt 0 _ (by decide) rfl)
            have y1 : wr.cell? ⟨bb, off + k * 5 + 1, none⟩ = some (.int .i64 L[k].hours) := (hb.cell (p := ⟨bb, off + k * 5 + 1, none⟩) hbl).trans (by simpa [eUsed, Nat.add_assoc] using hcell k hlt 1 _ (by decide) rfl)
            have y2 : wr.cell? ⟨bb, off + k * 5 + 2, none⟩ = some (.int .i64 L[k].play) := (hb.cell (p := ⟨bb, off + k * 5 + 2, none⟩) hbl).trans (by simpa [eUsed, Nat.add_assoc] using hcell k hlt 2 _ (by decide) rfl)
            have y3 : wr.cell? ⟨bb, off + k * 5 + 3, none⟩ = some (.int .i64 L[k].rust) := (hb.cell (p := ⟨bb, off + k * 5 + 3, none⟩) hbl).trans (by simpa [eUsed, Nat.add_assoc] using hcell k hlt 3 _ (by decide) rfl)
            have y4 : wr.cell? ⟨bb, off + k * 5 + 4, none⟩ = some (.int .i64 L[k].dents) := (hb.cell (p := ⟨bb, off + k * 5 + 4, none⟩) hbl).trans (by simpa [eUsed, Nat.add_assoc] using hcell k hlt 4 _ (by decide) rfl)
            have HOKK := Lib.hid (HK.out _ (List.getElem_mem hlt))
            have HBK := Lib.hid hb
            have hle := HMIN.out k hlt
            have d1 : decide (gradeF R L[k] < gradeF R L[j]) = false := decide_eq_false (by omega)
            have HAT := Lib.hid (grade_all HGB.out k hlt)
            clear hb
            go_wp2_with fail
            refine (iGradeOf_law v R L[k] wr (V.out.below HBK.out) hrl2 HOKK.out).mono ?_
            rw [HAT.out]
            rintro e w3 ⟨rfl, hb3⟩
            have HB := Lib.hid (Below.step HBK.out hb3)
            clear hb3 y0 y1 y2 y3 y4
            go_wp2
            go_roundg (L.length - (k + 1))
            case measure => omega
            case rel => exact ⟨k + 1, by omega, rfl, by go_num, HB.out⟩
          · obtain rfl : k = L.length := by omega
            have HF := Lib.hid (Below.step BW.out hb)
            clear hb
            go_wp2
            go_ret
            exact ⟨rfl, HF.out⟩
      · have hbb : (bc == 0) = false := beq_eq_false_iff_ne.2 hbc
        have HF := Lib.hid (Below.step BW.out BN.out)
        go_wp2
        go_ret
        exact ⟨rfl, HF.out⟩
end Go.Proofs.Ytncggcbpbejmcaa
