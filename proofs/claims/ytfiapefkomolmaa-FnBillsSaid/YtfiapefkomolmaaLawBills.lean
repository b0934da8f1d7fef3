/- The walk of the statement on bills (P27). No statement of the seat is proved here. -/
import Derived.Test.YtfiapefkomolmaaBillLaw
import Derived.Test.YtfiapefkomolmaaDrawBills
import Derived.Test.YtfiapefkomolmaaJoinI
import Derived.Test.YtfiapefkomolmaaJoinS
namespace Go.Proofs.Ytfiapefkomolmaa
open Go.RowKit

set_option maxHeartbeats 2000000 in
set_option maxRecDepth 10000 in
theorem likeItems_same (v u : Value) (xs : List Item) (w : World) (hv : Sl eItem w v xs) (hu : Sl eItem w u xs) :
    Calls Try.prog 54 #[v, u] w fun e w' => e = .returned (.bool true) ∧ Below w.heap.size w w' := by
  obtain ⟨A, cap, rfl, _, hm, hc⟩ := hv.shape
  obtain ⟨A2, cap2, rfl, _, _, hc2⟩ := hu.shape
  clear hv hu
  go_enter Try.func54, Try.ntmps54
  go_wp2
  go_loopg [5] xs.length (fun gi i wr => ∃ k : Nat, k ≤ xs.length ∧ gi = xs.length - k ∧ i = .int .i64 k ∧ Hid (Below w.heap.size w wr) ∧ w.heap.size ≤ wr.heap.size)
  case atStart => exact ⟨0, Nat.zero_le _, rfl, rfl, Lib.hid (Below.refl _ _), Nat.le_refl _⟩
  case round =>
    obtain ⟨k, hk, rfl, rfl, HB, hs⟩ := hrel
    by_cases hlt : k < xs.length
    · obtain ⟨b, off, rfl, hbl, hcell⟩ := hc (by omega)
      obtain ⟨b2, off2, rfl, hbl2, hcell2⟩ := hc2 (by omega)
      have hb := HB.out
      have c0 : wr.cell? ⟨b, off + k * 4, none⟩ = some (.string xs[k].name) := (hb.cell (p := ⟨b, off + k * 4, none⟩) hbl).trans (by simpa [eItem, Nat.add_assoc] using hcell k hlt 0 _ (by decide) rfl)
      have c1 : wr.cell? ⟨b, off + k * 4 + 1, none⟩ = some (.int .i64 xs[k].pieces) := (hb.cell (p := ⟨b, off + k * 4 + 1, none⟩) hbl).trans (by simpa [eItem, Nat.add_assoc] using hcell k hlt 1 _ (by decide) rfl)
      have c2 : wr.cell? ⟨b, off + k * 4 + 2, none⟩ = some (.int .i64 xs[k].cents) := (hb.cell (p := ⟨b, off + k * 4 + 2, none⟩) hbl).trans (by simpa [eItem, Nat.add_assoc] using hcell k hlt 2 _ (by decide) rfl)
      have c3 : wr.cell? ⟨b, off + k * 4 + 3, none⟩ = some (.bool xs[k].work) := (hb.cell (p := ⟨b, off + k * 4 + 3, none⟩) hbl).trans (by simpa [eItem, Nat.add_assoc] using hcell k hlt 3 _ (by decide) rfl)
      have d0 : wr.cell? ⟨b2, off2 + k * 4, none⟩ = some (.string xs[k].name) := (hb.cell (p := ⟨b2, off2 + k * 4, none⟩) hbl2).trans (by simpa [eItem, Nat.add_assoc] using hcell2 k hlt 0 _ (by decide) rfl)
      have d1 : wr.cell? ⟨b2, off2 + k * 4 + 1, none⟩ = some (.int .i64 xs[k].pieces) := (hb.cell (p := ⟨b2, off2 + k * 4 + 1, none⟩) hbl2).trans (by simpa [eItem, Nat.add_assoc] using hcell2 k hlt 1 _ (by decide) rfl)
      have d2 : wr.cell? ⟨b2, off2 + k * 4 + 2, none⟩ = some (.int .i64 xs[k].cents) := (hb.cell (p := ⟨b2, off2 + k * 4 + 2, none⟩) hbl2).trans (by simpa [eItem, Nat.add_assoc] using hcell2 k hlt 2 _ (by decide) rfl)
      have d3 : wr.cell? ⟨b2, off2 + k * 4 + 3, none⟩ = some (.bool xs[k].work) := (hb.cell (p := ⟨b2, off2 + k * 4 + 3, none⟩) hbl2).trans (by simpa [eItem, Nat.add_assoc] using hcell2 k hlt 3 _ (by decide) rfl)
      clear hc hcell hc2 hcell2 hb
      generalize xs[k] = x at *
      obtain ⟨nm, pc, ct, wk⟩ := x
      simp only at *
      go_wp2
      go_quiet (fail)
      go_wp2
      go_roundg (xs.length - (k + 1))
      case measure => omega
      case rel => exact ⟨k + 1, by omega, rfl, by go_num, Lib.hid (below_drewN' HB.out _), hs⟩
    · go_wp2
      go_ret
      exact ⟨rfl, HB.out⟩
set_option maxHeartbeats 16000000 in
set_option maxRecDepth 20000 in
theorem walk_FnBills (a0 : Option Addr) (len0 cap0 : Nat) (z0 : List Int) (w : World) (p0 : IsRow .u8 w a0 len0 cap0 z0) :
    Calls Try.prog 14 #[.slice a0 len0 cap0] w fun e w' => e = .returned (.bool true) ∧ Below w.heap.size w w' := by
  obtain ⟨hcap, hby⟩ := p0.bytes
  have hmax := p0.max
  by_cases hbig : 4096 < len0
  · have HD : Hid (decide (4096 < len0) = true) := Lib.hid (decide_eq_true hbig)
    go_enter Try.func14, Try.ntmps14
    go_wp2_with fail
    refine (big_any a0 len0 cap0 w hmax).mono ?_
    rintro e w1 ⟨rfl, rfl⟩
    rw [HD.out]
    go_wp2
    go_ret
    exact ⟨rfl, Below.refl _ _⟩
  have HD : Hid (decide (4096 < len0) = false) := Lib.hid (decide_eq_false hbig)
  have hl4 : len0 ≤ 4096 := by omega
  have HBY := Lib.hid hby
  go_enter Try.func14, Try.ntmps14
  go_wp2_with fail
  refine (big_any a0 len0 cap0 w hmax).mono ?_
  rintro e w1 ⟨rfl, rfl⟩
  rw [HD.out]
  go_wp2_with fail
  refine (DrawTotalOf_any a0 len0 cap0 w hl4 hcap hby).mono ?_
  rintro e w2 ⟨v, xs, u, ts, r, rfl, ho, hl, hk, hu, hl2, hrb, hb⟩
  have BW := Lib.hid hb
  have V := Lib.hid (Sl.of_own ho (by unfold big40; omega))
  have U := Lib.hid (Sl.of_own hu (by unfold big40; omega))
  have HK := Lib.hid hk
  have wr1 : (Lit.int .i64 r).wf = true := by simp [Lit.wf, IntKind.min, IntKind.max, IntKind.signed, IntKind.bits]; omega
  have hxl : xs.length ≤ 1048576 := by omega
  have htl : ts.length ≤ 1048576 := by omega
  obtain ⟨t, tc, hT⟩ : ∃ a b, TotalOf_r xs ts r = (a, b) := ⟨_, _, rfl⟩
  obtain ⟨s, sc, hS⟩ : ∃ a b, SumOf_r xs = (a, b) := ⟨_, _, rfl⟩
  obtain ⟨d, dc, hDi⟩ : ∃ a b, DiscountOf_r xs ts = (a, b) := ⟨_, _, rfl⟩
  obtain ⟨n, nc, hN⟩ : ∃ a b, NextTier_r xs ts = (a, b) := ⟨_, _, rfl⟩
  have HT := Lib.hid hT
  have HS := Lib.hid hS
  have HDI := Lib.hid hDi
  have HN := Lib.hid hN
  have HRB := Lib.hid hrb
  clear ho hu hk hb p0 hbig hmax hT hS hDi hN hrb hby
  go_wp2_with fail
  refine (iTotalOf_law v xs u ts r w2 V.out hxl HK.out U.out htl wr1).mono ?_
  rw [HT.out]
  rintro e w3 ⟨rfl, hb⟩
  replace V := Lib.hid (V.out.below hb)
  replace U := Lib.hid (U.out.below hb)
  replace BW := Lib.hid (Below.step BW.out hb)
  clear hb
  go_wp2_with fail
  refine (sTotalOf_law v xs u ts r w3 V.out hxl HK.out U.out htl wr1).mono ?_
  rw [HT.out]
  rintro e w4 ⟨rfl, hb⟩
  replace V := Lib.hid (V.out.below hb)
  replace U := Lib.hid (U.out.below hb)
  replace BW := Lib.hid (Below.step BW.out hb)
  clear hb
  go_wp2_with fail
  refine (iSumOf_law v xs w4 V.out hxl HK.out).mono ?_
  rw [HS.out]
  rintro e w5 ⟨rfl, hb⟩
  replace V := Lib.hid (V.out.below hb)
  replace U := Lib.hid (U.out.below hb)
  replace BW := Lib.hid (Below.step BW.out hb)
  clear hb
  go_wp2_with fail
  refine (sSumOf_law v xs w5 V.out hxl HK.out).mono ?_
  rw [HS.out]
  rintro e w6 ⟨rfl, hb⟩
  replace V := Lib.hid (V.out.below hb)
  replace U := Lib.hid (U.out.below hb)
  replace BW := Lib.hid (Below.step BW.out hb)
  clear hb
  go_wp2_with fail
  refine (iDiscountOf_law v xs u ts w6 V.out hxl HK.out U.out htl).mono ?_
  rw [HDI.out]
  rintro e w7 ⟨rfl, hb⟩
  replace V := Lib.hid (V.out.below hb)
  replace U := Lib.hid (U.out.below hb)
  replace BW := Lib.hid (Below.step BW.out hb)
  clear hb
  go_wp2_with fail
  refine (sDiscountOf_law v xs u ts w7 V.out hxl HK.out U.out htl).mono ?_
  rw [HDI.out]
  rintro e w8 ⟨rfl, hb⟩
  replace V := Lib.hid (V.out.below hb)
  replace U := Lib.hid (U.out.below hb)
  replace BW := Lib.hid (Below.step BW.out hb)
  clear hb
  go_wp2_with fail
  refine (iNextTier_law v xs u ts w8 V.out hxl HK.out U.out htl).mono ?_
  rw [HN.out]
  rintro e w9 ⟨rfl, hb⟩
  replace V := Lib.hid (V.out.below hb)
  replace U := Lib.hid (U.out.below hb)
  replace BW := Lib.hid (Below.step BW.out hb)
  clear hb
  go_wp2_with fail
  refine (sNextTier_law v xs u ts w9 V.out hxl HK.out U.out htl).mono ?_
  rw [HN.out]
  rintro e w10 ⟨rfl, hb⟩
  replace V := Lib.hid (V.out.below hb)
  replace U := Lib.hid (U.out.below hb)
  replace BW := Lib.hid (Below.step BW.out hb)
  clear hb
  go_wp2_with fail
  refine (DrawJoinItems_any a0 len0 cap0 w10 hl4 hcap (Bytes.below HBY.out BW.out)).mono ?_
  rintro e w11 ⟨x, ys, rfl, ho, hl3, hk2, hb⟩
  have X := Lib.hid (Sl.of_own ho (by unfold big40; omega))
  have HK2 := Lib.hid hk2
  have hyl : ys.length ≤ 1048576 := by omega
  obtain ⟨js, jc, hJ⟩ : ∃ a b, JoinItems_r ys = (a, b) := ⟨_, _, rfl⟩
  have HJ := Lib.hid hJ
  have hjl : js.length ≤ 1048576 := by have := JoinItems_len ys; rw [hJ] at this; exact this
  have HKJ := Lib.hid (join_ok hJ hk2)
  clear hJ ho hk2
  replace V := Lib.hid (V.out.below hb)
  replace U := Lib.hid (U.out.below hb)
  replace BW := Lib.hid (Below.step BW.out hb)
  clear hb
  go_wp2_with fail
  refine (iJoinItems_law x ys w11 X.out hyl HK2.out).mono ?_
  rw [HJ.out]
  rintro e w12 ⟨j1, rfl, hoj, hb⟩
  replace V := Lib.hid (V.out.below hb)
  replace U := Lib.hid (U.out.below hb)
  replace X := Lib.hid (X.out.below hb)
  replace BW := Lib.hid (Below.step BW.out hb)
  have J1 := Lib.hid (Sl.of_own hoj (big_of hjl))
  clear hoj hb
  go_wp2_with fail
  refine (sJoinItems_law x ys w12 X.out hyl HK2.out).mono ?_
  rw [HJ.out]
  rintro e w13 ⟨j2, rfl, hoj, hb⟩
  replace V := Lib.hid (V.out.below hb)
  replace U := Lib.hid (U.out.below hb)
  replace X := Lib.hid (X.out.below hb)
  replace J1 := Lib.hid (J1.out.below hb)
  replace BW := Lib.hid (Below.step BW.out hb)
  have J2 := Lib.hid (Sl.of_own hoj (big_of hjl))
  clear hoj hb
  obtain ⟨AJ, cj, ej, _, _, _⟩ := J1.out.shape
  subst ej
  obtain ⟨AX, cx, ex, _, _, _⟩ := X.out.shape
  subst ex
  go_wp2_with fail
  refine (likeItems_same _ _ js w13 J1.out J2.out).mono ?_
  rintro e w14 ⟨rfl, hb⟩
  replace V := Lib.hid (V.out.below hb)
  replace U := Lib.hid (U.out.below hb)
  replace X := Lib.hid (X.out.below hb)
  replace J1 := Lib.hid (J1.out.below hb)
  replace J2 := Lib.hid (J2.out.below hb)
  replace BW := Lib.hid (Below.step BW.out hb)
  clear hb
  go_wp2_with fail
  refine (iAreTiers_law u ts w14 U.out htl).mono ?_
  rintro e w15 ⟨rfl, hb⟩
  replace V := Lib.hid (V.out.below hb)
  replace U := Lib.hid (U.out.below hb)
  replace X := Lib.hid (X.out.below hb)
  replace J1 := Lib.hid (J1.out.below hb)
  replace J2 := Lib.hid (J2.out.below hb)
  replace BW := Lib.hid (Below.step BW.out hb)
  clear hb
  go_wp2_with fail
  refine (sAreTiers_law u ts w15 U.out htl).mono ?_
  rintro e w16 ⟨rfl, hb⟩
  replace V := Lib.hid (V.out.below hb)
  replace U := Lib.hid (U.out.below hb)
  replace X := Lib.hid (X.out.below hb)
  replace J1 := Lib.hid (J1.out.below hb)
  replace J2 := Lib.hid (J2.out.below hb)
  replace BW := Lib.hid (Below.step BW.out hb)
  clear hb
  go_wp2_with fail
  refine (iAreItems_law v xs w16 V.out hxl HK.out).mono ?_
  rintro e w17 ⟨rfl, hb⟩
  replace V := Lib.hid (V.out.below hb)
  replace U := Lib.hid (U.out.below hb)
  replace X := Lib.hid (X.out.below hb)
  replace J1 := Lib.hid (J1.out.below hb)
  replace J2 := Lib.hid (J2.out.below hb)
  replace BW := Lib.hid (Below.step BW.out hb)
  clear hb
  have hsc : (sc == 0) = AreItems_r xs := sum_code HS.out
  rw [← hsc]
  clear hsc
  by_cases hj0 : jc = 0
  · obtain ⟨q, hq1, hq2, hq3⟩ := join_bill HJ.out hj0
    have HQ1 := Lib.hid hq1
    have HQ2 := Lib.hid hq2
    have hjb : (jc == 0) = true := beq_iff_eq.2 hj0
    have hlj : ¬ ((ys.length : Int) < (js.length : Int)) := by omega
    have hlj2 : ¬ (ys.length < js.length) := by omega
    clear hq1 hq2 hq3 hj0
    go_wp2_with fail
    refine (iSumOf_law _ ys w17 X.out hyl HK2.out).mono ?_
    rw [HQ1.out]
    rintro e w18 ⟨rfl, hb⟩
    replace V := Lib.hid (V.out.below hb)
    replace U := Lib.hid (U.out.below hb)
    replace X := Lib.hid (X.out.below hb)
    replace J1 := Lib.hid (J1.out.below hb)
    replace J2 := Lib.hid (J2.out.below hb)
    replace BW := Lib.hid (Below.step BW.out hb)
    clear hb
    go_wp2_with fail
    refine (iSumOf_law _ js w18 J1.out hjl HKJ.out).mono ?_
    rw [HQ2.out]
    rintro e w19 ⟨rfl, hb⟩
    replace V := Lib.hid (V.out.below hb)
    replace U := Lib.hid (U.out.below hb)
    replace X := Lib.hid (X.out.below hb)
    replace J1 := Lib.hid (J1.out.below hb)
    replace J2 := Lib.hid (J2.out.below hb)
    replace BW := Lib.hid (Below.step BW.out hb)
    clear hb
    by_cases hn0 : nc = 0
    · have hnl := next_least HN.out hn0
      have hnb : (nc == 0) = true := beq_iff_eq.2 hn0
      have hnl2 : ¬ (n < 1) := by omega
      by_cases ht0 : tc = 0
      · obtain ⟨net, tax, K⟩ := bill_ok HT.out HS.out HDI.out ht0
        have htb : (tc != 0) = false := by rw [ht0]; rfl
        have kr := K.r0
        have kr1 := K.r1
        have e1 : IntKind.i64.wrap (s - d) = net := by rw [K.eqn]; exact IntWalk.i64_in _ (by have := K.n0; have := K.n1; omega)
        have e2 : IntKind.i64.wrap (t - net) = tax := by rw [K.eqt]; exact IntWalk.i64_in _ (by have := K.x0; have := K.x1; omega)
        have e3 : IntKind.i64.wrap (100 * tax) = 100 * tax := IntWalk.i64_in _ (by have := K.x0; have := K.x1; omega)
        have e4 : IntKind.i64.wrap (net * r) = net * r := IntWalk.i64_in _ (by have := K.p0; have := K.p1; omega)
        have e5 : IntKind.i64.wrap (100 * tax - net * r) = 100 * tax - net * r := IntWalk.i64_in _ (by have := K.p0; have := K.p1; have := K.x0; have := K.x1; omega)
        have e6 : IntKind.i64.wrap (2 * (100 * tax - net * r)) = 2 * (100 * tax - net * r) := IntWalk.i64_in _ (by have := K.p0; have := K.p1; have := K.x0; have := K.x1; omega)
        have e7 : IntKind.i64.wrap (net * r - 100 * tax) = net * r - 100 * tax := IntWalk.i64_in _ (by have := K.p0; have := K.p1; have := K.x0; have := K.x1; omega)
        have e8 : IntKind.i64.wrap (2 * (net * r - 100 * tax)) = 2 * (net * r - 100 * tax) := IntWalk.i64_in _ (by have := K.p0; have := K.p1; have := K.x0; have := K.x1; omega)
        have f1 : 0 ≤ d := K.d0
        have f2 : d ≤ s := K.ds
        have f3 := K.up
        have f4 := K.dn
        clear hn0 ht0 K kr kr1
        go_wp2
        go_ret
        exact ⟨ret_bool (by simp [f3, f4]), BW.out⟩
      · have htb : (tc != 0) = true := bne_iff_ne.2 ht0
        clear hn0 hnl
        go_wp2
        go_ret
        exact ⟨rfl, BW.out⟩
    · have hnb : (nc == 0) = false := beq_eq_false_iff_ne.2 hn0
      by_cases ht0 : tc = 0
      · obtain ⟨net, tax, K⟩ := bill_ok HT.out HS.out HDI.out ht0
        have htb : (tc != 0) = false := by rw [ht0]; rfl
        have kr := K.r0
        have kr1 := K.r1
        have e1 : IntKind.i64.wrap (s - d) = net := by rw [K.eqn]; exact IntWalk.i64_in _ (by have := K.n0; have := K.n1; omega)
        have e2 : IntKind.i64.wrap (t - net) = tax := by rw [K.eqt]; exact IntWalk.i64_in _ (by have := K.x0; have := K.x1; omega)
        have e3 : IntKind.i64.wrap (100 * tax) = 100 * tax := IntWalk.i64_in _ (by have := K.x0; have := K.x1; omega)
        have e4 : IntKind.i64.wrap (net * r) = net * r := IntWalk.i64_in _ (by have := K.p0; have := K.p1; omega)
        have e5 : IntKind.i64.wrap (100 * tax - net * r) = 100 * tax - net * r := IntWalk.i64_in _ (by have := K.p0; have := K.p1; have := K.x0; have := K.x1; omega)
        have e6 : IntKind.i64.wrap (2 * (100 * tax - net * r)) = 2 * (100 * tax - net * r) := IntWalk.i64_in _ (by have := K.p0; have := K.p1; have := K.x0; have := K.x1; omega)
        have e7 : IntKind.i64.wrap (net * r - 100 * tax) = net * r - 100 * tax := IntWalk.i64_in _ (by have := K.p0; have := K.p1; have := K.x0; have := K.x1; omega)
        have e8 : IntKind.i64.wrap (2 * (net * r - 100 * tax)) = 2 * (net * r - 100 * tax) := IntWalk.i64_in _ (by have := K.p0; have := K.p1; have := K.x0; have := K.x1; omega)
        have f1 : 0 ≤ d := K.d0
        have f2 : d ≤ s := K.ds
        have f3 := K.up
        have f4 := K.dn
        clear hn0 ht0 K kr kr1
        go_wp2
        go_ret
        exact ⟨ret_bool (by simp [f3, f4]), BW.out⟩
      · have htb : (tc != 0) = true := bne_iff_ne.2 ht0
        clear hn0
        go_wp2
        go_ret
        exact ⟨rfl, BW.out⟩
  · have hjb : (jc == 0) = false := beq_eq_false_iff_ne.2 hj0
    clear hj0
    by_cases hn0 : nc = 0
    · have hnl := next_least HN.out hn0
      have hnb : (nc == 0) = true := beq_iff_eq.2 hn0
      have hnl2 : ¬ (n < 1) := by omega
      by_cases ht0 : tc = 0
      · obtain ⟨net, tax, K⟩ := bill_ok HT.out HS.out HDI.out ht0
        have htb : (tc != 0) = false := by rw [ht0]; rfl
        have kr := K.r0
        have kr1 := K.r1
        have e1 : IntKind.i64.wrap (s - d) = net := by rw [K.eqn]; exact IntWalk.i64_in _ (by have := K.n0; have := K.n1; omega)
        have e2 : IntKind.i64.wrap (t - net) = tax := by rw [K.eqt]; exact IntWalk.i64_in _ (by have := K.x0; have := K.x1; omega)
        have e3 : IntKind.i64.wrap (100 * tax) = 100 * tax := IntWalk.i64_in _ (by have := K.x0; have := K.x1; omega)
        have e4 : IntKind.i64.wrap (net * r) = net * r := IntWalk.i64_in _ (by have := K.p0; have := K.p1; omega)
        have e5 : IntKind.i64.wrap (100 * tax - net * r) = 100 * tax - net * r := IntWalk.i64_in _ (by have := K.p0; have := K.p1; have := K.x0; have := K.x1; omega)
        have e6 : IntKind.i64.wrap (2 * (100 * tax - net * r)) = 2 * (100 * tax - net * r) := IntWalk.i64_in _ (by have := K.p0; have := K.p1; have := K.x0; have := K.x1; omega)
        have e7 : IntKind.i64.wrap (net * r - 100 * tax) = net * r - 100 * tax := IntWalk.i64_in _ (by have := K.p0; have := K.p1; have := K.x0; have := K.x1; omega)
        have e8 : IntKind.i64.wrap (2 * (net * r - 100 * tax)) = 2 * (net * r - 100 * tax) := IntWalk.i64_in _ (by have := K.p0; have := K.p1; have := K.x0; have := K.x1; omega)
        have f1 : 0 ≤ d := K.d0
        have f2 : d ≤ s := K.ds
        have f3 := K.up
        have f4 := K.dn
        clear hn0 ht0 K kr kr1
        go_wp2
        go_ret
        exact ⟨ret_bool (by simp [f3, f4]), BW.out⟩
      · have htb : (tc != 0) = true := bne_iff_ne.2 ht0
        clear hn0 hnl
        go_wp2
        go_ret
        exact ⟨rfl, BW.out⟩
    · have hnb : (nc == 0) = false := beq_eq_false_iff_ne.2 hn0
      by_cases ht0 : tc = 0
      · obtain ⟨net, tax, K⟩ := bill_ok HT.out HS.out HDI.out ht0
        have htb : (tc != 0) = false := by rw [ht0]; rfl
        have kr := K.r0
        have kr1 := K.r1
        have e1 : IntKind.i64.wrap (s - d) = net := by rw [K.eqn]; exact IntWalk.i64_in _ (by have := K.n0; have := K.n1; omega)
        have e2 : IntKind.i64.wrap (t - net) = tax := by rw [K.eqt]; exact IntWalk.i64_in _ (by have := K.x0; have := K.x1; omega)
        have e3 : IntKind.i64.wrap (100 * tax) = 100 * tax := IntWalk.i64_in _ (by have := K.x0; have := K.x1; omega)
        have e4 : IntKind.i64.wrap (net * r) = net * r := IntWalk.i64_in _ (by have := K.p0; have := K.p1; omega)
        have e5 : IntKind.i64.wrap (100 * tax - net * r) = 100 * tax - net * r := IntWalk.i64_in _ (by have := K.p0; have := K.p1; have := K.x0; have := K.x1; omega)
        have e6 : IntKind.i64.wrap (2 * (100 * tax - net * r)) = 2 * (100 * tax - net * r) := IntWalk.i64_in _ (by have := K.p0; have := K.p1; have := K.x0; have := K.x1; omega)
        have e7 : IntKind.i64.wrap (net * r - 100 * tax) = net * r - 100 * tax := IntWalk.i64_in _ (by have := K.p0; have := K.p1; have := K.x0; have := K.x1; omega)
        have e8 : IntKind.i64.wrap (2 * (net * r - 100 * tax)) = 2 * (net * r - 100 * tax) := IntWalk.i64_in _ (by have := K.p0; have := K.p1; have := K.x0; have := K.x1; omega)
        have f1 : 0 ≤ d := K.d0
        have f2 : d ≤ s := K.ds
        have f3 := K.up
        have f4 := K.dn
        clear hn0 ht0 K kr kr1
        go_wp2
        go_ret
        exact ⟨ret_bool (by simp [f3, f4]), BW.out⟩
      · have htb : (tc != 0) = true := bne_iff_ne.2 ht0
        clear hn0
        go_wp2
        go_ret
        exact ⟨rfl, BW.out⟩
end Go.Proofs.Ytfiapefkomolmaa
