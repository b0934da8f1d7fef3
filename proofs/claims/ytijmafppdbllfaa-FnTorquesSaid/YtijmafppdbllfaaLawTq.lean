/- The walk of the statement on plans (P26). No statement of the seat is proved here. -/
import Derived.Test.YtijmafppdbllfaaTqLaw
import Derived.Test.YtijmafppdbllfaaTqDraw
import Derived.Test.YtijmafppdbllfaaWrLaw
import Derived.Test.YtijmafppdbllfaaPlanTI
import Derived.Test.YtijmafppdbllfaaPlanTS
import Derived.Test.YtijmafppdbllfaaPlanLI
import Derived.Test.YtijmafppdbllfaaPlanLS
import Derived.StillTailTactics
namespace Go.Proofs.Ytijmafppdbllfaa
open Go.RowKit

theorem Bytes.below {w w' : World} {A : Option Addr} {n : Nat} (h : Bytes w A n w.heap.size) (hb : Below w.heap.size w w') : Bytes w' A n w'.heap.size := fun hn => by
  obtain ⟨b, off, e, hbp, hx⟩ := h hn
  refine ⟨b, off, e, Nat.lt_of_lt_of_le hbp hb.size, fun j hj => ?_⟩
  obtain ⟨x, hx1, hx2⟩ := hx j hj
  exact ⟨x, hx1, (hb.cell (p := ⟨b, off + j, none⟩) hbp).trans hx2⟩
theorem sumTo_zero {xs : List Int} (h : ∀ k, k < xs.length → xs.getD k 0 = 0) : sumTo xs xs.length = 0 := by
  have := sumTo_bd (xs := xs) (B := 0) (Int.le_refl _) (fun k hk => by rw [h k hk]; omega) xs.length (Nat.le_refl _)
  omega
/-- the rows as the walk reads them: at a world, and at all that leave what was there as it was -/
def RowsAt (w : World) (A : Option Addr) (ps : List (Int × Int)) : Prop := ∀ (j : Nat) (x v : Int), ps[j]? = some (x, v) → ∃ b off q, A = some ⟨b, off, none⟩ ∧ ∀ w', Below w.heap.size w w' → w'.cell? ⟨b, off + j, none⟩ = some (.slice (some ⟨q, 0, none⟩) 2 2) ∧ w'.cell? ⟨q, 0, none⟩ = some (.int .i64 x) ∧ w'.cell? ⟨q, 1, none⟩ = some (.int .i64 v)
theorem RdP.rows {w : World} {v : Value} {ps : List (Int × Int)} (h : RdP w v ps) : ∃ A cap, v = .slice A ps.length cap ∧ RowsAt w A ps := by
  obtain ⟨A, cap, e, _, _, hc⟩ := h.shape
  refine ⟨A, cap, e, fun j x v hj => ?_⟩
  obtain ⟨hl, e2⟩ := List.getElem?_eq_some_iff.1 hj
  obtain ⟨b, off, e3, hb, hx⟩ := hc (by omega)
  obtain ⟨q, h1, h2⟩ := hx j hl
  rw [e2] at h2
  exact ⟨b, off, q, e3, fun w' hw => ⟨(hw.cell hb).trans h1, (hw.cell h2.lt).trans h2.c0, (hw.cell h2.lt).trans h2.c1⟩⟩
set_option maxHeartbeats 16000000 in
set_option maxRecDepth 20000 in
theorem walk_FnTorques (a0 : Option Addr) (len0 cap0 : Nat) (z0 : List Int) (w : World) (p0 : IsRow .u8 w a0 len0 cap0 z0) :
    Calls Try.prog 13 #[.slice a0 len0 cap0] w fun e w' => e = .returned (.bool true) ∧ Below w.heap.size w w' := by
  obtain ⟨hcap, hby⟩ := p0.bytes
  have hmax := p0.max
  obtain ⟨i0, hi, hz0, hz1, hz2⟩ := info_parts info_i64
  by_cases hbig : 4096 < len0
  · have HD : Hid (decide (4096 < len0) = true) := Lib.hid (decide_eq_true hbig)
    go_enter Try.func13, Try.ntmps13
    go_wp2_with fail
    refine (big_any a0 len0 cap0 w hmax).mono ?_
    rintro e w1 ⟨rfl, rfl⟩
    rw [HD.out]
    go_wp2
    go_ret
    exact ⟨rfl, Below.refl _ _⟩
  have HD : Hid (decide (4096 < len0) = false) := Lib.hid (decide_eq_false hbig)
  have hl4 : len0 ≤ 4096 := by omega
  have HBY := Lib.hid hby
  go_enter Try.func13, Try.ntmps13
  go_wp2_with fail
  refine (big_any a0 len0 cap0 w hmax).mono ?_
  rintro e w1 ⟨rfl, rfl⟩
  rw [HD.out]
  go_wp2_with fail
  refine (DrawTightenPlan_any a0 len0 cap0 w hl4 hcap hby).mono ?_
  rintro e w2 ⟨n, t, s, rfl, ⟨n0, n1⟩, ⟨t0, t1⟩, ⟨s0, s1⟩, hb2⟩
  have wn : (Lit.int .i64 n).wf = true := by simp [Lit.wf, IntKind.min, IntKind.max, IntKind.signed, IntKind.bits]; omega
  have wt : (Lit.int .i64 t).wf = true := by simp [Lit.wf, IntKind.min, IntKind.max, IntKind.signed, IntKind.bits]; omega
  have ws : (Lit.int .i64 s).wf = true := by simp [Lit.wf, IntKind.min, IntKind.max, IntKind.signed, IntKind.bits]; omega
  have B2 := Lib.hid hb2
  clear hby p0 hb2 hbig hmax
  go_wp2_with fail
  refine (iTightenPlan_law n t s w2 wn wt ws).mono ?_
  rintro e w3 ⟨u1, rfl, ho, hb⟩
  have R13 := Lib.hid (RdP.of_own ho (big_of (TightenPlan_len n t s)))
  have B3 := Lib.hid (Below.step B2.out hb)
  clear hb ho B2
  go_wp2_with fail
  refine (sTightenPlan_law n t s w3 wn wt ws).mono ?_
  rintro e w4 ⟨u2, rfl, ho, hb⟩
  have R14 := Lib.hid (R13.out.below hb)
  have R24 := Lib.hid (RdP.of_own ho (big_of (TightenPlan_len n t s)))
  have B4 := Lib.hid (Below.step B3.out hb)
  clear hb ho B3 R13
  go_wp2_with fail
  refine (iLoosenPlan_law n t s w4 wn wt ws).mono ?_
  rintro e w5 ⟨u3, rfl, ho, hb⟩
  have R15 := Lib.hid (R14.out.below hb)
  have R25 := Lib.hid (R24.out.below hb)
  have R35 := Lib.hid (RdP.of_own ho (big_of (LoosenPlan_len n t s)))
  have B5 := Lib.hid (Below.step B4.out hb)
  clear hb ho B4 R14 R24
  go_wp2_with fail
  refine (sLoosenPlan_law n t s w5 wn wt ws).mono ?_
  rintro e w6 ⟨u4, rfl, ho, hb⟩
  have R16 := Lib.hid (R15.out.below hb)
  have R26 := Lib.hid (R25.out.below hb)
  have R36 := Lib.hid (R35.out.below hb)
  have R46 := Lib.hid (RdP.of_own ho (big_of (LoosenPlan_len n t s)))
  have B6 := Lib.hid (Below.step B5.out hb)
  clear hb ho B5 R15 R25 R35 wn wt ws
  go_wp2_with fail
  refine (DrawStarOrder_any a0 len0 cap0 w6 hl4 hcap (HBY.out.below B6.out)).mono ?_
  rintro e w7 ⟨k, rfl, ⟨k0, k1⟩, hb⟩
  have wk : (Lit.int .i64 k).wf = true := by simp [Lit.wf, IntKind.min, IntKind.max, IntKind.signed, IntKind.bits]; omega
  have R17 := Lib.hid (R16.out.below hb)
  have R27 := Lib.hid (R26.out.below hb)
  have R37 := Lib.hid (R36.out.below hb)
  have R47 := Lib.hid (R46.out.below hb)
  have B7 := Lib.hid (Below.step B6.out hb)
  clear hb B6 R16 R26 R36 R46 HBY
  go_wp2_with fail
  refine (iStarOrder_law k w7 wk).mono ?_
  rintro e w8 ⟨u5, rfl, ho, hb⟩
  have R18 := Lib.hid (R17.out.below hb)
  have R28 := Lib.hid (R27.out.below hb)
  have R38 := Lib.hid (R37.out.below hb)
  have R48 := Lib.hid (R47.out.below hb)
  have R58 := Lib.hid (Sl.of_own ho (big_of (StarOrder_len k)))
  have B8 := Lib.hid (Below.step B7.out hb)
  clear hb ho B7 R17 R27 R37 R47
  go_wp2_with fail
  refine (sStarOrder_law k w8 wk).mono ?_
  rintro e w9 ⟨u6, rfl, ho, hb⟩
  have R1 := Lib.hid (R18.out.below hb)
  have R2 := Lib.hid (R28.out.below hb)
  have R3 := Lib.hid (R38.out.below hb)
  have R4 := Lib.hid (R48.out.below hb)
  have R5 := Lib.hid (R58.out.below hb)
  have R6 := Lib.hid (Sl.of_own ho (big_of (StarOrder_len k)))
  have B9 := Lib.hid (Below.step B8.out hb)
  clear hb ho B8 R18 R28 R38 R48 R58 wk
  rcases hT : tightenB n t s
  · rw [Tighten_bad hT] at R1 R2 ⊢
    rw [Loosen_bad hT] at R3 R4 ⊢
    clear hT
    rcases hK : inR k 3 12
    · have hs : StarOrder_r k = ([], 2) := by unfold StarOrder_r; rw [hK]; rfl
      rw [hs] at R5 R6 ⊢
      clear hs hK
      go_wp2_with fail
      refine (likeRows_same u1 u2 _ w9 R1.out R2.out).mono ?_
      rintro e wa ⟨rfl, m1, rfl⟩
      go_wp2_with fail
      refine (likeRows_same u3 u4 _ (w9.drewN m1) R3.out R4.out).mono ?_
      rintro e wa ⟨rfl, m2, rfl⟩
      go_wp2_with fail
      refine (likeInts_same u5 u6 _ (w9.drewN (m1 + m2)) R5.out R6.out).mono ?_
      rintro e wa ⟨rfl, m3, rfl⟩
      have BA : Hid (Below w.heap.size w (w9.drewN (m1 + m2 + m3))) := Lib.hid (below_drewN' B9.out _)
      have Q1 : Hid (RdP (w9.drewN (m1 + m2 + m3)) u1 ([] : List (Int × Int))) := R1
      have Q2 : Hid (RdP (w9.drewN (m1 + m2 + m3)) u2 ([] : List (Int × Int))) := R2
      have Q3 : Hid (RdP (w9.drewN (m1 + m2 + m3)) u3 ([] : List (Int × Int))) := R3
      have Q4 : Hid (RdP (w9.drewN (m1 + m2 + m3)) u4 ([] : List (Int × Int))) := R4
      have Q5 : Hid (Ints (w9.drewN (m1 + m2 + m3)) u5 ([] : List Int)) := R5
      go_wp2
      generalize w9.drewN (m1 + m2 + m3) = wA at *
      clear R1 R2 R3 R4 R5 R6 B9
      refine wp_loop_rounds 1 ?_
      rw [rounds_succ]
      go_wp2
      go_ret
      exact ⟨rfl, BA.out⟩
    · obtain ⟨K, rfl⟩ := Int.eq_ofNat_of_zero_le k0
      have hs : StarOrder_r (K : Int) = (star K, 0) := by unfold StarOrder_r; rw [if_pos hK]; rfl
      have hK2 := inR_iff.1 hK
      have HST : Hid (∀ i : Nat, i < K → (i : Int) ∈ star K) := Lib.hid (star_perm (n := K) (by omega) (by omega)).2
      rw [hs] at R5 R6 ⊢
      clear hs hK hK2
      go_wp2_with fail
      refine (likeRows_same u1 u2 _ w9 R1.out R2.out).mono ?_
      rintro e wa ⟨rfl, m1, rfl⟩
      go_wp2_with fail
      refine (likeRows_same u3 u4 _ (w9.drewN m1) R3.out R4.out).mono ?_
      rintro e wa ⟨rfl, m2, rfl⟩
      go_wp2_with fail
      refine (likeInts_same u5 u6 _ (w9.drewN (m1 + m2)) R5.out R6.out).mono ?_
      rintro e wa ⟨rfl, m3, rfl⟩
      have BA : Hid (Below w.heap.size w (w9.drewN (m1 + m2 + m3))) := Lib.hid (below_drewN' B9.out _)
      have Q1 : Hid (RdP (w9.drewN (m1 + m2 + m3)) u1 ([] : List (Int × Int))) := R1
      have Q2 : Hid (RdP (w9.drewN (m1 + m2 + m3)) u2 ([] : List (Int × Int))) := R2
      have Q3 : Hid (RdP (w9.drewN (m1 + m2 + m3)) u3 ([] : List (Int × Int))) := R3
      have Q4 : Hid (RdP (w9.drewN (m1 + m2 + m3)) u4 ([] : List (Int × Int))) := R4
      have Q5 : Hid (Ints (w9.drewN (m1 + m2 + m3)) u5 (star K)) := R5
      go_wp2
      generalize w9.drewN (m1 + m2 + m3) = wA at *
      clear R1 R2 R3 R4 R5 R6 B9
      go_loop [19] (fun i => ∃ j : Nat, j ≤ K ∧ i = .int .i64 j) (fun i => K - (intOf i).toNat)
      case atStart => exact ⟨0, Nat.zero_le _, rfl⟩
      case round =>
        obtain ⟨j, hj, rfl⟩ := hrel
        by_cases hlt : j < K
        · have hji : (j : Int) < (K : Int) := by omega
          have HQ : Hid (Calls Try.prog 50 #[u5, .int .i64 j] wA fun e w' => e = .returned (.bool true) ∧ wA = w') := Lib.hid ((hasInt_any u5 (star K) j wA Q5.out).mono fun _ _ ⟨h1, h2⟩ => ⟨by rw [h1]; exact ret_bool (List.any_eq_true.2 ⟨(j : Int), HST.out j hlt, beq_self_eq_true _⟩), h2⟩)
          go_wp2_with fail
          refine HQ.out.mono ?_
          rintro e _ ⟨rfl, rfl⟩
          go_wp2
          go_round
          case rel => exact ⟨j + 1, by omega, by go_num⟩
          case measure => simp [intOf]; omega
        · obtain rfl : j = K := by omega
          have hji : ¬ ((j : Int) < (j : Int)) := by omega
          go_wp2
          go_ret
          exact ⟨rfl, BA.out⟩
  obtain ⟨⟨n3, n12⟩, ⟨t2, t3⟩, s2, s3⟩ := tightenB_bd hT
  obtain ⟨N, rfl⟩ := Int.eq_ofNat_of_zero_le n0
  obtain ⟨S, rfl⟩ := Int.eq_ofNat_of_zero_le s0
  rw [Tighten_ok hT] at R1 R2 ⊢
  rw [Loosen_ok hT] at R3 R4 ⊢
  have PT := Lib.hid (plan_tight (n := N) (s := S) (t := t) (by omega) (by omega) (by omega) (by omega) (by omega))
  have PLL := Lib.hid (plan_loos (n := N) (s := S) (t := t) (by omega) (by omega) (by omega) (by omega) (by omega))
  have hsl := (star_at (n := N) (by omega) (by omega)).1
  have hpl : ((plan (star N) (tightF t S) S).length : Int) = (N : Int) * (S : Int) := by rw [plan_len, hsl]; push_cast; rfl
  have hll : (plan (star N).reverse (loosF t S) S).length = (plan (star N) (tightF t S) S).length := by rw [plan_len, plan_len, List.length_reverse]
  have hns : IntKind.i64.wrap ((N : Int) * (S : Int)) = ((plan (star N) (tightF t S) S).length : Int) := by
    rw [← hpl]
    have := PT.out.len
    exact IntWalk.i64_in _ (by omega)
  clear hT hsl
  change Hid (RdP w9 u1 (plan (star N) (tightF t S) S)) at R1
  change Hid (RdP w9 u2 (plan (star N) (tightF t S) S)) at R2
  change Hid (RdP w9 u3 (plan (star N).reverse (loosF t S) S)) at R3
  change Hid (RdP w9 u4 (plan (star N).reverse (loosF t S) S)) at R4
  generalize plan (star N) (tightF t S) S = ps at *
  generalize plan (star N).reverse (loosF t S) S = ls at *
  have hp100 := PT.out.len
  have hl100 := PLL.out.len
  have hlb : ((ls.length : Int) == (ps.length : Int)) = true := beq_iff_eq.2 (by omega)
  have hpsi : (ps.length : Int) ≤ 100 := by omega
  have hlsi : (ls.length : Int) ≤ 100 := by omega
  clear hpl hll
  rcases hK : inR k 3 12
  · have hs : StarOrder_r k = ([], 2) := by unfold StarOrder_r; rw [hK]; rfl
    rw [hs] at R5 R6 ⊢
    clear hs hK
    go_wp2_with fail
    refine (likeRows_same u1 u2 _ w9 R1.out R2.out).mono ?_
    rintro e wa ⟨rfl, m1, rfl⟩
    go_wp2_with fail
    refine (likeRows_same u3 u4 _ (w9.drewN m1) R3.out R4.out).mono ?_
    rintro e wa ⟨rfl, m2, rfl⟩
    go_wp2_with fail
    refine (likeInts_same u5 u6 _ (w9.drewN (m1 + m2)) R5.out R6.out).mono ?_
    rintro e wa ⟨rfl, m3, rfl⟩
    have BA : Hid (Below w.heap.size w (w9.drewN (m1 + m2 + m3))) := Lib.hid (below_drewN' B9.out _)
    have Q1 : Hid (RdP (w9.drewN (m1 + m2 + m3)) u1 ps) := R1
    have Q2 : Hid (RdP (w9.drewN (m1 + m2 + m3)) u2 ps) := R2
    have Q3 : Hid (RdP (w9.drewN (m1 + m2 + m3)) u3 ls) := R3
    have Q4 : Hid (RdP (w9.drewN (m1 + m2 + m3)) u4 ls) := R4
    have Q5 : Hid (Ints (w9.drewN (m1 + m2 + m3)) u5 ([] : List Int)) := R5
    go_wp2
    generalize w9.drewN (m1 + m2 + m3) = wA at *
    clear R1 R2 R3 R4 R5 R6 B9
    refine wp_loop_rounds 1 ?_
    rw [rounds_succ]
    obtain ⟨A1, c1, eu1, hr1⟩ := Q1.out.rows
    obtain ⟨A2, c2, eu2, hr2⟩ := Q2.out.rows
    obtain ⟨A3, c3, eu3, hr3⟩ := Q3.out.rows
    obtain ⟨A4, c4, eu4, hr4⟩ := Q4.out.rows
    subst eu1 eu2 eu3 eu4
    have H1 := Lib.hid hr1
    have H2 := Lib.hid hr2
    have H3 := Lib.hid hr3
    have H4 := Lib.hid hr4
    clear hr1 hr2 hr3 hr4 Q1 Q2 Q3 Q4
    go_wp2_with (at_make; refine wpList_make_full _ rfl _ _ 22 rfl wA.heap.size 2 i0 (.int .i64 0) 1 Try.underlying22 hi hz0 hz1 .i64 .i64 _ _ N rfl rfl rfl rfl ?c1 ?c2 (Nat.le_refl _) ?_)
    case c1 => first | (rw [hz2]; omega) | omega
    case c2 => unfold maxLen; omega
    intro wM hown hgrow
    have HOM : Hid (Own eI wM wA.heap.size 2 (.slice (some ⟨wA.heap.size, 0, none⟩) N N) (nowL N (fun b => lastG 0 (ps.take 0) b))) := Lib.hid (by
      have h := own_made _ _ _ _ _ _ hown
      refine own_of_ints (n := N) ?_ (nowL_len _ _)
      rw [show (nowL N (fun b => lastG 0 (ps.take 0) b)).map (Value.int .i64) = List.replicate N (.int .i64 0) by
        apply List.ext_getElem
        · simp [nowL]
        · intro i h1 h2; simp [nowL, lastG]]
      exact h)
    have HBM : Hid (Below wA.heap.size wA wM) := Lib.hid ((Below.refl _ _).grown hgrow (Nat.le_refl _) (by simp))
    clear hown hgrow
    go_wp2
    go_loopg [21] ps.length (fun gi i wr => ∃ q : Nat, q ≤ ps.length ∧ gi = ps.length - q ∧ i = .int .i64 q ∧ Hid (Own eI wr wA.heap.size 2 (.slice (some ⟨wA.heap.size, 0, none⟩) N N) (nowL N (fun b => lastG 0 (ps.take q) b))) ∧ Hid (Below wA.heap.size wA wr))
    case atStart => exact ⟨0, Nat.zero_le _, rfl, rfl, HOM, HBM⟩
    case round =>
      obtain ⟨q, hq, rfl, rfl, HO, HB⟩ := hrel
      clear HOM HBM
      by_cases hlt : q < ps.length
      · obtain ⟨b, v, hpq, hbn, v0, v1, ⟨l0, l1⟩, hle⟩ := PT.out.step q hlt
        rw [if_pos rfl] at hle
        obtain ⟨b1, o1, q1, ea, hra⟩ := H1.out q b v hpq
        obtain ⟨b2, o2, q2, eb, hrb⟩ := H2.out q b v hpq
        cases ea
        cases eb
        obtain ⟨e1, _, e2⟩ := hra wr HB.out
        obtain ⟨e3, e4, _⟩ := hrb wr HB.out
        have hqi : (q : Int) < (ps.length : Int) := by omega
        have hq0 : (0 : Int) ≤ (q : Int) := by omega
        have hbi : (b : Int) < (N : Int) := by omega
        have hb0 : (0 : Int) ≤ (b : Int) := by omega
        obtain ⟨e5, e6⟩ := HO.out.cellI b (by rw [nowL_len]; exact hbn)
        rw [nowL_at] at e5
        have HNX : Hid ((nowL N (fun b => lastG 0 (ps.take q) b)).set b v = nowL N (fun b => lastG 0 (ps.take (q + 1)) b)) := Lib.hid (by
          rw [nowL_set]
          refine nowL_congr (fun i hi => ?_)
          obtain ⟨hl, e⟩ := List.getElem?_eq_some_iff.1 hpq
          rw [List.take_succ_eq_append_getElem hl, e, lastG_snoc]
          by_cases h : i = b
          · subst h; simp
          · rw [if_neg h, if_neg (by simp only []; omega)])
        clear hpq hra hrb
        generalize lastG 0 (ps.take q) (b : Int) = lv at *
        go_wp2
        go_quiet (fail)
        go_wp2
        have HO1 : Hid (Own eI (wr.drewN nq) wA.heap.size 2 (.slice (some ⟨wA.heap.size, 0, none⟩) N N) (nowL N (fun b => lastG 0 (ps.take q) b))) := Lib.hid (HO.out.drewN nq)
        have HB1 : Hid (Below wA.heap.size wA (wr.drewN nq)) := Lib.hid (below_drewN' HB.out nq)
        have k1 : (wr.drewN nq).cell? ⟨b1, o1 + q, none⟩ = some (.slice (some ⟨q1, 0, none⟩) 2 2) := e1
        have k2 : (wr.drewN nq).cell? ⟨q1, 1, none⟩ = some (.int .i64 v) := e2
        have k3 : (wr.drewN nq).cell? ⟨b2, o2 + q, none⟩ = some (.slice (some ⟨q2, 0, none⟩) 2 2) := e3
        have k4 : (wr.drewN nq).cell? ⟨q2, 0, none⟩ = some (.int .i64 b) := e4
        have k5 : (wr.drewN nq).cell? ⟨wA.heap.size, b, none⟩ = some (.int .i64 lv) := e5
        have k6 : (wr.drewN nq).frozen? ⟨wA.heap.size, b, none⟩ = false := e6
        clear e1 e2 e3 e4 e5 e6 HO HB
        generalize wr.drewN nq = wp at *
        have HO2 : Hid (Own eI wp.drew wA.heap.size 2 (.slice (some ⟨wA.heap.size, 0, none⟩) N N) (nowL N (fun b => lastG 0 (ps.take q) b))) := Lib.hid (Own.drew HO1.out)
        have HB2 : Hid (Below wA.heap.size wA wp.drew) := Lib.hid HB1.out.drew
        have g1 : wp.drew.cell? ⟨b1, o1 + q, none⟩ = some (.slice (some ⟨q1, 0, none⟩) 2 2) := k1
        have g2 : wp.drew.cell? ⟨q1, 1, none⟩ = some (.int .i64 v) := k2
        have g3 : wp.drew.cell? ⟨b2, o2 + q, none⟩ = some (.slice (some ⟨q2, 0, none⟩) 2 2) := k3
        have g4 : wp.drew.cell? ⟨q2, 0, none⟩ = some (.int .i64 b) := k4
        have g5 : wp.drew.cell? ⟨wA.heap.size, b, none⟩ = some (.int .i64 lv) := k5
        have g6 : wp.drew.frozen? ⟨wA.heap.size, b, none⟩ = false := k6
        clear k1 k2 k3 k4 k5 k6 HO1 HB1
        go_still_tail 14, (by kernel_rfl)
        change wpList _ _ _ _ _ wp.drew
        clear g1 g2 g3 g4
        generalize wp.drew = wq at *
        obtain ⟨hst, _⟩ := HO2.out.setI b v
        rw [HNX.out] at hst
        have HO3 := Lib.hid hst
        have HB3 : Hid (Below wA.heap.size wA (wq.setCell ⟨wA.heap.size, b, none⟩ (.int .i64 v))) := Lib.hid (HB2.out.setCell (Nat.le_refl _) _)
        clear hst HO2 HB2
        go_wp2
        go_roundg (ps.length - (q + 1))
        case measure => omega
        case rel => exact ⟨q + 1, by omega, rfl, by go_num, HO3, HB3⟩
      · obtain rfl : q = ps.length := by omega
        have hqi : ¬ ((ps.length : Int) < (ps.length : Int)) := by omega
        have HOF : Hid (Own eI wr wA.heap.size 2 (.slice (some ⟨wA.heap.size, 0, none⟩) N N) (nowL N (fun _ => t))) := Lib.hid (by
          have h := HO.out
          rw [List.take_of_length_le (Nat.le_refl _), nowL_congr (h' := fun _ => t) (fun i hi => PT.out.fin i hi)] at h
          exact h)
        clear HO
        go_wp2
        go_loop [22] (fun i => ∃ j : Nat, j ≤ N ∧ i = .int .i64 j) (fun i => N - (intOf i).toNat)
        case atStart => exact ⟨0, Nat.zero_le _, rfl⟩
        case round =>
          obtain ⟨j, hj, rfl⟩ := hrel
          by_cases hjn : j < N
          · have hji : (j : Int) < (N : Int) := by omega
            have hj0 : (0 : Int) ≤ (j : Int) := by omega
            obtain ⟨e5, _⟩ := HOF.out.cellI j (by rw [nowL_len]; exact hjn)
            rw [nowL_at] at e5
            go_wp2
            go_round
            case rel => exact ⟨j + 1, by omega, by go_num⟩
            case measure => simp [intOf]; omega
          · have hjN : ¬ ((j : Int) < (N : Int)) := by omega
            have HOL : Hid (Own eI wr wA.heap.size 2 (.slice (some ⟨wA.heap.size, 0, none⟩) N N) (nowL N (fun b => lastG t (ls.take 0) b))) := Lib.hid (by
              have h := HOF.out
              rw [nowL_congr (h' := fun b => lastG t (ls.take 0) b) (fun i hi => by simp [lastG])] at h
              exact h)
            have HBL := HB
            clear HOF HB
            go_wp2
            go_loopg [23] ls.length (fun gi i wr => ∃ q : Nat, q ≤ ls.length ∧ gi = ls.length - q ∧ i = .int .i64 q ∧ Hid (Own eI wr wA.heap.size 2 (.slice (some ⟨wA.heap.size, 0, none⟩) N N) (nowL N (fun b => lastG t (ls.take q) b))) ∧ Hid (Below wA.heap.size wA wr))
            case atStart => exact ⟨0, Nat.zero_le _, rfl, rfl, HOL, HBL⟩
            case round =>
              obtain ⟨q, hq, rfl, rfl, HO, HB⟩ := hrel
              clear HOL HBL
              by_cases hlt : q < ls.length
              · obtain ⟨b, v, hpq, hbn, v0, v1, ⟨l0, l1⟩, hle⟩ := PLL.out.step q hlt
                rw [if_neg (by decide)] at hle
                obtain ⟨b1, o1, q1, ea, hra⟩ := H3.out q b v hpq
                obtain ⟨b2, o2, q2, eb, hrb⟩ := H4.out q b v hpq
                cases ea
                cases eb
                obtain ⟨e1, _, e2⟩ := hra wr HB.out
                obtain ⟨e3, e4, _⟩ := hrb wr HB.out
                have hqi : (q : Int) < (ls.length : Int) := by omega
                have hq0 : (0 : Int) ≤ (q : Int) := by omega
                have hbi : (b : Int) < (N : Int) := by omega
                have hb0 : (0 : Int) ≤ (b : Int) := by omega
                obtain ⟨e5, e6⟩ := HO.out.cellI b (by rw [nowL_len]; exact hbn)
                rw [nowL_at] at e5
                have HNX : Hid ((nowL N (fun b => lastG t (ls.take q) b)).set b v = nowL N (fun b => lastG t (ls.take (q + 1)) b)) := Lib.hid (by
                  rw [nowL_set]
                  refine nowL_congr (fun i hi => ?_)
                  obtain ⟨hl, e⟩ := List.getElem?_eq_some_iff.1 hpq
                  rw [List.take_succ_eq_append_getElem hl, e, lastG_snoc]
                  by_cases h : i = b
                  · subst h; simp
                  · rw [if_neg h, if_neg (by simp only []; omega)])
                clear hpq hra hrb
                generalize lastG t (ls.take q) (b : Int) = lv at *
                go_wp2
                go_quiet (fail)
                go_wp2
                have HO1 : Hid (Own eI (wr.drewN nq) wA.heap.size 2 (.slice (some ⟨wA.heap.size, 0, none⟩) N N) (nowL N (fun b => lastG t (ls.take q) b))) := Lib.hid (HO.out.drewN nq)
                have HB1 : Hid (Below wA.heap.size wA (wr.drewN nq)) := Lib.hid (below_drewN' HB.out nq)
                have k1 : (wr.drewN nq).cell? ⟨b1, o1 + q, none⟩ = some (.slice (some ⟨q1, 0, none⟩) 2 2) := e1
                have k2 : (wr.drewN nq).cell? ⟨q1, 1, none⟩ = some (.int .i64 v) := e2
                have k3 : (wr.drewN nq).cell? ⟨b2, o2 + q, none⟩ = some (.slice (some ⟨q2, 0, none⟩) 2 2) := e3
                have k4 : (wr.drewN nq).cell? ⟨q2, 0, none⟩ = some (.int .i64 b) := e4
                have k5 : (wr.drewN nq).cell? ⟨wA.heap.size, b, none⟩ = some (.int .i64 lv) := e5
                have k6 : (wr.drewN nq).frozen? ⟨wA.heap.size, b, none⟩ = false := e6
                clear e1 e2 e3 e4 e5 e6 HO HB
                generalize wr.drewN nq = wp at *
                have HO2 : Hid (Own eI wp.drew wA.heap.size 2 (.slice (some ⟨wA.heap.size, 0, none⟩) N N) (nowL N (fun b => lastG t (ls.take q) b))) := Lib.hid (Own.drew HO1.out)
                have HB2 : Hid (Below wA.heap.size wA wp.drew) := Lib.hid HB1.out.drew
                have g1 : wp.drew.cell? ⟨b1, o1 + q, none⟩ = some (.slice (some ⟨q1, 0, none⟩) 2 2) := k1
                have g2 : wp.drew.cell? ⟨q1, 1, none⟩ = some (.int .i64 v) := k2
                have g3 : wp.drew.cell? ⟨b2, o2 + q, none⟩ = some (.slice (some ⟨q2, 0, none⟩) 2 2) := k3
                have g4 : wp.drew.cell? ⟨q2, 0, none⟩ = some (.int .i64 b) := k4
                have g5 : wp.drew.cell? ⟨wA.heap.size, b, none⟩ = some (.int .i64 lv) := k5
                have g6 : wp.drew.frozen? ⟨wA.heap.size, b, none⟩ = false := k6
                clear k1 k2 k3 k4 k5 k6 HO1 HB1
                go_still_tail 14, (by kernel_rfl)
                change wpList _ _ _ _ _ wp.drew
                clear g1 g2 g3 g4
                generalize wp.drew = wq at *
                obtain ⟨hst, _⟩ := HO2.out.setI b v
                rw [HNX.out] at hst
                have HO3 := Lib.hid hst
                have HB3 : Hid (Below wA.heap.size wA (wq.setCell ⟨wA.heap.size, b, none⟩ (.int .i64 v))) := Lib.hid (HB2.out.setCell (Nat.le_refl _) _)
                clear hst HO2 HB2
                go_wp2
                go_roundg (ls.length - (q + 1))
                case measure => omega
                case rel => exact ⟨q + 1, by omega, rfl, by go_num, HO3, HB3⟩
              · obtain rfl : q = ls.length := by omega
                have hqi : ¬ ((ls.length : Int) < (ls.length : Int)) := by omega
                have HOZ : Hid (Ints wr (.slice (some ⟨wA.heap.size, 0, none⟩) N N) (nowL N (fun _ => 0))) := Lib.hid (by
                  have h := HO.out
                  rw [List.take_of_length_le (Nat.le_refl _), nowL_congr (h' := fun _ => 0) (fun i hi => PLL.out.fin i hi)] at h
                  exact Sl.of_own h (by rw [nowL_len]; unfold big40; omega))
                have HSUM : Hid (Calls Try.prog 51 #[.slice (some ⟨wA.heap.size, 0, none⟩) N N] wr fun e w' => e = .returned (.int .i64 0) ∧ wr = w') := Lib.hid (by
                  have h := sum_any _ _ wr HOZ.out (by rw [nowL_len]; omega) (fun k hk => by rw [List.getD_eq_getElem?_getD, List.getElem?_eq_getElem hk, nowL_at]; simp)
                  rw [sumTo_zero (fun k hk => by rw [List.getD_eq_getElem?_getD, List.getElem?_eq_getElem hk, nowL_at]; rfl)] at h
                  exact h)
                have BZ := Lib.hid (below_step2 BA.out HB.out BA.out.size)
                clear HO HB HOZ
                go_wp2_with fail
                refine HSUM.out.mono ?_
                rintro e _ ⟨rfl, rfl⟩
                go_wp2
                go_ret
                exact ⟨rfl, BZ.out⟩
  · obtain ⟨K, rfl⟩ := Int.eq_ofNat_of_zero_le k0
    have hs : StarOrder_r (K : Int) = (star K, 0) := by unfold StarOrder_r; rw [if_pos hK]; rfl
    have hK2 := inR_iff.1 hK
    have HST : Hid (∀ i : Nat, i < K → (i : Int) ∈ star K) := Lib.hid (star_perm (n := K) (by omega) (by omega)).2
    rw [hs] at R5 R6 ⊢
    clear hs hK hK2
    go_wp2_with fail
    refine (likeRows_same u1 u2 _ w9 R1.out R2.out).mono ?_
    rintro e wa ⟨rfl, m1, rfl⟩
    go_wp2_with fail
    refine (likeRows_same u3 u4 _ (w9.drewN m1) R3.out R4.out).mono ?_
    rintro e wa ⟨rfl, m2, rfl⟩
    go_wp2_with fail
    refine (likeInts_same u5 u6 _ (w9.drewN (m1 + m2)) R5.out R6.out).mono ?_
    rintro e wa ⟨rfl, m3, rfl⟩
    have BA : Hid (Below w.heap.size w (w9.drewN (m1 + m2 + m3))) := Lib.hid (below_drewN' B9.out _)
    have Q1 : Hid (RdP (w9.drewN (m1 + m2 + m3)) u1 ps) := R1
    have Q2 : Hid (RdP (w9.drewN (m1 + m2 + m3)) u2 ps) := R2
    have Q3 : Hid (RdP (w9.drewN (m1 + m2 + m3)) u3 ls) := R3
    have Q4 : Hid (RdP (w9.drewN (m1 + m2 + m3)) u4 ls) := R4
    have Q5 : Hid (Ints (w9.drewN (m1 + m2 + m3)) u5 (star K)) := R5
    go_wp2
    generalize w9.drewN (m1 + m2 + m3) = wA at *
    clear R1 R2 R3 R4 R5 R6 B9
    go_loop [19] (fun i => ∃ j : Nat, j ≤ K ∧ i = .int .i64 j) (fun i => K - (intOf i).toNat)
    case atStart => exact ⟨0, Nat.zero_le _, rfl⟩
    case round =>
      obtain ⟨j, hj, rfl⟩ := hrel
      by_cases hlt : j < K
      · have hji : (j : Int) < (K : Int) := by omega
        have HQ : Hid (Calls Try.prog 50 #[u5, .int .i64 j] wA fun e w' => e = .returned (.bool true) ∧ wA = w') := Lib.hid ((hasInt_any u5 (star K) j wA Q5.out).mono fun _ _ ⟨h1, h2⟩ => ⟨by rw [h1]; exact ret_bool (List.any_eq_true.2 ⟨(j : Int), HST.out j hlt, beq_self_eq_true _⟩), h2⟩)
        go_wp2_with fail
        refine HQ.out.mono ?_
        rintro e _ ⟨rfl, rfl⟩
        go_wp2
        go_round
        case rel => exact ⟨j + 1, by omega, by go_num⟩
        case measure => simp [intOf]; omega
      · obtain rfl : j = K := by omega
        have hji : ¬ ((j : Int) < (j : Int)) := by omega
        obtain ⟨A1, c1, eu1, hr1⟩ := Q1.out.rows
        obtain ⟨A2, c2, eu2, hr2⟩ := Q2.out.rows
        obtain ⟨A3, c3, eu3, hr3⟩ := Q3.out.rows
        obtain ⟨A4, c4, eu4, hr4⟩ := Q4.out.rows
        subst eu1 eu2 eu3 eu4
        have H1 := Lib.hid hr1
        have H2 := Lib.hid hr2
        have H3 := Lib.hid hr3
        have H4 := Lib.hid hr4
        clear hr1 hr2 hr3 hr4 Q1 Q2 Q3 Q4
        go_wp2_with (at_make; refine wpList_make_full _ rfl _ _ 22 rfl wA.heap.size 2 i0 (.int .i64 0) 1 Try.underlying22 hi hz0 hz1 .i64 .i64 _ _ N rfl rfl rfl rfl ?c1 ?c2 (Nat.le_refl _) ?_)
        case c1 => first | (rw [hz2]; omega) | omega
        case c2 => unfold maxLen; omega
        intro wM hown hgrow
        have HOM : Hid (Own eI wM wA.heap.size 2 (.slice (some ⟨wA.heap.size, 0, none⟩) N N) (nowL N (fun b => lastG 0 (ps.take 0) b))) := Lib.hid (by
          have h := own_made _ _ _ _ _ _ hown
          refine own_of_ints (n := N) ?_ (nowL_len _ _)
          rw [show (nowL N (fun b => lastG 0 (ps.take 0) b)).map (Value.int .i64) = List.replicate N (.int .i64 0) by
            apply List.ext_getElem
            · simp [nowL]
            · intro i h1 h2; simp [nowL, lastG]]
          exact h)
        have HBM : Hid (Below wA.heap.size wA wM) := Lib.hid ((Below.refl _ _).grown hgrow (Nat.le_refl _) (by simp))
        clear hown hgrow
        go_wp2
        go_loopg [21] ps.length (fun gi i wr => ∃ q : Nat, q ≤ ps.length ∧ gi = ps.length - q ∧ i = .int .i64 q ∧ Hid (Own eI wr wA.heap.size 2 (.slice (some ⟨wA.heap.size, 0, none⟩) N N) (nowL N (fun b => lastG 0 (ps.take q) b))) ∧ Hid (Below wA.heap.size wA wr))
        case atStart => exact ⟨0, Nat.zero_le _, rfl, rfl, HOM, HBM⟩
        case round =>
          obtain ⟨q, hq, rfl, rfl, HO, HB⟩ := hrel
          clear HOM HBM
          by_cases hlt : q < ps.length
          · obtain ⟨b, v, hpq, hbn, v0, v1, ⟨l0, l1⟩, hle⟩ := PT.out.step q hlt
            rw [if_pos rfl] at hle
            obtain ⟨b1, o1, q1, ea, hra⟩ := H1.out q b v hpq
            obtain ⟨b2, o2, q2, eb, hrb⟩ := H2.out q b v hpq
            cases ea
            cases eb
            obtain ⟨e1, _, e2⟩ := hra wr HB.out
            obtain ⟨e3, e4, _⟩ := hrb wr HB.out
            have hqi : (q : Int) < (ps.length : Int) := by omega
            have hq0 : (0 : Int) ≤ (q : Int) := by omega
            have hbi : (b : Int) < (N : Int) := by omega
            have hb0 : (0 : Int) ≤ (b : Int) := by omega
            obtain ⟨e5, e6⟩ := HO.out.cellI b (by rw [nowL_len]; exact hbn)
            rw [nowL_at] at e5
            have HNX : Hid ((nowL N (fun b => lastG 0 (ps.take q) b)).set b v = nowL N (fun b => lastG 0 (ps.take (q + 1)) b)) := Lib.hid (by
              rw [nowL_set]
              refine nowL_congr (fun i hi => ?_)
              obtain ⟨hl, e⟩ := List.getElem?_eq_some_iff.1 hpq
              rw [List.take_succ_eq_append_getElem hl, e, lastG_snoc]
              by_cases h : i = b
              · subst h; simp
              · rw [if_neg h, if_neg (by simp only []; omega)])
            clear hpq hra hrb
            generalize lastG 0 (ps.take q) (b : Int) = lv at *
            go_wp2
            go_quiet (fail)
            go_wp2
            have HO1 : Hid (Own eI (wr.drewN nq) wA.heap.size 2 (.slice (some ⟨wA.heap.size, 0, none⟩) N N) (nowL N (fun b => lastG 0 (ps.take q) b))) := Lib.hid (HO.out.drewN nq)
            have HB1 : Hid (Below wA.heap.size wA (wr.drewN nq)) := Lib.hid (below_drewN' HB.out nq)
            have k1 : (wr.drewN nq).cell? ⟨b1, o1 + q, none⟩ = some (.slice (some ⟨q1, 0, none⟩) 2 2) := e1
            have k2 : (wr.drewN nq).cell? ⟨q1, 1, none⟩ = some (.int .i64 v) := e2
            have k3 : (wr.drewN nq).cell? ⟨b2, o2 + q, none⟩ = some (.slice (some ⟨q2, 0, none⟩) 2 2) := e3
            have k4 : (wr.drewN nq).cell? ⟨q2, 0, none⟩ = some (.int .i64 b) := e4
            have k5 : (wr.drewN nq).cell? ⟨wA.heap.size, b, none⟩ = some (.int .i64 lv) := e5
            have k6 : (wr.drewN nq).frozen? ⟨wA.heap.size, b, none⟩ = false := e6
            clear e1 e2 e3 e4 e5 e6 HO HB
            generalize wr.drewN nq = wp at *
            have HO2 : Hid (Own eI wp.drew wA.heap.size 2 (.slice (some ⟨wA.heap.size, 0, none⟩) N N) (nowL N (fun b => lastG 0 (ps.take q) b))) := Lib.hid (Own.drew HO1.out)
            have HB2 : Hid (Below wA.heap.size wA wp.drew) := Lib.hid HB1.out.drew
            have g1 : wp.drew.cell? ⟨b1, o1 + q, none⟩ = some (.slice (some ⟨q1, 0, none⟩) 2 2) := k1
            have g2 : wp.drew.cell? ⟨q1, 1, none⟩ = some (.int .i64 v) := k2
            have g3 : wp.drew.cell? ⟨b2, o2 + q, none⟩ = some (.slice (some ⟨q2, 0, none⟩) 2 2) := k3
            have g4 : wp.drew.cell? ⟨q2, 0, none⟩ = some (.int .i64 b) := k4
            have g5 : wp.drew.cell? ⟨wA.heap.size, b, none⟩ = some (.int .i64 lv) := k5
            have g6 : wp.drew.frozen? ⟨wA.heap.size, b, none⟩ = false := k6
            clear k1 k2 k3 k4 k5 k6 HO1 HB1
            go_still_tail 14, (by kernel_rfl)
            change wpList _ _ _ _ _ wp.drew
            clear g1 g2 g3 g4
            generalize wp.drew = wq at *
            obtain ⟨hst, _⟩ := HO2.out.setI b v
            rw [HNX.out] at hst
            have HO3 := Lib.hid hst
            have HB3 : Hid (Below wA.heap.size wA (wq.setCell ⟨wA.heap.size, b, none⟩ (.int .i64 v))) := Lib.hid (HB2.out.setCell (Nat.le_refl _) _)
            clear hst HO2 HB2
            go_wp2
            go_roundg (ps.length - (q + 1))
            case measure => omega
            case rel => exact ⟨q + 1, by omega, rfl, by go_num, HO3, HB3⟩
          · obtain rfl : q = ps.length := by omega
            have hqi : ¬ ((ps.length : Int) < (ps.length : Int)) := by omega
            have HOF : Hid (Own eI wr wA.heap.size 2 (.slice (some ⟨wA.heap.size, 0, none⟩) N N) (nowL N (fun _ => t))) := Lib.hid (by
              have h := HO.out
              rw [List.take_of_length_le (Nat.le_refl _), nowL_congr (h' := fun _ => t) (fun i hi => PT.out.fin i hi)] at h
              exact h)
            clear HO
            go_wp2
            go_loop [22] (fun i => ∃ j : Nat, j ≤ N ∧ i = .int .i64 j) (fun i => N - (intOf i).toNat)
            case atStart => exact ⟨0, Nat.zero_le _, rfl⟩
            case round =>
              obtain ⟨j, hj, rfl⟩ := hrel
              by_cases hjn : j < N
              · have hji : (j : Int) < (N : Int) := by omega
                have hj0 : (0 : Int) ≤ (j : Int) := by omega
                obtain ⟨e5, _⟩ := HOF.out.cellI j (by rw [nowL_len]; exact hjn)
                rw [nowL_at] at e5
                go_wp2
                go_round
                case rel => exact ⟨j + 1, by omega, by go_num⟩
                case measure => simp [intOf]; omega
              · have hjN : ¬ ((j : Int) < (N : Int)) := by omega
                have HOL : Hid (Own eI wr wA.heap.size 2 (.slice (some ⟨wA.heap.size, 0, none⟩) N N) (nowL N (fun b => lastG t (ls.take 0) b))) := Lib.hid (by
                  have h := HOF.out
                  rw [nowL_congr (h' := fun b => lastG t (ls.take 0) b) (fun i hi => by simp [lastG])] at h
                  exact h)
                have HBL := HB
                clear HOF HB
                go_wp2
                go_loopg [23] ls.length (fun gi i wr => ∃ q : Nat, q ≤ ls.length ∧ gi = ls.length - q ∧ i = .int .i64 q ∧ Hid (Own eI wr wA.heap.size 2 (.slice (some ⟨wA.heap.size, 0, none⟩) N N) (nowL N (fun b => lastG t (ls.take q) b))) ∧ Hid (Below wA.heap.size wA wr))
                case atStart => exact ⟨0, Nat.zero_le _, rfl, rfl, HOL, HBL⟩
                case round =>
                  obtain ⟨q, hq, rfl, rfl, HO, HB⟩ := hrel
                  clear HOL HBL
                  by_cases hlt : q < ls.length
                  · obtain ⟨b, v, hpq, hbn, v0, v1, ⟨l0, l1⟩, hle⟩ := PLL.out.step q hlt
                    rw [if_neg (by decide)] at hle
                    obtain ⟨b1, o1, q1, ea, hra⟩ := H3.out q b v hpq
                    obtain ⟨b2, o2, q2, eb, hrb⟩ := H4.out q b v hpq
                    cases ea
                    cases eb
                    obtain ⟨e1, _, e2⟩ := hra wr HB.out
                    obtain ⟨e3, e4, _⟩ := hrb wr HB.out
                    have hqi : (q : Int) < (ls.length : Int) := by omega
                    have hq0 : (0 : Int) ≤ (q : Int) := by omega
                    have hbi : (b : Int) < (N : Int) := by omega
                    have hb0 : (0 : Int) ≤ (b : Int) := by omega
                    obtain ⟨e5, e6⟩ := HO.out.cellI b (by rw [nowL_len]; exact hbn)
                    rw [nowL_at] at e5
                    have HNX : Hid ((nowL N (fun b => lastG t (ls.take q) b)).set b v = nowL N (fun b => lastG t (ls.take (q + 1)) b)) := Lib.hid (by
                      rw [nowL_set]
                      refine nowL_congr (fun i hi => ?_)
                      obtain ⟨hl, e⟩ := List.getElem?_eq_some_iff.1 hpq
                      rw [List.take_succ_eq_append_getElem hl, e, lastG_snoc]
                      by_cases h : i = b
                      · subst h; simp
                      · rw [if_neg h, if_neg (by simp only []; omega)])
                    clear hpq hra hrb
                    generalize lastG t (ls.take q) (b : Int) = lv at *
                    go_wp2
                    go_quiet (fail)
                    go_wp2
                    have HO1 : Hid (Own eI (wr.drewN nq) wA.heap.size 2 (.slice (some ⟨wA.heap.size, 0, none⟩) N N) (nowL N (fun b => lastG t (ls.take q) b))) := Lib.hid (HO.out.drewN nq)
                    have HB1 : Hid (Below wA.heap.size wA (wr.drewN nq)) := Lib.hid (below_drewN' HB.out nq)
                    have k1 : (wr.drewN nq).cell? ⟨b1, o1 + q, none⟩ = some (.slice (some ⟨q1, 0, none⟩) 2 2) := e1
                    have k2 : (wr.drewN nq).cell? ⟨q1, 1, none⟩ = some (.int .i64 v) := e2
                    have k3 : (wr.drewN nq).cell? ⟨b2, o2 + q, none⟩ = some (.slice (some ⟨q2, 0, none⟩) 2 2) := e3
                    have k4 : (wr.drewN nq).cell? ⟨q2, 0, none⟩ = some (.int .i64 b) := e4
                    have k5 : (wr.drewN nq).cell? ⟨wA.heap.size, b, none⟩ = some (.int .i64 lv) := e5
                    have k6 : (wr.drewN nq).frozen? ⟨wA.heap.size, b, none⟩ = false := e6
                    clear e1 e2 e3 e4 e5 e6 HO HB
                    generalize wr.drewN nq = wp at *
                    have HO2 : Hid (Own eI wp.drew wA.heap.size 2 (.slice (some ⟨wA.heap.size, 0, none⟩) N N) (nowL N (fun b => lastG t (ls.take q) b))) := Lib.hid (Own.drew HO1.out)
                    have HB2 : Hid (Below wA.heap.size wA wp.drew) := Lib.hid HB1.out.drew
                    have g1 : wp.drew.cell? ⟨b1, o1 + q, none⟩ = some (.slice (some ⟨q1, 0, none⟩) 2 2) := k1
                    have g2 : wp.drew.cell? ⟨q1, 1, none⟩ = some (.int .i64 v) := k2
                    have g3 : wp.drew.cell? ⟨b2, o2 + q, none⟩ = some (.slice (some ⟨q2, 0, none⟩) 2 2) := k3
                    have g4 : wp.drew.cell? ⟨q2, 0, none⟩ = some (.int .i64 b) := k4
                    have g5 : wp.drew.cell? ⟨wA.heap.size, b, none⟩ = some (.int .i64 lv) := k5
                    have g6 : wp.drew.frozen? ⟨wA.heap.size, b, none⟩ = false := k6
                    clear k1 k2 k3 k4 k5 k6 HO1 HB1
                    go_still_tail 14, (by kernel_rfl)
                    change wpList _ _ _ _ _ wp.drew
                    clear g1 g2 g3 g4
                    generalize wp.drew = wq at *
                    obtain ⟨hst, _⟩ := HO2.out.setI b v
                    rw [HNX.out] at hst
                    have HO3 := Lib.hid hst
                    have HB3 : Hid (Below wA.heap.size wA (wq.setCell ⟨wA.heap.size, b, none⟩ (.int .i64 v))) := Lib.hid (HB2.out.setCell (Nat.le_refl _) _)
                    clear hst HO2 HB2
                    go_wp2
                    go_roundg (ls.length - (q + 1))
                    case measure => omega
                    case rel => exact ⟨q + 1, by omega, rfl, by go_num, HO3, HB3⟩
                  · obtain rfl : q = ls.length := by omega
                    have hqi : ¬ ((ls.length : Int) < (ls.length : Int)) := by omega
                    have HOZ : Hid (Ints wr (.slice (some ⟨wA.heap.size, 0, none⟩) N N) (nowL N (fun _ => 0))) := Lib.hid (by
                      have h := HO.out
                      rw [List.take_of_length_le (Nat.le_refl _), nowL_congr (h' := fun _ => 0) (fun i hi => PLL.out.fin i hi)] at h
                      exact Sl.of_own h (by rw [nowL_len]; unfold big40; omega))
                    have HSUM : Hid (Calls Try.prog 51 #[.slice (some ⟨wA.heap.size, 0, none⟩) N N] wr fun e w' => e = .returned (.int .i64 0) ∧ wr = w') := Lib.hid (by
                      have h := sum_any _ _ wr HOZ.out (by rw [nowL_len]; omega) (fun k hk => by rw [List.getD_eq_getElem?_getD, List.getElem?_eq_getElem hk, nowL_at]; simp)
                      rw [sumTo_zero (fun k hk => by rw [List.getD_eq_getElem?_getD, List.getElem?_eq_getElem hk, nowL_at]; rfl)] at h
                      exact h)
                    have BZ := Lib.hid (below_step2 BA.out HB.out BA.out.size)
                    clear HO HB HOZ
                    go_wp2_with fail
                    refine HSUM.out.mono ?_
                    rintro e _ ⟨rfl, rfl⟩
                    go_wp2
                    go_ret
                    exact ⟨rfl, BZ.out⟩
end Go.Proofs.Ytijmafppdbllfaa
