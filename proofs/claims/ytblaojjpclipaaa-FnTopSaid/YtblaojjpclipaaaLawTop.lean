/- The walk of the statement on nipples, bicycles and stock (P7, P18, P24). No statement of the seat is proved here. -/
import Derived.Test.YtblaojjpclipaaaTopLaw
import Derived.Test.YtblaojjpclipaaaLikeT
import Derived.Test.YtblaojjpclipaaaDrawP
import Derived.Test.YtblaojjpclipaaaTurnLaw
import Derived.Test.YtblaojjpclipaaaTurnT
import Derived.Test.YtblaojjpclipaaaDrawTurn
import Derived.Test.YtblaojjpclipaaaTopStock
namespace Go.Proofs.Ytblaojjpclipaaa
open Go.RowKit

theorem turn_len {L S : List Int} {sp q : Int} (h : L.length ≤ 1000) : (TurnNipple_r L S sp q).1.length ≤ 1000 := by
  unfold TurnNipple_r
  split
  · split
    · split
      · simp only []; rw [spr_len]; exact h
      · simp
    · simp
  · simp
theorem use_len {xs : List Bin} {s : ByteArray} {n : Int} (h : xs.length ≤ 1000) : (UsePieces_r xs s n).1.length ≤ 1000 := by
  unfold UsePieces_r
  split
  · simp only []; rw [List.length_set]; exact h
  · simp
theorem okBin_of {xs : List Bin} (h : ∀ x ∈ xs, x.code.size ≤ 1048576) : ∀ x ∈ xs, okBin x := fun x hx => by
  have := h x hx
  unfold okBin strBin
  omega
theorem sl_dr {α : Type} {E : Enc α} {w : World} {v : Value} {xs : List α} (h : Sl E w v xs) (n : Nat) : Sl E (w.drewN n) v xs := h
set_option maxHeartbeats 64000000 in
set_option maxRecDepth 20000 in
theorem walk_FnTop (a0 : Option Addr) (len0 cap0 : Nat) (z0 : List Int) (w : World) (p0 : IsRow .u8 w a0 len0 cap0 z0) :
    Calls Try.prog 3 #[.slice a0 len0 cap0] w fun e w' => e = .returned (.bool true) ∧ Below w.heap.size w w' := by
  obtain ⟨hcap, hby⟩ := p0.bytes
  have hmax := p0.max
  by_cases hbig : 4096 < len0
  · have HD : Hid (decide (4096 < len0) = true) := Lib.hid (decide_eq_true hbig)
    go_enter Try.func3, Try.ntmps3
    go_wp2_with fail
    refine (big_any a0 len0 cap0 w hmax).mono ?_
    rintro e w1 ⟨rfl, rfl⟩
    rw [HD.out]
    go_wp2
    go_ret
    exact ⟨rfl, Below.refl _ _⟩
  have HD : Hid (decide (4096 < len0) = false) := Lib.hid (decide_eq_false hbig)
  have hl4 : len0 ≤ 4096 := by omega
  have HBY := Lib.hid hby
  clear hby p0 hbig
  go_enter Try.func3, Try.ntmps3
  go_wp2_with fail
  refine (big_any a0 len0 cap0 w hmax).mono ?_
  rintro e w1 ⟨rfl, rfl⟩
  rw [HD.out]
  have BW : Hid (Below w.heap.size w w) := Lib.hid (Below.refl _ _)
  clear HD hmax
  go_wp2_with fail
  refine (DrawTurnNipple_any a0 len0 cap0 w hl4 hcap HBY.out).mono ?_
  rintro e w2 ⟨v1, L, u1, S, sp, q, rfl, hv, hL, hu, hS, ⟨sp0, sp1⟩, ⟨q0, q1⟩, hb⟩
  have RV := Lib.hid ((Sl.of_own hv (by unfold big40; omega) : Ints w2 v1 L))
  have RU := Lib.hid ((Sl.of_own hu (by unfold big40; omega) : Ints w2 u1 S))
  replace BW := Lib.hid (Below.step BW.out hb)
  clear hb
  clear hv hu
  have HTL := Lib.hid (turn_len (S := S) (sp := sp) (q := q) hL)
  obtain ⟨⟨TL, c1⟩, hTR⟩ : ∃ r, TurnNipple_r L S sp q = r := ⟨_, rfl⟩
  rw [hTR] at HTL
  have HTR := Lib.hid hTR
  clear hTR
  go_wp2_with fail
  refine (iTurnNipple_law v1 L u1 S sp q w2 RV.out (by omega) RU.out).mono ?_
  rw [HTR.out]
  rintro e w3 ⟨t, rfl, ho, hb⟩
  replace RV := Lib.hid (RV.out.below hb)
  replace RU := Lib.hid (RU.out.below hb)
  have RT := Lib.hid ((Sl.of_own ho (by have := HTL.out; unfold big40; omega) : Ints w3 t TL))
  replace BW := Lib.hid (Below.step BW.out hb)
  clear hb
  clear ho
  go_wp2_with fail
  refine (sTurnNipple_law v1 L u1 S sp q w3 RV.out (by omega) RU.out).mono ?_
  rw [HTR.out]
  rintro e w4 ⟨tm, rfl, ho, hb⟩
  replace RV := Lib.hid (RV.out.below hb)
  replace RU := Lib.hid (RU.out.below hb)
  replace RT := Lib.hid (RT.out.below hb)
  have RM := Lib.hid ((Sl.of_own ho (by have := HTL.out; unfold big40; omega) : Ints w4 tm TL))
  replace BW := Lib.hid (Below.step BW.out hb)
  clear hb
  clear ho
  go_wp2_with fail
  refine (DrawCheapestBicycle_any a0 len0 cap0 w4 hl4 hcap (Bytes.below HBY.out BW.out)).mono ?_
  rintro e w5 ⟨pv, jv, ps, js, rfl, ho, hpl, hk, hj, hjl, hb⟩
  replace RV := Lib.hid (RV.out.below hb)
  replace RU := Lib.hid (RU.out.below hb)
  replace RT := Lib.hid (RT.out.below hb)
  replace RM := Lib.hid (RM.out.below hb)
  have RP := Lib.hid (ho.rd (by omega) (fun x hx => (hk x hx).2))
  have RJ := Lib.hid ((Sl.of_own hj (by unfold big40; omega) : Sl eJoint w5 jv js))
  replace BW := Lib.hid (Below.step BW.out hb)
  clear hb
  have HQ : Hid (∀ x ∈ ps, x.code.size ≤ 1048576) := Lib.hid (fun x hx => (hk x hx).1)
  clear ho hj hk
  obtain ⟨pr, hpr⟩ : ∃ pr, bikeP ps js = pr := ⟨_, rfl⟩
  obtain ⟨be, hbe⟩ : ∃ be, bikeE ps js = be := ⟨_, rfl⟩
  obtain ⟨bb, hbb⟩ : ∃ bb, bikeB ps js = bb := ⟨_, rfl⟩
  have HPR := Lib.hid hpr
  have HBE := Lib.hid hbe
  have HBB := Lib.hid hbb
  clear hpr hbe hbb
  go_wp2_with fail
  refine (iCheapestBicycle_law pv jv ps js w5 RP.out RJ.out HQ.out).mono ?_
  rw [HPR.out, HBE.out, HBB.out]
  rintro e w6 ⟨ub, rfl, hs, hb⟩
  replace RV := Lib.hid (RV.out.below hb)
  replace RU := Lib.hid (RU.out.below hb)
  replace RT := Lib.hid (RT.out.below hb)
  replace RM := Lib.hid (RM.out.below hb)
  replace RP := Lib.hid (RP.out.below hb)
  replace RJ := Lib.hid (RJ.out.below hb)
  have RB := Lib.hid (hs)
  replace BW := Lib.hid (Below.step BW.out hb)
  clear hb
  clear hs
  go_wp2_with fail
  refine (sCheapestBicycle_law pv jv ps js w6 RP.out RJ.out HQ.out).mono ?_
  rw [HPR.out, HBE.out, HBB.out]
  rintro e w7 ⟨ubs, rfl, hs, hb⟩
  replace RV := Lib.hid (RV.out.below hb)
  replace RU := Lib.hid (RU.out.below hb)
  replace RT := Lib.hid (RT.out.below hb)
  replace RM := Lib.hid (RM.out.below hb)
  replace RP := Lib.hid (RP.out.below hb)
  replace RJ := Lib.hid (RJ.out.below hb)
  replace RB := Lib.hid (RB.out.below hb)
  have RBS := Lib.hid (hs)
  replace BW := Lib.hid (Below.step BW.out hb)
  clear hb
  clear hs
  go_wp2_with fail
  refine (DrawUsePieces_any a0 len0 cap0 w7 hl4 hcap (Bytes.below HBY.out BW.out)).mono ?_
  rintro e w8 ⟨sv, xs, nm, m, rfl, ho, hxl, hok, hnm, ⟨m0, m1⟩, hb⟩
  replace RV := Lib.hid (RV.out.below hb)
  replace RU := Lib.hid (RU.out.below hb)
  replace RT := Lib.hid (RT.out.below hb)
  replace RM := Lib.hid (RM.out.below hb)
  replace RP := Lib.hid (RP.out.below hb)
  replace RJ := Lib.hid (RJ.out.below hb)
  replace RB := Lib.hid (RB.out.below hb)
  replace RBS := Lib.hid (RBS.out.below hb)
  have RS := Lib.hid ((Sl.of_own ho (by unfold big40; omega) : Sl eBin w8 sv xs))
  replace BW := Lib.hid (Below.step BW.out hb)
  clear hb
  have HOK := Lib.hid (okBin_of hok)
  clear ho hok HBY
  have HUL := Lib.hid (use_len (s := nm) (n := m) hxl)
  obtain ⟨⟨us, c3⟩, hUR⟩ : ∃ r, UsePieces_r xs nm m = r := ⟨_, rfl⟩
  rw [hUR] at HUL
  have HUR := Lib.hid hUR
  clear hUR
  go_wp2_with fail
  refine (iUsePieces_law sv xs nm m w8 RS.out HOK.out).mono ?_
  rw [HUR.out]
  rintro e w9 ⟨uu, rfl, ho, hb⟩
  replace RV := Lib.hid (RV.out.below hb)
  replace RU := Lib.hid (RU.out.below hb)
  replace RT := Lib.hid (RT.out.below hb)
  replace RM := Lib.hid (RM.out.below hb)
  replace RP := Lib.hid (RP.out.below hb)
  replace RJ := Lib.hid (RJ.out.below hb)
  replace RB := Lib.hid (RB.out.below hb)
  replace RBS := Lib.hid (RBS.out.below hb)
  replace RS := Lib.hid (RS.out.below hb)
  have RUU := Lib.hid ((Sl.of_own ho (by have := HUL.out; unfold big40; omega) : Sl eBin w9 uu us))
  replace BW := Lib.hid (Below.step BW.out hb)
  clear hb
  clear ho
  go_wp2_with fail
  refine (sUsePieces_law sv xs nm m w9 RS.out HOK.out).mono ?_
  rw [HUR.out]
  rintro e wa ⟨ud, rfl, ho, hb⟩
  replace RV := Lib.hid (RV.out.below hb)
  replace RU := Lib.hid (RU.out.below hb)
  replace RT := Lib.hid (RT.out.below hb)
  replace RM := Lib.hid (RM.out.below hb)
  replace RP := Lib.hid (RP.out.below hb)
  replace RJ := Lib.hid (RJ.out.below hb)
  replace RB := Lib.hid (RB.out.below hb)
  replace RBS := Lib.hid (RBS.out.below hb)
  replace RS := Lib.hid (RS.out.below hb)
  replace RUU := Lib.hid (RUU.out.below hb)
  have RUD := Lib.hid ((Sl.of_own ho (by have := HUL.out; unfold big40; omega) : Sl eBin wa ud us))
  replace BW := Lib.hid (Below.step BW.out hb)
  clear hb
  clear ho
  go_wp2_with fail
  refine (likeInts_same t tm TL wa RT.out RM.out).mono ?_
  rintro e wb ⟨rfl, n1, rfl⟩
  replace RV : Hid (_) := Lib.hid (below_of_drewN n1 |> RV.out.below)
  replace RU : Hid (_) := Lib.hid (below_of_drewN n1 |> RU.out.below)
  replace RT : Hid (_) := Lib.hid (below_of_drewN n1 |> RT.out.below)
  replace RM : Hid (_) := Lib.hid (below_of_drewN n1 |> RM.out.below)
  replace RP : Hid (_) := Lib.hid (below_of_drewN n1 |> RP.out.below)
  replace RJ : Hid (_) := Lib.hid (below_of_drewN n1 |> RJ.out.below)
  replace RB : Hid (_) := Lib.hid (below_of_drewN n1 |> RB.out.below)
  replace RBS : Hid (_) := Lib.hid (below_of_drewN n1 |> RBS.out.below)
  replace RS : Hid (_) := Lib.hid (below_of_drewN n1 |> RS.out.below)
  replace RUU : Hid (_) := Lib.hid (below_of_drewN n1 |> RUU.out.below)
  replace RUD : Hid (_) := Lib.hid (below_of_drewN n1 |> RUD.out.below)
  replace BW := Lib.hid (below_drewN' BW.out n1)
  generalize wa.drewN n1 = wb at *
  clear RM
  go_wp2_with fail
  refine (likeTexts_same ub ubs bb wb RB.out RBS.out).mono ?_
  rintro e wc ⟨rfl, hb⟩
  replace RV := Lib.hid (RV.out.below hb)
  replace RU := Lib.hid (RU.out.below hb)
  replace RT := Lib.hid (RT.out.below hb)
  replace RP := Lib.hid (RP.out.below hb)
  replace RJ := Lib.hid (RJ.out.below hb)
  replace RB := Lib.hid (RB.out.below hb)
  replace RBS := Lib.hid (RBS.out.below hb)
  replace RS := Lib.hid (RS.out.below hb)
  replace RUU := Lib.hid (RUU.out.below hb)
  replace RUD := Lib.hid (RUD.out.below hb)
  replace BW := Lib.hid (Below.step BW.out hb)
  clear hb
  clear RBS
  go_wp2_with fail
  refine (likeBins_same uu ud us wc RUU.out RUD.out).mono ?_
  rintro e wd ⟨rfl, hb⟩
  replace RV := Lib.hid (RV.out.below hb)
  replace RU := Lib.hid (RU.out.below hb)
  replace RT := Lib.hid (RT.out.below hb)
  replace RP := Lib.hid (RP.out.below hb)
  replace RJ := Lib.hid (RJ.out.below hb)
  replace RB := Lib.hid (RB.out.below hb)
  replace RS := Lib.hid (RS.out.below hb)
  replace RUU := Lib.hid (RUU.out.below hb)
  replace RUD := Lib.hid (RUD.out.below hb)
  replace BW := Lib.hid (Below.step BW.out hb)
  clear hb
  clear RUD
  rcases Decidable.em (c1 = 0) with hC | hC
  · obtain ⟨tb1, tb2, tb3, tb4⟩ := turn_back HTR.out hC
    subst hC
    have HTB := Lib.hid tb1
    have HTLL : Hid (TL.length ≤ 1048576) := Lib.hid (by omega)
    have hqw : IntKind.i64.wrap (-q) = -q := IntWalk.i64_in _ (by omega)
    clear tb1 tb2 tb3 tb4
    go_wp2_with fail
    refine (iTurnNipple_law t TL u1 S sp (-q) wd RT.out HTLL.out RU.out).mono ?_
    rw [HTB.out]
    rintro e wz ⟨tb, rfl, ho, hb⟩
    have RBK := Lib.hid (Sl.of_own ho (by unfold big40; omega) : Ints wz tb L)
    replace RV := Lib.hid (RV.out.below hb)
    replace RP := Lib.hid (RP.out.below hb)
    replace RJ := Lib.hid (RJ.out.below hb)
    replace RB := Lib.hid (RB.out.below hb)
    replace RS := Lib.hid (RS.out.below hb)
    replace RUU := Lib.hid (RUU.out.below hb)
    replace BW := Lib.hid (Below.step BW.out hb)
    clear hb ho RT RU
    go_wp2_with fail
    refine (likeInts_same tb v1 L wz RBK.out RV.out).mono ?_
    rintro e we ⟨rfl, n2, rfl⟩
    replace RP := Lib.hid (RP.out.below (below_of_drewN n2))
    replace RJ := Lib.hid (RJ.out.below (below_of_drewN n2))
    replace RB := Lib.hid (RB.out.below (below_of_drewN n2))
    replace RS := Lib.hid (RS.out.below (below_of_drewN n2))
    replace RUU := Lib.hid (RUU.out.below (below_of_drewN n2))
    replace BW := Lib.hid (below_drewN' BW.out n2)
    clear RBK RV HTB HTLL HTL HTR hqw
    generalize wz.drewN n2 = we at *
    rcases Decidable.em (be = 0) with hE | hE
    rotate_left
    · have gE : (be == 0) = false := by simp [hE]
      clear hE RP RJ RB HQ
      go_wp2
      rename ∀ (a : Act) (w : World), Code.wp Try.prog _ _ a w → _ => hK34
      have HK := Lib.hid (fun (a : Act) (wX : World) (h : RTop w a wX) => hK34 a wX (top_rest w _ (by kernel_rfl) a wX h))
      clear hK34
      refine wp_loop_rounds 1 ?_
      rw [rounds_succ]
      go_wp2
      exact HK.out _ _ (rtop_of xs us nm m c3 sv uu (by kernel_rfl) HUR.out RS.out RUU.out BW.out)
    · subst hE
      have AT := Lib.hid (fun (j : Joint) (hj : j ∈ js) => bike_at HBE.out hj)
      have HBL := Lib.hid (bike_len HBE.out)
      have HAP := Lib.hid (bikeE_0 HBE.out).1
      rw [HBB.out] at AT HBL
      obtain ⟨gb, offb, capb, rfl, hcapb, hgb, hatb⟩ := build_at RB.out HBL.out
      have HATB := Lib.hid hatb
      obtain ⟨AJ, capj, rfl, _, hmj, hcj⟩ := RJ.out.shape
      have HCJ := Lib.hid hcj
      clear hatb hcj
      go_wp2
      rename ∀ (a : Act) (w : World), Code.wp Try.prog _ _ a w → _ => hK34
      have HK := Lib.hid (fun (a : Act) (wX : World) (h : RTop w a wX) => hK34 a wX (top_rest w _ (by kernel_rfl) a wX h))
      clear hK34
      go_loopg [28] js.length (fun gi i wr => ∃ k : Nat, k ≤ js.length ∧ gi = js.length - k ∧ i = .int .i64 k ∧ Hid (Below we.heap.size we wr))
      case atStart => exact ⟨0, Nat.zero_le _, rfl, rfl, Lib.hid (Below.refl _ _)⟩
      case round =>
        obtain ⟨k, hk, rfl, rfl, HB⟩ := hrel
        by_cases hlt : k < js.length
        rotate_left
        · obtain rfl : k = js.length := by omega
          have hki : ¬ ((js.length : Int) < (js.length : Int)) := by omega
          replace RS := Lib.hid (RS.out.below HB.out)
          replace RUU := Lib.hid (RUU.out.below HB.out)
          replace BW := Lib.hid (Below.step BW.out HB.out)
          clear RP RJ RB HQ AT HBL HAP HATB HCJ
          go_wp2
          exact HK.out _ _ (rtop_of xs us nm m c3 sv uu (by kernel_rfl) HUR.out RS.out RUU.out BW.out)
        obtain ⟨gj, offj, rfl, hbl, hcell⟩ := HCJ.out (by omega)
        have hbw := HB.out
        have c0 : wr.cell? ⟨gj, offj + k * 3, none⟩ = some (.int .i64 js[k].a) := (hbw.cell (p := ⟨gj, offj + k * 3, none⟩) hbl).trans (by simpa [eJoint, Nat.add_assoc] using hcell k hlt 0 _ (by decide) rfl)
        have c1 : wr.cell? ⟨gj, offj + k * 3 + 1, none⟩ = some (.int .i64 js[k].b) := (hbw.cell (p := ⟨gj, offj + k * 3 + 1, none⟩) hbl).trans (by simpa [eJoint, Nat.add_assoc] using hcell k hlt 1 _ (by decide) rfl)
        have c2 : wr.cell? ⟨gj, offj + k * 3 + 2, none⟩ = some (.int .i64 js[k].kind) := (hbw.cell (p := ⟨gj, offj + k * 3 + 2, none⟩) hbl).trans (by simpa [eJoint, Nat.add_assoc] using hcell k hlt 2 _ (by decide) rfl)
        have CJ : Hid (∀ W, Below we.heap.size we W → W.cell? ⟨gj, offj + k * 3, none⟩ = some (.int .i64 js[k].a) ∧ W.cell? ⟨gj, offj + k * 3 + 1, none⟩ = some (.int .i64 js[k].b) ∧ W.cell? ⟨gj, offj + k * 3 + 2, none⟩ = some (.int .i64 js[k].kind)) := Lib.hid (fun W h => by
          have d0 : W.cell? ⟨gj, offj + k * 3, none⟩ = some (.int .i64 js[k].a) := (h.cell (p := ⟨gj, offj + k * 3, none⟩) hbl).trans (by simpa [eJoint, Nat.add_assoc] using hcell k hlt 0 _ (by decide) rfl)
          have d1 : W.cell? ⟨gj, offj + k * 3 + 1, none⟩ = some (.int .i64 js[k].b) := (h.cell (p := ⟨gj, offj + k * 3 + 1, none⟩) hbl).trans (by simpa [eJoint, Nat.add_assoc] using hcell k hlt 1 _ (by decide) rfl)
          have d2 : W.cell? ⟨gj, offj + k * 3 + 2, none⟩ = some (.int .i64 js[k].kind) := (h.cell (p := ⟨gj, offj + k * 3 + 2, none⟩) hbl).trans (by simpa [eJoint, Nat.add_assoc] using hcell k hlt 2 _ (by decide) rfl)
          exact ⟨d0, d1, d2⟩)
        obtain ⟨⟨ja0, ja7, jb0, jb7⟩, kd0, kd9, k1, h1, k2, h2, e1, e2, hjo, hp1, hp2⟩ := AT.out js[k] (List.getElem_mem hlt)
        have CA := Lib.hid (HATB.out js[k].a ja0 ja7)
        have CB := Lib.hid (HATB.out js[k].b jb0 jb7)
        obtain ⟨gp, offp, capp, rfl, hgp⟩ := RdP.some_ RP.out (by omega)
        obtain ⟨A1, C1, at1⟩ := RdP.at_ RP.out k1 h1
        obtain ⟨A2, C2, at2⟩ := RdP.at_ RP.out k2 h2
        have HA1 := Lib.hid at1
        have HA2 := Lib.hid at2
        have HE1 := Lib.hid e1
        have HE2 := Lib.hid e2
        have HQ1 := Lib.hid (HQ.out _ (List.getElem_mem h1))
        have HQ2 := Lib.hid (HQ.out _ (List.getElem_mem h2))
        have HP1 := Lib.hid hp1
        have HP2 := Lib.hid hp2
        have HJO := Lib.hid hjo
        clear hcell at1 at2 e1 e2 hp1 hp2 hjo hbw c0 c1 c2
        generalize js[k] = j at *
        obtain ⟨ja, jb, kd⟩ := j
        simp only at *
        obtain ⟨ja, rfl⟩ : ∃ a : Nat, ja = a := ⟨ja.toNat, by omega⟩
        obtain ⟨jb, rfl⟩ : ∃ a : Nat, jb = a := ⟨jb.toNat, by omega⟩
        simp only [Int.toNat_natCast] at CA CB
        generalize getC bb (ja : Int) = ca at *
        generalize getC bb (jb : Int) = cb at *
        have i1 : (ja : Int) < 8 := by omega
        have i2 : (jb : Int) < 8 := by omega
        have i3 : (k : Int) < (js.length : Int) := by omega
        have i4 : (0 : Int) ≤ (k : Int) := by omega
        have i5 : (k1 : Int) < (ps.length : Int) := by omega
        have i6 : (k2 : Int) < (ps.length : Int) := by omega
        have i7 : (0 : Int) ≤ (k1 : Int) := by omega
        have i8 : (0 : Int) ≤ (k2 : Int) := by omega
        have hkw : IntKind.i64.wrap ((k : Int) + 1) = (k : Int) + 1 := IntWalk.i64_in _ (by omega)
        have F1 := Lib.hid (fun (W : World) (h : Below we.heap.size we W) => iFindPart_yes _ ps ca k1 W (RP.out.below h) HQ.out HAP.out HE1.out)
        have G1 := Lib.hid (fun (W : World) (h : Below we.heap.size we W) => sFindPart_yes _ ps ca k1 W (RP.out.below h) HQ.out HAP.out HE1.out)
        have F2 := Lib.hid (fun (W : World) (h : Below we.heap.size we W) => iFindPart_yes _ ps cb k2 W (RP.out.below h) HQ.out HAP.out HE2.out)
        have G2 := Lib.hid (fun (W : World) (h : Below we.heap.size we W) => sFindPart_yes _ ps cb k2 W (RP.out.below h) HQ.out HAP.out HE2.out)
        obtain ⟨c0, c1, c2⟩ := CJ.out _ HB.out
        have cx := CA.out _ HB.out
        go_wp2_with fail
        clear c0 c1 c2 cx
        refine (F1.out _ HB.out).mono ?_
        rintro e wf ⟨rfl, hb⟩
        replace HB := Lib.hid (Below.step HB.out hb)
        clear hb
        obtain ⟨c0, c1, c2⟩ := CJ.out _ HB.out
        have cx := CA.out _ HB.out
        go_wp2_with fail
        clear c0 c1 c2 cx
        refine (G1.out _ HB.out).mono ?_
        rintro e wg ⟨rfl, hb⟩
        replace HB := Lib.hid (Below.step HB.out hb)
        clear hb
        obtain ⟨c0, c1, c2⟩ := CJ.out _ HB.out
        have cx := CB.out _ HB.out
        go_wp2_with fail
        clear c0 c1 c2 cx
        refine (F2.out _ HB.out).mono ?_
        rintro e wh ⟨rfl, hb⟩
        replace HB := Lib.hid (Below.step HB.out hb)
        clear hb
        obtain ⟨c0, c1, c2⟩ := CJ.out _ HB.out
        have cx := CB.out _ HB.out
        go_wp2_with fail
        clear c0 c1 c2 cx
        refine (G2.out _ HB.out).mono ?_
        rintro e wi ⟨rfl, hb⟩
        replace HB := Lib.hid (Below.step HB.out hb)
        clear hb
        go_wp2
        have KEEP : Hid (∀ W, Below we.heap.size we W → PCells W gp (offp + k1 * 5) ps[k1] A1 C1 ∧ PCells W gp (offp + k2 * 5) ps[k2] A2 C2 ∧ W.cell? ⟨gj, offj + k * 3 + 2, none⟩ = some (.int .i64 kd)) := Lib.hid (fun W h => by
          obtain ⟨q0, q1, q2, q3, q4, _⟩ := HA1.out W h
          obtain ⟨r0, r1, r2, r3, r4, _⟩ := HA2.out W h
          exact ⟨⟨q0, q1, q2, q3, q4⟩, ⟨r0, r1, r2, r3, r4⟩, (CJ.out W h).2.2⟩)
        have CD : Hid (∀ W, Below we.heap.size we W → Calls Try.prog 19 #[.agg #[.string ps[k1].code, .int .i64 ps[k1].slot, .slice A1 ps[k1].ports.length C1, .int .i64 ps[k1].price, .int .i64 ps[k1].grams], .agg #[.string ps[k2].code, .int .i64 ps[k2].slot, .slice A2 ps[k2].ports.length C2, .int .i64 ps[k2].price, .int .i64 ps[k2].grams], .int .i64 kd] W fun e w' => e = .returned (.tuple #[.bool true, .int .i64 0]) ∧ Below we.heap.size we w') := Lib.hid (fun W h => (DoJoin_yes ps[k1] ps[k2] A1 A2 C1 C2 kd W (HA1.out W h).2.2.2.2.2 (HA2.out W h).2.2.2.2.2 HP1.out HP2.out HQ1.out HQ2.out kd0 kd9).mono fun _ _ hh => ⟨by rw [hh.1, HJO.out], Below.step h hh.2⟩)
        clear F1 F2 G1 G2 HA1 HA2 HE1 HE2 HQ1 HQ2 HP1 HP2 HJO CA CB CJ
        generalize ps[k1] = x1 at *
        generalize ps[k2] = x2 at *
        have hBR : Below we.heap.size we wi.drew := HB.out.drew
        go_region_held3 (fun W => PCells W gp (offp + k1 * 5) x1 A1 C1 ∧ PCells W gp (offp + k2 * 5) x2 A2 C2 ∧ W.cell? ⟨gj, offj + k * 3 + 2, none⟩ = some (.int .i64 kd)) (exact KEEP.out _ (by assumption))
          (first | (go_at_call 19; refine (CD.out _ ?_).mono ?_; (first | assumption); rintro e wn ⟨rfl, hb⟩))
        all_goals
          have HN := Lib.hid hb
          clear hb KEEP CD hBR HB
          go_wp2
          go_roundg (js.length - (k + 1))
          case measure => omega
          case rel => exact ⟨k + 1, by omega, rfl, by go_num, HN⟩
  · have gC : (c1 == 0) = false := by simp [hC]
    clear hC RT RU RV HTL HTR
    obtain ⟨we, hwe⟩ : ∃ we, we = wd := ⟨_, rfl⟩
    subst hwe
    rcases Decidable.em (be = 0) with hE | hE
    rotate_left
    · have gE : (be == 0) = false := by simp [hE]
      clear hE RP RJ RB HQ
      go_wp2
      rename ∀ (a : Act) (w : World), Code.wp Try.prog _ _ a w → _ => hK34
      have HK := Lib.hid (fun (a : Act) (wX : World) (h : RTop w a wX) => hK34 a wX (top_rest w _ (by kernel_rfl) a wX h))
      clear hK34
      refine wp_loop_rounds 1 ?_
      rw [rounds_succ]
      go_wp2
      exact HK.out _ _ (rtop_of xs us nm m c3 sv uu (by kernel_rfl) HUR.out RS.out RUU.out BW.out)
    · subst hE
      have AT := Lib.hid (fun (j : Joint) (hj : j ∈ js) => bike_at HBE.out hj)
      have HBL := Lib.hid (bike_len HBE.out)
      have HAP := Lib.hid (bikeE_0 HBE.out).1
      rw [HBB.out] at AT HBL
      obtain ⟨gb, offb, capb, rfl, hcapb, hgb, hatb⟩ := build_at RB.out HBL.out
      have HATB := Lib.hid hatb
      obtain ⟨AJ, capj, rfl, _, hmj, hcj⟩ := RJ.out.shape
      have HCJ := Lib.hid hcj
      clear hatb hcj
      go_wp2
      rename ∀ (a : Act) (w : World), Code.wp Try.prog _ _ a w → _ => hK34
      have HK := Lib.hid (fun (a : Act) (wX : World) (h : RTop w a wX) => hK34 a wX (top_rest w _ (by kernel_rfl) a wX h))
      clear hK34
      go_loopg [28] js.length (fun gi i wr => ∃ k : Nat, k ≤ js.length ∧ gi = js.length - k ∧ i = .int .i64 k ∧ Hid (Below we.heap.size we wr))
      case atStart => exact ⟨0, Nat.zero_le _, rfl, rfl, Lib.hid (Below.refl _ _)⟩
      case round =>
        obtain ⟨k, hk, rfl, rfl, HB⟩ := hrel
        by_cases hlt : k < js.length
        rotate_left
        · obtain rfl : k = js.length := by omega
          have hki : ¬ ((js.length : Int) < (js.length : Int)) := by omega
          replace RS := Lib.hid (RS.out.below HB.out)
          replace RUU := Lib.hid (RUU.out.below HB.out)
          replace BW := Lib.hid (Below.step BW.out HB.out)
          clear RP RJ RB HQ AT HBL HAP HATB HCJ
          go_wp2
          exact HK.out _ _ (rtop_of xs us nm m c3 sv uu (by kernel_rfl) HUR.out RS.out RUU.out BW.out)
        obtain ⟨gj, offj, rfl, hbl, hcell⟩ := HCJ.out (by omega)
        have hbw := HB.out
        have c0 : wr.cell? ⟨gj, offj + k * 3, none⟩ = some (.int .i64 js[k].a) := (hbw.cell (p := ⟨gj, offj + k * 3, none⟩) hbl).trans (by simpa [eJoint, Nat.add_assoc] using hcell k hlt 0 _ (by decide) rfl)
        have c1 : wr.cell? ⟨gj, offj + k * 3 + 1, none⟩ = some (.int .i64 js[k].b) := (hbw.cell (p := ⟨gj, offj + k * 3 + 1, none⟩) hbl).trans (by simpa [eJoint, Nat.add_assoc] using hcell k hlt 1 _ (by decide) rfl)
        have c2 : wr.cell? ⟨gj, offj + k * 3 + 2, none⟩ = some (.int .i64 js[k].kind) := (hbw.cell (p := ⟨gj, offj + k * 3 + 2, none⟩) hbl).trans (by simpa [eJoint, Nat.add_assoc] using hcell k hlt 2 _ (by decide) rfl)
        have CJ : Hid (∀ W, Below we.heap.size we W → W.cell? ⟨gj, offj + k * 3, none⟩ = some (.int .i64 js[k].a) ∧ W.cell? ⟨gj, offj + k * 3 + 1, none⟩ = some (.int .i64 js[k].b) ∧ W.cell? ⟨gj, offj + k * 3 + 2, none⟩ = some (.int .i64 js[k].kind)) := Lib.hid (fun W h => by
          have d0 : W.cell? ⟨gj, offj + k * 3, none⟩ = some (.int .i64 js[k].a) := (h.cell (p := ⟨gj, offj + k * 3, none⟩) hbl).trans (by simpa [eJoint, Nat.add_assoc] using hcell k hlt 0 _ (by decide) rfl)
          have d1 : W.cell? ⟨gj, offj + k * 3 + 1, none⟩ = some (.int .i64 js[k].b) := (h.cell (p := ⟨gj, offj + k * 3 + 1, none⟩) hbl).trans (by simpa [eJoint, Nat.add_assoc] using hcell k hlt 1 _ (by decide) rfl)
          have d2 : W.cell? ⟨gj, offj + k * 3 + 2, none⟩ = some (.int .i64 js[k].kind) := (h.cell (p := ⟨gj, offj + k * 3 + 2, none⟩) hbl).trans (by simpa [eJoint, Nat.add_assoc] using hcell k hlt 2 _ (by decide) rfl)
          exact ⟨d0, d1, d2⟩)
        obtain ⟨⟨ja0, ja7, jb0, jb7⟩, kd0, kd9, k1, h1, k2, h2, e1, e2, hjo, hp1, hp2⟩ := AT.out js[k] (List.getElem_mem hlt)
        have CA := Lib.hid (HATB.out js[k].a ja0 ja7)
        have CB := Lib.hid (HATB.out js[k].b jb0 jb7)
        obtain ⟨gp, offp, capp, rfl, hgp⟩ := RdP.some_ RP.out (by omega)
        obtain ⟨A1, C1, at1⟩ := RdP.at_ RP.out k1 h1
        obtain ⟨A2, C2, at2⟩ := RdP.at_ RP.out k2 h2
        have HA1 := Lib.hid at1
        have HA2 := Lib.hid at2
        have HE1 := Lib.hid e1
        have HE2 := Lib.hid e2
        have HQ1 := Lib.hid (HQ.out _ (List.getElem_mem h1))
        have HQ2 := Lib.hid (HQ.out _ (List.getElem_mem h2))
        have HP1 := Lib.hid hp1
        have HP2 := Lib.hid hp2
        have HJO := Lib.hid hjo
        clear hcell at1 at2 e1 e2 hp1 hp2 hjo hbw c0 c1 c2
        generalize js[k] = j at *
        obtain ⟨ja, jb, kd⟩ := j
        simp only at *
        obtain ⟨ja, rfl⟩ : ∃ a : Nat, ja = a := ⟨ja.toNat, by omega⟩
        obtain ⟨jb, rfl⟩ : ∃ a : Nat, jb = a := ⟨jb.toNat, by omega⟩
        simp only [Int.toNat_natCast] at CA CB
        generalize getC bb (ja : Int) = ca at *
        generalize getC bb (jb : Int) = cb at *
        have i1 : (ja : Int) < 8 := by omega
        have i2 : (jb : Int) < 8 := by omega
        have i3 : (k : Int) < (js.length : Int) := by omega
        have i4 : (0 : Int) ≤ (k : Int) := by omega
        have i5 : (k1 : Int) < (ps.length : Int) := by omega
        have i6 : (k2 : Int) < (ps.length : Int) := by omega
        have i7 : (0 : Int) ≤ (k1 : Int) := by omega
        have i8 : (0 : Int) ≤ (k2 : Int) := by omega
        have hkw : IntKind.i64.wrap ((k : Int) + 1) = (k : Int) + 1 := IntWalk.i64_in _ (by omega)
        have F1 := Lib.hid (fun (W : World) (h : Below we.heap.size we W) => iFindPart_yes _ ps ca k1 W (RP.out.below h) HQ.out HAP.out HE1.out)
        have G1 := Lib.hid (fun (W : World) (h : Below we.heap.size we W) => sFindPart_yes _ ps ca k1 W (RP.out.below h) HQ.out HAP.out HE1.out)
        have F2 := Lib.hid (fun (W : World) (h : Below we.heap.size we W) => iFindPart_yes _ ps cb k2 W (RP.out.below h) HQ.out HAP.out HE2.out)
        have G2 := Lib.hid (fun (W : World) (h : Below we.heap.size we W) => sFindPart_yes _ ps cb k2 W (RP.out.below h) HQ.out HAP.out HE2.out)
        obtain ⟨c0, c1, c2⟩ := CJ.out _ HB.out
        have cx := CA.out _ HB.out
        go_wp2_with fail
        clear c0 c1 c2 cx
        refine (F1.out _ HB.out).mono ?_
        rintro e wf ⟨rfl, hb⟩
        replace HB := Lib.hid (Below.step HB.out hb)
        clear hb
        obtain ⟨c0, c1, c2⟩ := CJ.out _ HB.out
        have cx := CA.out _ HB.out
        go_wp2_with fail
        clear c0 c1 c2 cx
        refine (G1.out _ HB.out).mono ?_
        rintro e wg ⟨rfl, hb⟩
        replace HB := Lib.hid (Below.step HB.out hb)
        clear hb
        obtain ⟨c0, c1, c2⟩ := CJ.out _ HB.out
        have cx := CB.out _ HB.out
        go_wp2_with fail
        clear c0 c1 c2 cx
        refine (F2.out _ HB.out).mono ?_
        rintro e wh ⟨rfl, hb⟩
        replace HB := Lib.hid (Below.step HB.out hb)
        clear hb
        obtain ⟨c0, c1, c2⟩ := CJ.out _ HB.out
        have cx := CB.out _ HB.out
        go_wp2_with fail
        clear c0 c1 c2 cx
        refine (G2.out _ HB.out).mono ?_
        rintro e wi ⟨rfl, hb⟩
        replace HB := Lib.hid (Below.step HB.out hb)
        clear hb
        go_wp2
        have KEEP : Hid (∀ W, Below we.heap.size we W → PCells W gp (offp + k1 * 5) ps[k1] A1 C1 ∧ PCells W gp (offp + k2 * 5) ps[k2] A2 C2 ∧ W.cell? ⟨gj, offj + k * 3 + 2, none⟩ = some (.int .i64 kd)) := Lib.hid (fun W h => by
          obtain ⟨q0, q1, q2, q3, q4, _⟩ := HA1.out W h
          obtain ⟨r0, r1, r2, r3, r4, _⟩ := HA2.out W h
          exact ⟨⟨q0, q1, q2, q3, q4⟩, ⟨r0, r1, r2, r3, r4⟩, (CJ.out W h).2.2⟩)
        have CD : Hid (∀ W, Below we.heap.size we W → Calls Try.prog 19 #[.agg #[.string ps[k1].code, .int .i64 ps[k1].slot, .slice A1 ps[k1].ports.length C1, .int .i64 ps[k1].price, .int .i64 ps[k1].grams], .agg #[.string ps[k2].code, .int .i64 ps[k2].slot, .slice A2 ps[k2].ports.length C2, .int .i64 ps[k2].price, .int .i64 ps[k2].grams], .int .i64 kd] W fun e w' => e = .returned (.tuple #[.bool true, .int .i64 0]) ∧ Below we.heap.size we w') := Lib.hid (fun W h => (DoJoin_yes ps[k1] ps[k2] A1 A2 C1 C2 kd W (HA1.out W h).2.2.2.2.2 (HA2.out W h).2.2.2.2.2 HP1.out HP2.out HQ1.out HQ2.out kd0 kd9).mono fun _ _ hh => ⟨by rw [hh.1, HJO.out], Below.step h hh.2⟩)
        clear F1 F2 G1 G2 HA1 HA2 HE1 HE2 HQ1 HQ2 HP1 HP2 HJO CA CB CJ
        generalize ps[k1] = x1 at *
        generalize ps[k2] = x2 at *
        have hBR : Below we.heap.size we wi.drew := HB.out.drew
        go_region_held3 (fun W => PCells W gp (offp + k1 * 5) x1 A1 C1 ∧ PCells W gp (offp + k2 * 5) x2 A2 C2 ∧ W.cell? ⟨gj, offj + k * 3 + 2, none⟩ = some (.int .i64 kd)) (exact KEEP.out _ (by assumption))
          (first | (go_at_call 19; refine (CD.out _ ?_).mono ?_; (first | assumption); rintro e wn ⟨rfl, hb⟩))
        all_goals
          have HN := Lib.hid hb
          clear hb KEEP CD hBR HB
          go_wp2
          go_roundg (js.length - (k + 1))
          case measure => omega
          case rel => exact ⟨k + 1, by omega, rfl, by go_num, HN⟩
end Go.Proofs.Ytblaojjpclipaaa
