/- Contracts of verdictsOf (chapter 28). No statement of the seat is proved here. -/
import Derived.Test.YtnpfgngfolgdfaaVerd
namespace Go.Proofs.Ytnpfgngfolgdfaa
open Go.RowKit

set_option maxHeartbeats 8000000 in
set_option maxRecDepth 20000 in
theorem verdictsOf_any (v : Value) (T : List Term) (u : Value) (C : List Claim) (w : World) (hv : Sl eTerm w v T) (hu : Sl eClaim w u C) (hT : areTerms T = true) (hC : areClaims C = true) :
    Calls Try.prog 74 #[v, u] w fun e w' => ∃ x y, e = .returned (.tuple #[x, y]) ∧ Own eI w' w.heap.size 2 x (verdL T C C.length) ∧ Own eI w' w.heap.size 2 y (grL T C C.length) ∧ Below w.heap.size w w' := by
  have HVT := Lib.hid hv
  have HCA := Lib.hid (areClaims_at hC).2
  have HTA := Lib.hid (fun k hk => areTerms_at hT k hk)
  have HT := Lib.hid hT
  have h20 := (areClaims_at hC).1
  have h10 : T.length ≤ 10 := by unfold areTerms at hT; rw [Bool.and_eq_true, decide_eq_true_eq] at hT; exact hT.1
  obtain ⟨A, cap, rfl, _, hm, hc⟩ := hv.shape
  obtain ⟨A2, cap2, rfl, _, hm2, hc2⟩ := hu.shape
  obtain ⟨i0, hi, hz0, hz1, hz2⟩ := info_parts info_i64
  clear hv hu hT hC
  go_enter Try.func74, Try.ntmps74
  go_wp2_with (at_make; refine wpList_make_full _ rfl _ _ 56 rfl w.heap.size 2 i0 (.int .i64 0) 1 Try.underlying56 hi hz0 hz1 .i64 .i64 _ _ T.length rfl rfl rfl rfl ?c1 ?c2 (Nat.le_refl _) ?_)
  case c1 => rw [hz2]; omega
  case c2 => unfold maxLen; omega
  intro w1 hown hgrow
  have hb1 : Below w.heap.size w w1 := (Below.refl _ _).grown hgrow (Nat.le_refl _) (by simp)
  have hs1 : w.heap.size + 1 ≤ w1.heap.size := (hown.lt _ rfl).2
  have hown0 : Own eI w1 w.heap.size 2 (.slice (some ⟨w.heap.size, 0, none⟩) T.length T.length) (grL T C 0) := by
    have h := own_made _ _ _ _ _ _ hown
    unfold Own
    rw [grL_len, grL_zero, eI_all, List.map_replicate]
    exact h
  clear hown hgrow
  go_wp2
  go_loopg [16, 6] C.length (fun gi i q wr => ∃ k : Nat, k ≤ C.length ∧ gi = C.length - k ∧ i = .int .i64 k ∧ Own eI wr (w.heap.size + 1) 2 q (verdL T C k) ∧ Own eI wr w.heap.size 2 (.slice (some ⟨w.heap.size, 0, none⟩) T.length T.length) (grL T C k) ∧ Below w.heap.size w wr ∧ w.heap.size + 1 ≤ wr.heap.size)
  case atStart => exact ⟨0, Nat.zero_le _, rfl, rfl, Own.nil_ _ _ _ _, hown0, hb1, hs1⟩
  case round =>
    obtain ⟨k, hk, rfl, rfl, hown, hgr, hb, hs⟩ := hrel
    clear hown0 hb1 hs1
    by_cases hlt : k < C.length
    · obtain ⟨b, off, rfl, hbl, hcell⟩ := hc2 (by omega)
      have c0 : wr.cell? ⟨b, off + k * 4, none⟩ = some (.string C[k].part) := (hb.cell (p := ⟨b, off + k * 4, none⟩) hbl).trans (by simpa [eClaim, Nat.add_assoc] using hcell k hlt 0 _ (by decide) rfl)
      have c1 : wr.cell? ⟨b, off + k * 4 + 1, none⟩ = some (.int .i64 C[k].sold) := (hb.cell (p := ⟨b, off + k * 4 + 1, none⟩) hbl).trans (by simpa [eClaim, Nat.add_assoc] using hcell k hlt 1 _ (by decide) rfl)
      have c2 : wr.cell? ⟨b, off + k * 4 + 2, none⟩ = some (.int .i64 C[k].day) := (hb.cell (p := ⟨b, off + k * 4 + 2, none⟩) hbl).trans (by simpa [eClaim, Nat.add_assoc] using hcell k hlt 2 _ (by decide) rfl)
      have c3 : wr.cell? ⟨b, off + k * 4 + 3, none⟩ = some (.int .i64 C[k].tens) := (hb.cell (p := ⟨b, off + k * 4 + 3, none⟩) hbl).trans (by simpa [eClaim, Nat.add_assoc] using hcell k hlt 3 _ (by decide) rfl)
      obtain ⟨_, d0, d1, d2, d3, d4⟩ := HCA.out k hlt
      have hgx : C.getD k zClaim = C[k] := getD_at _ _ _ hlt
      have HX := Lib.hid hgx
      have hs0 : w.heap.size ≤ wr.heap.size := by omega
      have HV1 := Lib.hid ((HVT.out.below hb).alloc (.cells #[.string C[k].part, .int .i64 C[k].sold, .int .i64 C[k].day, .int .i64 C[k].tens] 47))
      have hb' := hb.alloc hs0 (.cells #[.string C[k].part, .int .i64 C[k].sold, .int .i64 C[k].day, .int .i64 C[k].tens] 47)
      have hown' := World.ownsRow.alloc hown (.cells #[.string C[k].part, .int .i64 C[k].sold, .int .i64 C[k].day, .int .i64 C[k].tens] 47)
      have hgr' := World.ownsRow.alloc hgr (.cells #[.string C[k].part, .int .i64 C[k].sold, .int .i64 C[k].day, .int .i64 C[k].tens] 47)
      clear hc2 hcell hgx hown hgr
      go_wp2_with fail
      refine (findTerm_any _ T C[k].part _ HV1.out).mono ?_
      rintro e w2 ⟨rfl, hb2⟩
      obtain ⟨bc, _, hbr, hsr⟩ := box1 hb2
      have hown2 : Own eI w2 (w.heap.size + 1) 2 u6 (verdL T C k) := Own.below hown' hb2
      have hgr2 : Own eI w2 w.heap.size 2 (.slice (some ⟨w.heap.size, 0, none⟩) T.length T.length) (grL T C k) := Own.below hgr' hb2
      have hb3 : Below w.heap.size w w2 := below_step2 hb hbr hs0
      have hs3 : w.heap.size + 1 ≤ w2.heap.size := by omega
      have bx0 : w2.cell? ⟨wr.heap.size, 0, none⟩ = some (.string C[k].part) := (bc 0).trans rfl
      have bx1 : w2.cell? ⟨wr.heap.size, 1, none⟩ = some (.int .i64 C[k].sold) := (bc 1).trans rfl
      have bx2 : w2.cell? ⟨wr.heap.size, 2, none⟩ = some (.int .i64 C[k].day) := (bc 2).trans rfl
      have bx3 : w2.cell? ⟨wr.heap.size, 3, none⟩ = some (.int .i64 C[k].tens) := (bc 3).trans rfl
      clear bc hb2 hown' hgr' hb' hbr hs0
      have HO := Lib.hid hown2
      have HGR := Lib.hid hgr2
      have HB := Lib.hid hb3
      have HAP := Lib.hid (own_apart (v1 := .slice (some ⟨w.heap.size, 0, none⟩) T.length T.length) hown2 (by intro k hk; simp [Value.ownBlock] at hk; omega))
      have HNQ : Hid (some w.heap.size ≠ u6.ownBlock) := Lib.hid (fun e => by have := (World.ownsRow.lt hown2 _ e.symm).1; omega)
      clear hown2 hgr2 hb hb3
      by_cases hj : firstAt (isPart C[k].part) T < 0
      · have HVK : Hid (vAt T C k = 1) := Lib.hid (vAt_none (by rw [HX.out]; exact hj))
        have HNE : Hid (vAt T C k ≠ 0) := Lib.hid (by rw [HVK.out]; decide)
        have g : decide (firstAt (isPart C[k].part) T < 0) = true := decide_eq_true hj
        clear hc hj
        go_wp2_with (at_builtin; refine wpList_app eI rfl _ _ 56 rfl 2 (.int .i64 0) 8 Try.underlying56 info_i64 rfl (by decide) (by decide) (w.heap.size + 1) _ (verdL T C k) (by rfl) (by exact HO.out) (by rw [verdL_len]; omega) (by exact hs3) 1 _ (by rfl) _ (by rfl) (by rfl) ?_)
        intro v' w' hown' hbw' hg' hor' hs'
        have hgk : Own eI w' w.heap.size 2 (.slice (some ⟨w.heap.size, 0, none⟩) T.length T.length) (grL T C k) := by first | exact Own.kept HGR.out hg' HAP.out | exact Own.kept (Own.drewN HGR.out _) hg' HAP.out
        have hbk : Below w.heap.size w w' := by first | exact HB.out.trans (hbw'.mono (by omega)) | exact (below_drewN' HB.out _).trans (hbw'.mono (by omega))
        have hsN : w.heap.size + 1 ≤ w'.heap.size := Nat.le_trans hs3 (Nat.le_of_lt hs')
        have HO2 := Lib.hid hown'
        have HGK := Lib.hid hgk
        have HBK := Lib.hid hbk
        clear hgk hbk hown' hbw' hg' hor' hs'
        go_wp2
        go_roundg (C.length - (k + 1))
        case measure => omega
        case rel => exact ⟨k + 1, by omega, rfl, by go_num, (by rw [verdL_succ HVK.out]; exact HO2.out), (by rw [grL_no HNE.out]; exact HGK.out), HBK.out, hsN⟩
      obtain ⟨j, hjl, hj1, hj2, hj3⟩ := firstAt_get hj
      rw [hj1]
      have HJ1 : Hid (firstAt (isPart (C.getD k zClaim).part) T = (j : Int)) := Lib.hid (by rw [HX.out]; exact hj1)
      have HJ2 : Hid (isPart (C.getD k zClaim).part T[j] = true) := Lib.hid (by rw [HX.out]; exact hj2)
      have HJ3 : Hid ((T.take j).any (isPart (C.getD k zClaim).part) = false) := Lib.hid (by rw [HX.out]; exact hj3)
      obtain ⟨_, _, t1, t2, t3, t4, t5, t6, _⟩ := HTA.out j hjl
      have hpe : cntG T C k T[j].part = cntG T C k (C.getD k zClaim).part := cntG_congr T C (isPart_iff.1 HJ2.out) k
      have HPE := Lib.hid hpe
      obtain ⟨b2, off2, rfl, hbl2, hcell2⟩ := hc (by omega)
      have hbb := HB.out
      have x0 : w2.cell? ⟨b2, off2 + j * 4, none⟩ = some (.string T[j].part) := (hbb.cell (p := ⟨b2, off2 + j * 4, none⟩) hbl2).trans (by simpa [eTerm, Nat.add_assoc] using hcell2 j hjl 0 _ (by decide) rfl)
      have x1 : w2.cell? ⟨b2, off2 + j * 4 + 1, none⟩ = some (.int .i64 T[j].days) := (hbb.cell (p := ⟨b2, off2 + j * 4 + 1, none⟩) hbl2).trans (by simpa [eTerm, Nat.add_assoc] using hcell2 j hjl 1 _ (by decide) rfl)
      have x2 : w2.cell? ⟨b2, off2 + j * 4 + 2, none⟩ = some (.int .i64 T[j].tens) := (hbb.cell (p := ⟨b2, off2 + j * 4 + 2, none⟩) hbl2).trans (by simpa [eTerm, Nat.add_assoc] using hcell2 j hjl 2 _ (by decide) rfl)
      have x3 : w2.cell? ⟨b2, off2 + j * 4 + 3, none⟩ = some (.int .i64 T[j].claims) := (hbb.cell (p := ⟨b2, off2 + j * 4 + 3, none⟩) hbl2).trans (by simpa [eTerm, Nat.add_assoc] using hcell2 j hjl 3 _ (by decide) rfl)
      have hG0 := HGR.out.ints
      rw [grL_len] at hG0
      have gx : w2.cell? ⟨w.heap.size, j, none⟩ = some (.int .i64 (cntG T C k T[j].part)) := by
        rw [hG0.cellAt j (by omega), ← grL_at (C := C) (k := k) hjl, List.getElem?_map, List.getElem?_eq_getElem (by rw [grL_len]; exact hjl)]
        simp [List.getElem?_eq_getElem (show j < (grL T C k).length by rw [grL_len]; exact hjl)]
      have gf : w2.frozen? ⟨w.heap.size, j, none⟩ = false := hG0.frozenAt j
      have hgb := cntG_bd T C k T[j].part
      obtain ⟨q0, q1⟩ := hgb
      have HL := Lib.hid (vAt_late (C := C) (k := k) hjl HJ1.out)
      have HW := Lib.hid (vAt_worn (C := C) (k := k) hjl HJ1.out)
      have HU := Lib.hid (vAt_used (C := C) (k := k) hjl HJ1.out)
      have HG := Lib.hid (vAt_granted (C := C) (k := k) hjl HJ1.out)
      rw [← HPE.out, HX.out] at HU HG
      rw [HX.out] at HL HW
      have HYES := Lib.hid (fun h => grL_yes (C := C) (k := k) HT.out h hjl HJ2.out HJ3.out)
      clear hc hcell2 hbb hG0 hj hj1 hj2 hj3 hpe HPE
      generalize cntG T C k T[j].part = gk at *
      generalize C[k] = x at *
      generalize T[j] = y at *
      obtain ⟨yp, yd, yt, yc⟩ := y
      obtain ⟨xp, xs, xd, xt⟩ := x
      simp only at *
      have hw1 : IntKind.i64.wrap (xd - xs) = xd - xs := IntWalk.i64_in _ (by omega)
      by_cases h1 : yd < xd - xs
      · have HVK : Hid (vAt T C k = 2) := Lib.hid (HL.out h1)
        have HNE : Hid (vAt T C k ≠ 0) := Lib.hid (by rw [HVK.out]; decide)
        go_wp2
        go_quiet (fail)
        go_wp2_with (at_builtin; refine wpList_app eI rfl _ _ 56 rfl 2 (.int .i64 0) 8 Try.underlying56 info_i64 rfl (by decide) (by decide) (w.heap.size + 1) _ (verdL T C k) (by rfl) (by exact Own.drewN HO.out _) (by rw [verdL_len]; omega) (by exact hs3) 2 _ (by rfl) _ (by rfl) (by rfl) ?_)
        intro v' w' hown' hbw' hg' hor' hs'
        have hgk : Own eI w' w.heap.size 2 (.slice (some ⟨w.heap.size, 0, none⟩) T.length T.length) (grL T C k) := by first | exact Own.kept HGR.out hg' HAP.out | exact Own.kept (Own.drewN HGR.out _) hg' HAP.out
        have hbk : Below w.heap.size w w' := by first | exact HB.out.trans (hbw'.mono (by omega)) | exact (below_drewN' HB.out _).trans (hbw'.mono (by omega))
        have hsN : w.heap.size + 1 ≤ w'.heap.size := Nat.le_trans hs3 (Nat.le_of_lt hs')
        have HO2 := Lib.hid hown'
        have HGK := Lib.hid hgk
        have HBK := Lib.hid hbk
        clear hgk hbk hown' hbw' hg' hor' hs'
        go_wp2
        go_roundg (C.length - (k + 1))
        case measure => omega
        case rel => exact ⟨k + 1, by omega, rfl, by go_num, (by rw [verdL_succ HVK.out]; exact HO2.out), (by rw [grL_no HNE.out]; exact HGK.out), HBK.out, hsN⟩
      by_cases h2 : yt < xt
      · have HVK : Hid (vAt T C k = 3) := Lib.hid (HW.out h1 h2)
        have HNE : Hid (vAt T C k ≠ 0) := Lib.hid (by rw [HVK.out]; decide)
        go_wp2
        go_quiet (fail)
        go_wp2
        go_quiet (fail)
        go_wp2_with (at_builtin; refine wpList_app eI rfl _ _ 56 rfl 2 (.int .i64 0) 8 Try.underlying56 info_i64 rfl (by decide) (by decide) (w.heap.size + 1) _ (verdL T C k) (by rfl) (by exact Own.drewN HO.out _) (by rw [verdL_len]; omega) (by exact hs3) 3 _ (by rfl) _ (by rfl) (by rfl) ?_)
        intro v' w' hown' hbw' hg' hor' hs'
        have hgk : Own eI w' w.heap.size 2 (.slice (some ⟨w.heap.size, 0, none⟩) T.length T.length) (grL T C k) := by first | exact Own.kept HGR.out hg' HAP.out | exact Own.kept (Own.drewN HGR.out _) hg' HAP.out
        have hbk : Below w.heap.size w w' := by first | exact HB.out.trans (hbw'.mono (by omega)) | exact (below_drewN' HB.out _).trans (hbw'.mono (by omega))
        have hsN : w.heap.size + 1 ≤ w'.heap.size := Nat.le_trans hs3 (Nat.le_of_lt hs')
        have HO2 := Lib.hid hown'
        have HGK := Lib.hid hgk
        have HBK := Lib.hid hbk
        clear hgk hbk hown' hbw' hg' hor' hs'
        go_wp2
        go_roundg (C.length - (k + 1))
        case measure => omega
        case rel => exact ⟨k + 1, by omega, rfl, by go_num, (by rw [verdL_succ HVK.out]; exact HO2.out), (by rw [grL_no HNE.out]; exact HGK.out), HBK.out, hsN⟩
      by_cases h3 : yc ≤ gk
      · have HVK : Hid (vAt T C k = 4) := Lib.hid (HU.out h1 h2 h3)
        have HNE : Hid (vAt T C k ≠ 0) := Lib.hid (by rw [HVK.out]; decide)
        go_wp2
        go_quiet (fail)
        go_wp2
        go_quiet (fail)
        go_wp2
        go_quiet (fail)
        go_wp2_with (at_builtin; refine wpList_app eI rfl _ _ 56 rfl 2 (.int .i64 0) 8 Try.underlying56 info_i64 rfl (by decide) (by decide) (w.heap.size + 1) _ (verdL T C k) (by rfl) (by exact Own.drewN HO.out _) (by rw [verdL_len]; omega) (by exact hs3) 4 _ (by rfl) _ (by rfl) (by rfl) ?_)
        intro v' w' hown' hbw' hg' hor' hs'
        have hgk : Own eI w' w.heap.size 2 (.slice (some ⟨w.heap.size, 0, none⟩) T.length T.length) (grL T C k) := by first | exact Own.kept HGR.out hg' HAP.out | exact Own.kept (Own.drewN HGR.out _) hg' HAP.out
        have hbk : Below w.heap.size w w' := by first | exact HB.out.trans (hbw'.mono (by omega)) | exact (below_drewN' HB.out _).trans (hbw'.mono (by omega))
        have hsN : w.heap.size + 1 ≤ w'.heap.size := Nat.le_trans hs3 (Nat.le_of_lt hs')
        have HO2 := Lib.hid hown'
        have HGK := Lib.hid hgk
        have HBK := Lib.hid hbk
        clear hgk hbk hown' hbw' hg' hor' hs'
        go_wp2
        go_roundg (C.length - (k + 1))
        case measure => omega
        case rel => exact ⟨k + 1, by omega, rfl, by go_num, (by rw [verdL_succ HVK.out]; exact HO2.out), (by rw [grL_no HNE.out]; exact HGK.out), HBK.out, hsN⟩
      · have HVK : Hid (vAt T C k = 0) := Lib.hid (HG.out h1 h2 h3)
        go_wp2
        go_quiet (fail)
        go_wp2
        go_quiet (fail)
        go_wp2
        go_quiet (fail)
        go_wp2_with (at_builtin; refine wpList_app eI rfl _ _ 56 rfl 2 (.int .i64 0) 8 Try.underlying56 info_i64 rfl (by decide) (by decide) (w.heap.size + 1) _ (verdL T C k) (by rfl) (by exact Own.drewN HO.out _) (by rw [verdL_len]; omega) (by exact hs3) 0 _ (by rfl) _ (by rfl) (by rfl) ?_)
        intro v' w' hown' hbw' hg' hor' hs'
        have hfar := HAP.out
        have hgk : Own eI w' w.heap.size 2 (.slice (some ⟨w.heap.size, 0, none⟩) T.length T.length) (grL T C k) := Own.kept (Own.drewN HGR.out _) hg' HAP.out
        have hbk : Below w.heap.size w w' := (below_drewN' HB.out _).trans (hbw'.mono (by omega))
        have hsN : w.heap.size + 1 ≤ w'.heap.size := Nat.le_trans hs3 (Nat.le_of_lt hs')
        have hg0 := hgk.ints
        rw [grL_len] at hg0
        have gx2 : w'.cell? ⟨w.heap.size, j, none⟩ = some (.int .i64 gk) := (hg'.cell_far ⟨w.heap.size, j, none⟩ (Nat.lt_of_lt_of_le (Nat.lt_succ_self _) hs3) HNQ.out).trans gx
        have gf2 : w'.frozen? ⟨w.heap.size, j, none⟩ = false := hg0.frozenAt j
        have HST := Lib.hid (hg0.stored j (.int .i64 (gk + 1)))
        have HO2 := Lib.hid hown'
        have HBK := Lib.hid hbk
        have hw2 : IntKind.i64.wrap (gk + 1) = gk + 1 := IntWalk.i64_in _ (by omega)
        clear hfar hgk hbk hg0 hown' hbw' hg' hor' hs'
        go_wp2
        go_roundg (C.length - (k + 1))
        case measure => omega
        case rel => exact ⟨k + 1, by omega, rfl, by go_num, (by rw [verdL_succ HVK.out]; exact Own.kept HO2.out HST.out.2 (own_apart2 HO2.out (Nat.lt_succ_self _))), (by unfold Own; rw [grL_len, eI_all, HYES.out HVK.out, List.map_set]; exact HST.out.1), HBK.out.setCell (by simp) _, by simpa using hsN⟩
    · obtain rfl : k = C.length := by omega
      go_wp2
      go_ret2
      exact ⟨_, _, rfl, hown.mono (by omega), hgr, hb⟩
end Go.Proofs.Ytnpfgngfolgdfaa
