/- Contracts of l28Verdicts (chapter 28). No statement of the seat is proved here. -/
import Derived.Test.YtnpfgngfolgdfaaVerd
namespace Go.Proofs.Ytnpfgngfolgdfaa
open Go.RowKit

set_option maxHeartbeats 8000000 in
set_option maxRecDepth 20000 in
theorem l28Verdicts_any (v : Value) (T : List Term) (u : Value) (C : List Claim) (w : World) (hv : Sl eTerm w v T) (hu : Sl eClaim w u C) (hT : areTerms T = true) (hC : areClaims C = true) :
    Calls Try.prog 73 #[v, u] w fun e w' => ∃ x, e = .returned x ∧ Own eI w' w.heap.size 2 x (verdL T C C.length) ∧ Below w.heap.size w w' := by
  have HVT := Lib.hid hv
  have HUT := Lib.hid hu
  have HCA := Lib.hid (areClaims_at hC).2
  have HTA := Lib.hid (fun k hk => areTerms_at hT k hk)
  have h20 := (areClaims_at hC).1
  have h10 : T.length ≤ 10 := by unfold areTerms at hT; rw [Bool.and_eq_true, decide_eq_true_eq] at hT; exact hT.1
  obtain ⟨A, cap, rfl, _, hm, hc⟩ := hv.shape
  obtain ⟨A2, cap2, rfl, _, hm2, hc2⟩ := hu.shape
  have HO0 := Lib.hid (Own.empty eI w w.heap.size 2 (Nat.le_refl _))
  have HB0 := Lib.hid ((Below.refl w.heap.size w).alloc (Nat.le_refl _) (.cells #[] 2))
  clear hv hu hT hC
  go_enter Try.func73, Try.ntmps73
  go_wp2
  go_loopg [6, 5] C.length (fun gi i q wr => ∃ k : Nat, k ≤ C.length ∧ gi = C.length - k ∧ i = .int .i64 k ∧ Own eI wr w.heap.size 2 q (verdL T C k) ∧ Below w.heap.size w wr ∧ w.heap.size ≤ wr.heap.size)
  case atStart => exact ⟨0, Nat.zero_le _, rfl, rfl, HO0.out, HB0.out, by simp⟩
  case round =>
    obtain ⟨k, hk, rfl, rfl, hown, hb, hs⟩ := hrel
    clear HO0 HB0
    by_cases hlt : k < C.length
    · obtain ⟨b, off, rfl, hbl, hcell⟩ := hc2 (by omega)
      have c0 : wr.cell? ⟨b, off + k * 4, none⟩ = some (.string C[k].part) := (hb.cell (p := ⟨b, off + k * 4, none⟩) hbl).trans (by simpa [eClaim, Nat.add_assoc] using hcell k hlt 0 _ (by decide) rfl)
      have c1 : wr.cell? ⟨b, off + k * 4 + 1, none⟩ = some (.int .i64 C[k].sold) := (hb.cell (p := ⟨b, off + k * 4 + 1, none⟩) hbl).trans (by simpa [eClaim, Nat.add_assoc] using hcell k hlt 1 _ (by decide) rfl)
      have c2 : wr.cell? ⟨b, off + k * 4 + 2, none⟩ = some (.int .i64 C[k].day) := (hb.cell (p := ⟨b, off + k * 4 + 2, none⟩) hbl).trans (by simpa [eClaim, Nat.add_assoc] using hcell k hlt 2 _ (by decide) rfl)
      have c3 : wr.cell? ⟨b, off + k * 4 + 3, none⟩ = some (.int .i64 C[k].tens) := (hb.cell (p := ⟨b, off + k * 4 + 3, none⟩) hbl).trans (by simpa [eClaim, Nat.add_assoc] using hcell k hlt 3 _ (by decide) rfl)
      obtain ⟨_, d0, d1, d2, d3, d4⟩ := HCA.out k hlt
      have hgx : C.getD k zClaim = C[k] := getD_at _ _ _ hlt
      have HX := Lib.hid hgx
      have HV1 := Lib.hid ((HVT.out.below hb).alloc (.cells #[.string C[k].part, .int .i64 C[k].sold, .int .i64 C[k].day, .int .i64 C[k].tens] 47))
      have HU1 := Lib.hid ((HUT.out.below hb).alloc (.cells #[.string C[k].part, .int .i64 C[k].sold, .int .i64 C[k].day, .int .i64 C[k].tens] 47))
      have bx0 : (wr.alloc (.cells #[.string C[k].part, .int .i64 C[k].sold, .int .i64 C[k].day, .int .i64 C[k].tens] 47)).cell? ⟨wr.heap.size, 0, none⟩ = some (.string C[k].part) := (box_new _ _ _ 0).trans rfl
      have bx1 : (wr.alloc (.cells #[.string C[k].part, .int .i64 C[k].sold, .int .i64 C[k].day, .int .i64 C[k].tens] 47)).cell? ⟨wr.heap.size, 1, none⟩ = some (.int .i64 C[k].sold) := (box_new _ _ _ 1).trans rfl
      have bx2 : (wr.alloc (.cells #[.string C[k].part, .int .i64 C[k].sold, .int .i64 C[k].day, .int .i64 C[k].tens] 47)).cell? ⟨wr.heap.size, 2, none⟩ = some (.int .i64 C[k].day) := (box_new _ _ _ 2).trans rfl
      have bx3 : (wr.alloc (.cells #[.string C[k].part, .int .i64 C[k].sold, .int .i64 C[k].day, .int .i64 C[k].tens] 47)).cell? ⟨wr.heap.size, 3, none⟩ = some (.int .i64 C[k].tens) := (box_new _ _ _ 3).trans rfl
      have hown2 : Own eI (wr.alloc (.cells #[.string C[k].part, .int .i64 C[k].sold, .int .i64 C[k].day, .int .i64 C[k].tens] 47)) w.heap.size 2 u5 (verdL T C k) := hown.alloc _
      have hb3 := hb.alloc hs (.cells #[.string C[k].part, .int .i64 C[k].sold, .int .i64 C[k].day, .int .i64 C[k].tens] 47)
      have hs3 : w.heap.size ≤ (wr.alloc (.cells #[.string C[k].part, .int .i64 C[k].sold, .int .i64 C[k].day, .int .i64 C[k].tens] 47)).heap.size := by simp; omega
      clear hc2 hcell hgx hown hb
      go_wp2_with fail
      generalize wr.alloc (.cells #[.string C[k].part, .int .i64 C[k].sold, .int .i64 C[k].day, .int .i64 C[k].tens] 47) = w2 at *
      refine (l28Find_any _ T C[k].part w2 HV1.out).mono ?_
      rintro e w3 ⟨rfl, rfl⟩
      have hsl := Sl.of_own hown2 (by rw [verdL_len]; unfold big40; omega)
      have HSL := Lib.hid hsl
      obtain ⟨A3, cap3, rfl, _, _, _⟩ := hsl.shape
      have HO := Lib.hid hown2
      have HB := Lib.hid hb3
      clear hown2 hb3 hsl
      by_cases hj : firstAt (isPart C[k].part) T < 0
      · have HVK : Hid (vAt T C k = 1) := Lib.hid (vAt_none (by rw [HX.out]; exact hj))
        have g : decide (firstAt (isPart C[k].part) T < 0) = true := decide_eq_true hj
        clear hc hj
        go_wp2_with (at_builtin; refine wpList_app eI rfl _ _ 56 rfl 2 (.int .i64 0) 8 Try.underlying56 info_i64 rfl (by decide) (by decide) w.heap.size _ (verdL T C k) (by rfl) (by exact HO.out) (by rw [verdL_len]; omega) (by exact hs3) 1 _ (by rfl) _ (by rfl) (by rfl) ?_)
        intro v' w' hown' hbw' hg' hor' hs'
        have hbk : Below w.heap.size w w' := by first | exact HB.out.trans hbw' | exact (below_drewN' HB.out _).trans hbw'
        have hsN : w.heap.size ≤ w'.heap.size := Nat.le_trans hs3 (Nat.le_of_lt hs')
        have HO2 := Lib.hid hown'
        have HBK := Lib.hid hbk
        clear hbk hown' hbw' hg' hor' hs'
        go_wp2
        go_roundg (C.length - (k + 1))
        case measure => omega
        case rel => exact ⟨k + 1, by omega, rfl, by go_num, (by rw [verdL_succ HVK.out]; exact HO2.out), HBK.out, hsN⟩
      obtain ⟨j, hjl, hj1, hj2, hj3⟩ := firstAt_get hj
      rw [hj1]
      have HJ1 : Hid (firstAt (isPart (C.getD k zClaim).part) T = (j : Int)) := Lib.hid (by rw [HX.out]; exact hj1)
      obtain ⟨_, _, t1, t2, t3, t4, t5, t6, _⟩ := HTA.out j hjl
      obtain ⟨b2, off2, rfl, hbl2, hcell2⟩ := hc (by omega)
      have hbb := HB.out
      have x0 : w2.cell? ⟨b2, off2 + j * 4, none⟩ = some (.string T[j].part) := (hbb.cell (p := ⟨b2, off2 + j * 4, none⟩) hbl2).trans (by simpa [eTerm, Nat.add_assoc] using hcell2 j hjl 0 _ (by decide) rfl)
      have x1 : w2.cell? ⟨b2, off2 + j * 4 + 1, none⟩ = some (.int .i64 T[j].days) := (hbb.cell (p := ⟨b2, off2 + j * 4 + 1, none⟩) hbl2).trans (by simpa [eTerm, Nat.add_assoc] using hcell2 j hjl 1 _ (by decide) rfl)
      have x2 : w2.cell? ⟨b2, off2 + j * 4 + 2, none⟩ = some (.int .i64 T[j].tens) := (hbb.cell (p := ⟨b2, off2 + j * 4 + 2, none⟩) hbl2).trans (by simpa [eTerm, Nat.add_assoc] using hcell2 j hjl 2 _ (by decide) rfl)
      have x3 : w2.cell? ⟨b2, off2 + j * 4 + 3, none⟩ = some (.int .i64 T[j].claims) := (hbb.cell (p := ⟨b2, off2 + j * 4 + 3, none⟩) hbl2).trans (by simpa [eTerm, Nat.add_assoc] using hcell2 j hjl 3 _ (by decide) rfl)
      have hgb := cntG_bd T C k C[k].part
      obtain ⟨q0, q1⟩ := hgb
      have HL := Lib.hid (vAt_late (C := C) (k := k) hjl HJ1.out)
      have HW := Lib.hid (vAt_worn (C := C) (k := k) hjl HJ1.out)
      have HU := Lib.hid (vAt_used (C := C) (k := k) hjl HJ1.out)
      have HG := Lib.hid (vAt_granted (C := C) (k := k) hjl HJ1.out)
      rw [HX.out] at HL HW HU HG
      have hcall : ∀ n, Calls Try.prog 72 #[.slice (some ⟨b, off, none⟩) C.length cap2, .slice A3 (verdL T C k).length cap3, .string C[k].part] (w2.drewN n) fun e w' => e = .returned (.int .i64 (cntG T C k C[k].part)) ∧ w2.drewN n = w' := fun n => by
        have h := l28Granted_any _ C _ (verdL T C k) C[k].part (w2.drewN n) (HU1.out.drewN n) (HSL.out.drewN n) (by rw [verdL_len]; omega)
        rw [verdL_len, grantN_cnt T C _ k k (Nat.le_refl _)] at h
        rw [verdL_len]
        exact h
      have HCALL := Lib.hid hcall
      clear hc hcell2 hbb hj hj1 hj2 hj3 hcall
      generalize cntG T C k C[k].part = gk at *
      generalize C[k] = x at *
      generalize T[j] = y at *
      obtain ⟨yp, yd, yt, yc⟩ := y
      obtain ⟨xp, xs, xd, xt⟩ := x
      simp only at *
      have hw1 : IntKind.i64.wrap (xd - xs) = xd - xs := IntWalk.i64_in _ (by omega)
      by_cases h1 : yd < xd - xs
      · have HVK : Hid (vAt T C k = 2) := Lib.hid (HL.out h1)
        go_wp2
        go_quiet (fail)
        go_wp2_with (at_builtin; refine wpList_app eI rfl _ _ 56 rfl 2 (.int .i64 0) 8 Try.underlying56 info_i64 rfl (by decide) (by decide) w.heap.size _ (verdL T C k) (by rfl) (by exact Own.drewN HO.out _) (by rw [verdL_len]; omega) (by exact hs3) 2 _ (by rfl) _ (by rfl) (by rfl) ?_)
        intro v' w' hown' hbw' hg' hor' hs'
        have hbk : Below w.heap.size w w' := by first | exact HB.out.trans hbw' | exact (below_drewN' HB.out _).trans hbw'
        have hsN : w.heap.size ≤ w'.heap.size := Nat.le_trans hs3 (Nat.le_of_lt hs')
        have HO2 := Lib.hid hown'
        have HBK := Lib.hid hbk
        clear hbk hown' hbw' hg' hor' hs'
        go_wp2
        go_roundg (C.length - (k + 1))
        case measure => omega
        case rel => exact ⟨k + 1, by omega, rfl, by go_num, (by rw [verdL_succ HVK.out]; exact HO2.out), HBK.out, hsN⟩
      by_cases h2 : yt < xt
      · have HVK : Hid (vAt T C k = 3) := Lib.hid (HW.out h1 h2)
        go_wp2
        go_quiet (fail)
        go_wp2
        go_quiet (fail)
        go_wp2_with (at_builtin; refine wpList_app eI rfl _ _ 56 rfl 2 (.int .i64 0) 8 Try.underlying56 info_i64 rfl (by decide) (by decide) w.heap.size _ (verdL T C k) (by rfl) (by exact Own.drewN HO.out _) (by rw [verdL_len]; omega) (by exact hs3) 3 _ (by rfl) _ (by rfl) (by rfl) ?_)
        intro v' w' hown' hbw' hg' hor' hs'
        have hbk : Below w.heap.size w w' := by first | exact HB.out.trans hbw' | exact (below_drewN' HB.out _).trans hbw'
        have hsN : w.heap.size ≤ w'.heap.size := Nat.le_trans hs3 (Nat.le_of_lt hs')
        have HO2 := Lib.hid hown'
        have HBK := Lib.hid hbk
        clear hbk hown' hbw' hg' hor' hs'
        go_wp2
        go_roundg (C.length - (k + 1))
        case measure => omega
        case rel => exact ⟨k + 1, by omega, rfl, by go_num, (by rw [verdL_succ HVK.out]; exact HO2.out), HBK.out, hsN⟩
      by_cases h3 : yc ≤ gk
      · have HVK : Hid (vAt T C k = 4) := Lib.hid (HU.out h1 h2 h3)
        go_wp2
        go_quiet (fail)
        go_wp2
        go_quiet (fail)
        go_wp2
        go_quiet (first | (go_at_call 72; exact q_same (HCALL.out _)) | (go_at_call 72; exact q_same2 (HCALL.out _)))
        go_wp2_with (at_builtin; refine wpList_app eI rfl _ _ 56 rfl 2 (.int .i64 0) 8 Try.underlying56 info_i64 rfl (by decide) (by decide) w.heap.size _ (verdL T C k) (by rfl) (by exact Own.drewN HO.out _) (by rw [verdL_len]; omega) (by exact hs3) 4 _ (by rfl) _ (by rfl) (by rfl) ?_)
        intro v' w' hown' hbw' hg' hor' hs'
        have hbk : Below w.heap.size w w' := by first | exact HB.out.trans hbw' | exact (below_drewN' HB.out _).trans hbw'
        have hsN : w.heap.size ≤ w'.heap.size := Nat.le_trans hs3 (Nat.le_of_lt hs')
        have HO2 := Lib.hid hown'
        have HBK := Lib.hid hbk
        clear hbk hown' hbw' hg' hor' hs'
        go_wp2
        go_roundg (C.length - (k + 1))
        case measure => omega
        case rel => exact ⟨k + 1, by omega, rfl, by go_num, (by rw [verdL_succ HVK.out]; exact HO2.out), HBK.out, hsN⟩
      · have HVK : Hid (vAt T C k = 0) := Lib.hid (HG.out h1 h2 h3)
        go_wp2
        go_quiet (fail)
        go_wp2
        go_quiet (fail)
        go_wp2
        go_quiet (first | (go_at_call 72; exact q_same (HCALL.out _)) | (go_at_call 72; exact q_same2 (HCALL.out _)))
        go_wp2_with (at_builtin; refine wpList_app eI rfl _ _ 56 rfl 2 (.int .i64 0) 8 Try.underlying56 info_i64 rfl (by decide) (by decide) w.heap.size _ (verdL T C k) (by rfl) (by exact Own.drewN HO.out _) (by rw [verdL_len]; omega) (by exact hs3) 0 _ (by rfl) _ (by rfl) (by rfl) ?_)
        intro v' w' hown' hbw' hg' hor' hs'
        have hbk : Below w.heap.size w w' := by first | exact HB.out.trans hbw' | exact (below_drewN' HB.out _).trans hbw'
        have hsN : w.heap.size ≤ w'.heap.size := Nat.le_trans hs3 (Nat.le_of_lt hs')
        have HO2 := Lib.hid hown'
        have HBK := Lib.hid hbk
        clear hbk hown' hbw' hg' hor' hs'
        go_wp2
        go_roundg (C.length - (k + 1))
        case measure => omega
        case rel => exact ⟨k + 1, by omega, rfl, by go_num, (by rw [verdL_succ HVK.out]; exact HO2.out), HBK.out, hsN⟩
    · obtain rfl : k = C.length := by omega
      go_wp2
      go_ret
      exact ⟨_, rfl, hown, hb⟩
end Go.Proofs.Ytnpfgngfolgdfaa
