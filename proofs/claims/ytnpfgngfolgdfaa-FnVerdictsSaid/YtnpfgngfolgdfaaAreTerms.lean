/- Contracts of AreTerms (chapter 28). No statement of the seat is proved here. -/
import Derived.Test.YtnpfgngfolgdfaaTerms
namespace Go.Proofs.Ytnpfgngfolgdfaa
open Go.RowKit

set_option maxHeartbeats 8000000 in
set_option maxRecDepth 20000 in
theorem iAreTerms_any (v : Value) (xs : List Term) (w : World) (hv : Sl eTerm w v xs) (hq : ∀ x ∈ xs, okTerm x) :
    Calls Try.prog 25 #[v] w fun e w' => e = .returned (.bool (areTerms xs)) ∧ Below w.heap.size w w' := by
  obtain ⟨A, cap, rfl, hle, hm, hc⟩ := hv.shape
  by_cases hbig : 10 < xs.length
  · clear hc
    go_enter Try.func25, Try.ntmps25
    go_wp2
    go_ret
    exact ⟨ret_bool (by unfold areTerms; rw [decide_eq_false (by omega)]; rfl), Below.refl _ _⟩
  have HQ := Lib.hid hq
  clear hq
  have HV := Lib.hid hv
  clear hv
  go_enter Try.func25, Try.ntmps25
  go_wp2
  go_loopg [10] xs.length (fun gi i wr => ∃ k : Nat, k ≤ xs.length ∧ gi = xs.length - k ∧ i = .int .i64 k ∧ Hid ((List.range k).all (termOk xs) = true) ∧ Below w.heap.size w wr ∧ w.heap.size ≤ wr.heap.size)
  case atStart => exact ⟨0, Nat.zero_le _, rfl, rfl, Lib.hid rfl, Below.refl _ _, Nat.le_refl _⟩
  case round =>
    obtain ⟨k, hk, rfl, rfl, HA, hb, hs⟩ := hrel
    by_cases hlt : k < xs.length
    · obtain ⟨b, off, rfl, hbl, hcell⟩ := hc (by omega)
      have c0 : wr.cell? ⟨b, off + k * 4, none⟩ = some (.string xs[k].part) := (hb.cell (p := ⟨b, off + k * 4, none⟩) hbl).trans (by simpa [eTerm, Nat.add_assoc] using hcell k hlt 0 _ (by decide) rfl)
      have c1 : wr.cell? ⟨b, off + k * 4 + 1, none⟩ = some (.int .i64 xs[k].days) := (hb.cell (p := ⟨b, off + k * 4 + 1, none⟩) hbl).trans (by simpa [eTerm, Nat.add_assoc] using hcell k hlt 1 _ (by decide) rfl)
      have c2 : wr.cell? ⟨b, off + k * 4 + 2, none⟩ = some (.int .i64 xs[k].tens) := (hb.cell (p := ⟨b, off + k * 4 + 2, none⟩) hbl).trans (by simpa [eTerm, Nat.add_assoc] using hcell k hlt 2 _ (by decide) rfl)
      have c3 : wr.cell? ⟨b, off + k * 4 + 3, none⟩ = some (.int .i64 xs[k].claims) := (hb.cell (p := ⟨b, off + k * 4 + 3, none⟩) hbl).trans (by simpa [eTerm, Nat.add_assoc] using hcell k hlt 3 _ (by decide) rfl)
      have hokx := HQ.out _ (List.getElem_mem hlt)
      have HW : termOk xs k = (termB xs[k] && !(xs.take k).any (isPart xs[k].part)) := by unfold termOk; rw [getD_at _ _ k hlt]
      have hb0 : Below w.heap.size w (wr.alloc (.cells #[.string xs[k].part, .int .i64 xs[k].days, .int .i64 xs[k].tens, .int .i64 xs[k].claims] 72)) := hb.alloc hs _
      have HSL := Lib.hid (HV.out.below hb0)
      have HB := Lib.hid hb0
      have HK := Lib.hid (show isPart xs[k].part xs[k] = true by simp [isPart])
      have HF := Lib.hid (fun (h : (xs.take k).any (isPart xs[k].part) = false) => firstAt_at (p := isPart xs[k].part) hlt h HK.out)
      have HF2 := Lib.hid (fun (h : (xs.take k).any (isPart xs[k].part) = true) => firstAt_le (p := isPart xs[k].part) (xs := xs) (k := k) h)
      clear hc hcell hb hb0 HK
      generalize xs[k] = x at *
      obtain ⟨pt, dy, tn, cl⟩ := x
      simp only at *
      have HD : Hid (termOk xs k = (isWord pt && inR dy 1 10000 && inR tn 1 10000000 && inR cl 1 20 && !(xs.take k).any (isPart pt))) := Lib.hid HW
      clear HW
      rcases h1 : isWord pt
      · have H1 := Lib.hid h1
        clear h1
        go_wp2_with (first | (go_at_call_of 61 pt; refine (iIsWord_eq hokx H1.out _).mono ?_; rintro e w' ⟨rfl, rfl⟩))
        go_ret
        exact ⟨ret_bool (by unfold areTerms; rw [range_all_false hlt (by rw [HD.out, H1.out]; simp)]; simp), HB.out⟩
      have H1 := Lib.hid h1
      clear h1
      rcases h2 : inR dy 1 10000
      · have H2 := Lib.hid h2
        clear h2
        go_wp2_with (first | (go_at_call_of 61 pt; refine (iIsWord_eq hokx H1.out _).mono ?_; rintro e w' ⟨rfl, rfl⟩) | (go_at_call_of 63 dy; refine (within_eq H2.out _).mono ?_; rintro e w' ⟨rfl, rfl⟩))
        go_ret
        exact ⟨ret_bool (by unfold areTerms; rw [range_all_false hlt (by rw [HD.out, H1.out, H2.out]; simp)]; simp), HB.out⟩
      have H2 := Lib.hid h2
      clear h2
      rcases h3 : inR tn 1 10000000
      · have H3 := Lib.hid h3
        clear h3
        go_wp2_with (first | (go_at_call_of 61 pt; refine (iIsWord_eq hokx H1.out _).mono ?_; rintro e w' ⟨rfl, rfl⟩) | (go_at_call_of 63 dy; refine (within_eq H2.out _).mono ?_; rintro e w' ⟨rfl, rfl⟩) | (go_at_call_of 63 tn; refine (within_eq H3.out _).mono ?_; rintro e w' ⟨rfl, rfl⟩))
        go_ret
        exact ⟨ret_bool (by unfold areTerms; rw [range_all_false hlt (by rw [HD.out, H1.out, H2.out, H3.out]; simp)]; simp), HB.out⟩
      have H3 := Lib.hid h3
      clear h3
      rcases h4 : inR cl 1 20
      · have H4 := Lib.hid h4
        clear h4
        go_wp2_with (first | (go_at_call_of 61 pt; refine (iIsWord_eq hokx H1.out _).mono ?_; rintro e w' ⟨rfl, rfl⟩) | (go_at_call_of 63 dy; refine (within_eq H2.out _).mono ?_; rintro e w' ⟨rfl, rfl⟩) | (go_at_call_of 63 tn; refine (within_eq H3.out _).mono ?_; rintro e w' ⟨rfl, rfl⟩) | (go_at_call_of 63 cl; refine (within_eq H4.out _).mono ?_; rintro e w' ⟨rfl, rfl⟩))
        go_ret
        exact ⟨ret_bool (by unfold areTerms; rw [range_all_false hlt (by rw [HD.out, H1.out, H2.out, H3.out, H4.out]; simp)]; simp), HB.out⟩
      have H4 := Lib.hid h4
      clear h4
      rcases ha : (xs.take k).any (isPart pt)
      · have H5 := Lib.hid ha
        clear ha
        go_wp2_with (first | (go_at_call_of 61 pt; refine (iIsWord_eq hokx H1.out _).mono ?_; rintro e w' ⟨rfl, rfl⟩) | (go_at_call_of 63 dy; refine (within_eq H2.out _).mono ?_; rintro e w' ⟨rfl, rfl⟩) | (go_at_call_of 63 tn; refine (within_eq H3.out _).mono ?_; rintro e w' ⟨rfl, rfl⟩) | (go_at_call_of 63 cl; refine (within_eq H4.out _).mono ?_; rintro e w' ⟨rfl, rfl⟩))
        have hcd : (wr.alloc (.cells #[.string pt, .int .i64 dy, .int .i64 tn, .int .i64 cl] 72)).cell? ⟨wr.heap.size, 0, none⟩ = some (.string pt) := by simp
        generalize (wr.alloc (.cells #[.string pt, .int .i64 dy, .int .i64 tn, .int .i64 cl] 72)) = wb at *
        refine wp_region_still_tail 5 (by kernel_rfl) (by kernel_rfl) ?_
        simp only [List.take_succ_cons, List.take_zero, List.drop_succ_cons, List.drop_zero]
        still_step
        still_step
        refine wpStill_step (fun K hK => ?_)
        go_simp
        rw [if_pos (show k ≤ cap by omega)]
        refine ⟨rfl, hK _ ?_⟩
        clear hK K
        repeat still_step
        refine wpStill_nil ?_
        change wpList _ _ _ _ _ wb.drew
        have hbd : Below w.heap.size w wb.drew := below_drewN' HB.out 1
        have hslk : Sl eTerm wb.drew _ _ := HSL.out.drew.take k hk
        have hsd := hbd.size
        clear HB HSL
        generalize wb.drew = w2 at *
        go_wp2_with fail
        refine (findTerm_any _ _ pt w2 hslk).mono ?_
        rintro e w3 ⟨rfl, hb3⟩
        have hb4 := below_step2 hbd hb3 hsd
        have hs4 := hb4.size
        clear hbd hb3
        rw [firstAt_none H5.out]
        go_wp2
        go_roundg (xs.length - (k + 1))
        case measure => omega
        case rel => exact ⟨k + 1, by omega, rfl, by go_num, Lib.hid (range_all_succ HA.out (by rw [HD.out, H1.out, H2.out, H3.out, H4.out, H5.out]; rfl)), hb4, hs4⟩
      · have H5 := Lib.hid ha
        have hge : ¬ firstAt (isPart pt) (xs.take k) < 0 := fun h => by rw [firstAt_neg.1 h] at ha; cases ha
        obtain ⟨j, hj, hj2, _⟩ := firstAt_get hge
        have HJ := Lib.hid hj2
        clear ha hge hj2
        go_wp2_with (first | (go_at_call_of 61 pt; refine (iIsWord_eq hokx H1.out _).mono ?_; rintro e w' ⟨rfl, rfl⟩) | (go_at_call_of 63 dy; refine (within_eq H2.out _).mono ?_; rintro e w' ⟨rfl, rfl⟩) | (go_at_call_of 63 tn; refine (within_eq H3.out _).mono ?_; rintro e w' ⟨rfl, rfl⟩) | (go_at_call_of 63 cl; refine (within_eq H4.out _).mono ?_; rintro e w' ⟨rfl, rfl⟩))
        have hcd : (wr.alloc (.cells #[.string pt, .int .i64 dy, .int .i64 tn, .int .i64 cl] 72)).cell? ⟨wr.heap.size, 0, none⟩ = some (.string pt) := by simp
        generalize (wr.alloc (.cells #[.string pt, .int .i64 dy, .int .i64 tn, .int .i64 cl] 72)) = wb at *
        refine wp_region_still_tail 5 (by kernel_rfl) (by kernel_rfl) ?_
        simp only [List.take_succ_cons, List.take_zero, List.drop_succ_cons, List.drop_zero]
        still_step
        still_step
        refine wpStill_step (fun K hK => ?_)
        go_simp
        rw [if_pos (show k ≤ cap by omega)]
        refine ⟨rfl, hK _ ?_⟩
        clear hK K
        repeat still_step
        refine wpStill_nil ?_
        change wpList _ _ _ _ _ wb.drew
        have hbd : Below w.heap.size w wb.drew := below_drewN' HB.out 1
        have hslk : Sl eTerm wb.drew _ _ := HSL.out.drew.take k hk
        have hsd := hbd.size
        clear HB HSL
        generalize wb.drew = w2 at *
        go_wp2_with fail
        refine (findTerm_any _ _ pt w2 hslk).mono ?_
        rintro e w3 ⟨rfl, hb3⟩
        have hb4 := below_step2 hbd hb3 hsd
        have hs4 := hb4.size
        clear hbd hb3
        rw [HJ.out]
        go_wp2
        go_ret
        exact ⟨ret_bool (by unfold areTerms; rw [range_all_false hlt (by rw [HD.out, H1.out, H2.out, H3.out, H4.out, H5.out]; rfl)]; simp), hb4⟩
    · obtain rfl : k = xs.length := by omega
      go_wp2
      go_ret
      exact ⟨ret_bool (by unfold areTerms; rw [HA.out, decide_eq_true (by omega)]; rfl), hb⟩
set_option maxHeartbeats 8000000 in
set_option maxRecDepth 20000 in
theorem sAreTerms_any (v : Value) (xs : List Term) (w : World) (hv : Sl eTerm w v xs) (hq : ∀ x ∈ xs, okTerm x) :
    Calls Try.prog 23 #[v] w fun e w' => e = .returned (.bool (areTerms xs)) ∧ Below w.heap.size w w' := by
  obtain ⟨A, cap, rfl, hle, hm, hc⟩ := hv.shape
  have HQ := Lib.hid hq
  clear hq
  have HV := Lib.hid hv
  clear hv
  go_enter Try.func23, Try.ntmps23
  go_wp2
  go_loopg [3] xs.length (fun gi i wr => ∃ k : Nat, k ≤ xs.length ∧ gi = xs.length - k ∧ i = .int .i64 k ∧ Hid ((List.range k).all (termOk xs) = true) ∧ Below w.heap.size w wr ∧ w.heap.size ≤ wr.heap.size)
  case atStart => exact ⟨0, Nat.zero_le _, rfl, rfl, Lib.hid rfl, Below.refl _ _, Nat.le_refl _⟩
  case round =>
    obtain ⟨k, hk, rfl, rfl, HA, hb, hs⟩ := hrel
    by_cases hlt : k < xs.length
    · obtain ⟨b, off, rfl, hbl, hcell⟩ := hc (by omega)
      have c0 : wr.cell? ⟨b, off + k * 4, none⟩ = some (.string xs[k].part) := (hb.cell (p := ⟨b, off + k * 4, none⟩) hbl).trans (by simpa [eTerm, Nat.add_assoc] using hcell k hlt 0 _ (by decide) rfl)
      have c1 : wr.cell? ⟨b, off + k * 4 + 1, none⟩ = some (.int .i64 xs[k].days) := (hb.cell (p := ⟨b, off + k * 4 + 1, none⟩) hbl).trans (by simpa [eTerm, Nat.add_assoc] using hcell k hlt 1 _ (by decide) rfl)
      have c2 : wr.cell? ⟨b, off + k * 4 + 2, none⟩ = some (.int .i64 xs[k].tens) := (hb.cell (p := ⟨b, off + k * 4 + 2, none⟩) hbl).trans (by simpa [eTerm, Nat.add_assoc] using hcell k hlt 2 _ (by decide) rfl)
      have c3 : wr.cell? ⟨b, off + k * 4 + 3, none⟩ = some (.int .i64 xs[k].claims) := (hb.cell (p := ⟨b, off + k * 4 + 3, none⟩) hbl).trans (by simpa [eTerm, Nat.add_assoc] using hcell k hlt 3 _ (by decide) rfl)
      have hokx := HQ.out _ (List.getElem_mem hlt)
      have HW : termOk xs k = (termB xs[k] && !(xs.take k).any (isPart xs[k].part)) := by unfold termOk; rw [getD_at _ _ k hlt]
      have hb0 : Below w.heap.size w (wr.alloc (.cells #[.string xs[k].part, .int .i64 xs[k].days, .int .i64 xs[k].tens, .int .i64 xs[k].claims] 72)) := hb.alloc hs _
      have HSL := Lib.hid (HV.out.below hb0)
      have HB := Lib.hid hb0
      have HK := Lib.hid (show isPart xs[k].part xs[k] = true by simp [isPart])
      have HF := Lib.hid (fun (h : (xs.take k).any (isPart xs[k].part) = false) => firstAt_at (p := isPart xs[k].part) hlt h HK.out)
      have HF2 := Lib.hid (fun (h : (xs.take k).any (isPart xs[k].part) = true) => firstAt_le (p := isPart xs[k].part) (xs := xs) (k := k) h)
      clear hc hcell hb hb0 HK
      generalize xs[k] = x at *
      obtain ⟨pt, dy, tn, cl⟩ := x
      simp only at *
      have HD : Hid (termOk xs k = (isWord pt && inR dy 1 10000 && inR tn 1 10000000 && inR cl 1 20 && !(xs.take k).any (isPart pt))) := Lib.hid HW
      clear HW
      rcases h1 : isWord pt
      · have H1 := Lib.hid h1
        clear h1
        go_wp2_with (first | (go_at_call_of 59 pt; refine (sIsWord_eq hokx H1.out _).mono ?_; rintro e w' ⟨rfl, rfl⟩))
        go_ret
        exact ⟨ret_bool (by unfold areTerms; rw [range_all_false hlt (by rw [HD.out, H1.out]; simp)]; simp), HB.out⟩
      have H1 := Lib.hid h1
      clear h1
      rcases h2 : inR dy 1 10000
      · have H2 := Lib.hid h2
        clear h2
        go_wp2_with (first | (go_at_call_of 59 pt; refine (sIsWord_eq hokx H1.out _).mono ?_; rintro e w' ⟨rfl, rfl⟩) | (go_at_call_of 58 dy; refine (l01In_eq H2.out _).mono ?_; rintro e w' ⟨rfl, rfl⟩))
        go_ret
        exact ⟨ret_bool (by unfold areTerms; rw [range_all_false hlt (by rw [HD.out, H1.out, H2.out]; simp)]; simp), HB.out⟩
      have H2 := Lib.hid h2
      clear h2
      rcases h3 : inR tn 1 10000000
      · have H3 := Lib.hid h3
        clear h3
        go_wp2_with (first | (go_at_call_of 59 pt; refine (sIsWord_eq hokx H1.out _).mono ?_; rintro e w' ⟨rfl, rfl⟩) | (go_at_call_of 58 dy; refine (l01In_eq H2.out _).mono ?_; rintro e w' ⟨rfl, rfl⟩) | (go_at_call_of 58 tn; refine (l01In_eq H3.out _).mono ?_; rintro e w' ⟨rfl, rfl⟩))
        go_ret
        exact ⟨ret_bool (by unfold areTerms; rw [range_all_false hlt (by rw [HD.out, H1.out, H2.out, H3.out]; simp)]; simp), HB.out⟩
      have H3 := Lib.hid h3
      clear h3
      rcases h4 : inR cl 1 20
      · have H4 := Lib.hid h4
        clear h4
        go_wp2_with (first | (go_at_call_of 59 pt; refine (sIsWord_eq hokx H1.out _).mono ?_; rintro e w' ⟨rfl, rfl⟩) | (go_at_call_of 58 dy; refine (l01In_eq H2.out _).mono ?_; rintro e w' ⟨rfl, rfl⟩) | (go_at_call_of 58 tn; refine (l01In_eq H3.out _).mono ?_; rintro e w' ⟨rfl, rfl⟩) | (go_at_call_of 58 cl; refine (l01In_eq H4.out _).mono ?_; rintro e w' ⟨rfl, rfl⟩))
        go_ret
        exact ⟨ret_bool (by unfold areTerms; rw [range_all_false hlt (by rw [HD.out, H1.out, H2.out, H3.out, H4.out]; simp)]; simp), HB.out⟩
      have H4 := Lib.hid h4
      clear h4
      rcases ha : (xs.take k).any (isPart pt)
      · have H5 := Lib.hid ha
        have e := HF.out ha
        have e2 : ((firstAt (isPart pt) xs) != (k : Int)) = false := by rw [e]; simp
        clear ha e
        go_wp2_with (first | (go_at_call_of 59 pt; refine (sIsWord_eq hokx H1.out _).mono ?_; rintro e w' ⟨rfl, rfl⟩) | (go_at_call_of 58 dy; refine (l01In_eq H2.out _).mono ?_; rintro e w' ⟨rfl, rfl⟩) | (go_at_call_of 58 tn; refine (l01In_eq H3.out _).mono ?_; rintro e w' ⟨rfl, rfl⟩) | (go_at_call_of 58 cl; refine (l01In_eq H4.out _).mono ?_; rintro e w' ⟨rfl, rfl⟩) | (go_at_call 66; refine (l28Find_any _ _ pt _ HSL.out).mono ?_; rintro e w' ⟨rfl, rfl⟩))
        go_roundg (xs.length - (k + 1))
        case measure => omega
        case rel => exact ⟨k + 1, by omega, rfl, by go_num, Lib.hid (range_all_succ HA.out (by rw [HD.out, H1.out, H2.out, H3.out, H4.out, H5.out]; rfl)), HB.out, by simp; omega⟩
      · have H5 := Lib.hid ha
        have e := HF2.out ha
        have e2 : ((firstAt (isPart pt) xs) != (k : Int)) = true := by rw [bne_iff_ne]; omega
        clear ha e
        go_wp2_with (first | (go_at_call_of 59 pt; refine (sIsWord_eq hokx H1.out _).mono ?_; rintro e w' ⟨rfl, rfl⟩) | (go_at_call_of 58 dy; refine (l01In_eq H2.out _).mono ?_; rintro e w' ⟨rfl, rfl⟩) | (go_at_call_of 58 tn; refine (l01In_eq H3.out _).mono ?_; rintro e w' ⟨rfl, rfl⟩) | (go_at_call_of 58 cl; refine (l01In_eq H4.out _).mono ?_; rintro e w' ⟨rfl, rfl⟩) | (go_at_call 66; refine (l28Find_any _ _ pt _ HSL.out).mono ?_; rintro e w' ⟨rfl, rfl⟩))
        go_ret
        exact ⟨ret_bool (by unfold areTerms; rw [range_all_false hlt (by rw [HD.out, H1.out, H2.out, H3.out, H4.out, H5.out]; rfl)]; simp), HB.out⟩
    · obtain rfl : k = xs.length := by omega
      go_wp2
      go_ret
      exact ⟨ret_bool (by unfold areTerms; rw [HA.out, Bool.and_true]; by_cases h : xs.length ≤ 10 <;> simp [h] <;> omega), hb⟩

def AreTerms_r (xs : List Term) : Bool := areTerms xs
theorem iAreTerms_law (v : Value) (xs : List Term) (w : World) (hv : Sl eTerm w v xs) (_ : xs.length ≤ 1048576) (hq : ∀ x ∈ xs, okTerm x) :
    Calls Try.prog 25 #[v] w fun e w' => e = .returned (.bool (AreTerms_r xs)) ∧ Below w.heap.size w w' := iAreTerms_any v xs w hv hq
theorem sAreTerms_law (v : Value) (xs : List Term) (w : World) (hv : Sl eTerm w v xs) (_ : xs.length ≤ 1048576) (hq : ∀ x ∈ xs, okTerm x) :
    Calls Try.prog 23 #[v] w fun e w' => e = .returned (.bool (AreTerms_r xs)) ∧ Below w.heap.size w w' := sAreTerms_any v xs w hv hq
end Go.Proofs.Ytnpfgngfolgdfaa
