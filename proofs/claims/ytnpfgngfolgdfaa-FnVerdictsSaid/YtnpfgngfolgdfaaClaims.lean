/- Contracts of AreClaims (chapter 28). No statement of the seat is proved here. -/
import Derived.Test.YtnpfgngfolgdfaaSClaim
import Derived.Test.YtnpfgngfolgdfaaWords
namespace Go.Proofs.Ytnpfgngfolgdfaa
open Go.RowKit

theorem isDate_eq {n : Int} {b : Bool} (h : inR n 0 100000 = b) (w : World) : Calls Try.prog 62 #[.int .i64 n] w fun e w' => e = .returned (.bool b) ∧ w = w' := by
  subst h
  go_enter Try.func62, Try.ntmps62
  go_wp2_with (go_at_call 63; refine (within_any _ _ _ _).mono ?_; rintro e w' ⟨rfl, rfl⟩)
  go_ret
  exact ⟨rfl, rfl⟩
theorem l28Day_eq {n : Int} {b : Bool} (h : inR n 0 100000 = b) (w : World) : Calls Try.prog 60 #[.int .i64 n] w fun e w' => e = .returned (.bool b) ∧ w = w' := by
  subst h
  go_enter Try.func60, Try.ntmps60
  go_wp2_with (go_at_call 58; refine (l01In_any _ _ _ _).mono ?_; rintro e w' ⟨rfl, rfl⟩)
  go_ret
  exact ⟨rfl, rfl⟩
def claimOk (xs : List Claim) (i : Nat) : Bool := (isWord (xs.getD i zClaim).part) && (inR (xs.getD i zClaim).sold 0 100000) && (inR (xs.getD i zClaim).day 0 100000) && (decide ((xs.getD i zClaim).sold ≤ (xs.getD i zClaim).day)) && (inR (xs.getD i zClaim).tens 0 100000000) && (i == 0 || decide ((xs.getD (i - 1) zClaim).day ≤ (xs.getD i zClaim).day))
def areClaims (xs : List Claim) : Bool := decide (xs.length ≤ 20) && (List.range xs.length).all (claimOk xs)
set_option maxHeartbeats 8000000 in
set_option maxRecDepth 20000 in
theorem iAreClaims_any (v : Value) (xs : List Claim) (w : World) (hv : Sl eClaim w v xs) (hq : ∀ x ∈ xs, okClaim x) :
    Calls Try.prog 20 #[v] w fun e w' => e = .returned (.bool (areClaims xs)) ∧ Below w.heap.size w w' := by
  obtain ⟨A, cap, rfl, _, hm, hc⟩ := hv.shape
  by_cases hbig : 20 < xs.length
  · clear hc
    go_enter Try.func20, Try.ntmps20
    go_wp2
    go_ret
    exact ⟨ret_bool (by unfold areClaims; rw [decide_eq_false (by omega)]; rfl), Below.refl _ _⟩
  have HQ := Lib.hid hq
  clear hq
  go_enter Try.func20, Try.ntmps20
  go_wp2
  go_loopg [10] xs.length (fun gi i wr => ∃ k : Nat, k ≤ xs.length ∧ gi = xs.length - k ∧ i = .int .i64 k ∧ Hid ((List.range k).all (claimOk xs) = true) ∧ Below w.heap.size w wr ∧ w.heap.size ≤ wr.heap.size)
  case atStart => exact ⟨0, Nat.zero_le _, rfl, rfl, Lib.hid rfl, Below.refl _ _, Nat.le_refl _⟩
  case round =>
    obtain ⟨k, hk, rfl, rfl, HA, hb, hs⟩ := hrel
    by_cases hlt : k < xs.length
    · obtain ⟨b, off, rfl, hbl, hcell⟩ := hc (by omega)
      have c0 : wr.cell? ⟨b, off + k * 4, none⟩ = some (.string xs[k].part) := (hb.cell (p := ⟨b, off + k * 4, none⟩) hbl).trans (by simpa [eClaim, Nat.add_assoc] using hcell k hlt 0 _ (by decide) rfl)
      have c1 : wr.cell? ⟨b, off + k * 4 + 1, none⟩ = some (.int .i64 xs[k].sold) := (hb.cell (p := ⟨b, off + k * 4 + 1, none⟩) hbl).trans (by simpa [eClaim, Nat.add_assoc] using hcell k hlt 1 _ (by decide) rfl)
      have c2 : wr.cell? ⟨b, off + k * 4 + 2, none⟩ = some (.int .i64 xs[k].day) := (hb.cell (p := ⟨b, off + k * 4 + 2, none⟩) hbl).trans (by simpa [eClaim, Nat.add_assoc] using hcell k hlt 2 _ (by decide) rfl)
      have c3 : wr.cell? ⟨b, off + k * 4 + 3, none⟩ = some (.int .i64 xs[k].tens) := (hb.cell (p := ⟨b, off + k * 4 + 3, none⟩) hbl).trans (by simpa [eClaim, Nat.add_assoc] using hcell k hlt 3 _ (by decide) rfl)
      have cp : 0 < k → wr.cell? ⟨b, off + (k - 1) * 4 + 2, none⟩ = some (.int .i64 (xs.getD (k - 1) zClaim).day) := fun hp => (hb.cell (p := ⟨b, off + (k - 1) * 4 + 2, none⟩) hbl).trans (by rw [getD_at _ _ _ (by omega)]; simpa [eClaim, Nat.add_assoc] using hcell (k - 1) (by omega) 2 _ (by decide) rfl)
      have hokx := HQ.out _ (List.getElem_mem hlt)
      have hdef : claimOk xs k = ((isWord xs[k].part) && (inR xs[k].sold 0 100000) && (inR xs[k].day 0 100000) && (decide (xs[k].sold ≤ xs[k].day)) && (inR xs[k].tens 0 100000000) && (k == 0 || decide ((xs.getD (k - 1) zClaim).day ≤ xs[k].day))) := by unfold claimOk; rw [getD_at _ _ k hlt]
      have HB := Lib.hid (hb.alloc hs (.cells #[.string xs[k].part, .int .i64 xs[k].sold, .int .i64 xs[k].day, .int .i64 xs[k].tens] 47))
      clear hc hcell hb
      generalize (xs.getD (k - 1) zClaim).day = pd at *
      generalize xs[k] = x at *
      obtain ⟨pt, sd, dy, tn⟩ := x
      simp only at *
      have HD := Lib.hid hdef
      clear hdef
      rcases h1 : isWord pt
      · have H1 := Lib.hid h1
        clear h1 cp
        go_wp2
        go_quiet ((first | (go_at_call_of 61 pt; exact q_same (iIsWord_eq hokx H1.out _))))
        go_wp2
        go_ret
        exact ⟨ret_bool (by unfold areClaims; rw [range_all_false hlt (by rw [HD.out, H1.out]; simp)]; simp), below_drewN' HB.out _⟩
      have H1 := Lib.hid h1
      clear h1
      rcases h2 : inR sd 0 100000
      · have H2 := Lib.hid h2
        clear h2 cp
        go_wp2
        go_quiet ((first | (go_at_call_of 61 pt; exact q_same (iIsWord_eq hokx H1.out _)) | (go_at_call_of 62 sd; exact q_same (isDate_eq H2.out _))))
        go_wp2
        go_ret
        exact ⟨ret_bool (by unfold areClaims; rw [range_all_false hlt (by rw [HD.out, H1.out, H2.out]; simp)]; simp), below_drewN' HB.out _⟩
      have H2 := Lib.hid h2
      clear h2
      rcases h3 : inR dy 0 100000
      · have H3 := Lib.hid h3
        clear h3 cp
        go_wp2
        go_quiet ((first | (go_at_call_of 61 pt; exact q_same (iIsWord_eq hokx H1.out _)) | (go_at_call_of 62 sd; exact q_same (isDate_eq H2.out _)) | (go_at_call_of 62 dy; exact q_same (isDate_eq H3.out _))))
        go_wp2
        go_ret
        exact ⟨ret_bool (by unfold areClaims; rw [range_all_false hlt (by rw [HD.out, H1.out, H2.out, H3.out]; simp)]; simp), below_drewN' HB.out _⟩
      have H3 := Lib.hid h3
      clear h3
      by_cases h4 : sd ≤ dy
      rotate_left
      · have H4 : Hid ((decide (sd ≤ dy)) = false) := Lib.hid (by simpa using h4)
        have g4 : decide (dy < sd) = true := decide_eq_true (by omega)
        clear cp
        go_wp2
        go_quiet ((first | (go_at_call_of 61 pt; exact q_same (iIsWord_eq hokx H1.out _)) | (go_at_call_of 62 sd; exact q_same (isDate_eq H2.out _)) | (go_at_call_of 62 dy; exact q_same (isDate_eq H3.out _))))
        go_wp2
        go_ret
        exact ⟨ret_bool (by unfold areClaims; rw [range_all_false hlt (by rw [HD.out, H1.out, H2.out, H3.out, H4.out]; simp)]; simp), below_drewN' HB.out _⟩
      have H4 : Hid ((decide (sd ≤ dy)) = true) := Lib.hid (by simpa using h4)
      have g4 : decide (dy < sd) = false := decide_eq_false (by omega)
      rcases h5 : inR tn 0 100000000
      · have H5 := Lib.hid h5
        clear h5 cp
        go_wp2
        go_quiet ((first | (go_at_call_of 61 pt; exact q_same (iIsWord_eq hokx H1.out _)) | (go_at_call_of 62 sd; exact q_same (isDate_eq H2.out _)) | (go_at_call_of 62 dy; exact q_same (isDate_eq H3.out _)) | (go_at_call_of 63 tn; exact q_same (within_eq H5.out _))))
        go_wp2
        go_ret
        exact ⟨ret_bool (by unfold areClaims; rw [range_all_false hlt (by rw [HD.out, H1.out, H2.out, H3.out, H4.out, H5.out]; simp)]; simp), below_drewN' HB.out _⟩
      have H5 := Lib.hid h5
      clear h5
      by_cases h0 : k = 0
      · have hpos : decide (0 < k) = false := decide_eq_false (by omega)
        have H6 : Hid ((k == 0 || decide (pd ≤ dy)) = true) := Lib.hid (by simp [h0])
        clear cp h0
        go_wp2
        go_quiet ((first | (go_at_call_of 61 pt; exact q_same (iIsWord_eq hokx H1.out _)) | (go_at_call_of 62 sd; exact q_same (isDate_eq H2.out _)) | (go_at_call_of 62 dy; exact q_same (isDate_eq H3.out _)) | (go_at_call_of 63 tn; exact q_same (within_eq H5.out _))))
        go_wp2
        go_roundg (xs.length - (k + 1))
        case measure => omega
        case rel => exact ⟨k + 1, by omega, rfl, by go_num, Lib.hid (range_all_succ HA.out (by rw [HD.out, H1.out, H2.out, H3.out, H4.out, H5.out, H6.out]; simp)), below_drewN' HB.out _, by simp; omega⟩
      have c9 : ∀ o, (wr.alloc o).cell? ⟨b, off + (k - 1) * 4 + 2, none⟩ = some (.int .i64 pd) := fun o => (World.cell?_alloc_lt wr o _ (by simp; omega)).trans (cp (by omega))
      clear cp
      have hw1 : IntKind.i64.wrap ((k : Int) - 1) = ((k - 1 : Nat) : Int) := by rw [IntWalk.i64_in _ (by omega)]; omega
      have hpos : decide (0 < k) = true := decide_eq_true (by omega)
      have hlt1 : ((k - 1 : Nat) : Int) < (xs.length : Int) := by omega
      have hk0 : (k == 0) = false := by simpa using h0
      have HK0 := Lib.hid hk0
      clear hk0
      by_cases h6 : pd ≤ dy
      · have H6 : Hid ((k == 0 || decide (pd ≤ dy)) = true) := Lib.hid (by rw [HK0.out]; simpa using h6)
        have g6 : decide (dy < pd) = false := decide_eq_false (by omega)
        go_wp2
        go_quiet ((first | (go_at_call_of 61 pt; exact q_same (iIsWord_eq hokx H1.out _)) | (go_at_call_of 62 sd; exact q_same (isDate_eq H2.out _)) | (go_at_call_of 62 dy; exact q_same (isDate_eq H3.out _)) | (go_at_call_of 63 tn; exact q_same (within_eq H5.out _))))
        go_wp2
        go_roundg (xs.length - (k + 1))
        case measure => omega
        case rel => exact ⟨k + 1, by omega, rfl, by go_num, Lib.hid (range_all_succ HA.out (by rw [HD.out, H1.out, H2.out, H3.out, H4.out, H5.out, H6.out]; simp)), below_drewN' HB.out _, by simp; omega⟩
      · have H6 : Hid ((k == 0 || decide (pd ≤ dy)) = false) := Lib.hid (by rw [HK0.out]; simpa using h6)
        have g6 : decide (dy < pd) = true := decide_eq_true (by omega)
        go_wp2
        go_quiet ((first | (go_at_call_of 61 pt; exact q_same (iIsWord_eq hokx H1.out _)) | (go_at_call_of 62 sd; exact q_same (isDate_eq H2.out _)) | (go_at_call_of 62 dy; exact q_same (isDate_eq H3.out _)) | (go_at_call_of 63 tn; exact q_same (within_eq H5.out _))))
        go_wp2
        go_ret
        exact ⟨ret_bool (by unfold areClaims; rw [range_all_false hlt (by rw [HD.out, H1.out, H2.out, H3.out, H4.out, H5.out, H6.out]; simp)]; simp), below_drewN' HB.out _⟩
    · obtain rfl : k = xs.length := by omega
      go_wp2
      go_ret
      exact ⟨ret_bool (by unfold areClaims; rw [HA.out, decide_eq_true (by omega)]; rfl), hb⟩
set_option maxHeartbeats 8000000 in
set_option maxRecDepth 20000 in
theorem sAreClaims_any (v : Value) (xs : List Claim) (w : World) (hv : Sl eClaim w v xs) (hq : ∀ x ∈ xs, okClaim x) :
    Calls Try.prog 18 #[v] w fun e w' => e = .returned (.bool (areClaims xs)) ∧ Below w.heap.size w w' := by
  obtain ⟨A, cap, rfl, _, hm, hc⟩ := hv.shape
  have HQ := Lib.hid hq
  clear hq
  go_enter Try.func18, Try.ntmps18
  go_wp2
  go_loopg [3] xs.length (fun gi i wr => ∃ k : Nat, k ≤ xs.length ∧ gi = xs.length - k ∧ i = .int .i64 k ∧ Hid ((List.range k).all (claimOk xs) = true) ∧ Below w.heap.size w wr ∧ w.heap.size ≤ wr.heap.size)
  case atStart => exact ⟨0, Nat.zero_le _, rfl, rfl, Lib.hid rfl, Below.refl _ _, Nat.le_refl _⟩
  case round =>
    obtain ⟨k, hk, rfl, rfl, HA, hb, hs⟩ := hrel
    by_cases hlt : k < xs.length
    · obtain ⟨b, off, rfl, hbl, hcell⟩ := hc (by omega)
      have c0 : wr.cell? ⟨b, off + k * 4, none⟩ = some (.string xs[k].part) := (hb.cell (p := ⟨b, off + k * 4, none⟩) hbl).trans (by simpa [eClaim, Nat.add_assoc] using hcell k hlt 0 _ (by decide) rfl)
      have c1 : wr.cell? ⟨b, off + k * 4 + 1, none⟩ = some (.int .i64 xs[k].sold) := (hb.cell (p := ⟨b, off + k * 4 + 1, none⟩) hbl).trans (by simpa [eClaim, Nat.add_assoc] using hcell k hlt 1 _ (by decide) rfl)
      have c2 : wr.cell? ⟨b, off + k * 4 + 2, none⟩ = some (.int .i64 xs[k].day) := (hb.cell (p := ⟨b, off + k * 4 + 2, none⟩) hbl).trans (by simpa [eClaim, Nat.add_assoc] using hcell k hlt 2 _ (by decide) rfl)
      have c3 : wr.cell? ⟨b, off + k * 4 + 3, none⟩ = some (.int .i64 xs[k].tens) := (hb.cell (p := ⟨b, off + k * 4 + 3, none⟩) hbl).trans (by simpa [eClaim, Nat.add_assoc] using hcell k hlt 3 _ (by decide) rfl)
      have cp : 0 < k → wr.cell? ⟨b, off + (k - 1) * 4 + 2, none⟩ = some (.int .i64 (xs.getD (k - 1) zClaim).day) := fun hp => (hb.cell (p := ⟨b, off + (k - 1) * 4 + 2, none⟩) hbl).trans (by rw [getD_at _ _ _ (by omega)]; simpa [eClaim, Nat.add_assoc] using hcell (k - 1) (by omega) 2 _ (by decide) rfl)
      have hokx := HQ.out _ (List.getElem_mem hlt)
      have hdef : claimOk xs k = ((isWord xs[k].part) && (inR xs[k].sold 0 100000) && (inR xs[k].day 0 100000) && (decide (xs[k].sold ≤ xs[k].day)) && (inR xs[k].tens 0 100000000) && (k == 0 || decide ((xs.getD (k - 1) zClaim).day ≤ xs[k].day))) := by unfold claimOk; rw [getD_at _ _ k hlt]
      have HB := Lib.hid (hb.alloc hs (.cells #[.string xs[k].part, .int .i64 xs[k].sold, .int .i64 xs[k].day, .int .i64 xs[k].tens] 47))
      clear hc hcell hb
      generalize (xs.getD (k - 1) zClaim).day = pd at *
      generalize xs[k] = x at *
      obtain ⟨pt, sd, dy, tn⟩ := x
      simp only at *
      have HD := Lib.hid hdef
      clear hdef
      rcases h1 : isWord pt
      · have H1 := Lib.hid h1
        clear h1 cp
        go_wp2
        go_quiet ((first | (go_at_call_of 59 pt; exact q_same (sIsWord_eq hokx H1.out _))))
        go_wp2
        go_ret
        exact ⟨ret_bool (by unfold areClaims; rw [range_all_false hlt (by rw [HD.out, H1.out]; simp)]; simp), below_drewN' HB.out _⟩
      have H1 := Lib.hid h1
      clear h1
      rcases h2 : inR sd 0 100000
      · have H2 := Lib.hid h2
        clear h2 cp
        go_wp2
        go_quiet ((first | (go_at_call_of 59 pt; exact q_same (sIsWord_eq hokx H1.out _)) | (go_at_call_of 60 sd; exact q_same (l28Day_eq H2.out _))))
        go_wp2
        go_ret
        exact ⟨ret_bool (by unfold areClaims; rw [range_all_false hlt (by rw [HD.out, H1.out, H2.out]; simp)]; simp), below_drewN' HB.out _⟩
      have H2 := Lib.hid h2
      clear h2
      rcases h3 : inR dy 0 100000
      · have H3 := Lib.hid h3
        clear h3 cp
        go_wp2
        go_quiet ((first | (go_at_call_of 59 pt; exact q_same (sIsWord_eq hokx H1.out _)) | (go_at_call_of 60 sd; exact q_same (l28Day_eq H2.out _)) | (go_at_call_of 60 dy; exact q_same (l28Day_eq H3.out _))))
        go_wp2
        go_ret
        exact ⟨ret_bool (by unfold areClaims; rw [range_all_false hlt (by rw [HD.out, H1.out, H2.out, H3.out]; simp)]; simp), below_drewN' HB.out _⟩
      have H3 := Lib.hid h3
      clear h3
      by_cases h4 : sd ≤ dy
      rotate_left
      · have H4 : Hid ((decide (sd ≤ dy)) = false) := Lib.hid (by simpa using h4)
        have g4 : decide (dy < sd) = true := decide_eq_true (by omega)
        clear cp
        go_wp2
        go_quiet ((first | (go_at_call_of 59 pt; exact q_same (sIsWord_eq hokx H1.out _)) | (go_at_call_of 60 sd; exact q_same (l28Day_eq H2.out _)) | (go_at_call_of 60 dy; exact q_same (l28Day_eq H3.out _))))
        go_wp2
        go_ret
        exact ⟨ret_bool (by unfold areClaims; rw [range_all_false hlt (by rw [HD.out, H1.out, H2.out, H3.out, H4.out]; simp)]; simp), below_drewN' HB.out _⟩
      have H4 : Hid ((decide (sd ≤ dy)) = true) := Lib.hid (by simpa using h4)
      have g4 : decide (dy < sd) = false := decide_eq_false (by omega)
      rcases h5 : inR tn 0 100000000
      · have H5 := Lib.hid h5
        clear h5 cp
        go_wp2
        go_quiet ((first | (go_at_call_of 59 pt; exact q_same (sIsWord_eq hokx H1.out _)) | (go_at_call_of 60 sd; exact q_same (l28Day_eq H2.out _)) | (go_at_call_of 60 dy; exact q_same (l28Day_eq H3.out _)) | (go_at_call_of 58 tn; exact q_same (l01In_eq H5.out _))))
        go_wp2
        go_ret
        exact ⟨ret_bool (by unfold areClaims; rw [range_all_false hlt (by rw [HD.out, H1.out, H2.out, H3.out, H4.out, H5.out]; simp)]; simp), below_drewN' HB.out _⟩
      have H5 := Lib.hid h5
      clear h5
      by_cases h0 : k = 0
      · have hpos : decide (0 < k) = false := decide_eq_false (by omega)
        have H6 : Hid ((k == 0 || decide (pd ≤ dy)) = true) := Lib.hid (by simp [h0])
        clear cp h0
        go_wp2
        go_quiet ((first | (go_at_call_of 59 pt; exact q_same (sIsWord_eq hokx H1.out _)) | (go_at_call_of 60 sd; exact q_same (l28Day_eq H2.out _)) | (go_at_call_of 60 dy; exact q_same (l28Day_eq H3.out _)) | (go_at_call_of 58 tn; exact q_same (l01In_eq H5.out _))))
        go_wp2
        go_roundg (xs.length - (k + 1))
        case measure => omega
        case rel => exact ⟨k + 1, by omega, rfl, by go_num, Lib.hid (range_all_succ HA.out (by rw [HD.out, H1.out, H2.out, H3.out, H4.out, H5.out, H6.out]; simp)), below_drewN' HB.out _, by simp; omega⟩
      have c9 : ∀ o, (wr.alloc o).cell? ⟨b, off + (k - 1) * 4 + 2, none⟩ = some (.int .i64 pd) := fun o => (World.cell?_alloc_lt wr o _ (by simp; omega)).trans (cp (by omega))
      clear cp
      have hw1 : IntKind.i64.wrap ((k : Int) - 1) = ((k - 1 : Nat) : Int) := by rw [IntWalk.i64_in _ (by omega)]; omega
      have hpos : decide (0 < k) = true := decide_eq_true (by omega)
      have hlt1 : ((k - 1 : Nat) : Int) < (xs.length : Int) := by omega
      have hk0 : (k == 0) = false := by simpa using h0
      have HK0 := Lib.hid hk0
      clear hk0
      by_cases h6 : pd ≤ dy
      · have H6 : Hid ((k == 0 || decide (pd ≤ dy)) = true) := Lib.hid (by rw [HK0.out]; simpa using h6)
        have g6 : decide (dy < pd) = false := decide_eq_false (by omega)
        go_wp2
        go_quiet ((first | (go_at_call_of 59 pt; exact q_same (sIsWord_eq hokx H1.out _)) | (go_at_call_of 60 sd; exact q_same (l28Day_eq H2.out _)) | (go_at_call_of 60 dy; exact q_same (l28Day_eq H3.out _)) | (go_at_call_of 58 tn; exact q_same (l01In_eq H5.out _))))
        go_wp2
        go_roundg (xs.length - (k + 1))
        case measure => omega
        case rel => exact ⟨k + 1, by omega, rfl, by go_num, Lib.hid (range_all_succ HA.out (by rw [HD.out, H1.out, H2.out, H3.out, H4.out, H5.out, H6.out]; simp)), below_drewN' HB.out _, by simp; omega⟩
      · have H6 : Hid ((k == 0 || decide (pd ≤ dy)) = false) := Lib.hid (by rw [HK0.out]; simpa using h6)
        have g6 : decide (dy < pd) = true := decide_eq_true (by omega)
        go_wp2
        go_quiet ((first | (go_at_call_of 59 pt; exact q_same (sIsWord_eq hokx H1.out _)) | (go_at_call_of 60 sd; exact q_same (l28Day_eq H2.out _)) | (go_at_call_of 60 dy; exact q_same (l28Day_eq H3.out _)) | (go_at_call_of 58 tn; exact q_same (l01In_eq H5.out _))))
        go_wp2
        go_ret
        exact ⟨ret_bool (by unfold areClaims; rw [range_all_false hlt (by rw [HD.out, H1.out, H2.out, H3.out, H4.out, H5.out, H6.out]; simp)]; simp), below_drewN' HB.out _⟩
    · obtain rfl : k = xs.length := by omega
      go_wp2
      go_ret
      exact ⟨ret_bool (by unfold areClaims; rw [HA.out, Bool.and_true]; by_cases h : xs.length ≤ 20 <;> simp [h] <;> omega), hb⟩

def AreClaims_r (xs : List Claim) : Bool := areClaims xs
theorem iAreClaims_law (v : Value) (xs : List Claim) (w : World) (hv : Sl eClaim w v xs) (_ : xs.length ≤ 1048576) (hq : ∀ x ∈ xs, okClaim x) :
    Calls Try.prog 20 #[v] w fun e w' => e = .returned (.bool (AreClaims_r xs)) ∧ Below w.heap.size w w' := iAreClaims_any v xs w hv hq
theorem sAreClaims_law (v : Value) (xs : List Claim) (w : World) (hv : Sl eClaim w v xs) (_ : xs.length ≤ 1048576) (hq : ∀ x ∈ xs, okClaim x) :
    Calls Try.prog 18 #[v] w fun e w' => e = .returned (.bool (AreClaims_r xs)) ∧ Below w.heap.size w w' := sAreClaims_any v xs w hv hq
end Go.Proofs.Ytnpfgngfolgdfaa
