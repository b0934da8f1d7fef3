/- Contracts of the functions on tiers (chapter 27). No statement of the seat is proved here. -/
import Derived.Test.YtfiapefkomolmaaSTier
import Derived.Test.YtfiapefkomolmaaWords
namespace Go.Proofs.Ytfiapefkomolmaa
open Go.RowKit

def tierOk (ts : List Tier) (i : Nat) : Bool := inR (ts.getD i zTier).from_ 0 100000000 && inR (ts.getD i zTier).percent 0 100 && (i == 0 || decide ((ts.getD (i - 1) zTier).from_ < (ts.getD i zTier).from_))
def areTiers (ts : List Tier) : Bool := decide (ts.length ≤ 5) && (List.range ts.length).all (tierOk ts)
set_option maxHeartbeats 2000000 in
set_option maxRecDepth 10000 in
theorem iAreTiers_any (v : Value) (ts : List Tier) (w : World) (hv : Sl eTier w v ts) :
    Calls Try.prog 23 #[v] w fun e w' => e = .returned (.bool (areTiers ts)) ∧ Below w.heap.size w w' := by
  obtain ⟨A, cap, rfl, _, hm, hc⟩ := hv.shape
  by_cases hbig : 5 < ts.length
  · clear hc
    go_enter Try.func23, Try.ntmps23
    go_wp2
    go_ret
    exact ⟨ret_bool (by unfold areTiers; rw [decide_eq_false (by omega)]; rfl), Below.refl _ _⟩
  go_enter Try.func23, Try.ntmps23
  go_wp2
  go_loopg [10] ts.length (fun gi i wr => ∃ k : Nat, k ≤ ts.length ∧ gi = ts.length - k ∧ i = .int .i64 k ∧ Hid ((List.range k).all (tierOk ts) = true) ∧ Below w.heap.size w wr ∧ w.heap.size ≤ wr.heap.size)
  case atStart => exact ⟨0, Nat.zero_le _, rfl, rfl, Lib.hid rfl, Below.refl _ _, Nat.le_refl _⟩
  case round =>
    obtain ⟨k, hk, rfl, rfl, HA, hb, hs⟩ := hrel
    by_cases hlt : k < ts.length
    · obtain ⟨b, off, rfl, hbl, hcell⟩ := hc (by omega)
      have c0 : wr.cell? ⟨b, off + k * 2, none⟩ = some (.int .i64 ts[k].from_) := (hb.cell (p := ⟨b, off + k * 2, none⟩) hbl).trans (by simpa [eTier] using hcell k hlt 0 _ (by decide) rfl)
      have c1 : wr.cell? ⟨b, off + k * 2 + 1, none⟩ = some (.int .i64 ts[k].percent) := (hb.cell (p := ⟨b, off + k * 2 + 1, none⟩) hbl).trans (by simpa [eTier, Nat.add_assoc] using hcell k hlt 1 _ (by decide) rfl)
      have hdef : tierOk ts k = (inR ts[k].from_ 0 100000000 && inR ts[k].percent 0 100 && (k == 0 || decide ((ts.getD (k - 1) zTier).from_ < ts[k].from_))) := by unfold tierOk; rw [getD_at _ _ k hlt]
      have c2 : 0 < k → wr.cell? ⟨b, off + (k - 1) * 2, none⟩ = some (.int .i64 (ts.getD (k - 1) zTier).from_) := fun hp => (hb.cell (p := ⟨b, off + (k - 1) * 2, none⟩) hbl).trans (by rw [getD_at _ _ _ (by omega)]; simpa [eTier] using hcell (k - 1) (by omega) 0 _ (by decide) rfl)
      have HB := Lib.hid (hb.alloc hs (.cells #[.int .i64 ts[k].from_, .int .i64 ts[k].percent] 72))
      clear hc hcell hb
      generalize (ts.getD (k - 1) zTier).from_ = pf at *
      generalize ts[k].from_ = f at *
      generalize ts[k].percent = p at *
      have HD := Lib.hid hdef
      clear hdef
      rcases hA : inR f 0 100000000
      · have H1 := Lib.hid hA
        clear hA c2
        go_wp2
        go_quiet ((go_at_call 56; exact q_same (within_eq H1.out _)))
        go_wp2
        go_ret
        exact ⟨ret_bool (by unfold areTiers; rw [range_all_false hlt (by rw [HD.out, H1.out]; rfl)]; simp), below_drewN' HB.out _⟩
      have H1 := Lib.hid hA
      clear hA
      rcases hP : inR p 0 100
      · have H2 := Lib.hid hP
        clear hP c2
        go_wp2
        go_quiet ((first | (go_at_call_of 56 f; exact q_same (within_eq H1.out _)) | (go_at_call_of 56 p; exact q_same (within_eq H2.out _))))
        go_wp2
        go_ret
        exact ⟨ret_bool (by unfold areTiers; rw [range_all_false hlt (by rw [HD.out, H1.out, H2.out]; rfl)]; simp), below_drewN' HB.out _⟩
      have H2 := Lib.hid hP
      clear hP
      by_cases h0 : k = 0
      · have hpos : decide (0 < k) = false := decide_eq_false (by omega)
        have H0 := Lib.hid h0
        clear c2 h0
        go_wp2
        go_quiet ((first | (go_at_call_of 56 f; exact q_same (within_eq H1.out _)) | (go_at_call_of 56 p; exact q_same (within_eq H2.out _))))
        go_wp2
        go_roundg (ts.length - (k + 1))
        case measure => omega
        case rel => exact ⟨k + 1, by omega, rfl, by go_num, Lib.hid (range_all_succ HA.out (by rw [HD.out, H1.out, H2.out]; simp [H0.out])), below_drewN' HB.out _, by simp; omega⟩
      · have c3 : ∀ o, (wr.alloc o).cell? ⟨b, off + (k - 1) * 2, none⟩ = some (.int .i64 pf) := fun o => (World.cell?_alloc_lt wr o _ (by simp; omega)).trans (c2 (by omega))
        clear c2
        have hw1 : IntKind.i64.wrap ((k : Int) - 1) = ((k - 1 : Nat) : Int) := by rw [IntWalk.i64_in _ (by omega)]; omega
        have hpos : decide (0 < k) = true := decide_eq_true (by omega)
        have hlt1 : ((k - 1 : Nat) : Int) < (ts.length : Int) := by omega
        by_cases hge : pf < f
        · have hge2 : decide (f ≤ pf) = false := decide_eq_false (by omega)
          go_wp2
          go_quiet ((first | (go_at_call_of 56 f; exact q_same (within_eq H1.out _)) | (go_at_call_of 56 p; exact q_same (within_eq H2.out _))))
          clear hw1 hpos hlt1
          go_wp2
          go_roundg (ts.length - (k + 1))
          case measure => omega
          case rel => exact ⟨k + 1, by omega, rfl, by go_num, Lib.hid (range_all_succ HA.out (by rw [HD.out, H1.out, H2.out, decide_eq_true hge]; simp)), below_drewN' HB.out _, by simp; omega⟩
        · have hge2 : decide (f ≤ pf) = true := decide_eq_true (by omega)
          go_wp2
          go_quiet ((first | (go_at_call_of 56 f; exact q_same (within_eq H1.out _)) | (go_at_call_of 56 p; exact q_same (within_eq H2.out _))))
          clear hw1 hpos hlt1
          go_wp2
          go_ret
          exact ⟨ret_bool (by unfold areTiers; rw [range_all_false hlt (by rw [HD.out, H1.out, H2.out, decide_eq_false (by omega)]; simp [h0])]; simp), below_drewN' HB.out _⟩
    · obtain rfl : k = ts.length := by omega
      go_wp2
      go_ret
      exact ⟨ret_bool (by unfold areTiers; rw [HA.out, decide_eq_true (by omega)]; rfl), hb⟩

set_option maxHeartbeats 2000000 in
set_option maxRecDepth 10000 in
theorem sAreTiers_any (v : Value) (ts : List Tier) (w : World) (hv : Sl eTier w v ts) :
    Calls Try.prog 21 #[v] w fun e w' => e = .returned (.bool (areTiers ts)) ∧ Below w.heap.size w w' := by
  obtain ⟨A, cap, rfl, _, hm, hc⟩ := hv.shape
  go_enter Try.func21, Try.ntmps21
  go_wp2
  go_loopg [3] ts.length (fun gi i wr => ∃ k : Nat, k ≤ ts.length ∧ gi = ts.length - k ∧ i = .int .i64 k ∧ Hid ((List.range k).all (tierOk ts) = true) ∧ Below w.heap.size w wr ∧ w.heap.size ≤ wr.heap.size)
  case atStart => exact ⟨0, Nat.zero_le _, rfl, rfl, Lib.hid rfl, Below.refl _ _, Nat.le_refl _⟩
  case round =>
    obtain ⟨k, hk, rfl, rfl, HA, hb, hs⟩ := hrel
    by_cases hlt : k < ts.length
    · obtain ⟨b, off, rfl, hbl, hcell⟩ := hc (by omega)
      have c0 : wr.cell? ⟨b, off + k * 2, none⟩ = some (.int .i64 ts[k].from_) := (hb.cell (p := ⟨b, off + k * 2, none⟩) hbl).trans (by simpa [eTier] using hcell k hlt 0 _ (by decide) rfl)
      have c1 : wr.cell? ⟨b, off + k * 2 + 1, none⟩ = some (.int .i64 ts[k].percent) := (hb.cell (p := ⟨b, off + k * 2 + 1, none⟩) hbl).trans (by simpa [eTier, Nat.add_assoc] using hcell k hlt 1 _ (by decide) rfl)
      have hdef : tierOk ts k = (inR ts[k].from_ 0 100000000 && inR ts[k].percent 0 100 && (k == 0 || decide ((ts.getD (k - 1) zTier).from_ < ts[k].from_))) := by unfold tierOk; rw [getD_at _ _ k hlt]
      have c2 : 0 < k → wr.cell? ⟨b, off + (k - 1) * 2, none⟩ = some (.int .i64 (ts.getD (k - 1) zTier).from_) := fun hp => (hb.cell (p := ⟨b, off + (k - 1) * 2, none⟩) hbl).trans (by rw [getD_at _ _ _ (by omega)]; simpa [eTier] using hcell (k - 1) (by omega) 0 _ (by decide) rfl)
      have HB := Lib.hid hb
      clear hc hcell hb
      generalize (ts.getD (k - 1) zTier).from_ = pf at *
      generalize ts[k].from_ = f at *
      generalize ts[k].percent = p at *
      have HD := Lib.hid hdef
      clear hdef
      rcases hA : inR f 0 100000000
      · have H1 := Lib.hid hA
        clear hA c2
        go_wp2
        go_quiet ((go_at_call 55; exact q_same (l01In_eq H1.out _)))
        go_wp2
        go_ret
        exact ⟨ret_bool (by unfold areTiers; rw [range_all_false hlt (by rw [HD.out, H1.out]; rfl)]; simp), below_drewN' HB.out _⟩
      have H1 := Lib.hid hA
      clear hA
      rcases hP : inR p 0 100
      · have H2 := Lib.hid hP
        clear hP c2
        go_wp2
        go_quiet ((first | (go_at_call_of 55 f; exact q_same (l01In_eq H1.out _)) | (go_at_call_of 55 p; exact q_same (l01In_eq H2.out _))))
        go_wp2
        go_ret
        exact ⟨ret_bool (by unfold areTiers; rw [range_all_false hlt (by rw [HD.out, H1.out, H2.out]; rfl)]; simp), below_drewN' HB.out _⟩
      have H2 := Lib.hid hP
      clear hP
      by_cases h0 : k = 0
      · have hpos : decide (0 < k) = false := decide_eq_false (by omega)
        have H0 := Lib.hid h0
        clear c2 h0
        go_wp2
        go_quiet ((first | (go_at_call_of 55 f; exact q_same (l01In_eq H1.out _)) | (go_at_call_of 55 p; exact q_same (l01In_eq H2.out _))))
        go_wp2
        go_roundg (ts.length - (k + 1))
        case measure => omega
        case rel => exact ⟨k + 1, by omega, rfl, by go_num, Lib.hid (range_all_succ HA.out (by rw [HD.out, H1.out, H2.out]; simp [H0.out])), below_drewN' HB.out _, hs⟩
      · have c3 := c2 (by omega)
        clear c2
        have hw1 : IntKind.i64.wrap ((k : Int) - 1) = ((k - 1 : Nat) : Int) := by rw [IntWalk.i64_in _ (by omega)]; omega
        have hpos : decide (0 < k) = true := decide_eq_true (by omega)
        have hlt1 : ((k - 1 : Nat) : Int) < (ts.length : Int) := by omega
        by_cases hge : pf < f
        · have hge2 : decide (f ≤ pf) = false := decide_eq_false (by omega)
          go_wp2
          go_quiet ((first | (go_at_call_of 55 f; exact q_same (l01In_eq H1.out _)) | (go_at_call_of 55 p; exact q_same (l01In_eq H2.out _))))
          clear hw1 hpos hlt1
          go_wp2
          go_roundg (ts.length - (k + 1))
          case measure => omega
          case rel => exact ⟨k + 1, by omega, rfl, by go_num, Lib.hid (range_all_succ HA.out (by rw [HD.out, H1.out, H2.out, decide_eq_true hge]; simp)), below_drewN' HB.out _, hs⟩
        · have hge2 : decide (f ≤ pf) = true := decide_eq_true (by omega)
          go_wp2
          go_quiet ((first | (go_at_call_of 55 f; exact q_same (l01In_eq H1.out _)) | (go_at_call_of 55 p; exact q_same (l01In_eq H2.out _))))
          clear hw1 hpos hlt1
          go_wp2
          go_ret
          exact ⟨ret_bool (by unfold areTiers; rw [range_all_false hlt (by rw [HD.out, H1.out, H2.out, decide_eq_false (by omega)]; simp [h0])]; simp), below_drewN' HB.out _⟩
    · obtain rfl : k = ts.length := by omega
      go_wp2
      go_ret
      exact ⟨ret_bool (by unfold areTiers; rw [HA.out, Bool.and_true]; by_cases h : ts.length ≤ 5 <;> simp [h] <;> omega), hb⟩

def AreTiers_r (ts : List Tier) : Bool := areTiers ts
theorem iAreTiers_law (v : Value) (ts : List Tier) (w : World) (hv : Sl eTier w v ts) (_ : ts.length ≤ 1048576) :
    Calls Try.prog 23 #[v] w fun e w' => e = .returned (.bool (AreTiers_r ts)) ∧ Below w.heap.size w w' := iAreTiers_any v ts w hv
theorem sAreTiers_law (v : Value) (ts : List Tier) (w : World) (hv : Sl eTier w v ts) (_ : ts.length ≤ 1048576) :
    Calls Try.prog 21 #[v] w fun e w' => e = .returned (.bool (AreTiers_r ts)) ∧ Below w.heap.size w w' := sAreTiers_any v ts w hv
end Go.Proofs.Ytfiapefkomolmaa
