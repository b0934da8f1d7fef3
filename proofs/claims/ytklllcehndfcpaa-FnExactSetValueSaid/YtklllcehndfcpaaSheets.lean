/- Contracts of the functions that say whether lines are a sheet (chapter 29). No statement of the seat is proved here. -/
import Derived.Test.YtklllcehndfcpaaOVers
import Derived.Test.YtklllcehndfcpaaWords
namespace Go.Proofs.Ytklllcehndfcpaa
open Go.RowKit

def keyLt (a b : ByteArray) : Bool := Op.bytesLess a.toList b.toList
def lineOk (ts : List Line) (i : Nat) : Bool := isWord (ts.getD i zLine).key && inR (ts.getD i zLine).value 0 1000000 && (i == 0 || keyLt (ts.getD (i - 1) zLine).key (ts.getD i zLine).key)
def sheetB (ts : List Line) : Bool := decide (ts.length ≤ 8) && (List.range ts.length).all (lineOk ts)
theorem isSheetValue_eq {n : Int} {b : Bool} (h : inR n 0 1000000 = b) (w : World) : Calls Try.prog 62 #[.int .i64 n] w fun e w' => e = .returned (.bool b) ∧ w = w' := by
  subst h
  go_enter Try.func62, Try.ntmps62
  go_wp2_with (go_at_call 41; refine (within_any _ _ _ _).mono ?_; rintro e w' ⟨rfl, rfl⟩)
  go_ret
  exact ⟨rfl, rfl⟩
set_option maxHeartbeats 2000000 in
set_option maxRecDepth 10000 in
theorem isSheet_any (v : Value) (ts : List Line) (w : World) (hv : Sl eLine w v ts) (hq : ∀ x ∈ ts, okLine x) :
    Calls Try.prog 40 #[v] w fun e w' => e = .returned (.bool (sheetB ts)) ∧ Below w.heap.size w w' := by
  obtain ⟨A, cap, rfl, _, hm, hc⟩ := hv.shape
  by_cases hbig : 8 < ts.length
  · clear hc
    go_enter Try.func40, Try.ntmps40
    go_wp2
    go_ret
    exact ⟨ret_bool (by unfold sheetB; rw [decide_eq_false (by omega)]; rfl), Below.refl _ _⟩
  have HQ := Lib.hid hq
  clear hq
  go_enter Try.func40, Try.ntmps40
  go_wp2
  go_loopg [10] ts.length (fun gi i wr => ∃ k : Nat, k ≤ ts.length ∧ gi = ts.length - k ∧ i = .int .i64 k ∧ Hid ((List.range k).all (lineOk ts) = true) ∧ Below w.heap.size w wr ∧ w.heap.size ≤ wr.heap.size)
  case atStart => exact ⟨0, Nat.zero_le _, rfl, rfl, Lib.hid rfl, Below.refl _ _, Nat.le_refl _⟩
  case round =>
    obtain ⟨k, hk, rfl, rfl, HA, hb, hs⟩ := hrel
    by_cases hlt : k < ts.length
    · obtain ⟨b, off, rfl, hbl, hcell⟩ := hc (by omega)
      have c0 : wr.cell? ⟨b, off + k * 2, none⟩ = some (.string ts[k].key) := (hb.cell (p := ⟨b, off + k * 2, none⟩) hbl).trans (by simpa [eLine] using hcell k hlt 0 _ (by decide) rfl)
      have c1 : wr.cell? ⟨b, off + k * 2 + 1, none⟩ = some (.int .i64 ts[k].value) := (hb.cell (p := ⟨b, off + k * 2 + 1, none⟩) hbl).trans (by simpa [eLine, Nat.add_assoc] using hcell k hlt 1 _ (by decide) rfl)
      have hdef : lineOk ts k = (isWord ts[k].key && inR ts[k].value 0 1000000 && (k == 0 || keyLt (ts.getD (k - 1) zLine).key ts[k].key)) := by unfold lineOk; rw [getD_at _ _ k hlt]
      have c2 : 0 < k → wr.cell? ⟨b, off + (k - 1) * 2, none⟩ = some (.string (ts.getD (k - 1) zLine).key) := fun hp => (hb.cell (p := ⟨b, off + (k - 1) * 2, none⟩) hbl).trans (by rw [getD_at _ _ _ (by omega)]; simpa [eLine] using hcell (k - 1) (by omega) 0 _ (by decide) rfl)
      have HB := Lib.hid (hb.alloc hs (.cells #[.string ts[k].key, .int .i64 ts[k].value] 72))
      have hokx := HQ.out _ (List.getElem_mem hlt)
      unfold okLine strLine at hokx
      clear hc hcell hb
      generalize (ts.getD (k - 1) zLine).key = pf at *
      generalize ts[k].key = f at *
      generalize ts[k].value = p at *
      have HD := Lib.hid hdef
      clear hdef
      rcases hA : isWord f
      · have H1 := Lib.hid hA
        clear hA c2
        go_wp2
        go_quiet ((go_at_call 46; exact q_same (iIsWord_eq hokx H1.out _)))
        go_wp2
        go_ret
        exact ⟨ret_bool (by unfold sheetB; rw [range_all_false hlt (by rw [HD.out, H1.out]; rfl)]; simp), below_drewN' HB.out _⟩
      have H1 := Lib.hid hA
      clear hA
      rcases hP : inR p 0 1000000
      · have H2 := Lib.hid hP
        clear hP c2
        go_wp2
        go_quiet ((first | (go_at_call 46; exact q_same (iIsWord_eq hokx H1.out _)) | (go_at_call 62; exact q_same (isSheetValue_eq H2.out _))))
        go_wp2
        go_ret
        exact ⟨ret_bool (by unfold sheetB; rw [range_all_false hlt (by rw [HD.out, H1.out, H2.out]; rfl)]; simp), below_drewN' HB.out _⟩
      have H2 := Lib.hid hP
      clear hP
      by_cases h0 : k = 0
      · have hpos : decide (0 < k) = false := decide_eq_false (by omega)
        have H0 := Lib.hid h0
        clear c2 h0
        go_wp2
        go_quiet ((first | (go_at_call 46; exact q_same (iIsWord_eq hokx H1.out _)) | (go_at_call 62; exact q_same (isSheetValue_eq H2.out _))))
        go_wp2
        go_roundg (ts.length - (k + 1))
        case measure => omega
        case rel => exact ⟨k + 1, by omega, rfl, by go_num, Lib.hid (range_all_succ HA.out (by rw [HD.out, H1.out, H2.out]; simp [H0.out])), below_drewN' HB.out _, by simp; omega⟩
      · have c3 : ∀ o, (wr.alloc o).cell? ⟨b, off + (k - 1) * 2, none⟩ = some (.string pf) := fun o => (World.cell?_alloc_lt wr o _ (by simp; omega)).trans (c2 (by omega))
        clear c2
        have hw1 : IntKind.i64.wrap ((k : Int) - 1) = ((k - 1 : Nat) : Int) := by rw [IntWalk.i64_in _ (by omega)]; omega
        have hpos : decide (0 < k) = true := decide_eq_true (by omega)
        have hlt1 : ((k - 1 : Nat) : Int) < (ts.length : Int) := by omega
        rcases hge : Op.bytesLess pf.toList f.toList
        rotate_left
        · have HG := Lib.hid hge
          go_wp2
          go_quiet ((first | (go_at_call 46; exact q_same (iIsWord_eq hokx H1.out _)) | (go_at_call 62; exact q_same (isSheetValue_eq H2.out _))))
          clear hw1 hpos hlt1
          go_wp2
          go_roundg (ts.length - (k + 1))
          case measure => omega
          case rel => exact ⟨k + 1, by omega, rfl, by go_num, Lib.hid (range_all_succ HA.out (by rw [HD.out, H1.out, H2.out, show keyLt pf f = true from HG.out]; simp)), below_drewN' HB.out _, by simp; omega⟩
        · have HG := Lib.hid hge
          go_wp2
          go_quiet ((first | (go_at_call 46; exact q_same (iIsWord_eq hokx H1.out _)) | (go_at_call 62; exact q_same (isSheetValue_eq H2.out _))))
          clear hw1 hpos hlt1
          go_wp2
          go_ret
          exact ⟨ret_bool (by unfold sheetB; rw [range_all_false hlt (by rw [HD.out, H1.out, H2.out, show keyLt pf f = false from HG.out]; simp [h0])]; simp), below_drewN' HB.out _⟩
    · obtain rfl : k = ts.length := by omega
      go_wp2
      go_ret
      exact ⟨ret_bool (by unfold sheetB; rw [HA.out, decide_eq_true (by omega)]; rfl), hb⟩

set_option maxHeartbeats 2000000 in
set_option maxRecDepth 10000 in
theorem l29Sheet_any (v : Value) (ts : List Line) (w : World) (hv : Sl eLine w v ts) (hq : ∀ x ∈ ts, okLine x) :
    Calls Try.prog 37 #[v] w fun e w' => e = .returned (.bool (sheetB ts)) ∧ Below w.heap.size w w' := by
  obtain ⟨A, cap, rfl, _, hm, hc⟩ := hv.shape
  have HQ := Lib.hid hq
  clear hq
  go_enter Try.func37, Try.ntmps37
  go_wp2
  go_loopg [3] ts.length (fun gi i wr => ∃ k : Nat, k ≤ ts.length ∧ gi = ts.length - k ∧ i = .int .i64 k ∧ Hid ((List.range k).all (lineOk ts) = true) ∧ Below w.heap.size w wr ∧ w.heap.size ≤ wr.heap.size)
  case atStart => exact ⟨0, Nat.zero_le _, rfl, rfl, Lib.hid rfl, Below.refl _ _, Nat.le_refl _⟩
  case round =>
    obtain ⟨k, hk, rfl, rfl, HA, hb, hs⟩ := hrel
    by_cases hlt : k < ts.length
    · obtain ⟨b, off, rfl, hbl, hcell⟩ := hc (by omega)
      have c0 : wr.cell? ⟨b, off + k * 2, none⟩ = some (.string ts[k].key) := (hb.cell (p := ⟨b, off + k * 2, none⟩) hbl).trans (by simpa [eLine] using hcell k hlt 0 _ (by decide) rfl)
      have c1 : wr.cell? ⟨b, off + k * 2 + 1, none⟩ = some (.int .i64 ts[k].value) := (hb.cell (p := ⟨b, off + k * 2 + 1, none⟩) hbl).trans (by simpa [eLine, Nat.add_assoc] using hcell k hlt 1 _ (by decide) rfl)
      have hdef : lineOk ts k = (isWord ts[k].key && inR ts[k].value 0 1000000 && (k == 0 || keyLt (ts.getD (k - 1) zLine).key ts[k].key)) := by unfold lineOk; rw [getD_at _ _ k hlt]
      have c2 : 0 < k → wr.cell? ⟨b, off + (k - 1) * 2, none⟩ = some (.string (ts.getD (k - 1) zLine).key) := fun hp => (hb.cell (p := ⟨b, off + (k - 1) * 2, none⟩) hbl).trans (by rw [getD_at _ _ _ (by omega)]; simpa [eLine] using hcell (k - 1) (by omega) 0 _ (by decide) rfl)
      have HB := Lib.hid hb
      have hokx := HQ.out _ (List.getElem_mem hlt)
      unfold okLine strLine at hokx
      clear hc hcell hb
      generalize (ts.getD (k - 1) zLine).key = pf at *
      generalize ts[k].key = f at *
      generalize ts[k].value = p at *
      have HD := Lib.hid hdef
      clear hdef
      rcases hA : isWord f
      · have H1 := Lib.hid hA
        clear hA c2
        go_wp2
        go_quiet ((go_at_call 43; exact q_same (sIsWord_eq hokx H1.out _)))
        go_wp2
        go_ret
        exact ⟨ret_bool (by unfold sheetB; rw [range_all_false hlt (by rw [HD.out, H1.out]; rfl)]; simp), below_drewN' HB.out _⟩
      have H1 := Lib.hid hA
      clear hA
      rcases hP : inR p 0 1000000
      · have H2 := Lib.hid hP
        clear hP c2
        go_wp2
        go_quiet ((first | (go_at_call 43; exact q_same (sIsWord_eq hokx H1.out _)) | (go_at_call 38; exact q_same (l01In_eq H2.out _))))
        go_wp2
        go_ret
        exact ⟨ret_bool (by unfold sheetB; rw [range_all_false hlt (by rw [HD.out, H1.out, H2.out]; rfl)]; simp), below_drewN' HB.out _⟩
      have H2 := Lib.hid hP
      clear hP
      by_cases h0 : k = 0
      · have hpos : decide (0 < k) = false := decide_eq_false (by omega)
        have H0 := Lib.hid h0
        clear c2 h0
        go_wp2
        go_quiet ((first | (go_at_call 43; exact q_same (sIsWord_eq hokx H1.out _)) | (go_at_call 38; exact q_same (l01In_eq H2.out _))))
        go_wp2
        go_roundg (ts.length - (k + 1))
        case measure => omega
        case rel => exact ⟨k + 1, by omega, rfl, by go_num, Lib.hid (range_all_succ HA.out (by rw [HD.out, H1.out, H2.out]; simp [H0.out])), below_drewN' HB.out _, hs⟩
      · have c3 := c2 (by omega)
        clear c2
        have hw1 : IntKind.i64.wrap ((k : Int) - 1) = ((k - 1 : Nat) : Int) := by rw [IntWalk.i64_in _ (by omega)]; omega
        have hpos : decide (0 < k) = true := decide_eq_true (by omega)
        have hlt1 : ((k - 1 : Nat) : Int) < (ts.length : Int) := by omega
        rcases hge : Op.bytesLess pf.toList f.toList
        rotate_left
        · have HG := Lib.hid hge
          go_wp2
          go_quiet ((first | (go_at_call 43; exact q_same (sIsWord_eq hokx H1.out _)) | (go_at_call 38; exact q_same (l01In_eq H2.out _))))
          clear hw1 hpos hlt1
          go_wp2
          go_roundg (ts.length - (k + 1))
          case measure => omega
          case rel => exact ⟨k + 1, by omega, rfl, by go_num, Lib.hid (range_all_succ HA.out (by rw [HD.out, H1.out, H2.out, show keyLt pf f = true from HG.out]; simp)), below_drewN' HB.out _, hs⟩
        · have HG := Lib.hid hge
          go_wp2
          go_quiet ((first | (go_at_call 43; exact q_same (sIsWord_eq hokx H1.out _)) | (go_at_call 38; exact q_same (l01In_eq H2.out _))))
          clear hw1 hpos hlt1
          go_wp2
          go_ret
          exact ⟨ret_bool (by unfold sheetB; rw [range_all_false hlt (by rw [HD.out, H1.out, H2.out, show keyLt pf f = false from HG.out]; simp [h0])]; simp), below_drewN' HB.out _⟩
    · obtain rfl : k = ts.length := by omega
      go_wp2
      go_ret
      exact ⟨ret_bool (by unfold sheetB; rw [HA.out, Bool.and_true]; by_cases h : ts.length ≤ 8 <;> simp [h] <;> omega), hb⟩

end Go.Proofs.Ytklllcehndfcpaa
