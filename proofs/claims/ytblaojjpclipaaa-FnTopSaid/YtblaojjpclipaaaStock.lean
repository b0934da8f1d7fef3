/- Contracts of both IsStock and of both finds of a bin (chapter 24). No statement of the seat is proved here. -/
import Derived.Test.YtblaojjpclipaaaM1
import Derived.Test.YtblaojjpclipaaaM0
namespace Go.Proofs.Ytblaojjpclipaaa
open Go.RowKit

def keyLtS (a b : ByteArray) : Bool := Op.bytesLess a.toList b.toList
def binB (x : Bin) : Bool := isWord x.code && inR x.amount 0 100000 && inR x.reserved 0 x.amount && inR x.point 0 100000 && inR x.lot 1 100000
def binOk (xs : List Bin) (i : Nat) : Bool := binB (xs.getD i zBin) && (i == 0 || keyLtS (xs.getD (i - 1) zBin).code (xs.getD i zBin).code)
def isStock (xs : List Bin) : Bool := decide (xs.length ≤ 20) && (List.range xs.length).all (binOk xs)
def isBin (s : ByteArray) (x : Bin) : Bool := x.code.toList == s.toList
set_option maxHeartbeats 8000000 in
set_option maxRecDepth 20000 in
theorem iIsStock_any (v : Value) (xs : List Bin) (w : World) (hv : Sl eBin w v xs) (hq : ∀ x ∈ xs, okBin x) :
    Calls Try.prog 91 #[v] w fun e w' => e = .returned (.bool (isStock xs)) ∧ Below w.heap.size w w' := by
  obtain ⟨A, cap, rfl, _, hm, hc⟩ := hv.shape
  by_cases hbig : 20 < xs.length
  · clear hc
    go_enter Try.func91, Try.ntmps91
    go_wp2
    go_ret
    exact ⟨ret_bool (by unfold isStock; rw [decide_eq_false (by omega)]; rfl), Below.refl _ _⟩
  have HQ := Lib.hid hq
  clear hq hv
  go_enter Try.func91, Try.ntmps91
  go_wp2
  go_loopg [10] xs.length (fun gi i wr => ∃ k : Nat, k ≤ xs.length ∧ gi = xs.length - k ∧ i = .int .i64 k ∧ Hid ((List.range k).all (binOk xs) = true) ∧ Below w.heap.size w wr ∧ w.heap.size ≤ wr.heap.size)
  case atStart => exact ⟨0, Nat.zero_le _, rfl, rfl, Lib.hid rfl, Below.refl _ _, Nat.le_refl _⟩
  case round =>
    obtain ⟨k, hk, rfl, rfl, HA, hb, hs⟩ := hrel
    by_cases hlt : k < xs.length
    · obtain ⟨b, off, rfl, hbl, hcell⟩ := hc (by omega)
      have c0 : wr.cell? ⟨b, off + k * 5, none⟩ = some (.string xs[k].code) := (hb.cell (p := ⟨b, off + k * 5, none⟩) hbl).trans (by simpa [eBin, Nat.add_assoc] using hcell k hlt 0 _ (by decide) rfl)
      have c1 : wr.cell? ⟨b, off + k * 5 + 1, none⟩ = some (.int .i64 xs[k].amount) := (hb.cell (p := ⟨b, off + k * 5 + 1, none⟩) hbl).trans (by simpa [eBin, Nat.add_assoc] using hcell k hlt 1 _ (by decide) rfl)
      have c2 : wr.cell? ⟨b, off + k * 5 + 2, none⟩ = some (.int .i64 xs[k].reserved) := (hb.cell (p := ⟨b, off + k * 5 + 2, none⟩) hbl).trans (by simpa [eBin, Nat.add_assoc] using hcell k hlt 2 _ (by decide) rfl)
      have c3 : wr.cell? ⟨b, off + k * 5 + 3, none⟩ = some (.int .i64 xs[k].point) := (hb.cell (p := ⟨b, off + k * 5 + 3, none⟩) hbl).trans (by simpa [eBin, Nat.add_assoc] using hcell k hlt 3 _ (by decide) rfl)
      have c4 : wr.cell? ⟨b, off + k * 5 + 4, none⟩ = some (.int .i64 xs[k].lot) := (hb.cell (p := ⟨b, off + k * 5 + 4, none⟩) hbl).trans (by simpa [eBin, Nat.add_assoc] using hcell k hlt 4 _ (by decide) rfl)
      have hdef : binOk xs k = (binB xs[k] && (k == 0 || keyLtS (xs.getD (k - 1) zBin).code xs[k].code)) := by unfold binOk; rw [getD_at _ _ k hlt]
      have p0 : 0 < k → wr.cell? ⟨b, off + (k - 1) * 5, none⟩ = some (.string (xs.getD (k - 1) zBin).code) := fun hp => (hb.cell (p := ⟨b, off + (k - 1) * 5, none⟩) hbl).trans (by rw [getD_at _ _ _ (by omega)]; simpa [eBin] using hcell (k - 1) (by omega) 0 _ (by decide) rfl)
      have HB := Lib.hid (hb.alloc hs (.cells #[.string xs[k].code, .int .i64 xs[k].amount, .int .i64 xs[k].reserved, .int .i64 xs[k].point, .int .i64 xs[k].lot] 54))
      have hokx := HQ.out _ (List.getElem_mem hlt)
      unfold okBin strBin at hokx
      have hbx : ∀ j, (wr.alloc (.cells #[.string xs[k].code, .int .i64 xs[k].amount, .int .i64 xs[k].reserved, .int .i64 xs[k].point, .int .i64 xs[k].lot] 54)).cell? ⟨wr.heap.size, j, none⟩ = #[Value.string xs[k].code, .int .i64 xs[k].amount, .int .i64 xs[k].reserved, .int .i64 xs[k].point, .int .i64 xs[k].lot][j]? := fun j => box_new _ _ _ j
      have b0 := (hbx 0).trans (show _ = some (Value.string xs[k].code) from rfl)
      have b1 := (hbx 1).trans (show _ = some (Value.int .i64 xs[k].amount) from rfl)
      have b2 := (hbx 2).trans (show _ = some (Value.int .i64 xs[k].reserved) from rfl)
      have b3 := (hbx 3).trans (show _ = some (Value.int .i64 xs[k].point) from rfl)
      have b4 := (hbx 4).trans (show _ = some (Value.int .i64 xs[k].lot) from rfl)
      have p1 : 0 < k → (wr.alloc (.cells #[.string xs[k].code, .int .i64 xs[k].amount, .int .i64 xs[k].reserved, .int .i64 xs[k].point, .int .i64 xs[k].lot] 54)).cell? ⟨b, off + (k - 1) * 5, none⟩ = some (.string (xs.getD (k - 1) zBin).code) := fun hp => (box_old _ _ _ (by simp only []; omega)).trans (p0 hp)
      have hsz : w.heap.size ≤ (wr.alloc (.cells #[.string xs[k].code, .int .i64 xs[k].amount, .int .i64 xs[k].reserved, .int .i64 xs[k].point, .int .i64 xs[k].lot] 54)).heap.size := by simp; omega
      unfold binB at hdef
      clear hc hcell hb hbx p0
      generalize (xs.getD (k - 1) zBin).code = pf at *
      generalize xs[k] = x at *
      obtain ⟨cd, am, rs, pt, lt⟩ := x
      simp only at *
      have HD := Lib.hid hdef
      clear hdef
      rcases h1 : isWord cd
      · have H1 := Lib.hid h1
        clear h1 p1
        go_wp2_with fail
        generalize wr.alloc (.cells #[.string cd, .int .i64 am, .int .i64 rs, .int .i64 pt, .int .i64 lt] 54) = wb at *
        generalize wr.heap.size = Y at *
        refine (iIsWord_eq hokx H1.out _).mono ?_
        rintro e w' ⟨rfl, rfl⟩
        go_wp2
        go_ret
        exact ⟨ret_bool (by unfold isStock; rw [range_all_false hlt (by rw [HD.out, H1.out]; simp)]; simp), HB.out⟩
      have H1 := Lib.hid h1
      clear h1
      go_wp2_with fail
      generalize wr.alloc (.cells #[.string cd, .int .i64 am, .int .i64 rs, .int .i64 pt, .int .i64 lt] 54) = wb at *
      generalize wr.heap.size = Y at *
      refine (iIsWord_eq hokx H1.out _).mono ?_
      rintro e w' ⟨rfl, rfl⟩
      rcases h2 : inR am 0 100000
      · have H2 := Lib.hid h2
        clear h2 p1
        go_wp2_with fail
        refine (within_eq H2.out _).mono ?_
        rintro e w' ⟨rfl, rfl⟩
        go_wp2
        go_ret
        exact ⟨ret_bool (by unfold isStock; rw [range_all_false hlt (by rw [HD.out, H1.out, H2.out]; simp)]; simp), HB.out⟩
      have H2 := Lib.hid h2
      clear h2
      go_wp2_with fail
      refine (within_eq H2.out _).mono ?_
      rintro e w' ⟨rfl, rfl⟩
      rcases h3 : inR rs 0 am
      · have H3 := Lib.hid h3
        clear h3 p1
        go_wp2_with fail
        refine (within_eq H3.out _).mono ?_
        rintro e w' ⟨rfl, rfl⟩
        go_wp2
        go_ret
        exact ⟨ret_bool (by unfold isStock; rw [range_all_false hlt (by rw [HD.out, H1.out, H2.out, H3.out]; simp)]; simp), HB.out⟩
      have H3 := Lib.hid h3
      clear h3
      go_wp2_with fail
      refine (within_eq H3.out _).mono ?_
      rintro e w' ⟨rfl, rfl⟩
      rcases h4 : inR pt 0 100000
      · have H4 := Lib.hid h4
        clear h4 p1
        go_wp2_with fail
        refine (within_eq H4.out _).mono ?_
        rintro e w' ⟨rfl, rfl⟩
        go_wp2
        go_ret
        exact ⟨ret_bool (by unfold isStock; rw [range_all_false hlt (by rw [HD.out, H1.out, H2.out, H3.out, H4.out]; simp)]; simp), HB.out⟩
      have H4 := Lib.hid h4
      clear h4
      go_wp2_with fail
      refine (within_eq H4.out _).mono ?_
      rintro e w' ⟨rfl, rfl⟩
      rcases h5 : inR lt 1 100000
      · have H5 := Lib.hid h5
        clear h5 p1
        go_wp2_with fail
        refine (within_eq H5.out _).mono ?_
        rintro e w' ⟨rfl, rfl⟩
        go_wp2
        go_ret
        exact ⟨ret_bool (by unfold isStock; rw [range_all_false hlt (by rw [HD.out, H1.out, H2.out, H3.out, H4.out, H5.out]; simp)]; simp), HB.out⟩
      have H5 := Lib.hid h5
      clear h5
      go_wp2_with fail
      refine (within_eq H5.out _).mono ?_
      rintro e w' ⟨rfl, rfl⟩
      by_cases h0 : k = 0
      · have hpos : decide (0 < k) = false := decide_eq_false (by omega)
        have H0 := Lib.hid h0
        clear p1 h0
        go_wp2
        go_quiet (fail)
        go_wp2
        go_roundg (xs.length - (k + 1))
        case measure => omega
        case rel => exact ⟨k + 1, by omega, rfl, by go_num, Lib.hid (range_all_succ HA.out (by rw [HD.out, H1.out, H2.out, H3.out, H4.out, H5.out]; simp [H0.out])), below_drewN' HB.out _, hsz⟩
      · have q0 := p1 (by omega)
        have hw1 : IntKind.i64.wrap ((k : Int) - 1) = ((k - 1 : Nat) : Int) := by rw [IntWalk.i64_in _ (by omega)]; omega
        have hpos : decide (0 < k) = true := decide_eq_true (by omega)
        have hlt1 : ((k - 1 : Nat) : Int) < (xs.length : Int) := by omega
        clear p1
        rcases hge : Op.bytesLess pf.toList cd.toList
        rotate_left
        · have HG := Lib.hid hge
          go_wp2
          go_quiet (fail)
          clear hw1 hpos hlt1
          go_wp2
          go_roundg (xs.length - (k + 1))
          case measure => omega
          case rel => exact ⟨k + 1, by omega, rfl, by go_num, Lib.hid (range_all_succ HA.out (by rw [HD.out, H1.out, H2.out, H3.out, H4.out, H5.out, show keyLtS pf cd = true from HG.out]; simp)), below_drewN' HB.out _, hsz⟩
        · have HG := Lib.hid hge
          go_wp2
          go_quiet (fail)
          clear hw1 hpos hlt1
          go_wp2
          go_ret
          exact ⟨ret_bool (by unfold isStock; rw [range_all_false hlt (by rw [HD.out, H1.out, H2.out, H3.out, H4.out, H5.out, show keyLtS pf cd = false from HG.out]; simp [h0])]; simp), below_drewN' HB.out _⟩
    · obtain rfl : k = xs.length := by omega
      go_wp2
      go_ret
      exact ⟨ret_bool (by unfold isStock; rw [HA.out, decide_eq_true (by omega)]; rfl), hb⟩
set_option maxHeartbeats 8000000 in
set_option maxRecDepth 20000 in
theorem sIsStock_any (v : Value) (xs : List Bin) (w : World) (hv : Sl eBin w v xs) (hq : ∀ x ∈ xs, okBin x) :
    Calls Try.prog 92 #[v] w fun e w' => e = .returned (.bool (isStock xs)) ∧ Below w.heap.size w w' := by
  obtain ⟨A, cap, rfl, _, hm, hc⟩ := hv.shape
  have HQ := Lib.hid hq
  clear hq hv
  go_enter Try.func92, Try.ntmps92
  go_wp2
  go_loopg [3] xs.length (fun gi i wr => ∃ k : Nat, k ≤ xs.length ∧ gi = xs.length - k ∧ i = .int .i64 k ∧ Hid ((List.range k).all (binOk xs) = true) ∧ Below w.heap.size w wr ∧ w.heap.size ≤ wr.heap.size)
  case atStart => exact ⟨0, Nat.zero_le _, rfl, rfl, Lib.hid rfl, Below.refl _ _, Nat.le_refl _⟩
  case round =>
    obtain ⟨k, hk, rfl, rfl, HA, hb, hs⟩ := hrel
    by_cases hlt : k < xs.length
    · obtain ⟨b, off, rfl, hbl, hcell⟩ := hc (by omega)
      have c0 : wr.cell? ⟨b, off + k * 5, none⟩ = some (.string xs[k].code) := (hb.cell (p := ⟨b, off + k * 5, none⟩) hbl).trans (by simpa [eBin, Nat.add_assoc] using hcell k hlt 0 _ (by decide) rfl)
      have c1 : wr.cell? ⟨b, off + k * 5 + 1, none⟩ = some (.int .i64 xs[k].amount) := (hb.cell (p := ⟨b, off + k * 5 + 1, none⟩) hbl).trans (by simpa [eBin, Nat.add_assoc] using hcell k hlt 1 _ (by decide) rfl)
      have c2 : wr.cell? ⟨b, off + k * 5 + 2, none⟩ = some (.int .i64 xs[k].reserved) := (hb.cell (p := ⟨b, off + k * 5 + 2, none⟩) hbl).trans (by simpa [eBin, Nat.add_assoc] using hcell k hlt 2 _ (by decide) rfl)
      have c3 : wr.cell? ⟨b, off + k * 5 + 3, none⟩ = some (.int .i64 xs[k].point) := (hb.cell (p := ⟨b, off + k * 5 + 3, none⟩) hbl).trans (by simpa [eBin, Nat.add_assoc] using hcell k hlt 3 _ (by decide) rfl)
      have c4 : wr.cell? ⟨b, off + k * 5 + 4, none⟩ = some (.int .i64 xs[k].lot) := (hb.cell (p := ⟨b, off + k * 5 + 4, none⟩) hbl).trans (by simpa [eBin, Nat.add_assoc] using hcell k hlt 4 _ (by decide) rfl)
      have hdef : binOk xs k = (binB xs[k] && (k == 0 || keyLtS (xs.getD (k - 1) zBin).code xs[k].code)) := by unfold binOk; rw [getD_at _ _ k hlt]
      have p0 : 0 < k → wr.cell? ⟨b, off + (k - 1) * 5, none⟩ = some (.string (xs.getD (k - 1) zBin).code) := fun hp => (hb.cell (p := ⟨b, off + (k - 1) * 5, none⟩) hbl).trans (by rw [getD_at _ _ _ (by omega)]; simpa [eBin] using hcell (k - 1) (by omega) 0 _ (by decide) rfl)
      have HB := Lib.hid (hb.alloc hs (.cells #[.string xs[k].code, .int .i64 xs[k].amount, .int .i64 xs[k].reserved, .int .i64 xs[k].point, .int .i64 xs[k].lot] 54))
      have hokx := HQ.out _ (List.getElem_mem hlt)
      unfold okBin strBin at hokx
      have hbx : ∀ j, (wr.alloc (.cells #[.string xs[k].code, .int .i64 xs[k].amount, .int .i64 xs[k].reserved, .int .i64 xs[k].point, .int .i64 xs[k].lot] 54)).cell? ⟨wr.heap.size, j, none⟩ = #[Value.string xs[k].code, .int .i64 xs[k].amount, .int .i64 xs[k].reserved, .int .i64 xs[k].point, .int .i64 xs[k].lot][j]? := fun j => box_new _ _ _ j
      have b0 := (hbx 0).trans (show _ = some (Value.string xs[k].code) from rfl)
      have b1 := (hbx 1).trans (show _ = some (Value.int .i64 xs[k].amount) from rfl)
      have b2 := (hbx 2).trans (show _ = some (Value.int .i64 xs[k].reserved) from rfl)
      have b3 := (hbx 3).trans (show _ = some (Value.int .i64 xs[k].point) from rfl)
      have b4 := (hbx 4).trans (show _ = some (Value.int .i64 xs[k].lot) from rfl)
      have p1 : 0 < k → (wr.alloc (.cells #[.string xs[k].code, .int .i64 xs[k].amount, .int .i64 xs[k].reserved, .int .i64 xs[k].point, .int .i64 xs[k].lot] 54)).cell? ⟨b, off + (k - 1) * 5, none⟩ = some (.string (xs.getD (k - 1) zBin).code) := fun hp => (box_old _ _ _ (by simp only []; omega)).trans (p0 hp)
      have hsz : w.heap.size ≤ (wr.alloc (.cells #[.string xs[k].code, .int .i64 xs[k].amount, .int .i64 xs[k].reserved, .int .i64 xs[k].point, .int .i64 xs[k].lot] 54)).heap.size := by simp; omega
      unfold binB at hdef
      clear hc hcell hb hbx p0
      generalize (xs.getD (k - 1) zBin).code = pf at *
      generalize xs[k] = x at *
      obtain ⟨cd, am, rs, pt, lt⟩ := x
      simp only at *
      have HD := Lib.hid hdef
      clear hdef
      rcases h1 : isWord cd
      · have H1 := Lib.hid h1
        clear h1 p1
        go_wp2_with fail
        generalize wr.alloc (.cells #[.string cd, .int .i64 am, .int .i64 rs, .int .i64 pt, .int .i64 lt] 54) = wb at *
        generalize wr.heap.size = Y at *
        refine (sIsWord_eq hokx H1.out _).mono ?_
        rintro e w' ⟨rfl, rfl⟩
        go_wp2
        go_ret
        exact ⟨ret_bool (by unfold isStock; rw [range_all_false hlt (by rw [HD.out, H1.out]; simp)]; simp), HB.out⟩
      have H1 := Lib.hid h1
      clear h1
      go_wp2_with fail
      generalize wr.alloc (.cells #[.string cd, .int .i64 am, .int .i64 rs, .int .i64 pt, .int .i64 lt] 54) = wb at *
      generalize wr.heap.size = Y at *
      refine (sIsWord_eq hokx H1.out _).mono ?_
      rintro e w' ⟨rfl, rfl⟩
      rcases h2 : inR am 0 100000
      · have H2 := Lib.hid h2
        clear h2 p1
        go_wp2_with fail
        refine (l01In_eq H2.out _).mono ?_
        rintro e w' ⟨rfl, rfl⟩
        go_wp2
        go_ret
        exact ⟨ret_bool (by unfold isStock; rw [range_all_false hlt (by rw [HD.out, H1.out, H2.out]; simp)]; simp), HB.out⟩
      have H2 := Lib.hid h2
      clear h2
      go_wp2_with fail
      refine (l01In_eq H2.out _).mono ?_
      rintro e w' ⟨rfl, rfl⟩
      rcases h3 : inR rs 0 am
      · have H3 := Lib.hid h3
        clear h3 p1
        go_wp2_with fail
        refine (l01In_eq H3.out _).mono ?_
        rintro e w' ⟨rfl, rfl⟩
        go_wp2
        go_ret
        exact ⟨ret_bool (by unfold isStock; rw [range_all_false hlt (by rw [HD.out, H1.out, H2.out, H3.out]; simp)]; simp), HB.out⟩
      have H3 := Lib.hid h3
      clear h3
      go_wp2_with fail
      refine (l01In_eq H3.out _).mono ?_
      rintro e w' ⟨rfl, rfl⟩
      rcases h4 : inR pt 0 100000
      · have H4 := Lib.hid h4
        clear h4 p1
        go_wp2_with fail
        refine (l01In_eq H4.out _).mono ?_
        rintro e w' ⟨rfl, rfl⟩
        go_wp2
        go_ret
        exact ⟨ret_bool (by unfold isStock; rw [range_all_false hlt (by rw [HD.out, H1.out, H2.out, H3.out, H4.out]; simp)]; simp), HB.out⟩
      have H4 := Lib.hid h4
      clear h4
      go_wp2_with fail
      refine (l01In_eq H4.out _).mono ?_
      rintro e w' ⟨rfl, rfl⟩
      rcases h5 : inR lt 1 100000
      · have H5 := Lib.hid h5
        clear h5 p1
        go_wp2_with fail
        refine (l01In_eq H5.out _).mono ?_
        rintro e w' ⟨rfl, rfl⟩
        go_wp2
        go_ret
        exact ⟨ret_bool (by unfold isStock; rw [range_all_false hlt (by rw [HD.out, H1.out, H2.out, H3.out, H4.out, H5.out]; simp)]; simp), HB.out⟩
      have H5 := Lib.hid h5
      clear h5
      go_wp2_with fail
      refine (l01In_eq H5.out _).mono ?_
      rintro e w' ⟨rfl, rfl⟩
      by_cases h0 : k = 0
      · have hpos : decide (0 < k) = false := decide_eq_false (by omega)
        have H0 := Lib.hid h0
        clear p1 h0
        go_wp2
        go_quiet (fail)
        go_wp2
        go_roundg (xs.length - (k + 1))
        case measure => omega
        case rel => exact ⟨k + 1, by omega, rfl, by go_num, Lib.hid (range_all_succ HA.out (by rw [HD.out, H1.out, H2.out, H3.out, H4.out, H5.out]; simp [H0.out])), below_drewN' HB.out _, hsz⟩
      · have q0 := p1 (by omega)
        have hw1 : IntKind.i64.wrap ((k : Int) - 1) = ((k - 1 : Nat) : Int) := by rw [IntWalk.i64_in _ (by omega)]; omega
        have hpos : decide (0 < k) = true := decide_eq_true (by omega)
        have hlt1 : ((k - 1 : Nat) : Int) < (xs.length : Int) := by omega
        clear p1
        rcases hge : Op.bytesLess pf.toList cd.toList
        rotate_left
        · have HG := Lib.hid hge
          go_wp2
          go_quiet (fail)
          clear hw1 hpos hlt1
          go_wp2
          go_roundg (xs.length - (k + 1))
          case measure => omega
          case rel => exact ⟨k + 1, by omega, rfl, by go_num, Lib.hid (range_all_succ HA.out (by rw [HD.out, H1.out, H2.out, H3.out, H4.out, H5.out, show keyLtS pf cd = true from HG.out]; simp)), below_drewN' HB.out _, hsz⟩
        · have HG := Lib.hid hge
          go_wp2
          go_quiet (fail)
          clear hw1 hpos hlt1
          go_wp2
          go_ret
          exact ⟨ret_bool (by unfold isStock; rw [range_all_false hlt (by rw [HD.out, H1.out, H2.out, H3.out, H4.out, H5.out, show keyLtS pf cd = false from HG.out]; simp [h0])]; simp), below_drewN' HB.out _⟩
    · obtain rfl : k = xs.length := by omega
      go_wp2
      go_ret
      exact ⟨ret_bool (by unfold isStock; rw [HA.out, Bool.and_true]; by_cases h : xs.length ≤ 20 <;> simp [h] <;> omega), hb⟩
set_option maxHeartbeats 4000000 in
theorem findBin_any (v : Value) (xs : List Bin) (s : ByteArray) (w : World) (hv : Sl eBin w v xs) :
    Calls Try.prog 44 #[v, .string s] w fun e w' => e = .returned (.int .i64 (firstAt (isBin s) xs)) ∧ Below w.heap.size w w' := by
  obtain ⟨A, cap, rfl, _, hm, hc⟩ := hv.shape
  go_enter Try.func44, Try.ntmps44
  go_wp2
  go_loopg [9] xs.length (fun gi i wr => ∃ k : Nat, k ≤ xs.length ∧ gi = xs.length - k ∧ i = .int .i64 k ∧ Hid ((xs.take k).any (isBin s) = false) ∧ Below w.heap.size w wr ∧ w.heap.size ≤ wr.heap.size)
  case atStart => exact ⟨0, Nat.zero_le _, rfl, rfl, Lib.hid rfl, Below.refl _ _, Nat.le_refl _⟩
  case round =>
    obtain ⟨k, hk, rfl, rfl, HA, hb, hs⟩ := hrel
    by_cases hlt : k < xs.length
    · obtain ⟨b, off, rfl, hbl, hcell⟩ := hc (by omega)
      have c0 : wr.cell? ⟨b, off + k * 5, none⟩ = some (.string xs[k].code) := (hb.cell (p := ⟨b, off + k * 5, none⟩) hbl).trans (by simpa [eBin, Nat.add_assoc] using hcell k hlt 0 _ (by decide) rfl)
      have c1 : wr.cell? ⟨b, off + k * 5 + 1, none⟩ = some (.int .i64 xs[k].amount) := (hb.cell (p := ⟨b, off + k * 5 + 1, none⟩) hbl).trans (by simpa [eBin, Nat.add_assoc] using hcell k hlt 1 _ (by decide) rfl)
      have c2 : wr.cell? ⟨b, off + k * 5 + 2, none⟩ = some (.int .i64 xs[k].reserved) := (hb.cell (p := ⟨b, off + k * 5 + 2, none⟩) hbl).trans (by simpa [eBin, Nat.add_assoc] using hcell k hlt 2 _ (by decide) rfl)
      have c3 : wr.cell? ⟨b, off + k * 5 + 3, none⟩ = some (.int .i64 xs[k].point) := (hb.cell (p := ⟨b, off + k * 5 + 3, none⟩) hbl).trans (by simpa [eBin, Nat.add_assoc] using hcell k hlt 3 _ (by decide) rfl)
      have c4 : wr.cell? ⟨b, off + k * 5 + 4, none⟩ = some (.int .i64 xs[k].lot) := (hb.cell (p := ⟨b, off + k * 5 + 4, none⟩) hbl).trans (by simpa [eBin, Nat.add_assoc] using hcell k hlt 4 _ (by decide) rfl)
      have HB := Lib.hid (hb.alloc hs (.cells #[.string xs[k].code, .int .i64 xs[k].amount, .int .i64 xs[k].reserved, .int .i64 xs[k].point, .int .i64 xs[k].lot] 54))
      clear hc hcell hb
      rcases hI : isBin s xs[k]
      · have HI := Lib.hid hI
        have g : (xs[k].code.toList == s.toList) = false := hI
        clear hI
        go_wp2
        go_roundg (xs.length - (k + 1))
        case measure => omega
        case rel => exact ⟨k + 1, by omega, rfl, by go_num, Lib.hid (any_take_succ k hlt HA.out HI.out), HB.out, by simp; omega⟩
      · have HI := Lib.hid hI
        have g : (xs[k].code.toList == s.toList) = true := hI
        clear hI
        go_wp2
        go_ret
        exact ⟨ret_int (firstAt_at hlt HA.out HI.out).symm, HB.out⟩
    · obtain rfl : k = xs.length := by omega
      go_wp2
      go_ret
      exact ⟨ret_int (firstAt_none (any_of_take _ (Nat.le_refl _) HA.out)).symm, hb⟩
set_option maxHeartbeats 4000000 in
theorem l24Find_any (v : Value) (xs : List Bin) (s : ByteArray) (w : World) (hv : Sl eBin w v xs) :
    Calls Try.prog 47 #[v, .string s] w fun e w' => e = .returned (.int .i64 (firstAt (isBin s) xs)) ∧ w = w' := by
  obtain ⟨A, cap, rfl, _, hm, hc⟩ := hv.shape
  go_enter Try.func47, Try.ntmps47
  go_wp2
  go_loop [5] (fun i => ∃ k : Nat, k ≤ xs.length ∧ i = .int .i64 k ∧ Hid ((xs.take k).any (isBin s) = false)) (fun i => xs.length - (intOf i).toNat)
  case atStart => exact ⟨0, Nat.zero_le _, rfl, Lib.hid rfl⟩
  case round =>
    obtain ⟨k, hk, rfl, HA⟩ := hrel
    by_cases hlt : k < xs.length
    · obtain ⟨b, off, rfl, hbl, hcell⟩ := hc (by omega)
      have hb := Below.refl w.heap.size w
      have c0 : w.cell? ⟨b, off + k * 5, none⟩ = some (.string xs[k].code) := (hb.cell (p := ⟨b, off + k * 5, none⟩) hbl).trans (by simpa [eBin, Nat.add_assoc] using hcell k hlt 0 _ (by decide) rfl)
      have c1 : w.cell? ⟨b, off + k * 5 + 1, none⟩ = some (.int .i64 xs[k].amount) := (hb.cell (p := ⟨b, off + k * 5 + 1, none⟩) hbl).trans (by simpa [eBin, Nat.add_assoc] using hcell k hlt 1 _ (by decide) rfl)
      have c2 : w.cell? ⟨b, off + k * 5 + 2, none⟩ = some (.int .i64 xs[k].reserved) := (hb.cell (p := ⟨b, off + k * 5 + 2, none⟩) hbl).trans (by simpa [eBin, Nat.add_assoc] using hcell k hlt 2 _ (by decide) rfl)
      have c3 : w.cell? ⟨b, off + k * 5 + 3, none⟩ = some (.int .i64 xs[k].point) := (hb.cell (p := ⟨b, off + k * 5 + 3, none⟩) hbl).trans (by simpa [eBin, Nat.add_assoc] using hcell k hlt 3 _ (by decide) rfl)
      have c4 : w.cell? ⟨b, off + k * 5 + 4, none⟩ = some (.int .i64 xs[k].lot) := (hb.cell (p := ⟨b, off + k * 5 + 4, none⟩) hbl).trans (by simpa [eBin, Nat.add_assoc] using hcell k hlt 4 _ (by decide) rfl)
      clear hc hcell hb
      rcases hI : isBin s xs[k]
      · have HI := Lib.hid hI
        have g : (xs[k].code.toList == s.toList) = false := hI
        clear hI
        go_wp2
        go_round
        case rel => exact ⟨k + 1, by omega, by go_num, Lib.hid (any_take_succ k hlt HA.out HI.out)⟩
        case measure => simp [intOf]; omega
      · have HI := Lib.hid hI
        have g : (xs[k].code.toList == s.toList) = true := hI
        clear hI
        go_wp2
        go_ret
        exact ⟨ret_int (firstAt_at hlt HA.out HI.out).symm, rfl⟩
    · obtain rfl : k = xs.length := by omega
      go_wp2
      go_ret
      exact ⟨ret_int (firstAt_none (any_of_take _ (Nat.le_refl _) HA.out)).symm, rfl⟩
end Go.Proofs.Ytblaojjpclipaaa
