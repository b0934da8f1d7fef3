/- The reference's UsePieces (chapter 24). No statement of the seat is proved here. -/
import Derived.Test.YtblaojjpclipaaaStockI
namespace Go.Proofs.Ytblaojjpclipaaa
open Go.RowKit

set_option maxHeartbeats 4000000 in
theorem l24Code_any (v : Value) (xs : List Bin) (s : ByteArray) (n : Int) (w : World) (hv : Sl eBin w v xs) (hq : ∀ x ∈ xs, okBin x) :
    Calls Try.prog 74 #[v, .string s, .int .i64 n] w fun e w' => e = .returned (.int .i64 (codeC xs s n)) ∧ Below w.heap.size w w' := by
  have HV0 := Lib.hid hv
  have HQ := Lib.hid hq
  rcases hA : isStock xs
  · have HR := Lib.hid (cC1 (s := s) (n := n) hA)
    have HA := Lib.hid hA
    clear hA hv hq
    rw [HR.out]
    go_enter Try.func74, Try.ntmps74
    go_wp2_with fail
    refine (sIsStock_any v xs w HV0.out HQ.out).mono ?_
    rintro e w1 ⟨rfl, hb⟩
    rw [HA.out]
    go_wp2
    go_ret
    exact ⟨rfl, hb⟩
  rcases hN : inR n 1 100000
  · have HR := Lib.hid (cC2 (s := s) hA hN)
    have HA := Lib.hid hA
    have HN := Lib.hid hN
    clear hA hv hq hN
    rw [HR.out]
    go_enter Try.func74, Try.ntmps74
    go_wp2_with fail
    refine (sIsStock_any v xs w HV0.out HQ.out).mono ?_
    rintro e w1 ⟨rfl, hb⟩
    rw [HA.out]
    go_wp2_with fail
    refine (l01In_eq HN.out _).mono ?_
    rintro e _ ⟨rfl, rfl⟩
    go_wp2
    go_ret
    exact ⟨rfl, hb⟩
  by_cases hF : firstAt (isBin s) xs < 0
  · have HR := Lib.hid (cC4 hA hN hF)
    have HA := Lib.hid hA
    have HN := Lib.hid hN
    have hd : decide (firstAt (isBin s) xs < 0) = true := decide_eq_true hF
    clear hA hv hq hN
    rw [HR.out]
    go_enter Try.func74, Try.ntmps74
    go_wp2_with fail
    refine (sIsStock_any v xs w HV0.out HQ.out).mono ?_
    rintro e w1 ⟨rfl, hb⟩
    rw [HA.out]
    go_wp2_with fail
    refine (l01In_eq HN.out _).mono ?_
    rintro e _ ⟨rfl, rfl⟩
    have HV := Lib.hid (HV0.out.below hb)
    go_wp2_with fail
    refine (l24Find_any v xs s w1 HV.out).mono ?_
    rintro e w2 ⟨rfl, rfl⟩
    go_wp2
    go_ret
    exact ⟨rfl, hb⟩
  have HR := Lib.hid (cC0 hA hN hF)
  have HA := Lib.hid hA
  have HN := Lib.hid hN
  have hd : decide (firstAt (isBin s) xs < 0) = false := decide_eq_false hF
  clear hA hv hq hN
  rw [HR.out]
  go_enter Try.func74, Try.ntmps74
  go_wp2_with fail
  refine (sIsStock_any v xs w HV0.out HQ.out).mono ?_
  rintro e w1 ⟨rfl, hb⟩
  rw [HA.out]
  go_wp2_with fail
  refine (l01In_eq HN.out _).mono ?_
  rintro e _ ⟨rfl, rfl⟩
  have HV := Lib.hid (HV0.out.below hb)
  go_wp2_with fail
  refine (l24Find_any v xs s w1 HV.out).mono ?_
  rintro e w2 ⟨rfl, rfl⟩
  go_wp2
  go_ret
  exact ⟨rfl, hb⟩
set_option maxHeartbeats 4000000 in
theorem l24Held_any (v : Value) (xs : List Bin) (s : ByteArray) (n : Int) (w : World) (hv : Sl eBin w v xs) (hq : ∀ x ∈ xs, okBin x) :
    Calls Try.prog 45 #[v, .string s, .int .i64 n] w fun e w' => e = .returned (.int .i64 (heldC xs s n)) ∧ Below w.heap.size w w' := by
  have HV0 := Lib.hid hv
  have HQ := Lib.hid hq
  by_cases hC : codeC xs s n = 0
  rotate_left
  · have HE := Lib.hid (held_code hC)
    have hcb : (codeC xs s n == 0) = false := beq_eq_false_iff_ne.2 hC
    clear hC hv hq
    rw [HE.out]
    go_enter Try.func45, Try.ntmps45
    go_wp2_with fail
    refine (l24Code_any v xs s n w HV0.out HQ.out).mono ?_
    rintro e w1 ⟨rfl, hb⟩
    go_wp2
    go_ret
    exact ⟨rfl, hb⟩
  obtain ⟨hA, hN, j, hj, e, _, _⟩ := code_zero hC
  have hH := held_at hC hj e
  have HC := Lib.hid hC
  have HE := Lib.hid e
  have hj0 : (0 : Int) ≤ (j : Int) := by omega
  have hj1 : (j : Int) < (xs.length : Int) := by omega
  obtain ⟨A, cap, rfl, _, _, hc⟩ := hv.shape
  obtain ⟨b, off, rfl, hbl, hcell⟩ := hc (by omega)
  have c2 : ∀ W, Below w.heap.size w W → W.cell? ⟨b, off + j * 5 + 2, none⟩ = some (.int .i64 xs[j].reserved) := fun W h => (h.cell (p := ⟨b, off + j * 5 + 2, none⟩) hbl).trans (by simpa [eBin, Nat.add_assoc] using hcell j hj 2 _ (by decide) rfl)
  have HC2 := Lib.hid c2
  clear hA hN e hC hv hq hc hcell c2
  by_cases hr : xs[j].reserved < n
  · rw [if_pos hr] at hH
    have HR := Lib.hid hH
    have hd : decide (xs[j].reserved < n) = true := decide_eq_true hr
    clear hH
    rw [HR.out]
    go_enter Try.func45, Try.ntmps45
    go_wp2_with fail
    refine (l24Code_any _ xs s n w HV0.out HQ.out).mono ?_
    rw [HC.out]
    rintro e w1 ⟨rfl, hb⟩
    have HV := Lib.hid (HV0.out.below hb)
    have cc := HC2.out _ hb
    go_wp2_with fail
    refine (l24Find_any _ xs s w1 HV.out).mono ?_
    rw [HE.out]
    rintro e w2 ⟨rfl, rfl⟩
    go_wp2
    go_ret
    exact ⟨rfl, hb⟩
  · rw [if_neg hr] at hH
    have HR := Lib.hid hH
    have hd : decide (xs[j].reserved < n) = false := decide_eq_false hr
    clear hH
    rw [HR.out]
    go_enter Try.func45, Try.ntmps45
    go_wp2_with fail
    refine (l24Code_any _ xs s n w HV0.out HQ.out).mono ?_
    rw [HC.out]
    rintro e w1 ⟨rfl, hb⟩
    have HV := Lib.hid (HV0.out.below hb)
    have cc := HC2.out _ hb
    go_wp2_with fail
    refine (l24Find_any _ xs s w1 HV.out).mono ?_
    rw [HE.out]
    rintro e w2 ⟨rfl, rfl⟩
    go_wp2
    go_ret
    exact ⟨rfl, hb⟩
set_option maxHeartbeats 4000000 in
set_option maxRecDepth 20000 in
theorem l24Change_any (v : Value) (xs : List Bin) (j : Nat) (a r : Int) (w : World) (hv : Sl eBin w v xs) (hj : j < xs.length) (hl : xs.length ≤ 1000) (ha : -1000000 ≤ a ∧ a ≤ 1000000) (hr : -1000000 ≤ r ∧ r ≤ 1000000) (hx : 0 ≤ xs[j].amount ∧ xs[j].amount ≤ 1000000) (hy : 0 ≤ xs[j].reserved ∧ xs[j].reserved ≤ 1000000) :
    Calls Try.prog 46 #[v, .int .i64 j, .int .i64 a, .int .i64 r] w fun e w' => ∃ u, e = .returned u ∧ Own eBin w' w.heap.size 54 u (xs.set j ⟨xs[j].code, xs[j].amount + a, xs[j].reserved + r, xs[j].point, xs[j].lot⟩) ∧ Below w.heap.size w w' := by
  have HB := Lib.hid ((Below.refl w.heap.size w).alloc (Nat.le_refl _) (.cells #[] 54))
  have HV : Hid (Sl eBin (w.alloc (.cells #[] 54)) v xs) := Lib.hid (hv.alloc _)
  have HO : Hid (Own eBin (w.alloc (.cells #[] 54)) w.heap.size 54 (.slice (some ⟨w.heap.size, 0, none⟩) 0 0) []) := Lib.hid (Own.empty eBin w _ _ (Nat.le_refl _))
  have hj0 : (0 : Int) ≤ (j : Int) := by omega
  have hj1 : (j : Int) < (xs.length : Int) := by omega
  have hw1 : IntKind.i64.wrap (xs[j].amount + a) = xs[j].amount + a := IntWalk.i64_in _ (by omega)
  have hw2 : IntKind.i64.wrap (xs[j].reserved + r) = xs[j].reserved + r := IntWalk.i64_in _ (by omega)
  have hj2 : j < (xs.set j ⟨xs[j].code, xs[j].amount + a, xs[j].reserved, xs[j].point, xs[j].lot⟩).length := by rw [List.length_set]; exact hj
  have HSS : Hid ((xs.set j ⟨xs[j].code, xs[j].amount + a, xs[j].reserved, xs[j].point, xs[j].lot⟩).set j ⟨xs[j].code, xs[j].amount + a, xs[j].reserved + r, xs[j].point, xs[j].lot⟩ = xs.set j ⟨xs[j].code, xs[j].amount + a, xs[j].reserved + r, xs[j].point, xs[j].lot⟩) := Lib.hid (by rw [List.set_set])
  have HGE : Hid ((xs.set j ⟨xs[j].code, xs[j].amount + a, xs[j].reserved, xs[j].point, xs[j].lot⟩)[j] = ⟨xs[j].code, xs[j].amount + a, xs[j].reserved, xs[j].point, xs[j].lot⟩) := Lib.hid (by simp)
  clear hv
  go_enter Try.func46, Try.ntmps46
  go_wp2_with (at_builtin; refine wpList_app_all eBin rfl _ _ 36 (by rfl) 54 (.agg #[.string ⟨#[]⟩, .int .i64 0, .int .i64 0, .int .i64 0, .int .i64 0]) 48 Try.underlying36 info_Bin rfl (by decide) (by decide) w.heap.size _ [] (by rfl) (by exact HO.out) _ xs (by rfl) (by exact HV.out) (by simp only [List.length_nil]; omega) (by simp) ?_)
  intro v3 w3 hO hB _ _
  replace hO : Own eBin w3 w.heap.size 54 v3 xs := hO
  obtain ⟨g, cap, rfl, hg, _⟩ := World.ownsRow.form hO (by omega)
  have c1 : w3.cell? ⟨g, j * 5 + 1, none⟩ = some (.int .i64 xs[j].amount) := (hO.cellsAt j hj 1 (by decide)).trans rfl
  have f1 : w3.frozen? ⟨g, j * 5 + 1, none⟩ = false := World.ownsRow.frozenAt hO _
  have hs1 := (hO.store1 j hj 1 (by decide) (.int .i64 (xs[j].amount + a)) ⟨xs[j].code, xs[j].amount + a, xs[j].reserved, xs[j].point, xs[j].lot⟩ rfl).1
  have c2 : (w3.setCell ⟨g, j * 5 + 1, none⟩ (.int .i64 (xs[j].amount + a))).cell? ⟨g, j * 5 + 2, none⟩ = some (.int .i64 xs[j].reserved) := (hs1.cellsAt j hj2 2 (by decide)).trans (by rw [HGE.out]; rfl)
  have f2 : (w3.setCell ⟨g, j * 5 + 1, none⟩ (.int .i64 (xs[j].amount + a))).frozen? ⟨g, j * 5 + 2, none⟩ = false := by
    have h0 : w3.frozen? ⟨g, j * 5 + 2, none⟩ = false := World.ownsRow.frozenAt hO _
    simpa using h0
  have OS := Lib.hid (hs1.store1 j hj2 2 (by decide) (.int .i64 (xs[j].reserved + r)) ⟨xs[j].code, xs[j].amount + a, xs[j].reserved + r, xs[j].point, xs[j].lot⟩ (by rw [HGE.out]; rfl)).1
  have HB1 : Hid (Below w.heap.size w ((w3.setCell ⟨g, j * 5 + 1, none⟩ (.int .i64 (xs[j].amount + a))).setCell ⟨g, j * 5 + 2, none⟩ (.int .i64 (xs[j].reserved + r)))) := Lib.hid (((HB.out.trans hB).setCell (p := ⟨g, j * 5 + 1, none⟩) hg _).setCell (p := ⟨g, j * 5 + 2, none⟩) hg _)
  clear hO hB hs1
  go_wp2
  go_ret
  rw [← HSS.out]
  exact ⟨_, rfl, OS.out, HB1.out⟩
set_option maxHeartbeats 4000000 in
set_option maxRecDepth 20000 in
theorem sUsePieces_law (v : Value) (xs : List Bin) (s : ByteArray) (n : Int) (w : World) (hv : Sl eBin w v xs) (hq : ∀ x ∈ xs, okBin x) :
    Calls Try.prog 13 #[v, .string s, .int .i64 n] w fun e w' => ∃ u, e = .returned (.tuple #[u, .int .i64 (UsePieces_r xs s n).2]) ∧ Own eBin w' w.heap.size 54 u (UsePieces_r xs s n).1 ∧ Below w.heap.size w w' := by
  have HV := Lib.hid hv
  have HQ := Lib.hid hq
  by_cases hC : heldC xs s n = 0
  rotate_left
  · have HR := Lib.hid (Use_bad hC)
    have hcb : (heldC xs s n == 0) = false := beq_eq_false_iff_ne.2 hC
    clear hC hv hq
    rw [HR.out]
    generalize hcc : heldC xs s n = cc at *
    have HCC := Lib.hid hcc
    clear hcc
    go_enter Try.func13, Try.ntmps13
    go_wp2_with fail
    refine (l24Held_any v xs s n w HV.out HQ.out).mono ?_
    rw [HCC.out]
    rintro e w1 ⟨rfl, hb⟩
    go_wp2
    go_ret2
    exact ⟨_, rfl, Own.nil_ _ _ _ _, hb⟩
  obtain ⟨hA, hN, j, hj, e, _, _⟩ := code_zero (held_code0 hC)
  obtain ⟨hlx, hat⟩ := isStock_at hA
  obtain ⟨_, a0, a1, r0, r1⟩ := hat j hj
  obtain ⟨n0, n1⟩ := inR_iff.1 hN
  have HR := Lib.hid (Use_ok hC hj e)
  have HC := Lib.hid hC
  have HE := Lib.hid e
  have hw : IntKind.i64.wrap (-n) = -n := IntWalk.i64_in _ (by omega)
  clear hA hN e hC hat hv hq
  go_enter Try.func13, Try.ntmps13
  go_wp2_with fail
  refine (l24Held_any v xs s n w HV.out HQ.out).mono ?_
  rw [HC.out]
  rintro e w1 ⟨rfl, hb⟩
  have HV1 := Lib.hid (HV.out.below hb)
  have B1 := Lib.hid hb
  have hz1 := hb.size
  clear hb
  go_wp2_with fail
  refine (l24Find_any v xs s w1 HV1.out).mono ?_
  rw [HE.out]
  rintro e w2 ⟨rfl, rfl⟩
  go_wp2_with fail
  refine (l24Change_any v xs j (-n) (-n) w1 HV1.out hj (by omega) (by omega) (by omega) (by omega) (by omega)).mono ?_
  rintro e w3 ⟨u, rfl, ho, hb⟩
  have O3 := Lib.hid (ho.mono hz1)
  have B3 := Lib.hid (Below.step B1.out hb)
  clear ho hb
  go_wp2
  go_ret2
  rw [HR.out]
  exact ⟨_, rfl, O3.out, B3.out⟩
end Go.Proofs.Ytblaojjpclipaaa
