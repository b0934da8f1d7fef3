/- The plain law of using pieces, and the program's UsePieces (chapter 24). No statement of the seat is proved here. -/
import Derived.Test.YtblaojjpclipaaaStock
import Derived.Test.YtblaojjpclipaaaAppAll
namespace Go.Proofs.Ytblaojjpclipaaa
open Go.RowKit

def relB (x : Bin) (n : Int) : Bin := ⟨x.code, x.amount, x.reserved - n, x.point, x.lot⟩
def usedB (x : Bin) (n : Int) : Bin := ⟨x.code, x.amount - n, x.reserved - n, x.point, x.lot⟩
/-- 0: all is well; the bin's place -/
def heldC (xs : List Bin) (s : ByteArray) (n : Int) : Int :=
  if isStock xs then (if inR n 1 100000 then (if firstAt (isBin s) xs < 0 then 4 else (if (xs.getD (firstAt (isBin s) xs).toNat zBin).reserved < n then 5 else 0)) else 2) else 1
def codeC (xs : List Bin) (s : ByteArray) (n : Int) : Int :=
  if isStock xs then (if inR n 1 100000 then (if firstAt (isBin s) xs < 0 then 4 else 0) else 2) else 1
def UsePieces_r (xs : List Bin) (s : ByteArray) (n : Int) : List Bin × Int :=
  if heldC xs s n = 0 then (xs.set (firstAt (isBin s) xs).toNat (usedB (xs.getD (firstAt (isBin s) xs).toNat zBin) n), 0) else ([], heldC xs s n)
def ReleasePieces_r (xs : List Bin) (s : ByteArray) (n : Int) : List Bin × Int :=
  if heldC xs s n = 0 then (xs.set (firstAt (isBin s) xs).toNat (relB (xs.getD (firstAt (isBin s) xs).toNat zBin) n), 0) else ([], heldC xs s n)
def binOf_r (xs : List Bin) (s : ByteArray) (n : Int) : List Bin × Int × Int :=
  if codeC xs s n = 0 then (xs, firstAt (isBin s) xs, 0) else ([], 0, codeC xs s n)
section
variable {xs : List Bin} {s : ByteArray} {n : Int}
theorem isStock_at (h : isStock xs = true) : xs.length ≤ 20 ∧ ∀ (k : Nat) (hk : k < xs.length), isWord xs[k].code = true ∧ 0 ≤ xs[k].amount ∧ xs[k].amount ≤ 100000 ∧ 0 ≤ xs[k].reserved ∧ xs[k].reserved ≤ xs[k].amount := by
  unfold isStock at h
  rw [Bool.and_eq_true, decide_eq_true_eq, List.all_eq_true] at h
  refine ⟨h.1, fun k hk => ?_⟩
  have h2 := h.2 k (List.mem_range.2 hk)
  unfold binOk binB at h2
  rw [getD_at _ _ _ hk] at h2
  simp only [Bool.and_eq_true, inR_iff] at h2
  exact ⟨h2.1.1.1.1.1, h2.1.1.1.1.2.1, h2.1.1.1.1.2.2, h2.1.1.1.2.1, h2.1.1.1.2.2⟩
theorem cC1 (h : isStock xs = false) : codeC xs s n = 1 := by unfold codeC; rw [h]; rfl
theorem cC2 (h : isStock xs = true) (h2 : inR n 1 100000 = false) : codeC xs s n = 2 := by unfold codeC; rw [h, h2]; rfl
theorem cC4 (h : isStock xs = true) (h2 : inR n 1 100000 = true) (h3 : firstAt (isBin s) xs < 0) : codeC xs s n = 4 := by unfold codeC; rw [h, h2, if_pos rfl, if_pos rfl, if_pos h3]
theorem cC0 (h : isStock xs = true) (h2 : inR n 1 100000 = true) (h3 : ¬ firstAt (isBin s) xs < 0) : codeC xs s n = 0 := by unfold codeC; rw [h, h2, if_pos rfl, if_pos rfl, if_neg h3]
theorem held_code (h : codeC xs s n ≠ 0) : heldC xs s n = codeC xs s n := by
  unfold codeC heldC at *
  split
  · rename_i h1
    rw [if_pos h1] at h
    split
    · rename_i h2
      rw [if_pos h2] at h
      split
      · rfl
      · rename_i h3
        rw [if_neg h3] at h
        exact absurd rfl h
    · rfl
  · rfl
theorem code_zero (h : codeC xs s n = 0) : isStock xs = true ∧ inR n 1 100000 = true ∧ ∃ (k : Nat) (hk : k < xs.length), firstAt (isBin s) xs = k ∧ isBin s xs[k] = true ∧ (xs.take k).any (isBin s) = false := by
  unfold codeC at h
  split at h
  · rename_i h1
    split at h
    · rename_i h2
      split at h
      · cases h
      · rename_i h3
        exact ⟨h1, h2, firstAt_get h3⟩
    · cases h
  · cases h
theorem held_at (h : codeC xs s n = 0) {k : Nat} (hk : k < xs.length) (e : firstAt (isBin s) xs = (k : Int)) : heldC xs s n = if xs[k].reserved < n then 5 else 0 := by
  obtain ⟨h1, h2, _⟩ := code_zero h
  unfold heldC
  rw [if_pos h1, if_pos h2, e, if_neg (by omega), Int.toNat_natCast, getD_at _ _ _ hk]
theorem held_code0 (h : heldC xs s n = 0) : codeC xs s n = 0 := by
  rcases Decidable.em (codeC xs s n = 0) with h2 | h2
  · exact h2
  · rw [held_code h2] at h; exact h
theorem Rel_bad (h : heldC xs s n ≠ 0) : ReleasePieces_r xs s n = ([], heldC xs s n) := by unfold ReleasePieces_r; rw [if_neg h]
theorem Use_bad (h : heldC xs s n ≠ 0) : UsePieces_r xs s n = ([], heldC xs s n) := by unfold UsePieces_r; rw [if_neg h]
theorem Rel_ok (h : heldC xs s n = 0) {k : Nat} (hk : k < xs.length) (e : firstAt (isBin s) xs = (k : Int)) : ReleasePieces_r xs s n = (xs.set k (relB xs[k] n), 0) := by unfold ReleasePieces_r; rw [if_pos h, e, Int.toNat_natCast, getD_at _ _ _ hk]
theorem Use_ok (h : heldC xs s n = 0) {k : Nat} (hk : k < xs.length) (e : firstAt (isBin s) xs = (k : Int)) : UsePieces_r xs s n = (xs.set k (usedB xs[k] n), 0) := by unfold UsePieces_r; rw [if_pos h, e, Int.toNat_natCast, getD_at _ _ _ hk]
theorem bin_ok (h : codeC xs s n = 0) : binOf_r xs s n = (xs, firstAt (isBin s) xs, 0) := by unfold binOf_r; rw [if_pos h]
theorem bin_bad (h : codeC xs s n ≠ 0) : binOf_r xs s n = ([], 0, codeC xs s n) := by unfold binOf_r; rw [if_neg h]
theorem firstAt_set {k : Nat} (hk : k < xs.length) (x : Bin) (hx : x.code = xs[k].code) : firstAt (isBin s) (xs.set k x) = firstAt (isBin s) xs := by
  have ep : ∀ i (h1 : i < (xs.set k x).length) (h2 : i < xs.length), isBin s (xs.set k x)[i] = isBin s xs[i] := fun i h1 h2 => by
    rw [List.getElem_set]
    split
    · rename_i e
      subst e
      unfold isBin
      rw [hx]
    · rfl
  have et : ∀ m, ((xs.set k x).take m).any (isBin s) = (xs.take m).any (isBin s) := fun m => by
    rw [Bool.eq_iff_iff, List.any_eq_true, List.any_eq_true]
    constructor
    · rintro ⟨y, hy, hp⟩
      obtain ⟨i, hi, rfl⟩ := List.mem_take_iff_getElem.1 hy
      have hi2 : i < xs.length := by rw [List.length_set] at hi; omega
      rw [ep i (by rw [List.length_set]; exact hi2) hi2] at hp
      exact ⟨xs[i], List.mem_take_iff_getElem.2 ⟨i, by rw [List.length_set] at hi; omega, rfl⟩, hp⟩
    · rintro ⟨y, hy, hp⟩
      obtain ⟨i, hi, rfl⟩ := List.mem_take_iff_getElem.1 hy
      have hi2 : i < xs.length := by omega
      rw [← ep i (by rw [List.length_set]; exact hi2) hi2] at hp
      exact ⟨(xs.set k x)[i]'(by rw [List.length_set]; exact hi2), List.mem_take_iff_getElem.2 ⟨i, by rw [List.length_set]; omega, rfl⟩, hp⟩
  by_cases hn : firstAt (isBin s) xs < 0
  · have h2 := et xs.length
    rw [List.take_of_length_le (by rw [List.length_set]; exact Nat.le_refl _), List.take_of_length_le (Nat.le_refl _), firstAt_neg.1 hn] at h2
    rw [firstAt_none h2, firstAt_none (firstAt_neg.1 hn)]
  · obtain ⟨j, hj, e, hp, ht⟩ := firstAt_get hn
    rw [e]
    exact firstAt_at (by rw [List.length_set]; exact hj) (by rw [et]; exact ht) (by rw [ep j _ hj]; exact hp)
end
set_option maxHeartbeats 4000000 in
set_option maxRecDepth 20000 in
theorem binOf_any (v : Value) (xs : List Bin) (s : ByteArray) (n : Int) (w : World) (hv : Sl eBin w v xs) (hq : ∀ x ∈ xs, okBin x) :
    Calls Try.prog 73 #[v, .string s, .int .i64 n] w fun e w' => ∃ u, e = .returned (.tuple #[u, .int .i64 (binOf_r xs s n).2.1, .int .i64 (binOf_r xs s n).2.2]) ∧ Own eBin w' w.heap.size 54 u (binOf_r xs s n).1 ∧ Below w.heap.size w w' := by
  have HV0 := Lib.hid hv
  have HQ := Lib.hid hq
  rcases hA : isStock xs
  · have HC := cC1 (s := s) (n := n) hA
    have HR := Lib.hid ((bin_bad (by rw [HC]; decide)).trans (by rw [HC]))
    have HA := Lib.hid hA
    clear hA hv hq HC
    rw [HR.out]
    go_enter Try.func73, Try.ntmps73
    go_wp2_with fail
    refine (iIsStock_any v xs w HV0.out HQ.out).mono ?_
    rintro e w1 ⟨rfl, hb⟩
    rw [HA.out]
    go_wp2
    go_ret3
    exact ⟨_, rfl, Own.nil_ _ _ _ _, hb⟩
  rcases hN : inR n 1 100000
  · have HC := cC2 (s := s) hA hN
    have HR := Lib.hid ((bin_bad (by rw [HC]; decide)).trans (by rw [HC]))
    have HA := Lib.hid hA
    have HN := Lib.hid hN
    clear hA hv hq HC hN
    rw [HR.out]
    go_enter Try.func73, Try.ntmps73
    go_wp2_with fail
    refine (iIsStock_any v xs w HV0.out HQ.out).mono ?_
    rintro e w1 ⟨rfl, hb⟩
    rw [HA.out]
    go_wp2_with fail
    refine (within_eq HN.out _).mono ?_
    rintro e _ ⟨rfl, rfl⟩
    go_wp2
    go_ret3
    exact ⟨_, rfl, Own.nil_ _ _ _ _, hb⟩
  by_cases hF : firstAt (isBin s) xs < 0
  · have HC := cC4 hA hN hF
    have HR := Lib.hid ((bin_bad (by rw [HC]; decide)).trans (by rw [HC]))
    have HA := Lib.hid hA
    have HN := Lib.hid hN
    have hd : decide (firstAt (isBin s) xs < 0) = true := decide_eq_true hF
    clear hA hv hq HC hN
    rw [HR.out]
    go_enter Try.func73, Try.ntmps73
    go_wp2_with fail
    refine (iIsStock_any v xs w HV0.out HQ.out).mono ?_
    rintro e w1 ⟨rfl, hb⟩
    rw [HA.out]
    go_wp2_with fail
    refine (within_eq HN.out _).mono ?_
    rintro e _ ⟨rfl, rfl⟩
    have HV := Lib.hid (HV0.out.below hb)
    go_wp2_with fail
    refine (findBin_any v xs s w1 HV.out).mono ?_
    rintro e w2 ⟨rfl, hb2⟩
    have HB := Lib.hid (Below.step hb hb2)
    clear hb hb2
    go_wp2
    go_ret3
    exact ⟨_, rfl, Own.nil_ _ _ _ _, HB.out⟩
  have HR := Lib.hid (bin_ok (cC0 hA hN hF))
  have HA := Lib.hid hA
  have HN := Lib.hid hN
  have hd : decide (firstAt (isBin s) xs < 0) = false := decide_eq_false hF
  have hlx := (isStock_at hA).1
  clear hA hv hq hN
  go_enter Try.func73, Try.ntmps73
  go_wp2_with fail
  refine (iIsStock_any v xs w HV0.out HQ.out).mono ?_
  rintro e w1 ⟨rfl, hb⟩
  rw [HA.out]
  go_wp2_with fail
  refine (within_eq HN.out _).mono ?_
  rintro e _ ⟨rfl, rfl⟩
  have HV1 := Lib.hid (HV0.out.below hb)
  go_wp2_with fail
  refine (findBin_any v xs s w1 HV1.out).mono ?_
  rintro e w2 ⟨rfl, hb2⟩
  have hb3 := Below.step hb hb2
  have hsz := hb3.size
  have HB := Lib.hid (hb3.alloc hsz (.cells #[] 54))
  have HV : Hid (Sl eBin (w2.alloc (.cells #[] 54)) v xs) := Lib.hid ((HV0.out.below hb3).alloc _)
  have HO : Hid (Own eBin (w2.alloc (.cells #[] 54)) w.heap.size 54 (.slice (some ⟨w2.heap.size, 0, none⟩) 0 0) []) := Lib.hid (Own.empty eBin w2 _ _ hsz)
  clear hb hb2 hb3 hF
  go_wp2_with (at_builtin; refine wpList_app_all eBin rfl _ _ 36 (by rfl) 54 (.agg #[.string ⟨#[]⟩, .int .i64 0, .int .i64 0, .int .i64 0, .int .i64 0]) 48 Try.underlying36 info_Bin rfl (by decide) (by decide) w.heap.size _ [] (by rfl) (by exact HO.out) _ xs (by rfl) (by exact HV.out) (by simp only [List.length_nil]; omega) (by simp only [World.size_alloc]; omega) ?_)
  intro v3 w3 hO hB _ _
  have O3 := Lib.hid hO
  have B3 := Lib.hid (HB.out.trans hB)
  clear hO hB
  go_wp2
  go_ret3
  rw [HR.out]
  exact ⟨_, rfl, O3.out, B3.out⟩
set_option maxHeartbeats 4000000 in
set_option maxRecDepth 20000 in
theorem iReleasePieces_law (v : Value) (xs : List Bin) (s : ByteArray) (n : Int) (w : World) (hv : Sl eBin w v xs) (hq : ∀ x ∈ xs, okBin x) :
    Calls Try.prog 43 #[v, .string s, .int .i64 n] w fun e w' => ∃ u, e = .returned (.tuple #[u, .int .i64 (ReleasePieces_r xs s n).2]) ∧ Own eBin w' w.heap.size 54 u (ReleasePieces_r xs s n).1 ∧ Below w.heap.size w w' := by
  have HV := Lib.hid hv
  have HQ := Lib.hid hq
  by_cases hC : codeC xs s n = 0
  rotate_left
  · have HR := Lib.hid (Rel_bad (by rw [held_code hC]; exact hC))
    have HE := Lib.hid (held_code hC)
    have HB := Lib.hid (bin_bad hC)
    have hcb : (codeC xs s n == 0) = false := beq_eq_false_iff_ne.2 hC
    clear hC hv hq
    rw [HR.out, HE.out]
    generalize codeC xs s n = cc at *
    go_enter Try.func43, Try.ntmps43
    go_wp2_with fail
    refine (binOf_any v xs s n w HV.out HQ.out).mono ?_
    rw [HB.out]
    rintro e w1 ⟨u, rfl, _, hb⟩
    go_wp2
    go_ret2
    exact ⟨_, rfl, Own.nil_ _ _ _ _, hb⟩
  obtain ⟨hA, hN, j, hj, e, _, _⟩ := code_zero hC
  obtain ⟨_, hat⟩ := isStock_at hA
  obtain ⟨_, a0, a1, r0, r1⟩ := hat j hj
  obtain ⟨n0, n1⟩ := inR_iff.1 hN
  have hH := held_at hC hj e
  have HB := Lib.hid ((bin_ok hC).trans (by rw [e]))
  have hj0 : (0 : Int) ≤ (j : Int) := by omega
  have hj1 : (j : Int) < (xs.length : Int) := by omega
  by_cases hr : xs[j].reserved < n
  · rw [if_pos hr] at hH
    have HR := Lib.hid ((Rel_bad (by rw [hH]; decide)).trans (by rw [hH]))
    have hd : decide (xs[j].reserved < n) = true := decide_eq_true hr
    clear hA hN e hC hH hat hv hq
    rw [HR.out]
    go_enter Try.func43, Try.ntmps43
    go_wp2_with fail
    refine (binOf_any v xs s n w HV.out HQ.out).mono ?_
    rw [HB.out]
    rintro e w1 ⟨u, rfl, ho, hb⟩
    replace ho : Own eBin w1 w.heap.size 54 u xs := ho
    obtain ⟨g, cap, rfl, hg, _⟩ := World.ownsRow.form ho (by omega)
    have c2 : w1.cell? ⟨g, j * 5 + 2, none⟩ = some (.int .i64 xs[j].reserved) := (ho.cellsAt j hj 2 (by decide)).trans rfl
    have HB1 := Lib.hid hb
    clear ho hb
    go_wp2
    go_ret2
    exact ⟨_, rfl, Own.nil_ _ _ _ _, HB1.out⟩
  · rw [if_neg hr] at hH
    have HR := Lib.hid (Rel_ok hH hj e)
    have hd : decide (xs[j].reserved < n) = false := decide_eq_false hr
    have hw : IntKind.i64.wrap (xs[j].reserved - n) = xs[j].reserved - n := IntWalk.i64_in _ (by omega)
    clear hA hN e hC hH hat hv hq
    go_enter Try.func43, Try.ntmps43
    go_wp2_with fail
    refine (binOf_any v xs s n w HV.out HQ.out).mono ?_
    rw [HB.out]
    rintro e w1 ⟨u, rfl, ho, hb⟩
    replace ho : Own eBin w1 w.heap.size 54 u xs := ho
    obtain ⟨g, cap, rfl, hg, _⟩ := World.ownsRow.form ho (by omega)
    have c2 : w1.cell? ⟨g, j * 5 + 2, none⟩ = some (.int .i64 xs[j].reserved) := (ho.cellsAt j hj 2 (by decide)).trans rfl
    have f2 : w1.frozen? ⟨g, j * 5 + 2, none⟩ = false := World.ownsRow.frozenAt ho _
    have OS := Lib.hid (ho.store1 j hj 2 (by decide) (.int .i64 (xs[j].reserved - n)) (relB xs[j] n) rfl).1
    have HB1 : Hid (Below w.heap.size w (w1.setCell ⟨g, j * 5 + 2, none⟩ (.int .i64 (xs[j].reserved - n)))) := Lib.hid (hb.setCell (p := ⟨g, j * 5 + 2, none⟩) hg _)
    clear ho hb
    go_wp2
    go_ret2
    rw [HR.out]
    exact ⟨_, rfl, OS.out, HB1.out⟩
set_option maxHeartbeats 4000000 in
set_option maxRecDepth 20000 in
theorem iUsePieces_law (v : Value) (xs : List Bin) (s : ByteArray) (n : Int) (w : World) (hv : Sl eBin w v xs) (hq : ∀ x ∈ xs, okBin x) :
    Calls Try.prog 12 #[v, .string s, .int .i64 n] w fun e w' => ∃ u, e = .returned (.tuple #[u, .int .i64 (UsePieces_r xs s n).2]) ∧ Own eBin w' w.heap.size 54 u (UsePieces_r xs s n).1 ∧ Below w.heap.size w w' := by
  have HV := Lib.hid hv
  have HQ := Lib.hid hq
  by_cases hC : heldC xs s n = 0
  rotate_left
  · have HR := Lib.hid (Use_bad hC)
    have HB := Lib.hid (Rel_bad hC)
    have hcb : (heldC xs s n == 0) = false := beq_eq_false_iff_ne.2 hC
    clear hC hv hq
    rw [HR.out]
    generalize heldC xs s n = cc at *
    go_enter Try.func12, Try.ntmps12
    go_wp2_with fail
    refine (iReleasePieces_law v xs s n w HV.out HQ.out).mono ?_
    rw [HB.out]
    rintro e w1 ⟨u, rfl, _, hb⟩
    go_wp2
    go_ret2
    exact ⟨_, rfl, Own.nil_ _ _ _ _, hb⟩
  obtain ⟨hA, hN, j, hj, e, _, _⟩ := code_zero (held_code0 hC)
  obtain ⟨hlx, hat⟩ := isStock_at hA
  obtain ⟨_, a0, a1, r0, r1⟩ := hat j hj
  obtain ⟨n0, n1⟩ := inR_iff.1 hN
  have HB := Lib.hid (Rel_ok hC hj e)
  have HR := Lib.hid (Use_ok hC hj e)
  have HF := Lib.hid ((firstAt_set (s := s) hj (relB xs[j] n) rfl).trans e)
  have hj0 : (0 : Int) ≤ (j : Int) := by omega
  have hj1 : (j : Int) < (xs.length : Int) := by omega
  have hj2 : j < (xs.set j (relB xs[j] n)).length := by rw [List.length_set]; exact hj
  have hw : IntKind.i64.wrap (xs[j].amount - n) = xs[j].amount - n := IntWalk.i64_in _ (by omega)
  have HSS : Hid ((xs.set j (relB xs[j] n)).set j (usedB xs[j] n) = xs.set j (usedB xs[j] n)) := Lib.hid (by rw [List.set_set])
  have HLL : Hid ((xs.set j (relB xs[j] n)).length = xs.length) := Lib.hid (List.length_set)
  have HGE : Hid ((xs.set j (relB xs[j] n))[j] = relB xs[j] n) := Lib.hid (by simp)
  clear hA hN e hC hat hv hq
  go_enter Try.func12, Try.ntmps12
  go_wp2_with fail
  refine (iReleasePieces_law v xs s n w HV.out HQ.out).mono ?_
  rw [HB.out]
  rintro e w1 ⟨u, rfl, ho, hb⟩
  have O1 := Lib.hid ho
  have S1 := Lib.hid (Sl.of_own ho (by rw [HLL.out]; unfold big40; omega))
  have B1 := Lib.hid hb
  have hz1 := hb.size
  clear ho hb
  go_wp2_with fail
  refine (findBin_any u _ s w1 S1.out).mono ?_
  rw [HF.out]
  rintro e w2 ⟨rfl, hb2⟩
  have ho := O1.out.below (w' := w2) ⟨hb2.os, hb2.tape, hb2.output, hb2.size, hb2.block⟩
  obtain ⟨g, cap, rfl, hg, _⟩ := World.ownsRow.form ho (by rw [HLL.out]; omega)
  have c1 : w2.cell? ⟨g, j * 5 + 1, none⟩ = some (.int .i64 xs[j].amount) := (ho.cellsAt j hj2 1 (by decide)).trans (by rw [HGE.out]; rfl)
  have f1 : w2.frozen? ⟨g, j * 5 + 1, none⟩ = false := World.ownsRow.frozenAt ho _
  have OS := Lib.hid (ho.store1 j hj2 1 (by decide) (.int .i64 (xs[j].amount - n)) (usedB xs[j] n) (by rw [HGE.out]; rfl)).1
  have HB1 : Hid (Below w.heap.size w (w2.setCell ⟨g, j * 5 + 1, none⟩ (.int .i64 (xs[j].amount - n)))) := Lib.hid ((Below.step B1.out hb2).setCell (p := ⟨g, j * 5 + 1, none⟩) hg _)
  rw [HLL.out] at OS ⊢
  clear ho hb2
  go_wp2
  go_ret2
  rw [HR.out, ← HSS.out]
  exact ⟨_, rfl, OS.out, HB1.out⟩
end Go.Proofs.Ytblaojjpclipaaa
