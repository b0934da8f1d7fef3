/- Contracts of CountVerdicts (chapter 28). No statement of the seat is proved here. -/
import Derived.Test.YtnpfgngfolgdfaaVerdCode
namespace Go.Proofs.Ytnpfgngfolgdfaa
open Go.RowKit

def tally (vs : List Int) : Nat → List Int
  | 0 => List.replicate 5 0
  | k + 1 => (tally vs k).set (vs.getD k 0).toNat ((tally vs k).getD (vs.getD k 0).toNat 0 + 1)
theorem tally_len (vs : List Int) : ∀ k, (tally vs k).length = 5
  | 0 => by simp [tally]
  | k + 1 => by rw [tally, List.length_set]; exact tally_len vs k
theorem tally_bd (vs : List Int) : ∀ k i, 0 ≤ (tally vs k).getD i 0 ∧ (tally vs k).getD i 0 ≤ k
  | 0, i => by
    rw [tally, List.getD_eq_getElem?_getD, List.getElem?_replicate]
    split <;> simp
  | k + 1, i => by
    have ih := tally_bd vs k i
    have ih2 := tally_bd vs k (vs.getD k 0).toNat
    rw [tally]
    rcases Nat.lt_or_ge i 5 with h | h
    · rw [getD_at _ _ _ (by rw [List.length_set, tally_len]; exact h), List.getElem_set]
      rw [getD_at _ _ _ (by rw [tally_len]; exact h)] at ih
      split <;> omega
    · have : ((tally vs k).set (vs.getD k 0).toNat ((tally vs k).getD (vs.getD k 0).toNat 0 + 1)).getD i 0 = 0 := by
        rw [List.getD_eq_getElem?_getD, List.getElem?_eq_none (by rw [List.length_set, tally_len]; exact h)]; rfl
      omega
def CountVerdicts_r (T : List Term) (C : List Claim) : List Int × Int := if bothB T C then (tally (verdL T C C.length) C.length, 0) else ([], 1)
theorem CountVerdicts_bad {T : List Term} {C : List Claim} (h : bothB T C = false) : CountVerdicts_r T C = ([], 1) := by unfold CountVerdicts_r; rw [h]; rfl
theorem CountVerdicts_ok {T : List Term} {C : List Claim} (h : bothB T C = true) : CountVerdicts_r T C = (tally (verdL T C C.length) C.length, 0) := by unfold CountVerdicts_r; rw [h]; rfl
theorem CountVerdicts_len (T : List Term) (C : List Claim) : (CountVerdicts_r T C).1.length ≤ 1048576 := by
  unfold CountVerdicts_r
  split
  · simp only [tally_len]; omega
  · simp
set_option maxHeartbeats 4000000 in
set_option maxRecDepth 20000 in
theorem iCountVerdicts_law (v : Value) (T : List Term) (u : Value) (C : List Claim) (w : World) (hv : Sl eTerm w v T) (_ : T.length ≤ 1048576) (hqT : ∀ x ∈ T, okTerm x) (hu : Sl eClaim w u C) (_ : C.length ≤ 1048576) (hqC : ∀ x ∈ C, okClaim x) :
    Calls Try.prog 46 #[v, u] w fun e w' => ∃ x, e = .returned (.tuple #[x, .int .i64 (CountVerdicts_r T C).2]) ∧ Own eI w' w.heap.size 2 x (CountVerdicts_r T C).1 ∧ Below w.heap.size w w' := by
  rcases hA : areTerms T
  · have HR := Lib.hid (CountVerdicts_bad (bothB_1 (C := C) hA))
    have HA := Lib.hid hA
    clear hA
    rw [HR.out]
    go_enter Try.func46, Try.ntmps46
    go_wp2_with fail
    refine (iAreTerms_any v T w hv hqT).mono ?_
    rintro e w1 ⟨rfl, hb⟩
    rw [HA.out]
    go_wp2
    go_ret2
    exact ⟨_, rfl, Own.nil_ _ _ _ _, hb⟩
  rcases hC : areClaims C
  · have HR := Lib.hid (CountVerdicts_bad (bothB_2 (T := T) hC))
    have HA := Lib.hid hA
    have HC := Lib.hid hC
    clear hA hC
    rw [HR.out]
    go_enter Try.func46, Try.ntmps46
    go_wp2_with fail
    refine (iAreTerms_any v T w hv hqT).mono ?_
    rintro e w1 ⟨rfl, hb⟩
    rw [HA.out]
    have hu1 := hu.below hb
    go_wp2_with fail
    refine (iAreClaims_any u C w1 hu1 hqC).mono ?_
    rintro e w2 ⟨rfl, hb2⟩
    rw [HC.out]
    go_wp2
    go_ret2
    exact ⟨_, rfl, Own.nil_ _ _ _ _, Below.step hb hb2⟩
  · have HR := Lib.hid (CountVerdicts_ok (bothB_ok hA hC))
    have HA := Lib.hid hA
    have HC := Lib.hid hC
    clear hA hC
    rw [HR.out]
    go_enter Try.func46, Try.ntmps46
    go_wp2_with fail
    refine (iAreTerms_any v T w hv hqT).mono ?_
    rintro e w1 ⟨rfl, hb⟩
    rw [HA.out]
    have hu1 := hu.below hb
    go_wp2_with fail
    refine (iAreClaims_any u C w1 hu1 hqC).mono ?_
    rintro e w2 ⟨rfl, hb2⟩
    rw [HC.out]
    obtain ⟨i0, hi, hz0, hz1, hz2⟩ := info_parts info_i64
    have h20 := (areClaims_at HC.out).1
    go_wp2_with (at_make; refine wpList_make_full _ rfl _ _ 56 rfl w2.heap.size 2 i0 (.int .i64 0) 1 Try.underlying56 hi hz0 hz1 .i64 .i64 _ _ 5 rfl rfl rfl rfl ?c1 ?c2 (Nat.le_refl _) ?_)
    case c1 => rw [hz2]; omega
    case c2 => unfold maxLen; omega
    intro wm hown hgrow
    have hbm : Below w2.heap.size w2 wm := (Below.refl _ _).grown hgrow (Nat.le_refl _) (by simp)
    have hsm : w2.heap.size + 1 ≤ wm.heap.size := (hown.lt _ rfl).2
    have hown0 : Own eI wm w2.heap.size 2 (.slice (some ⟨w2.heap.size, 0, none⟩) 5 5) (tally (verdL T C C.length) 0) := by
      have h := own_made _ _ _ _ _ _ hown
      unfold Own
      rw [tally_len, tally, eI_all, List.map_replicate]
      exact h
    clear hown hgrow
    go_wp2_with fail
    refine (verdictsOf_any v T u C wm (((hv.below hb).below hb2).below hbm) ((hu1.below hb2).below hbm) HA.out HC.out).mono ?_
    rintro e w3 ⟨x, y, rfl, hx, hy, hb3⟩
    have hown1 := hown0.below hb3
    have hbW : Below w.heap.size w w3 := Below.step (Below.step (Below.step hb hb2) hbm) hb3
    have hsW : w.heap.size ≤ w2.heap.size := ((Below.step hb hb2)).size
    have hs3 : w2.heap.size + 1 ≤ w3.heap.size := Nat.le_trans hsm hb3.size
    have hx1 := hx.mono hsm
    have HVL : Hid ((verdL T C C.length).length = C.length) := Lib.hid (verdL_len _ _ _)
    have HVA : Hid (∀ k, k < C.length → 0 ≤ (verdL T C C.length).getD k 0 ∧ (verdL T C C.length).getD k 0 ≤ 4) := Lib.hid (fun k hk => by
      rw [verdL_at (T := T) (C := C) hk]; exact vAt_bd T C k)
    have hxs := Ints.shapeL (Sl.of_own hx1 (by rw [verdL_len]; unfold big40; omega)) (verdL_len T C C.length)
    clear hown0 hx hb3 hbm hsm
    generalize hve : verdL T C C.length = vs at *
    have HVE := Lib.hid hve
    clear hve
    obtain ⟨A5, cap5, rfl, _, _, _⟩ := hxs
    go_wp2
    go_loopg [28] C.length (fun gi i wr => ∃ k : Nat, k ≤ C.length ∧ gi = C.length - k ∧ i = .int .i64 k ∧ Own eI wr (w2.heap.size + 1) 2 (.slice A5 C.length cap5) vs ∧ Own eI wr w2.heap.size 2 (.slice (some ⟨w2.heap.size, 0, none⟩) 5 5) (tally vs k) ∧ Below w.heap.size w wr ∧ w2.heap.size + 1 ≤ wr.heap.size)
    case atStart => exact ⟨0, Nat.zero_le _, rfl, rfl, hx1, hown1, hbW, hs3⟩
    case round =>
      obtain ⟨k, hk, rfl, rfl, hx, hown, hb, hs⟩ := hrel
      clear hx1 hown1 hbW hs3
      by_cases hlt : k < C.length
      · obtain ⟨A6, cap6, e6, _, _, hc6⟩ := Ints.shapeL (Sl.of_own hx (by rw [HVL.out]; unfold big40; omega)) HVL.out
        obtain ⟨b6, off6, e7, hbl6, hcell6⟩ := hc6 (by omega)
        obtain ⟨rfl, _, rfl⟩ : A5 = A6 ∧ True ∧ cap5 = cap6 := by cases e6; exact ⟨rfl, trivial, rfl⟩
        subst e7
        have hck := hcell6 k hlt
        obtain ⟨v0, v4⟩ := HVA.out k hlt
        obtain ⟨q, hq⟩ := Int.eq_ofNat_of_zero_le v0
        rw [hq] at hck v4
        have hge2 : (vs.getD k 0).toNat = q := by rw [hq]; rfl
        have HT1 : Hid (tally vs (k + 1) = (tally vs k).set q ((tally vs k).getD q 0 + 1)) := Lib.hid (by rw [tally, hge2])
        obtain ⟨t0, t1⟩ := tally_bd vs k q
        have hg0 := hown.ints
        rw [tally_len] at hg0
        have gx : wr.cell? ⟨w2.heap.size, q, none⟩ = some (.int .i64 ((tally vs k).getD q 0)) := by
          rw [hg0.cellAt q (by omega), List.getElem?_map, List.getElem?_eq_getElem (by rw [tally_len]; omega)]
          simp [List.getElem?_eq_getElem (show q < (tally vs k).length by rw [tally_len]; omega)]
        have gf : wr.frozen? ⟨w2.heap.size, q, none⟩ = false := hg0.frozenAt q
        have HST := Lib.hid (hg0.stored q (.int .i64 ((tally vs k).getD q 0 + 1)))
        have HX := Lib.hid hx
        have HB := Lib.hid hb
        have hq4 : (q : Int) < 5 := by omega
        clear hg0 hx hb hown hc6 hcell6 hq hge2 e6 v0
        generalize (tally vs k).getD q 0 = t at *
        have hw2 : IntKind.i64.wrap (t + 1) = t + 1 := IntWalk.i64_in _ (by omega)
        go_wp2
        go_roundg (C.length - (k + 1))
        case measure => omega
        case rel => exact ⟨k + 1, by omega, rfl, by go_num, Own.kept HX.out HST.out.2 (own_apart2 HX.out (Nat.lt_succ_self _)), (by unfold Own; rw [tally_len, eI_all, HT1.out, List.map_set]; exact HST.out.1), HB.out.setCell (by simp; omega) _, by simpa using hs⟩
      · obtain rfl : k = C.length := by omega
        go_wp2
        go_ret2
        exact ⟨_, rfl, (by rw [HVE.out]; exact hown.mono hsW), hb⟩
set_option maxHeartbeats 4000000 in
set_option maxRecDepth 20000 in
theorem sCountVerdicts_law (v : Value) (T : List Term) (u : Value) (C : List Claim) (w : World) (hv : Sl eTerm w v T) (_ : T.length ≤ 1048576) (hqT : ∀ x ∈ T, okTerm x) (hu : Sl eClaim w u C) (_ : C.length ≤ 1048576) (hqC : ∀ x ∈ C, okClaim x) :
    Calls Try.prog 45 #[v, u] w fun e w' => ∃ x, e = .returned (.tuple #[x, .int .i64 (CountVerdicts_r T C).2]) ∧ Own eI w' w.heap.size 2 x (CountVerdicts_r T C).1 ∧ Below w.heap.size w w' := by
  rcases hA : bothB T C
  · have HR := Lib.hid (CountVerdicts_bad hA)
    have HC := Lib.hid (bothCode_1 hA)
    clear hA
    rw [HR.out]
    go_enter Try.func45, Try.ntmps45
    go_wp2_with fail
    refine (l28Code_any v T u C w hv hqT hu hqC).mono ?_
    rintro e w1 ⟨rfl, hb⟩
    rw [HC.out]
    go_wp2
    go_ret2
    exact ⟨_, rfl, Own.nil_ _ _ _ _, hb⟩
  · obtain ⟨hA1, hT1⟩ := bothB_of hA
    have HR := Lib.hid (CountVerdicts_ok hA)
    have HC := Lib.hid (bothCode_0 hA)
    have HA := Lib.hid hA1
    have HT := Lib.hid hT1
    clear hA hA1 hT1
    rw [HR.out]
    go_enter Try.func45, Try.ntmps45
    go_wp2_with fail
    refine (l28Code_any v T u C w hv hqT hu hqC).mono ?_
    rintro e w1 ⟨rfl, hb⟩
    rw [HC.out]
    obtain ⟨i0, hi, hz0, hz1, hz2⟩ := info_parts info_i64
    have h20 := (areClaims_at HT.out).1
    go_wp2_with (at_make; refine wpList_make_full _ rfl _ _ 56 rfl w1.heap.size 2 i0 (.int .i64 0) 1 Try.underlying56 hi hz0 hz1 .i64 .i64 _ _ 5 rfl rfl rfl rfl ?c1 ?c2 (Nat.le_refl _) ?_)
    case c1 => rw [hz2]; omega
    case c2 => unfold maxLen; omega
    intro wm hown hgrow
    have hbm : Below w1.heap.size w1 wm := (Below.refl _ _).grown hgrow (Nat.le_refl _) (by simp)
    have hsm : w1.heap.size + 1 ≤ wm.heap.size := (hown.lt _ rfl).2
    have hown0 : Own eI wm w1.heap.size 2 (.slice (some ⟨w1.heap.size, 0, none⟩) 5 5) (tally (verdL T C C.length) 0) := by
      have h := own_made _ _ _ _ _ _ hown
      unfold Own
      rw [tally_len, tally, eI_all, List.map_replicate]
      exact h
    clear hown hgrow
    go_wp2_with fail
    refine (l28Verdicts_any v T u C wm ((hv.below hb).below hbm) ((hu.below hb).below hbm) HA.out HT.out).mono ?_
    rintro e w3 ⟨x, rfl, hx, hb3⟩
    have hown1 := hown0.below hb3
    have hbW : Below w.heap.size w w3 := Below.step (Below.step hb hbm) hb3
    have hsW : w.heap.size ≤ w1.heap.size := (hb).size
    have hs3 : w1.heap.size + 1 ≤ w3.heap.size := Nat.le_trans hsm hb3.size
    have hx1 := hx.mono hsm
    have HVL : Hid ((verdL T C C.length).length = C.length) := Lib.hid (verdL_len _ _ _)
    have HVA : Hid (∀ k, k < C.length → 0 ≤ (verdL T C C.length).getD k 0 ∧ (verdL T C C.length).getD k 0 ≤ 4) := Lib.hid (fun k hk => by
      rw [verdL_at (T := T) (C := C) hk]; exact vAt_bd T C k)
    have hxs := Ints.shapeL (Sl.of_own hx1 (by rw [verdL_len]; unfold big40; omega)) (verdL_len T C C.length)
    clear hown0 hx hb3 hbm hsm
    generalize hve : verdL T C C.length = vs at *
    have HVE := Lib.hid hve
    clear hve
    obtain ⟨A5, cap5, rfl, _, _, _⟩ := hxs
    go_wp2
    go_loopg [9] C.length (fun gi i wr => ∃ k : Nat, k ≤ C.length ∧ gi = C.length - k ∧ i = .int .i64 k ∧ Own eI wr (w1.heap.size + 1) 2 (.slice A5 C.length cap5) vs ∧ Own eI wr w1.heap.size 2 (.slice (some ⟨w1.heap.size, 0, none⟩) 5 5) (tally vs k) ∧ Below w.heap.size w wr ∧ w1.heap.size + 1 ≤ wr.heap.size)
    case atStart => exact ⟨0, Nat.zero_le _, rfl, rfl, hx1, hown1, hbW, hs3⟩
    case round =>
      obtain ⟨k, hk, rfl, rfl, hx, hown, hb, hs⟩ := hrel
      clear hx1 hown1 hbW hs3
      by_cases hlt : k < C.length
      · obtain ⟨A6, cap6, e6, _, _, hc6⟩ := Ints.shapeL (Sl.of_own hx (by rw [HVL.out]; unfold big40; omega)) HVL.out
        obtain ⟨b6, off6, e7, hbl6, hcell6⟩ := hc6 (by omega)
        obtain ⟨rfl, _, rfl⟩ : A5 = A6 ∧ True ∧ cap5 = cap6 := by cases e6; exact ⟨rfl, trivial, rfl⟩
        subst e7
        have hck := hcell6 k hlt
        obtain ⟨v0, v4⟩ := HVA.out k hlt
        obtain ⟨q, hq⟩ := Int.eq_ofNat_of_zero_le v0
        rw [hq] at hck v4
        have hge2 : (vs.getD k 0).toNat = q := by rw [hq]; rfl
        have HT1 : Hid (tally vs (k + 1) = (tally vs k).set q ((tally vs k).getD q 0 + 1)) := Lib.hid (by rw [tally, hge2])
        obtain ⟨t0, t1⟩ := tally_bd vs k q
        have hg0 := hown.ints
        rw [tally_len] at hg0
        have gx : wr.cell? ⟨w1.heap.size, q, none⟩ = some (.int .i64 ((tally vs k).getD q 0)) := by
          rw [hg0.cellAt q (by omega), List.getElem?_map, List.getElem?_eq_getElem (by rw [tally_len]; omega)]
          simp [List.getElem?_eq_getElem (show q < (tally vs k).length by rw [tally_len]; omega)]
        have gf : wr.frozen? ⟨w1.heap.size, q, none⟩ = false := hg0.frozenAt q
        have HST := Lib.hid (hg0.stored q (.int .i64 ((tally vs k).getD q 0 + 1)))
        have HX := Lib.hid hx
        have HB := Lib.hid hb
        have hq4 : (q : Int) < 5 := by omega
        clear hg0 hx hb hown hc6 hcell6 hq hge2 e6 v0
        generalize (tally vs k).getD q 0 = t at *
        have hw2 : IntKind.i64.wrap (t + 1) = t + 1 := IntWalk.i64_in _ (by omega)
        go_wp2
        go_roundg (C.length - (k + 1))
        case measure => omega
        case rel => exact ⟨k + 1, by omega, rfl, by go_num, Own.kept HX.out HST.out.2 (own_apart2 HX.out (Nat.lt_succ_self _)), (by unfold Own; rw [tally_len, eI_all, HT1.out, List.map_set]; exact HST.out.1), HB.out.setCell (by simp; omega) _, by simpa using hs⟩
      · obtain rfl : k = C.length := by omega
        go_wp2
        go_ret2
        exact ⟨_, rfl, (by rw [HVE.out]; exact hown.mono hsW), hb⟩
end Go.Proofs.Ytnpfgngfolgdfaa
