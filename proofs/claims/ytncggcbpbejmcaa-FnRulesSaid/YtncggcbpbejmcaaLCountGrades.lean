/- Contracts of CountGrades (chapter 25). No statement of the seat is proved here. -/
import Derived.Deep.DrawnRows
import Derived.Test.YtncggcbpbejmcaaUsedL
import Derived.Test.YtncggcbpbejmcaaTally
namespace Go.Proofs.Ytncggcbpbejmcaa
open Go.RowKit

def gradesL (R : List Rule) (L : List Used) : List Int := L.map (gradeF R)
theorem gradesL_at {R : List Rule} {L : List Used} {k : Nat} (hk : k < L.length) : (gradesL R L).getD k 0 = gradeF R L[k] := by simp [gradesL, hk]
def CountGrades_r (R : List Rule) (L : List Used) : List Int × Int := if gBoth R L then (tally (gradesL R L) L.length, 0) else ([], 1)
theorem CountGrades_bad {R : List Rule} {L : List Used} (h : gBoth R L = false) : CountGrades_r R L = ([], 1) := by unfold CountGrades_r; rw [h]; rfl
theorem CountGrades_ok {R : List Rule} {L : List Used} (h : gBoth R L = true) : CountGrades_r R L = (tally (gradesL R L) L.length, 0) := by unfold CountGrades_r; rw [h]; rfl
theorem CountGrades_len (R : List Rule) (L : List Used) : (CountGrades_r R L).1.length ≤ 1048576 := by
  unfold CountGrades_r
  split
  · simp only [tally_len]; omega
  · simp
set_option maxHeartbeats 4000000 in
set_option maxRecDepth 20000 in
theorem iCountGrades_law (v : Value) (R : List Rule) (u : Value) (L : List Used) (w : World) (hv : Sl eRule w v R) (_ : R.length ≤ 1048576) (hu : Sl eUsed w u L) (_ : L.length ≤ 1048576) (hq : ∀ x ∈ L, okUsed x) :
    Calls Try.prog 46 #[v, u] w fun e w' => ∃ x, e = .returned (.tuple #[x, .int .i64 (CountGrades_r R L).2]) ∧ Own eI w' w.heap.size 2 x (CountGrades_r R L).1 ∧ Below w.heap.size w w' := by
  rcases hA : areRules R
  · have HR := Lib.hid (CountGrades_bad (gBoth_1 (L := L) hA))
    have HA := Lib.hid hA
    clear hA
    rw [HR.out]
    go_enter Try.func46, Try.ntmps46
    go_wp2_with fail
    refine (iAreRules_any v R w hv).mono ?_
    rintro e w1 ⟨rfl, hb⟩
    rw [HA.out]
    go_wp2
    go_ret2
    exact ⟨_, rfl, Own.nil_ _ _ _ _, hb⟩
  rcases hU : areUsed L
  · have HR := Lib.hid (CountGrades_bad (gBoth_2 (R := R) hU))
    have HA := Lib.hid hA
    have HU := Lib.hid hU
    clear hA hU
    rw [HR.out]
    go_enter Try.func46, Try.ntmps46
    go_wp2_with fail
    refine (iAreRules_any v R w hv).mono ?_
    rintro e w1 ⟨rfl, hb⟩
    rw [HA.out]
    have hu1 := hu.below hb
    go_wp2_with fail
    refine (areUsed_any u L w1 hu1 hq).mono ?_
    rintro e w2 ⟨rfl, hb2⟩
    rw [HU.out]
    go_wp2
    go_ret2
    exact ⟨_, rfl, Own.nil_ _ _ _ _, Below.step hb hb2⟩
  · have HOK := Lib.hid (gBoth_ok hA hU)
    have h60 := (areUsed_at hU).1
    have HA := Lib.hid hA
    have HU := Lib.hid hU
    clear hA hU
    go_enter Try.func46, Try.ntmps46
    go_wp2_with fail
    refine (iAreRules_any v R w hv).mono ?_
    rintro e w1 ⟨rfl, hb⟩
    rw [HA.out]
    have hu1 := hu.below hb
    go_wp2_with fail
    refine (areUsed_any u L w1 hu1 hq).mono ?_
    rintro e w2 ⟨rfl, hb2⟩
    rw [HU.out]
    have HV2 := Lib.hid ((hv.below hb).below hb2)
    have HBW := Lib.hid (Below.step hb hb2)
    have hsW := HBW.out.size
    obtain ⟨A, cap, rfl, _, hm, hc⟩ := (hu1.below hb2).shape
    clear hv hu hu1 hb hb2
    obtain ⟨i0, hi, hz0, hz1, hz2⟩ := info_parts info_i64
    go_wp2_with (at_make; refine wpList_make_full _ rfl _ _ 44 rfl w2.heap.size 2 i0 (.int .i64 0) 1 Try.underlying44 hi hz0 hz1 .i64 .i64 _ _ 5 rfl rfl rfl rfl ?c1 ?c2 (Nat.le_refl _) ?_)
    case c1 => rw [hz2]; omega
    case c2 => unfold maxLen; omega
    intro wm hown hgrow
    have hbm : Below w2.heap.size w2 wm := (Below.refl _ _).grown hgrow (Nat.le_refl _) (by simp)
    have hsm : w2.heap.size ≤ wm.heap.size := hbm.size
    have hown0 : Own eI wm w2.heap.size 2 (.slice (some ⟨w2.heap.size, 0, none⟩) 5 5) (tally (gradesL R L) 0) := by
      have h := own_made _ _ _ _ _ _ hown
      unfold Own
      rw [tally_len, tally, eI_all, List.map_replicate]
      exact h
    clear hown hgrow
    go_wp2
    go_loopg [22] L.length (fun gi i wr => ∃ k : Nat, k ≤ L.length ∧ gi = L.length - k ∧ i = .int .i64 k ∧ Own eI wr w2.heap.size 2 (.slice (some ⟨w2.heap.size, 0, none⟩) 5 5) (tally (gradesL R L) k) ∧ Below w2.heap.size w2 wr ∧ w2.heap.size ≤ wr.heap.size)
    case atStart => exact ⟨0, Nat.zero_le _, rfl, rfl, hown0, hbm, hsm⟩
    case round =>
      obtain ⟨k, hk, rfl, rfl, hown, hb, hs⟩ := hrel
      clear hown0 hbm hsm
      by_cases hlt : k < L.length
      · obtain ⟨b, off, rfl, hbl, hcell⟩ := hc (by omega)
        have c0 : wr.cell? ⟨b, off + k * 5, none⟩ = some (.string L[k].name) := (hb.cell (p := ⟨b, off + k * 5, none⟩) hbl).trans (by simpa [eUsed, Nat.add_assoc] using hcell k hlt 0 _ (by decide) rfl)
        have c1 : wr.cell? ⟨b, off + k * 5 + 1, none⟩ = some (.int .i64 L[k].hours) := (hb.cell (p := ⟨b, off + k * 5 + 1, none⟩) hbl).trans (by simpa [eUsed, Nat.add_assoc] using hcell k hlt 1 _ (by decide) rfl)
        have c2 : wr.cell? ⟨b, off + k * 5 + 2, none⟩ = some (.int .i64 L[k].play) := (hb.cell (p := ⟨b, off + k * 5 + 2, none⟩) hbl).trans (by simpa [eUsed, Nat.add_assoc] using hcell k hlt 2 _ (by decide) rfl)
        have c3 : wr.cell? ⟨b, off + k * 5 + 3, none⟩ = some (.int .i64 L[k].rust) := (hb.cell (p := ⟨b, off + k * 5 + 3, none⟩) hbl).trans (by simpa [eUsed, Nat.add_assoc] using hcell k hlt 3 _ (by decide) rfl)
        have c4 : wr.cell? ⟨b, off + k * 5 + 4, none⟩ = some (.int .i64 L[k].dents) := (hb.cell (p := ⟨b, off + k * 5 + 4, none⟩) hbl).trans (by simpa [eUsed, Nat.add_assoc] using hcell k hlt 4 _ (by decide) rfl)
        have hbx := hb.alloc hs (.cells #[.string L[k].name, .int .i64 L[k].hours, .int .i64 L[k].play, .int .i64 L[k].rust, .int .i64 L[k].dents] 33)
        have hsx : w2.heap.size ≤ (wr.alloc (.cells #[.string L[k].name, .int .i64 L[k].hours, .int .i64 L[k].play, .int .i64 L[k].rust, .int .i64 L[k].dents] 33)).heap.size := by simp; omega
        have hownx := hown.alloc (.cells #[.string L[k].name, .int .i64 L[k].hours, .int .i64 L[k].play, .int .i64 L[k].rust, .int .i64 L[k].dents] 33)
        obtain ⟨v0, v4⟩ := gradeF_bd HA.out L[k]
        have hgl := gradesL_at (R := R) hlt
        go_wp2_with fail
        refine (gradeOf_any v R L[k] _ (HV2.out.below (hbx))).mono ?_
        rintro e w3 ⟨rfl, hb3⟩
        have hownF := hownx.below hb3
        have hbF := below_step2 hbx hb3 hsx
        have hsF := Nat.le_trans hsx hb3.size
        obtain ⟨q, hq⟩ := Int.eq_ofNat_of_zero_le v0
        unfold Grade_e
        rw [hq] at v4 hgl ⊢
        have HT1 : Hid (tally (gradesL R L) (k + 1) = (tally (gradesL R L) k).set q ((tally (gradesL R L) k).getD q 0 + 1)) := Lib.hid (by rw [tally, hgl]; rfl)
        obtain ⟨t0, t1⟩ := tally_bd (gradesL R L) k q
        have hg0 := hownF.ints
        rw [tally_len] at hg0
        have gx : w3.cell? ⟨w2.heap.size, q, none⟩ = some (.int .i64 ((tally (gradesL R L) k).getD q 0)) := by
          rw [hg0.cellAt q (by omega), List.getElem?_map, List.getElem?_eq_getElem (by rw [tally_len]; omega)]
          simp [List.getElem?_eq_getElem (show q < (tally (gradesL R L) k).length by rw [tally_len]; omega)]
        have gf : w3.frozen? ⟨w2.heap.size, q, none⟩ = false := hg0.frozenAt q
        have HST := Lib.hid (hg0.stored q (.int .i64 ((tally (gradesL R L) k).getD q 0 + 1)))
        have HB := Lib.hid hbF
        have hq4 : (q : Int) < 5 := by omega
        clear hg0 hb hbx hbF hb3 hown hownx hownF hc hcell hq hgl v0
        generalize (tally (gradesL R L) k).getD q 0 = t at *
        have hw2 : IntKind.i64.wrap (t + 1) = t + 1 := IntWalk.i64_in _ (by omega)
        go_wp2
        go_roundg (L.length - (k + 1))
        case measure => omega
        case rel => exact ⟨k + 1, by omega, rfl, by go_num, (by unfold Own; rw [tally_len, eI_all, HT1.out, List.map_set]; exact HST.out.1), HB.out.setCell (by simp) _, by simpa using hsF⟩
      · obtain rfl : k = L.length := by omega
        have HR := Lib.hid (CountGrades_ok HOK.out)
        go_wp2
        go_ret2
        rw [HR.out]
        exact ⟨_, rfl, hown.mono hsW, below_step2 HBW.out hb hsW⟩
set_option maxHeartbeats 4000000 in
set_option maxRecDepth 20000 in
theorem sCountGrades_law (v : Value) (R : List Rule) (u : Value) (L : List Used) (w : World) (hv : Sl eRule w v R) (_ : R.length ≤ 1048576) (hu : Sl eUsed w u L) (_ : L.length ≤ 1048576) (hq : ∀ x ∈ L, okUsed x) :
    Calls Try.prog 45 #[v, u] w fun e w' => ∃ x, e = .returned (.tuple #[x, .int .i64 (CountGrades_r R L).2]) ∧ Own eI w' w.heap.size 2 x (CountGrades_r R L).1 ∧ Below w.heap.size w w' := by
  rcases hA : gBoth R L
  · have HR := Lib.hid (CountGrades_bad hA)
    have HC := Lib.hid (gCode_1 hA)
    clear hA
    rw [HR.out]
    go_enter Try.func45, Try.ntmps45
    go_wp2_with fail
    refine (l25Code_any v R u L w hv hu hq).mono ?_
    rintro e w1 ⟨rfl, hb⟩
    rw [HC.out]
    go_wp2
    go_ret2
    exact ⟨_, rfl, Own.nil_ _ _ _ _, hb⟩
  · obtain ⟨hA1, hU1⟩ := gBoth_of hA
    have HOK := Lib.hid hA
    have h60 := (areUsed_at hU1).1
    have HC := Lib.hid (gCode_0 hA)
    have HA := Lib.hid hA1
    clear hA hA1 hU1
    go_enter Try.func45, Try.ntmps45
    go_wp2_with fail
    refine (l25Code_any v R u L w hv hu hq).mono ?_
    rintro e w1 ⟨rfl, hb⟩
    rw [HC.out]
    have HV2 := Lib.hid (hv.below hb)
    have HBW := Lib.hid hb
    have hsW := HBW.out.size
    obtain ⟨A, cap, rfl, _, hm, hc⟩ := (hu.below hb).shape
    clear hv hu hb
    obtain ⟨i0, hi, hz0, hz1, hz2⟩ := info_parts info_i64
    go_wp2_with (at_make; refine wpList_make_full _ rfl _ _ 44 rfl w1.heap.size 2 i0 (.int .i64 0) 1 Try.underlying44 hi hz0 hz1 .i64 .i64 _ _ 5 rfl rfl rfl rfl ?c1 ?c2 (Nat.le_refl _) ?_)
    case c1 => rw [hz2]; omega
    case c2 => unfold maxLen; omega
    intro wm hown hgrow
    have hbm : Below w1.heap.size w1 wm := (Below.refl _ _).grown hgrow (Nat.le_refl _) (by simp)
    have hsm : w1.heap.size ≤ wm.heap.size := hbm.size
    have hown0 : Own eI wm w1.heap.size 2 (.slice (some ⟨w1.heap.size, 0, none⟩) 5 5) (tally (gradesL R L) 0) := by
      have h := own_made _ _ _ _ _ _ hown
      unfold Own
      rw [tally_len, tally, eI_all, List.map_replicate]
      exact h
    clear hown hgrow
    go_wp2
    go_loopg [8] L.length (fun gi i wr => ∃ k : Nat, k ≤ L.length ∧ gi = L.length - k ∧ i = .int .i64 k ∧ Own eI wr w1.heap.size 2 (.slice (some ⟨w1.heap.size, 0, none⟩) 5 5) (tally (gradesL R L) k) ∧ Below w1.heap.size w1 wr ∧ w1.heap.size ≤ wr.heap.size)
    case atStart => exact ⟨0, Nat.zero_le _, rfl, rfl, hown0, hbm, hsm⟩
    case round =>
      obtain ⟨k, hk, rfl, rfl, hown, hb, hs⟩ := hrel
      clear hown0 hbm hsm
      by_cases hlt : k < L.length
      · obtain ⟨b, off, rfl, hbl, hcell⟩ := hc (by omega)
        have c0 : wr.cell? ⟨b, off + k * 5, none⟩ = some (.string L[k].name) := (hb.cell (p := ⟨b, off + k * 5, none⟩) hbl).trans (by simpa [eUsed, Nat.add_assoc] using hcell k hlt 0 _ (by decide) rfl)
        have c1 : wr.cell? ⟨b, off + k * 5 + 1, none⟩ = some (.int .i64 L[k].hours) := (hb.cell (p := ⟨b, off + k * 5 + 1, none⟩) hbl).trans (by simpa [eUsed, Nat.add_assoc] using hcell k hlt 1 _ (by decide) rfl)
        have c2 : wr.cell? ⟨b, off + k * 5 + 2, none⟩ = some (.int .i64 L[k].play) := (hb.cell (p := ⟨b, off + k * 5 + 2, none⟩) hbl).trans (by simpa [eUsed, Nat.add_assoc] using hcell k hlt 2 _ (by decide) rfl)
        have c3 : wr.cell? ⟨b, off + k * 5 + 3, none⟩ = some (.int .i64 L[k].rust) := (hb.cell (p := ⟨b, off + k * 5 + 3, none⟩) hbl).trans (by simpa [eUsed, Nat.add_assoc] using hcell k hlt 3 _ (by decide) rfl)
        have c4 : wr.cell? ⟨b, off + k * 5 + 4, none⟩ = some (.int .i64 L[k].dents) := (hb.cell (p := ⟨b, off + k * 5 + 4, none⟩) hbl).trans (by simpa [eUsed, Nat.add_assoc] using hcell k hlt 4 _ (by decide) rfl)
        have hbx := hb
        have hsx := hs
        have hownx := hown
        obtain ⟨v0, v4⟩ := gradeF_bd HA.out L[k]
        have hgl := gradesL_at (R := R) hlt
        go_wp2_with fail
        refine (l25Grade_any v R L[k] _ (HV2.out.below hbx) HA.out).mono ?_
        rintro e w3 ⟨rfl, hb3⟩
        have hownF := hownx.below hb3
        have hbF := below_step2 hbx hb3 hsx
        have hsF := Nat.le_trans hsx hb3.size
        obtain ⟨q, hq⟩ := Int.eq_ofNat_of_zero_le v0
        unfold Grade_e
        rw [hq] at v4 hgl ⊢
        have HT1 : Hid (tally (gradesL R L) (k + 1) = (tally (gradesL R L) k).set q ((tally (gradesL R L) k).getD q 0 + 1)) := Lib.hid (by rw [tally, hgl]; rfl)
        obtain ⟨t0, t1⟩ := tally_bd (gradesL R L) k q
        have hg0 := hownF.ints
        rw [tally_len] at hg0
        have gx : w3.cell? ⟨w1.heap.size, q, none⟩ = some (.int .i64 ((tally (gradesL R L) k).getD q 0)) := by
          rw [hg0.cellAt q (by omega), List.getElem?_map, List.getElem?_eq_getElem (by rw [tally_len]; omega)]
          simp [List.getElem?_eq_getElem (show q < (tally (gradesL R L) k).length by rw [tally_len]; omega)]
        have gf : w3.frozen? ⟨w1.heap.size, q, none⟩ = false := hg0.frozenAt q
        have HST := Lib.hid (hg0.stored q (.int .i64 ((tally (gradesL R L) k).getD q 0 + 1)))
        have HB := Lib.hid hbF
        have hq4 : (q : Int) < 5 := by omega
        clear hg0 hb hbx hbF hb3 hown hownx hownF hc hcell hq hgl v0
        generalize (tally (gradesL R L) k).getD q 0 = t at *
        have hw2 : IntKind.i64.wrap (t + 1) = t + 1 := IntWalk.i64_in _ (by omega)
        go_wp2
        go_roundg (L.length - (k + 1))
        case measure => omega
        case rel => exact ⟨k + 1, by omega, rfl, by go_num, (by unfold Own; rw [tally_len, eI_all, HT1.out, List.map_set]; exact HST.out.1), HB.out.setCell (by simp) _, by simpa using hsF⟩
      · obtain rfl : k = L.length := by omega
        have HR := Lib.hid (CountGrades_ok HOK.out)
        go_wp2
        go_ret2
        rw [HR.out]
        exact ⟨_, rfl, hown.mono hsW, below_step2 HBW.out hb hsW⟩
end Go.Proofs.Ytncggcbpbejmcaa
