/- Contracts of ChangedParts (chapter 25). No statement of the seat is proved here. -/
import Derived.Deep.DrawnRows
import Derived.Test.YtncggcbpbejmcaaUsedL
import Derived.Test.YtncggcbpbejmcaaMString
namespace Go.Proofs.Ytncggcbpbejmcaa
open Go.RowKit

def chL (R1 R2 : List Rule) (L : List Used) : Nat → List ByteArray
  | 0 => []
  | k + 1 => if gradeF R1 (L.getD k zUsed) = gradeF R2 (L.getD k zUsed) then chL R1 R2 L k else chL R1 R2 L k ++ [(L.getD k zUsed).name]
theorem chL_len (R1 R2 : List Rule) (L : List Used) : ∀ k, (chL R1 R2 L k).length ≤ k
  | 0 => by simp [chL]
  | k + 1 => by
    have ih := chL_len R1 R2 L k
    rw [chL]
    split
    · omega
    · rw [List.length_append]; simp; omega
theorem chL_no {R1 R2 : List Rule} {L : List Used} {k : Nat} (hk : k < L.length) (h : gradeF R1 L[k] = gradeF R2 L[k]) : chL R1 R2 L (k + 1) = chL R1 R2 L k := by rw [chL, getD_at _ _ _ hk, if_pos h]
theorem chL_yes {R1 R2 : List Rule} {L : List Used} {k : Nat} (hk : k < L.length) (h : ¬ gradeF R1 L[k] = gradeF R2 L[k]) : chL R1 R2 L (k + 1) = chL R1 R2 L k ++ [L[k].name] := by rw [chL, getD_at _ _ _ hk, if_neg h]
def chOk (R1 R2 : List Rule) (L : List Used) : Bool := areRules R2 && gBoth R1 L
def ChangedParts_r (R1 R2 : List Rule) (L : List Used) : List ByteArray × Int := if chOk R1 R2 L then (chL R1 R2 L L.length, 0) else ([], 1)
theorem Changed_bad {R1 R2 : List Rule} {L : List Used} (h : chOk R1 R2 L = false) : ChangedParts_r R1 R2 L = ([], 1) := by unfold ChangedParts_r; rw [h]; rfl
theorem Changed_ok {R1 R2 : List Rule} {L : List Used} (h : chOk R1 R2 L = true) : ChangedParts_r R1 R2 L = (chL R1 R2 L L.length, 0) := by unfold ChangedParts_r; rw [h]; rfl
theorem ChangedParts_len (R1 R2 : List Rule) (L : List Used) : (ChangedParts_r R1 R2 L).1.length ≤ 1048576 := by
  unfold ChangedParts_r
  split
  · rename_i h
    unfold chOk at h
    rw [Bool.and_eq_true] at h
    have h1 := (areUsed_at (gBoth_of h.2).2).1
    have := chL_len R1 R2 L L.length
    simp only []; omega
  · simp
set_option maxHeartbeats 8000000 in
set_option maxRecDepth 20000 in
theorem iChangedParts_law (v1 : Value) (R1 : List Rule) (v2 : Value) (R2 : List Rule) (u : Value) (L : List Used) (w : World) (hv1 : Sl eRule w v1 R1) (_ : R1.length ≤ 1048576) (hv2 : Sl eRule w v2 R2) (_ : R2.length ≤ 1048576) (hu : Sl eUsed w u L) (_ : L.length ≤ 1048576) (hq : ∀ x ∈ L, okUsed x) :
    Calls Try.prog 49 #[v1, v2, u] w fun e w' => ∃ x, e = .returned (.tuple #[x, .int .i64 (ChangedParts_r R1 R2 L).2]) ∧ Own eS w' w.heap.size 9 x (ChangedParts_r R1 R2 L).1 ∧ Below w.heap.size w w' := by
  rcases hA : areRules R1
  · have HR := Lib.hid (Changed_bad (R1 := R1) (R2 := R2) (L := L) (by unfold chOk gBoth; rw [hA]; simp))
    have HA := Lib.hid hA
    clear hA
    rw [HR.out]
    go_enter Try.func49, Try.ntmps49
    go_wp2_with fail
    refine (iAreRules_any v1 R1 w hv1).mono ?_
    rintro e w1 ⟨rfl, hb⟩
    rw [HA.out]
    go_wp2
    go_ret2
    exact ⟨_, rfl, Own.nil_ _ _ _ _, hb⟩
  rcases hA2 : areRules R2
  · have HR := Lib.hid (Changed_bad (R1 := R1) (R2 := R2) (L := L) (by unfold chOk gBoth; rw [hA2]; simp))
    have HA := Lib.hid hA
    have HA2 := Lib.hid hA2
    clear hA hA2
    rw [HR.out]
    go_enter Try.func49, Try.ntmps49
    go_wp2_with fail
    refine (iAreRules_any v1 R1 w hv1).mono ?_
    rintro e w1 ⟨rfl, hb⟩
    rw [HA.out]
    have hv2a := hv2.below hb
    go_wp2_with fail
    refine (iAreRules_any v2 R2 w1 hv2a).mono ?_
    rintro e w2 ⟨rfl, hb2⟩
    rw [HA2.out]
    go_wp2
    go_ret2
    exact ⟨_, rfl, Own.nil_ _ _ _ _, Below.step hb hb2⟩
  rcases hU : areUsed L
  · have HR := Lib.hid (Changed_bad (R1 := R1) (R2 := R2) (L := L) (by unfold chOk gBoth; rw [hU]; simp))
    have HA := Lib.hid hA
    have HA2 := Lib.hid hA2
    have HU := Lib.hid hU
    clear hA hA2 hU
    rw [HR.out]
    go_enter Try.func49, Try.ntmps49
    go_wp2_with fail
    refine (iAreRules_any v1 R1 w hv1).mono ?_
    rintro e w1 ⟨rfl, hb⟩
    rw [HA.out]
    have hv2a := hv2.below hb
    go_wp2_with fail
    refine (iAreRules_any v2 R2 w1 hv2a).mono ?_
    rintro e w2 ⟨rfl, hb2⟩
    rw [HA2.out]
    have hu1 := (hu.below hb).below hb2
    go_wp2_with fail
    refine (areUsed_any u L w2 hu1 hq).mono ?_
    rintro e w3 ⟨rfl, hb3⟩
    rw [HU.out]
    go_wp2
    go_ret2
    exact ⟨_, rfl, Own.nil_ _ _ _ _, Below.step (Below.step hb hb2) hb3⟩
  · have HR := Lib.hid (Changed_ok (R1 := R1) (R2 := R2) (L := L) (by unfold chOk gBoth; rw [hA, hA2, hU]; rfl))
    have h60 := (areUsed_at hU).1
    have HA := Lib.hid hA
    have HA2 := Lib.hid hA2
    have HU := Lib.hid hU
    clear hA hA2 hU
    go_enter Try.func49, Try.ntmps49
    go_wp2_with fail
    refine (iAreRules_any v1 R1 w hv1).mono ?_
    rintro e w1 ⟨rfl, hb⟩
    rw [HA.out]
    have hv2a := hv2.below hb
    go_wp2_with fail
    refine (iAreRules_any v2 R2 w1 hv2a).mono ?_
    rintro e w2 ⟨rfl, hb2⟩
    rw [HA2.out]
    have hu1 := (hu.below hb).below hb2
    go_wp2_with fail
    refine (areUsed_any u L w2 hu1 hq).mono ?_
    rintro e w3 ⟨rfl, hb3⟩
    rw [HU.out]
    have HV1 := Lib.hid (((hv1.below hb).below hb2).below hb3)
    have HV2 := Lib.hid ((hv2a.below hb2).below hb3)
    have HBW := Lib.hid (Below.step (Below.step hb hb2) hb3)
    have hsW := HBW.out.size
    obtain ⟨A, cap, rfl, _, hm, hc⟩ := (hu1.below hb3).shape
    clear hv1 hv2 hv2a hu hu1 hb hb2 hb3
    go_wp2
    go_loopg [30, 8] L.length (fun gi i q wr => ∃ k : Nat, k ≤ L.length ∧ gi = L.length - k ∧ i = .int .i64 k ∧ Own eS wr w3.heap.size 9 q (chL R1 R2 L k) ∧ Below w3.heap.size w3 wr ∧ w3.heap.size ≤ wr.heap.size)
    case atStart => exact ⟨0, Nat.zero_le _, rfl, rfl, Own.nil_ _ _ _ _, Below.refl _ _, Nat.le_refl _⟩
    case round =>
      obtain ⟨k, hk, rfl, rfl, hown, hb, hs⟩ := hrel
      by_cases hlt : k < L.length
      · obtain ⟨b, off, rfl, hbl, hcell⟩ := hc (by omega)
        have c0 : wr.cell? ⟨b, off + k * 5, none⟩ = some (.string L[k].name) := (hb.cell (p := ⟨b, off + k * 5, none⟩) hbl).trans (by simpa [eUsed, Nat.add_assoc] using hcell k hlt 0 _ (by decide) rfl)
        have c1 : wr.cell? ⟨b, off + k * 5 + 1, none⟩ = some (.int .i64 L[k].hours) := (hb.cell (p := ⟨b, off + k * 5 + 1, none⟩) hbl).trans (by simpa [eUsed, Nat.add_assoc] using hcell k hlt 1 _ (by decide) rfl)
        have c2 : wr.cell? ⟨b, off + k * 5 + 2, none⟩ = some (.int .i64 L[k].play) := (hb.cell (p := ⟨b, off + k * 5 + 2, none⟩) hbl).trans (by simpa [eUsed, Nat.add_assoc] using hcell k hlt 2 _ (by decide) rfl)
        have c3 : wr.cell? ⟨b, off + k * 5 + 3, none⟩ = some (.int .i64 L[k].rust) := (hb.cell (p := ⟨b, off + k * 5 + 3, none⟩) hbl).trans (by simpa [eUsed, Nat.add_assoc] using hcell k hlt 3 _ (by decide) rfl)
        have c4 : wr.cell? ⟨b, off + k * 5 + 4, none⟩ = some (.int .i64 L[k].dents) := (hb.cell (p := ⟨b, off + k * 5 + 4, none⟩) hbl).trans (by simpa [eUsed, Nat.add_assoc] using hcell k hlt 4 _ (by decide) rfl)
        have hbx := hb.alloc hs (.cells #[.string L[k].name, .int .i64 L[k].hours, .int .i64 L[k].play, .int .i64 L[k].rust, .int .i64 L[k].dents] 33)
        have hsx : w3.heap.size ≤ (wr.alloc (.cells #[.string L[k].name, .int .i64 L[k].hours, .int .i64 L[k].play, .int .i64 L[k].rust, .int .i64 L[k].dents] 33)).heap.size := by simp; omega
        have hownx := hown.alloc (.cells #[.string L[k].name, .int .i64 L[k].hours, .int .i64 L[k].play, .int .i64 L[k].rust, .int .i64 L[k].dents] 33)
        have y0 : (wr.alloc (.cells #[.string L[k].name, .int .i64 L[k].hours, .int .i64 L[k].play, .int .i64 L[k].rust, .int .i64 L[k].dents] 33)).cell? ⟨wr.heap.size, 0, none⟩ = some (.string L[k].name) := (box_new _ _ _ 0).trans rfl
        have y1 : (wr.alloc (.cells #[.string L[k].name, .int .i64 L[k].hours, .int .i64 L[k].play, .int .i64 L[k].rust, .int .i64 L[k].dents] 33)).cell? ⟨wr.heap.size, 1, none⟩ = some (.int .i64 L[k].hours) := (box_new _ _ _ 1).trans rfl
        have y2 : (wr.alloc (.cells #[.string L[k].name, .int .i64 L[k].hours, .int .i64 L[k].play, .int .i64 L[k].rust, .int .i64 L[k].dents] 33)).cell? ⟨wr.heap.size, 2, none⟩ = some (.int .i64 L[k].play) := (box_new _ _ _ 2).trans rfl
        have y3 : (wr.alloc (.cells #[.string L[k].name, .int .i64 L[k].hours, .int .i64 L[k].play, .int .i64 L[k].rust, .int .i64 L[k].dents] 33)).cell? ⟨wr.heap.size, 3, none⟩ = some (.int .i64 L[k].rust) := (box_new _ _ _ 3).trans rfl
        have y4 : (wr.alloc (.cells #[.string L[k].name, .int .i64 L[k].hours, .int .i64 L[k].play, .int .i64 L[k].rust, .int .i64 L[k].dents] 33)).cell? ⟨wr.heap.size, 4, none⟩ = some (.int .i64 L[k].dents) := (box_new _ _ _ 4).trans rfl
        have hgx : wr.heap.size < (wr.alloc (.cells #[.string L[k].name, .int .i64 L[k].hours, .int .i64 L[k].play, .int .i64 L[k].rust, .int .i64 L[k].dents] 33)).heap.size := by simp
        have HNO := Lib.hid (fun h => chL_no (R1 := R1) (R2 := R2) hlt h)
        have HYES := Lib.hid (fun h => chL_yes (R1 := R1) (R2 := R2) hlt h)
        clear hown hb hc hcell
        go_wp2_with fail
        refine (gradeOf_any v1 R1 L[k] _ (HV1.out.below hbx)).mono ?_
        rintro e w5 ⟨rfl, hb3⟩
        replace y0 := (hb3.cell (p := ⟨wr.heap.size, 0, none⟩) hgx).trans y0
        replace y1 := (hb3.cell (p := ⟨wr.heap.size, 1, none⟩) hgx).trans y1
        replace y2 := (hb3.cell (p := ⟨wr.heap.size, 2, none⟩) hgx).trans y2
        replace y3 := (hb3.cell (p := ⟨wr.heap.size, 3, none⟩) hgx).trans y3
        replace y4 := (hb3.cell (p := ⟨wr.heap.size, 4, none⟩) hgx).trans y4
        replace hgx := Nat.lt_of_lt_of_le hgx hb3.size
        have hown3 := hownx.below hb3
        have hbF := below_step2 hbx hb3 hsx
        have hsF := Nat.le_trans hsx hb3.size
        clear hownx hbx hb3
        unfold Grade_e
        go_wp2_with fail
        refine (gradeOf_any v2 R2 L[k] w5 (HV2.out.below hbF)).mono ?_
        rintro e w6 ⟨rfl, hb3⟩
        have HO4 := Lib.hid (hown3.below hb3)
        have HB4 := Lib.hid (below_step2 hbF hb3 hsF)
        have hs4 := Nat.le_trans hsF hb3.size
        replace y0 := (hb3.cell (p := ⟨wr.heap.size, 0, none⟩) hgx).trans y0
        replace y1 := (hb3.cell (p := ⟨wr.heap.size, 1, none⟩) hgx).trans y1
        replace y2 := (hb3.cell (p := ⟨wr.heap.size, 2, none⟩) hgx).trans y2
        replace y3 := (hb3.cell (p := ⟨wr.heap.size, 3, none⟩) hgx).trans y3
        replace y4 := (hb3.cell (p := ⟨wr.heap.size, 4, none⟩) hgx).trans y4
        clear hown3 hbF hb3
        unfold Grade_e
        generalize gradeF R1 L[k] = ga at *
        generalize gradeF R2 L[k] = gb at *
        generalize L[k] = x at *
        rcases hne : (ga != gb)
        · have HE := Lib.hid (HNO.out (by simpa using hne))
          go_wp2
          go_roundg (L.length - (k + 1))
          case measure => omega
          case rel => exact ⟨k + 1, by omega, rfl, by go_num, by rw [HE.out]; exact HO4.out, HB4.out, hs4⟩
        · have HE := Lib.hid (HYES.out (by simpa using hne))
          have hln := chL_len R1 R2 L k
          go_wp2_with (at_builtin; refine wpList_app eS rfl _ _ 64 (by rfl) 9 (.string ⟨#[]⟩) 16 Try.underlying64 info_str rfl (by decide) (by decide) w3.heap.size _ (chL R1 R2 L k) (by rfl) (by exact HO4.out) (by omega) (by exact hs4) x.name _ (by rfl) _ (by rfl) (by rfl) ?_)
          intro v' w' hown' hbw' _ _ hs'
          have HO2 := Lib.hid hown'
          have HB2 := Lib.hid (HB4.out.trans hbw')
          clear hown' hbw'
          go_wp2
          go_roundg (L.length - (k + 1))
          case measure => omega
          case rel => exact ⟨k + 1, by omega, rfl, by go_num, by rw [HE.out]; exact HO2.out, HB2.out, by omega⟩
      · obtain rfl : k = L.length := by omega
        go_wp2
        go_ret2
        rw [HR.out]
        exact ⟨_, rfl, hown.mono hsW, below_step2 HBW.out hb hsW⟩
set_option maxHeartbeats 8000000 in
set_option maxRecDepth 20000 in
theorem sChangedParts_law (v1 : Value) (R1 : List Rule) (v2 : Value) (R2 : List Rule) (u : Value) (L : List Used) (w : World) (hv1 : Sl eRule w v1 R1) (_ : R1.length ≤ 1048576) (hv2 : Sl eRule w v2 R2) (_ : R2.length ≤ 1048576) (hu : Sl eUsed w u L) (_ : L.length ≤ 1048576) (hq : ∀ x ∈ L, okUsed x) :
    Calls Try.prog 48 #[v1, v2, u] w fun e w' => ∃ x, e = .returned (.tuple #[x, .int .i64 (ChangedParts_r R1 R2 L).2]) ∧ Own eS w' w.heap.size 9 x (ChangedParts_r R1 R2 L).1 ∧ Below w.heap.size w w' := by
  rcases hA2 : areRules R2
  · have HR := Lib.hid (Changed_bad (R1 := R1) (R2 := R2) (L := L) (by unfold chOk gBoth; rw [hA2]; rfl))
    have HA2 := Lib.hid hA2
    clear hA2
    rw [HR.out]
    go_enter Try.func48, Try.ntmps48
    go_wp2_with fail
    refine (sAreRules_any v2 R2 w hv2).mono ?_
    rintro e w1 ⟨rfl, hb⟩
    rw [HA2.out]
    go_wp2
    go_ret2
    exact ⟨_, rfl, Own.nil_ _ _ _ _, hb⟩
  rcases hG : gBoth R1 L
  · have HR := Lib.hid (Changed_bad (R1 := R1) (R2 := R2) (L := L) (by unfold chOk gBoth; rw [hA2]; exact hG))
    have HA2 := Lib.hid hA2
    have HC := Lib.hid (gCode_1 hG)
    clear hA2 hG
    rw [HR.out]
    go_enter Try.func48, Try.ntmps48
    go_wp2_with fail
    refine (sAreRules_any v2 R2 w hv2).mono ?_
    rintro e w1 ⟨rfl, hb⟩
    rw [HA2.out]
    have hv1a := hv1.below hb
    have hua := hu.below hb
    go_wp2_with fail
    refine (l25Code_any v1 R1 u L w1 hv1a hua hq).mono ?_
    rintro e w2 ⟨rfl, hb2⟩
    rw [HC.out]
    go_wp2
    go_ret2
    exact ⟨_, rfl, Own.nil_ _ _ _ _, Below.step hb hb2⟩
  · have HR := Lib.hid (Changed_ok (R1 := R1) (R2 := R2) (L := L) (by unfold chOk; rw [hA2, hG]; rfl))
    obtain ⟨hA1, hU1⟩ := gBoth_of hG
    have h60 := (areUsed_at hU1).1
    have HA := Lib.hid hA1
    have HA2 := Lib.hid hA2
    have HC := Lib.hid (gCode_0 hG)
    clear hA1 hA2 hU1 hG
    go_enter Try.func48, Try.ntmps48
    go_wp2_with fail
    refine (sAreRules_any v2 R2 w hv2).mono ?_
    rintro e w1 ⟨rfl, hb⟩
    rw [HA2.out]
    have hv1a := hv1.below hb
    have hua := hu.below hb
    go_wp2_with fail
    refine (l25Code_any v1 R1 u L w1 hv1a hua hq).mono ?_
    rintro e w2 ⟨rfl, hb2⟩
    rw [HC.out]
    have HV1 := Lib.hid (hv1a.below hb2)
    have HV2 := Lib.hid ((hv2.below hb).below hb2)
    have HBW := Lib.hid (Below.step hb hb2)
    have hsW := HBW.out.size
    obtain ⟨A, cap, rfl, _, hm, hc⟩ := (hua.below hb2).shape
    have HO0 := Lib.hid (Own.empty eS w2 w2.heap.size 9 (Nat.le_refl _))
    clear hv1 hv2 hv1a hua hu hb hb2
    go_wp2
    go_loopg [10, 9] L.length (fun gi i q wr => ∃ k : Nat, k ≤ L.length ∧ gi = L.length - k ∧ i = .int .i64 k ∧ Own eS wr w2.heap.size 9 q (chL R1 R2 L k) ∧ Below w2.heap.size w2 wr ∧ w2.heap.size ≤ wr.heap.size)
    case atStart => exact ⟨0, Nat.zero_le _, rfl, rfl, HO0.out, (Below.refl _ _).alloc (Nat.le_refl _) _, by simp⟩
    case round =>
      obtain ⟨k, hk, rfl, rfl, hown, hb, hs⟩ := hrel
      clear HO0
      by_cases hlt : k < L.length
      · obtain ⟨b, off, rfl, hbl, hcell⟩ := hc (by omega)
        have c0 : wr.cell? ⟨b, off + k * 5, none⟩ = some (.string L[k].name) := (hb.cell (p := ⟨b, off + k * 5, none⟩) hbl).trans (by simpa [eUsed, Nat.add_assoc] using hcell k hlt 0 _ (by decide) rfl)
        have c1 : wr.cell? ⟨b, off + k * 5 + 1, none⟩ = some (.int .i64 L[k].hours) := (hb.cell (p := ⟨b, off + k * 5 + 1, none⟩) hbl).trans (by simpa [eUsed, Nat.add_assoc] using hcell k hlt 1 _ (by decide) rfl)
        have c2 : wr.cell? ⟨b, off + k * 5 + 2, none⟩ = some (.int .i64 L[k].play) := (hb.cell (p := ⟨b, off + k * 5 + 2, none⟩) hbl).trans (by simpa [eUsed, Nat.add_assoc] using hcell k hlt 2 _ (by decide) rfl)
        have c3 : wr.cell? ⟨b, off + k * 5 + 3, none⟩ = some (.int .i64 L[k].rust) := (hb.cell (p := ⟨b, off + k * 5 + 3, none⟩) hbl).trans (by simpa [eUsed, Nat.add_assoc] using hcell k hlt 3 _ (by decide) rfl)
        have c4 : wr.cell? ⟨b, off + k * 5 + 4, none⟩ = some (.int .i64 L[k].dents) := (hb.cell (p := ⟨b, off + k * 5 + 4, none⟩) hbl).trans (by simpa [eUsed, Nat.add_assoc] using hcell k hlt 4 _ (by decide) rfl)
        have hbx := hb
        have hsx := hs
        have hownx := hown
        have hgx : b < wr.heap.size := by omega
        have HNO := Lib.hid (fun h => chL_no (R1 := R1) (R2 := R2) hlt h)
        have HYES := Lib.hid (fun h => chL_yes (R1 := R1) (R2 := R2) hlt h)
        clear hown hb hc hcell
        go_wp2_with fail
        refine (l25Grade_any v1 R1 L[k] _ (HV1.out.below hbx) HA.out).mono ?_
        rintro e w3 ⟨rfl, hb3⟩
        replace c0 := (hb3.cell (p := ⟨b, off + k * 5, none⟩) hgx).trans c0
        replace c1 := (hb3.cell (p := ⟨b, off + k * 5 + 1, none⟩) hgx).trans c1
        replace c2 := (hb3.cell (p := ⟨b, off + k * 5 + 2, none⟩) hgx).trans c2
        replace c3 := (hb3.cell (p := ⟨b, off + k * 5 + 3, none⟩) hgx).trans c3
        replace c4 := (hb3.cell (p := ⟨b, off + k * 5 + 4, none⟩) hgx).trans c4
        replace hgx := Nat.lt_of_lt_of_le hgx hb3.size
        have hown3 := hownx.below hb3
        have hbF := below_step2 hbx hb3 hsx
        have hsF := Nat.le_trans hsx hb3.size
        clear hownx hbx hb3
        unfold Grade_e
        go_wp2_with fail
        refine (l25Grade_any v2 R2 L[k] w3 (HV2.out.below hbF) HA2.out).mono ?_
        rintro e w4 ⟨rfl, hb3⟩
        have HO4 := Lib.hid (hown3.below hb3)
        have HB4 := Lib.hid (below_step2 hbF hb3 hsF)
        have hs4 := Nat.le_trans hsF hb3.size
        replace c0 := (hb3.cell (p := ⟨b, off + k * 5, none⟩) hgx).trans c0
        replace c1 := (hb3.cell (p := ⟨b, off + k * 5 + 1, none⟩) hgx).trans c1
        replace c2 := (hb3.cell (p := ⟨b, off + k * 5 + 2, none⟩) hgx).trans c2
        replace c3 := (hb3.cell (p := ⟨b, off + k * 5 + 3, none⟩) hgx).trans c3
        replace c4 := (hb3.cell (p := ⟨b, off + k * 5 + 4, none⟩) hgx).trans c4
        clear hown3 hbF hb3
        unfold Grade_e
        generalize gradeF R1 L[k] = ga at *
        generalize gradeF R2 L[k] = gb at *
        generalize L[k] = x at *
        rcases hne : (ga != gb)
        · have HE := Lib.hid (HNO.out (by simpa using hne))
          go_wp2
          go_roundg (L.length - (k + 1))
          case measure => omega
          case rel => exact ⟨k + 1, by omega, rfl, by go_num, by rw [HE.out]; exact HO4.out, HB4.out, hs4⟩
        · have HE := Lib.hid (HYES.out (by simpa using hne))
          have hln := chL_len R1 R2 L k
          go_wp2_with (at_builtin; refine wpList_app eS rfl _ _ 64 (by rfl) 9 (.string ⟨#[]⟩) 16 Try.underlying64 info_str rfl (by decide) (by decide) w2.heap.size _ (chL R1 R2 L k) (by rfl) (by exact HO4.out) (by omega) (by exact hs4) x.name _ (by rfl) _ (by rfl) (by rfl) ?_)
          intro v' w' hown' hbw' _ _ hs'
          have HO2 := Lib.hid hown'
          have HB2 := Lib.hid (HB4.out.trans hbw')
          clear hown' hbw'
          go_wp2
          go_roundg (L.length - (k + 1))
          case measure => omega
          case rel => exact ⟨k + 1, by omega, rfl, by go_num, by rw [HE.out]; exact HO2.out, HB2.out, by omega⟩
      · obtain rfl : k = L.length := by omega
        go_wp2
        go_ret2
        rw [HR.out]
        exact ⟨_, rfl, hown.mono hsW, below_step2 HBW.out hb hsW⟩
end Go.Proofs.Ytncggcbpbejmcaa
