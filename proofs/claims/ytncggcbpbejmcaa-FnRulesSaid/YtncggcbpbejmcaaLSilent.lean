/- Contracts of SilentRules (chapter 25). No statement of the seat is proved here. -/
import Derived.Deep.DrawnRows
import Derived.Test.YtncggcbpbejmcaaUsedL
namespace Go.Proofs.Ytncggcbpbejmcaa
open Go.RowKit

attribute [local go_sem ↓] Go.wp_at_zero Go.wp_at_succ
def hides (o r : Rule) : Bool := (o.least == 0) || ((o.field == r.field) && decide (o.least ≤ r.least))
/-- is rule k silent, the first j rules looked at -/
def silJ (R : List Rule) (k : Nat) : Nat → Bool
  | 0 => decide (mostF (R.getD k zRule).field < (R.getD k zRule).least)
  | j + 1 => silJ R k j || hides (R.getD j zRule) (R.getD k zRule)
def silL (R : List Rule) : Nat → List Int
  | 0 => []
  | k + 1 => if silJ R k k then silL R k ++ [(k : Int)] else silL R k
theorem silL_len (R : List Rule) : ∀ k, (silL R k).length ≤ k
  | 0 => by simp [silL]
  | k + 1 => by
    have ih := silL_len R k
    rw [silL]
    split
    · rw [List.length_append]; simp; omega
    · omega
theorem silL_yes {R : List Rule} {k : Nat} (h : silJ R k k = true) : silL R (k + 1) = silL R k ++ [(k : Int)] := by rw [silL, if_pos h]
theorem silL_no {R : List Rule} {k : Nat} (h : silJ R k k = false) : silL R (k + 1) = silL R k := by rw [silL, if_neg (by rw [h]; simp)]
def SilentRules_r (R : List Rule) : List Int × Int := if areRules R then (silL R R.length, 0) else ([], 1)
theorem SilentRules_bad {R : List Rule} (h : areRules R = false) : SilentRules_r R = ([], 1) := by unfold SilentRules_r; rw [h]; rfl
theorem SilentRules_ok {R : List Rule} (h : areRules R = true) : SilentRules_r R = (silL R R.length, 0) := by unfold SilentRules_r; rw [h]; rfl
theorem areRules_rt {R : List Rule} (h : areRules R = true) : R.length ≤ 12 ∧ ∀ (k : Nat) (hk : k < R.length), 0 ≤ R[k].field ∧ R[k].field ≤ 3 := by
  unfold areRules at h
  rw [Bool.and_eq_true, decide_eq_true_eq, List.all_eq_true] at h
  refine ⟨h.1, fun k hk => ?_⟩
  have h2 := h.2 _ (List.getElem_mem hk)
  unfold ruleOk at h2
  simp only [Bool.and_eq_true, inR_iff] at h2
  exact ⟨h2.1.1.1, h2.1.1.2⟩
theorem SilentRules_len (R : List Rule) : (SilentRules_r R).1.length ≤ 1048576 := by
  unfold SilentRules_r
  split
  · rename_i h
    have h1 := (areRules_rt h).1
    have := silL_len R R.length
    simp only []; omega
  · simp
theorem sil_0 {R : List Rule} {k : Nat} (hk : k < R.length) : silJ R k 0 = decide (mostF R[k].field < R[k].least) := by rw [silJ, getD_at _ _ _ hk]
theorem sil_s {R : List Rule} {k j : Nat} (hk : k < R.length) (hj : j < R.length) : silJ R k (j + 1) = (silJ R k j || ((R[j].least == 0) || ((R[j].field == R[k].field) && decide (R[j].least ≤ R[k].least)))) := by rw [silJ, getD_at _ _ _ hk, getD_at _ _ _ hj]; rfl
set_option maxHeartbeats 8000000 in
set_option maxRecDepth 20000 in
theorem iSilentRules_law (v : Value) (R : List Rule) (w : World) (hv : Sl eRule w v R) (_ : R.length ≤ 1048576) :
    Calls Try.prog 32 #[v] w fun e w' => ∃ x, e = .returned (.tuple #[x, .int .i64 (SilentRules_r R).2]) ∧ Own eI w' w.heap.size 2 x (SilentRules_r R).1 ∧ Below w.heap.size w w' := by
  rcases hA : areRules R
  · have HR := Lib.hid (SilentRules_bad hA)
    have HA := Lib.hid hA
    clear hA
    rw [HR.out]
    go_enter Try.func32, Try.ntmps32
    go_wp2_with fail
    refine (iAreRules_any v R w hv).mono ?_
    rintro e w1 ⟨rfl, hb⟩
    rw [HA.out]
    go_wp2
    go_ret2
    exact ⟨_, rfl, Own.nil_ _ _ _ _, hb⟩
  have HR := Lib.hid (SilentRules_ok hA)
  have h12 := (areRules_rt hA).1
  have HA := Lib.hid hA
  clear hA
  go_enter Try.func32, Try.ntmps32
  go_wp2_with fail
  refine (iAreRules_any v R w hv).mono ?_
  rintro e w1 ⟨rfl, hb⟩
  rw [HA.out]
  have hs1 := hb.size
  obtain ⟨A, cap, rfl, hcp, hm, hc⟩ := (hv.below hb).shape
  clear hv
  go_wp2
  go_loopg [15, 4] R.length (fun gi i q wr => ∃ k : Nat, k ≤ R.length ∧ gi = R.length - k ∧ i = .int .i64 k ∧ Own eI wr w1.heap.size 2 q (silL R k) ∧ Below w1.heap.size w1 wr ∧ w1.heap.size ≤ wr.heap.size)
  case atStart => exact ⟨0, Nat.zero_le _, rfl, rfl, Own.nil_ _ _ _ _, Below.refl _ _, Nat.le_refl _⟩
  case round =>
    obtain ⟨k, hk, rfl, rfl, hown, hb1, hs⟩ := hrel
    by_cases hlt : k < R.length
    · obtain ⟨b, off, rfl, hbl, hcell⟩ := hc (by omega)
      have c0 : wr.cell? ⟨b, off + k * 3, none⟩ = some (.int .i64 R[k].field) := (hb1.cell (p := ⟨b, off + k * 3, none⟩) hbl).trans (by simpa [eRule, Nat.add_assoc] using hcell k hlt 0 _ (by decide) rfl)
      have c1 : wr.cell? ⟨b, off + k * 3 + 1, none⟩ = some (.int .i64 R[k].least) := (hb1.cell (p := ⟨b, off + k * 3 + 1, none⟩) hbl).trans (by simpa [eRule, Nat.add_assoc] using hcell k hlt 1 _ (by decide) rfl)
      have c2 : wr.cell? ⟨b, off + k * 3 + 2, none⟩ = some (.int .i64 R[k].grade) := (hb1.cell (p := ⟨b, off + k * 3 + 2, none⟩) hbl).trans (by simpa [eRule, Nat.add_assoc] using hcell k hlt 2 _ (by decide) rfl)
      have hbA := hb1.alloc hs (.cells #[.int .i64 R[k].field, .int .i64 R[k].least, .int .i64 R[k].grade] 78)
      have hownA := hown.alloc (.cells #[.int .i64 R[k].field, .int .i64 R[k].least, .int .i64 R[k].grade] 78)
      have H0 := Lib.hid (sil_0 hlt)
      have HSS := Lib.hid (fun j (hj : j < R.length) => sil_s (j := j) hlt hj)
      have HC := Lib.hid hcell
      clear hc hcell hown hb1
      generalize R[k] = r at *
      obtain ⟨f, l, g⟩ := r
      simp only at *
      have r0 : (wr.alloc (.cells #[.int .i64 f, .int .i64 l, .int .i64 g] 78)).cell? ⟨wr.heap.size, 0, none⟩ = some (.int .i64 f) := (box_new _ _ _ 0).trans rfl
      have r1 : (wr.alloc (.cells #[.int .i64 f, .int .i64 l, .int .i64 g] 78)).cell? ⟨wr.heap.size, 1, none⟩ = some (.int .i64 l) := (box_new _ _ _ 1).trans rfl
      have hgr : wr.heap.size < (wr.alloc (.cells #[.int .i64 f, .int .i64 l, .int .i64 g] 78)).heap.size := by simp
      have hsA : w1.heap.size ≤ (wr.alloc (.cells #[.int .i64 f, .int .i64 l, .int .i64 g] 78)).heap.size := by simp; omega
      go_wp2
      clear c0 c1 c2
      generalize wr.alloc (.cells #[.int .i64 f, .int .i64 l, .int .i64 g] 78) = wA at *
      generalize wr.heap.size = gr at *
      go_quiet (first | exact q_same (greatestOf_any f _) | exact q_same2 (greatestOf_any f _))
      go_wp2
      go_loopg [30, 7] k (fun gi i q wr => ∃ (j : Nat) (s : Bool), j ≤ k ∧ gi = k - j ∧ i = .int .i64 j ∧ q = .bool s ∧ Hid (silJ R k j = s) ∧ Below wA.heap.size wA wr ∧ wA.heap.size ≤ wr.heap.size)
      case atStart => exact ⟨0, _, Nat.zero_le _, rfl, rfl, rfl, H0, below_of_drewN _, Nat.le_refl _⟩
      case round =>
        obtain ⟨j, s, hj, rfl, rfl, rfl, HS0, hbi, hsi⟩ := hrel
        by_cases hjk : j < k
        · have hjl : j < R.length := by omega
          have hbW := below_step2 hbA hbi hsA
          have hcell := HC.out
          have d0 : wr.cell? ⟨b, off + j * 3, none⟩ = some (.int .i64 R[j].field) := (hbW.cell (p := ⟨b, off + j * 3, none⟩) hbl).trans (by simpa [eRule, Nat.add_assoc] using hcell j hjl 0 _ (by decide) rfl)
          have d1 : wr.cell? ⟨b, off + j * 3 + 1, none⟩ = some (.int .i64 R[j].least) := (hbW.cell (p := ⟨b, off + j * 3 + 1, none⟩) hbl).trans (by simpa [eRule, Nat.add_assoc] using hcell j hjl 1 _ (by decide) rfl)
          have d2 : wr.cell? ⟨b, off + j * 3 + 2, none⟩ = some (.int .i64 R[j].grade) := (hbW.cell (p := ⟨b, off + j * 3 + 2, none⟩) hbl).trans (by simpa [eRule, Nat.add_assoc] using hcell j hjl 2 _ (by decide) rfl)
          have e0 := (hbi.cell (p := ⟨gr, 0, none⟩) hgr).trans r0
          have e1 := (hbi.cell (p := ⟨gr, 1, none⟩) hgr).trans r1
          have HD := Lib.hid (HSS.out j hjl)
          clear hcell hbW
          generalize R[j] = o at *
          obtain ⟨f2, l2, g2⟩ := o
          simp only at *
          have x0 := (box_old wr (.cells #[.int .i64 f2, .int .i64 l2, .int .i64 g2] 78) ⟨gr, 0, none⟩ (by simp only []; omega)).trans e0
          have x1 := (box_old wr (.cells #[.int .i64 f2, .int .i64 l2, .int .i64 g2] 78) ⟨gr, 1, none⟩ (by simp only []; omega)).trans e1
          have HBN := Lib.hid (hbi.alloc hsi (.cells #[.int .i64 f2, .int .i64 l2, .int .i64 g2] 78))
          have hsN : wA.heap.size ≤ (wr.alloc (.cells #[.int .i64 f2, .int .i64 l2, .int .i64 g2] 78)).heap.size := by simp; omega
          clear e0 e1 hbi
          rcases g1 : (l2 == 0)
          · rcases g2' : (f2 == f)
            · have HE : Hid (silJ R k (j + 1) = s) := Lib.hid (by rw [HD.out, HS0.out, g1, g2']; simp)
              go_wp2
              go_roundg (k - (j + 1))
              case measure => omega
              case rel => exact ⟨j + 1, s, by omega, rfl, by go_num, rfl, HE, HBN.out, hsN⟩
            by_cases g3 : l2 ≤ l
            · have HE : Hid (silJ R k (j + 1) = true) := Lib.hid (by rw [HD.out, HS0.out, g1, g2', decide_eq_true g3]; simp)
              go_wp2
              go_roundg (k - (j + 1))
              case measure => omega
              case rel => exact ⟨j + 1, true, by omega, rfl, by go_num, rfl, HE, HBN.out, hsN⟩
            · have HE : Hid (silJ R k (j + 1) = s) := Lib.hid (by rw [HD.out, HS0.out, g1, g2', decide_eq_false g3]; simp)
              go_wp2
              go_roundg (k - (j + 1))
              case measure => omega
              case rel => exact ⟨j + 1, s, by omega, rfl, by go_num, rfl, HE, HBN.out, hsN⟩
          · have HE : Hid (silJ R k (j + 1) = true) := Lib.hid (by rw [HD.out, HS0.out, g1]; simp)
            go_wp2
            go_roundg (k - (j + 1))
            case measure => omega
            case rel => exact ⟨j + 1, true, by omega, rfl, by go_num, rfl, HE, HBN.out, hsN⟩
        · obtain rfl : j = k := by omega
          have HOW := Lib.hid (Own.below hownA hbi)
          have HBW := Lib.hid (below_step2 hbA hbi hsA)
          have hsW := Nat.le_trans hsA hsi
          have hl12 := silL_len R j
          clear hownA hbi hbA
          rcases s
          · go_wp2
            go_roundg (R.length - (j + 1))
            case measure => omega
            case rel => exact ⟨j + 1, by omega, rfl, by go_num, by rw [silL_no HS0.out]; exact HOW.out, HBW.out, hsW⟩
          · go_wp2_with (at_builtin; refine wpList_app eI rfl _ _ 44 rfl 2 (.int .i64 0) 8 Try.underlying44 info_i64 rfl (by decide) (by decide) w1.heap.size _ (silL R j) (by rfl) (by exact HOW.out) (by have := silL_len R j; omega) (by exact hsW) (j : Int) _ (by rfl) _ (by rfl) (by rfl) ?_)
            intro v' w' hown' hbw' _ _ hs'
            have HO2 := Lib.hid hown'
            have HB2 := Lib.hid (HBW.out.trans hbw')
            clear hown' hbw'
            go_wp2
            go_roundg (R.length - (j + 1))
            case measure => omega
            case rel => exact ⟨j + 1, by omega, rfl, by go_num, by rw [silL_yes HS0.out]; exact HO2.out, HB2.out, by omega⟩
    · obtain rfl : k = R.length := by omega
      go_wp2
      go_ret2
      rw [HR.out]
      exact ⟨_, rfl, hown.mono hs1, Below.step hb hb1⟩
set_option maxHeartbeats 8000000 in
set_option maxRecDepth 20000 in
theorem sSilentRules_law (v : Value) (R : List Rule) (w : World) (hv : Sl eRule w v R) (_ : R.length ≤ 1048576) :
    Calls Try.prog 31 #[v] w fun e w' => ∃ x, e = .returned (.tuple #[x, .int .i64 (SilentRules_r R).2]) ∧ Own eI w' w.heap.size 2 x (SilentRules_r R).1 ∧ Below w.heap.size w w' := by
  rcases hA : areRules R
  · have HR := Lib.hid (SilentRules_bad hA)
    have HC0 : Hid (gCode R [] = 1) := Lib.hid (gCode_1 (by rw [gBoth_nil]; exact hA))
    clear hA
    rw [HR.out]
    go_enter Try.func31, Try.ntmps31
    go_wp2_with fail
    refine (l25Code_any v R (.slice none 0 0) [] w hv (Sl.nil_ eUsed w) (by simp)).mono ?_
    rintro e w1 ⟨rfl, hb⟩
    rw [HC0.out]
    go_wp2
    go_ret2
    exact ⟨_, rfl, Own.nil_ _ _ _ _, hb⟩
  have HR := Lib.hid (SilentRules_ok hA)
  have h12 := (areRules_rt hA).1
  have HRA := Lib.hid (areRules_rt hA).2
  have HC0 : Hid (gCode R [] = 0) := Lib.hid (gCode_0 (by rw [gBoth_nil]; exact hA))
  clear hA
  go_enter Try.func31, Try.ntmps31
  go_wp2_with fail
  refine (l25Code_any v R (.slice none 0 0) [] w hv (Sl.nil_ eUsed w) (by simp)).mono ?_
  rintro e w1 ⟨rfl, hb⟩
  rw [HC0.out]
  have hs1 := hb.size
  obtain ⟨A, cap, rfl, hcp, hm, hc⟩ := (hv.below hb).shape
  clear hv
  have HO0 := Lib.hid (Own.empty eI w1 w1.heap.size 2 (Nat.le_refl _))
  go_wp2
  go_loopg [6, 5] R.length (fun gi i q wr => ∃ k : Nat, k ≤ R.length ∧ gi = R.length - k ∧ i = .int .i64 k ∧ Own eI wr w1.heap.size 2 q (silL R k) ∧ Below w1.heap.size w1 wr ∧ w1.heap.size ≤ wr.heap.size)
  case atStart => exact ⟨0, Nat.zero_le _, rfl, rfl, HO0.out, (Below.refl _ _).alloc (Nat.le_refl _) _, by simp⟩
  case round =>
    obtain ⟨k, hk, rfl, rfl, hown, hb1, hs⟩ := hrel
    clear HO0
    by_cases hlt : k < R.length
    · obtain ⟨b, off, rfl, hbl, hcell⟩ := hc (by omega)
      have c0 : wr.cell? ⟨b, off + k * 3, none⟩ = some (.int .i64 R[k].field) := (hb1.cell (p := ⟨b, off + k * 3, none⟩) hbl).trans (by simpa [eRule, Nat.add_assoc] using hcell k hlt 0 _ (by decide) rfl)
      have c1 : wr.cell? ⟨b, off + k * 3 + 1, none⟩ = some (.int .i64 R[k].least) := (hb1.cell (p := ⟨b, off + k * 3 + 1, none⟩) hbl).trans (by simpa [eRule, Nat.add_assoc] using hcell k hlt 1 _ (by decide) rfl)
      have c2 : wr.cell? ⟨b, off + k * 3 + 2, none⟩ = some (.int .i64 R[k].grade) := (hb1.cell (p := ⟨b, off + k * 3 + 2, none⟩) hbl).trans (by simpa [eRule, Nat.add_assoc] using hcell k hlt 2 _ (by decide) rfl)
      obtain ⟨f0, f3⟩ := HRA.out k hlt
      have H0 := Lib.hid (sil_0 hlt)
      have HSS := Lib.hid (fun j (hj : j < R.length) => sil_s (j := j) hlt hj)
      have HC := Lib.hid hcell
      clear hc hcell c2
      generalize R[k] = r at *
      obtain ⟨f, l, g⟩ := r
      simp only at *
      have hkI : (k : Int) < (R.length : Int) := by omega
      have hk0 : (0 : Int) ≤ (k : Int) := by omega
      have hgr : b < wr.heap.size := by omega
      have HOW0 := Lib.hid hown
      have HB0 := Lib.hid hb1
      clear hown hb1
      go_wp2
      generalize wr = wA at *
      have KEEP : Hid (∀ W, Below wA.heap.size wA W → Below wA.heap.size wA W ∧ W.cell? ⟨b, off + k * 3, none⟩ = some (.int .i64 f) ∧ W.cell? ⟨b, off + k * 3 + 1, none⟩ = some (.int .i64 l)) := Lib.hid (fun W h => ⟨h, (h.cell (p := ⟨b, off + k * 3, none⟩) hgr).trans c0, (h.cell (p := ⟨b, off + k * 3 + 1, none⟩) hgr).trans c1⟩)
      go_region_held3 (fun W => Below wA.heap.size wA W ∧ W.cell? ⟨b, off + k * 3, none⟩ = some (.int .i64 f) ∧ W.cell? ⟨b, off + k * 3 + 1, none⟩ = some (.int .i64 l)) (first | exact KEEP.out _ ((Below.refl _ _).drew) | exact KEEP.out _ (‹Below wA.heap.size wA _ ∧ _›.1.trans (hb3.mono ‹Below wA.heap.size wA _ ∧ _›.1.size)))
        (first | (go_at_call 71; refine (l25Most_any f _ f0 f3).mono ?_; rintro e w3 ⟨rfl, hb3⟩))
      have hF : Below wA.heap.size wA w3 := (‹Below wA.heap.size wA _ ∧ _›).1
      have hbA := below_step2 HB0.out hF hs
      have hsA : w1.heap.size ≤ w3.heap.size := Nat.le_trans hs hF.size
      have hownA := HOW0.out.below hF
      have hgr3 : b < w3.heap.size := Nat.lt_of_lt_of_le hgr hF.size
      have r0 := (hF.cell (p := ⟨b, off + k * 3, none⟩) hgr).trans c0
      have r1 := (hF.cell (p := ⟨b, off + k * 3 + 1, none⟩) hgr).trans c1
      clear c0 c1
      go_wp2
      go_loopg [8, 7] k (fun gi i q wr => ∃ (j : Nat) (s : Bool), j ≤ k ∧ gi = k - j ∧ i = .int .i64 j ∧ q = .bool s ∧ Hid (silJ R k j = s) ∧ Below w3.heap.size w3 wr ∧ w3.heap.size ≤ wr.heap.size)
      case atStart => exact ⟨0, _, Nat.zero_le _, rfl, rfl, rfl, H0, Below.refl _ _, Nat.le_refl _⟩
      case round =>
        obtain ⟨j, s, hj, rfl, rfl, rfl, HS0, hbi, hsi⟩ := hrel
        by_cases hjk : j < k
        · have hjl : j < R.length := by omega
          have hbW := below_step2 hbA hbi hsA
          have hcell := HC.out
          have d0 : wr.cell? ⟨b, off + j * 3, none⟩ = some (.int .i64 R[j].field) := (hbW.cell (p := ⟨b, off + j * 3, none⟩) hbl).trans (by simpa [eRule, Nat.add_assoc] using hcell j hjl 0 _ (by decide) rfl)
          have d1 : wr.cell? ⟨b, off + j * 3 + 1, none⟩ = some (.int .i64 R[j].least) := (hbW.cell (p := ⟨b, off + j * 3 + 1, none⟩) hbl).trans (by simpa [eRule, Nat.add_assoc] using hcell j hjl 1 _ (by decide) rfl)
          have d2 : wr.cell? ⟨b, off + j * 3 + 2, none⟩ = some (.int .i64 R[j].grade) := (hbW.cell (p := ⟨b, off + j * 3 + 2, none⟩) hbl).trans (by simpa [eRule, Nat.add_assoc] using hcell j hjl 2 _ (by decide) rfl)
          have e0 := (hbi.cell (p := ⟨b, off + k * 3, none⟩) hgr3).trans r0
          have e1 := (hbi.cell (p := ⟨b, off + k * 3 + 1, none⟩) hgr3).trans r1
          have HD := Lib.hid (HSS.out j hjl)
          have HBI := Lib.hid hbi
          have hjI : (j : Int) < (R.length : Int) := by omega
          have hj0 : (0 : Int) ≤ (j : Int) := by omega
          clear hcell hbW hbi d2
          generalize R[j] = o at *
          obtain ⟨f2, l2, g2⟩ := o
          simp only at *
          rcases s
          · rcases g1 : (l2 == 0)
            · rcases g2' : (f2 == f)
              · have HE : Hid (silJ R k (j + 1) = false) := Lib.hid (by rw [HD.out, HS0.out, g1, g2']; simp)
                go_wp2
                go_quiet (fail)
                go_wp2
                go_roundg (k - (j + 1))
                case measure => omega
                case rel => exact ⟨j + 1, false, by omega, rfl, by go_num, rfl, HE, below_drewN' HBI.out _, hsi⟩
              rcases g3 : decide (l2 ≤ l)
              · have HE : Hid (silJ R k (j + 1) = false) := Lib.hid (by rw [HD.out, HS0.out, g1, g2', g3]; simp)
                go_wp2
                go_quiet (fail)
                go_wp2
                go_roundg (k - (j + 1))
                case measure => omega
                case rel => exact ⟨j + 1, false, by omega, rfl, by go_num, rfl, HE, below_drewN' HBI.out _, hsi⟩
              · have HE : Hid (silJ R k (j + 1) = true) := Lib.hid (by rw [HD.out, HS0.out, g1, g2', g3]; simp)
                go_wp2
                go_quiet (fail)
                go_wp2
                go_roundg (k - (j + 1))
                case measure => omega
                case rel => exact ⟨j + 1, true, by omega, rfl, by go_num, rfl, HE, below_drewN' HBI.out _, hsi⟩
            · have HE : Hid (silJ R k (j + 1) = true) := Lib.hid (by rw [HD.out, HS0.out, g1]; simp)
              go_wp2
              go_quiet (fail)
              go_wp2
              go_roundg (k - (j + 1))
              case measure => omega
              case rel => exact ⟨j + 1, true, by omega, rfl, by go_num, rfl, HE, below_drewN' HBI.out _, hsi⟩
          · have HE : Hid (silJ R k (j + 1) = true) := Lib.hid (by rw [HD.out, HS0.out]; simp)
            go_wp2
            go_quiet (fail)
            go_wp2
            go_roundg (k - (j + 1))
            case measure => omega
            case rel => exact ⟨j + 1, true, by omega, rfl, by go_num, rfl, HE, below_drewN' HBI.out _, hsi⟩
        · obtain rfl : j = k := by omega
          have HOW := Lib.hid (Own.below hownA hbi)
          have HBW := Lib.hid (below_step2 hbA hbi hsA)
          have hsW := Nat.le_trans hsA hsi
          have hl12 := silL_len R j
          clear hownA hbi hbA
          rcases s
          · go_wp2
            go_roundg (R.length - (j + 1))
            case measure => omega
            case rel => exact ⟨j + 1, by omega, rfl, by go_num, by rw [silL_no HS0.out]; exact HOW.out, HBW.out, hsW⟩
          · go_wp2_with (at_builtin; refine wpList_app eI rfl _ _ 44 rfl 2 (.int .i64 0) 8 Try.underlying44 info_i64 rfl (by decide) (by decide) w1.heap.size _ (silL R j) (by rfl) (by exact HOW.out) (by have := silL_len R j; omega) (by exact hsW) (j : Int) _ (by rfl) _ (by rfl) (by rfl) ?_)
            intro v' w' hown' hbw' _ _ hs'
            have HO2 := Lib.hid hown'
            have HB2 := Lib.hid (HBW.out.trans hbw')
            clear hown' hbw'
            go_wp2
            go_roundg (R.length - (j + 1))
            case measure => omega
            case rel => exact ⟨j + 1, by omega, rfl, by go_num, by rw [silL_yes HS0.out]; exact HO2.out, HB2.out, by omega⟩
    · obtain rfl : k = R.length := by omega
      go_wp2
      go_ret2
      rw [HR.out]
      exact ⟨_, rfl, hown.mono hs1, Below.step hb hb1⟩
end Go.Proofs.Ytncggcbpbejmcaa
