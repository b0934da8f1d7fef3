/- Contracts of BestUsed (chapter 25). No statement of the seat is proved here. -/
import Derived.Deep.DrawnRows
import Derived.Test.YtncggcbpbejmcaaUsedL
import Derived.Test.YtncggcbpbejmcaaLGradeOf
namespace Go.Proofs.Ytncggcbpbejmcaa
open Go.RowKit

def hrs (L : List Used) (i : Nat) : Int := (L.getD i zUsed).hours
def gr (R : List Rule) (L : List Used) (i : Nat) : Int := gradeF R (L.getD i zUsed)
def better (R : List Rule) (L : List Used) (i j : Nat) : Bool := decide (gr R L i < gr R L j) || (gr R L i == gr R L j && decide (hrs L i < hrs L j))
def bestG (R : List Rule) (L : List Used) : Nat → Nat
  | 0 => 0
  | k + 1 => if better R L k (bestG R L k) then k else bestG R L k
theorem bestG_one (R : List Rule) (L : List Used) : bestG R L 1 = 0 := by unfold bestG; split <;> rfl
theorem bestG_lt (R : List Rule) (L : List Used) : ∀ k, 0 < k → bestG R L k < k
  | 1, _ => by rw [bestG_one]; omega
  | k + 2, _ => by
    have ih := bestG_lt R L (k + 1) (by omega)
    rw [bestG]
    split <;> omega
theorem bestG_yes {R : List Rule} {L : List Used} {k j : Nat} (h : bestG R L k = j) (h2 : better R L k j = true) : bestG R L (k + 1) = k := by rw [bestG, h, if_pos h2]
theorem bestG_no {R : List Rule} {L : List Used} {k j : Nat} (h : bestG R L k = j) (h2 : better R L k j = false) : bestG R L (k + 1) = j := by rw [bestG, h, if_neg (by rw [h2]; simp)]
theorem better_lt {R : List Rule} {L : List Used} {i j : Nat} (h : gr R L i < gr R L j) : better R L i j = true := by unfold better; rw [decide_eq_true h]; rfl
theorem better_eq {R : List Rule} {L : List Used} {i j : Nat} (h : gr R L i = gr R L j) (h2 : hrs L i < hrs L j) : better R L i j = true := by unfold better; rw [decide_eq_true h2, h]; simp
theorem better_gt {R : List Rule} {L : List Used} {i j : Nat} (h : gr R L j < gr R L i) : better R L i j = false := by
  unfold better
  rw [decide_eq_false (by omega), beq_eq_false_iff_ne.2 (by omega)]; rfl
theorem better_ge {R : List Rule} {L : List Used} {i j : Nat} (h : gr R L i = gr R L j) (h2 : ¬ hrs L i < hrs L j) : better R L i j = false := by
  unfold better
  rw [decide_eq_false (by omega), decide_eq_false h2]; simp
def BestUsed_r (R : List Rule) (L : List Used) : Int × Int := if gBoth R L then (if L.length = 0 then (0, 4) else ((bestG R L L.length : Nat), 0)) else (0, 1)
theorem BestUsed_bad {R : List Rule} {L : List Used} (h : gBoth R L = false) : BestUsed_r R L = (0, 1) := by unfold BestUsed_r; rw [h]; rfl
theorem BestUsed_none {R : List Rule} {L : List Used} (h : gBoth R L = true) (h2 : L.length = 0) : BestUsed_r R L = (0, 4) := by unfold BestUsed_r; rw [if_pos h, if_pos h2]
theorem BestUsed_ok {R : List Rule} {L : List Used} (h : gBoth R L = true) (h2 : L.length ≠ 0) {j : Nat} (h3 : bestG R L L.length = j) : BestUsed_r R L = ((j : Int), 0) := by unfold BestUsed_r; rw [if_pos h, if_neg h2, h3]
abbrev BestUsed_e (R : List Rule) (L : List Used) : Ending := .returned (.tuple #[.int .i64 (BestUsed_r R L).1, .int .i64 (BestUsed_r R L).2])
theorem BestUsed_e_of {R : List Rule} {L : List Used} {a b : Int} (h : BestUsed_r R L = (a, b)) : Ending.returned (.tuple #[.int .i64 a, .int .i64 b]) = BestUsed_e R L := by unfold BestUsed_e; rw [h]
theorem gr_at {R : List Rule} {L : List Used} {k : Nat} (hk : k < L.length) : gradeF R L[k] = gr R L k := by unfold gr; rw [getD_at _ _ _ hk]
theorem hrs_at {L : List Used} {k : Nat} (hk : k < L.length) : L[k].hours = hrs L k := by unfold hrs; rw [getD_at _ _ _ hk]
set_option maxHeartbeats 4000000 in
set_option maxRecDepth 20000 in
theorem iBestUsed_law (v : Value) (R : List Rule) (u : Value) (L : List Used) (w : World) (hv : Sl eRule w v R) (_ : R.length ≤ 1048576) (hu : Sl eUsed w u L) (_ : L.length ≤ 1048576) (hq : ∀ x ∈ L, okUsed x) :
    Calls Try.prog 43 #[v, u] w fun e w' => e = BestUsed_e R L ∧ Below w.heap.size w w' := by
  rcases hA : areRules R
  · have HR := Lib.hid (BestUsed_bad (gBoth_1 (L := L) hA))
    have HA := Lib.hid hA
    clear hA
    go_enter Try.func43, Try.ntmps43
    go_wp2_with fail
    refine (iAreRules_any v R w hv).mono ?_
    rintro e w1 ⟨rfl, hb⟩
    rw [HA.out]
    go_wp2
    go_ret2
    exact ⟨BestUsed_e_of HR.out, hb⟩
  rcases hU : areUsed L
  · have HR := Lib.hid (BestUsed_bad (gBoth_2 (R := R) hU))
    have HA := Lib.hid hA
    have HU := Lib.hid hU
    clear hA hU
    go_enter Try.func43, Try.ntmps43
    go_wp2_with fail
    refine (iAreRules_any v R w hv).mono ?_
    rintro e w1 ⟨rfl, hb⟩
    rw [HA.out]
    have hu1 := hu.below hb
    go_wp2_with fail
    refine (areUsed_any u L w1 hu1 hq).mono ?_
    rintro e w2 ⟨rfl, hb2⟩
    rw [HU.out]
    go_wp2
    go_ret2
    exact ⟨BestUsed_e_of HR.out, Below.step hb hb2⟩
  · have HOK := Lib.hid (gBoth_ok hA hU)
    have h60 := (areUsed_at hU).1
    have HA := Lib.hid hA
    have HU := Lib.hid hU
    clear hA hU
    go_enter Try.func43, Try.ntmps43
    go_wp2_with fail
    refine (iAreRules_any v R w hv).mono ?_
    rintro e w1 ⟨rfl, hb⟩
    rw [HA.out]
    have hu1 := hu.below hb
    go_wp2_with fail
    refine (areUsed_any u L w1 hu1 hq).mono ?_
    rintro e w2 ⟨rfl, hb2⟩
    rw [HU.out]
    have HV2 := Lib.hid ((hv.below hb).below hb2)
    have HBW := Lib.hid (Below.step hb hb2)
    have hsW := HBW.out.size
    obtain ⟨A, cap, rfl, _, hm, hc⟩ := (hu1.below hb2).shape
    clear hv hu hu1 hb hb2
    go_wp2
    go_loopg [22, 6, 7] L.length (fun gi i p q wr => ∃ (k : Nat) (bst lst : Int), k ≤ L.length ∧ gi = L.length - k ∧ i = .int .i64 k ∧ p = .int .i64 bst ∧ q = .int .i64 lst ∧ ((k = 0 ∧ bst = -1 ∧ lst = 0) ∨ (0 < k ∧ ∃ j : Nat, bst = (j : Int) ∧ j < k ∧ Hid (bestG R L k = j) ∧ Hid (gr R L j = lst))) ∧ Below w2.heap.size w2 wr ∧ w2.heap.size ≤ wr.heap.size)
    case atStart => exact ⟨0, -1, 0, Nat.zero_le _, rfl, rfl, rfl, rfl, .inl ⟨rfl, rfl, rfl⟩, Below.refl _ _, Nat.le_refl _⟩
    case round =>
      obtain ⟨k, bst, lst, hk, rfl, rfl, rfl, rfl, hcase, hb, hs⟩ := hrel
      by_cases hlt : k < L.length
      · obtain ⟨b, off, rfl, hbl, hcell⟩ := hc (by omega)
        have c0 : wr.cell? ⟨b, off + k * 5, none⟩ = some (.string L[k].name) := (hb.cell (p := ⟨b, off + k * 5, none⟩) hbl).trans (by simpa [eUsed, Nat.add_assoc] using hcell k hlt 0 _ (by decide) rfl)
        have c1 : wr.cell? ⟨b, off + k * 5 + 1, none⟩ = some (.int .i64 L[k].hours) := (hb.cell (p := ⟨b, off + k * 5 + 1, none⟩) hbl).trans (by simpa [eUsed, Nat.add_assoc] using hcell k hlt 1 _ (by decide) rfl)
        have c2 : wr.cell? ⟨b, off + k * 5 + 2, none⟩ = some (.int .i64 L[k].play) := (hb.cell (p := ⟨b, off + k * 5 + 2, none⟩) hbl).trans (by simpa [eUsed, Nat.add_assoc] using hcell k hlt 2 _ (by decide) rfl)
        have c3 : wr.cell? ⟨b, off + k * 5 + 3, none⟩ = some (.int .i64 L[k].rust) := (hb.cell (p := ⟨b, off + k * 5 + 3, none⟩) hbl).trans (by simpa [eUsed, Nat.add_assoc] using hcell k hlt 3 _ (by decide) rfl)
        have c4 : wr.cell? ⟨b, off + k * 5 + 4, none⟩ = some (.int .i64 L[k].dents) := (hb.cell (p := ⟨b, off + k * 5 + 4, none⟩) hbl).trans (by simpa [eUsed, Nat.add_assoc] using hcell k hlt 4 _ (by decide) rfl)
        have hbx := hb.alloc hs (.cells #[.string L[k].name, .int .i64 L[k].hours, .int .i64 L[k].play, .int .i64 L[k].rust, .int .i64 L[k].dents] 33)
        have hsx : w2.heap.size ≤ (wr.alloc (.cells #[.string L[k].name, .int .i64 L[k].hours, .int .i64 L[k].play, .int .i64 L[k].rust, .int .i64 L[k].dents] 33)).heap.size := by simp; omega
        have HGKK := Lib.hid (gr_at (R := R) hlt)
        have HHK := Lib.hid (hrs_at hlt)
        go_wp2_with fail
        refine (gradeOf_any v R L[k] _ (HV2.out.below hbx)).mono ?_
        rintro e w3 ⟨rfl, hb3⟩
        obtain ⟨⟨_, bh, _⟩, hb3w, hs3w⟩ := usedBox hb3
        have hbF := below_step2 hbx hb3 hsx
        have hsF := Nat.le_trans hsx hb3.size
        unfold Grade_e
        rw [HGKK.out]
        rw [HHK.out] at bh
        rcases hcase with ⟨rfl, rfl, rfl⟩ | ⟨hk0, j, rfl, hjk, HJ, HG⟩
        · have HB := Lib.hid hbF
          clear hbF hb3 hb3w hbx hb hc hcell
          go_wp2
          go_quiet (fail)
          go_wp2
          go_roundg (L.length - 1)
          case measure => omega
          case rel => exact ⟨1, 0, _, by omega, rfl, by go_num, rfl, rfl, .inr ⟨by omega, 0, rfl, by omega, Lib.hid (bestG_one R L), Lib.hid rfl⟩, below_drewN' HB.out _, hsF⟩
        · have hjl : j < L.length := by omega
          have HHJ := Lib.hid (hrs_at hjl)
          have cj : w3.cell? ⟨b, off + j * 5 + 1, none⟩ = some (.int .i64 L[j].hours) := (hbF.cell (p := ⟨b, off + j * 5 + 1, none⟩) hbl).trans (by simpa [eUsed, Nat.add_assoc] using hcell j hjl 1 _ (by decide) rfl)
          rw [HHJ.out] at cj
          have HB := Lib.hid hbF
          have HBY := Lib.hid (bestG_yes HJ.out)
          have HBN := Lib.hid (bestG_no HJ.out)
          have HLT := Lib.hid (better_lt (R := R) (L := L) (i := k) (j := j))
          have HEQ := Lib.hid (better_eq (R := R) (L := L) (i := k) (j := j))
          have HGT := Lib.hid (better_gt (R := R) (L := L) (i := k) (j := j))
          have HGE := Lib.hid (better_ge (R := R) (L := L) (i := k) (j := j))
          have HGJ := HG.out
          rw [HGJ] at HLT HEQ HGT HGE
          have hd1 : decide ((j : Int) < 0) = false := decide_eq_false (by omega)
          have hjI : (0 : Int) ≤ (j : Int) := by omega
          have hjL : (j : Int) < (L.length : Int) := by omega
          clear hbF hb3 hb3w hbx hb hc hcell HGJ
          generalize hrs L k = hk' at *
          generalize hrs L j = hj' at *
          by_cases g1 : gr R L k < lst
          · go_wp2
            go_quiet (fail)
            go_wp2
            go_roundg (L.length - (k + 1))
            case measure => omega
            case rel => exact ⟨k + 1, k, _, by omega, rfl, by go_num, rfl, rfl, .inr ⟨by omega, k, rfl, by omega, Lib.hid (HBY.out (HLT.out g1)), Lib.hid rfl⟩, below_drewN' HB.out _, hsF⟩
          · have d1 : decide (gr R L k < lst) = false := decide_eq_false g1
            by_cases g2 : gr R L k = lst
            · have d2 : (gr R L k == lst) = true := beq_iff_eq.2 g2
              by_cases g3 : hk' < hj'
              · have HG2 := Lib.hid (HBY.out (HEQ.out g2 g3))
                clear g2
                go_wp2
                go_quiet (fail)
                go_wp2
                go_roundg (L.length - (k + 1))
                case measure => omega
                case rel => exact ⟨k + 1, k, _, by omega, rfl, by go_num, rfl, rfl, .inr ⟨by omega, k, rfl, by omega, HG2, Lib.hid rfl⟩, below_drewN' HB.out _, hsF⟩
              · have HG2 := Lib.hid (HBN.out (HGE.out g2 g3))
                have d3 : decide (hk' < hj') = false := decide_eq_false g3
                clear g2
                go_wp2
                go_quiet (fail)
                go_wp2
                go_roundg (L.length - (k + 1))
                case measure => omega
                case rel => exact ⟨k + 1, j, lst, by omega, rfl, by go_num, rfl, rfl, .inr ⟨by omega, j, rfl, by omega, HG2, HG⟩, below_drewN' HB.out _, hsF⟩
            · have d2 : (gr R L k == lst) = false := beq_eq_false_iff_ne.2 g2
              have HG2 := Lib.hid (HBN.out (HGT.out (by omega)))
              go_wp2
              go_quiet (fail)
              go_wp2
              go_roundg (L.length - (k + 1))
              case measure => omega
              case rel => exact ⟨k + 1, j, lst, by omega, rfl, by go_num, rfl, rfl, .inr ⟨by omega, j, rfl, by omega, HG2, HG⟩, below_drewN' HB.out _, hsF⟩
      · obtain rfl : k = L.length := by omega
        rcases hcase with ⟨h0, rfl, rfl⟩ | ⟨hk0, j, rfl, hjk, HJ, HG⟩
        · have HN := Lib.hid (BestUsed_none HOK.out h0)
          clear h0
          go_wp2
          go_ret2
          exact ⟨BestUsed_e_of HN.out, below_step2 HBW.out hb hsW⟩
        · have HN := Lib.hid (BestUsed_ok HOK.out (by omega) HJ.out)
          have hd1 : decide ((j : Int) < 0) = false := decide_eq_false (by omega)
          go_wp2
          go_ret2
          exact ⟨BestUsed_e_of HN.out, below_step2 HBW.out hb hsW⟩
set_option maxHeartbeats 4000000 in
set_option maxRecDepth 20000 in
theorem sBestUsed_law (v : Value) (R : List Rule) (u : Value) (L : List Used) (w : World) (hv : Sl eRule w v R) (_ : R.length ≤ 1048576) (hu : Sl eUsed w u L) (_ : L.length ≤ 1048576) (hq : ∀ x ∈ L, okUsed x) :
    Calls Try.prog 41 #[v, u] w fun e w' => e = BestUsed_e R L ∧ Below w.heap.size w w' := by
  rcases hA : gBoth R L
  · have HR := Lib.hid (BestUsed_bad hA)
    have HC := Lib.hid (gCode_1 hA)
    clear hA
    go_enter Try.func41, Try.ntmps41
    go_wp2_with fail
    refine (l25Code_any v R u L w hv hu hq).mono ?_
    rintro e w1 ⟨rfl, hb⟩
    rw [HC.out]
    go_wp2
    go_ret2
    exact ⟨BestUsed_e_of HR.out, hb⟩
  · obtain ⟨hA1, hU1⟩ := gBoth_of hA
    have HOK := Lib.hid hA
    have h60 := (areUsed_at hU1).1
    have HC := Lib.hid (gCode_0 hA)
    have HA := Lib.hid hA1
    clear hA hA1 hU1
    go_enter Try.func41, Try.ntmps41
    go_wp2_with fail
    refine (l25Code_any v R u L w hv hu hq).mono ?_
    rintro e w1 ⟨rfl, hb⟩
    rw [HC.out]
    have HV2 := Lib.hid (hv.below hb)
    have HBW := Lib.hid hb
    have hsW := HBW.out.size
    obtain ⟨A, cap, rfl, _, hm, hc⟩ := (hu.below hb).shape
    clear hv hu hb
    by_cases h0 : L.length = 0
    · have HN := Lib.hid (BestUsed_none HOK.out h0)
      have he : ((L.length : Int) == 0) = true := beq_iff_eq.2 (by omega)
      clear h0
      go_wp2
      go_ret2
      exact ⟨BestUsed_e_of HN.out, HBW.out⟩
    have he : ((L.length : Int) == 0) = false := beq_eq_false_iff_ne.2 (by omega)
    have H0 := Lib.hid h0
    have hpos : 0 < L.length := by omega
    clear h0
    go_wp2
    go_loopg [8, 7] L.length (fun gi i p wr => ∃ (k j : Nat), k ≤ L.length ∧ gi = L.length - k ∧ i = .int .i64 k ∧ p = .int .i64 j ∧ j < L.length ∧ Hid (bestG R L k = j) ∧ Below w1.heap.size w1 wr ∧ w1.heap.size ≤ wr.heap.size)
    case atStart => exact ⟨0, 0, Nat.zero_le _, rfl, rfl, rfl, hpos, Lib.hid rfl, Below.refl _ _, Nat.le_refl _⟩
    case round =>
      obtain ⟨k, j, hk, rfl, rfl, rfl, hjl, HJ, hb, hs⟩ := hrel
      by_cases hlt : k < L.length
      · obtain ⟨b, off, rfl, hbl, hcell⟩ := hc (by omega)
        have c0 : wr.cell? ⟨b, off + k * 5, none⟩ = some (.string L[k].name) := (hb.cell (p := ⟨b, off + k * 5, none⟩) hbl).trans (by simpa [eUsed, Nat.add_assoc] using hcell k hlt 0 _ (by decide) rfl)
        have c1 : wr.cell? ⟨b, off + k * 5 + 1, none⟩ = some (.int .i64 L[k].hours) := (hb.cell (p := ⟨b, off + k * 5 + 1, none⟩) hbl).trans (by simpa [eUsed, Nat.add_assoc] using hcell k hlt 1 _ (by decide) rfl)
        have c2 : wr.cell? ⟨b, off + k * 5 + 2, none⟩ = some (.int .i64 L[k].play) := (hb.cell (p := ⟨b, off + k * 5 + 2, none⟩) hbl).trans (by simpa [eUsed, Nat.add_assoc] using hcell k hlt 2 _ (by decide) rfl)
        have c3 : wr.cell? ⟨b, off + k * 5 + 3, none⟩ = some (.int .i64 L[k].rust) := (hb.cell (p := ⟨b, off + k * 5 + 3, none⟩) hbl).trans (by simpa [eUsed, Nat.add_assoc] using hcell k hlt 3 _ (by decide) rfl)
        have c4 : wr.cell? ⟨b, off + k * 5 + 4, none⟩ = some (.int .i64 L[k].dents) := (hb.cell (p := ⟨b, off + k * 5 + 4, none⟩) hbl).trans (by simpa [eUsed, Nat.add_assoc] using hcell k hlt 4 _ (by decide) rfl)
        have HGKK := Lib.hid (gr_at (R := R) hlt)
        have HGJJ := Lib.hid (gr_at (R := R) hjl)
        have HHK := Lib.hid (hrs_at hlt)
        have HHJ := Lib.hid (hrs_at hjl)
        have hjI : (0 : Int) ≤ (j : Int) := by omega
        have hjL : (j : Int) < (L.length : Int) := by omega
        have hkI : (0 : Int) ≤ (k : Int) := by omega
        have hkL : (k : Int) < (L.length : Int) := by omega
        go_wp2_with fail
        refine (l25Grade_any v R L[k] _ (HV2.out.below hb) HA.out).mono ?_
        rintro e w3 ⟨rfl, hb3⟩
        have hbF := below_step2 hb hb3 hs
        have hsF := Nat.le_trans hs hb3.size
        have d0 : w3.cell? ⟨b, off + j * 5, none⟩ = some (.string L[j].name) := (hbF.cell (p := ⟨b, off + j * 5, none⟩) hbl).trans (by simpa [eUsed, Nat.add_assoc] using hcell j hjl 0 _ (by decide) rfl)
        have d1 : w3.cell? ⟨b, off + j * 5 + 1, none⟩ = some (.int .i64 L[j].hours) := (hbF.cell (p := ⟨b, off + j * 5 + 1, none⟩) hbl).trans (by simpa [eUsed, Nat.add_assoc] using hcell j hjl 1 _ (by decide) rfl)
        have d2 : w3.cell? ⟨b, off + j * 5 + 2, none⟩ = some (.int .i64 L[j].play) := (hbF.cell (p := ⟨b, off + j * 5 + 2, none⟩) hbl).trans (by simpa [eUsed, Nat.add_assoc] using hcell j hjl 2 _ (by decide) rfl)
        have d3 : w3.cell? ⟨b, off + j * 5 + 3, none⟩ = some (.int .i64 L[j].rust) := (hbF.cell (p := ⟨b, off + j * 5 + 3, none⟩) hbl).trans (by simpa [eUsed, Nat.add_assoc] using hcell j hjl 3 _ (by decide) rfl)
        have d4 : w3.cell? ⟨b, off + j * 5 + 4, none⟩ = some (.int .i64 L[j].dents) := (hbF.cell (p := ⟨b, off + j * 5 + 4, none⟩) hbl).trans (by simpa [eUsed, Nat.add_assoc] using hcell j hjl 4 _ (by decide) rfl)
        unfold Grade_e
        rw [HGKK.out]
        go_wp2_with fail
        refine (l25Grade_any v R L[j] _ (HV2.out.below hbF) HA.out).mono ?_
        rintro e w4 ⟨rfl, hb4⟩
        have hbF2 := below_step2 hbF hb4 hsF
        have hsF2 := Nat.le_trans hsF hb4.size
        unfold Grade_e
        rw [HGJJ.out]
        have ck : w4.cell? ⟨b, off + k * 5 + 1, none⟩ = some (.int .i64 L[k].hours) := (hbF2.cell (p := ⟨b, off + k * 5 + 1, none⟩) hbl).trans (by simpa [eUsed, Nat.add_assoc] using hcell k hlt 1 _ (by decide) rfl)
        have cj : w4.cell? ⟨b, off + j * 5 + 1, none⟩ = some (.int .i64 L[j].hours) := (hbF2.cell (p := ⟨b, off + j * 5 + 1, none⟩) hbl).trans (by simpa [eUsed, Nat.add_assoc] using hcell j hjl 1 _ (by decide) rfl)
        rw [HHK.out] at ck
        rw [HHJ.out] at cj
        have HB := Lib.hid hbF2
        have HBY := Lib.hid (bestG_yes HJ.out)
        have HBN := Lib.hid (bestG_no HJ.out)
        have HLT := Lib.hid (better_lt (R := R) (L := L) (i := k) (j := j))
        have HEQ := Lib.hid (better_eq (R := R) (L := L) (i := k) (j := j))
        have HGT := Lib.hid (better_gt (R := R) (L := L) (i := k) (j := j))
        have HGE := Lib.hid (better_ge (R := R) (L := L) (i := k) (j := j))
        clear hbF hbF2 hb3 hb4 hb hc hcell
        generalize hrs L k = hk' at *
        generalize hrs L j = hj' at *
        generalize gr R L k = gk at *
        generalize gr R L j = gj at *
        by_cases g1 : gk < gj
        · go_wp2
          go_quiet (fail)
          go_wp2
          go_roundg (L.length - (k + 1))
          case measure => omega
          case rel => exact ⟨k + 1, k, by omega, rfl, by go_num, rfl, hlt, Lib.hid (HBY.out (HLT.out g1)), below_drewN' HB.out _, hsF2⟩
        · have d1 : decide (gk < gj) = false := decide_eq_false g1
          by_cases g2 : gk = gj
          · have d2 : (gk == gj) = true := beq_iff_eq.2 g2
            by_cases g3 : hk' < hj'
            · have HG2 := Lib.hid (HBY.out (HEQ.out g2 g3))
              clear g2
              go_wp2
              go_quiet (fail)
              go_wp2
              go_roundg (L.length - (k + 1))
              case measure => omega
              case rel => exact ⟨k + 1, k, by omega, rfl, by go_num, rfl, hlt, HG2, below_drewN' HB.out _, hsF2⟩
            · have HG2 := Lib.hid (HBN.out (HGE.out g2 g3))
              have d3 : decide (hk' < hj') = false := decide_eq_false g3
              clear g2
              go_wp2
              go_quiet (fail)
              go_wp2
              go_roundg (L.length - (k + 1))
              case measure => omega
              case rel => exact ⟨k + 1, j, by omega, rfl, by go_num, rfl, hjl, HG2, below_drewN' HB.out _, hsF2⟩
          · have d2 : (gk == gj) = false := beq_eq_false_iff_ne.2 g2
            have HG2 := Lib.hid (HBN.out (HGT.out (by omega)))
            go_wp2
            go_quiet (fail)
            go_wp2
            go_roundg (L.length - (k + 1))
            case measure => omega
            case rel => exact ⟨k + 1, j, by omega, rfl, by go_num, rfl, hjl, HG2, below_drewN' HB.out _, hsF2⟩
      · obtain rfl : k = L.length := by omega
        have HN := Lib.hid (BestUsed_ok HOK.out H0.out HJ.out)
        go_wp2
        go_ret2
        exact ⟨BestUsed_e_of HN.out, below_step2 HBW.out hb hsW⟩
end Go.Proofs.Ytncggcbpbejmcaa
