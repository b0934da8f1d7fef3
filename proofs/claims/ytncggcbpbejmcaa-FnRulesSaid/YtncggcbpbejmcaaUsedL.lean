/- Contracts of areUsed and of l25Code (chapter 25). No statement of the seat is proved here. -/
import Derived.Deep.DrawnRows
import Derived.Test.YtncggcbpbejmcaaGrade
namespace Go.Proofs.Ytncggcbpbejmcaa
open Go.RowKit

def areUsed (L : List Used) : Bool := decide (L.length ≤ 60) && L.all isUsed
theorem areUsed_at {L : List Used} (h : areUsed L = true) : L.length ≤ 60 ∧ ∀ (k : Nat) (hk : k < L.length), isUsed L[k] = true := by
  unfold areUsed at h
  rw [Bool.and_eq_true, decide_eq_true_eq, List.all_eq_true] at h
  exact ⟨h.1, fun k hk => h.2 _ (List.getElem_mem hk)⟩
set_option maxHeartbeats 2000000 in
set_option maxRecDepth 10000 in
theorem areUsed_any (v : Value) (L : List Used) (w : World) (hv : Sl eUsed w v L) (hq : ∀ x ∈ L, okUsed x) :
    Calls Try.prog 81 #[v] w fun e w' => e = .returned (.bool (areUsed L)) ∧ Below w.heap.size w w' := by
  obtain ⟨A, cap, rfl, _, hm, hc⟩ := hv.shape
  by_cases hbig : 60 < L.length
  · clear hc
    go_enter Try.func81, Try.ntmps81
    go_wp2
    go_ret
    exact ⟨ret_bool (by unfold areUsed; rw [decide_eq_false (by omega)]; rfl), Below.refl _ _⟩
  have HQ := Lib.hid hq
  clear hq
  go_enter Try.func81, Try.ntmps81
  go_wp2
  go_loopg [10] L.length (fun gi i wr => ∃ k : Nat, k ≤ L.length ∧ gi = L.length - k ∧ i = .int .i64 k ∧ Hid ((L.take k).all isUsed = true) ∧ Below w.heap.size w wr ∧ w.heap.size ≤ wr.heap.size)
  case atStart => exact ⟨0, Nat.zero_le _, rfl, rfl, Lib.hid rfl, Below.refl _ _, Nat.le_refl _⟩
  case round =>
    obtain ⟨k, hk, rfl, rfl, HA, hb, hs⟩ := hrel
    by_cases hlt : k < L.length
    · obtain ⟨b, off, rfl, hbl, hcell⟩ := hc (by omega)
      have c0 : wr.cell? ⟨b, off + k * 5, none⟩ = some (.string L[k].name) := (hb.cell (p := ⟨b, off + k * 5, none⟩) hbl).trans (by simpa [eUsed, Nat.add_assoc] using hcell k hlt 0 _ (by decide) rfl)
      have c1 : wr.cell? ⟨b, off + k * 5 + 1, none⟩ = some (.int .i64 L[k].hours) := (hb.cell (p := ⟨b, off + k * 5 + 1, none⟩) hbl).trans (by simpa [eUsed, Nat.add_assoc] using hcell k hlt 1 _ (by decide) rfl)
      have c2 : wr.cell? ⟨b, off + k * 5 + 2, none⟩ = some (.int .i64 L[k].play) := (hb.cell (p := ⟨b, off + k * 5 + 2, none⟩) hbl).trans (by simpa [eUsed, Nat.add_assoc] using hcell k hlt 2 _ (by decide) rfl)
      have c3 : wr.cell? ⟨b, off + k * 5 + 3, none⟩ = some (.int .i64 L[k].rust) := (hb.cell (p := ⟨b, off + k * 5 + 3, none⟩) hbl).trans (by simpa [eUsed, Nat.add_assoc] using hcell k hlt 3 _ (by decide) rfl)
      have c4 : wr.cell? ⟨b, off + k * 5 + 4, none⟩ = some (.int .i64 L[k].dents) := (hb.cell (p := ⟨b, off + k * 5 + 4, none⟩) hbl).trans (by simpa [eUsed, Nat.add_assoc] using hcell k hlt 4 _ (by decide) rfl)
      have hokx := HQ.out _ (List.getElem_mem hlt)
      have HB1 := Lib.hid (hb.alloc hs (.cells #[.string L[k].name, .int .i64 L[k].hours, .int .i64 L[k].play, .int .i64 L[k].rust, .int .i64 L[k].dents] 33))
      have hs1 : w.heap.size ≤ (wr.alloc (.cells #[.string L[k].name, .int .i64 L[k].hours, .int .i64 L[k].play, .int .i64 L[k].rust, .int .i64 L[k].dents] 33)).heap.size := by simp; omega
      clear hc hcell hb
      go_wp2_with fail
      refine (iIsUsed_any L[k] _ hokx).mono ?_
      rintro e w2 ⟨rfl, hb2⟩
      have hb3 := below_step2 HB1.out hb2 hs1
      have hs3 := hb3.size
      clear hb2
      rcases hI : isUsed L[k]
      · have HI := Lib.hid hI
        clear hI
        go_wp2
        go_ret
        exact ⟨ret_bool (by unfold areUsed; rw [all_false_at L k hlt isUsed HI.out]; simp), hb3⟩
      · have HI := Lib.hid hI
        clear hI
        go_wp2
        go_roundg (L.length - (k + 1))
        case measure => omega
        case rel => exact ⟨k + 1, by omega, rfl, by go_num, Lib.hid (all_take_succ L k hlt isUsed HA.out HI.out), hb3, hs3⟩
    · obtain rfl : k = L.length := by omega
      go_wp2
      go_ret
      exact ⟨ret_bool (by unfold areUsed; rw [all_of_take L _ (Nat.le_refl _) _ HA.out]; rw [decide_eq_true (by omega)]; rfl), hb⟩
def gBoth (R : List Rule) (L : List Used) : Bool := areRules R && areUsed L
theorem gBoth_1 {R : List Rule} {L : List Used} (h : areRules R = false) : gBoth R L = false := by unfold gBoth; rw [h]; rfl
theorem gBoth_2 {R : List Rule} {L : List Used} (h : areUsed L = false) : gBoth R L = false := by unfold gBoth; rw [h]; simp
theorem gBoth_ok {R : List Rule} {L : List Used} (h : areRules R = true) (h2 : areUsed L = true) : gBoth R L = true := by unfold gBoth; rw [h, h2]; rfl
theorem gBoth_of {R : List Rule} {L : List Used} (h : gBoth R L = true) : areRules R = true ∧ areUsed L = true := by unfold gBoth at h; simpa using h
theorem gBoth_nil (R : List Rule) : gBoth R [] = areRules R := by unfold gBoth areUsed; simp
theorem gBoth_one (R : List Rule) (x : Used) : gBoth R [x] = (areRules R && isUsed x) := by unfold gBoth areUsed; simp
def gCode (R : List Rule) (L : List Used) : Int := if gBoth R L then 0 else 1
theorem gCode_0 {R : List Rule} {L : List Used} (h : gBoth R L = true) : gCode R L = 0 := by unfold gCode; rw [h]; rfl
theorem gCode_1 {R : List Rule} {L : List Used} (h : gBoth R L = false) : gCode R L = 1 := by unfold gCode; rw [h]; rfl
set_option maxHeartbeats 2000000 in
set_option maxRecDepth 10000 in
theorem l25Code_any (v0 : Value) (R : List Rule) (v : Value) (L : List Used) (w : World) (hv0 : Sl eRule w v0 R) (hv : Sl eUsed w v L) (hq : ∀ x ∈ L, okUsed x) :
    Calls Try.prog 78 #[v0, v] w fun e w' => e = .returned (.int .i64 (gCode R L)) ∧ Below w.heap.size w w' := by
  obtain ⟨A, cap, rfl, _, hm, hc⟩ := hv.shape
  have HQ := Lib.hid hq
  have HV0 := Lib.hid hv0
  clear hq hv0
  go_enter Try.func78, Try.ntmps78
  go_wp2
  go_loopg [5] L.length (fun gi i wr => ∃ k : Nat, k ≤ L.length ∧ gi = L.length - k ∧ i = .int .i64 k ∧ Hid ((L.take k).all isUsed = true) ∧ Below w.heap.size w wr ∧ w.heap.size ≤ wr.heap.size)
  case atStart => exact ⟨0, Nat.zero_le _, rfl, rfl, Lib.hid rfl, Below.refl _ _, Nat.le_refl _⟩
  case round =>
    obtain ⟨k, hk, rfl, rfl, HA, hb, hs⟩ := hrel
    by_cases hlt : k < L.length
    · obtain ⟨b, off, rfl, hbl, hcell⟩ := hc (by omega)
      have c0 : wr.cell? ⟨b, off + k * 5, none⟩ = some (.string L[k].name) := (hb.cell (p := ⟨b, off + k * 5, none⟩) hbl).trans (by simpa [eUsed, Nat.add_assoc] using hcell k hlt 0 _ (by decide) rfl)
      have c1 : wr.cell? ⟨b, off + k * 5 + 1, none⟩ = some (.int .i64 L[k].hours) := (hb.cell (p := ⟨b, off + k * 5 + 1, none⟩) hbl).trans (by simpa [eUsed, Nat.add_assoc] using hcell k hlt 1 _ (by decide) rfl)
      have c2 : wr.cell? ⟨b, off + k * 5 + 2, none⟩ = some (.int .i64 L[k].play) := (hb.cell (p := ⟨b, off + k * 5 + 2, none⟩) hbl).trans (by simpa [eUsed, Nat.add_assoc] using hcell k hlt 2 _ (by decide) rfl)
      have c3 : wr.cell? ⟨b, off + k * 5 + 3, none⟩ = some (.int .i64 L[k].rust) := (hb.cell (p := ⟨b, off + k * 5 + 3, none⟩) hbl).trans (by simpa [eUsed, Nat.add_assoc] using hcell k hlt 3 _ (by decide) rfl)
      have c4 : wr.cell? ⟨b, off + k * 5 + 4, none⟩ = some (.int .i64 L[k].dents) := (hb.cell (p := ⟨b, off + k * 5 + 4, none⟩) hbl).trans (by simpa [eUsed, Nat.add_assoc] using hcell k hlt 4 _ (by decide) rfl)
      have hokx := HQ.out _ (List.getElem_mem hlt)
      have HB1 := Lib.hid hb
      clear hc hcell hb
      go_wp2_with fail
      refine (sIsUsed_any L[k] _ hokx).mono ?_
      rintro e w2 ⟨rfl, hb2⟩
      have hb3 := below_step2 HB1.out hb2 hs
      have hs3 := hb3.size
      clear hb2
      rcases hI : isUsed L[k]
      · have HI := Lib.hid hI
        clear hI
        go_wp2
        go_ret
        exact ⟨ret_int (gCode_1 (gBoth_2 (by unfold areUsed; rw [all_false_at L k hlt isUsed HI.out]; simp))).symm, hb3⟩
      · have HI := Lib.hid hI
        clear hI
        go_wp2
        go_roundg (L.length - (k + 1))
        case measure => omega
        case rel => exact ⟨k + 1, by omega, rfl, by go_num, Lib.hid (all_take_succ L k hlt isUsed HA.out HI.out), hb3, hs3⟩
    · obtain rfl : k = L.length := by omega
      have HAL := Lib.hid (all_of_take L _ (Nat.le_refl _) _ HA.out)
      have HB := Lib.hid hb
      clear hb hc
      go_wp2_with fail
      refine (sAreRules_any v0 R wr (HV0.out.below HB.out)).mono ?_
      rintro e w2 ⟨rfl, hb2⟩
      have HBF := Lib.hid (below_step2 HB.out hb2 hs)
      rcases hR : areRules R
      · have HR := Lib.hid hR
        clear hR
        go_wp2
        go_ret
        exact ⟨ret_int (gCode_1 (gBoth_1 HR.out)).symm, HBF.out⟩
      · have HR := Lib.hid hR
        clear hR
        by_cases h60 : 60 < L.length
        · go_wp2
          go_ret
          exact ⟨ret_int (gCode_1 (gBoth_2 (by unfold areUsed; rw [decide_eq_false (by omega)]; rfl))).symm, HBF.out⟩
        · go_wp2
          go_ret
          exact ⟨ret_int (gCode_0 (gBoth_ok HR.out (by unfold areUsed; rw [HAL.out, decide_eq_true (by omega)]; rfl))).symm, HBF.out⟩
end Go.Proofs.Ytncggcbpbejmcaa
