/- Contracts of AreRules (chapter 25). No statement of the seat is proved here. -/
import Derived.Test.YtncggcbpbejmcaaSRule
import Derived.Test.YtncggcbpbejmcaaWords
namespace Go.Proofs.Ytncggcbpbejmcaa
open Go.RowKit

theorem isGrade_eq {n : Int} {b : Bool} (h : inR n 0 4 = b) (w : World) : Calls Try.prog 68 #[.int .i64 n] w fun e w' => e = .returned (.bool b) ∧ w = w' := by
  subst h
  go_enter Try.func68, Try.ntmps68
  go_wp2_with (go_at_call 67; refine (within_any _ _ _ _).mono ?_; rintro e w' ⟨rfl, rfl⟩)
  go_ret
  exact ⟨rfl, rfl⟩
def ruleOk (x : Rule) : Bool := (inR x.field 0 3) && (inR x.least 0 100000) && (inR x.grade 0 4)
def areRules (xs : List Rule) : Bool := decide (xs.length ≤ 12) && xs.all ruleOk
set_option maxHeartbeats 4000000 in
set_option maxRecDepth 10000 in
theorem iAreRules_any (v : Value) (xs : List Rule) (w : World) (hv : Sl eRule w v xs) :
    Calls Try.prog 18 #[v] w fun e w' => e = .returned (.bool (areRules xs)) ∧ Below w.heap.size w w' := by
  obtain ⟨A, cap, rfl, _, hm, hc⟩ := hv.shape
  by_cases hbig : 12 < xs.length
  · clear hc
    go_enter Try.func18, Try.ntmps18
    go_wp2
    go_ret
    exact ⟨ret_bool (by unfold areRules; rw [decide_eq_false (by omega)]; rfl), Below.refl _ _⟩
  go_enter Try.func18, Try.ntmps18
  go_wp2
  go_loopg [10] xs.length (fun gi i wr => ∃ k : Nat, k ≤ xs.length ∧ gi = xs.length - k ∧ i = .int .i64 k ∧ Hid ((xs.take k).all ruleOk = true) ∧ Below w.heap.size w wr ∧ w.heap.size ≤ wr.heap.size)
  case atStart => exact ⟨0, Nat.zero_le _, rfl, rfl, Lib.hid rfl, Below.refl _ _, Nat.le_refl _⟩
  case round =>
    obtain ⟨k, hk, rfl, rfl, HA, hb, hs⟩ := hrel
    by_cases hlt : k < xs.length
    · obtain ⟨b, off, rfl, hbl, hcell⟩ := hc (by omega)
      have c0 : wr.cell? ⟨b, off + k * 3, none⟩ = some (.int .i64 xs[k].field) := (hb.cell (p := ⟨b, off + k * 3, none⟩) hbl).trans (by simpa [eRule, Nat.add_assoc] using hcell k hlt 0 _ (by decide) rfl)
      have c1 : wr.cell? ⟨b, off + k * 3 + 1, none⟩ = some (.int .i64 xs[k].least) := (hb.cell (p := ⟨b, off + k * 3 + 1, none⟩) hbl).trans (by simpa [eRule, Nat.add_assoc] using hcell k hlt 1 _ (by decide) rfl)
      have c2 : wr.cell? ⟨b, off + k * 3 + 2, none⟩ = some (.int .i64 xs[k].grade) := (hb.cell (p := ⟨b, off + k * 3 + 2, none⟩) hbl).trans (by simpa [eRule, Nat.add_assoc] using hcell k hlt 2 _ (by decide) rfl)
      have HD : Hid (ruleOk xs[k] = ((inR xs[k].field 0 3) && (inR xs[k].least 0 100000) && (inR xs[k].grade 0 4))) := Lib.hid rfl
      have HB := Lib.hid (hb.alloc hs (.cells #[.int .i64 xs[k].field, .int .i64 xs[k].least, .int .i64 xs[k].grade] 78))
      have HX := Lib.hid (all_take_succ xs k hlt ruleOk HA.out)
      have HF := Lib.hid (all_false_at xs k hlt ruleOk)
      clear hc hcell hb
      generalize xs[k] = x at *
      obtain ⟨f, l, g⟩ := x
      simp only at *
      rcases h1 : inR f 0 3
      · have H1 := Lib.hid h1
        clear h1
        go_wp2_with (first | (go_at_call_of 67 f; refine (within_eq H1.out _).mono ?_; rintro e w' ⟨rfl, rfl⟩))
        go_ret
        exact ⟨ret_bool (by unfold areRules; rw [HF.out (by rw [HD.out, H1.out]; simp)]; simp), HB.out⟩
      have H1 := Lib.hid h1
      clear h1
      rcases h2 : inR l 0 100000
      · have H2 := Lib.hid h2
        clear h2
        go_wp2_with (first | (go_at_call_of 67 f; refine (within_eq H1.out _).mono ?_; rintro e w' ⟨rfl, rfl⟩) | (go_at_call_of 67 l; refine (within_eq H2.out _).mono ?_; rintro e w' ⟨rfl, rfl⟩))
        go_ret
        exact ⟨ret_bool (by unfold areRules; rw [HF.out (by rw [HD.out, H1.out, H2.out]; simp)]; simp), HB.out⟩
      have H2 := Lib.hid h2
      clear h2
      rcases h3 : inR g 0 4
      · have H3 := Lib.hid h3
        clear h3
        go_wp2_with (first | (go_at_call_of 67 f; refine (within_eq H1.out _).mono ?_; rintro e w' ⟨rfl, rfl⟩) | (go_at_call_of 67 l; refine (within_eq H2.out _).mono ?_; rintro e w' ⟨rfl, rfl⟩) | (go_at_call_of 68 g; refine (isGrade_eq H3.out _).mono ?_; rintro e w' ⟨rfl, rfl⟩))
        go_ret
        exact ⟨ret_bool (by unfold areRules; rw [HF.out (by rw [HD.out, H1.out, H2.out, H3.out]; simp)]; simp), HB.out⟩
      have H3 := Lib.hid h3
      clear h3
      go_wp2_with (first | (go_at_call_of 67 f; refine (within_eq H1.out _).mono ?_; rintro e w' ⟨rfl, rfl⟩) | (go_at_call_of 67 l; refine (within_eq H2.out _).mono ?_; rintro e w' ⟨rfl, rfl⟩) | (go_at_call_of 68 g; refine (isGrade_eq H3.out _).mono ?_; rintro e w' ⟨rfl, rfl⟩))
      go_roundg (xs.length - (k + 1))
      case measure => omega
      case rel => exact ⟨k + 1, by omega, rfl, by go_num, Lib.hid (HX.out (by rw [HD.out, H1.out, H2.out, H3.out]; rfl)), HB.out, by simp; omega⟩
    · obtain rfl : k = xs.length := by omega
      go_wp2
      go_ret
      exact ⟨ret_bool (by unfold areRules; rw [all_of_take xs _ (Nat.le_refl _) _ HA.out, decide_eq_true (by omega)]; rfl), hb⟩
set_option maxHeartbeats 4000000 in
set_option maxRecDepth 10000 in
theorem sAreRules_any (v : Value) (xs : List Rule) (w : World) (hv : Sl eRule w v xs) :
    Calls Try.prog 16 #[v] w fun e w' => e = .returned (.bool (areRules xs)) ∧ Below w.heap.size w w' := by
  obtain ⟨A, cap, rfl, _, hm, hc⟩ := hv.shape
  go_enter Try.func16, Try.ntmps16
  go_wp2
  go_loopg [3] xs.length (fun gi i wr => ∃ k : Nat, k ≤ xs.length ∧ gi = xs.length - k ∧ i = .int .i64 k ∧ Hid ((xs.take k).all ruleOk = true) ∧ Below w.heap.size w wr ∧ w.heap.size ≤ wr.heap.size)
  case atStart => exact ⟨0, Nat.zero_le _, rfl, rfl, Lib.hid rfl, Below.refl _ _, Nat.le_refl _⟩
  case round =>
    obtain ⟨k, hk, rfl, rfl, HA, hb, hs⟩ := hrel
    by_cases hlt : k < xs.length
    · obtain ⟨b, off, rfl, hbl, hcell⟩ := hc (by omega)
      have c0 : wr.cell? ⟨b, off + k * 3, none⟩ = some (.int .i64 xs[k].field) := (hb.cell (p := ⟨b, off + k * 3, none⟩) hbl).trans (by simpa [eRule, Nat.add_assoc] using hcell k hlt 0 _ (by decide) rfl)
      have c1 : wr.cell? ⟨b, off + k * 3 + 1, none⟩ = some (.int .i64 xs[k].least) := (hb.cell (p := ⟨b, off + k * 3 + 1, none⟩) hbl).trans (by simpa [eRule, Nat.add_assoc] using hcell k hlt 1 _ (by decide) rfl)
      have c2 : wr.cell? ⟨b, off + k * 3 + 2, none⟩ = some (.int .i64 xs[k].grade) := (hb.cell (p := ⟨b, off + k * 3 + 2, none⟩) hbl).trans (by simpa [eRule, Nat.add_assoc] using hcell k hlt 2 _ (by decide) rfl)
      have HD : Hid (ruleOk xs[k] = ((inR xs[k].field 0 3) && (inR xs[k].least 0 100000) && (inR xs[k].grade 0 4))) := Lib.hid rfl
      have HB := Lib.hid (hb.alloc hs (.cells #[.int .i64 xs[k].field, .int .i64 xs[k].least, .int .i64 xs[k].grade] 78))
      have HX := Lib.hid (all_take_succ xs k hlt ruleOk HA.out)
      have HF := Lib.hid (all_false_at xs k hlt ruleOk)
      clear hc hcell hb
      generalize xs[k] = x at *
      obtain ⟨f, l, g⟩ := x
      simp only at *
      rcases h1 : inR f 0 3
      · have H1 := Lib.hid h1
        clear h1
        go_wp2_with (first | (go_at_call_of 65 f; refine (l01In_eq H1.out _).mono ?_; rintro e w' ⟨rfl, rfl⟩))
        go_ret
        exact ⟨ret_bool (by unfold areRules; rw [HF.out (by rw [HD.out, H1.out]; simp)]; simp), HB.out⟩
      have H1 := Lib.hid h1
      clear h1
      rcases h2 : inR l 0 100000
      · have H2 := Lib.hid h2
        clear h2
        go_wp2_with (first | (go_at_call_of 65 f; refine (l01In_eq H1.out _).mono ?_; rintro e w' ⟨rfl, rfl⟩) | (go_at_call_of 65 l; refine (l01In_eq H2.out _).mono ?_; rintro e w' ⟨rfl, rfl⟩))
        go_ret
        exact ⟨ret_bool (by unfold areRules; rw [HF.out (by rw [HD.out, H1.out, H2.out]; simp)]; simp), HB.out⟩
      have H2 := Lib.hid h2
      clear h2
      rcases h3 : inR g 0 4
      · have H3 := Lib.hid h3
        clear h3
        go_wp2_with (first | (go_at_call_of 65 f; refine (l01In_eq H1.out _).mono ?_; rintro e w' ⟨rfl, rfl⟩) | (go_at_call_of 65 l; refine (l01In_eq H2.out _).mono ?_; rintro e w' ⟨rfl, rfl⟩) | (go_at_call_of 65 g; refine (l01In_eq H3.out _).mono ?_; rintro e w' ⟨rfl, rfl⟩))
        go_ret
        exact ⟨ret_bool (by unfold areRules; rw [HF.out (by rw [HD.out, H1.out, H2.out, H3.out]; simp)]; simp), HB.out⟩
      have H3 := Lib.hid h3
      clear h3
      go_wp2_with (first | (go_at_call_of 65 f; refine (l01In_eq H1.out _).mono ?_; rintro e w' ⟨rfl, rfl⟩) | (go_at_call_of 65 l; refine (l01In_eq H2.out _).mono ?_; rintro e w' ⟨rfl, rfl⟩) | (go_at_call_of 65 g; refine (l01In_eq H3.out _).mono ?_; rintro e w' ⟨rfl, rfl⟩))
      go_roundg (xs.length - (k + 1))
      case measure => omega
      case rel => exact ⟨k + 1, by omega, rfl, by go_num, Lib.hid (HX.out (by rw [HD.out, H1.out, H2.out, H3.out]; rfl)), HB.out, by simp; omega⟩
    · obtain rfl : k = xs.length := by omega
      go_wp2
      go_ret
      exact ⟨ret_bool (by unfold areRules; rw [all_of_take xs _ (Nat.le_refl _) _ HA.out, Bool.and_true]; by_cases h : xs.length ≤ 12 <;> simp [h] <;> omega), hb⟩
def AreRules_r (xs : List Rule) : Bool := areRules xs
theorem iAreRules_law (v : Value) (xs : List Rule) (w : World) (hv : Sl eRule w v xs) (_ : xs.length ≤ 1048576) :
    Calls Try.prog 18 #[v] w fun e w' => e = .returned (.bool (AreRules_r xs)) ∧ Below w.heap.size w w' := iAreRules_any v xs w hv
theorem sAreRules_law (v : Value) (xs : List Rule) (w : World) (hv : Sl eRule w v xs) (_ : xs.length ≤ 1048576) :
    Calls Try.prog 16 #[v] w fun e w' => e = .returned (.bool (AreRules_r xs)) ∧ Below w.heap.size w w' := sAreRules_any v xs w hv
end Go.Proofs.Ytncggcbpbejmcaa
