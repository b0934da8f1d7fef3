/- Contracts of isItem and AreItems (chapter 27). No statement of the seat is proved here. -/
import Derived.Test.YtfiapefkomolmaaSItem
import Derived.Test.YtfiapefkomolmaaWords
namespace Go.Proofs.Ytfiapefkomolmaa
open Go.RowKit

def isItemB (x : Item) : Bool := isWord x.name && inR x.pieces 1 1000 && inR x.cents 0 1000000
def areItems (xs : List Item) : Bool := decide (xs.length ≤ 20) && xs.all isItemB

theorem iItem_any (x : Item) (w : World) (hx : okItem x) :
    Calls Try.prog 61 #[.agg #[.string x.name, .int .i64 x.pieces, .int .i64 x.cents, .bool x.work]] w fun e w' => e = .returned (.bool (isItemB x)) ∧ Below w.heap.size w w' := by
  unfold isItemB
  obtain ⟨nm, pc, ct, wk⟩ := x
  simp only at *
  rcases hA : isWord nm <;> rcases hB : inR pc 1 1000 <;> rcases hC : inR ct 0 1000000
  all_goals
    have HA := Lib.hid hA
    have HB := Lib.hid hB
    have HC := Lib.hid hC
    clear hA hB hC
    go_enter Try.func61, Try.ntmps61
    go_wp2_with (first
      | (go_at_call 82; refine (iIsWord_eq hx HA.out _).mono ?_; rintro e w' ⟨rfl, rfl⟩)
      | (go_at_call_of 56 pc; refine (within_eq HB.out _).mono ?_; rintro e w' ⟨rfl, rfl⟩)
      | (go_at_call_of 56 ct; refine (within_eq HC.out _).mono ?_; rintro e w' ⟨rfl, rfl⟩))
    go_ret
    refine ⟨rfl, ?_⟩
    go_grown

theorem sItem_any (x : Item) (w : World) (hx : okItem x) :
    Calls Try.prog 59 #[.agg #[.string x.name, .int .i64 x.pieces, .int .i64 x.cents, .bool x.work]] w fun e w' => e = .returned (.bool (isItemB x)) ∧ Below w.heap.size w w' := by
  unfold isItemB
  obtain ⟨nm, pc, ct, wk⟩ := x
  simp only at *
  rcases hA : isWord nm <;> rcases hB : inR pc 1 1000 <;> rcases hC : inR ct 0 1000000
  all_goals
    have HA := Lib.hid hA
    have HB := Lib.hid hB
    have HC := Lib.hid hC
    clear hA hB hC
    go_enter Try.func59, Try.ntmps59
    go_wp2_with (first
      | (go_at_call 80; refine (sIsWord_eq hx HA.out _).mono ?_; rintro e w' ⟨rfl, rfl⟩)
      | (go_at_call_of 55 pc; refine (l01In_eq HB.out _).mono ?_; rintro e w' ⟨rfl, rfl⟩)
      | (go_at_call_of 55 ct; refine (l01In_eq HC.out _).mono ?_; rintro e w' ⟨rfl, rfl⟩))
    go_ret
    refine ⟨rfl, ?_⟩
    go_grown

set_option maxHeartbeats 2000000 in
set_option maxRecDepth 10000 in
theorem iAreItems_any (v : Value) (xs : List Item) (w : World) (hv : Sl eItem w v xs) (hq : ∀ x ∈ xs, okItem x) :
    Calls Try.prog 32 #[v] w fun e w' => e = .returned (.bool (areItems xs)) ∧ Below w.heap.size w w' := by
  obtain ⟨A, cap, rfl, _, hm, hc⟩ := hv.shape
  by_cases hbig : 20 < xs.length
  · clear hc
    go_enter Try.func32, Try.ntmps32
    go_wp2
    go_ret
    exact ⟨ret_bool (by unfold areItems; rw [decide_eq_false (by omega)]; rfl), Below.refl _ _⟩
  have HQ := Lib.hid hq
  clear hq
  go_enter Try.func32, Try.ntmps32
  go_wp2
  go_loopg [10] xs.length (fun gi i wr => ∃ k : Nat, k ≤ xs.length ∧ gi = xs.length - k ∧ i = .int .i64 k ∧ Hid ((xs.take k).all isItemB = true) ∧ Below w.heap.size w wr ∧ w.heap.size ≤ wr.heap.size)
  case atStart => exact ⟨0, Nat.zero_le _, rfl, rfl, Lib.hid rfl, Below.refl _ _, Nat.le_refl _⟩
  case round =>
    obtain ⟨k, hk, rfl, rfl, HA, hb, hs⟩ := hrel
    by_cases hlt : k < xs.length
    · obtain ⟨b, off, rfl, hbl, hcell⟩ := hc (by omega)
      have c0 : wr.cell? ⟨b, off + k * 4, none⟩ = some (.string xs[k].name) := (hb.cell (p := ⟨b, off + k * 4, none⟩) hbl).trans (by simpa [eItem, Nat.add_assoc] using hcell k hlt 0 _ (by decide) rfl)
      have c1 : wr.cell? ⟨b, off + k * 4 + 1, none⟩ = some (.int .i64 xs[k].pieces) := (hb.cell (p := ⟨b, off + k * 4 + 1, none⟩) hbl).trans (by simpa [eItem, Nat.add_assoc] using hcell k hlt 1 _ (by decide) rfl)
      have c2 : wr.cell? ⟨b, off + k * 4 + 2, none⟩ = some (.int .i64 xs[k].cents) := (hb.cell (p := ⟨b, off + k * 4 + 2, none⟩) hbl).trans (by simpa [eItem, Nat.add_assoc] using hcell k hlt 2 _ (by decide) rfl)
      have c3 : wr.cell? ⟨b, off + k * 4 + 3, none⟩ = some (.bool xs[k].work) := (hb.cell (p := ⟨b, off + k * 4 + 3, none⟩) hbl).trans (by simpa [eItem, Nat.add_assoc] using hcell k hlt 3 _ (by decide) rfl)
      have hokx := HQ.out _ (List.getElem_mem hlt)
      have hb1 : Below w.heap.size w (wr.alloc (.cells #[.string xs[k].name, .int .i64 xs[k].pieces, .int .i64 xs[k].cents, .bool xs[k].work] 40)) := hb.alloc hs _
      have hs1 : w.heap.size ≤ (wr.alloc (.cells #[.string xs[k].name, .int .i64 xs[k].pieces, .int .i64 xs[k].cents, .bool xs[k].work] 40)).heap.size := by simp; omega
      have HB1 := Lib.hid hb1
      clear hc hcell hb hb1
      go_wp2_with fail
      refine (iItem_any xs[k] _ hokx).mono ?_
      rintro e w2 ⟨rfl, hb2⟩
      have hb3 := below_step2 HB1.out hb2 hs1
      have hs3 := hb3.size
      clear hb2
      rcases hI : isItemB xs[k]
      · have HI := Lib.hid hI
        clear hI
        go_wp2
        go_ret
        exact ⟨ret_bool (by unfold areItems; rw [all_false_at xs k hlt isItemB HI.out]; simp), hb3⟩
      · have HI := Lib.hid hI
        clear hI
        go_wp2
        go_roundg (xs.length - (k + 1))
        case measure => omega
        case rel => exact ⟨k + 1, by omega, rfl, by go_num, Lib.hid (all_take_succ xs k hlt isItemB HA.out HI.out), hb3, hs3⟩
    · obtain rfl : k = xs.length := by omega
      go_wp2
      go_ret
      exact ⟨ret_bool (by unfold areItems; rw [all_of_take xs _ (Nat.le_refl _) _ HA.out]; rw [decide_eq_true (by omega)]; rfl), hb⟩

set_option maxHeartbeats 2000000 in
set_option maxRecDepth 10000 in
theorem sAreItems_any (v : Value) (xs : List Item) (w : World) (hv : Sl eItem w v xs) (hq : ∀ x ∈ xs, okItem x) :
    Calls Try.prog 30 #[v] w fun e w' => e = .returned (.bool (areItems xs)) ∧ Below w.heap.size w w' := by
  obtain ⟨A, cap, rfl, _, hm, hc⟩ := hv.shape
  have HQ := Lib.hid hq
  clear hq
  go_enter Try.func30, Try.ntmps30
  go_wp2
  go_loopg [3] xs.length (fun gi i wr => ∃ k : Nat, k ≤ xs.length ∧ gi = xs.length - k ∧ i = .int .i64 k ∧ Hid ((xs.take k).all isItemB = true) ∧ Below w.heap.size w wr ∧ w.heap.size ≤ wr.heap.size)
  case atStart => exact ⟨0, Nat.zero_le _, rfl, rfl, Lib.hid rfl, Below.refl _ _, Nat.le_refl _⟩
  case round =>
    obtain ⟨k, hk, rfl, rfl, HA, hb, hs⟩ := hrel
    by_cases hlt : k < xs.length
    · obtain ⟨b, off, rfl, hbl, hcell⟩ := hc (by omega)
      have c0 : wr.cell? ⟨b, off + k * 4, none⟩ = some (.string xs[k].name) := (hb.cell (p := ⟨b, off + k * 4, none⟩) hbl).trans (by simpa [eItem, Nat.add_assoc] using hcell k hlt 0 _ (by decide) rfl)
      have c1 : wr.cell? ⟨b, off + k * 4 + 1, none⟩ = some (.int .i64 xs[k].pieces) := (hb.cell (p := ⟨b, off + k * 4 + 1, none⟩) hbl).trans (by simpa [eItem, Nat.add_assoc] using hcell k hlt 1 _ (by decide) rfl)
      have c2 : wr.cell? ⟨b, off + k * 4 + 2, none⟩ = some (.int .i64 xs[k].cents) := (hb.cell (p := ⟨b, off + k * 4 + 2, none⟩) hbl).trans (by simpa [eItem, Nat.add_assoc] using hcell k hlt 2 _ (by decide) rfl)
      have c3 : wr.cell? ⟨b, off + k * 4 + 3, none⟩ = some (.bool xs[k].work) := (hb.cell (p := ⟨b, off + k * 4 + 3, none⟩) hbl).trans (by simpa [eItem, Nat.add_assoc] using hcell k hlt 3 _ (by decide) rfl)
      have hokx := HQ.out _ (List.getElem_mem hlt)
      have hb1 : Below w.heap.size w wr := hb
      have hs1 : w.heap.size ≤ wr.heap.size := by omega
      have HB1 := Lib.hid hb1
      clear hc hcell hb hb1
      go_wp2_with fail
      refine (sItem_any xs[k] _ hokx).mono ?_
      rintro e w2 ⟨rfl, hb2⟩
      have hb3 := below_step2 HB1.out hb2 hs1
      have hs3 := hb3.size
      clear hb2
      rcases hI : isItemB xs[k]
      · have HI := Lib.hid hI
        clear hI
        go_wp2
        go_ret
        exact ⟨ret_bool (by unfold areItems; rw [all_false_at xs k hlt isItemB HI.out]; simp), hb3⟩
      · have HI := Lib.hid hI
        clear hI
        go_wp2
        go_roundg (xs.length - (k + 1))
        case measure => omega
        case rel => exact ⟨k + 1, by omega, rfl, by go_num, Lib.hid (all_take_succ xs k hlt isItemB HA.out HI.out), hb3, hs3⟩
    · obtain rfl : k = xs.length := by omega
      go_wp2
      go_ret
      exact ⟨ret_bool (by unfold areItems; rw [all_of_take xs _ (Nat.le_refl _) _ HA.out]; rw [Bool.and_true]; by_cases h : xs.length ≤ 20 <;> simp [h] <;> omega), hb⟩

def AreItems_r (xs : List Item) : Bool := areItems xs
theorem iAreItems_law (v : Value) (xs : List Item) (w : World) (hv : Sl eItem w v xs) (_ : xs.length ≤ 1048576) (hq : ∀ x ∈ xs, okItem x) :
    Calls Try.prog 32 #[v] w fun e w' => e = .returned (.bool (AreItems_r xs)) ∧ Below w.heap.size w w' := iAreItems_any v xs w hv hq
theorem sAreItems_law (v : Value) (xs : List Item) (w : World) (hv : Sl eItem w v xs) (_ : xs.length ≤ 1048576) (hq : ∀ x ∈ xs, okItem x) :
    Calls Try.prog 30 #[v] w fun e w' => e = .returned (.bool (AreItems_r xs)) ∧ Below w.heap.size w w' := sAreItems_any v xs w hv hq
end Go.Proofs.Ytfiapefkomolmaa
