/- Contracts of the sums of items and of SumOf (chapter 27). No statement of the seat is proved here. -/
import Derived.Test.YtfiapefkomolmaaItems
import Derived.Test.YtfiapefkomolmaaFind
namespace Go.Proofs.Ytfiapefkomolmaa
open Go.RowKit

theorem mul_in {a b A B : Int} (h1 : 0 ≤ a) (h2 : a ≤ A) (h3 : 0 ≤ b) (h4 : b ≤ B) : 0 ≤ a * b ∧ a * b ≤ A * B :=
  ⟨Int.mul_nonneg h1 h3, Int.le_trans (Int.mul_le_mul_of_nonneg_right h2 h3) (Int.mul_le_mul_of_nonneg_left h4 (by omega))⟩
theorem areItems_at {xs : List Item} (h : areItems xs = true) : xs.length ≤ 20 ∧ ∀ (k : Nat) (hk : k < xs.length), isWord xs[k].name = true ∧ 1 ≤ xs[k].pieces ∧ xs[k].pieces ≤ 1000 ∧ 0 ≤ xs[k].cents ∧ xs[k].cents ≤ 1000000 := by
  unfold areItems at h
  rw [Bool.and_eq_true, decide_eq_true_eq, List.all_eq_true] at h
  refine ⟨h.1, fun k hk => ?_⟩
  have h2 := h.2 _ (List.getElem_mem hk)
  unfold isItemB at h2
  simp only [Bool.and_eq_true, inR_iff] at h2
  exact ⟨h2.1.1, h2.1.2.1, h2.1.2.2, h2.2.1, h2.2.2⟩
def allS (xs : List Item) : Nat → Int
  | 0 => 0
  | k + 1 => allS xs k + (xs.getD k zItem).pieces * (xs.getD k zItem).cents
def partS (xs : List Item) : Nat → Int
  | 0 => 0
  | k + 1 => if (xs.getD k zItem).work then partS xs k else partS xs k + (xs.getD k zItem).pieces * (xs.getD k zItem).cents
theorem sums_bd {xs : List Item} (h : areItems xs = true) : ∀ k, k ≤ xs.length → 0 ≤ partS xs k ∧ partS xs k ≤ allS xs k ∧ allS xs k ≤ 1000000000 * k
  | 0, _ => by simp [allS, partS]
  | k + 1, hk => by
    have ih := sums_bd h k (by omega)
    obtain ⟨_, h1, h2, h3, h4⟩ := (areItems_at h).2 k (by omega)
    have hm := mul_in (show 0 ≤ xs[k].pieces by omega) h2 h3 h4
    rw [allS, partS, getD_at _ _ _ (by omega)]
    split <;> omega
set_option maxHeartbeats 4000000 in
theorem iSums_any (v : Value) (xs : List Item) (w : World) (hv : Sl eItem w v xs) (ha : areItems xs = true) :
    Calls Try.prog 64 #[v] w fun e w' => e = .returned (.tuple #[.int .i64 (allS xs xs.length), .int .i64 (partS xs xs.length)]) ∧ Below w.heap.size w w' := by
  obtain ⟨A, cap, rfl, _, hm, hc⟩ := hv.shape
  have HA := Lib.hid ha
  obtain ⟨h20, hat⟩ := areItems_at ha
  have HT := Lib.hid hat
  clear ha hat
  go_enter Try.func64, Try.ntmps64
  go_wp2
  go_loopg [10, 4, 5] xs.length (fun gi i a b wr => ∃ (k : Nat) (s q : Int), k ≤ xs.length ∧ gi = xs.length - k ∧ i = .int .i64 k ∧ a = .int .i64 s ∧ b = .int .i64 q ∧ Hid (allS xs k = s) ∧ Hid (partS xs k = q) ∧ Below w.heap.size w wr ∧ w.heap.size ≤ wr.heap.size)
  case atStart => exact ⟨0, 0, 0, Nat.zero_le _, rfl, rfl, rfl, rfl, Lib.hid rfl, Lib.hid rfl, Below.refl _ _, Nat.le_refl _⟩
  case round =>
    obtain ⟨k, s, q, hk, rfl, rfl, rfl, rfl, HS, HP, hb, hs⟩ := hrel
    by_cases hlt : k < xs.length
    · obtain ⟨b, off, rfl, hbl, hcell⟩ := hc (by omega)
      have c0 : wr.cell? ⟨b, off + k * 4, none⟩ = some (.string xs[k].name) := (hb.cell (p := ⟨b, off + k * 4, none⟩) hbl).trans (by simpa [eItem, Nat.add_assoc] using hcell k hlt 0 _ (by decide) rfl)
      have c1 : wr.cell? ⟨b, off + k * 4 + 1, none⟩ = some (.int .i64 xs[k].pieces) := (hb.cell (p := ⟨b, off + k * 4 + 1, none⟩) hbl).trans (by simpa [eItem, Nat.add_assoc] using hcell k hlt 1 _ (by decide) rfl)
      have c2 : wr.cell? ⟨b, off + k * 4 + 2, none⟩ = some (.int .i64 xs[k].cents) := (hb.cell (p := ⟨b, off + k * 4 + 2, none⟩) hbl).trans (by simpa [eItem, Nat.add_assoc] using hcell k hlt 2 _ (by decide) rfl)
      have c3 : wr.cell? ⟨b, off + k * 4 + 3, none⟩ = some (.bool xs[k].work) := (hb.cell (p := ⟨b, off + k * 4 + 3, none⟩) hbl).trans (by simpa [eItem, Nat.add_assoc] using hcell k hlt 3 _ (by decide) rfl)
      obtain ⟨_, n1, n2, n3, n4⟩ := HT.out k hlt
      have hbd := sums_bd HA.out k hk
      rw [HS.out, HP.out] at hbd
      obtain ⟨b1, b2, b3⟩ := hbd
      have hmm := mul_in (show 0 ≤ xs[k].pieces by omega) n2 n3 n4
      obtain ⟨m1, m2⟩ := hmm
      have HB := Lib.hid (hb.alloc hs (.cells #[.string xs[k].name, .int .i64 xs[k].pieces, .int .i64 xs[k].cents, .bool xs[k].work] 40))
      have HG := Lib.hid (getD_at xs zItem k hlt)
      clear hc hcell hb
      generalize xs[k] = x at *
      obtain ⟨nm, pc, ct, wk⟩ := x
      simp only at *
      have hw1 : IntKind.i64.wrap (pc * ct) = pc * ct := IntWalk.i64_in _ (by omega)
      have hw2 : IntKind.i64.wrap (s + pc * ct) = s + pc * ct := IntWalk.i64_in _ (by omega)
      have hw3 : IntKind.i64.wrap (q + pc * ct) = q + pc * ct := IntWalk.i64_in _ (by omega)
      rcases wk
      · clear n1
        go_wp2
        go_roundg (xs.length - (k + 1))
        case measure => omega
        case rel => exact ⟨k + 1, _, _, by omega, rfl, by go_num, rfl, rfl, Lib.hid (by rw [allS, HG.out, HS.out]), Lib.hid (by rw [partS, HG.out, HP.out]; rfl), HB.out, by simp; omega⟩
      · clear n1
        go_wp2
        go_roundg (xs.length - (k + 1))
        case measure => omega
        case rel => exact ⟨k + 1, _, _, by omega, rfl, by go_num, rfl, rfl, Lib.hid (by rw [allS, HG.out, HS.out]), Lib.hid (by rw [partS, HG.out, HP.out]; rfl), HB.out, by simp; omega⟩
    · obtain rfl : k = xs.length := by omega
      go_wp2
      go_ret2
      exact ⟨by rw [HS.out, HP.out]; rfl, hb⟩
set_option maxHeartbeats 4000000 in
theorem sSums_any (v : Value) (xs : List Item) (w : World) (hv : Sl eItem w v xs) (ha : areItems xs = true) :
    Calls Try.prog 63 #[v] w fun e w' => e = .returned (.tuple #[.int .i64 (allS xs xs.length), .int .i64 (partS xs xs.length)]) ∧ Below w.heap.size w w' := by
  obtain ⟨A, cap, rfl, _, hm, hc⟩ := hv.shape
  have HA := Lib.hid ha
  obtain ⟨h20, hat⟩ := areItems_at ha
  have HT := Lib.hid hat
  clear ha hat
  go_enter Try.func63, Try.ntmps63
  go_wp2
  go_loopg [6, 4, 5] xs.length (fun gi i a b wr => ∃ (k : Nat) (s q : Int), k ≤ xs.length ∧ gi = xs.length - k ∧ i = .int .i64 k ∧ a = .int .i64 s ∧ b = .int .i64 q ∧ Hid (allS xs k = s) ∧ Hid (partS xs k = q) ∧ Below w.heap.size w wr ∧ w.heap.size ≤ wr.heap.size)
  case atStart => exact ⟨0, 0, 0, Nat.zero_le _, rfl, rfl, rfl, rfl, Lib.hid rfl, Lib.hid rfl, Below.refl _ _, Nat.le_refl _⟩
  case round =>
    obtain ⟨k, s, q, hk, rfl, rfl, rfl, rfl, HS, HP, hb, hs⟩ := hrel
    by_cases hlt : k < xs.length
    · obtain ⟨b, off, rfl, hbl, hcell⟩ := hc (by omega)
      have c0 : wr.cell? ⟨b, off + k * 4, none⟩ = some (.string xs[k].name) := (hb.cell (p := ⟨b, off + k * 4, none⟩) hbl).trans (by simpa [eItem, Nat.add_assoc] using hcell k hlt 0 _ (by decide) rfl)
      have c1 : wr.cell? ⟨b, off + k * 4 + 1, none⟩ = some (.int .i64 xs[k].pieces) := (hb.cell (p := ⟨b, off + k * 4 + 1, none⟩) hbl).trans (by simpa [eItem, Nat.add_assoc] using hcell k hlt 1 _ (by decide) rfl)
      have c2 : wr.cell? ⟨b, off + k * 4 + 2, none⟩ = some (.int .i64 xs[k].cents) := (hb.cell (p := ⟨b, off + k * 4 + 2, none⟩) hbl).trans (by simpa [eItem, Nat.add_assoc] using hcell k hlt 2 _ (by decide) rfl)
      have c3 : wr.cell? ⟨b, off + k * 4 + 3, none⟩ = some (.bool xs[k].work) := (hb.cell (p := ⟨b, off + k * 4 + 3, none⟩) hbl).trans (by simpa [eItem, Nat.add_assoc] using hcell k hlt 3 _ (by decide) rfl)
      obtain ⟨_, n1, n2, n3, n4⟩ := HT.out k hlt
      have hbd := sums_bd HA.out k hk
      rw [HS.out, HP.out] at hbd
      obtain ⟨b1, b2, b3⟩ := hbd
      have hmm := mul_in (show 0 ≤ xs[k].pieces by omega) n2 n3 n4
      obtain ⟨m1, m2⟩ := hmm
      have HB := Lib.hid (hb)
      have HG := Lib.hid (getD_at xs zItem k hlt)
      clear hc hcell hb
      generalize xs[k] = x at *
      obtain ⟨nm, pc, ct, wk⟩ := x
      simp only at *
      have hw1 : IntKind.i64.wrap (pc * ct) = pc * ct := IntWalk.i64_in _ (by omega)
      have hw2 : IntKind.i64.wrap (s + pc * ct) = s + pc * ct := IntWalk.i64_in _ (by omega)
      have hw3 : IntKind.i64.wrap (q + pc * ct) = q + pc * ct := IntWalk.i64_in _ (by omega)
      rcases wk
      · clear n1
        go_wp2
        go_quiet (fail)
        go_wp2
        go_roundg (xs.length - (k + 1))
        case measure => omega
        case rel => exact ⟨k + 1, _, _, by omega, rfl, by go_num, rfl, rfl, Lib.hid (by rw [allS, HG.out, HS.out]), Lib.hid (by rw [partS, HG.out, HP.out]; rfl), below_drewN' HB.out _, hs⟩
      · clear n1
        go_wp2
        go_quiet (fail)
        go_wp2
        go_roundg (xs.length - (k + 1))
        case measure => omega
        case rel => exact ⟨k + 1, _, _, by omega, rfl, by go_num, rfl, rfl, Lib.hid (by rw [allS, HG.out, HS.out]), Lib.hid (by rw [partS, HG.out, HP.out]; rfl), below_drewN' HB.out _, hs⟩
    · obtain rfl : k = xs.length := by omega
      go_wp2
      go_ret2
      exact ⟨by rw [HS.out, HP.out]; rfl, hb⟩

def SumOf_r (xs : List Item) : Int × Int := if areItems xs then (allS xs xs.length, 0) else (0, 1)
theorem iSumOf_law (v : Value) (xs : List Item) (w : World) (hv : Sl eItem w v xs) (_ : xs.length ≤ 1048576) (hq : ∀ x ∈ xs, okItem x) :
    Calls Try.prog 35 #[v] w fun e w' => e = .returned (.tuple #[.int .i64 (SumOf_r xs).1, .int .i64 (SumOf_r xs).2]) ∧ Below w.heap.size w w' := by
  rcases hA : areItems xs
  · have HR : Hid (SumOf_r xs = (0, 1)) := Lib.hid (by unfold SumOf_r; rw [hA]; rfl)
    have HA := Lib.hid hA
    rw [HR.out]
    clear hA
    go_enter Try.func35, Try.ntmps35
    go_wp2_with fail
    refine (iAreItems_any v xs w hv hq).mono ?_
    rintro e w1 ⟨rfl, hb⟩
    rw [HA.out]
    go_wp2
    go_ret2
    exact ⟨rfl, hb⟩
  · have HR : Hid (SumOf_r xs = (allS xs xs.length, 0)) := Lib.hid (by unfold SumOf_r; rw [hA]; rfl)
    have HA := Lib.hid hA
    rw [HR.out]
    clear hA
    go_enter Try.func35, Try.ntmps35
    go_wp2_with fail
    refine (iAreItems_any v xs w hv hq).mono ?_
    rintro e w1 ⟨rfl, hb⟩
    rw [HA.out]
    have hv1 := hv.below hb
    go_wp2_with fail
    refine (iSums_any v xs w1 hv1 HA.out).mono ?_
    rintro e w2 ⟨rfl, hb2⟩
    go_wp2
    go_ret2
    exact ⟨rfl, Below.step hb hb2⟩
theorem sSumOf_law (v : Value) (xs : List Item) (w : World) (hv : Sl eItem w v xs) (_ : xs.length ≤ 1048576) (hq : ∀ x ∈ xs, okItem x) :
    Calls Try.prog 34 #[v] w fun e w' => e = .returned (.tuple #[.int .i64 (SumOf_r xs).1, .int .i64 (SumOf_r xs).2]) ∧ Below w.heap.size w w' := by
  rcases hA : areItems xs
  · have HR : Hid (SumOf_r xs = (0, 1)) := Lib.hid (by unfold SumOf_r; rw [hA]; rfl)
    have HA := Lib.hid hA
    rw [HR.out]
    clear hA
    go_enter Try.func34, Try.ntmps34
    go_wp2_with fail
    refine (sAreItems_any v xs w hv hq).mono ?_
    rintro e w1 ⟨rfl, hb⟩
    rw [HA.out]
    go_wp2
    go_ret2
    exact ⟨rfl, hb⟩
  · have HR : Hid (SumOf_r xs = (allS xs xs.length, 0)) := Lib.hid (by unfold SumOf_r; rw [hA]; rfl)
    have HA := Lib.hid hA
    rw [HR.out]
    clear hA
    go_enter Try.func34, Try.ntmps34
    go_wp2_with fail
    refine (sAreItems_any v xs w hv hq).mono ?_
    rintro e w1 ⟨rfl, hb⟩
    rw [HA.out]
    have hv1 := hv.below hb
    go_wp2_with fail
    refine (sSums_any v xs w1 hv1 HA.out).mono ?_
    rintro e w2 ⟨rfl, hb2⟩
    go_wp2
    go_ret2
    exact ⟨rfl, Below.step hb hb2⟩
end Go.Proofs.Ytfiapefkomolmaa
