/- Like rules and like texts compare equal (chapter 25). No statement of the seat is proved here. -/
import Derived.Test.YtncggcbpbejmcaaLChanged
namespace Go.Proofs.Ytncggcbpbejmcaa
open Go.RowKit

set_option maxHeartbeats 2000000 in
set_option maxRecDepth 10000 in
theorem likeRules_same (v u : Value) (xs : List Rule) (w : World) (hv : Sl eRule w v xs) (hu : Sl eRule w u xs) :
    Calls Try.prog 63 #[v, u] w fun e w' => e = .returned (.bool true) ∧ Below w.heap.size w w' := by
  obtain ⟨A, cap, rfl, _, hm, hc⟩ := hv.shape
  obtain ⟨A2, cap2, rfl, _, _, hc2⟩ := hu.shape
  clear hv hu
  go_enter Try.func63, Try.ntmps63
  go_wp2
  go_loopg [5] xs.length (fun gi i wr => ∃ k : Nat, k ≤ xs.length ∧ gi = xs.length - k ∧ i = .int .i64 k ∧ Hid (Below w.heap.size w wr) ∧ w.heap.size ≤ wr.heap.size)
  case atStart => exact ⟨0, Nat.zero_le _, rfl, rfl, Lib.hid (Below.refl _ _), Nat.le_refl _⟩
  case round =>
    obtain ⟨k, hk, rfl, rfl, HB, hs⟩ := hrel
    by_cases hlt : k < xs.length
    · obtain ⟨b, off, rfl, hbl, hcell⟩ := hc (by omega)
      obtain ⟨b2, off2, rfl, hbl2, hcell2⟩ := hc2 (by omega)
      have hb := HB.out
      have c0 : wr.cell? ⟨b, off + k * 3, none⟩ = some (.int .i64 xs[k].field) := (hb.cell (p := ⟨b, off + k * 3, none⟩) hbl).trans (by simpa [eRule, Nat.add_assoc] using hcell k hlt 0 _ (by decide) rfl)
      have c1 : wr.cell? ⟨b, off + k * 3 + 1, none⟩ = some (.int .i64 xs[k].least) := (hb.cell (p := ⟨b, off + k * 3 + 1, none⟩) hbl).trans (by simpa [eRule, Nat.add_assoc] using hcell k hlt 1 _ (by decide) rfl)
      have c2 : wr.cell? ⟨b, off + k * 3 + 2, none⟩ = some (.int .i64 xs[k].grade) := (hb.cell (p := ⟨b, off + k * 3 + 2, none⟩) hbl).trans (by simpa [eRule, Nat.add_assoc] using hcell k hlt 2 _ (by decide) rfl)
      have d0 : wr.cell? ⟨b2, off2 + k * 3, none⟩ = some (.int .i64 xs[k].field) := (hb.cell (p := ⟨b2, off2 + k * 3, none⟩) hbl2).trans (by simpa [eRule, Nat.add_assoc] using hcell2 k hlt 0 _ (by decide) rfl)
      have d1 : wr.cell? ⟨b2, off2 + k * 3 + 1, none⟩ = some (.int .i64 xs[k].least) := (hb.cell (p := ⟨b2, off2 + k * 3 + 1, none⟩) hbl2).trans (by simpa [eRule, Nat.add_assoc] using hcell2 k hlt 1 _ (by decide) rfl)
      have d2 : wr.cell? ⟨b2, off2 + k * 3 + 2, none⟩ = some (.int .i64 xs[k].grade) := (hb.cell (p := ⟨b2, off2 + k * 3 + 2, none⟩) hbl2).trans (by simpa [eRule, Nat.add_assoc] using hcell2 k hlt 2 _ (by decide) rfl)
      clear hc hcell hc2 hcell2 hb
      generalize xs[k] = x at *
      obtain ⟨fl, ls, gd⟩ := x
      simp only at *
      go_wp2
      go_quiet (fail)
      go_wp2
      go_roundg (xs.length - (k + 1))
      case measure => omega
      case rel => exact ⟨k + 1, by omega, rfl, by go_num, Lib.hid (below_drewN' HB.out _), hs⟩
    · go_wp2
      go_ret
      exact ⟨rfl, HB.out⟩
set_option maxHeartbeats 2000000 in
set_option maxRecDepth 10000 in
theorem likeTexts_same (v u : Value) (xs : List ByteArray) (w : World) (hv : Sl eS w v xs) (hu : Sl eS w u xs) :
    Calls Try.prog 64 #[v, u] w fun e w' => e = .returned (.bool true) ∧ Below w.heap.size w w' := by
  obtain ⟨A, cap, rfl, _, hm, hc⟩ := Strs.shape hv
  obtain ⟨A2, cap2, rfl, _, _, hc2⟩ := Strs.shape hu
  clear hv hu
  go_enter Try.func64, Try.ntmps64
  go_wp2
  go_loopg [5] xs.length (fun gi i wr => ∃ k : Nat, k ≤ xs.length ∧ gi = xs.length - k ∧ i = .int .i64 k ∧ Hid (Below w.heap.size w wr) ∧ w.heap.size ≤ wr.heap.size)
  case atStart => exact ⟨0, Nat.zero_le _, rfl, rfl, Lib.hid (Below.refl _ _), Nat.le_refl _⟩
  case round =>
    obtain ⟨k, hk, rfl, rfl, HB, hs⟩ := hrel
    by_cases hlt : k < xs.length
    · obtain ⟨b, off, rfl, hbl, hcell⟩ := hc (by omega)
      obtain ⟨b2, off2, rfl, hbl2, hcell2⟩ := hc2 (by omega)
      have hb := HB.out
      have c0 : wr.cell? ⟨b, off + k, none⟩ = some (.string xs[k]) := (hb.cell (p := ⟨b, off + k, none⟩) hbl).trans (hcell k hlt)
      have d0 : wr.cell? ⟨b2, off2 + k, none⟩ = some (.string xs[k]) := (hb.cell (p := ⟨b2, off2 + k, none⟩) hbl2).trans (hcell2 k hlt)
      clear hc hcell hc2 hcell2 hb
      generalize xs[k] = x at *
      go_wp2
      go_quiet (fail)
      go_wp2
      go_roundg (xs.length - (k + 1))
      case measure => omega
      case rel => exact ⟨k + 1, by omega, rfl, by go_num, Lib.hid (below_drewN' HB.out _), hs⟩
    · go_wp2
      go_ret
      exact ⟨rfl, HB.out⟩
end Go.Proofs.Ytncggcbpbejmcaa
