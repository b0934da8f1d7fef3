/- Like claims compare equal (chapter 28). No statement of the seat is proved here. -/
import Derived.Test.YtnpfgngfolgdfaaSClaim
import Derived.Test.YtnpfgngfolgdfaaCells
namespace Go.Proofs.Ytnpfgngfolgdfaa
open Go.RowKit

set_option maxHeartbeats 2000000 in
set_option maxRecDepth 10000 in
theorem likeClaims_same (v u : Value) (xs : List Claim) (w : World) (hv : Sl eClaim w v xs) (hu : Sl eClaim w u xs) :
    Calls Try.prog 50 #[v, u] w fun e w' => e = .returned (.bool true) ∧ Below w.heap.size w w' := by
  obtain ⟨A, cap, rfl, _, hm, hc⟩ := hv.shape
  obtain ⟨A2, cap2, rfl, _, _, hc2⟩ := hu.shape
  clear hv hu
  go_enter Try.func50, Try.ntmps50
  go_wp2
  go_loopg [5] xs.length (fun gi i wr => ∃ k : Nat, k ≤ xs.length ∧ gi = xs.length - k ∧ i = .int .i64 k ∧ Hid (Below w.heap.size w wr) ∧ w.heap.size ≤ wr.heap.size)
  case atStart => exact ⟨0, Nat.zero_le _, rfl, rfl, Lib.hid (Below.refl _ _), Nat.le_refl _⟩
  case round =>
    obtain ⟨k, hk, rfl, rfl, HB, hs⟩ := hrel
    by_cases hlt : k < xs.length
    · obtain ⟨b, off, rfl, hbl, hcell⟩ := hc (by omega)
      obtain ⟨b2, off2, rfl, hbl2, hcell2⟩ := hc2 (by omega)
      have hb := HB.out
      have c0 : wr.cell? ⟨b, off + k * 4, none⟩ = some (.string xs[k].part) := (hb.cell (p := ⟨b, off + k * 4, none⟩) hbl).trans (by simpa [eClaim, Nat.add_assoc] using hcell k hlt 0 _ (by decide) rfl)
      have c1 : wr.cell? ⟨b, off + k * 4 + 1, none⟩ = some (.int .i64 xs[k].sold) := (hb.cell (p := ⟨b, off + k * 4 + 1, none⟩) hbl).trans (by simpa [eClaim, Nat.add_assoc] using hcell k hlt 1 _ (by decide) rfl)
      have c2 : wr.cell? ⟨b, off + k * 4 + 2, none⟩ = some (.int .i64 xs[k].day) := (hb.cell (p := ⟨b, off + k * 4 + 2, none⟩) hbl).trans (by simpa [eClaim, Nat.add_assoc] using hcell k hlt 2 _ (by decide) rfl)
      have c3 : wr.cell? ⟨b, off + k * 4 + 3, none⟩ = some (.int .i64 xs[k].tens) := (hb.cell (p := ⟨b, off + k * 4 + 3, none⟩) hbl).trans (by simpa [eClaim, Nat.add_assoc] using hcell k hlt 3 _ (by decide) rfl)
      have d0 : wr.cell? ⟨b2, off2 + k * 4, none⟩ = some (.string xs[k].part) := (hb.cell (p := ⟨b2, off2 + k * 4, none⟩) hbl2).trans (by simpa [eClaim, Nat.add_assoc] using hcell2 k hlt 0 _ (by decide) rfl)
      have d1 : wr.cell? ⟨b2, off2 + k * 4 + 1, none⟩ = some (.int .i64 xs[k].sold) := (hb.cell (p := ⟨b2, off2 + k * 4 + 1, none⟩) hbl2).trans (by simpa [eClaim, Nat.add_assoc] using hcell2 k hlt 1 _ (by decide) rfl)
      have d2 : wr.cell? ⟨b2, off2 + k * 4 + 2, none⟩ = some (.int .i64 xs[k].day) := (hb.cell (p := ⟨b2, off2 + k * 4 + 2, none⟩) hbl2).trans (by simpa [eClaim, Nat.add_assoc] using hcell2 k hlt 2 _ (by decide) rfl)
      have d3 : wr.cell? ⟨b2, off2 + k * 4 + 3, none⟩ = some (.int .i64 xs[k].tens) := (hb.cell (p := ⟨b2, off2 + k * 4 + 3, none⟩) hbl2).trans (by simpa [eClaim, Nat.add_assoc] using hcell2 k hlt 3 _ (by decide) rfl)
      clear hc hcell hc2 hcell2 hb
      generalize xs[k] = x at *
      obtain ⟨pt, sd, dy, tn⟩ := x
      simp only at *
      go_wp2
      go_quiet (fail)
      go_wp2
      go_roundg (xs.length - (k + 1))
      case measure => omega
      case rel => exact ⟨k + 1, by omega, rfl, by go_num, Lib.hid (below_drewN' HB.out _), hs⟩
    · go_wp2
      go_ret
      exact ⟨rfl, HB.out⟩
end Go.Proofs.Ytnpfgngfolgdfaa
