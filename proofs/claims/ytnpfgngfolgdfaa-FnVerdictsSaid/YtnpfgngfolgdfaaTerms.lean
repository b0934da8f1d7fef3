/- Contracts of findTerm and AreTerms (chapter 28). No statement of the seat is proved here. -/
import Derived.Test.YtnpfgngfolgdfaaSTerm
import Derived.Test.YtnpfgngfolgdfaaWords
import Derived.Test.YtnpfgngfolgdfaaFind
namespace Go.Proofs.Ytnpfgngfolgdfaa
open Go.RowKit

def isPart (s : ByteArray) (x : Term) : Bool := x.part.toList == s.toList
set_option maxHeartbeats 4000000 in
theorem findTerm_any (v : Value) (xs : List Term) (s : ByteArray) (w : World) (hv : Sl eTerm w v xs) :
    Calls Try.prog 68 #[v, .string s] w fun e w' => e = .returned (.int .i64 (firstAt (isPart s) xs)) ∧ Below w.heap.size w w' := by
  obtain ⟨A, cap, rfl, _, hm, hc⟩ := hv.shape
  go_enter Try.func68, Try.ntmps68
  go_wp2
  go_loopg [9] xs.length (fun gi i wr => ∃ k : Nat, k ≤ xs.length ∧ gi = xs.length - k ∧ i = .int .i64 k ∧ Hid ((xs.take k).any (isPart s) = false) ∧ Below w.heap.size w wr ∧ w.heap.size ≤ wr.heap.size)
  case atStart => exact ⟨0, Nat.zero_le _, rfl, rfl, Lib.hid rfl, Below.refl _ _, Nat.le_refl _⟩
  case round =>
    obtain ⟨k, hk, rfl, rfl, HA, hb, hs⟩ := hrel
    by_cases hlt : k < xs.length
    · obtain ⟨b, off, rfl, hbl, hcell⟩ := hc (by omega)
      have c0 : wr.cell? ⟨b, off + k * 4, none⟩ = some (.string xs[k].part) := (hb.cell (p := ⟨b, off + k * 4, none⟩) hbl).trans (by simpa [eTerm, Nat.add_assoc] using hcell k hlt 0 _ (by decide) rfl)
      have c1 : wr.cell? ⟨b, off + k * 4 + 1, none⟩ = some (.int .i64 xs[k].days) := (hb.cell (p := ⟨b, off + k * 4 + 1, none⟩) hbl).trans (by simpa [eTerm, Nat.add_assoc] using hcell k hlt 1 _ (by decide) rfl)
      have c2 : wr.cell? ⟨b, off + k * 4 + 2, none⟩ = some (.int .i64 xs[k].tens) := (hb.cell (p := ⟨b, off + k * 4 + 2, none⟩) hbl).trans (by simpa [eTerm, Nat.add_assoc] using hcell k hlt 2 _ (by decide) rfl)
      have c3 : wr.cell? ⟨b, off + k * 4 + 3, none⟩ = some (.int .i64 xs[k].claims) := (hb.cell (p := ⟨b, off + k * 4 + 3, none⟩) hbl).trans (by simpa [eTerm, Nat.add_assoc] using hcell k hlt 3 _ (by decide) rfl)
      have HB := Lib.hid (hb.alloc hs (.cells #[.string xs[k].part, .int .i64 xs[k].days, .int .i64 xs[k].tens, .int .i64 xs[k].claims] 72))
      clear hc hcell hb
      rcases hI : isPart s xs[k]
      · have HI := Lib.hid hI
        have g : (xs[k].part.toList == s.toList) = false := hI
        clear hI
        go_wp2
        go_roundg (xs.length - (k + 1))
        case measure => omega
        case rel => exact ⟨k + 1, by omega, rfl, by go_num, Lib.hid (any_take_succ k hlt HA.out HI.out), HB.out, by simp; omega⟩
      · have HI := Lib.hid hI
        have g : (xs[k].part.toList == s.toList) = true := hI
        clear hI
        go_wp2
        go_ret
        exact ⟨ret_int (firstAt_at hlt HA.out HI.out).symm, HB.out⟩
    · obtain rfl : k = xs.length := by omega
      go_wp2
      go_ret
      exact ⟨ret_int (firstAt_none (any_of_take _ (Nat.le_refl _) HA.out)).symm, hb⟩
set_option maxHeartbeats 4000000 in
theorem l28Find_any (v : Value) (xs : List Term) (s : ByteArray) (w : World) (hv : Sl eTerm w v xs) :
    Calls Try.prog 66 #[v, .string s] w fun e w' => e = .returned (.int .i64 (firstAt (isPart s) xs)) ∧ w = w' := by
  obtain ⟨A, cap, rfl, _, hm, hc⟩ := hv.shape
  go_enter Try.func66, Try.ntmps66
  go_wp2
  go_loop [5] (fun i => ∃ k : Nat, k ≤ xs.length ∧ i = .int .i64 k ∧ Hid ((xs.take k).any (isPart s) = false)) (fun i => xs.length - (intOf i).toNat)
  case atStart => exact ⟨0, Nat.zero_le _, rfl, Lib.hid rfl⟩
  case round =>
    obtain ⟨k, hk, rfl, HA⟩ := hrel
    by_cases hlt : k < xs.length
    · obtain ⟨b, off, rfl, hbl, hcell⟩ := hc (by omega)
      have hb := Below.refl w.heap.size w
      have c0 : w.cell? ⟨b, off + k * 4, none⟩ = some (.string xs[k].part) := (hb.cell (p := ⟨b, off + k * 4, none⟩) hbl).trans (by simpa [eTerm, Nat.add_assoc] using hcell k hlt 0 _ (by decide) rfl)
      have c1 : w.cell? ⟨b, off + k * 4 + 1, none⟩ = some (.int .i64 xs[k].days) := (hb.cell (p := ⟨b, off + k * 4 + 1, none⟩) hbl).trans (by simpa [eTerm, Nat.add_assoc] using hcell k hlt 1 _ (by decide) rfl)
      have c2 : w.cell? ⟨b, off + k * 4 + 2, none⟩ = some (.int .i64 xs[k].tens) := (hb.cell (p := ⟨b, off + k * 4 + 2, none⟩) hbl).trans (by simpa [eTerm, Nat.add_assoc] using hcell k hlt 2 _ (by decide) rfl)
      have c3 : w.cell? ⟨b, off + k * 4 + 3, none⟩ = some (.int .i64 xs[k].claims) := (hb.cell (p := ⟨b, off + k * 4 + 3, none⟩) hbl).trans (by simpa [eTerm, Nat.add_assoc] using hcell k hlt 3 _ (by decide) rfl)
      clear hc hcell hb
      rcases hI : isPart s xs[k]
      · have HI := Lib.hid hI
        have g : (xs[k].part.toList == s.toList) = false := hI
        clear hI
        go_wp2
        go_round
        case rel => exact ⟨k + 1, by omega, by go_num, Lib.hid (any_take_succ k hlt HA.out HI.out)⟩
        case measure => simp [intOf]; omega
      · have HI := Lib.hid hI
        have g : (xs[k].part.toList == s.toList) = true := hI
        clear hI
        go_wp2
        go_ret
        exact ⟨ret_int (firstAt_at hlt HA.out HI.out).symm, rfl⟩
    · obtain rfl : k = xs.length := by omega
      go_wp2
      go_ret
      exact ⟨ret_int (firstAt_none (any_of_take _ (Nat.le_refl _) HA.out)).symm, rfl⟩

def termB (x : Term) : Bool := isWord x.part && inR x.days 1 10000 && inR x.tens 1 10000000 && inR x.claims 1 20
def termOk (xs : List Term) (i : Nat) : Bool := termB (xs.getD i zTerm) && !(xs.take i).any (isPart (xs.getD i zTerm).part)
def areTerms (xs : List Term) : Bool := decide (xs.length ≤ 10) && (List.range xs.length).all (termOk xs)
end Go.Proofs.Ytnpfgngfolgdfaa
