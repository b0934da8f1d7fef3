/- Contracts of both finds of a part (chapter 16). No statement of the seat is proved here. -/
import Derived.Test.YtblaojjpclipaaaM3
namespace Go.Proofs.Ytblaojjpclipaaa
open Go.RowKit

def isCode (s : ByteArray) (x : Part) : Bool := x.code.toList == s.toList
/-- the cells of the k-th part in all worlds behind w -/
theorem RdP.at_ {w : World} {b off n cap : Nat} {ps : List Part} (h : RdP w (.slice (some ⟨b, off, none⟩) n cap) ps) (k : Nat) (hk : k < ps.length) :
    ∃ a c, ∀ W, Below w.heap.size w W → W.cell? ⟨b, off + k * 5, none⟩ = some (.string ps[k].code) ∧ W.cell? ⟨b, off + k * 5 + 1, none⟩ = some (.int .i64 ps[k].slot) ∧ W.cell? ⟨b, off + k * 5 + 2, none⟩ = some (.slice a ps[k].ports.length c) ∧ W.cell? ⟨b, off + k * 5 + 3, none⟩ = some (.int .i64 ps[k].price) ∧ W.cell? ⟨b, off + k * 5 + 4, none⟩ = some (.int .i64 ps[k].grams) ∧ Sl ePort W (.slice a ps[k].ports.length c) ps[k].ports := by
  obtain ⟨A, cap', e, _, _, hc⟩ := h.shape
  obtain ⟨b', off', eA, hb, hx⟩ := hc (by omega)
  subst eA
  injection e with e1 _ _
  injection e1 with e1
  injection e1 with e1 e2
  subst e1
  subst e2
  obtain ⟨a, c, h0, h1, h2, h3, h4, h5⟩ := hx k hk
  exact ⟨a, c, fun W hW => ⟨(hW.cell (p := ⟨b, off + k * 5, none⟩) hb).trans h0, (hW.cell (p := ⟨b, off + k * 5 + 1, none⟩) hb).trans h1, (hW.cell (p := ⟨b, off + k * 5 + 2, none⟩) hb).trans h2, (hW.cell (p := ⟨b, off + k * 5 + 3, none⟩) hb).trans h3, (hW.cell (p := ⟨b, off + k * 5 + 4, none⟩) hb).trans h4, h5.below hW⟩⟩
theorem RdP.some_ {w : World} {v : Value} {ps : List Part} (h : RdP w v ps) (hp : 0 < ps.length) : ∃ b off cap, v = .slice (some ⟨b, off, none⟩) ps.length cap ∧ b < w.heap.size := by
  obtain ⟨A, cap, e, _, _, hc⟩ := h.shape
  obtain ⟨b, off, eA, hb, _⟩ := hc hp
  subst eA
  exact ⟨b, off, cap, e, hb⟩
set_option maxHeartbeats 4000000 in
theorem findPart_any (v : Value) (ps : List Part) (s : ByteArray) (w : World) (hv : RdP w v ps) :
    Calls Try.prog 49 #[v, .string s] w fun e w' => e = .returned (.int .i64 (firstAt (isCode s) ps)) ∧ Below w.heap.size w w' := by
  have HV := Lib.hid hv
  obtain ⟨A, cap, rfl, _, hm, hc⟩ := hv.shape
  clear hv
  go_enter Try.func49, Try.ntmps49
  go_wp2
  go_loopg [9] ps.length (fun gi i wr => ∃ k : Nat, k ≤ ps.length ∧ gi = ps.length - k ∧ i = .int .i64 k ∧ Hid ((ps.take k).any (isCode s) = false) ∧ Below w.heap.size w wr ∧ w.heap.size ≤ wr.heap.size)
  case atStart => exact ⟨0, Nat.zero_le _, rfl, rfl, Lib.hid rfl, Below.refl _ _, Nat.le_refl _⟩
  case round =>
    obtain ⟨k, hk, rfl, rfl, HA, hb, hs⟩ := hrel
    by_cases hlt : k < ps.length
    · obtain ⟨b, off, rfl, hbl, _⟩ := hc (by omega)
      obtain ⟨a, c, hat⟩ := HV.out.at_ k hlt
      obtain ⟨c0, c1, c2, c3, c4, _⟩ := hat wr hb
      have HB := Lib.hid (hb.alloc hs (.cells #[.string ps[k].code, .int .i64 ps[k].slot, .slice a ps[k].ports.length c, .int .i64 ps[k].price, .int .i64 ps[k].grams] 52))
      clear hc hat hb
      rcases hI : isCode s ps[k]
      · have HI := Lib.hid hI
        have g : (ps[k].code.toList == s.toList) = false := hI
        clear hI
        go_wp2
        go_roundg (ps.length - (k + 1))
        case measure => omega
        case rel => exact ⟨k + 1, by omega, rfl, by go_num, Lib.hid (any_take_succ k hlt HA.out HI.out), HB.out, by simp; omega⟩
      · have HI := Lib.hid hI
        have g : (ps[k].code.toList == s.toList) = true := hI
        clear hI
        go_wp2
        go_ret
        exact ⟨ret_int (firstAt_at hlt HA.out HI.out).symm, HB.out⟩
    · obtain rfl : k = ps.length := by omega
      go_wp2
      go_ret
      exact ⟨ret_int (firstAt_none (any_of_take _ (Nat.le_refl _) HA.out)).symm, hb⟩
set_option maxHeartbeats 4000000 in
theorem l16Find_any (v : Value) (ps : List Part) (s : ByteArray) (w : World) (hv : RdP w v ps) :
    Calls Try.prog 51 #[v, .string s] w fun e w' => e = .returned (.int .i64 (firstAt (isCode s) ps)) ∧ w = w' := by
  have HV := Lib.hid hv
  obtain ⟨A, cap, rfl, _, hm, hc⟩ := hv.shape
  clear hv
  go_enter Try.func51, Try.ntmps51
  go_wp2
  go_loop [5] (fun i => ∃ k : Nat, k ≤ ps.length ∧ i = .int .i64 k ∧ Hid ((ps.take k).any (isCode s) = false)) (fun i => ps.length - (intOf i).toNat)
  case atStart => exact ⟨0, Nat.zero_le _, rfl, Lib.hid rfl⟩
  case round =>
    obtain ⟨k, hk, rfl, HA⟩ := hrel
    by_cases hlt : k < ps.length
    · obtain ⟨b, off, rfl, hbl, _⟩ := hc (by omega)
      obtain ⟨a, c, hat⟩ := HV.out.at_ k hlt
      obtain ⟨c0, c1, c2, c3, c4, _⟩ := hat w (Below.refl _ _)
      clear hc hat
      rcases hI : isCode s ps[k]
      · have HI := Lib.hid hI
        have g : (ps[k].code.toList == s.toList) = false := hI
        clear hI
        go_wp2
        go_round
        case rel => exact ⟨k + 1, by omega, by go_num, Lib.hid (any_take_succ k hlt HA.out HI.out)⟩
        case measure => simp [intOf]; omega
      · have HI := Lib.hid hI
        have g : (ps[k].code.toList == s.toList) = true := hI
        clear hI
        go_wp2
        go_ret
        exact ⟨ret_int (firstAt_at hlt HA.out HI.out).symm, rfl⟩
    · obtain rfl : k = ps.length := by omega
      go_wp2
      go_ret
      exact ⟨ret_int (firstAt_none (any_of_take _ (Nat.le_refl _) HA.out)).symm, rfl⟩
end Go.Proofs.Ytblaojjpclipaaa
