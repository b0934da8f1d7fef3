/- The contract of the reference's AreParts (chapter 16). No statement of the seat is proved here. -/
import Derived.Test.YtblaojjpclipaaaPartsI
import Derived.Test.YtblaojjpclipaaaPartS
namespace Go.Proofs.Ytblaojjpclipaaa
open Go.RowKit

set_option maxHeartbeats 16000000 in
set_option maxRecDepth 20000 in
theorem sAreParts_any (v : Value) (ps : List Part) (w : World) (hv : RdP w v ps) (hq : ∀ x ∈ ps, x.code.size ≤ 1048576) :
    Calls Try.prog 65 #[v] w fun e w' => e = .returned (.bool (areParts ps)) ∧ Below w.heap.size w w' := by
  have HV := Lib.hid hv
  have HQ := Lib.hid hq
  obtain ⟨A, cap, rfl, _, hm, hc⟩ := hv.shape
  clear hv hq
  go_enter Try.func65, Try.ntmps65
  go_wp2
  go_loopg [3] ps.length (fun gi i wr => ∃ k : Nat, k ≤ ps.length ∧ gi = ps.length - k ∧ i = .int .i64 k ∧ Hid ((List.range k).all (partOk ps) = true) ∧ Below w.heap.size w wr ∧ w.heap.size ≤ wr.heap.size)
  case atStart => exact ⟨0, Nat.zero_le _, rfl, rfl, Lib.hid rfl, Below.refl _ _, Nat.le_refl _⟩
  case round =>
    obtain ⟨k, hk, rfl, rfl, HA, hb, hs⟩ := hrel
    by_cases hlt : k < ps.length
    rotate_left
    · obtain rfl : k = ps.length := by omega
      go_wp2
      go_ret
      exact ⟨ret_bool (by unfold areParts; rw [HA.out, Bool.and_true]; by_cases h : ps.length ≤ 16 <;> simp [h] <;> omega), hb⟩
    obtain ⟨b, off, rfl, hbl, _⟩ := hc (by omega)
    obtain ⟨a, c, hat⟩ := HV.out.at_ k hlt
    have hdef : partOk ps k = (isPartB ps[k] && (k == 0 || keyLt (ps.getD (k - 1) zPart).code ps[k].code)) := by unfold partOk; rw [getD_at _ _ k hlt]
    have p0 : 0 < k → ∀ W, Below w.heap.size w W → W.cell? ⟨b, off + (k - 1) * 5, none⟩ = some (.string (ps.getD (k - 1) zPart).code) := fun hp W hW => by
      obtain ⟨a', c', hat'⟩ := HV.out.at_ (k - 1) (by omega)
      rw [getD_at _ _ _ (by omega)]
      exact (hat' W hW).1
    have HAT := Lib.hid hat
    have hokx := HQ.out _ (List.getElem_mem hlt)
    clear hc hat
    generalize (ps.getD (k - 1) zPart).code = pk at *
    generalize hx : ps[k] = x at *
    have HD := Lib.hid hdef
    have P0 := Lib.hid p0
    have BWR := Lib.hid hb
    have hki : (k : Int) < (ps.length : Int) := by omega
    have hk0 : (0 : Int) ≤ (k : Int) := by omega
    clear hdef p0 hx hb
    go_wp2
    have hBP : Hid (∀ W, Below wr.heap.size wr W → Below w.heap.size w W) := Lib.hid (fun W h => Below.step BWR.out h)
    have BR : Below wr.heap.size wr wr.drew := (Below.refl _ _).drew
    have KEEP : Hid (∀ W, Below wr.heap.size wr W → (W.cell? ⟨b, off + k * 5, none⟩ = some (.string x.code) ∧ W.cell? ⟨b, off + k * 5 + 1, none⟩ = some (.int .i64 x.slot) ∧ W.cell? ⟨b, off + k * 5 + 2, none⟩ = some (.slice a x.ports.length c) ∧ W.cell? ⟨b, off + k * 5 + 3, none⟩ = some (.int .i64 x.price) ∧ W.cell? ⟨b, off + k * 5 + 4, none⟩ = some (.int .i64 x.grams))) := Lib.hid (fun W h => by
      obtain ⟨q0, q1, q2, q3, q4, _⟩ := HAT.out W (hBP.out W h)
      exact ⟨q0, q1, q2, q3, q4⟩)
    rcases hB : isPartB x
    · have CP : Hid (∀ W, Below wr.heap.size wr W → Calls Try.prog 85 #[.agg #[.string x.code, .int .i64 x.slot, .slice a x.ports.length c, .int .i64 x.price, .int .i64 x.grams]] W fun e w' => e = .returned (.bool false) ∧ Below wr.heap.size wr w') := Lib.hid (fun W h => (sIsPart_any x a c W (HAT.out W (hBP.out W h)).2.2.2.2.2 (by omega)).mono fun _ _ hh => ⟨by rw [hh.1, hB], Below.step h hh.2⟩)
      have HBB := Lib.hid hB
      clear hB P0
      have DA : Hid (Below wr.heap.size wr wr) := Lib.hid (Below.refl _ _)
      obtain ⟨mk, hmk⟩ : ∃ mk : Value → Value → Value → Value → Value → Value → Value → Value → Value → Value → Value → Value → Value → Value → Value → Value → Value → Value → Value → Value → Value → Value → Value → Value → Act, mk = (fun x10 x11 x12 x13 x14 x15 x16 x17 x18 x19 x20 x21 x22 x23 x24 x25 x26 x27 x28 x29 x30 x31 x32 x33 => (⟨#[Value.slice (some ⟨b, off, none⟩) ps.length cap, undef, u2, Value.int .i64 ((k : Nat) : Int), Value.int .i64 ((k : Nat) : Int), Value.slice (some ⟨b, off, none⟩) ps.length cap, Value.int .i64 ((ps.length : Nat) : Int), Value.bool true, u8, u9, x10, x11, x12, x13, x14, x15, x16, x17, x18, x19, x20, x21, x22, x23, x24, x25, x26, x27, x28, x29, x30, x31, x32, x33, undef, undef, undef], []⟩ : Act)) := ⟨_, rfl⟩
      refine wp_region_inv (by kernel_rfl) ([[], [], [0, 1], [2], [3], [4], [5, 4], [6], [7, 6], [8, 6, 6], [9], [9], [11, 9], [10, 12, 9], [13, 9], [14, 9], [9], [9], [16, 17, 9], [18, 9], [19, 9], [15, 20, 9], [9, 21, 6], [6, 22]] : List (List Nat)) (by kernel_rfl) (by kernel_rfl) (fun f az u => ∃ x10 x11 x12 x13 x14 x15 x16 x17 x18 x19 x20 x21 x22 x23 x24 x25 x26 x27 x28 x29 x30 x31 x32 x33 : Value, az = mk x10 x11 x12 x13 x14 x15 x16 x17 x18 x19 x20 x21 x22 x23 x24 x25 x26 x27 x28 x29 x30 x31 x32 x33 ∧ (Below wr.heap.size wr u) ∧ (f 0 = true → x10 = .slice (some ⟨b, off, none⟩) ps.length cap) ∧ (f 1 = true → x11 = .int .i64 (k : Int)) ∧ (f 2 = true → x12 = .pointer (some ⟨b, off + k * 5, none⟩)) ∧ (f 3 = true → x13 = .agg #[.string x.code, .int .i64 x.slot, .slice a x.ports.length c, .int .i64 x.price, .int .i64 x.grams]) ∧ (f 4 = true → x14 = .bool false) ∧ (f 5 = true → x15 = .bool true) ∧ (f 6 = true → x16 = .bool true) ∧ (f 7 = true → x17 = undef) ∧ (f 8 = true → x18 = undef) ∧ (f 9 = true → x19 = undef) ∧ (f 10 = true → x20 = undef) ∧ (f 11 = true → x21 = undef) ∧ (f 12 = true → x22 = undef) ∧ (f 13 = true → x23 = undef) ∧ (f 14 = true → x24 = undef) ∧ (f 15 = true → x25 = undef) ∧ (f 16 = true → x26 = undef) ∧ (f 17 = true → x27 = undef) ∧ (f 18 = true → x28 = undef) ∧ (f 19 = true → x29 = undef) ∧ (f 20 = true → x30 = undef) ∧ (f 21 = true → x31 = undef) ∧ (f 22 = true → x32 = undef) ∧ (f 23 = true → x33 = .bool true)) ?_ ?_ ?_
      · subst hmk
        exact ⟨_, _, _, _, _, _, _, _, _, _, _, _, _, _, _, _, _, _, _, _, _, _, _, _, rfl, DA.out.drew, fun h => (by cases h), fun h => (by cases h), fun h => (by cases h), fun h => (by cases h), fun h => (by cases h), fun h => (by cases h), fun h => (by cases h), fun h => (by cases h), fun h => (by cases h), fun h => (by cases h), fun h => (by cases h), fun h => (by cases h), fun h => (by cases h), fun h => (by cases h), fun h => (by cases h), fun h => (by cases h), fun h => (by cases h), fun h => (by cases h), fun h => (by cases h), fun h => (by cases h), fun h => (by cases h), fun h => (by cases h), fun h => (by cases h), fun h => (by cases h)⟩
      · show ∀ i, i < 24 → _
        refine below_succ ?_ ?_
        · intro f az u hf hd hcl hI
          obtain ⟨x10, x11, x12, x13, x14, x15, x16, x17, x18, x19, x20, x21, x22, x23, x24, x25, x26, x27, x28, x29, x30, x31, x32, x33, rfl, gD, gG⟩ := hI
          subst hmk
          have e6 := gG.2.2.2.2.2.2.1 (hd 6 (by decide))
          subst e6
          have e22 := gG.2.2.2.2.2.2.2.2.2.2.2.2.2.2.2.2.2.2.2.2.2.2.1 (hd 22 (by decide))
          subst e22
          refine wpOp_step rfl (fun K hK => ?_)
          go_simp
          refine hK _ _ ?_
          refine ⟨_, _, _, _, _, _, _, _, _, _, _, _, _, _, _, _, _, _, _, _, _, _, _, _, rfl, gD, fun h => gG.1 h, fun h => gG.2.1 h, fun h => gG.2.2.1 h, fun h => gG.2.2.2.1 h, fun h => gG.2.2.2.2.1 h, fun h => gG.2.2.2.2.2.1 h, fun h => gG.2.2.2.2.2.2.1 h, fun h => gG.2.2.2.2.2.2.2.1 h, fun h => gG.2.2.2.2.2.2.2.2.1 h, fun h => gG.2.2.2.2.2.2.2.2.2.1 h, fun h => gG.2.2.2.2.2.2.2.2.2.2.1 h, fun h => gG.2.2.2.2.2.2.2.2.2.2.2.1 h, fun h => gG.2.2.2.2.2.2.2.2.2.2.2.2.1 h, fun h => gG.2.2.2.2.2.2.2.2.2.2.2.2.2.1 h, fun h => gG.2.2.2.2.2.2.2.2.2.2.2.2.2.2.1 h, fun h => gG.2.2.2.2.2.2.2.2.2.2.2.2.2.2.2.1 h, fun h => gG.2.2.2.2.2.2.2.2.2.2.2.2.2.2.2.2.1 h, fun h => gG.2.2.2.2.2.2.2.2.2.2.2.2.2.2.2.2.2.1 h, fun h => gG.2.2.2.2.2.2.2.2.2.2.2.2.2.2.2.2.2.2.1 h, fun h => gG.2.2.2.2.2.2.2.2.2.2.2.2.2.2.2.2.2.2.2.1 h, fun h => gG.2.2.2.2.2.2.2.2.2.2.2.2.2.2.2.2.2.2.2.2.1 h, fun h => gG.2.2.2.2.2.2.2.2.2.2.2.2.2.2.2.2.2.2.2.2.2.1 h, fun h => gG.2.2.2.2.2.2.2.2.2.2.2.2.2.2.2.2.2.2.2.2.2.2.1 h, fun _ => (by first | rfl | simp)⟩
        refine below_succ ?_ ?_
        · intro f az u hf hd hcl hI
          obtain ⟨x10, x11, x12, x13, x14, x15, x16, x17, x18, x19, x20, x21, x22, x23, x24, x25, x26, x27, x28, x29, x30, x31, x32, x33, rfl, gD, gG⟩ := hI
          subst hmk
          have e6 := gG.2.2.2.2.2.2.1 (hd 6 (by decide))
          subst e6
          refine wpOp_step rfl (fun K hK => ?_)
          refine skip_op rfl ?_
          try go_simp
          refine hK _ _ ?_
          refine ⟨_, _, _, _, _, _, _, _, _, _, _, _, _, _, _, _, _, _, _, _, _, _, _, _, rfl, gD, fun h => gG.1 h, fun h => gG.2.1 h, fun h => gG.2.2.1 h, fun h => gG.2.2.2.1 h, fun h => gG.2.2.2.2.1 h, fun h => gG.2.2.2.2.2.1 h, fun h => gG.2.2.2.2.2.2.1 h, fun h => gG.2.2.2.2.2.2.2.1 h, fun h => gG.2.2.2.2.2.2.2.2.1 h, fun h => gG.2.2.2.2.2.2.2.2.2.1 h, fun h => gG.2.2.2.2.2.2.2.2.2.2.1 h, fun h => gG.2.2.2.2.2.2.2.2.2.2.2.1 h, fun h => gG.2.2.2.2.2.2.2.2.2.2.2.2.1 h, fun h => gG.2.2.2.2.2.2.2.2.2.2.2.2.2.1 h, fun h => gG.2.2.2.2.2.2.2.2.2.2.2.2.2.2.1 h, fun h => gG.2.2.2.2.2.2.2.2.2.2.2.2.2.2.2.1 h, fun h => gG.2.2.2.2.2.2.2.2.2.2.2.2.2.2.2.2.1 h, fun h => gG.2.2.2.2.2.2.2.2.2.2.2.2.2.2.2.2.2.1 h, fun h => gG.2.2.2.2.2.2.2.2.2.2.2.2.2.2.2.2.2.2.1 h, fun h => gG.2.2.2.2.2.2.2.2.2.2.2.2.2.2.2.2.2.2.2.1 h, fun h => gG.2.2.2.2.2.2.2.2.2.2.2.2.2.2.2.2.2.2.2.2.1 h, fun h => gG.2.2.2.2.2.2.2.2.2.2.2.2.2.2.2.2.2.2.2.2.2.1 h, fun _ => rfl, fun h => gG.2.2.2.2.2.2.2.2.2.2.2.2.2.2.2.2.2.2.2.2.2.2.2 h⟩
        refine below_succ ?_ ?_
        · intro f az u hf hd hcl hI
          obtain ⟨x10, x11, x12, x13, x14, x15, x16, x17, x18, x19, x20, x21, x22, x23, x24, x25, x26, x27, x28, x29, x30, x31, x32, x33, rfl, gD, gG⟩ := hI
          subst hmk
          have e9 := gG.2.2.2.2.2.2.2.2.2.1 (hd 9 (by decide))
          subst e9
          refine wpOp_step rfl (fun K hK => ?_)
          refine skip_op rfl ?_
          try go_simp
          refine hK _ _ ?_
          refine ⟨_, _, _, _, _, _, _, _, _, _, _, _, _, _, _, _, _, _, _, _, _, _, _, _, rfl, gD, fun h => gG.1 h, fun h => gG.2.1 h, fun h => gG.2.2.1 h, fun h => gG.2.2.2.1 h, fun h => gG.2.2.2.2.1 h, fun h => gG.2.2.2.2.2.1 h, fun h => gG.2.2.2.2.2.2.1 h, fun h => gG.2.2.2.2.2.2.2.1 h, fun h => gG.2.2.2.2.2.2.2.2.1 h, fun h => gG.2.2.2.2.2.2.2.2.2.1 h, fun h => gG.2.2.2.2.2.2.2.2.2.2.1 h, fun h => gG.2.2.2.2.2.2.2.2.2.2.2.1 h, fun h => gG.2.2.2.2.2.2.2.2.2.2.2.2.1 h, fun h => gG.2.2.2.2.2.2.2.2.2.2.2.2.2.1 h, fun h => gG.2.2.2.2.2.2.2.2.2.2.2.2.2.2.1 h, fun h => gG.2.2.2.2.2.2.2.2.2.2.2.2.2.2.2.1 h, fun h => gG.2.2.2.2.2.2.2.2.2.2.2.2.2.2.2.2.1 h, fun h => gG.2.2.2.2.2.2.2.2.2.2.2.2.2.2.2.2.2.1 h, fun h => gG.2.2.2.2.2.2.2.2.2.2.2.2.2.2.2.2.2.2.1 h, fun h => gG.2.2.2.2.2.2.2.2.2.2.2.2.2.2.2.2.2.2.2.1 h, fun h => gG.2.2.2.2.2.2.2.2.2.2.2.2.2.2.2.2.2.2.2.2.1 h, fun _ => rfl, fun h => gG.2.2.2.2.2.2.2.2.2.2.2.2.2.2.2.2.2.2.2.2.2.2.1 h, fun h => gG.2.2.2.2.2.2.2.2.2.2.2.2.2.2.2.2.2.2.2.2.2.2.2 h⟩
        refine below_succ ?_ ?_
        · intro f az u hf hd hcl hI
          obtain ⟨x10, x11, x12, x13, x14, x15, x16, x17, x18, x19, x20, x21, x22, x23, x24, x25, x26, x27, x28, x29, x30, x31, x32, x33, rfl, gD, gG⟩ := hI
          subst hmk
          have e9 := gG.2.2.2.2.2.2.2.2.2.1 (hd 9 (by decide))
          subst e9
          refine wpOp_step rfl (fun K hK => ?_)
          refine skip_op rfl ?_
          try go_simp
          refine hK _ _ ?_
          refine ⟨_, _, _, _, _, _, _, _, _, _, _, _, _, _, _, _, _, _, _, _, _, _, _, _, rfl, gD, fun h => gG.1 h, fun h => gG.2.1 h, fun h => gG.2.2.1 h, fun h => gG.2.2.2.1 h, fun h => gG.2.2.2.2.1 h, fun h => gG.2.2.2.2.2.1 h, fun h => gG.2.2.2.2.2.2.1 h, fun h => gG.2.2.2.2.2.2.2.1 h, fun h => gG.2.2.2.2.2.2.2.2.1 h, fun h => gG.2.2.2.2.2.2.2.2.2.1 h, fun h => gG.2.2.2.2.2.2.2.2.2.2.1 h, fun h => gG.2.2.2.2.2.2.2.2.2.2.2.1 h, fun h => gG.2.2.2.2.2.2.2.2.2.2.2.2.1 h, fun h => gG.2.2.2.2.2.2.2.2.2.2.2.2.2.1 h, fun h => gG.2.2.2.2.2.2.2.2.2.2.2.2.2.2.1 h, fun h => gG.2.2.2.2.2.2.2.2.2.2.2.2.2.2.2.1 h, fun h => gG.2.2.2.2.2.2.2.2.2.2.2.2.2.2.2.2.1 h, fun h => gG.2.2.2.2.2.2.2.2.2.2.2.2.2.2.2.2.2.1 h, fun h => gG.2.2.2.2.2.2.2.2.2.2.2.2.2.2.2.2.2.2.1 h, fun h => gG.2.2.2.2.2.2.2.2.2.2.2.2.2.2.2.2.2.2.2.1 h, fun _ => rfl, fun h => gG.2.2.2.2.2.2.2.2.2.2.2.2.2.2.2.2.2.2.2.2.2.1 h, fun h => gG.2.2.2.2.2.2.2.2.2.2.2.2.2.2.2.2.2.2.2.2.2.2.1 h, fun h => gG.2.2.2.2.2.2.2.2.2.2.2.2.2.2.2.2.2.2.2.2.2.2.2 h⟩
        refine below_succ ?_ ?_
        · intro f az u hf hd hcl hI
          obtain ⟨x10, x11, x12, x13, x14, x15, x16, x17, x18, x19, x20, x21, x22, x23, x24, x25, x26, x27, x28, x29, x30, x31, x32, x33, rfl, gD, gG⟩ := hI
          subst hmk
          have e9 := gG.2.2.2.2.2.2.2.2.2.1 (hd 9 (by decide))
          subst e9
          refine wpOp_step rfl (fun K hK => ?_)
          refine skip_op rfl ?_
          try go_simp
          refine hK _ _ ?_
          refine ⟨_, _, _, _, _, _, _, _, _, _, _, _, _, _, _, _, _, _, _, _, _, _, _, _, rfl, gD, fun h => gG.1 h, fun h => gG.2.1 h, fun h => gG.2.2.1 h, fun h => gG.2.2.2.1 h, fun h => gG.2.2.2.2.1 h, fun h => gG.2.2.2.2.2.1 h, fun h => gG.2.2.2.2.2.2.1 h, fun h => gG.2.2.2.2.2.2.2.1 h, fun h => gG.2.2.2.2.2.2.2.2.1 h, fun h => gG.2.2.2.2.2.2.2.2.2.1 h, fun h => gG.2.2.2.2.2.2.2.2.2.2.1 h, fun h => gG.2.2.2.2.2.2.2.2.2.2.2.1 h, fun h => gG.2.2.2.2.2.2.2.2.2.2.2.2.1 h, fun h => gG.2.2.2.2.2.2.2.2.2.2.2.2.2.1 h, fun h => gG.2.2.2.2.2.2.2.2.2.2.2.2.2.2.1 h, fun h => gG.2.2.2.2.2.2.2.2.2.2.2.2.2.2.2.1 h, fun h => gG.2.2.2.2.2.2.2.2.2.2.2.2.2.2.2.2.1 h, fun h => gG.2.2.2.2.2.2.2.2.2.2.2.2.2.2.2.2.2.1 h, fun h => gG.2.2.2.2.2.2.2.2.2.2.2.2.2.2.2.2.2.2.1 h, fun _ => rfl, fun h => gG.2.2.2.2.2.2.2.2.2.2.2.2.2.2.2.2.2.2.2.2.1 h, fun h => gG.2.2.2.2.2.2.2.2.2.2.2.2.2.2.2.2.2.2.2.2.2.1 h, fun h => gG.2.2.2.2.2.2.2.2.2.2.2.2.2.2.2.2.2.2.2.2.2.2.1 h, fun h => gG.2.2.2.2.2.2.2.2.2.2.2.2.2.2.2.2.2.2.2.2.2.2.2 h⟩
        refine below_succ ?_ ?_
        · intro f az u hf hd hcl hI
          obtain ⟨x10, x11, x12, x13, x14, x15, x16, x17, x18, x19, x20, x21, x22, x23, x24, x25, x26, x27, x28, x29, x30, x31, x32, x33, rfl, gD, gG⟩ := hI
          subst hmk
          have e9 := gG.2.2.2.2.2.2.2.2.2.1 (hd 9 (by decide))
          subst e9
          refine wpOp_step rfl (fun K hK => ?_)
          refine skip_op rfl ?_
          try go_simp
          refine hK _ _ ?_
          refine ⟨_, _, _, _, _, _, _, _, _, _, _, _, _, _, _, _, _, _, _, _, _, _, _, _, rfl, gD, fun h => gG.1 h, fun h => gG.2.1 h, fun h => gG.2.2.1 h, fun h => gG.2.2.2.1 h, fun h => gG.2.2.2.2.1 h, fun h => gG.2.2.2.2.2.1 h, fun h => gG.2.2.2.2.2.2.1 h, fun h => gG.2.2.2.2.2.2.2.1 h, fun h => gG.2.2.2.2.2.2.2.2.1 h, fun h => gG.2.2.2.2.2.2.2.2.2.1 h, fun h => gG.2.2.2.2.2.2.2.2.2.2.1 h, fun h => gG.2.2.2.2.2.2.2.2.2.2.2.1 h, fun h => gG.2.2.2.2.2.2.2.2.2.2.2.2.1 h, fun h => gG.2.2.2.2.2.2.2.2.2.2.2.2.2.1 h, fun h => gG.2.2.2.2.2.2.2.2.2.2.2.2.2.2.1 h, fun h => gG.2.2.2.2.2.2.2.2.2.2.2.2.2.2.2.1 h, fun h => gG.2.2.2.2.2.2.2.2.2.2.2.2.2.2.2.2.1 h, fun h => gG.2.2.2.2.2.2.2.2.2.2.2.2.2.2.2.2.2.1 h, fun _ => rfl, fun h => gG.2.2.2.2.2.2.2.2.2.2.2.2.2.2.2.2.2.2.2.1 h, fun h => gG.2.2.2.2.2.2.2.2.2.2.2.2.2.2.2.2.2.2.2.2.1 h, fun h => gG.2.2.2.2.2.2.2.2.2.2.2.2.2.2.2.2.2.2.2.2.2.1 h, fun h => gG.2.2.2.2.2.2.2.2.2.2.2.2.2.2.2.2.2.2.2.2.2.2.1 h, fun h => gG.2.2.2.2.2.2.2.2.2.2.2.2.2.2.2.2.2.2.2.2.2.2.2 h⟩
        refine below_succ ?_ ?_
        · intro f az u hf hd hcl hI
          obtain ⟨x10, x11, x12, x13, x14, x15, x16, x17, x18, x19, x20, x21, x22, x23, x24, x25, x26, x27, x28, x29, x30, x31, x32, x33, rfl, gD, gG⟩ := hI
          subst hmk
          have e9 := gG.2.2.2.2.2.2.2.2.2.1 (hd 9 (by decide))
          subst e9
          refine wpOp_step rfl (fun K hK => ?_)
          refine skip_op rfl ?_
          try go_simp
          refine hK _ _ ?_
          refine ⟨_, _, _, _, _, _, _, _, _, _, _, _, _, _, _, _, _, _, _, _, _, _, _, _, rfl, gD, fun h => gG.1 h, fun h => gG.2.1 h, fun h => gG.2.2.1 h, fun h => gG.2.2.2.1 h, fun h => gG.2.2.2.2.1 h, fun h => gG.2.2.2.2.2.1 h, fun h => gG.2.2.2.2.2.2.1 h, fun h => gG.2.2.2.2.2.2.2.1 h, fun h => gG.2.2.2.2.2.2.2.2.1 h, fun h => gG.2.2.2.2.2.2.2.2.2.1 h, fun h => gG.2.2.2.2.2.2.2.2.2.2.1 h, fun h => gG.2.2.2.2.2.2.2.2.2.2.2.1 h, fun h => gG.2.2.2.2.2.2.2.2.2.2.2.2.1 h, fun h => gG.2.2.2.2.2.2.2.2.2.2.2.2.2.1 h, fun h => gG.2.2.2.2.2.2.2.2.2.2.2.2.2.2.1 h, fun h => gG.2.2.2.2.2.2.2.2.2.2.2.2.2.2.2.1 h, fun h => gG.2.2.2.2.2.2.2.2.2.2.2.2.2.2.2.2.1 h, fun _ => rfl, fun h => gG.2.2.2.2.2.2.2.2.2.2.2.2.2.2.2.2.2.2.1 h, fun h => gG.2.2.2.2.2.2.2.2.2.2.2.2.2.2.2.2.2.2.2.1 h, fun h => gG.2.2.2.2.2.2.2.2.2.2.2.2.2.2.2.2.2.2.2.2.1 h, fun h => gG.2.2.2.2.2.2.2.2.2.2.2.2.2.2.2.2.2.2.2.2.2.1 h, fun h => gG.2.2.2.2.2.2.2.2.2.2.2.2.2.2.2.2.2.2.2.2.2.2.1 h, fun h => gG.2.2.2.2.2.2.2.2.2.2.2.2.2.2.2.2.2.2.2.2.2.2.2 h⟩
        refine below_succ ?_ ?_
        · intro f az u hf hd hcl hI
          obtain ⟨x10, x11, x12, x13, x14, x15, x16, x17, x18, x19, x20, x21, x22, x23, x24, x25, x26, x27, x28, x29, x30, x31, x32, x33, rfl, gD, gG⟩ := hI
          subst hmk
          have e9 := gG.2.2.2.2.2.2.2.2.2.1 (hd 9 (by decide))
          subst e9
          refine wpOp_step rfl (fun K hK => ?_)
          refine skip_op rfl ?_
          try go_simp
          refine hK _ _ ?_
          refine ⟨_, _, _, _, _, _, _, _, _, _, _, _, _, _, _, _, _, _, _, _, _, _, _, _, rfl, gD, fun h => gG.1 h, fun h => gG.2.1 h, fun h => gG.2.2.1 h, fun h => gG.2.2.2.1 h, fun h => gG.2.2.2.2.1 h, fun h => gG.2.2.2.2.2.1 h, fun h => gG.2.2.2.2.2.2.1 h, fun h => gG.2.2.2.2.2.2.2.1 h, fun h => gG.2.2.2.2.2.2.2.2.1 h, fun h => gG.2.2.2.2.2.2.2.2.2.1 h, fun h => gG.2.2.2.2.2.2.2.2.2.2.1 h, fun h => gG.2.2.2.2.2.2.2.2.2.2.2.1 h, fun h => gG.2.2.2.2.2.2.2.2.2.2.2.2.1 h, fun h => gG.2.2.2.2.2.2.2.2.2.2.2.2.2.1 h, fun h => gG.2.2.2.2.2.2.2.2.2.2.2.2.2.2.1 h, fun h => gG.2.2.2.2.2.2.2.2.2.2.2.2.2.2.2.1 h, fun _ => rfl, fun h => gG.2.2.2.2.2.2.2.2.2.2.2.2.2.2.2.2.2.1 h, fun h => gG.2.2.2.2.2.2.2.2.2.2.2.2.2.2.2.2.2.2.1 h, fun h => gG.2.2.2.2.2.2.2.2.2.2.2.2.2.2.2.2.2.2.2.1 h, fun h => gG.2.2.2.2.2.2.2.2.2.2.2.2.2.2.2.2.2.2.2.2.1 h, fun h => gG.2.2.2.2.2.2.2.2.2.2.2.2.2.2.2.2.2.2.2.2.2.1 h, fun h => gG.2.2.2.2.2.2.2.2.2.2.2.2.2.2.2.2.2.2.2.2.2.2.1 h, fun h => gG.2.2.2.2.2.2.2.2.2.2.2.2.2.2.2.2.2.2.2.2.2.2.2 h⟩
        refine below_succ ?_ ?_
        · intro f az u hf hd hcl hI
          obtain ⟨x10, x11, x12, x13, x14, x15, x16, x17, x18, x19, x20, x21, x22, x23, x24, x25, x26, x27, x28, x29, x30, x31, x32, x33, rfl, gD, gG⟩ := hI
          subst hmk
          have e9 := gG.2.2.2.2.2.2.2.2.2.1 (hd 9 (by decide))
          subst e9
          refine wpOp_step rfl (fun K hK => ?_)
          refine skip_op rfl ?_
          try go_simp
          refine hK _ _ ?_
          refine ⟨_, _, _, _, _, _, _, _, _, _, _, _, _, _, _, _, _, _, _, _, _, _, _, _, rfl, gD, fun h => gG.1 h, fun h => gG.2.1 h, fun h => gG.2.2.1 h, fun h => gG.2.2.2.1 h, fun h => gG.2.2.2.2.1 h, fun h => gG.2.2.2.2.2.1 h, fun h => gG.2.2.2.2.2.2.1 h, fun h => gG.2.2.2.2.2.2.2.1 h, fun h => gG.2.2.2.2.2.2.2.2.1 h, fun h => gG.2.2.2.2.2.2.2.2.2.1 h, fun h => gG.2.2.2.2.2.2.2.2.2.2.1 h, fun h => gG.2.2.2.2.2.2.2.2.2.2.2.1 h, fun h => gG.2.2.2.2.2.2.2.2.2.2.2.2.1 h, fun h => gG.2.2.2.2.2.2.2.2.2.2.2.2.2.1 h, fun h => gG.2.2.2.2.2.2.2.2.2.2.2.2.2.2.1 h, fun _ => rfl, fun h => gG.2.2.2.2.2.2.2.2.2.2.2.2.2.2.2.2.1 h, fun h => gG.2.2.2.2.2.2.2.2.2.2.2.2.2.2.2.2.2.1 h, fun h => gG.2.2.2.2.2.2.2.2.2.2.2.2.2.2.2.2.2.2.1 h, fun h => gG.2.2.2.2.2.2.2.2.2.2.2.2.2.2.2.2.2.2.2.1 h, fun h => gG.2.2.2.2.2.2.2.2.2.2.2.2.2.2.2.2.2.2.2.2.1 h, fun h => gG.2.2.2.2.2.2.2.2.2.2.2.2.2.2.2.2.2.2.2.2.2.1 h, fun h => gG.2.2.2.2.2.2.2.2.2.2.2.2.2.2.2.2.2.2.2.2.2.2.1 h, fun h => gG.2.2.2.2.2.2.2.2.2.2.2.2.2.2.2.2.2.2.2.2.2.2.2 h⟩
        refine below_succ ?_ ?_
        · intro f az u hf hd hcl hI
          obtain ⟨x10, x11, x12, x13, x14, x15, x16, x17, x18, x19, x20, x21, x22, x23, x24, x25, x26, x27, x28, x29, x30, x31, x32, x33, rfl, gD, gG⟩ := hI
          subst hmk
          have e9 := gG.2.2.2.2.2.2.2.2.2.1 (hd 9 (by decide))
          subst e9
          refine wpOp_step rfl (fun K hK => ?_)
          refine skip_op rfl ?_
          try go_simp
          refine hK _ _ ?_
          refine ⟨_, _, _, _, _, _, _, _, _, _, _, _, _, _, _, _, _, _, _, _, _, _, _, _, rfl, gD, fun h => gG.1 h, fun h => gG.2.1 h, fun h => gG.2.2.1 h, fun h => gG.2.2.2.1 h, fun h => gG.2.2.2.2.1 h, fun h => gG.2.2.2.2.2.1 h, fun h => gG.2.2.2.2.2.2.1 h, fun h => gG.2.2.2.2.2.2.2.1 h, fun h => gG.2.2.2.2.2.2.2.2.1 h, fun h => gG.2.2.2.2.2.2.2.2.2.1 h, fun h => gG.2.2.2.2.2.2.2.2.2.2.1 h, fun h => gG.2.2.2.2.2.2.2.2.2.2.2.1 h, fun h => gG.2.2.2.2.2.2.2.2.2.2.2.2.1 h, fun h => gG.2.2.2.2.2.2.2.2.2.2.2.2.2.1 h, fun _ => rfl, fun h => gG.2.2.2.2.2.2.2.2.2.2.2.2.2.2.2.1 h, fun h => gG.2.2.2.2.2.2.2.2.2.2.2.2.2.2.2.2.1 h, fun h => gG.2.2.2.2.2.2.2.2.2.2.2.2.2.2.2.2.2.1 h, fun h => gG.2.2.2.2.2.2.2.2.2.2.2.2.2.2.2.2.2.2.1 h, fun h => gG.2.2.2.2.2.2.2.2.2.2.2.2.2.2.2.2.2.2.2.1 h, fun h => gG.2.2.2.2.2.2.2.2.2.2.2.2.2.2.2.2.2.2.2.2.1 h, fun h => gG.2.2.2.2.2.2.2.2.2.2.2.2.2.2.2.2.2.2.2.2.2.1 h, fun h => gG.2.2.2.2.2.2.2.2.2.2.2.2.2.2.2.2.2.2.2.2.2.2.1 h, fun h => gG.2.2.2.2.2.2.2.2.2.2.2.2.2.2.2.2.2.2.2.2.2.2.2 h⟩
        refine below_succ ?_ ?_
        · intro f az u hf hd hcl hI
          obtain ⟨x10, x11, x12, x13, x14, x15, x16, x17, x18, x19, x20, x21, x22, x23, x24, x25, x26, x27, x28, x29, x30, x31, x32, x33, rfl, gD, gG⟩ := hI
          subst hmk
          have e9 := gG.2.2.2.2.2.2.2.2.2.1 (hd 9 (by decide))
          subst e9
          refine wpOp_step rfl (fun K hK => ?_)
          refine skip_op rfl ?_
          try go_simp
          refine hK _ _ ?_
          refine ⟨_, _, _, _, _, _, _, _, _, _, _, _, _, _, _, _, _, _, _, _, _, _, _, _, rfl, gD, fun h => gG.1 h, fun h => gG.2.1 h, fun h => gG.2.2.1 h, fun h => gG.2.2.2.1 h, fun h => gG.2.2.2.2.1 h, fun h => gG.2.2.2.2.2.1 h, fun h => gG.2.2.2.2.2.2.1 h, fun h => gG.2.2.2.2.2.2.2.1 h, fun h => gG.2.2.2.2.2.2.2.2.1 h, fun h => gG.2.2.2.2.2.2.2.2.2.1 h, fun h => gG.2.2.2.2.2.2.2.2.2.2.1 h, fun h => gG.2.2.2.2.2.2.2.2.2.2.2.1 h, fun h => gG.2.2.2.2.2.2.2.2.2.2.2.2.1 h, fun _ => rfl, fun h => gG.2.2.2.2.2.2.2.2.2.2.2.2.2.2.1 h, fun h => gG.2.2.2.2.2.2.2.2.2.2.2.2.2.2.2.1 h, fun h => gG.2.2.2.2.2.2.2.2.2.2.2.2.2.2.2.2.1 h, fun h => gG.2.2.2.2.2.2.2.2.2.2.2.2.2.2.2.2.2.1 h, fun h => gG.2.2.2.2.2.2.2.2.2.2.2.2.2.2.2.2.2.2.1 h, fun h => gG.2.2.2.2.2.2.2.2.2.2.2.2.2.2.2.2.2.2.2.1 h, fun h => gG.2.2.2.2.2.2.2.2.2.2.2.2.2.2.2.2.2.2.2.2.1 h, fun h => gG.2.2.2.2.2.2.2.2.2.2.2.2.2.2.2.2.2.2.2.2.2.1 h, fun h => gG.2.2.2.2.2.2.2.2.2.2.2.2.2.2.2.2.2.2.2.2.2.2.1 h, fun h => gG.2.2.2.2.2.2.2.2.2.2.2.2.2.2.2.2.2.2.2.2.2.2.2 h⟩
        refine below_succ ?_ ?_
        · intro f az u hf hd hcl hI
          obtain ⟨x10, x11, x12, x13, x14, x15, x16, x17, x18, x19, x20, x21, x22, x23, x24, x25, x26, x27, x28, x29, x30, x31, x32, x33, rfl, gD, gG⟩ := hI
          subst hmk
          have e9 := gG.2.2.2.2.2.2.2.2.2.1 (hd 9 (by decide))
          subst e9
          refine wpOp_step rfl (fun K hK => ?_)
          refine skip_op rfl ?_
          try go_simp
          refine hK _ _ ?_
          refine ⟨_, _, _, _, _, _, _, _, _, _, _, _, _, _, _, _, _, _, _, _, _, _, _, _, rfl, gD, fun h => gG.1 h, fun h => gG.2.1 h, fun h => gG.2.2.1 h, fun h => gG.2.2.2.1 h, fun h => gG.2.2.2.2.1 h, fun h => gG.2.2.2.2.2.1 h, fun h => gG.2.2.2.2.2.2.1 h, fun h => gG.2.2.2.2.2.2.2.1 h, fun h => gG.2.2.2.2.2.2.2.2.1 h, fun h => gG.2.2.2.2.2.2.2.2.2.1 h, fun h => gG.2.2.2.2.2.2.2.2.2.2.1 h, fun h => gG.2.2.2.2.2.2.2.2.2.2.2.1 h, fun _ => rfl, fun h => gG.2.2.2.2.2.2.2.2.2.2.2.2.2.1 h, fun h => gG.2.2.2.2.2.2.2.2.2.2.2.2.2.2.1 h, fun h => gG.2.2.2.2.2.2.2.2.2.2.2.2.2.2.2.1 h, fun h => gG.2.2.2.2.2.2.2.2.2.2.2.2.2.2.2.2.1 h, fun h => gG.2.2.2.2.2.2.2.2.2.2.2.2.2.2.2.2.2.1 h, fun h => gG.2.2.2.2.2.2.2.2.2.2.2.2.2.2.2.2.2.2.1 h, fun h => gG.2.2.2.2.2.2.2.2.2.2.2.2.2.2.2.2.2.2.2.1 h, fun h => gG.2.2.2.2.2.2.2.2.2.2.2.2.2.2.2.2.2.2.2.2.1 h, fun h => gG.2.2.2.2.2.2.2.2.2.2.2.2.2.2.2.2.2.2.2.2.2.1 h, fun h => gG.2.2.2.2.2.2.2.2.2.2.2.2.2.2.2.2.2.2.2.2.2.2.1 h, fun h => gG.2.2.2.2.2.2.2.2.2.2.2.2.2.2.2.2.2.2.2.2.2.2.2 h⟩
        refine below_succ ?_ ?_
        · intro f az u hf hd hcl hI
          obtain ⟨x10, x11, x12, x13, x14, x15, x16, x17, x18, x19, x20, x21, x22, x23, x24, x25, x26, x27, x28, x29, x30, x31, x32, x33, rfl, gD, gG⟩ := hI
          subst hmk
          have e9 := gG.2.2.2.2.2.2.2.2.2.1 (hd 9 (by decide))
          subst e9
          refine wpOp_step rfl (fun K hK => ?_)
          refine skip_op rfl ?_
          try go_simp
          refine hK _ _ ?_
          refine ⟨_, _, _, _, _, _, _, _, _, _, _, _, _, _, _, _, _, _, _, _, _, _, _, _, rfl, gD, fun h => gG.1 h, fun h => gG.2.1 h, fun h => gG.2.2.1 h, fun h => gG.2.2.2.1 h, fun h => gG.2.2.2.2.1 h, fun h => gG.2.2.2.2.2.1 h, fun h => gG.2.2.2.2.2.2.1 h, fun h => gG.2.2.2.2.2.2.2.1 h, fun h => gG.2.2.2.2.2.2.2.2.1 h, fun h => gG.2.2.2.2.2.2.2.2.2.1 h, fun h => gG.2.2.2.2.2.2.2.2.2.2.1 h, fun _ => rfl, fun h => gG.2.2.2.2.2.2.2.2.2.2.2.2.1 h, fun h => gG.2.2.2.2.2.2.2.2.2.2.2.2.2.1 h, fun h => gG.2.2.2.2.2.2.2.2.2.2.2.2.2.2.1 h, fun h => gG.2.2.2.2.2.2.2.2.2.2.2.2.2.2.2.1 h, fun h => gG.2.2.2.2.2.2.2.2.2.2.2.2.2.2.2.2.1 h, fun h => gG.2.2.2.2.2.2.2.2.2.2.2.2.2.2.2.2.2.1 h, fun h => gG.2.2.2.2.2.2.2.2.2.2.2.2.2.2.2.2.2.2.1 h, fun h => gG.2.2.2.2.2.2.2.2.2.2.2.2.2.2.2.2.2.2.2.1 h, fun h => gG.2.2.2.2.2.2.2.2.2.2.2.2.2.2.2.2.2.2.2.2.1 h, fun h => gG.2.2.2.2.2.2.2.2.2.2.2.2.2.2.2.2.2.2.2.2.2.1 h, fun h => gG.2.2.2.2.2.2.2.2.2.2.2.2.2.2.2.2.2.2.2.2.2.2.1 h, fun h => gG.2.2.2.2.2.2.2.2.2.2.2.2.2.2.2.2.2.2.2.2.2.2.2 h⟩
        refine below_succ ?_ ?_
        · intro f az u hf hd hcl hI
          obtain ⟨x10, x11, x12, x13, x14, x15, x16, x17, x18, x19, x20, x21, x22, x23, x24, x25, x26, x27, x28, x29, x30, x31, x32, x33, rfl, gD, gG⟩ := hI
          subst hmk
          have e9 := gG.2.2.2.2.2.2.2.2.2.1 (hd 9 (by decide))
          subst e9
          refine wpOp_step rfl (fun K hK => ?_)
          refine skip_op rfl ?_
          try go_simp
          refine hK _ _ ?_
          refine ⟨_, _, _, _, _, _, _, _, _, _, _, _, _, _, _, _, _, _, _, _, _, _, _, _, rfl, gD, fun h => gG.1 h, fun h => gG.2.1 h, fun h => gG.2.2.1 h, fun h => gG.2.2.2.1 h, fun h => gG.2.2.2.2.1 h, fun h => gG.2.2.2.2.2.1 h, fun h => gG.2.2.2.2.2.2.1 h, fun h => gG.2.2.2.2.2.2.2.1 h, fun h => gG.2.2.2.2.2.2.2.2.1 h, fun h => gG.2.2.2.2.2.2.2.2.2.1 h, fun _ => rfl, fun h => gG.2.2.2.2.2.2.2.2.2.2.2.1 h, fun h => gG.2.2.2.2.2.2.2.2.2.2.2.2.1 h, fun h => gG.2.2.2.2.2.2.2.2.2.2.2.2.2.1 h, fun h => gG.2.2.2.2.2.2.2.2.2.2.2.2.2.2.1 h, fun h => gG.2.2.2.2.2.2.2.2.2.2.2.2.2.2.2.1 h, fun h => gG.2.2.2.2.2.2.2.2.2.2.2.2.2.2.2.2.1 h, fun h => gG.2.2.2.2.2.2.2.2.2.2.2.2.2.2.2.2.2.1 h, fun h => gG.2.2.2.2.2.2.2.2.2.2.2.2.2.2.2.2.2.2.1 h, fun h => gG.2.2.2.2.2.2.2.2.2.2.2.2.2.2.2.2.2.2.2.1 h, fun h => gG.2.2.2.2.2.2.2.2.2.2.2.2.2.2.2.2.2.2.2.2.1 h, fun h => gG.2.2.2.2.2.2.2.2.2.2.2.2.2.2.2.2.2.2.2.2.2.1 h, fun h => gG.2.2.2.2.2.2.2.2.2.2.2.2.2.2.2.2.2.2.2.2.2.2.1 h, fun h => gG.2.2.2.2.2.2.2.2.2.2.2.2.2.2.2.2.2.2.2.2.2.2.2 h⟩
        refine below_succ ?_ ?_
        · intro f az u hf hd hcl hI
          obtain ⟨x10, x11, x12, x13, x14, x15, x16, x17, x18, x19, x20, x21, x22, x23, x24, x25, x26, x27, x28, x29, x30, x31, x32, x33, rfl, gD, gG⟩ := hI
          subst hmk
          have e6 := gG.2.2.2.2.2.2.1 (hd 6 (by decide))
          subst e6
          refine wpOp_step rfl (fun K hK => ?_)
          refine skip_op rfl ?_
          try go_simp
          refine hK _ _ ?_
          refine ⟨_, _, _, _, _, _, _, _, _, _, _, _, _, _, _, _, _, _, _, _, _, _, _, _, rfl, gD, fun h => gG.1 h, fun h => gG.2.1 h, fun h => gG.2.2.1 h, fun h => gG.2.2.2.1 h, fun h => gG.2.2.2.2.1 h, fun h => gG.2.2.2.2.2.1 h, fun h => gG.2.2.2.2.2.2.1 h, fun h => gG.2.2.2.2.2.2.2.1 h, fun h => gG.2.2.2.2.2.2.2.2.1 h, fun _ => rfl, fun h => gG.2.2.2.2.2.2.2.2.2.2.1 h, fun h => gG.2.2.2.2.2.2.2.2.2.2.2.1 h, fun h => gG.2.2.2.2.2.2.2.2.2.2.2.2.1 h, fun h => gG.2.2.2.2.2.2.2.2.2.2.2.2.2.1 h, fun h => gG.2.2.2.2.2.2.2.2.2.2.2.2.2.2.1 h, fun h => gG.2.2.2.2.2.2.2.2.2.2.2.2.2.2.2.1 h, fun h => gG.2.2.2.2.2.2.2.2.2.2.2.2.2.2.2.2.1 h, fun h => gG.2.2.2.2.2.2.2.2.2.2.2.2.2.2.2.2.2.1 h, fun h => gG.2.2.2.2.2.2.2.2.2.2.2.2.2.2.2.2.2.2.1 h, fun h => gG.2.2.2.2.2.2.2.2.2.2.2.2.2.2.2.2.2.2.2.1 h, fun h => gG.2.2.2.2.2.2.2.2.2.2.2.2.2.2.2.2.2.2.2.2.1 h, fun h => gG.2.2.2.2.2.2.2.2.2.2.2.2.2.2.2.2.2.2.2.2.2.1 h, fun h => gG.2.2.2.2.2.2.2.2.2.2.2.2.2.2.2.2.2.2.2.2.2.2.1 h, fun h => gG.2.2.2.2.2.2.2.2.2.2.2.2.2.2.2.2.2.2.2.2.2.2.2 h⟩
        refine below_succ ?_ ?_
        · intro f az u hf hd hcl hI
          obtain ⟨x10, x11, x12, x13, x14, x15, x16, x17, x18, x19, x20, x21, x22, x23, x24, x25, x26, x27, x28, x29, x30, x31, x32, x33, rfl, gD, gG⟩ := hI
          subst hmk
          have e6 := gG.2.2.2.2.2.2.1 (hd 6 (by decide))
          subst e6
          refine wpOp_step rfl (fun K hK => ?_)
          refine skip_op rfl ?_
          try go_simp
          refine hK _ _ ?_
          refine ⟨_, _, _, _, _, _, _, _, _, _, _, _, _, _, _, _, _, _, _, _, _, _, _, _, rfl, gD, fun h => gG.1 h, fun h => gG.2.1 h, fun h => gG.2.2.1 h, fun h => gG.2.2.2.1 h, fun h => gG.2.2.2.2.1 h, fun h => gG.2.2.2.2.2.1 h, fun h => gG.2.2.2.2.2.2.1 h, fun h => gG.2.2.2.2.2.2.2.1 h, fun _ => rfl, fun h => gG.2.2.2.2.2.2.2.2.2.1 h, fun h => gG.2.2.2.2.2.2.2.2.2.2.1 h, fun h => gG.2.2.2.2.2.2.2.2.2.2.2.1 h, fun h => gG.2.2.2.2.2.2.2.2.2.2.2.2.1 h, fun h => gG.2.2.2.2.2.2.2.2.2.2.2.2.2.1 h, fun h => gG.2.2.2.2.2.2.2.2.2.2.2.2.2.2.1 h, fun h => gG.2.2.2.2.2.2.2.2.2.2.2.2.2.2.2.1 h, fun h => gG.2.2.2.2.2.2.2.2.2.2.2.2.2.2.2.2.1 h, fun h => gG.2.2.2.2.2.2.2.2.2.2.2.2.2.2.2.2.2.1 h, fun h => gG.2.2.2.2.2.2.2.2.2.2.2.2.2.2.2.2.2.2.1 h, fun h => gG.2.2.2.2.2.2.2.2.2.2.2.2.2.2.2.2.2.2.2.1 h, fun h => gG.2.2.2.2.2.2.2.2.2.2.2.2.2.2.2.2.2.2.2.2.1 h, fun h => gG.2.2.2.2.2.2.2.2.2.2.2.2.2.2.2.2.2.2.2.2.2.1 h, fun h => gG.2.2.2.2.2.2.2.2.2.2.2.2.2.2.2.2.2.2.2.2.2.2.1 h, fun h => gG.2.2.2.2.2.2.2.2.2.2.2.2.2.2.2.2.2.2.2.2.2.2.2 h⟩
        refine below_succ ?_ ?_
        · intro f az u hf hd hcl hI
          obtain ⟨x10, x11, x12, x13, x14, x15, x16, x17, x18, x19, x20, x21, x22, x23, x24, x25, x26, x27, x28, x29, x30, x31, x32, x33, rfl, gD, gG⟩ := hI
          subst hmk
          have e6 := gG.2.2.2.2.2.2.1 (hd 6 (by decide))
          subst e6
          refine wpOp_step rfl (fun K hK => ?_)
          refine skip_op rfl ?_
          try go_simp
          refine hK _ _ ?_
          refine ⟨_, _, _, _, _, _, _, _, _, _, _, _, _, _, _, _, _, _, _, _, _, _, _, _, rfl, gD, fun h => gG.1 h, fun h => gG.2.1 h, fun h => gG.2.2.1 h, fun h => gG.2.2.2.1 h, fun h => gG.2.2.2.2.1 h, fun h => gG.2.2.2.2.2.1 h, fun h => gG.2.2.2.2.2.2.1 h, fun _ => rfl, fun h => gG.2.2.2.2.2.2.2.2.1 h, fun h => gG.2.2.2.2.2.2.2.2.2.1 h, fun h => gG.2.2.2.2.2.2.2.2.2.2.1 h, fun h => gG.2.2.2.2.2.2.2.2.2.2.2.1 h, fun h => gG.2.2.2.2.2.2.2.2.2.2.2.2.1 h, fun h => gG.2.2.2.2.2.2.2.2.2.2.2.2.2.1 h, fun h => gG.2.2.2.2.2.2.2.2.2.2.2.2.2.2.1 h, fun h => gG.2.2.2.2.2.2.2.2.2.2.2.2.2.2.2.1 h, fun h => gG.2.2.2.2.2.2.2.2.2.2.2.2.2.2.2.2.1 h, fun h => gG.2.2.2.2.2.2.2.2.2.2.2.2.2.2.2.2.2.1 h, fun h => gG.2.2.2.2.2.2.2.2.2.2.2.2.2.2.2.2.2.2.1 h, fun h => gG.2.2.2.2.2.2.2.2.2.2.2.2.2.2.2.2.2.2.2.1 h, fun h => gG.2.2.2.2.2.2.2.2.2.2.2.2.2.2.2.2.2.2.2.2.1 h, fun h => gG.2.2.2.2.2.2.2.2.2.2.2.2.2.2.2.2.2.2.2.2.2.1 h, fun h => gG.2.2.2.2.2.2.2.2.2.2.2.2.2.2.2.2.2.2.2.2.2.2.1 h, fun h => gG.2.2.2.2.2.2.2.2.2.2.2.2.2.2.2.2.2.2.2.2.2.2.2 h⟩
        refine below_succ ?_ ?_
        · intro f az u hf hd hcl hI
          obtain ⟨x10, x11, x12, x13, x14, x15, x16, x17, x18, x19, x20, x21, x22, x23, x24, x25, x26, x27, x28, x29, x30, x31, x32, x33, rfl, gD, gG⟩ := hI
          subst hmk
          have ef := gG.2.2.2.2.2.1 (hd 5 (by decide))
          subst ef
          refine wpOp_step rfl (fun K hK => ?_)
          go_simp
          refine hK _ _ ?_
          refine ⟨_, _, _, _, _, _, _, _, _, _, _, _, _, _, _, _, _, _, _, _, _, _, _, _, rfl, gD, fun h => gG.1 h, fun h => gG.2.1 h, fun h => gG.2.2.1 h, fun h => gG.2.2.2.1 h, fun h => gG.2.2.2.2.1 h, fun h => gG.2.2.2.2.2.1 h, fun _ => rfl, fun h => gG.2.2.2.2.2.2.2.1 h, fun h => gG.2.2.2.2.2.2.2.2.1 h, fun h => gG.2.2.2.2.2.2.2.2.2.1 h, fun h => gG.2.2.2.2.2.2.2.2.2.2.1 h, fun h => gG.2.2.2.2.2.2.2.2.2.2.2.1 h, fun h => gG.2.2.2.2.2.2.2.2.2.2.2.2.1 h, fun h => gG.2.2.2.2.2.2.2.2.2.2.2.2.2.1 h, fun h => gG.2.2.2.2.2.2.2.2.2.2.2.2.2.2.1 h, fun h => gG.2.2.2.2.2.2.2.2.2.2.2.2.2.2.2.1 h, fun h => gG.2.2.2.2.2.2.2.2.2.2.2.2.2.2.2.2.1 h, fun h => gG.2.2.2.2.2.2.2.2.2.2.2.2.2.2.2.2.2.1 h, fun h => gG.2.2.2.2.2.2.2.2.2.2.2.2.2.2.2.2.2.2.1 h, fun h => gG.2.2.2.2.2.2.2.2.2.2.2.2.2.2.2.2.2.2.2.1 h, fun h => gG.2.2.2.2.2.2.2.2.2.2.2.2.2.2.2.2.2.2.2.2.1 h, fun h => gG.2.2.2.2.2.2.2.2.2.2.2.2.2.2.2.2.2.2.2.2.2.1 h, fun h => gG.2.2.2.2.2.2.2.2.2.2.2.2.2.2.2.2.2.2.2.2.2.2.1 h, fun h => gG.2.2.2.2.2.2.2.2.2.2.2.2.2.2.2.2.2.2.2.2.2.2.2 h⟩
        refine below_succ ?_ ?_
        · intro f az u hf hd hcl hI
          obtain ⟨x10, x11, x12, x13, x14, x15, x16, x17, x18, x19, x20, x21, x22, x23, x24, x25, x26, x27, x28, x29, x30, x31, x32, x33, rfl, gD, gG⟩ := hI
          subst hmk
          have e4 := gG.2.2.2.2.1 (hd 4 (by decide))
          subst e4
          refine wpOp_step rfl (fun K hK => ?_)
          go_simp
          refine hK _ _ ?_
          refine ⟨_, _, _, _, _, _, _, _, _, _, _, _, _, _, _, _, _, _, _, _, _, _, _, _, rfl, gD, fun h => gG.1 h, fun h => gG.2.1 h, fun h => gG.2.2.1 h, fun h => gG.2.2.2.1 h, fun h => gG.2.2.2.2.1 h, fun _ => (by first | rfl | simp), fun h => gG.2.2.2.2.2.2.1 h, fun h => gG.2.2.2.2.2.2.2.1 h, fun h => gG.2.2.2.2.2.2.2.2.1 h, fun h => gG.2.2.2.2.2.2.2.2.2.1 h, fun h => gG.2.2.2.2.2.2.2.2.2.2.1 h, fun h => gG.2.2.2.2.2.2.2.2.2.2.2.1 h, fun h => gG.2.2.2.2.2.2.2.2.2.2.2.2.1 h, fun h => gG.2.2.2.2.2.2.2.2.2.2.2.2.2.1 h, fun h => gG.2.2.2.2.2.2.2.2.2.2.2.2.2.2.1 h, fun h => gG.2.2.2.2.2.2.2.2.2.2.2.2.2.2.2.1 h, fun h => gG.2.2.2.2.2.2.2.2.2.2.2.2.2.2.2.2.1 h, fun h => gG.2.2.2.2.2.2.2.2.2.2.2.2.2.2.2.2.2.1 h, fun h => gG.2.2.2.2.2.2.2.2.2.2.2.2.2.2.2.2.2.2.1 h, fun h => gG.2.2.2.2.2.2.2.2.2.2.2.2.2.2.2.2.2.2.2.1 h, fun h => gG.2.2.2.2.2.2.2.2.2.2.2.2.2.2.2.2.2.2.2.2.1 h, fun h => gG.2.2.2.2.2.2.2.2.2.2.2.2.2.2.2.2.2.2.2.2.2.1 h, fun h => gG.2.2.2.2.2.2.2.2.2.2.2.2.2.2.2.2.2.2.2.2.2.2.1 h, fun h => gG.2.2.2.2.2.2.2.2.2.2.2.2.2.2.2.2.2.2.2.2.2.2.2 h⟩
        refine below_succ ?_ ?_
        · intro f az u hf hd hcl hI
          obtain ⟨x10, x11, x12, x13, x14, x15, x16, x17, x18, x19, x20, x21, x22, x23, x24, x25, x26, x27, x28, x29, x30, x31, x32, x33, rfl, gD, gG⟩ := hI
          subst hmk
          have e3 := gG.2.2.2.1 (hd 3 (by decide))
          subst e3
          refine wpOp_step rfl (fun K hK => ?_)
          go_simp
          go_at_call 85
          refine (CP.out _ gD).mono ?_
          rintro e wn ⟨rfl, hb⟩
          try go_simp
          refine hK _ _ ?_
          refine ⟨_, _, _, _, _, _, _, _, _, _, _, _, _, _, _, _, _, _, _, _, _, _, _, _, rfl, hb, fun h => gG.1 h, fun h => gG.2.1 h, fun h => gG.2.2.1 h, fun h => gG.2.2.2.1 h, fun _ => rfl, fun h => gG.2.2.2.2.2.1 h, fun h => gG.2.2.2.2.2.2.1 h, fun h => gG.2.2.2.2.2.2.2.1 h, fun h => gG.2.2.2.2.2.2.2.2.1 h, fun h => gG.2.2.2.2.2.2.2.2.2.1 h, fun h => gG.2.2.2.2.2.2.2.2.2.2.1 h, fun h => gG.2.2.2.2.2.2.2.2.2.2.2.1 h, fun h => gG.2.2.2.2.2.2.2.2.2.2.2.2.1 h, fun h => gG.2.2.2.2.2.2.2.2.2.2.2.2.2.1 h, fun h => gG.2.2.2.2.2.2.2.2.2.2.2.2.2.2.1 h, fun h => gG.2.2.2.2.2.2.2.2.2.2.2.2.2.2.2.1 h, fun h => gG.2.2.2.2.2.2.2.2.2.2.2.2.2.2.2.2.1 h, fun h => gG.2.2.2.2.2.2.2.2.2.2.2.2.2.2.2.2.2.1 h, fun h => gG.2.2.2.2.2.2.2.2.2.2.2.2.2.2.2.2.2.2.1 h, fun h => gG.2.2.2.2.2.2.2.2.2.2.2.2.2.2.2.2.2.2.2.1 h, fun h => gG.2.2.2.2.2.2.2.2.2.2.2.2.2.2.2.2.2.2.2.2.1 h, fun h => gG.2.2.2.2.2.2.2.2.2.2.2.2.2.2.2.2.2.2.2.2.2.1 h, fun h => gG.2.2.2.2.2.2.2.2.2.2.2.2.2.2.2.2.2.2.2.2.2.2.1 h, fun h => gG.2.2.2.2.2.2.2.2.2.2.2.2.2.2.2.2.2.2.2.2.2.2.2 h⟩
        refine below_succ ?_ ?_
        · intro f az u hf hd hcl hI
          obtain ⟨x10, x11, x12, x13, x14, x15, x16, x17, x18, x19, x20, x21, x22, x23, x24, x25, x26, x27, x28, x29, x30, x31, x32, x33, rfl, gD, gG⟩ := hI
          subst hmk
          have e2 := gG.2.2.1 (hd 2 (by decide))
          subst e2
          obtain ⟨y0, y1, y2, y3, y4⟩ := KEEP.out u gD
          refine wpOp_step rfl (fun K hK => ?_)
          go_simp
          refine hK _ _ ?_
          refine ⟨_, _, _, _, _, _, _, _, _, _, _, _, _, _, _, _, _, _, _, _, _, _, _, _, rfl, gD, fun h => gG.1 h, fun h => gG.2.1 h, fun h => gG.2.2.1 h, fun _ => (by first | rfl | simp), fun h => gG.2.2.2.2.1 h, fun h => gG.2.2.2.2.2.1 h, fun h => gG.2.2.2.2.2.2.1 h, fun h => gG.2.2.2.2.2.2.2.1 h, fun h => gG.2.2.2.2.2.2.2.2.1 h, fun h => gG.2.2.2.2.2.2.2.2.2.1 h, fun h => gG.2.2.2.2.2.2.2.2.2.2.1 h, fun h => gG.2.2.2.2.2.2.2.2.2.2.2.1 h, fun h => gG.2.2.2.2.2.2.2.2.2.2.2.2.1 h, fun h => gG.2.2.2.2.2.2.2.2.2.2.2.2.2.1 h, fun h => gG.2.2.2.2.2.2.2.2.2.2.2.2.2.2.1 h, fun h => gG.2.2.2.2.2.2.2.2.2.2.2.2.2.2.2.1 h, fun h => gG.2.2.2.2.2.2.2.2.2.2.2.2.2.2.2.2.1 h, fun h => gG.2.2.2.2.2.2.2.2.2.2.2.2.2.2.2.2.2.1 h, fun h => gG.2.2.2.2.2.2.2.2.2.2.2.2.2.2.2.2.2.2.1 h, fun h => gG.2.2.2.2.2.2.2.2.2.2.2.2.2.2.2.2.2.2.2.1 h, fun h => gG.2.2.2.2.2.2.2.2.2.2.2.2.2.2.2.2.2.2.2.2.1 h, fun h => gG.2.2.2.2.2.2.2.2.2.2.2.2.2.2.2.2.2.2.2.2.2.1 h, fun h => gG.2.2.2.2.2.2.2.2.2.2.2.2.2.2.2.2.2.2.2.2.2.2.1 h, fun h => gG.2.2.2.2.2.2.2.2.2.2.2.2.2.2.2.2.2.2.2.2.2.2.2 h⟩
        refine below_succ ?_ ?_
        · intro f az u hf hd hcl hI
          obtain ⟨x10, x11, x12, x13, x14, x15, x16, x17, x18, x19, x20, x21, x22, x23, x24, x25, x26, x27, x28, x29, x30, x31, x32, x33, rfl, gD, gG⟩ := hI
          subst hmk
          have e0 := gG.1 (hd 0 (by decide))
          subst e0
          have e1 := gG.2.1 (hd 1 (by decide))
          subst e1
          refine wpOp_step rfl (fun K hK => ?_)
          go_simp
          refine hK _ _ ?_
          refine ⟨_, _, _, _, _, _, _, _, _, _, _, _, _, _, _, _, _, _, _, _, _, _, _, _, rfl, gD, fun h => gG.1 h, fun h => gG.2.1 h, fun _ => (by first | rfl | simp), fun h => gG.2.2.2.1 h, fun h => gG.2.2.2.2.1 h, fun h => gG.2.2.2.2.2.1 h, fun h => gG.2.2.2.2.2.2.1 h, fun h => gG.2.2.2.2.2.2.2.1 h, fun h => gG.2.2.2.2.2.2.2.2.1 h, fun h => gG.2.2.2.2.2.2.2.2.2.1 h, fun h => gG.2.2.2.2.2.2.2.2.2.2.1 h, fun h => gG.2.2.2.2.2.2.2.2.2.2.2.1 h, fun h => gG.2.2.2.2.2.2.2.2.2.2.2.2.1 h, fun h => gG.2.2.2.2.2.2.2.2.2.2.2.2.2.1 h, fun h => gG.2.2.2.2.2.2.2.2.2.2.2.2.2.2.1 h, fun h => gG.2.2.2.2.2.2.2.2.2.2.2.2.2.2.2.1 h, fun h => gG.2.2.2.2.2.2.2.2.2.2.2.2.2.2.2.2.1 h, fun h => gG.2.2.2.2.2.2.2.2.2.2.2.2.2.2.2.2.2.1 h, fun h => gG.2.2.2.2.2.2.2.2.2.2.2.2.2.2.2.2.2.2.1 h, fun h => gG.2.2.2.2.2.2.2.2.2.2.2.2.2.2.2.2.2.2.2.1 h, fun h => gG.2.2.2.2.2.2.2.2.2.2.2.2.2.2.2.2.2.2.2.2.1 h, fun h => gG.2.2.2.2.2.2.2.2.2.2.2.2.2.2.2.2.2.2.2.2.2.1 h, fun h => gG.2.2.2.2.2.2.2.2.2.2.2.2.2.2.2.2.2.2.2.2.2.2.1 h, fun h => gG.2.2.2.2.2.2.2.2.2.2.2.2.2.2.2.2.2.2.2.2.2.2.2 h⟩
        refine below_succ ?_ ?_
        · intro f az u hf hd hcl hI
          obtain ⟨x10, x11, x12, x13, x14, x15, x16, x17, x18, x19, x20, x21, x22, x23, x24, x25, x26, x27, x28, x29, x30, x31, x32, x33, rfl, gD, gG⟩ := hI
          subst hmk
          refine wpOp_step rfl (fun K hK => ?_)
          go_simp
          refine hK _ _ ?_
          refine ⟨_, _, _, _, _, _, _, _, _, _, _, _, _, _, _, _, _, _, _, _, _, _, _, _, rfl, gD, fun h => gG.1 h, fun _ => rfl, fun h => gG.2.2.1 h, fun h => gG.2.2.2.1 h, fun h => gG.2.2.2.2.1 h, fun h => gG.2.2.2.2.2.1 h, fun h => gG.2.2.2.2.2.2.1 h, fun h => gG.2.2.2.2.2.2.2.1 h, fun h => gG.2.2.2.2.2.2.2.2.1 h, fun h => gG.2.2.2.2.2.2.2.2.2.1 h, fun h => gG.2.2.2.2.2.2.2.2.2.2.1 h, fun h => gG.2.2.2.2.2.2.2.2.2.2.2.1 h, fun h => gG.2.2.2.2.2.2.2.2.2.2.2.2.1 h, fun h => gG.2.2.2.2.2.2.2.2.2.2.2.2.2.1 h, fun h => gG.2.2.2.2.2.2.2.2.2.2.2.2.2.2.1 h, fun h => gG.2.2.2.2.2.2.2.2.2.2.2.2.2.2.2.1 h, fun h => gG.2.2.2.2.2.2.2.2.2.2.2.2.2.2.2.2.1 h, fun h => gG.2.2.2.2.2.2.2.2.2.2.2.2.2.2.2.2.2.1 h, fun h => gG.2.2.2.2.2.2.2.2.2.2.2.2.2.2.2.2.2.2.1 h, fun h => gG.2.2.2.2.2.2.2.2.2.2.2.2.2.2.2.2.2.2.2.1 h, fun h => gG.2.2.2.2.2.2.2.2.2.2.2.2.2.2.2.2.2.2.2.2.1 h, fun h => gG.2.2.2.2.2.2.2.2.2.2.2.2.2.2.2.2.2.2.2.2.2.1 h, fun h => gG.2.2.2.2.2.2.2.2.2.2.2.2.2.2.2.2.2.2.2.2.2.2.1 h, fun h => gG.2.2.2.2.2.2.2.2.2.2.2.2.2.2.2.2.2.2.2.2.2.2.2 h⟩
        refine below_succ ?_ ?_
        · intro f az u hf hd hcl hI
          obtain ⟨x10, x11, x12, x13, x14, x15, x16, x17, x18, x19, x20, x21, x22, x23, x24, x25, x26, x27, x28, x29, x30, x31, x32, x33, rfl, gD, gG⟩ := hI
          subst hmk
          refine wpOp_step rfl (fun K hK => ?_)
          go_simp
          refine hK _ _ ?_
          refine ⟨_, _, _, _, _, _, _, _, _, _, _, _, _, _, _, _, _, _, _, _, _, _, _, _, rfl, gD, fun _ => rfl, fun h => gG.2.1 h, fun h => gG.2.2.1 h, fun h => gG.2.2.2.1 h, fun h => gG.2.2.2.2.1 h, fun h => gG.2.2.2.2.2.1 h, fun h => gG.2.2.2.2.2.2.1 h, fun h => gG.2.2.2.2.2.2.2.1 h, fun h => gG.2.2.2.2.2.2.2.2.1 h, fun h => gG.2.2.2.2.2.2.2.2.2.1 h, fun h => gG.2.2.2.2.2.2.2.2.2.2.1 h, fun h => gG.2.2.2.2.2.2.2.2.2.2.2.1 h, fun h => gG.2.2.2.2.2.2.2.2.2.2.2.2.1 h, fun h => gG.2.2.2.2.2.2.2.2.2.2.2.2.2.1 h, fun h => gG.2.2.2.2.2.2.2.2.2.2.2.2.2.2.1 h, fun h => gG.2.2.2.2.2.2.2.2.2.2.2.2.2.2.2.1 h, fun h => gG.2.2.2.2.2.2.2.2.2.2.2.2.2.2.2.2.1 h, fun h => gG.2.2.2.2.2.2.2.2.2.2.2.2.2.2.2.2.2.1 h, fun h => gG.2.2.2.2.2.2.2.2.2.2.2.2.2.2.2.2.2.2.1 h, fun h => gG.2.2.2.2.2.2.2.2.2.2.2.2.2.2.2.2.2.2.2.1 h, fun h => gG.2.2.2.2.2.2.2.2.2.2.2.2.2.2.2.2.2.2.2.2.1 h, fun h => gG.2.2.2.2.2.2.2.2.2.2.2.2.2.2.2.2.2.2.2.2.2.1 h, fun h => gG.2.2.2.2.2.2.2.2.2.2.2.2.2.2.2.2.2.2.2.2.2.2.1 h, fun h => gG.2.2.2.2.2.2.2.2.2.2.2.2.2.2.2.2.2.2.2.2.2.2.2 h⟩
        exact below_zero
      · intro f az u hf hI
        obtain ⟨x10, x11, x12, x13, x14, x15, x16, x17, x18, x19, x20, x21, x22, x23, x24, x25, x26, x27, x28, x29, x30, x31, x32, x33, rfl, gD, g0, g1, g2, g3, g4, g5, g6, g7, g8, g9, g10, g11, g12, g13, g14, g15, g16, g17, g18, g19, g20, g21, g22, g23⟩ := hI
        subst hmk
        have et := g23 (hf 23 (by decide))
        subst et
        have hb := gD
        clear hf gD g0 g1 g2 g3 g4 g5 g6 g7 g8 g9 g10 g11 g12 g13 g14 g15 g16 g17 g18 g19 g20 g21 g22 g23
        have HF := Lib.hid (hBP.out _ hb)
        go_wp2
        go_ret
        exact ⟨ret_bool (by unfold areParts; rw [range_all_false hlt (by rw [HD.out, HBB.out]; rfl)]; simp), HF.out⟩
    have CP : Hid (∀ W, Below wr.heap.size wr W → Calls Try.prog 85 #[.agg #[.string x.code, .int .i64 x.slot, .slice a x.ports.length c, .int .i64 x.price, .int .i64 x.grams]] W fun e w' => e = .returned (.bool true) ∧ Below wr.heap.size wr w') := Lib.hid (fun W h => (sIsPart_any x a c W (HAT.out W (hBP.out W h)).2.2.2.2.2 (by omega)).mono fun _ _ hh => ⟨by rw [hh.1, hB], Below.step h hh.2⟩)
    have HBB := Lib.hid hB
    clear hB
    by_cases h0 : k = 0
    · have hpos : decide (0 < k) = false := decide_eq_false (by omega)
      have hposI : decide ((0 : Int) < (k : Int)) = false := decide_eq_false (by omega)
      have H0 := Lib.hid h0
      clear P0 h0
      have DA : Hid (Below wr.heap.size wr wr) := Lib.hid (Below.refl _ _)
      obtain ⟨mk, hmk⟩ : ∃ mk : Value → Value → Value → Value → Value → Value → Value → Value → Value → Value → Value → Value → Value → Value → Value → Value → Value → Value → Value → Value → Value → Value → Value → Value → Act, mk = (fun x10 x11 x12 x13 x14 x15 x16 x17 x18 x19 x20 x21 x22 x23 x24 x25 x26 x27 x28 x29 x30 x31 x32 x33 => (⟨#[Value.slice (some ⟨b, off, none⟩) ps.length cap, undef, u2, Value.int .i64 ((k : Nat) : Int), Value.int .i64 ((k : Nat) : Int), Value.slice (some ⟨b, off, none⟩) ps.length cap, Value.int .i64 ((ps.length : Nat) : Int), Value.bool true, u8, u9, x10, x11, x12, x13, x14, x15, x16, x17, x18, x19, x20, x21, x22, x23, x24, x25, x26, x27, x28, x29, x30, x31, x32, x33, undef, undef, undef], []⟩ : Act)) := ⟨_, rfl⟩
      refine wp_region_inv (by kernel_rfl) ([[], [], [0, 1], [2], [3], [4], [5, 4], [6], [7, 6], [8, 6, 6], [9], [9], [11, 9], [10, 12, 9], [13, 9], [14, 9], [9], [9], [16, 17, 9], [18, 9], [19, 9], [15, 20, 9], [9, 21, 6], [6, 22]] : List (List Nat)) (by kernel_rfl) (by kernel_rfl) (fun f az u => ∃ x10 x11 x12 x13 x14 x15 x16 x17 x18 x19 x20 x21 x22 x23 x24 x25 x26 x27 x28 x29 x30 x31 x32 x33 : Value, az = mk x10 x11 x12 x13 x14 x15 x16 x17 x18 x19 x20 x21 x22 x23 x24 x25 x26 x27 x28 x29 x30 x31 x32 x33 ∧ (Below wr.heap.size wr u) ∧ (f 0 = true → x10 = .slice (some ⟨b, off, none⟩) ps.length cap) ∧ (f 1 = true → x11 = .int .i64 (k : Int)) ∧ (f 2 = true → x12 = .pointer (some ⟨b, off + k * 5, none⟩)) ∧ (f 3 = true → x13 = .agg #[.string x.code, .int .i64 x.slot, .slice a x.ports.length c, .int .i64 x.price, .int .i64 x.grams]) ∧ (f 4 = true → x14 = .bool true) ∧ (f 5 = true → x15 = .bool false) ∧ (f 6 = true → x16 = .bool false) ∧ (f 7 = true → x17 = .int .i64 (k : Int)) ∧ (f 8 = true → x18 = .bool false) ∧ (f 9 = true → x19 = .bool false) ∧ (f 10 = true → x20 = undef) ∧ (f 11 = true → x21 = undef) ∧ (f 12 = true → x22 = undef) ∧ (f 13 = true → x23 = undef) ∧ (f 14 = true → x24 = undef) ∧ (f 15 = true → x25 = undef) ∧ (f 16 = true → x26 = undef) ∧ (f 17 = true → x27 = undef) ∧ (f 18 = true → x28 = undef) ∧ (f 19 = true → x29 = undef) ∧ (f 20 = true → x30 = undef) ∧ (f 21 = true → x31 = undef) ∧ (f 22 = true → x32 = .bool false) ∧ (f 23 = true → x33 = .bool false)) ?_ ?_ ?_
      · subst hmk
        exact ⟨_, _, _, _, _, _, _, _, _, _, _, _, _, _, _, _, _, _, _, _, _, _, _, _, rfl, DA.out.drew, fun h => (by cases h), fun h => (by cases h), fun h => (by cases h), fun h => (by cases h), fun h => (by cases h), fun h => (by cases h), fun h => (by cases h), fun h => (by cases h), fun h => (by cases h), fun h => (by cases h), fun h => (by cases h), fun h => (by cases h), fun h => (by cases h), fun h => (by cases h), fun h => (by cases h), fun h => (by cases h), fun h => (by cases h), fun h => (by cases h), fun h => (by cases h), fun h => (by cases h), fun h => (by cases h), fun h => (by cases h), fun h => (by cases h), fun h => (by cases h)⟩
      · show ∀ i, i < 24 → _
        refine below_succ ?_ ?_
        · intro f az u hf hd hcl hI
          obtain ⟨x10, x11, x12, x13, x14, x15, x16, x17, x18, x19, x20, x21, x22, x23, x24, x25, x26, x27, x28, x29, x30, x31, x32, x33, rfl, gD, gG⟩ := hI
          subst hmk
          have e6 := gG.2.2.2.2.2.2.1 (hd 6 (by decide))
          subst e6
          have e22 := gG.2.2.2.2.2.2.2.2.2.2.2.2.2.2.2.2.2.2.2.2.2.2.1 (hd 22 (by decide))
          subst e22
          refine wpOp_step rfl (fun K hK => ?_)
          go_simp
          refine hK _ _ ?_
          refine ⟨_, _, _, _, _, _, _, _, _, _, _, _, _, _, _, _, _, _, _, _, _, _, _, _, rfl, gD, fun h => gG.1 h, fun h => gG.2.1 h, fun h => gG.2.2.1 h, fun h => gG.2.2.2.1 h, fun h => gG.2.2.2.2.1 h, fun h => gG.2.2.2.2.2.1 h, fun h => gG.2.2.2.2.2.2.1 h, fun h => gG.2.2.2.2.2.2.2.1 h, fun h => gG.2.2.2.2.2.2.2.2.1 h, fun h => gG.2.2.2.2.2.2.2.2.2.1 h, fun h => gG.2.2.2.2.2.2.2.2.2.2.1 h, fun h => gG.2.2.2.2.2.2.2.2.2.2.2.1 h, fun h => gG.2.2.2.2.2.2.2.2.2.2.2.2.1 h, fun h => gG.2.2.2.2.2.2.2.2.2.2.2.2.2.1 h, fun h => gG.2.2.2.2.2.2.2.2.2.2.2.2.2.2.1 h, fun h => gG.2.2.2.2.2.2.2.2.2.2.2.2.2.2.2.1 h, fun h => gG.2.2.2.2.2.2.2.2.2.2.2.2.2.2.2.2.1 h, fun h => gG.2.2.2.2.2.2.2.2.2.2.2.2.2.2.2.2.2.1 h, fun h => gG.2.2.2.2.2.2.2.2.2.2.2.2.2.2.2.2.2.2.1 h, fun h => gG.2.2.2.2.2.2.2.2.2.2.2.2.2.2.2.2.2.2.2.1 h, fun h => gG.2.2.2.2.2.2.2.2.2.2.2.2.2.2.2.2.2.2.2.2.1 h, fun h => gG.2.2.2.2.2.2.2.2.2.2.2.2.2.2.2.2.2.2.2.2.2.1 h, fun h => gG.2.2.2.2.2.2.2.2.2.2.2.2.2.2.2.2.2.2.2.2.2.2.1 h, fun _ => (by first | rfl | simp)⟩
        refine below_succ ?_ ?_
        · intro f az u hf hd hcl hI
          obtain ⟨x10, x11, x12, x13, x14, x15, x16, x17, x18, x19, x20, x21, x22, x23, x24, x25, x26, x27, x28, x29, x30, x31, x32, x33, rfl, gD, gG⟩ := hI
          subst hmk
          have e9 := gG.2.2.2.2.2.2.2.2.2.1 (hd 9 (by decide))
          subst e9
          have e21 := gG.2.2.2.2.2.2.2.2.2.2.2.2.2.2.2.2.2.2.2.2.2.1 (hd 21 (by decide))
          subst e21
          have eg := gG.2.2.2.2.2.2.1 (hd 6 (by decide))
          subst eg
          refine wpOp_step rfl (fun K hK => ?_)
          go_simp
          refine hK _ _ ?_
          refine ⟨_, _, _, _, _, _, _, _, _, _, _, _, _, _, _, _, _, _, _, _, _, _, _, _, rfl, gD, fun h => gG.1 h, fun h => gG.2.1 h, fun h => gG.2.2.1 h, fun h => gG.2.2.2.1 h, fun h => gG.2.2.2.2.1 h, fun h => gG.2.2.2.2.2.1 h, fun h => gG.2.2.2.2.2.2.1 h, fun h => gG.2.2.2.2.2.2.2.1 h, fun h => gG.2.2.2.2.2.2.2.2.1 h, fun h => gG.2.2.2.2.2.2.2.2.2.1 h, fun h => gG.2.2.2.2.2.2.2.2.2.2.1 h, fun h => gG.2.2.2.2.2.2.2.2.2.2.2.1 h, fun h => gG.2.2.2.2.2.2.2.2.2.2.2.2.1 h, fun h => gG.2.2.2.2.2.2.2.2.2.2.2.2.2.1 h, fun h => gG.2.2.2.2.2.2.2.2.2.2.2.2.2.2.1 h, fun h => gG.2.2.2.2.2.2.2.2.2.2.2.2.2.2.2.1 h, fun h => gG.2.2.2.2.2.2.2.2.2.2.2.2.2.2.2.2.1 h, fun h => gG.2.2.2.2.2.2.2.2.2.2.2.2.2.2.2.2.2.1 h, fun h => gG.2.2.2.2.2.2.2.2.2.2.2.2.2.2.2.2.2.2.1 h, fun h => gG.2.2.2.2.2.2.2.2.2.2.2.2.2.2.2.2.2.2.2.1 h, fun h => gG.2.2.2.2.2.2.2.2.2.2.2.2.2.2.2.2.2.2.2.2.1 h, fun h => gG.2.2.2.2.2.2.2.2.2.2.2.2.2.2.2.2.2.2.2.2.2.1 h, fun _ => (by first | rfl | simp), fun h => gG.2.2.2.2.2.2.2.2.2.2.2.2.2.2.2.2.2.2.2.2.2.2.2 h⟩
        refine below_succ ?_ ?_
        · intro f az u hf hd hcl hI
          obtain ⟨x10, x11, x12, x13, x14, x15, x16, x17, x18, x19, x20, x21, x22, x23, x24, x25, x26, x27, x28, x29, x30, x31, x32, x33, rfl, gD, gG⟩ := hI
          subst hmk
          have e9 := gG.2.2.2.2.2.2.2.2.2.1 (hd 9 (by decide))
          subst e9
          refine wpOp_step rfl (fun K hK => ?_)
          refine skip_op rfl ?_
          try go_simp
          refine hK _ _ ?_
          refine ⟨_, _, _, _, _, _, _, _, _, _, _, _, _, _, _, _, _, _, _, _, _, _, _, _, rfl, gD, fun h => gG.1 h, fun h => gG.2.1 h, fun h => gG.2.2.1 h, fun h => gG.2.2.2.1 h, fun h => gG.2.2.2.2.1 h, fun h => gG.2.2.2.2.2.1 h, fun h => gG.2.2.2.2.2.2.1 h, fun h => gG.2.2.2.2.2.2.2.1 h, fun h => gG.2.2.2.2.2.2.2.2.1 h, fun h => gG.2.2.2.2.2.2.2.2.2.1 h, fun h => gG.2.2.2.2.2.2.2.2.2.2.1 h, fun h => gG.2.2.2.2.2.2.2.2.2.2.2.1 h, fun h => gG.2.2.2.2.2.2.2.2.2.2.2.2.1 h, fun h => gG.2.2.2.2.2.2.2.2.2.2.2.2.2.1 h, fun h => gG.2.2.2.2.2.2.2.2.2.2.2.2.2.2.1 h, fun h => gG.2.2.2.2.2.2.2.2.2.2.2.2.2.2.2.1 h, fun h => gG.2.2.2.2.2.2.2.2.2.2.2.2.2.2.2.2.1 h, fun h => gG.2.2.2.2.2.2.2.2.2.2.2.2.2.2.2.2.2.1 h, fun h => gG.2.2.2.2.2.2.2.2.2.2.2.2.2.2.2.2.2.2.1 h, fun h => gG.2.2.2.2.2.2.2.2.2.2.2.2.2.2.2.2.2.2.2.1 h, fun h => gG.2.2.2.2.2.2.2.2.2.2.2.2.2.2.2.2.2.2.2.2.1 h, fun _ => rfl, fun h => gG.2.2.2.2.2.2.2.2.2.2.2.2.2.2.2.2.2.2.2.2.2.2.1 h, fun h => gG.2.2.2.2.2.2.2.2.2.2.2.2.2.2.2.2.2.2.2.2.2.2.2 h⟩
        refine below_succ ?_ ?_
        · intro f az u hf hd hcl hI
          obtain ⟨x10, x11, x12, x13, x14, x15, x16, x17, x18, x19, x20, x21, x22, x23, x24, x25, x26, x27, x28, x29, x30, x31, x32, x33, rfl, gD, gG⟩ := hI
          subst hmk
          have e9 := gG.2.2.2.2.2.2.2.2.2.1 (hd 9 (by decide))
          subst e9
          refine wpOp_step rfl (fun K hK => ?_)
          refine skip_op rfl ?_
          try go_simp
          refine hK _ _ ?_
          refine ⟨_, _, _, _, _, _, _, _, _, _, _, _, _, _, _, _, _, _, _, _, _, _, _, _, rfl, gD, fun h => gG.1 h, fun h => gG.2.1 h, fun h => gG.2.2.1 h, fun h => gG.2.2.2.1 h, fun h => gG.2.2.2.2.1 h, fun h => gG.2.2.2.2.2.1 h, fun h => gG.2.2.2.2.2.2.1 h, fun h => gG.2.2.2.2.2.2.2.1 h, fun h => gG.2.2.2.2.2.2.2.2.1 h, fun h => gG.2.2.2.2.2.2.2.2.2.1 h, fun h => gG.2.2.2.2.2.2.2.2.2.2.1 h, fun h => gG.2.2.2.2.2.2.2.2.2.2.2.1 h, fun h => gG.2.2.2.2.2.2.2.2.2.2.2.2.1 h, fun h => gG.2.2.2.2.2.2.2.2.2.2.2.2.2.1 h, fun h => gG.2.2.2.2.2.2.2.2.2.2.2.2.2.2.1 h, fun h => gG.2.2.2.2.2.2.2.2.2.2.2.2.2.2.2.1 h, fun h => gG.2.2.2.2.2.2.2.2.2.2.2.2.2.2.2.2.1 h, fun h => gG.2.2.2.2.2.2.2.2.2.2.2.2.2.2.2.2.2.1 h, fun h => gG.2.2.2.2.2.2.2.2.2.2.2.2.2.2.2.2.2.2.1 h, fun h => gG.2.2.2.2.2.2.2.2.2.2.2.2.2.2.2.2.2.2.2.1 h, fun _ => rfl, fun h => gG.2.2.2.2.2.2.2.2.2.2.2.2.2.2.2.2.2.2.2.2.2.1 h, fun h => gG.2.2.2.2.2.2.2.2.2.2.2.2.2.2.2.2.2.2.2.2.2.2.1 h, fun h => gG.2.2.2.2.2.2.2.2.2.2.2.2.2.2.2.2.2.2.2.2.2.2.2 h⟩
        refine below_succ ?_ ?_
        · intro f az u hf hd hcl hI
          obtain ⟨x10, x11, x12, x13, x14, x15, x16, x17, x18, x19, x20, x21, x22, x23, x24, x25, x26, x27, x28, x29, x30, x31, x32, x33, rfl, gD, gG⟩ := hI
          subst hmk
          have e9 := gG.2.2.2.2.2.2.2.2.2.1 (hd 9 (by decide))
          subst e9
          refine wpOp_step rfl (fun K hK => ?_)
          refine skip_op rfl ?_
          try go_simp
          refine hK _ _ ?_
          refine ⟨_, _, _, _, _, _, _, _, _, _, _, _, _, _, _, _, _, _, _, _, _, _, _, _, rfl, gD, fun h => gG.1 h, fun h => gG.2.1 h, fun h => gG.2.2.1 h, fun h => gG.2.2.2.1 h, fun h => gG.2.2.2.2.1 h, fun h => gG.2.2.2.2.2.1 h, fun h => gG.2.2.2.2.2.2.1 h, fun h => gG.2.2.2.2.2.2.2.1 h, fun h => gG.2.2.2.2.2.2.2.2.1 h, fun h => gG.2.2.2.2.2.2.2.2.2.1 h, fun h => gG.2.2.2.2.2.2.2.2.2.2.1 h, fun h => gG.2.2.2.2.2.2.2.2.2.2.2.1 h, fun h => gG.2.2.2.2.2.2.2.2.2.2.2.2.1 h, fun h => gG.2.2.2.2.2.2.2.2.2.2.2.2.2.1 h, fun h => gG.2.2.2.2.2.2.2.2.2.2.2.2.2.2.1 h, fun h => gG.2.2.2.2.2.2.2.2.2.2.2.2.2.2.2.1 h, fun h => gG.2.2.2.2.2.2.2.2.2.2.2.2.2.2.2.2.1 h, fun h => gG.2.2.2.2.2.2.2.2.2.2.2.2.2.2.2.2.2.1 h, fun h => gG.2.2.2.2.2.2.2.2.2.2.2.2.2.2.2.2.2.2.1 h, fun _ => rfl, fun h => gG.2.2.2.2.2.2.2.2.2.2.2.2.2.2.2.2.2.2.2.2.1 h, fun h => gG.2.2.2.2.2.2.2.2.2.2.2.2.2.2.2.2.2.2.2.2.2.1 h, fun h => gG.2.2.2.2.2.2.2.2.2.2.2.2.2.2.2.2.2.2.2.2.2.2.1 h, fun h => gG.2.2.2.2.2.2.2.2.2.2.2.2.2.2.2.2.2.2.2.2.2.2.2 h⟩
        refine below_succ ?_ ?_
        · intro f az u hf hd hcl hI
          obtain ⟨x10, x11, x12, x13, x14, x15, x16, x17, x18, x19, x20, x21, x22, x23, x24, x25, x26, x27, x28, x29, x30, x31, x32, x33, rfl, gD, gG⟩ := hI
          subst hmk
          have e9 := gG.2.2.2.2.2.2.2.2.2.1 (hd 9 (by decide))
          subst e9
          refine wpOp_step rfl (fun K hK => ?_)
          refine skip_op rfl ?_
          try go_simp
          refine hK _ _ ?_
          refine ⟨_, _, _, _, _, _, _, _, _, _, _, _, _, _, _, _, _, _, _, _, _, _, _, _, rfl, gD, fun h => gG.1 h, fun h => gG.2.1 h, fun h => gG.2.2.1 h, fun h => gG.2.2.2.1 h, fun h => gG.2.2.2.2.1 h, fun h => gG.2.2.2.2.2.1 h, fun h => gG.2.2.2.2.2.2.1 h, fun h => gG.2.2.2.2.2.2.2.1 h, fun h => gG.2.2.2.2.2.2.2.2.1 h, fun h => gG.2.2.2.2.2.2.2.2.2.1 h, fun h => gG.2.2.2.2.2.2.2.2.2.2.1 h, fun h => gG.2.2.2.2.2.2.2.2.2.2.2.1 h, fun h => gG.2.2.2.2.2.2.2.2.2.2.2.2.1 h, fun h => gG.2.2.2.2.2.2.2.2.2.2.2.2.2.1 h, fun h => gG.2.2.2.2.2.2.2.2.2.2.2.2.2.2.1 h, fun h => gG.2.2.2.2.2.2.2.2.2.2.2.2.2.2.2.1 h, fun h => gG.2.2.2.2.2.2.2.2.2.2.2.2.2.2.2.2.1 h, fun h => gG.2.2.2.2.2.2.2.2.2.2.2.2.2.2.2.2.2.1 h, fun _ => rfl, fun h => gG.2.2.2.2.2.2.2.2.2.2.2.2.2.2.2.2.2.2.2.1 h, fun h => gG.2.2.2.2.2.2.2.2.2.2.2.2.2.2.2.2.2.2.2.2.1 h, fun h => gG.2.2.2.2.2.2.2.2.2.2.2.2.2.2.2.2.2.2.2.2.2.1 h, fun h => gG.2.2.2.2.2.2.2.2.2.2.2.2.2.2.2.2.2.2.2.2.2.2.1 h, fun h => gG.2.2.2.2.2.2.2.2.2.2.2.2.2.2.2.2.2.2.2.2.2.2.2 h⟩
        refine below_succ ?_ ?_
        · intro f az u hf hd hcl hI
          obtain ⟨x10, x11, x12, x13, x14, x15, x16, x17, x18, x19, x20, x21, x22, x23, x24, x25, x26, x27, x28, x29, x30, x31, x32, x33, rfl, gD, gG⟩ := hI
          subst hmk
          have e9 := gG.2.2.2.2.2.2.2.2.2.1 (hd 9 (by decide))
          subst e9
          refine wpOp_step rfl (fun K hK => ?_)
          refine skip_op rfl ?_
          try go_simp
          refine hK _ _ ?_
          refine ⟨_, _, _, _, _, _, _, _, _, _, _, _, _, _, _, _, _, _, _, _, _, _, _, _, rfl, gD, fun h => gG.1 h, fun h => gG.2.1 h, fun h => gG.2.2.1 h, fun h => gG.2.2.2.1 h, fun h => gG.2.2.2.2.1 h, fun h => gG.2.2.2.2.2.1 h, fun h => gG.2.2.2.2.2.2.1 h, fun h => gG.2.2.2.2.2.2.2.1 h, fun h => gG.2.2.2.2.2.2.2.2.1 h, fun h => gG.2.2.2.2.2.2.2.2.2.1 h, fun h => gG.2.2.2.2.2.2.2.2.2.2.1 h, fun h => gG.2.2.2.2.2.2.2.2.2.2.2.1 h, fun h => gG.2.2.2.2.2.2.2.2.2.2.2.2.1 h, fun h => gG.2.2.2.2.2.2.2.2.2.2.2.2.2.1 h, fun h => gG.2.2.2.2.2.2.2.2.2.2.2.2.2.2.1 h, fun h => gG.2.2.2.2.2.2.2.2.2.2.2.2.2.2.2.1 h, fun h => gG.2.2.2.2.2.2.2.2.2.2.2.2.2.2.2.2.1 h, fun _ => rfl, fun h => gG.2.2.2.2.2.2.2.2.2.2.2.2.2.2.2.2.2.2.1 h, fun h => gG.2.2.2.2.2.2.2.2.2.2.2.2.2.2.2.2.2.2.2.1 h, fun h => gG.2.2.2.2.2.2.2.2.2.2.2.2.2.2.2.2.2.2.2.2.1 h, fun h => gG.2.2.2.2.2.2.2.2.2.2.2.2.2.2.2.2.2.2.2.2.2.1 h, fun h => gG.2.2.2.2.2.2.2.2.2.2.2.2.2.2.2.2.2.2.2.2.2.2.1 h, fun h => gG.2.2.2.2.2.2.2.2.2.2.2.2.2.2.2.2.2.2.2.2.2.2.2 h⟩
        refine below_succ ?_ ?_
        · intro f az u hf hd hcl hI
          obtain ⟨x10, x11, x12, x13, x14, x15, x16, x17, x18, x19, x20, x21, x22, x23, x24, x25, x26, x27, x28, x29, x30, x31, x32, x33, rfl, gD, gG⟩ := hI
          subst hmk
          have e9 := gG.2.2.2.2.2.2.2.2.2.1 (hd 9 (by decide))
          subst e9
          refine wpOp_step rfl (fun K hK => ?_)
          refine skip_op rfl ?_
          try go_simp
          refine hK _ _ ?_
          refine ⟨_, _, _, _, _, _, _, _, _, _, _, _, _, _, _, _, _, _, _, _, _, _, _, _, rfl, gD, fun h => gG.1 h, fun h => gG.2.1 h, fun h => gG.2.2.1 h, fun h => gG.2.2.2.1 h, fun h => gG.2.2.2.2.1 h, fun h => gG.2.2.2.2.2.1 h, fun h => gG.2.2.2.2.2.2.1 h, fun h => gG.2.2.2.2.2.2.2.1 h, fun h => gG.2.2.2.2.2.2.2.2.1 h, fun h => gG.2.2.2.2.2.2.2.2.2.1 h, fun h => gG.2.2.2.2.2.2.2.2.2.2.1 h, fun h => gG.2.2.2.2.2.2.2.2.2.2.2.1 h, fun h => gG.2.2.2.2.2.2.2.2.2.2.2.2.1 h, fun h => gG.2.2.2.2.2.2.2.2.2.2.2.2.2.1 h, fun h => gG.2.2.2.2.2.2.2.2.2.2.2.2.2.2.1 h, fun h => gG.2.2.2.2.2.2.2.2.2.2.2.2.2.2.2.1 h, fun _ => rfl, fun h => gG.2.2.2.2.2.2.2.2.2.2.2.2.2.2.2.2.2.1 h, fun h => gG.2.2.2.2.2.2.2.2.2.2.2.2.2.2.2.2.2.2.1 h, fun h => gG.2.2.2.2.2.2.2.2.2.2.2.2.2.2.2.2.2.2.2.1 h, fun h => gG.2.2.2.2.2.2.2.2.2.2.2.2.2.2.2.2.2.2.2.2.1 h, fun h => gG.2.2.2.2.2.2.2.2.2.2.2.2.2.2.2.2.2.2.2.2.2.1 h, fun h => gG.2.2.2.2.2.2.2.2.2.2.2.2.2.2.2.2.2.2.2.2.2.2.1 h, fun h => gG.2.2.2.2.2.2.2.2.2.2.2.2.2.2.2.2.2.2.2.2.2.2.2 h⟩
        refine below_succ ?_ ?_
        · intro f az u hf hd hcl hI
          obtain ⟨x10, x11, x12, x13, x14, x15, x16, x17, x18, x19, x20, x21, x22, x23, x24, x25, x26, x27, x28, x29, x30, x31, x32, x33, rfl, gD, gG⟩ := hI
          subst hmk
          have e9 := gG.2.2.2.2.2.2.2.2.2.1 (hd 9 (by decide))
          subst e9
          refine wpOp_step rfl (fun K hK => ?_)
          refine skip_op rfl ?_
          try go_simp
          refine hK _ _ ?_
          refine ⟨_, _, _, _, _, _, _, _, _, _, _, _, _, _, _, _, _, _, _, _, _, _, _, _, rfl, gD, fun h => gG.1 h, fun h => gG.2.1 h, fun h => gG.2.2.1 h, fun h => gG.2.2.2.1 h, fun h => gG.2.2.2.2.1 h, fun h => gG.2.2.2.2.2.1 h, fun h => gG.2.2.2.2.2.2.1 h, fun h => gG.2.2.2.2.2.2.2.1 h, fun h => gG.2.2.2.2.2.2.2.2.1 h, fun h => gG.2.2.2.2.2.2.2.2.2.1 h, fun h => gG.2.2.2.2.2.2.2.2.2.2.1 h, fun h => gG.2.2.2.2.2.2.2.2.2.2.2.1 h, fun h => gG.2.2.2.2.2.2.2.2.2.2.2.2.1 h, fun h => gG.2.2.2.2.2.2.2.2.2.2.2.2.2.1 h, fun h => gG.2.2.2.2.2.2.2.2.2.2.2.2.2.2.1 h, fun _ => rfl, fun h => gG.2.2.2.2.2.2.2.2.2.2.2.2.2.2.2.2.1 h, fun h => gG.2.2.2.2.2.2.2.2.2.2.2.2.2.2.2.2.2.1 h, fun h => gG.2.2.2.2.2.2.2.2.2.2.2.2.2.2.2.2.2.2.1 h, fun h => gG.2.2.2.2.2.2.2.2.2.2.2.2.2.2.2.2.2.2.2.1 h, fun h => gG.2.2.2.2.2.2.2.2.2.2.2.2.2.2.2.2.2.2.2.2.1 h, fun h => gG.2.2.2.2.2.2.2.2.2.2.2.2.2.2.2.2.2.2.2.2.2.1 h, fun h => gG.2.2.2.2.2.2.2.2.2.2.2.2.2.2.2.2.2.2.2.2.2.2.1 h, fun h => gG.2.2.2.2.2.2.2.2.2.2.2.2.2.2.2.2.2.2.2.2.2.2.2 h⟩
        refine below_succ ?_ ?_
        · intro f az u hf hd hcl hI
          obtain ⟨x10, x11, x12, x13, x14, x15, x16, x17, x18, x19, x20, x21, x22, x23, x24, x25, x26, x27, x28, x29, x30, x31, x32, x33, rfl, gD, gG⟩ := hI
          subst hmk
          have e9 := gG.2.2.2.2.2.2.2.2.2.1 (hd 9 (by decide))
          subst e9
          refine wpOp_step rfl (fun K hK => ?_)
          refine skip_op rfl ?_
          try go_simp
          refine hK _ _ ?_
          refine ⟨_, _, _, _, _, _, _, _, _, _, _, _, _, _, _, _, _, _, _, _, _, _, _, _, rfl, gD, fun h => gG.1 h, fun h => gG.2.1 h, fun h => gG.2.2.1 h, fun h => gG.2.2.2.1 h, fun h => gG.2.2.2.2.1 h, fun h => gG.2.2.2.2.2.1 h, fun h => gG.2.2.2.2.2.2.1 h, fun h => gG.2.2.2.2.2.2.2.1 h, fun h => gG.2.2.2.2.2.2.2.2.1 h, fun h => gG.2.2.2.2.2.2.2.2.2.1 h, fun h => gG.2.2.2.2.2.2.2.2.2.2.1 h, fun h => gG.2.2.2.2.2.2.2.2.2.2.2.1 h, fun h => gG.2.2.2.2.2.2.2.2.2.2.2.2.1 h, fun h => gG.2.2.2.2.2.2.2.2.2.2.2.2.2.1 h, fun _ => rfl, fun h => gG.2.2.2.2.2.2.2.2.2.2.2.2.2.2.2.1 h, fun h => gG.2.2.2.2.2.2.2.2.2.2.2.2.2.2.2.2.1 h, fun h => gG.2.2.2.2.2.2.2.2.2.2.2.2.2.2.2.2.2.1 h, fun h => gG.2.2.2.2.2.2.2.2.2.2.2.2.2.2.2.2.2.2.1 h, fun h => gG.2.2.2.2.2.2.2.2.2.2.2.2.2.2.2.2.2.2.2.1 h, fun h => gG.2.2.2.2.2.2.2.2.2.2.2.2.2.2.2.2.2.2.2.2.1 h, fun h => gG.2.2.2.2.2.2.2.2.2.2.2.2.2.2.2.2.2.2.2.2.2.1 h, fun h => gG.2.2.2.2.2.2.2.2.2.2.2.2.2.2.2.2.2.2.2.2.2.2.1 h, fun h => gG.2.2.2.2.2.2.2.2.2.2.2.2.2.2.2.2.2.2.2.2.2.2.2 h⟩
        refine below_succ ?_ ?_
        · intro f az u hf hd hcl hI
          obtain ⟨x10, x11, x12, x13, x14, x15, x16, x17, x18, x19, x20, x21, x22, x23, x24, x25, x26, x27, x28, x29, x30, x31, x32, x33, rfl, gD, gG⟩ := hI
          subst hmk
          have e9 := gG.2.2.2.2.2.2.2.2.2.1 (hd 9 (by decide))
          subst e9
          refine wpOp_step rfl (fun K hK => ?_)
          refine skip_op rfl ?_
          try go_simp
          refine hK _ _ ?_
          refine ⟨_, _, _, _, _, _, _, _, _, _, _, _, _, _, _, _, _, _, _, _, _, _, _, _, rfl, gD, fun h => gG.1 h, fun h => gG.2.1 h, fun h => gG.2.2.1 h, fun h => gG.2.2.2.1 h, fun h => gG.2.2.2.2.1 h, fun h => gG.2.2.2.2.2.1 h, fun h => gG.2.2.2.2.2.2.1 h, fun h => gG.2.2.2.2.2.2.2.1 h, fun h => gG.2.2.2.2.2.2.2.2.1 h, fun h => gG.2.2.2.2.2.2.2.2.2.1 h, fun h => gG.2.2.2.2.2.2.2.2.2.2.1 h, fun h => gG.2.2.2.2.2.2.2.2.2.2.2.1 h, fun h => gG.2.2.2.2.2.2.2.2.2.2.2.2.1 h, fun _ => rfl, fun h => gG.2.2.2.2.2.2.2.2.2.2.2.2.2.2.1 h, fun h => gG.2.2.2.2.2.2.2.2.2.2.2.2.2.2.2.1 h, fun h => gG.2.2.2.2.2.2.2.2.2.2.2.2.2.2.2.2.1 h, fun h => gG.2.2.2.2.2.2.2.2.2.2.2.2.2.2.2.2.2.1 h, fun h => gG.2.2.2.2.2.2.2.2.2.2.2.2.2.2.2.2.2.2.1 h, fun h => gG.2.2.2.2.2.2.2.2.2.2.2.2.2.2.2.2.2.2.2.1 h, fun h => gG.2.2.2.2.2.2.2.2.2.2.2.2.2.2.2.2.2.2.2.2.1 h, fun h => gG.2.2.2.2.2.2.2.2.2.2.2.2.2.2.2.2.2.2.2.2.2.1 h, fun h => gG.2.2.2.2.2.2.2.2.2.2.2.2.2.2.2.2.2.2.2.2.2.2.1 h, fun h => gG.2.2.2.2.2.2.2.2.2.2.2.2.2.2.2.2.2.2.2.2.2.2.2 h⟩
        refine below_succ ?_ ?_
        · intro f az u hf hd hcl hI
          obtain ⟨x10, x11, x12, x13, x14, x15, x16, x17, x18, x19, x20, x21, x22, x23, x24, x25, x26, x27, x28, x29, x30, x31, x32, x33, rfl, gD, gG⟩ := hI
          subst hmk
          have e9 := gG.2.2.2.2.2.2.2.2.2.1 (hd 9 (by decide))
          subst e9
          refine wpOp_step rfl (fun K hK => ?_)
          refine skip_op rfl ?_
          try go_simp
          refine hK _ _ ?_
          refine ⟨_, _, _, _, _, _, _, _, _, _, _, _, _, _, _, _, _, _, _, _, _, _, _, _, rfl, gD, fun h => gG.1 h, fun h => gG.2.1 h, fun h => gG.2.2.1 h, fun h => gG.2.2.2.1 h, fun h => gG.2.2.2.2.1 h, fun h => gG.2.2.2.2.2.1 h, fun h => gG.2.2.2.2.2.2.1 h, fun h => gG.2.2.2.2.2.2.2.1 h, fun h => gG.2.2.2.2.2.2.2.2.1 h, fun h => gG.2.2.2.2.2.2.2.2.2.1 h, fun h => gG.2.2.2.2.2.2.2.2.2.2.1 h, fun h => gG.2.2.2.2.2.2.2.2.2.2.2.1 h, fun _ => rfl, fun h => gG.2.2.2.2.2.2.2.2.2.2.2.2.2.1 h, fun h => gG.2.2.2.2.2.2.2.2.2.2.2.2.2.2.1 h, fun h => gG.2.2.2.2.2.2.2.2.2.2.2.2.2.2.2.1 h, fun h => gG.2.2.2.2.2.2.2.2.2.2.2.2.2.2.2.2.1 h, fun h => gG.2.2.2.2.2.2.2.2.2.2.2.2.2.2.2.2.2.1 h, fun h => gG.2.2.2.2.2.2.2.2.2.2.2.2.2.2.2.2.2.2.1 h, fun h => gG.2.2.2.2.2.2.2.2.2.2.2.2.2.2.2.2.2.2.2.1 h, fun h => gG.2.2.2.2.2.2.2.2.2.2.2.2.2.2.2.2.2.2.2.2.1 h, fun h => gG.2.2.2.2.2.2.2.2.2.2.2.2.2.2.2.2.2.2.2.2.2.1 h, fun h => gG.2.2.2.2.2.2.2.2.2.2.2.2.2.2.2.2.2.2.2.2.2.2.1 h, fun h => gG.2.2.2.2.2.2.2.2.2.2.2.2.2.2.2.2.2.2.2.2.2.2.2 h⟩
        refine below_succ ?_ ?_
        · intro f az u hf hd hcl hI
          obtain ⟨x10, x11, x12, x13, x14, x15, x16, x17, x18, x19, x20, x21, x22, x23, x24, x25, x26, x27, x28, x29, x30, x31, x32, x33, rfl, gD, gG⟩ := hI
          subst hmk
          have e9 := gG.2.2.2.2.2.2.2.2.2.1 (hd 9 (by decide))
          subst e9
          refine wpOp_step rfl (fun K hK => ?_)
          refine skip_op rfl ?_
          try go_simp
          refine hK _ _ ?_
          refine ⟨_, _, _, _, _, _, _, _, _, _, _, _, _, _, _, _, _, _, _, _, _, _, _, _, rfl, gD, fun h => gG.1 h, fun h => gG.2.1 h, fun h => gG.2.2.1 h, fun h => gG.2.2.2.1 h, fun h => gG.2.2.2.2.1 h, fun h => gG.2.2.2.2.2.1 h, fun h => gG.2.2.2.2.2.2.1 h, fun h => gG.2.2.2.2.2.2.2.1 h, fun h => gG.2.2.2.2.2.2.2.2.1 h, fun h => gG.2.2.2.2.2.2.2.2.2.1 h, fun h => gG.2.2.2.2.2.2.2.2.2.2.1 h, fun _ => rfl, fun h => gG.2.2.2.2.2.2.2.2.2.2.2.2.1 h, fun h => gG.2.2.2.2.2.2.2.2.2.2.2.2.2.1 h, fun h => gG.2.2.2.2.2.2.2.2.2.2.2.2.2.2.1 h, fun h => gG.2.2.2.2.2.2.2.2.2.2.2.2.2.2.2.1 h, fun h => gG.2.2.2.2.2.2.2.2.2.2.2.2.2.2.2.2.1 h, fun h => gG.2.2.2.2.2.2.2.2.2.2.2.2.2.2.2.2.2.1 h, fun h => gG.2.2.2.2.2.2.2.2.2.2.2.2.2.2.2.2.2.2.1 h, fun h => gG.2.2.2.2.2.2.2.2.2.2.2.2.2.2.2.2.2.2.2.1 h, fun h => gG.2.2.2.2.2.2.2.2.2.2.2.2.2.2.2.2.2.2.2.2.1 h, fun h => gG.2.2.2.2.2.2.2.2.2.2.2.2.2.2.2.2.2.2.2.2.2.1 h, fun h => gG.2.2.2.2.2.2.2.2.2.2.2.2.2.2.2.2.2.2.2.2.2.2.1 h, fun h => gG.2.2.2.2.2.2.2.2.2.2.2.2.2.2.2.2.2.2.2.2.2.2.2 h⟩
        refine below_succ ?_ ?_
        · intro f az u hf hd hcl hI
          obtain ⟨x10, x11, x12, x13, x14, x15, x16, x17, x18, x19, x20, x21, x22, x23, x24, x25, x26, x27, x28, x29, x30, x31, x32, x33, rfl, gD, gG⟩ := hI
          subst hmk
          have e9 := gG.2.2.2.2.2.2.2.2.2.1 (hd 9 (by decide))
          subst e9
          refine wpOp_step rfl (fun K hK => ?_)
          refine skip_op rfl ?_
          try go_simp
          refine hK _ _ ?_
          refine ⟨_, _, _, _, _, _, _, _, _, _, _, _, _, _, _, _, _, _, _, _, _, _, _, _, rfl, gD, fun h => gG.1 h, fun h => gG.2.1 h, fun h => gG.2.2.1 h, fun h => gG.2.2.2.1 h, fun h => gG.2.2.2.2.1 h, fun h => gG.2.2.2.2.2.1 h, fun h => gG.2.2.2.2.2.2.1 h, fun h => gG.2.2.2.2.2.2.2.1 h, fun h => gG.2.2.2.2.2.2.2.2.1 h, fun h => gG.2.2.2.2.2.2.2.2.2.1 h, fun _ => rfl, fun h => gG.2.2.2.2.2.2.2.2.2.2.2.1 h, fun h => gG.2.2.2.2.2.2.2.2.2.2.2.2.1 h, fun h => gG.2.2.2.2.2.2.2.2.2.2.2.2.2.1 h, fun h => gG.2.2.2.2.2.2.2.2.2.2.2.2.2.2.1 h, fun h => gG.2.2.2.2.2.2.2.2.2.2.2.2.2.2.2.1 h, fun h => gG.2.2.2.2.2.2.2.2.2.2.2.2.2.2.2.2.1 h, fun h => gG.2.2.2.2.2.2.2.2.2.2.2.2.2.2.2.2.2.1 h, fun h => gG.2.2.2.2.2.2.2.2.2.2.2.2.2.2.2.2.2.2.1 h, fun h => gG.2.2.2.2.2.2.2.2.2.2.2.2.2.2.2.2.2.2.2.1 h, fun h => gG.2.2.2.2.2.2.2.2.2.2.2.2.2.2.2.2.2.2.2.2.1 h, fun h => gG.2.2.2.2.2.2.2.2.2.2.2.2.2.2.2.2.2.2.2.2.2.1 h, fun h => gG.2.2.2.2.2.2.2.2.2.2.2.2.2.2.2.2.2.2.2.2.2.2.1 h, fun h => gG.2.2.2.2.2.2.2.2.2.2.2.2.2.2.2.2.2.2.2.2.2.2.2 h⟩
        refine below_succ ?_ ?_
        · intro f az u hf hd hcl hI
          obtain ⟨x10, x11, x12, x13, x14, x15, x16, x17, x18, x19, x20, x21, x22, x23, x24, x25, x26, x27, x28, x29, x30, x31, x32, x33, rfl, gD, gG⟩ := hI
          subst hmk
          have eg := gG.2.2.2.2.2.2.1 (hd 6 (by decide))
          subst eg
          have ef := gG.2.2.2.2.2.2.2.2.1 (hd 8 (by decide))
          subst ef
          refine wpOp_step rfl (fun K hK => ?_)
          go_simp
          refine hK _ _ ?_
          refine ⟨_, _, _, _, _, _, _, _, _, _, _, _, _, _, _, _, _, _, _, _, _, _, _, _, rfl, gD, fun h => gG.1 h, fun h => gG.2.1 h, fun h => gG.2.2.1 h, fun h => gG.2.2.2.1 h, fun h => gG.2.2.2.2.1 h, fun h => gG.2.2.2.2.2.1 h, fun h => gG.2.2.2.2.2.2.1 h, fun h => gG.2.2.2.2.2.2.2.1 h, fun h => gG.2.2.2.2.2.2.2.2.1 h, fun _ => rfl, fun h => gG.2.2.2.2.2.2.2.2.2.2.1 h, fun h => gG.2.2.2.2.2.2.2.2.2.2.2.1 h, fun h => gG.2.2.2.2.2.2.2.2.2.2.2.2.1 h, fun h => gG.2.2.2.2.2.2.2.2.2.2.2.2.2.1 h, fun h => gG.2.2.2.2.2.2.2.2.2.2.2.2.2.2.1 h, fun h => gG.2.2.2.2.2.2.2.2.2.2.2.2.2.2.2.1 h, fun h => gG.2.2.2.2.2.2.2.2.2.2.2.2.2.2.2.2.1 h, fun h => gG.2.2.2.2.2.2.2.2.2.2.2.2.2.2.2.2.2.1 h, fun h => gG.2.2.2.2.2.2.2.2.2.2.2.2.2.2.2.2.2.2.1 h, fun h => gG.2.2.2.2.2.2.2.2.2.2.2.2.2.2.2.2.2.2.2.1 h, fun h => gG.2.2.2.2.2.2.2.2.2.2.2.2.2.2.2.2.2.2.2.2.1 h, fun h => gG.2.2.2.2.2.2.2.2.2.2.2.2.2.2.2.2.2.2.2.2.2.1 h, fun h => gG.2.2.2.2.2.2.2.2.2.2.2.2.2.2.2.2.2.2.2.2.2.2.1 h, fun h => gG.2.2.2.2.2.2.2.2.2.2.2.2.2.2.2.2.2.2.2.2.2.2.2 h⟩
        refine below_succ ?_ ?_
        · intro f az u hf hd hcl hI
          obtain ⟨x10, x11, x12, x13, x14, x15, x16, x17, x18, x19, x20, x21, x22, x23, x24, x25, x26, x27, x28, x29, x30, x31, x32, x33, rfl, gD, gG⟩ := hI
          subst hmk
          have e7 := gG.2.2.2.2.2.2.2.1 (hd 7 (by decide))
          subst e7
          have eg := gG.2.2.2.2.2.2.1 (hd 6 (by decide))
          subst eg
          refine wpOp_step rfl (fun K hK => ?_)
          go_simp
          refine hK _ _ ?_
          refine ⟨_, _, _, _, _, _, _, _, _, _, _, _, _, _, _, _, _, _, _, _, _, _, _, _, rfl, gD, fun h => gG.1 h, fun h => gG.2.1 h, fun h => gG.2.2.1 h, fun h => gG.2.2.2.1 h, fun h => gG.2.2.2.2.1 h, fun h => gG.2.2.2.2.2.1 h, fun h => gG.2.2.2.2.2.2.1 h, fun h => gG.2.2.2.2.2.2.2.1 h, fun _ => (by first | rfl | simp), fun h => gG.2.2.2.2.2.2.2.2.2.1 h, fun h => gG.2.2.2.2.2.2.2.2.2.2.1 h, fun h => gG.2.2.2.2.2.2.2.2.2.2.2.1 h, fun h => gG.2.2.2.2.2.2.2.2.2.2.2.2.1 h, fun h => gG.2.2.2.2.2.2.2.2.2.2.2.2.2.1 h, fun h => gG.2.2.2.2.2.2.2.2.2.2.2.2.2.2.1 h, fun h => gG.2.2.2.2.2.2.2.2.2.2.2.2.2.2.2.1 h, fun h => gG.2.2.2.2.2.2.2.2.2.2.2.2.2.2.2.2.1 h, fun h => gG.2.2.2.2.2.2.2.2.2.2.2.2.2.2.2.2.2.1 h, fun h => gG.2.2.2.2.2.2.2.2.2.2.2.2.2.2.2.2.2.2.1 h, fun h => gG.2.2.2.2.2.2.2.2.2.2.2.2.2.2.2.2.2.2.2.1 h, fun h => gG.2.2.2.2.2.2.2.2.2.2.2.2.2.2.2.2.2.2.2.2.1 h, fun h => gG.2.2.2.2.2.2.2.2.2.2.2.2.2.2.2.2.2.2.2.2.2.1 h, fun h => gG.2.2.2.2.2.2.2.2.2.2.2.2.2.2.2.2.2.2.2.2.2.2.1 h, fun h => gG.2.2.2.2.2.2.2.2.2.2.2.2.2.2.2.2.2.2.2.2.2.2.2 h⟩
        refine below_succ ?_ ?_
        · intro f az u hf hd hcl hI
          obtain ⟨x10, x11, x12, x13, x14, x15, x16, x17, x18, x19, x20, x21, x22, x23, x24, x25, x26, x27, x28, x29, x30, x31, x32, x33, rfl, gD, gG⟩ := hI
          subst hmk
          have eg := gG.2.2.2.2.2.2.1 (hd 6 (by decide))
          subst eg
          refine wpOp_step rfl (fun K hK => ?_)
          go_simp
          refine hK _ _ ?_
          refine ⟨_, _, _, _, _, _, _, _, _, _, _, _, _, _, _, _, _, _, _, _, _, _, _, _, rfl, gD, fun h => gG.1 h, fun h => gG.2.1 h, fun h => gG.2.2.1 h, fun h => gG.2.2.2.1 h, fun h => gG.2.2.2.2.1 h, fun h => gG.2.2.2.2.2.1 h, fun h => gG.2.2.2.2.2.2.1 h, fun _ => rfl, fun h => gG.2.2.2.2.2.2.2.2.1 h, fun h => gG.2.2.2.2.2.2.2.2.2.1 h, fun h => gG.2.2.2.2.2.2.2.2.2.2.1 h, fun h => gG.2.2.2.2.2.2.2.2.2.2.2.1 h, fun h => gG.2.2.2.2.2.2.2.2.2.2.2.2.1 h, fun h => gG.2.2.2.2.2.2.2.2.2.2.2.2.2.1 h, fun h => gG.2.2.2.2.2.2.2.2.2.2.2.2.2.2.1 h, fun h => gG.2.2.2.2.2.2.2.2.2.2.2.2.2.2.2.1 h, fun h => gG.2.2.2.2.2.2.2.2.2.2.2.2.2.2.2.2.1 h, fun h => gG.2.2.2.2.2.2.2.2.2.2.2.2.2.2.2.2.2.1 h, fun h => gG.2.2.2.2.2.2.2.2.2.2.2.2.2.2.2.2.2.2.1 h, fun h => gG.2.2.2.2.2.2.2.2.2.2.2.2.2.2.2.2.2.2.2.1 h, fun h => gG.2.2.2.2.2.2.2.2.2.2.2.2.2.2.2.2.2.2.2.2.1 h, fun h => gG.2.2.2.2.2.2.2.2.2.2.2.2.2.2.2.2.2.2.2.2.2.1 h, fun h => gG.2.2.2.2.2.2.2.2.2.2.2.2.2.2.2.2.2.2.2.2.2.2.1 h, fun h => gG.2.2.2.2.2.2.2.2.2.2.2.2.2.2.2.2.2.2.2.2.2.2.2 h⟩
        refine below_succ ?_ ?_
        · intro f az u hf hd hcl hI
          obtain ⟨x10, x11, x12, x13, x14, x15, x16, x17, x18, x19, x20, x21, x22, x23, x24, x25, x26, x27, x28, x29, x30, x31, x32, x33, rfl, gD, gG⟩ := hI
          subst hmk
          have ef := gG.2.2.2.2.2.1 (hd 5 (by decide))
          subst ef
          refine wpOp_step rfl (fun K hK => ?_)
          go_simp
          refine hK _ _ ?_
          refine ⟨_, _, _, _, _, _, _, _, _, _, _, _, _, _, _, _, _, _, _, _, _, _, _, _, rfl, gD, fun h => gG.1 h, fun h => gG.2.1 h, fun h => gG.2.2.1 h, fun h => gG.2.2.2.1 h, fun h => gG.2.2.2.2.1 h, fun h => gG.2.2.2.2.2.1 h, fun _ => rfl, fun h => gG.2.2.2.2.2.2.2.1 h, fun h => gG.2.2.2.2.2.2.2.2.1 h, fun h => gG.2.2.2.2.2.2.2.2.2.1 h, fun h => gG.2.2.2.2.2.2.2.2.2.2.1 h, fun h => gG.2.2.2.2.2.2.2.2.2.2.2.1 h, fun h => gG.2.2.2.2.2.2.2.2.2.2.2.2.1 h, fun h => gG.2.2.2.2.2.2.2.2.2.2.2.2.2.1 h, fun h => gG.2.2.2.2.2.2.2.2.2.2.2.2.2.2.1 h, fun h => gG.2.2.2.2.2.2.2.2.2.2.2.2.2.2.2.1 h, fun h => gG.2.2.2.2.2.2.2.2.2.2.2.2.2.2.2.2.1 h, fun h => gG.2.2.2.2.2.2.2.2.2.2.2.2.2.2.2.2.2.1 h, fun h => gG.2.2.2.2.2.2.2.2.2.2.2.2.2.2.2.2.2.2.1 h, fun h => gG.2.2.2.2.2.2.2.2.2.2.2.2.2.2.2.2.2.2.2.1 h, fun h => gG.2.2.2.2.2.2.2.2.2.2.2.2.2.2.2.2.2.2.2.2.1 h, fun h => gG.2.2.2.2.2.2.2.2.2.2.2.2.2.2.2.2.2.2.2.2.2.1 h, fun h => gG.2.2.2.2.2.2.2.2.2.2.2.2.2.2.2.2.2.2.2.2.2.2.1 h, fun h => gG.2.2.2.2.2.2.2.2.2.2.2.2.2.2.2.2.2.2.2.2.2.2.2 h⟩
        refine below_succ ?_ ?_
        · intro f az u hf hd hcl hI
          obtain ⟨x10, x11, x12, x13, x14, x15, x16, x17, x18, x19, x20, x21, x22, x23, x24, x25, x26, x27, x28, x29, x30, x31, x32, x33, rfl, gD, gG⟩ := hI
          subst hmk
          have e4 := gG.2.2.2.2.1 (hd 4 (by decide))
          subst e4
          refine wpOp_step rfl (fun K hK => ?_)
          go_simp
          refine hK _ _ ?_
          refine ⟨_, _, _, _, _, _, _, _, _, _, _, _, _, _, _, _, _, _, _, _, _, _, _, _, rfl, gD, fun h => gG.1 h, fun h => gG.2.1 h, fun h => gG.2.2.1 h, fun h => gG.2.2.2.1 h, fun h => gG.2.2.2.2.1 h, fun _ => (by first | rfl | simp), fun h => gG.2.2.2.2.2.2.1 h, fun h => gG.2.2.2.2.2.2.2.1 h, fun h => gG.2.2.2.2.2.2.2.2.1 h, fun h => gG.2.2.2.2.2.2.2.2.2.1 h, fun h => gG.2.2.2.2.2.2.2.2.2.2.1 h, fun h => gG.2.2.2.2.2.2.2.2.2.2.2.1 h, fun h => gG.2.2.2.2.2.2.2.2.2.2.2.2.1 h, fun h => gG.2.2.2.2.2.2.2.2.2.2.2.2.2.1 h, fun h => gG.2.2.2.2.2.2.2.2.2.2.2.2.2.2.1 h, fun h => gG.2.2.2.2.2.2.2.2.2.2.2.2.2.2.2.1 h, fun h => gG.2.2.2.2.2.2.2.2.2.2.2.2.2.2.2.2.1 h, fun h => gG.2.2.2.2.2.2.2.2.2.2.2.2.2.2.2.2.2.1 h, fun h => gG.2.2.2.2.2.2.2.2.2.2.2.2.2.2.2.2.2.2.1 h, fun h => gG.2.2.2.2.2.2.2.2.2.2.2.2.2.2.2.2.2.2.2.1 h, fun h => gG.2.2.2.2.2.2.2.2.2.2.2.2.2.2.2.2.2.2.2.2.1 h, fun h => gG.2.2.2.2.2.2.2.2.2.2.2.2.2.2.2.2.2.2.2.2.2.1 h, fun h => gG.2.2.2.2.2.2.2.2.2.2.2.2.2.2.2.2.2.2.2.2.2.2.1 h, fun h => gG.2.2.2.2.2.2.2.2.2.2.2.2.2.2.2.2.2.2.2.2.2.2.2 h⟩
        refine below_succ ?_ ?_
        · intro f az u hf hd hcl hI
          obtain ⟨x10, x11, x12, x13, x14, x15, x16, x17, x18, x19, x20, x21, x22, x23, x24, x25, x26, x27, x28, x29, x30, x31, x32, x33, rfl, gD, gG⟩ := hI
          subst hmk
          have e3 := gG.2.2.2.1 (hd 3 (by decide))
          subst e3
          refine wpOp_step rfl (fun K hK => ?_)
          go_simp
          go_at_call 85
          refine (CP.out _ gD).mono ?_
          rintro e wn ⟨rfl, hb⟩
          try go_simp
          refine hK _ _ ?_
          refine ⟨_, _, _, _, _, _, _, _, _, _, _, _, _, _, _, _, _, _, _, _, _, _, _, _, rfl, hb, fun h => gG.1 h, fun h => gG.2.1 h, fun h => gG.2.2.1 h, fun h => gG.2.2.2.1 h, fun _ => rfl, fun h => gG.2.2.2.2.2.1 h, fun h => gG.2.2.2.2.2.2.1 h, fun h => gG.2.2.2.2.2.2.2.1 h, fun h => gG.2.2.2.2.2.2.2.2.1 h, fun h => gG.2.2.2.2.2.2.2.2.2.1 h, fun h => gG.2.2.2.2.2.2.2.2.2.2.1 h, fun h => gG.2.2.2.2.2.2.2.2.2.2.2.1 h, fun h => gG.2.2.2.2.2.2.2.2.2.2.2.2.1 h, fun h => gG.2.2.2.2.2.2.2.2.2.2.2.2.2.1 h, fun h => gG.2.2.2.2.2.2.2.2.2.2.2.2.2.2.1 h, fun h => gG.2.2.2.2.2.2.2.2.2.2.2.2.2.2.2.1 h, fun h => gG.2.2.2.2.2.2.2.2.2.2.2.2.2.2.2.2.1 h, fun h => gG.2.2.2.2.2.2.2.2.2.2.2.2.2.2.2.2.2.1 h, fun h => gG.2.2.2.2.2.2.2.2.2.2.2.2.2.2.2.2.2.2.1 h, fun h => gG.2.2.2.2.2.2.2.2.2.2.2.2.2.2.2.2.2.2.2.1 h, fun h => gG.2.2.2.2.2.2.2.2.2.2.2.2.2.2.2.2.2.2.2.2.1 h, fun h => gG.2.2.2.2.2.2.2.2.2.2.2.2.2.2.2.2.2.2.2.2.2.1 h, fun h => gG.2.2.2.2.2.2.2.2.2.2.2.2.2.2.2.2.2.2.2.2.2.2.1 h, fun h => gG.2.2.2.2.2.2.2.2.2.2.2.2.2.2.2.2.2.2.2.2.2.2.2 h⟩
        refine below_succ ?_ ?_
        · intro f az u hf hd hcl hI
          obtain ⟨x10, x11, x12, x13, x14, x15, x16, x17, x18, x19, x20, x21, x22, x23, x24, x25, x26, x27, x28, x29, x30, x31, x32, x33, rfl, gD, gG⟩ := hI
          subst hmk
          have e2 := gG.2.2.1 (hd 2 (by decide))
          subst e2
          obtain ⟨y0, y1, y2, y3, y4⟩ := KEEP.out u gD
          refine wpOp_step rfl (fun K hK => ?_)
          go_simp
          refine hK _ _ ?_
          refine ⟨_, _, _, _, _, _, _, _, _, _, _, _, _, _, _, _, _, _, _, _, _, _, _, _, rfl, gD, fun h => gG.1 h, fun h => gG.2.1 h, fun h => gG.2.2.1 h, fun _ => (by first | rfl | simp), fun h => gG.2.2.2.2.1 h, fun h => gG.2.2.2.2.2.1 h, fun h => gG.2.2.2.2.2.2.1 h, fun h => gG.2.2.2.2.2.2.2.1 h, fun h => gG.2.2.2.2.2.2.2.2.1 h, fun h => gG.2.2.2.2.2.2.2.2.2.1 h, fun h => gG.2.2.2.2.2.2.2.2.2.2.1 h, fun h => gG.2.2.2.2.2.2.2.2.2.2.2.1 h, fun h => gG.2.2.2.2.2.2.2.2.2.2.2.2.1 h, fun h => gG.2.2.2.2.2.2.2.2.2.2.2.2.2.1 h, fun h => gG.2.2.2.2.2.2.2.2.2.2.2.2.2.2.1 h, fun h => gG.2.2.2.2.2.2.2.2.2.2.2.2.2.2.2.1 h, fun h => gG.2.2.2.2.2.2.2.2.2.2.2.2.2.2.2.2.1 h, fun h => gG.2.2.2.2.2.2.2.2.2.2.2.2.2.2.2.2.2.1 h, fun h => gG.2.2.2.2.2.2.2.2.2.2.2.2.2.2.2.2.2.2.1 h, fun h => gG.2.2.2.2.2.2.2.2.2.2.2.2.2.2.2.2.2.2.2.1 h, fun h => gG.2.2.2.2.2.2.2.2.2.2.2.2.2.2.2.2.2.2.2.2.1 h, fun h => gG.2.2.2.2.2.2.2.2.2.2.2.2.2.2.2.2.2.2.2.2.2.1 h, fun h => gG.2.2.2.2.2.2.2.2.2.2.2.2.2.2.2.2.2.2.2.2.2.2.1 h, fun h => gG.2.2.2.2.2.2.2.2.2.2.2.2.2.2.2.2.2.2.2.2.2.2.2 h⟩
        refine below_succ ?_ ?_
        · intro f az u hf hd hcl hI
          obtain ⟨x10, x11, x12, x13, x14, x15, x16, x17, x18, x19, x20, x21, x22, x23, x24, x25, x26, x27, x28, x29, x30, x31, x32, x33, rfl, gD, gG⟩ := hI
          subst hmk
          have e0 := gG.1 (hd 0 (by decide))
          subst e0
          have e1 := gG.2.1 (hd 1 (by decide))
          subst e1
          refine wpOp_step rfl (fun K hK => ?_)
          go_simp
          refine hK _ _ ?_
          refine ⟨_, _, _, _, _, _, _, _, _, _, _, _, _, _, _, _, _, _, _, _, _, _, _, _, rfl, gD, fun h => gG.1 h, fun h => gG.2.1 h, fun _ => (by first | rfl | simp), fun h => gG.2.2.2.1 h, fun h => gG.2.2.2.2.1 h, fun h => gG.2.2.2.2.2.1 h, fun h => gG.2.2.2.2.2.2.1 h, fun h => gG.2.2.2.2.2.2.2.1 h, fun h => gG.2.2.2.2.2.2.2.2.1 h, fun h => gG.2.2.2.2.2.2.2.2.2.1 h, fun h => gG.2.2.2.2.2.2.2.2.2.2.1 h, fun h => gG.2.2.2.2.2.2.2.2.2.2.2.1 h, fun h => gG.2.2.2.2.2.2.2.2.2.2.2.2.1 h, fun h => gG.2.2.2.2.2.2.2.2.2.2.2.2.2.1 h, fun h => gG.2.2.2.2.2.2.2.2.2.2.2.2.2.2.1 h, fun h => gG.2.2.2.2.2.2.2.2.2.2.2.2.2.2.2.1 h, fun h => gG.2.2.2.2.2.2.2.2.2.2.2.2.2.2.2.2.1 h, fun h => gG.2.2.2.2.2.2.2.2.2.2.2.2.2.2.2.2.2.1 h, fun h => gG.2.2.2.2.2.2.2.2.2.2.2.2.2.2.2.2.2.2.1 h, fun h => gG.2.2.2.2.2.2.2.2.2.2.2.2.2.2.2.2.2.2.2.1 h, fun h => gG.2.2.2.2.2.2.2.2.2.2.2.2.2.2.2.2.2.2.2.2.1 h, fun h => gG.2.2.2.2.2.2.2.2.2.2.2.2.2.2.2.2.2.2.2.2.2.1 h, fun h => gG.2.2.2.2.2.2.2.2.2.2.2.2.2.2.2.2.2.2.2.2.2.2.1 h, fun h => gG.2.2.2.2.2.2.2.2.2.2.2.2.2.2.2.2.2.2.2.2.2.2.2 h⟩
        refine below_succ ?_ ?_
        · intro f az u hf hd hcl hI
          obtain ⟨x10, x11, x12, x13, x14, x15, x16, x17, x18, x19, x20, x21, x22, x23, x24, x25, x26, x27, x28, x29, x30, x31, x32, x33, rfl, gD, gG⟩ := hI
          subst hmk
          refine wpOp_step rfl (fun K hK => ?_)
          go_simp
          refine hK _ _ ?_
          refine ⟨_, _, _, _, _, _, _, _, _, _, _, _, _, _, _, _, _, _, _, _, _, _, _, _, rfl, gD, fun h => gG.1 h, fun _ => rfl, fun h => gG.2.2.1 h, fun h => gG.2.2.2.1 h, fun h => gG.2.2.2.2.1 h, fun h => gG.2.2.2.2.2.1 h, fun h => gG.2.2.2.2.2.2.1 h, fun h => gG.2.2.2.2.2.2.2.1 h, fun h => gG.2.2.2.2.2.2.2.2.1 h, fun h => gG.2.2.2.2.2.2.2.2.2.1 h, fun h => gG.2.2.2.2.2.2.2.2.2.2.1 h, fun h => gG.2.2.2.2.2.2.2.2.2.2.2.1 h, fun h => gG.2.2.2.2.2.2.2.2.2.2.2.2.1 h, fun h => gG.2.2.2.2.2.2.2.2.2.2.2.2.2.1 h, fun h => gG.2.2.2.2.2.2.2.2.2.2.2.2.2.2.1 h, fun h => gG.2.2.2.2.2.2.2.2.2.2.2.2.2.2.2.1 h, fun h => gG.2.2.2.2.2.2.2.2.2.2.2.2.2.2.2.2.1 h, fun h => gG.2.2.2.2.2.2.2.2.2.2.2.2.2.2.2.2.2.1 h, fun h => gG.2.2.2.2.2.2.2.2.2.2.2.2.2.2.2.2.2.2.1 h, fun h => gG.2.2.2.2.2.2.2.2.2.2.2.2.2.2.2.2.2.2.2.1 h, fun h => gG.2.2.2.2.2.2.2.2.2.2.2.2.2.2.2.2.2.2.2.2.1 h, fun h => gG.2.2.2.2.2.2.2.2.2.2.2.2.2.2.2.2.2.2.2.2.2.1 h, fun h => gG.2.2.2.2.2.2.2.2.2.2.2.2.2.2.2.2.2.2.2.2.2.2.1 h, fun h => gG.2.2.2.2.2.2.2.2.2.2.2.2.2.2.2.2.2.2.2.2.2.2.2 h⟩
        refine below_succ ?_ ?_
        · intro f az u hf hd hcl hI
          obtain ⟨x10, x11, x12, x13, x14, x15, x16, x17, x18, x19, x20, x21, x22, x23, x24, x25, x26, x27, x28, x29, x30, x31, x32, x33, rfl, gD, gG⟩ := hI
          subst hmk
          refine wpOp_step rfl (fun K hK => ?_)
          go_simp
          refine hK _ _ ?_
          refine ⟨_, _, _, _, _, _, _, _, _, _, _, _, _, _, _, _, _, _, _, _, _, _, _, _, rfl, gD, fun _ => rfl, fun h => gG.2.1 h, fun h => gG.2.2.1 h, fun h => gG.2.2.2.1 h, fun h => gG.2.2.2.2.1 h, fun h => gG.2.2.2.2.2.1 h, fun h => gG.2.2.2.2.2.2.1 h, fun h => gG.2.2.2.2.2.2.2.1 h, fun h => gG.2.2.2.2.2.2.2.2.1 h, fun h => gG.2.2.2.2.2.2.2.2.2.1 h, fun h => gG.2.2.2.2.2.2.2.2.2.2.1 h, fun h => gG.2.2.2.2.2.2.2.2.2.2.2.1 h, fun h => gG.2.2.2.2.2.2.2.2.2.2.2.2.1 h, fun h => gG.2.2.2.2.2.2.2.2.2.2.2.2.2.1 h, fun h => gG.2.2.2.2.2.2.2.2.2.2.2.2.2.2.1 h, fun h => gG.2.2.2.2.2.2.2.2.2.2.2.2.2.2.2.1 h, fun h => gG.2.2.2.2.2.2.2.2.2.2.2.2.2.2.2.2.1 h, fun h => gG.2.2.2.2.2.2.2.2.2.2.2.2.2.2.2.2.2.1 h, fun h => gG.2.2.2.2.2.2.2.2.2.2.2.2.2.2.2.2.2.2.1 h, fun h => gG.2.2.2.2.2.2.2.2.2.2.2.2.2.2.2.2.2.2.2.1 h, fun h => gG.2.2.2.2.2.2.2.2.2.2.2.2.2.2.2.2.2.2.2.2.1 h, fun h => gG.2.2.2.2.2.2.2.2.2.2.2.2.2.2.2.2.2.2.2.2.2.1 h, fun h => gG.2.2.2.2.2.2.2.2.2.2.2.2.2.2.2.2.2.2.2.2.2.2.1 h, fun h => gG.2.2.2.2.2.2.2.2.2.2.2.2.2.2.2.2.2.2.2.2.2.2.2 h⟩
        exact below_zero
      · intro f az u hf hI
        obtain ⟨x10, x11, x12, x13, x14, x15, x16, x17, x18, x19, x20, x21, x22, x23, x24, x25, x26, x27, x28, x29, x30, x31, x32, x33, rfl, gD, g0, g1, g2, g3, g4, g5, g6, g7, g8, g9, g10, g11, g12, g13, g14, g15, g16, g17, g18, g19, g20, g21, g22, g23⟩ := hI
        subst hmk
        have et := g23 (hf 23 (by decide))
        subst et
        have hb := gD
        clear hf gD g0 g1 g2 g3 g4 g5 g6 g7 g8 g9 g10 g11 g12 g13 g14 g15 g16 g17 g18 g19 g20 g21 g22 g23
        have HN := Lib.hid (hBP.out _ hb)
        have HS := HN.out.size
        go_wp2
        go_roundg (ps.length - (k + 1))
        case measure => omega
        case rel => exact ⟨k + 1, by omega, rfl, by go_num, Lib.hid (range_all_succ HA.out (by rw [HD.out, HBB.out]; simp [H0.out])), HN.out, HS⟩
    have hw1 : IntKind.i64.wrap ((k : Int) - 1) = ((k - 1 : Nat) : Int) := by rw [IntWalk.i64_in _ (by omega)]; omega
    have hpos : decide (0 < k) = true := decide_eq_true (by omega)
    have hposI : decide ((0 : Int) < (k : Int)) = true := decide_eq_true (by omega)
    have hlt1 : ((k - 1 : Nat) : Int) < (ps.length : Int) := by omega
    have hlt0 : (0 : Int) ≤ ((k - 1 : Nat) : Int) := by omega
    have KEEP2 : Hid (∀ W, Below wr.heap.size wr W → (W.cell? ⟨b, off + k * 5, none⟩ = some (.string x.code) ∧ W.cell? ⟨b, off + k * 5 + 1, none⟩ = some (.int .i64 x.slot) ∧ W.cell? ⟨b, off + k * 5 + 2, none⟩ = some (.slice a x.ports.length c) ∧ W.cell? ⟨b, off + k * 5 + 3, none⟩ = some (.int .i64 x.price) ∧ W.cell? ⟨b, off + k * 5 + 4, none⟩ = some (.int .i64 x.grams)) ∧ W.cell? ⟨b, off + (k - 1) * 5, none⟩ = some (.string pk)) := Lib.hid (fun W h => ⟨KEEP.out W h, P0.out (by omega) W (hBP.out W h)⟩)
    clear P0
    rcases hge : Op.bytesLess pk.toList x.code.toList
    · have HG := Lib.hid hge
      go_region_held3 (fun W => (W.cell? ⟨b, off + k * 5, none⟩ = some (.string x.code) ∧ W.cell? ⟨b, off + k * 5 + 1, none⟩ = some (.int .i64 x.slot) ∧ W.cell? ⟨b, off + k * 5 + 2, none⟩ = some (.slice a x.ports.length c) ∧ W.cell? ⟨b, off + k * 5 + 3, none⟩ = some (.int .i64 x.price) ∧ W.cell? ⟨b, off + k * 5 + 4, none⟩ = some (.int .i64 x.grams)) ∧ W.cell? ⟨b, off + (k - 1) * 5, none⟩ = some (.string pk)) (first | exact KEEP2.out _ BR | exact KEEP2.out _ hb) (first | (go_at_call 85; refine (CP.out _ ?_).mono ?_; (first | assumption); rintro e wn ⟨rfl, hb⟩))
      all_goals
        clear hw1 hpos hposI hlt1 hlt0
        have HF := Lib.hid (hBP.out _ hb)
        go_wp2
        go_ret
        exact ⟨ret_bool (by unfold areParts; rw [range_all_false hlt (by rw [HD.out, HBB.out, show keyLt pk x.code = false from HG.out]; simp [h0])]; simp), HF.out⟩
    · have HG := Lib.hid hge
      go_region_held3 (fun W => (W.cell? ⟨b, off + k * 5, none⟩ = some (.string x.code) ∧ W.cell? ⟨b, off + k * 5 + 1, none⟩ = some (.int .i64 x.slot) ∧ W.cell? ⟨b, off + k * 5 + 2, none⟩ = some (.slice a x.ports.length c) ∧ W.cell? ⟨b, off + k * 5 + 3, none⟩ = some (.int .i64 x.price) ∧ W.cell? ⟨b, off + k * 5 + 4, none⟩ = some (.int .i64 x.grams)) ∧ W.cell? ⟨b, off + (k - 1) * 5, none⟩ = some (.string pk)) (first | exact KEEP2.out _ BR | exact KEEP2.out _ hb) (first | (go_at_call 85; refine (CP.out _ ?_).mono ?_; (first | assumption); rintro e wn ⟨rfl, hb⟩))
      all_goals
        have HN := Lib.hid (hBP.out _ hb)
        have HS := HN.out.size
        clear hw1 hpos hposI hlt1 hlt0
        go_wp2
        go_roundg (ps.length - (k + 1))
        case measure => omega
        case rel => exact ⟨k + 1, by omega, rfl, by go_num, Lib.hid (range_all_succ HA.out (by rw [HD.out, HBB.out, show keyLt pk x.code = true from HG.out]; simp)), HN.out, HS⟩
end Go.Proofs.Ytblaojjpclipaaa
