/- The contract of the program's AreParts (chapter 16). No statement of the seat is proved here. -/
import Derived.Test.YtblaojjpclipaaaPartF
import Derived.Test.YtblaojjpclipaaaPartI
namespace Go.Proofs.Ytblaojjpclipaaa
open Go.RowKit

def keyLt (a b : ByteArray) : Bool := Op.bytesLess a.toList b.toList
def partOk (ps : List Part) (i : Nat) : Bool := isPartB (ps.getD i zPart) && (i == 0 || keyLt (ps.getD (i - 1) zPart).code (ps.getD i zPart).code)
def areParts (ps : List Part) : Bool := decide (ps.length ≤ 16) && (List.range ps.length).all (partOk ps)
set_option maxHeartbeats 16000000 in
set_option maxRecDepth 20000 in
theorem iAreParts_any (v : Value) (ps : List Part) (w : World) (hv : RdP w v ps) (hq : ∀ x ∈ ps, x.code.size ≤ 1048576) :
    Calls Try.prog 48 #[v] w fun e w' => e = .returned (.bool (areParts ps)) ∧ Below w.heap.size w w' := by
  have HV := Lib.hid hv
  have HQ := Lib.hid hq
  obtain ⟨A, cap, rfl, _, hm, hc⟩ := hv.shape
  clear hv hq
  by_cases hbig : 16 < ps.length
  · clear hc
    go_enter Try.func48, Try.ntmps48
    go_wp2
    go_ret
    exact ⟨ret_bool (by unfold areParts; rw [decide_eq_false (by omega)]; rfl), Below.refl _ _⟩
  go_enter Try.func48, Try.ntmps48
  go_wp2
  go_loopg [10] ps.length (fun gi i wr => ∃ k : Nat, k ≤ ps.length ∧ gi = ps.length - k ∧ i = .int .i64 k ∧ Hid ((List.range k).all (partOk ps) = true) ∧ Below w.heap.size w wr ∧ w.heap.size ≤ wr.heap.size)
  case atStart => exact ⟨0, Nat.zero_le _, rfl, rfl, Lib.hid rfl, Below.refl _ _, Nat.le_refl _⟩
  case round =>
    obtain ⟨k, hk, rfl, rfl, HA, hb, hs⟩ := hrel
    by_cases hlt : k < ps.length
    rotate_left
    · obtain rfl : k = ps.length := by omega
      go_wp2
      go_ret
      exact ⟨ret_bool (by unfold areParts; rw [HA.out, decide_eq_true (by omega)]; rfl), hb⟩
    obtain ⟨b, off, rfl, hbl, _⟩ := hc (by omega)
    obtain ⟨a, c, hat⟩ := HV.out.at_ k hlt
    obtain ⟨c0, c1, c2, c3, c4, _⟩ := hat wr hb
    have hdef : partOk ps k = (isPartB ps[k] && (k == 0 || keyLt (ps.getD (k - 1) zPart).code ps[k].code)) := by unfold partOk; rw [getD_at _ _ k hlt]
    have p0 : 0 < k → ∀ W, Below w.heap.size w W → W.cell? ⟨b, off + (k - 1) * 5, none⟩ = some (.string (ps.getD (k - 1) zPart).code) := fun hp W hW => by
      obtain ⟨a', c', hat'⟩ := HV.out.at_ (k - 1) (by omega)
      rw [getD_at _ _ _ (by omega)]
      exact (hat' W hW).1
    have HAT := Lib.hid hat
    have hokx := HQ.out _ (List.getElem_mem hlt)
    have hbw : Below w.heap.size w (wr.alloc (.cells #[.string ps[k].code, .int .i64 ps[k].slot, .slice a ps[k].ports.length c, .int .i64 ps[k].price, .int .i64 ps[k].grams] 52)) := hb.alloc hs _
    have hby : ∀ j, (wr.alloc (.cells #[.string ps[k].code, .int .i64 ps[k].slot, .slice a ps[k].ports.length c, .int .i64 ps[k].price, .int .i64 ps[k].grams] 52)).cell? ⟨wr.heap.size, j, none⟩ = #[Value.string ps[k].code, .int .i64 ps[k].slot, .slice a ps[k].ports.length c, .int .i64 ps[k].price, .int .i64 ps[k].grams][j]? := fun j => box_new _ _ _ j
    have KY : Hid (∀ W, Below (wr.alloc (.cells #[.string ps[k].code, .int .i64 ps[k].slot, .slice a ps[k].ports.length c, .int .i64 ps[k].price, .int .i64 ps[k].grams] 52)).heap.size (wr.alloc (.cells #[.string ps[k].code, .int .i64 ps[k].slot, .slice a ps[k].ports.length c, .int .i64 ps[k].price, .int .i64 ps[k].grams] 52)) W → W.cell? ⟨wr.heap.size, 0, none⟩ = some (.string ps[k].code) ∧ W.cell? ⟨wr.heap.size, 1, none⟩ = some (.int .i64 ps[k].slot) ∧ W.cell? ⟨wr.heap.size, 2, none⟩ = some (.slice a ps[k].ports.length c) ∧ W.cell? ⟨wr.heap.size, 3, none⟩ = some (.int .i64 ps[k].price) ∧ W.cell? ⟨wr.heap.size, 4, none⟩ = some (.int .i64 ps[k].grams)) := Lib.hid (fun W h => ⟨(h.cell (p := ⟨wr.heap.size, 0, none⟩) (by simp)).trans ((hby 0).trans rfl), (h.cell (p := ⟨wr.heap.size, 1, none⟩) (by simp)).trans ((hby 1).trans rfl), (h.cell (p := ⟨wr.heap.size, 2, none⟩) (by simp)).trans ((hby 2).trans rfl), (h.cell (p := ⟨wr.heap.size, 3, none⟩) (by simp)).trans ((hby 3).trans rfl), (h.cell (p := ⟨wr.heap.size, 4, none⟩) (by simp)).trans ((hby 4).trans rfl)⟩)
    have BWY := Lib.hid hbw
    have hszY : w.heap.size ≤ (wr.alloc (.cells #[.string ps[k].code, .int .i64 ps[k].slot, .slice a ps[k].ports.length c, .int .i64 ps[k].price, .int .i64 ps[k].grams] 52)).heap.size := hbw.size
    clear hc hat hbw hby
    generalize (ps.getD (k - 1) zPart).code = pk at *
    generalize hx : ps[k] = x at *
    have HD := Lib.hid hdef
    have P0 := Lib.hid p0
    clear hdef p0 hx
    go_wp2
    generalize wr.alloc (.cells #[.string x.code, .int .i64 x.slot, .slice a x.ports.length c, .int .i64 x.price, .int .i64 x.grams] 52) = wy at *
    obtain ⟨Y, hY⟩ : ∃ Y, wr.heap.size = Y := ⟨_, rfl⟩
    rw [hY] at KY ⊢
    clear hY c0 c1 c2 c3 c4 hb
    have hBP : Hid (∀ W, Below wy.heap.size wy W → Below w.heap.size w W) := Lib.hid (fun W h => Below.step BWY.out h)
    have BR : Below wy.heap.size wy wy.drew := (Below.refl _ _).drew
    have hm16 : ps.length ≤ 16 := by omega
    rcases hB : isPartB x
    · have CP : Hid (∀ W, Below wy.heap.size wy W → Calls Try.prog 52 #[.agg #[.string x.code, .int .i64 x.slot, .slice a x.ports.length c, .int .i64 x.price, .int .i64 x.grams]] W fun e w' => e = .returned (.bool false) ∧ Below wy.heap.size wy w') := Lib.hid (fun W h => (iIsPart_any x a c W (HAT.out W (hBP.out W h)).2.2.2.2.2 (by omega)).mono fun _ _ hh => ⟨by rw [hh.1, hB], Below.step h hh.2⟩)
      have HBB := Lib.hid hB
      clear hB P0
      have DA : Hid (Below wy.heap.size wy wy) := Lib.hid (Below.refl _ _)
      obtain ⟨mk, hmk⟩ : ∃ mk : Value → Value → Value → Value → Value → Value → Value → Value → Value → Value → Value → Value → Value → Value → Value → Value → Value → Value → Act, mk = (fun x15 x16 x17 x18 x19 x20 x21 x22 x23 x24 x25 x26 x27 x28 x29 x30 x31 x32 => (⟨#[Value.slice (some ⟨b, off, none⟩) ps.length cap, undef, u2, Value.int .i64 ((k : Nat) : Int), Value.pointer (some ⟨Y, 0, none⟩), Value.slice (some ⟨b, off, none⟩) ps.length cap, Value.int .i64 ((ps.length : Nat) : Int), Value.bool (decide (16 < ((ps.length : Nat) : Int))), Value.slice (some ⟨b, off, none⟩) ps.length cap, Value.int .i64 ((ps.length : Nat) : Int), Value.int .i64 ((k : Nat) : Int), Value.bool true, Value.int .i64 ((k : Nat) : Int), Value.pointer (some ⟨b, off + k * 5, none⟩), Value.agg #[Value.string x.code, Value.int .i64 x.slot, Value.slice a x.ports.length c, Value.int .i64 x.price, Value.int .i64 x.grams], x15, x16, x17, x18, x19, x20, x21, x22, x23, x24, x25, x26, x27, x28, x29, x30, x31, x32, u33], []⟩ : Act)) := ⟨_, rfl⟩
      refine wp_region_inv (by kernel_rfl) ([[], [0], [1], [2, 1], [3], [4, 3], [5, 3, 3], [6], [6], [8, 6], [7, 9, 6], [10, 6], [11, 6], [6], [13, 6], [12, 14, 6], [6, 15, 3], [3, 16]] : List (List Nat)) (by kernel_rfl) (by kernel_rfl) (fun f az u => ∃ x15 x16 x17 x18 x19 x20 x21 x22 x23 x24 x25 x26 x27 x28 x29 x30 x31 x32 : Value, az = mk x15 x16 x17 x18 x19 x20 x21 x22 x23 x24 x25 x26 x27 x28 x29 x30 x31 x32 ∧ (Below wy.heap.size wy u) ∧ (f 0 = true → x15 = .agg #[.string x.code, .int .i64 x.slot, .slice a x.ports.length c, .int .i64 x.price, .int .i64 x.grams]) ∧ (f 1 = true → x16 = .bool false) ∧ (f 2 = true → x17 = .bool true) ∧ (f 3 = true → x18 = .bool true) ∧ (f 4 = true → x19 = undef) ∧ (f 5 = true → x20 = undef) ∧ (f 6 = true → x21 = undef) ∧ (f 7 = true → x22 = undef) ∧ (f 8 = true → x23 = undef) ∧ (f 9 = true → x24 = undef) ∧ (f 10 = true → x25 = undef) ∧ (f 11 = true → x26 = undef) ∧ (f 12 = true → x27 = undef) ∧ (f 13 = true → x28 = undef) ∧ (f 14 = true → x29 = undef) ∧ (f 15 = true → x30 = undef) ∧ (f 16 = true → x31 = undef) ∧ (f 17 = true → x32 = .bool true)) ?_ ?_ ?_
      · subst hmk
        exact ⟨_, _, _, _, _, _, _, _, _, _, _, _, _, _, _, _, _, _, rfl, DA.out.drew, fun h => (by cases h), fun h => (by cases h), fun h => (by cases h), fun h => (by cases h), fun h => (by cases h), fun h => (by cases h), fun h => (by cases h), fun h => (by cases h), fun h => (by cases h), fun h => (by cases h), fun h => (by cases h), fun h => (by cases h), fun h => (by cases h), fun h => (by cases h), fun h => (by cases h), fun h => (by cases h), fun h => (by cases h), fun h => (by cases h)⟩
      · show ∀ i, i < 18 → _
        refine below_succ ?_ ?_
        · intro f az u hf hd hcl hI
          obtain ⟨x15, x16, x17, x18, x19, x20, x21, x22, x23, x24, x25, x26, x27, x28, x29, x30, x31, x32, rfl, gD, gG⟩ := hI
          subst hmk
          have e3 := gG.2.2.2.1 (hd 3 (by decide))
          subst e3
          have e16 := gG.2.2.2.2.2.2.2.2.2.2.2.2.2.2.2.2.1 (hd 16 (by decide))
          subst e16
          refine wpOp_step rfl (fun K hK => ?_)
          go_simp
          refine hK _ _ ?_
          refine ⟨_, _, _, _, _, _, _, _, _, _, _, _, _, _, _, _, _, _, rfl, gD, fun h => gG.1 h, fun h => gG.2.1 h, fun h => gG.2.2.1 h, fun h => gG.2.2.2.1 h, fun h => gG.2.2.2.2.1 h, fun h => gG.2.2.2.2.2.1 h, fun h => gG.2.2.2.2.2.2.1 h, fun h => gG.2.2.2.2.2.2.2.1 h, fun h => gG.2.2.2.2.2.2.2.2.1 h, fun h => gG.2.2.2.2.2.2.2.2.2.1 h, fun h => gG.2.2.2.2.2.2.2.2.2.2.1 h, fun h => gG.2.2.2.2.2.2.2.2.2.2.2.1 h, fun h => gG.2.2.2.2.2.2.2.2.2.2.2.2.1 h, fun h => gG.2.2.2.2.2.2.2.2.2.2.2.2.2.1 h, fun h => gG.2.2.2.2.2.2.2.2.2.2.2.2.2.2.1 h, fun h => gG.2.2.2.2.2.2.2.2.2.2.2.2.2.2.2.1 h, fun h => gG.2.2.2.2.2.2.2.2.2.2.2.2.2.2.2.2.1 h, fun _ => (by first | rfl | simp)⟩
        refine below_succ ?_ ?_
        · intro f az u hf hd hcl hI
          obtain ⟨x15, x16, x17, x18, x19, x20, x21, x22, x23, x24, x25, x26, x27, x28, x29, x30, x31, x32, rfl, gD, gG⟩ := hI
          subst hmk
          have e3 := gG.2.2.2.1 (hd 3 (by decide))
          subst e3
          refine wpOp_step rfl (fun K hK => ?_)
          refine skip_op rfl ?_
          try go_simp
          refine hK _ _ ?_
          refine ⟨_, _, _, _, _, _, _, _, _, _, _, _, _, _, _, _, _, _, rfl, gD, fun h => gG.1 h, fun h => gG.2.1 h, fun h => gG.2.2.1 h, fun h => gG.2.2.2.1 h, fun h => gG.2.2.2.2.1 h, fun h => gG.2.2.2.2.2.1 h, fun h => gG.2.2.2.2.2.2.1 h, fun h => gG.2.2.2.2.2.2.2.1 h, fun h => gG.2.2.2.2.2.2.2.2.1 h, fun h => gG.2.2.2.2.2.2.2.2.2.1 h, fun h => gG.2.2.2.2.2.2.2.2.2.2.1 h, fun h => gG.2.2.2.2.2.2.2.2.2.2.2.1 h, fun h => gG.2.2.2.2.2.2.2.2.2.2.2.2.1 h, fun h => gG.2.2.2.2.2.2.2.2.2.2.2.2.2.1 h, fun h => gG.2.2.2.2.2.2.2.2.2.2.2.2.2.2.1 h, fun h => gG.2.2.2.2.2.2.2.2.2.2.2.2.2.2.2.1 h, fun _ => rfl, fun h => gG.2.2.2.2.2.2.2.2.2.2.2.2.2.2.2.2.2 h⟩
        refine below_succ ?_ ?_
        · intro f az u hf hd hcl hI
          obtain ⟨x15, x16, x17, x18, x19, x20, x21, x22, x23, x24, x25, x26, x27, x28, x29, x30, x31, x32, rfl, gD, gG⟩ := hI
          subst hmk
          have e6 := gG.2.2.2.2.2.2.1 (hd 6 (by decide))
          subst e6
          refine wpOp_step rfl (fun K hK => ?_)
          refine skip_op rfl ?_
          try go_simp
          refine hK _ _ ?_
          refine ⟨_, _, _, _, _, _, _, _, _, _, _, _, _, _, _, _, _, _, rfl, gD, fun h => gG.1 h, fun h => gG.2.1 h, fun h => gG.2.2.1 h, fun h => gG.2.2.2.1 h, fun h => gG.2.2.2.2.1 h, fun h => gG.2.2.2.2.2.1 h, fun h => gG.2.2.2.2.2.2.1 h, fun h => gG.2.2.2.2.2.2.2.1 h, fun h => gG.2.2.2.2.2.2.2.2.1 h, fun h => gG.2.2.2.2.2.2.2.2.2.1 h, fun h => gG.2.2.2.2.2.2.2.2.2.2.1 h, fun h => gG.2.2.2.2.2.2.2.2.2.2.2.1 h, fun h => gG.2.2.2.2.2.2.2.2.2.2.2.2.1 h, fun h => gG.2.2.2.2.2.2.2.2.2.2.2.2.2.1 h, fun h => gG.2.2.2.2.2.2.2.2.2.2.2.2.2.2.1 h, fun _ => rfl, fun h => gG.2.2.2.2.2.2.2.2.2.2.2.2.2.2.2.2.1 h, fun h => gG.2.2.2.2.2.2.2.2.2.2.2.2.2.2.2.2.2 h⟩
        refine below_succ ?_ ?_
        · intro f az u hf hd hcl hI
          obtain ⟨x15, x16, x17, x18, x19, x20, x21, x22, x23, x24, x25, x26, x27, x28, x29, x30, x31, x32, rfl, gD, gG⟩ := hI
          subst hmk
          have e6 := gG.2.2.2.2.2.2.1 (hd 6 (by decide))
          subst e6
          refine wpOp_step rfl (fun K hK => ?_)
          refine skip_op rfl ?_
          try go_simp
          refine hK _ _ ?_
          refine ⟨_, _, _, _, _, _, _, _, _, _, _, _, _, _, _, _, _, _, rfl, gD, fun h => gG.1 h, fun h => gG.2.1 h, fun h => gG.2.2.1 h, fun h => gG.2.2.2.1 h, fun h => gG.2.2.2.2.1 h, fun h => gG.2.2.2.2.2.1 h, fun h => gG.2.2.2.2.2.2.1 h, fun h => gG.2.2.2.2.2.2.2.1 h, fun h => gG.2.2.2.2.2.2.2.2.1 h, fun h => gG.2.2.2.2.2.2.2.2.2.1 h, fun h => gG.2.2.2.2.2.2.2.2.2.2.1 h, fun h => gG.2.2.2.2.2.2.2.2.2.2.2.1 h, fun h => gG.2.2.2.2.2.2.2.2.2.2.2.2.1 h, fun h => gG.2.2.2.2.2.2.2.2.2.2.2.2.2.1 h, fun _ => rfl, fun h => gG.2.2.2.2.2.2.2.2.2.2.2.2.2.2.2.1 h, fun h => gG.2.2.2.2.2.2.2.2.2.2.2.2.2.2.2.2.1 h, fun h => gG.2.2.2.2.2.2.2.2.2.2.2.2.2.2.2.2.2 h⟩
        refine below_succ ?_ ?_
        · intro f az u hf hd hcl hI
          obtain ⟨x15, x16, x17, x18, x19, x20, x21, x22, x23, x24, x25, x26, x27, x28, x29, x30, x31, x32, rfl, gD, gG⟩ := hI
          subst hmk
          have e6 := gG.2.2.2.2.2.2.1 (hd 6 (by decide))
          subst e6
          refine wpOp_step rfl (fun K hK => ?_)
          refine skip_op rfl ?_
          try go_simp
          refine hK _ _ ?_
          refine ⟨_, _, _, _, _, _, _, _, _, _, _, _, _, _, _, _, _, _, rfl, gD, fun h => gG.1 h, fun h => gG.2.1 h, fun h => gG.2.2.1 h, fun h => gG.2.2.2.1 h, fun h => gG.2.2.2.2.1 h, fun h => gG.2.2.2.2.2.1 h, fun h => gG.2.2.2.2.2.2.1 h, fun h => gG.2.2.2.2.2.2.2.1 h, fun h => gG.2.2.2.2.2.2.2.2.1 h, fun h => gG.2.2.2.2.2.2.2.2.2.1 h, fun h => gG.2.2.2.2.2.2.2.2.2.2.1 h, fun h => gG.2.2.2.2.2.2.2.2.2.2.2.1 h, fun h => gG.2.2.2.2.2.2.2.2.2.2.2.2.1 h, fun _ => rfl, fun h => gG.2.2.2.2.2.2.2.2.2.2.2.2.2.2.1 h, fun h => gG.2.2.2.2.2.2.2.2.2.2.2.2.2.2.2.1 h, fun h => gG.2.2.2.2.2.2.2.2.2.2.2.2.2.2.2.2.1 h, fun h => gG.2.2.2.2.2.2.2.2.2.2.2.2.2.2.2.2.2 h⟩
        refine below_succ ?_ ?_
        · intro f az u hf hd hcl hI
          obtain ⟨x15, x16, x17, x18, x19, x20, x21, x22, x23, x24, x25, x26, x27, x28, x29, x30, x31, x32, rfl, gD, gG⟩ := hI
          subst hmk
          have e6 := gG.2.2.2.2.2.2.1 (hd 6 (by decide))
          subst e6
          refine wpOp_step rfl (fun K hK => ?_)
          refine skip_op rfl ?_
          try go_simp
          refine hK _ _ ?_
          refine ⟨_, _, _, _, _, _, _, _, _, _, _, _, _, _, _, _, _, _, rfl, gD, fun h => gG.1 h, fun h => gG.2.1 h, fun h => gG.2.2.1 h, fun h => gG.2.2.2.1 h, fun h => gG.2.2.2.2.1 h, fun h => gG.2.2.2.2.2.1 h, fun h => gG.2.2.2.2.2.2.1 h, fun h => gG.2.2.2.2.2.2.2.1 h, fun h => gG.2.2.2.2.2.2.2.2.1 h, fun h => gG.2.2.2.2.2.2.2.2.2.1 h, fun h => gG.2.2.2.2.2.2.2.2.2.2.1 h, fun h => gG.2.2.2.2.2.2.2.2.2.2.2.1 h, fun _ => rfl, fun h => gG.2.2.2.2.2.2.2.2.2.2.2.2.2.1 h, fun h => gG.2.2.2.2.2.2.2.2.2.2.2.2.2.2.1 h, fun h => gG.2.2.2.2.2.2.2.2.2.2.2.2.2.2.2.1 h, fun h => gG.2.2.2.2.2.2.2.2.2.2.2.2.2.2.2.2.1 h, fun h => gG.2.2.2.2.2.2.2.2.2.2.2.2.2.2.2.2.2 h⟩
        refine below_succ ?_ ?_
        · intro f az u hf hd hcl hI
          obtain ⟨x15, x16, x17, x18, x19, x20, x21, x22, x23, x24, x25, x26, x27, x28, x29, x30, x31, x32, rfl, gD, gG⟩ := hI
          subst hmk
          have e6 := gG.2.2.2.2.2.2.1 (hd 6 (by decide))
          subst e6
          refine wpOp_step rfl (fun K hK => ?_)
          refine skip_op rfl ?_
          try go_simp
          refine hK _ _ ?_
          refine ⟨_, _, _, _, _, _, _, _, _, _, _, _, _, _, _, _, _, _, rfl, gD, fun h => gG.1 h, fun h => gG.2.1 h, fun h => gG.2.2.1 h, fun h => gG.2.2.2.1 h, fun h => gG.2.2.2.2.1 h, fun h => gG.2.2.2.2.2.1 h, fun h => gG.2.2.2.2.2.2.1 h, fun h => gG.2.2.2.2.2.2.2.1 h, fun h => gG.2.2.2.2.2.2.2.2.1 h, fun h => gG.2.2.2.2.2.2.2.2.2.1 h, fun h => gG.2.2.2.2.2.2.2.2.2.2.1 h, fun _ => rfl, fun h => gG.2.2.2.2.2.2.2.2.2.2.2.2.1 h, fun h => gG.2.2.2.2.2.2.2.2.2.2.2.2.2.1 h, fun h => gG.2.2.2.2.2.2.2.2.2.2.2.2.2.2.1 h, fun h => gG.2.2.2.2.2.2.2.2.2.2.2.2.2.2.2.1 h, fun h => gG.2.2.2.2.2.2.2.2.2.2.2.2.2.2.2.2.1 h, fun h => gG.2.2.2.2.2.2.2.2.2.2.2.2.2.2.2.2.2 h⟩
        refine below_succ ?_ ?_
        · intro f az u hf hd hcl hI
          obtain ⟨x15, x16, x17, x18, x19, x20, x21, x22, x23, x24, x25, x26, x27, x28, x29, x30, x31, x32, rfl, gD, gG⟩ := hI
          subst hmk
          have e6 := gG.2.2.2.2.2.2.1 (hd 6 (by decide))
          subst e6
          refine wpOp_step rfl (fun K hK => ?_)
          refine skip_op rfl ?_
          try go_simp
          refine hK _ _ ?_
          refine ⟨_, _, _, _, _, _, _, _, _, _, _, _, _, _, _, _, _, _, rfl, gD, fun h => gG.1 h, fun h => gG.2.1 h, fun h => gG.2.2.1 h, fun h => gG.2.2.2.1 h, fun h => gG.2.2.2.2.1 h, fun h => gG.2.2.2.2.2.1 h, fun h => gG.2.2.2.2.2.2.1 h, fun h => gG.2.2.2.2.2.2.2.1 h, fun h => gG.2.2.2.2.2.2.2.2.1 h, fun h => gG.2.2.2.2.2.2.2.2.2.1 h, fun _ => rfl, fun h => gG.2.2.2.2.2.2.2.2.2.2.2.1 h, fun h => gG.2.2.2.2.2.2.2.2.2.2.2.2.1 h, fun h => gG.2.2.2.2.2.2.2.2.2.2.2.2.2.1 h, fun h => gG.2.2.2.2.2.2.2.2.2.2.2.2.2.2.1 h, fun h => gG.2.2.2.2.2.2.2.2.2.2.2.2.2.2.2.1 h, fun h => gG.2.2.2.2.2.2.2.2.2.2.2.2.2.2.2.2.1 h, fun h => gG.2.2.2.2.2.2.2.2.2.2.2.2.2.2.2.2.2 h⟩
        refine below_succ ?_ ?_
        · intro f az u hf hd hcl hI
          obtain ⟨x15, x16, x17, x18, x19, x20, x21, x22, x23, x24, x25, x26, x27, x28, x29, x30, x31, x32, rfl, gD, gG⟩ := hI
          subst hmk
          have e6 := gG.2.2.2.2.2.2.1 (hd 6 (by decide))
          subst e6
          refine wpOp_step rfl (fun K hK => ?_)
          refine skip_op rfl ?_
          try go_simp
          refine hK _ _ ?_
          refine ⟨_, _, _, _, _, _, _, _, _, _, _, _, _, _, _, _, _, _, rfl, gD, fun h => gG.1 h, fun h => gG.2.1 h, fun h => gG.2.2.1 h, fun h => gG.2.2.2.1 h, fun h => gG.2.2.2.2.1 h, fun h => gG.2.2.2.2.2.1 h, fun h => gG.2.2.2.2.2.2.1 h, fun h => gG.2.2.2.2.2.2.2.1 h, fun h => gG.2.2.2.2.2.2.2.2.1 h, fun _ => rfl, fun h => gG.2.2.2.2.2.2.2.2.2.2.1 h, fun h => gG.2.2.2.2.2.2.2.2.2.2.2.1 h, fun h => gG.2.2.2.2.2.2.2.2.2.2.2.2.1 h, fun h => gG.2.2.2.2.2.2.2.2.2.2.2.2.2.1 h, fun h => gG.2.2.2.2.2.2.2.2.2.2.2.2.2.2.1 h, fun h => gG.2.2.2.2.2.2.2.2.2.2.2.2.2.2.2.1 h, fun h => gG.2.2.2.2.2.2.2.2.2.2.2.2.2.2.2.2.1 h, fun h => gG.2.2.2.2.2.2.2.2.2.2.2.2.2.2.2.2.2 h⟩
        refine below_succ ?_ ?_
        · intro f az u hf hd hcl hI
          obtain ⟨x15, x16, x17, x18, x19, x20, x21, x22, x23, x24, x25, x26, x27, x28, x29, x30, x31, x32, rfl, gD, gG⟩ := hI
          subst hmk
          have e6 := gG.2.2.2.2.2.2.1 (hd 6 (by decide))
          subst e6
          refine wpOp_step rfl (fun K hK => ?_)
          refine skip_op rfl ?_
          try go_simp
          refine hK _ _ ?_
          refine ⟨_, _, _, _, _, _, _, _, _, _, _, _, _, _, _, _, _, _, rfl, gD, fun h => gG.1 h, fun h => gG.2.1 h, fun h => gG.2.2.1 h, fun h => gG.2.2.2.1 h, fun h => gG.2.2.2.2.1 h, fun h => gG.2.2.2.2.2.1 h, fun h => gG.2.2.2.2.2.2.1 h, fun h => gG.2.2.2.2.2.2.2.1 h, fun _ => rfl, fun h => gG.2.2.2.2.2.2.2.2.2.1 h, fun h => gG.2.2.2.2.2.2.2.2.2.2.1 h, fun h => gG.2.2.2.2.2.2.2.2.2.2.2.1 h, fun h => gG.2.2.2.2.2.2.2.2.2.2.2.2.1 h, fun h => gG.2.2.2.2.2.2.2.2.2.2.2.2.2.1 h, fun h => gG.2.2.2.2.2.2.2.2.2.2.2.2.2.2.1 h, fun h => gG.2.2.2.2.2.2.2.2.2.2.2.2.2.2.2.1 h, fun h => gG.2.2.2.2.2.2.2.2.2.2.2.2.2.2.2.2.1 h, fun h => gG.2.2.2.2.2.2.2.2.2.2.2.2.2.2.2.2.2 h⟩
        refine below_succ ?_ ?_
        · intro f az u hf hd hcl hI
          obtain ⟨x15, x16, x17, x18, x19, x20, x21, x22, x23, x24, x25, x26, x27, x28, x29, x30, x31, x32, rfl, gD, gG⟩ := hI
          subst hmk
          have e6 := gG.2.2.2.2.2.2.1 (hd 6 (by decide))
          subst e6
          refine wpOp_step rfl (fun K hK => ?_)
          refine skip_op rfl ?_
          try go_simp
          refine hK _ _ ?_
          refine ⟨_, _, _, _, _, _, _, _, _, _, _, _, _, _, _, _, _, _, rfl, gD, fun h => gG.1 h, fun h => gG.2.1 h, fun h => gG.2.2.1 h, fun h => gG.2.2.2.1 h, fun h => gG.2.2.2.2.1 h, fun h => gG.2.2.2.2.2.1 h, fun h => gG.2.2.2.2.2.2.1 h, fun _ => rfl, fun h => gG.2.2.2.2.2.2.2.2.1 h, fun h => gG.2.2.2.2.2.2.2.2.2.1 h, fun h => gG.2.2.2.2.2.2.2.2.2.2.1 h, fun h => gG.2.2.2.2.2.2.2.2.2.2.2.1 h, fun h => gG.2.2.2.2.2.2.2.2.2.2.2.2.1 h, fun h => gG.2.2.2.2.2.2.2.2.2.2.2.2.2.1 h, fun h => gG.2.2.2.2.2.2.2.2.2.2.2.2.2.2.1 h, fun h => gG.2.2.2.2.2.2.2.2.2.2.2.2.2.2.2.1 h, fun h => gG.2.2.2.2.2.2.2.2.2.2.2.2.2.2.2.2.1 h, fun h => gG.2.2.2.2.2.2.2.2.2.2.2.2.2.2.2.2.2 h⟩
        refine below_succ ?_ ?_
        · intro f az u hf hd hcl hI
          obtain ⟨x15, x16, x17, x18, x19, x20, x21, x22, x23, x24, x25, x26, x27, x28, x29, x30, x31, x32, rfl, gD, gG⟩ := hI
          subst hmk
          have e3 := gG.2.2.2.1 (hd 3 (by decide))
          subst e3
          refine wpOp_step rfl (fun K hK => ?_)
          refine skip_op rfl ?_
          try go_simp
          refine hK _ _ ?_
          refine ⟨_, _, _, _, _, _, _, _, _, _, _, _, _, _, _, _, _, _, rfl, gD, fun h => gG.1 h, fun h => gG.2.1 h, fun h => gG.2.2.1 h, fun h => gG.2.2.2.1 h, fun h => gG.2.2.2.2.1 h, fun h => gG.2.2.2.2.2.1 h, fun _ => rfl, fun h => gG.2.2.2.2.2.2.2.1 h, fun h => gG.2.2.2.2.2.2.2.2.1 h, fun h => gG.2.2.2.2.2.2.2.2.2.1 h, fun h => gG.2.2.2.2.2.2.2.2.2.2.1 h, fun h => gG.2.2.2.2.2.2.2.2.2.2.2.1 h, fun h => gG.2.2.2.2.2.2.2.2.2.2.2.2.1 h, fun h => gG.2.2.2.2.2.2.2.2.2.2.2.2.2.1 h, fun h => gG.2.2.2.2.2.2.2.2.2.2.2.2.2.2.1 h, fun h => gG.2.2.2.2.2.2.2.2.2.2.2.2.2.2.2.1 h, fun h => gG.2.2.2.2.2.2.2.2.2.2.2.2.2.2.2.2.1 h, fun h => gG.2.2.2.2.2.2.2.2.2.2.2.2.2.2.2.2.2 h⟩
        refine below_succ ?_ ?_
        · intro f az u hf hd hcl hI
          obtain ⟨x15, x16, x17, x18, x19, x20, x21, x22, x23, x24, x25, x26, x27, x28, x29, x30, x31, x32, rfl, gD, gG⟩ := hI
          subst hmk
          have e3 := gG.2.2.2.1 (hd 3 (by decide))
          subst e3
          refine wpOp_step rfl (fun K hK => ?_)
          refine skip_op rfl ?_
          try go_simp
          refine hK _ _ ?_
          refine ⟨_, _, _, _, _, _, _, _, _, _, _, _, _, _, _, _, _, _, rfl, gD, fun h => gG.1 h, fun h => gG.2.1 h, fun h => gG.2.2.1 h, fun h => gG.2.2.2.1 h, fun h => gG.2.2.2.2.1 h, fun _ => rfl, fun h => gG.2.2.2.2.2.2.1 h, fun h => gG.2.2.2.2.2.2.2.1 h, fun h => gG.2.2.2.2.2.2.2.2.1 h, fun h => gG.2.2.2.2.2.2.2.2.2.1 h, fun h => gG.2.2.2.2.2.2.2.2.2.2.1 h, fun h => gG.2.2.2.2.2.2.2.2.2.2.2.1 h, fun h => gG.2.2.2.2.2.2.2.2.2.2.2.2.1 h, fun h => gG.2.2.2.2.2.2.2.2.2.2.2.2.2.1 h, fun h => gG.2.2.2.2.2.2.2.2.2.2.2.2.2.2.1 h, fun h => gG.2.2.2.2.2.2.2.2.2.2.2.2.2.2.2.1 h, fun h => gG.2.2.2.2.2.2.2.2.2.2.2.2.2.2.2.2.1 h, fun h => gG.2.2.2.2.2.2.2.2.2.2.2.2.2.2.2.2.2 h⟩
        refine below_succ ?_ ?_
        · intro f az u hf hd hcl hI
          obtain ⟨x15, x16, x17, x18, x19, x20, x21, x22, x23, x24, x25, x26, x27, x28, x29, x30, x31, x32, rfl, gD, gG⟩ := hI
          subst hmk
          have e3 := gG.2.2.2.1 (hd 3 (by decide))
          subst e3
          refine wpOp_step rfl (fun K hK => ?_)
          refine skip_op rfl ?_
          try go_simp
          refine hK _ _ ?_
          refine ⟨_, _, _, _, _, _, _, _, _, _, _, _, _, _, _, _, _, _, rfl, gD, fun h => gG.1 h, fun h => gG.2.1 h, fun h => gG.2.2.1 h, fun h => gG.2.2.2.1 h, fun _ => rfl, fun h => gG.2.2.2.2.2.1 h, fun h => gG.2.2.2.2.2.2.1 h, fun h => gG.2.2.2.2.2.2.2.1 h, fun h => gG.2.2.2.2.2.2.2.2.1 h, fun h => gG.2.2.2.2.2.2.2.2.2.1 h, fun h => gG.2.2.2.2.2.2.2.2.2.2.1 h, fun h => gG.2.2.2.2.2.2.2.2.2.2.2.1 h, fun h => gG.2.2.2.2.2.2.2.2.2.2.2.2.1 h, fun h => gG.2.2.2.2.2.2.2.2.2.2.2.2.2.1 h, fun h => gG.2.2.2.2.2.2.2.2.2.2.2.2.2.2.1 h, fun h => gG.2.2.2.2.2.2.2.2.2.2.2.2.2.2.2.1 h, fun h => gG.2.2.2.2.2.2.2.2.2.2.2.2.2.2.2.2.1 h, fun h => gG.2.2.2.2.2.2.2.2.2.2.2.2.2.2.2.2.2 h⟩
        refine below_succ ?_ ?_
        · intro f az u hf hd hcl hI
          obtain ⟨x15, x16, x17, x18, x19, x20, x21, x22, x23, x24, x25, x26, x27, x28, x29, x30, x31, x32, rfl, gD, gG⟩ := hI
          subst hmk
          have ef := gG.2.2.1 (hd 2 (by decide))
          subst ef
          refine wpOp_step rfl (fun K hK => ?_)
          go_simp
          refine hK _ _ ?_
          refine ⟨_, _, _, _, _, _, _, _, _, _, _, _, _, _, _, _, _, _, rfl, gD, fun h => gG.1 h, fun h => gG.2.1 h, fun h => gG.2.2.1 h, fun _ => rfl, fun h => gG.2.2.2.2.1 h, fun h => gG.2.2.2.2.2.1 h, fun h => gG.2.2.2.2.2.2.1 h, fun h => gG.2.2.2.2.2.2.2.1 h, fun h => gG.2.2.2.2.2.2.2.2.1 h, fun h => gG.2.2.2.2.2.2.2.2.2.1 h, fun h => gG.2.2.2.2.2.2.2.2.2.2.1 h, fun h => gG.2.2.2.2.2.2.2.2.2.2.2.1 h, fun h => gG.2.2.2.2.2.2.2.2.2.2.2.2.1 h, fun h => gG.2.2.2.2.2.2.2.2.2.2.2.2.2.1 h, fun h => gG.2.2.2.2.2.2.2.2.2.2.2.2.2.2.1 h, fun h => gG.2.2.2.2.2.2.2.2.2.2.2.2.2.2.2.1 h, fun h => gG.2.2.2.2.2.2.2.2.2.2.2.2.2.2.2.2.1 h, fun h => gG.2.2.2.2.2.2.2.2.2.2.2.2.2.2.2.2.2 h⟩
        refine below_succ ?_ ?_
        · intro f az u hf hd hcl hI
          obtain ⟨x15, x16, x17, x18, x19, x20, x21, x22, x23, x24, x25, x26, x27, x28, x29, x30, x31, x32, rfl, gD, gG⟩ := hI
          subst hmk
          have e1 := gG.2.1 (hd 1 (by decide))
          subst e1
          refine wpOp_step rfl (fun K hK => ?_)
          go_simp
          refine hK _ _ ?_
          refine ⟨_, _, _, _, _, _, _, _, _, _, _, _, _, _, _, _, _, _, rfl, gD, fun h => gG.1 h, fun h => gG.2.1 h, fun _ => (by first | rfl | simp), fun h => gG.2.2.2.1 h, fun h => gG.2.2.2.2.1 h, fun h => gG.2.2.2.2.2.1 h, fun h => gG.2.2.2.2.2.2.1 h, fun h => gG.2.2.2.2.2.2.2.1 h, fun h => gG.2.2.2.2.2.2.2.2.1 h, fun h => gG.2.2.2.2.2.2.2.2.2.1 h, fun h => gG.2.2.2.2.2.2.2.2.2.2.1 h, fun h => gG.2.2.2.2.2.2.2.2.2.2.2.1 h, fun h => gG.2.2.2.2.2.2.2.2.2.2.2.2.1 h, fun h => gG.2.2.2.2.2.2.2.2.2.2.2.2.2.1 h, fun h => gG.2.2.2.2.2.2.2.2.2.2.2.2.2.2.1 h, fun h => gG.2.2.2.2.2.2.2.2.2.2.2.2.2.2.2.1 h, fun h => gG.2.2.2.2.2.2.2.2.2.2.2.2.2.2.2.2.1 h, fun h => gG.2.2.2.2.2.2.2.2.2.2.2.2.2.2.2.2.2 h⟩
        refine below_succ ?_ ?_
        · intro f az u hf hd hcl hI
          obtain ⟨x15, x16, x17, x18, x19, x20, x21, x22, x23, x24, x25, x26, x27, x28, x29, x30, x31, x32, rfl, gD, gG⟩ := hI
          subst hmk
          have e0 := gG.1 (hd 0 (by decide))
          subst e0
          refine wpOp_step rfl (fun K hK => ?_)
          go_simp
          go_at_call 52
          refine (CP.out _ gD).mono ?_
          rintro e wn ⟨rfl, hb⟩
          try go_simp
          refine hK _ _ ?_
          refine ⟨_, _, _, _, _, _, _, _, _, _, _, _, _, _, _, _, _, _, rfl, hb, fun h => gG.1 h, fun _ => rfl, fun h => gG.2.2.1 h, fun h => gG.2.2.2.1 h, fun h => gG.2.2.2.2.1 h, fun h => gG.2.2.2.2.2.1 h, fun h => gG.2.2.2.2.2.2.1 h, fun h => gG.2.2.2.2.2.2.2.1 h, fun h => gG.2.2.2.2.2.2.2.2.1 h, fun h => gG.2.2.2.2.2.2.2.2.2.1 h, fun h => gG.2.2.2.2.2.2.2.2.2.2.1 h, fun h => gG.2.2.2.2.2.2.2.2.2.2.2.1 h, fun h => gG.2.2.2.2.2.2.2.2.2.2.2.2.1 h, fun h => gG.2.2.2.2.2.2.2.2.2.2.2.2.2.1 h, fun h => gG.2.2.2.2.2.2.2.2.2.2.2.2.2.2.1 h, fun h => gG.2.2.2.2.2.2.2.2.2.2.2.2.2.2.2.1 h, fun h => gG.2.2.2.2.2.2.2.2.2.2.2.2.2.2.2.2.1 h, fun h => gG.2.2.2.2.2.2.2.2.2.2.2.2.2.2.2.2.2 h⟩
        refine below_succ ?_ ?_
        · intro f az u hf hd hcl hI
          obtain ⟨x15, x16, x17, x18, x19, x20, x21, x22, x23, x24, x25, x26, x27, x28, x29, x30, x31, x32, rfl, gD, gG⟩ := hI
          subst hmk
          obtain ⟨y0, y1, y2, y3, y4⟩ := KY.out u gD
          refine wpOp_step rfl (fun K hK => ?_)
          go_simp
          refine hK _ _ ?_
          refine ⟨_, _, _, _, _, _, _, _, _, _, _, _, _, _, _, _, _, _, rfl, gD, fun _ => (by first | rfl | simp), fun h => gG.2.1 h, fun h => gG.2.2.1 h, fun h => gG.2.2.2.1 h, fun h => gG.2.2.2.2.1 h, fun h => gG.2.2.2.2.2.1 h, fun h => gG.2.2.2.2.2.2.1 h, fun h => gG.2.2.2.2.2.2.2.1 h, fun h => gG.2.2.2.2.2.2.2.2.1 h, fun h => gG.2.2.2.2.2.2.2.2.2.1 h, fun h => gG.2.2.2.2.2.2.2.2.2.2.1 h, fun h => gG.2.2.2.2.2.2.2.2.2.2.2.1 h, fun h => gG.2.2.2.2.2.2.2.2.2.2.2.2.1 h, fun h => gG.2.2.2.2.2.2.2.2.2.2.2.2.2.1 h, fun h => gG.2.2.2.2.2.2.2.2.2.2.2.2.2.2.1 h, fun h => gG.2.2.2.2.2.2.2.2.2.2.2.2.2.2.2.1 h, fun h => gG.2.2.2.2.2.2.2.2.2.2.2.2.2.2.2.2.1 h, fun h => gG.2.2.2.2.2.2.2.2.2.2.2.2.2.2.2.2.2 h⟩
        exact below_zero
      · intro f az u hf hI
        obtain ⟨x15, x16, x17, x18, x19, x20, x21, x22, x23, x24, x25, x26, x27, x28, x29, x30, x31, x32, rfl, gD, g0, g1, g2, g3, g4, g5, g6, g7, g8, g9, g10, g11, g12, g13, g14, g15, g16, g17⟩ := hI
        subst hmk
        have et := g17 (hf 17 (by decide))
        subst et
        have hb := gD
        clear hf gD g0 g1 g2 g3 g4 g5 g6 g7 g8 g9 g10 g11 g12 g13 g14 g15 g16 g17
        have HF := Lib.hid (hBP.out _ hb)
        go_wp2
        go_ret
        exact ⟨ret_bool (by unfold areParts; rw [range_all_false hlt (by rw [HD.out, HBB.out]; rfl)]; simp), HF.out⟩
    have CP : Hid (∀ W, Below wy.heap.size wy W → Calls Try.prog 52 #[.agg #[.string x.code, .int .i64 x.slot, .slice a x.ports.length c, .int .i64 x.price, .int .i64 x.grams]] W fun e w' => e = .returned (.bool true) ∧ Below wy.heap.size wy w') := Lib.hid (fun W h => (iIsPart_any x a c W (HAT.out W (hBP.out W h)).2.2.2.2.2 (by omega)).mono fun _ _ hh => ⟨by rw [hh.1, hB], Below.step h hh.2⟩)
    have HBB := Lib.hid hB
    clear hB
    by_cases h0 : k = 0
    · have hpos : decide (0 < k) = false := decide_eq_false (by omega)
      have hposI : decide ((0 : Int) < (k : Int)) = false := decide_eq_false (by omega)
      have H0 := Lib.hid h0
      clear P0 h0
      have DA : Hid (Below wy.heap.size wy wy) := Lib.hid (Below.refl _ _)
      obtain ⟨mk, hmk⟩ : ∃ mk : Value → Value → Value → Value → Value → Value → Value → Value → Value → Value → Value → Value → Value → Value → Value → Value → Value → Value → Act, mk = (fun x15 x16 x17 x18 x19 x20 x21 x22 x23 x24 x25 x26 x27 x28 x29 x30 x31 x32 => (⟨#[Value.slice (some ⟨b, off, none⟩) ps.length cap, undef, u2, Value.int .i64 ((k : Nat) : Int), Value.pointer (some ⟨Y, 0, none⟩), Value.slice (some ⟨b, off, none⟩) ps.length cap, Value.int .i64 ((ps.length : Nat) : Int), Value.bool (decide (16 < ((ps.length : Nat) : Int))), Value.slice (some ⟨b, off, none⟩) ps.length cap, Value.int .i64 ((ps.length : Nat) : Int), Value.int .i64 ((k : Nat) : Int), Value.bool true, Value.int .i64 ((k : Nat) : Int), Value.pointer (some ⟨b, off + k * 5, none⟩), Value.agg #[Value.string x.code, Value.int .i64 x.slot, Value.slice a x.ports.length c, Value.int .i64 x.price, Value.int .i64 x.grams], x15, x16, x17, x18, x19, x20, x21, x22, x23, x24, x25, x26, x27, x28, x29, x30, x31, x32, u33], []⟩ : Act)) := ⟨_, rfl⟩
      refine wp_region_inv (by kernel_rfl) ([[], [0], [1], [2, 1], [3], [4, 3], [5, 3, 3], [6], [6], [8, 6], [7, 9, 6], [10, 6], [11, 6], [6], [13, 6], [12, 14, 6], [6, 15, 3], [3, 16]] : List (List Nat)) (by kernel_rfl) (by kernel_rfl) (fun f az u => ∃ x15 x16 x17 x18 x19 x20 x21 x22 x23 x24 x25 x26 x27 x28 x29 x30 x31 x32 : Value, az = mk x15 x16 x17 x18 x19 x20 x21 x22 x23 x24 x25 x26 x27 x28 x29 x30 x31 x32 ∧ (Below wy.heap.size wy u) ∧ (f 0 = true → x15 = .agg #[.string x.code, .int .i64 x.slot, .slice a x.ports.length c, .int .i64 x.price, .int .i64 x.grams]) ∧ (f 1 = true → x16 = .bool true) ∧ (f 2 = true → x17 = .bool false) ∧ (f 3 = true → x18 = .bool false) ∧ (f 4 = true → x19 = .int .i64 (k : Int)) ∧ (f 5 = true → x20 = .bool false) ∧ (f 6 = true → x21 = .bool false) ∧ (f 7 = true → x22 = undef) ∧ (f 8 = true → x23 = undef) ∧ (f 9 = true → x24 = undef) ∧ (f 10 = true → x25 = undef) ∧ (f 11 = true → x26 = undef) ∧ (f 12 = true → x27 = undef) ∧ (f 13 = true → x28 = undef) ∧ (f 14 = true → x29 = undef) ∧ (f 15 = true → x30 = undef) ∧ (f 16 = true → x31 = .bool false) ∧ (f 17 = true → x32 = .bool false)) ?_ ?_ ?_
      · subst hmk
        exact ⟨_, _, _, _, _, _, _, _, _, _, _, _, _, _, _, _, _, _, rfl, DA.out.drew, fun h => (by cases h), fun h => (by cases h), fun h => (by cases h), fun h => (by cases h), fun h => (by cases h), fun h => (by cases h), fun h => (by cases h), fun h => (by cases h), fun h => (by cases h), fun h => (by cases h), fun h => (by cases h), fun h => (by cases h), fun h => (by cases h), fun h => (by cases h), fun h => (by cases h), fun h => (by cases h), fun h => (by cases h), fun h => (by cases h)⟩
      · show ∀ i, i < 18 → _
        refine below_succ ?_ ?_
        · intro f az u hf hd hcl hI
          obtain ⟨x15, x16, x17, x18, x19, x20, x21, x22, x23, x24, x25, x26, x27, x28, x29, x30, x31, x32, rfl, gD, gG⟩ := hI
          subst hmk
          have e3 := gG.2.2.2.1 (hd 3 (by decide))
          subst e3
          have e16 := gG.2.2.2.2.2.2.2.2.2.2.2.2.2.2.2.2.1 (hd 16 (by decide))
          subst e16
          refine wpOp_step rfl (fun K hK => ?_)
          go_simp
          refine hK _ _ ?_
          refine ⟨_, _, _, _, _, _, _, _, _, _, _, _, _, _, _, _, _, _, rfl, gD, fun h => gG.1 h, fun h => gG.2.1 h, fun h => gG.2.2.1 h, fun h => gG.2.2.2.1 h, fun h => gG.2.2.2.2.1 h, fun h => gG.2.2.2.2.2.1 h, fun h => gG.2.2.2.2.2.2.1 h, fun h => gG.2.2.2.2.2.2.2.1 h, fun h => gG.2.2.2.2.2.2.2.2.1 h, fun h => gG.2.2.2.2.2.2.2.2.2.1 h, fun h => gG.2.2.2.2.2.2.2.2.2.2.1 h, fun h => gG.2.2.2.2.2.2.2.2.2.2.2.1 h, fun h => gG.2.2.2.2.2.2.2.2.2.2.2.2.1 h, fun h => gG.2.2.2.2.2.2.2.2.2.2.2.2.2.1 h, fun h => gG.2.2.2.2.2.2.2.2.2.2.2.2.2.2.1 h, fun h => gG.2.2.2.2.2.2.2.2.2.2.2.2.2.2.2.1 h, fun h => gG.2.2.2.2.2.2.2.2.2.2.2.2.2.2.2.2.1 h, fun _ => (by first | rfl | simp)⟩
        refine below_succ ?_ ?_
        · intro f az u hf hd hcl hI
          obtain ⟨x15, x16, x17, x18, x19, x20, x21, x22, x23, x24, x25, x26, x27, x28, x29, x30, x31, x32, rfl, gD, gG⟩ := hI
          subst hmk
          have e6 := gG.2.2.2.2.2.2.1 (hd 6 (by decide))
          subst e6
          have e15 := gG.2.2.2.2.2.2.2.2.2.2.2.2.2.2.2.1 (hd 15 (by decide))
          subst e15
          have eg := gG.2.2.2.1 (hd 3 (by decide))
          subst eg
          refine wpOp_step rfl (fun K hK => ?_)
          go_simp
          refine hK _ _ ?_
          refine ⟨_, _, _, _, _, _, _, _, _, _, _, _, _, _, _, _, _, _, rfl, gD, fun h => gG.1 h, fun h => gG.2.1 h, fun h => gG.2.2.1 h, fun h => gG.2.2.2.1 h, fun h => gG.2.2.2.2.1 h, fun h => gG.2.2.2.2.2.1 h, fun h => gG.2.2.2.2.2.2.1 h, fun h => gG.2.2.2.2.2.2.2.1 h, fun h => gG.2.2.2.2.2.2.2.2.1 h, fun h => gG.2.2.2.2.2.2.2.2.2.1 h, fun h => gG.2.2.2.2.2.2.2.2.2.2.1 h, fun h => gG.2.2.2.2.2.2.2.2.2.2.2.1 h, fun h => gG.2.2.2.2.2.2.2.2.2.2.2.2.1 h, fun h => gG.2.2.2.2.2.2.2.2.2.2.2.2.2.1 h, fun h => gG.2.2.2.2.2.2.2.2.2.2.2.2.2.2.1 h, fun h => gG.2.2.2.2.2.2.2.2.2.2.2.2.2.2.2.1 h, fun _ => (by first | rfl | simp), fun h => gG.2.2.2.2.2.2.2.2.2.2.2.2.2.2.2.2.2 h⟩
        refine below_succ ?_ ?_
        · intro f az u hf hd hcl hI
          obtain ⟨x15, x16, x17, x18, x19, x20, x21, x22, x23, x24, x25, x26, x27, x28, x29, x30, x31, x32, rfl, gD, gG⟩ := hI
          subst hmk
          have e6 := gG.2.2.2.2.2.2.1 (hd 6 (by decide))
          subst e6
          refine wpOp_step rfl (fun K hK => ?_)
          refine skip_op rfl ?_
          try go_simp
          refine hK _ _ ?_
          refine ⟨_, _, _, _, _, _, _, _, _, _, _, _, _, _, _, _, _, _, rfl, gD, fun h => gG.1 h, fun h => gG.2.1 h, fun h => gG.2.2.1 h, fun h => gG.2.2.2.1 h, fun h => gG.2.2.2.2.1 h, fun h => gG.2.2.2.2.2.1 h, fun h => gG.2.2.2.2.2.2.1 h, fun h => gG.2.2.2.2.2.2.2.1 h, fun h => gG.2.2.2.2.2.2.2.2.1 h, fun h => gG.2.2.2.2.2.2.2.2.2.1 h, fun h => gG.2.2.2.2.2.2.2.2.2.2.1 h, fun h => gG.2.2.2.2.2.2.2.2.2.2.2.1 h, fun h => gG.2.2.2.2.2.2.2.2.2.2.2.2.1 h, fun h => gG.2.2.2.2.2.2.2.2.2.2.2.2.2.1 h, fun h => gG.2.2.2.2.2.2.2.2.2.2.2.2.2.2.1 h, fun _ => rfl, fun h => gG.2.2.2.2.2.2.2.2.2.2.2.2.2.2.2.2.1 h, fun h => gG.2.2.2.2.2.2.2.2.2.2.2.2.2.2.2.2.2 h⟩
        refine below_succ ?_ ?_
        · intro f az u hf hd hcl hI
          obtain ⟨x15, x16, x17, x18, x19, x20, x21, x22, x23, x24, x25, x26, x27, x28, x29, x30, x31, x32, rfl, gD, gG⟩ := hI
          subst hmk
          have e6 := gG.2.2.2.2.2.2.1 (hd 6 (by decide))
          subst e6
          refine wpOp_step rfl (fun K hK => ?_)
          refine skip_op rfl ?_
          try go_simp
          refine hK _ _ ?_
          refine ⟨_, _, _, _, _, _, _, _, _, _, _, _, _, _, _, _, _, _, rfl, gD, fun h => gG.1 h, fun h => gG.2.1 h, fun h => gG.2.2.1 h, fun h => gG.2.2.2.1 h, fun h => gG.2.2.2.2.1 h, fun h => gG.2.2.2.2.2.1 h, fun h => gG.2.2.2.2.2.2.1 h, fun h => gG.2.2.2.2.2.2.2.1 h, fun h => gG.2.2.2.2.2.2.2.2.1 h, fun h => gG.2.2.2.2.2.2.2.2.2.1 h, fun h => gG.2.2.2.2.2.2.2.2.2.2.1 h, fun h => gG.2.2.2.2.2.2.2.2.2.2.2.1 h, fun h => gG.2.2.2.2.2.2.2.2.2.2.2.2.1 h, fun h => gG.2.2.2.2.2.2.2.2.2.2.2.2.2.1 h, fun _ => rfl, fun h => gG.2.2.2.2.2.2.2.2.2.2.2.2.2.2.2.1 h, fun h => gG.2.2.2.2.2.2.2.2.2.2.2.2.2.2.2.2.1 h, fun h => gG.2.2.2.2.2.2.2.2.2.2.2.2.2.2.2.2.2 h⟩
        refine below_succ ?_ ?_
        · intro f az u hf hd hcl hI
          obtain ⟨x15, x16, x17, x18, x19, x20, x21, x22, x23, x24, x25, x26, x27, x28, x29, x30, x31, x32, rfl, gD, gG⟩ := hI
          subst hmk
          have e6 := gG.2.2.2.2.2.2.1 (hd 6 (by decide))
          subst e6
          refine wpOp_step rfl (fun K hK => ?_)
          refine skip_op rfl ?_
          try go_simp
          refine hK _ _ ?_
          refine ⟨_, _, _, _, _, _, _, _, _, _, _, _, _, _, _, _, _, _, rfl, gD, fun h => gG.1 h, fun h => gG.2.1 h, fun h => gG.2.2.1 h, fun h => gG.2.2.2.1 h, fun h => gG.2.2.2.2.1 h, fun h => gG.2.2.2.2.2.1 h, fun h => gG.2.2.2.2.2.2.1 h, fun h => gG.2.2.2.2.2.2.2.1 h, fun h => gG.2.2.2.2.2.2.2.2.1 h, fun h => gG.2.2.2.2.2.2.2.2.2.1 h, fun h => gG.2.2.2.2.2.2.2.2.2.2.1 h, fun h => gG.2.2.2.2.2.2.2.2.2.2.2.1 h, fun h => gG.2.2.2.2.2.2.2.2.2.2.2.2.1 h, fun _ => rfl, fun h => gG.2.2.2.2.2.2.2.2.2.2.2.2.2.2.1 h, fun h => gG.2.2.2.2.2.2.2.2.2.2.2.2.2.2.2.1 h, fun h => gG.2.2.2.2.2.2.2.2.2.2.2.2.2.2.2.2.1 h, fun h => gG.2.2.2.2.2.2.2.2.2.2.2.2.2.2.2.2.2 h⟩
        refine below_succ ?_ ?_
        · intro f az u hf hd hcl hI
          obtain ⟨x15, x16, x17, x18, x19, x20, x21, x22, x23, x24, x25, x26, x27, x28, x29, x30, x31, x32, rfl, gD, gG⟩ := hI
          subst hmk
          have e6 := gG.2.2.2.2.2.2.1 (hd 6 (by decide))
          subst e6
          refine wpOp_step rfl (fun K hK => ?_)
          refine skip_op rfl ?_
          try go_simp
          refine hK _ _ ?_
          refine ⟨_, _, _, _, _, _, _, _, _, _, _, _, _, _, _, _, _, _, rfl, gD, fun h => gG.1 h, fun h => gG.2.1 h, fun h => gG.2.2.1 h, fun h => gG.2.2.2.1 h, fun h => gG.2.2.2.2.1 h, fun h => gG.2.2.2.2.2.1 h, fun h => gG.2.2.2.2.2.2.1 h, fun h => gG.2.2.2.2.2.2.2.1 h, fun h => gG.2.2.2.2.2.2.2.2.1 h, fun h => gG.2.2.2.2.2.2.2.2.2.1 h, fun h => gG.2.2.2.2.2.2.2.2.2.2.1 h, fun h => gG.2.2.2.2.2.2.2.2.2.2.2.1 h, fun _ => rfl, fun h => gG.2.2.2.2.2.2.2.2.2.2.2.2.2.1 h, fun h => gG.2.2.2.2.2.2.2.2.2.2.2.2.2.2.1 h, fun h => gG.2.2.2.2.2.2.2.2.2.2.2.2.2.2.2.1 h, fun h => gG.2.2.2.2.2.2.2.2.2.2.2.2.2.2.2.2.1 h, fun h => gG.2.2.2.2.2.2.2.2.2.2.2.2.2.2.2.2.2 h⟩
        refine below_succ ?_ ?_
        · intro f az u hf hd hcl hI
          obtain ⟨x15, x16, x17, x18, x19, x20, x21, x22, x23, x24, x25, x26, x27, x28, x29, x30, x31, x32, rfl, gD, gG⟩ := hI
          subst hmk
          have e6 := gG.2.2.2.2.2.2.1 (hd 6 (by decide))
          subst e6
          refine wpOp_step rfl (fun K hK => ?_)
          refine skip_op rfl ?_
          try go_simp
          refine hK _ _ ?_
          refine ⟨_, _, _, _, _, _, _, _, _, _, _, _, _, _, _, _, _, _, rfl, gD, fun h => gG.1 h, fun h => gG.2.1 h, fun h => gG.2.2.1 h, fun h => gG.2.2.2.1 h, fun h => gG.2.2.2.2.1 h, fun h => gG.2.2.2.2.2.1 h, fun h => gG.2.2.2.2.2.2.1 h, fun h => gG.2.2.2.2.2.2.2.1 h, fun h => gG.2.2.2.2.2.2.2.2.1 h, fun h => gG.2.2.2.2.2.2.2.2.2.1 h, fun h => gG.2.2.2.2.2.2.2.2.2.2.1 h, fun _ => rfl, fun h => gG.2.2.2.2.2.2.2.2.2.2.2.2.1 h, fun h => gG.2.2.2.2.2.2.2.2.2.2.2.2.2.1 h, fun h => gG.2.2.2.2.2.2.2.2.2.2.2.2.2.2.1 h, fun h => gG.2.2.2.2.2.2.2.2.2.2.2.2.2.2.2.1 h, fun h => gG.2.2.2.2.2.2.2.2.2.2.2.2.2.2.2.2.1 h, fun h => gG.2.2.2.2.2.2.2.2.2.2.2.2.2.2.2.2.2 h⟩
        refine below_succ ?_ ?_
        · intro f az u hf hd hcl hI
          obtain ⟨x15, x16, x17, x18, x19, x20, x21, x22, x23, x24, x25, x26, x27, x28, x29, x30, x31, x32, rfl, gD, gG⟩ := hI
          subst hmk
          have e6 := gG.2.2.2.2.2.2.1 (hd 6 (by decide))
          subst e6
          refine wpOp_step rfl (fun K hK => ?_)
          refine skip_op rfl ?_
          try go_simp
          refine hK _ _ ?_
          refine ⟨_, _, _, _, _, _, _, _, _, _, _, _, _, _, _, _, _, _, rfl, gD, fun h => gG.1 h, fun h => gG.2.1 h, fun h => gG.2.2.1 h, fun h => gG.2.2.2.1 h, fun h => gG.2.2.2.2.1 h, fun h => gG.2.2.2.2.2.1 h, fun h => gG.2.2.2.2.2.2.1 h, fun h => gG.2.2.2.2.2.2.2.1 h, fun h => gG.2.2.2.2.2.2.2.2.1 h, fun h => gG.2.2.2.2.2.2.2.2.2.1 h, fun _ => rfl, fun h => gG.2.2.2.2.2.2.2.2.2.2.2.1 h, fun h => gG.2.2.2.2.2.2.2.2.2.2.2.2.1 h, fun h => gG.2.2.2.2.2.2.2.2.2.2.2.2.2.1 h, fun h => gG.2.2.2.2.2.2.2.2.2.2.2.2.2.2.1 h, fun h => gG.2.2.2.2.2.2.2.2.2.2.2.2.2.2.2.1 h, fun h => gG.2.2.2.2.2.2.2.2.2.2.2.2.2.2.2.2.1 h, fun h => gG.2.2.2.2.2.2.2.2.2.2.2.2.2.2.2.2.2 h⟩
        refine below_succ ?_ ?_
        · intro f az u hf hd hcl hI
          obtain ⟨x15, x16, x17, x18, x19, x20, x21, x22, x23, x24, x25, x26, x27, x28, x29, x30, x31, x32, rfl, gD, gG⟩ := hI
          subst hmk
          have e6 := gG.2.2.2.2.2.2.1 (hd 6 (by decide))
          subst e6
          refine wpOp_step rfl (fun K hK => ?_)
          refine skip_op rfl ?_
          try go_simp
          refine hK _ _ ?_
          refine ⟨_, _, _, _, _, _, _, _, _, _, _, _, _, _, _, _, _, _, rfl, gD, fun h => gG.1 h, fun h => gG.2.1 h, fun h => gG.2.2.1 h, fun h => gG.2.2.2.1 h, fun h => gG.2.2.2.2.1 h, fun h => gG.2.2.2.2.2.1 h, fun h => gG.2.2.2.2.2.2.1 h, fun h => gG.2.2.2.2.2.2.2.1 h, fun h => gG.2.2.2.2.2.2.2.2.1 h, fun _ => rfl, fun h => gG.2.2.2.2.2.2.2.2.2.2.1 h, fun h => gG.2.2.2.2.2.2.2.2.2.2.2.1 h, fun h => gG.2.2.2.2.2.2.2.2.2.2.2.2.1 h, fun h => gG.2.2.2.2.2.2.2.2.2.2.2.2.2.1 h, fun h => gG.2.2.2.2.2.2.2.2.2.2.2.2.2.2.1 h, fun h => gG.2.2.2.2.2.2.2.2.2.2.2.2.2.2.2.1 h, fun h => gG.2.2.2.2.2.2.2.2.2.2.2.2.2.2.2.2.1 h, fun h => gG.2.2.2.2.2.2.2.2.2.2.2.2.2.2.2.2.2 h⟩
        refine below_succ ?_ ?_
        · intro f az u hf hd hcl hI
          obtain ⟨x15, x16, x17, x18, x19, x20, x21, x22, x23, x24, x25, x26, x27, x28, x29, x30, x31, x32, rfl, gD, gG⟩ := hI
          subst hmk
          have e6 := gG.2.2.2.2.2.2.1 (hd 6 (by decide))
          subst e6
          refine wpOp_step rfl (fun K hK => ?_)
          refine skip_op rfl ?_
          try go_simp
          refine hK _ _ ?_
          refine ⟨_, _, _, _, _, _, _, _, _, _, _, _, _, _, _, _, _, _, rfl, gD, fun h => gG.1 h, fun h => gG.2.1 h, fun h => gG.2.2.1 h, fun h => gG.2.2.2.1 h, fun h => gG.2.2.2.2.1 h, fun h => gG.2.2.2.2.2.1 h, fun h => gG.2.2.2.2.2.2.1 h, fun h => gG.2.2.2.2.2.2.2.1 h, fun _ => rfl, fun h => gG.2.2.2.2.2.2.2.2.2.1 h, fun h => gG.2.2.2.2.2.2.2.2.2.2.1 h, fun h => gG.2.2.2.2.2.2.2.2.2.2.2.1 h, fun h => gG.2.2.2.2.2.2.2.2.2.2.2.2.1 h, fun h => gG.2.2.2.2.2.2.2.2.2.2.2.2.2.1 h, fun h => gG.2.2.2.2.2.2.2.2.2.2.2.2.2.2.1 h, fun h => gG.2.2.2.2.2.2.2.2.2.2.2.2.2.2.2.1 h, fun h => gG.2.2.2.2.2.2.2.2.2.2.2.2.2.2.2.2.1 h, fun h => gG.2.2.2.2.2.2.2.2.2.2.2.2.2.2.2.2.2 h⟩
        refine below_succ ?_ ?_
        · intro f az u hf hd hcl hI
          obtain ⟨x15, x16, x17, x18, x19, x20, x21, x22, x23, x24, x25, x26, x27, x28, x29, x30, x31, x32, rfl, gD, gG⟩ := hI
          subst hmk
          have e6 := gG.2.2.2.2.2.2.1 (hd 6 (by decide))
          subst e6
          refine wpOp_step rfl (fun K hK => ?_)
          refine skip_op rfl ?_
          try go_simp
          refine hK _ _ ?_
          refine ⟨_, _, _, _, _, _, _, _, _, _, _, _, _, _, _, _, _, _, rfl, gD, fun h => gG.1 h, fun h => gG.2.1 h, fun h => gG.2.2.1 h, fun h => gG.2.2.2.1 h, fun h => gG.2.2.2.2.1 h, fun h => gG.2.2.2.2.2.1 h, fun h => gG.2.2.2.2.2.2.1 h, fun _ => rfl, fun h => gG.2.2.2.2.2.2.2.2.1 h, fun h => gG.2.2.2.2.2.2.2.2.2.1 h, fun h => gG.2.2.2.2.2.2.2.2.2.2.1 h, fun h => gG.2.2.2.2.2.2.2.2.2.2.2.1 h, fun h => gG.2.2.2.2.2.2.2.2.2.2.2.2.1 h, fun h => gG.2.2.2.2.2.2.2.2.2.2.2.2.2.1 h, fun h => gG.2.2.2.2.2.2.2.2.2.2.2.2.2.2.1 h, fun h => gG.2.2.2.2.2.2.2.2.2.2.2.2.2.2.2.1 h, fun h => gG.2.2.2.2.2.2.2.2.2.2.2.2.2.2.2.2.1 h, fun h => gG.2.2.2.2.2.2.2.2.2.2.2.2.2.2.2.2.2 h⟩
        refine below_succ ?_ ?_
        · intro f az u hf hd hcl hI
          obtain ⟨x15, x16, x17, x18, x19, x20, x21, x22, x23, x24, x25, x26, x27, x28, x29, x30, x31, x32, rfl, gD, gG⟩ := hI
          subst hmk
          have eg := gG.2.2.2.1 (hd 3 (by decide))
          subst eg
          have ef := gG.2.2.2.2.2.1 (hd 5 (by decide))
          subst ef
          refine wpOp_step rfl (fun K hK => ?_)
          go_simp
          refine hK _ _ ?_
          refine ⟨_, _, _, _, _, _, _, _, _, _, _, _, _, _, _, _, _, _, rfl, gD, fun h => gG.1 h, fun h => gG.2.1 h, fun h => gG.2.2.1 h, fun h => gG.2.2.2.1 h, fun h => gG.2.2.2.2.1 h, fun h => gG.2.2.2.2.2.1 h, fun _ => rfl, fun h => gG.2.2.2.2.2.2.2.1 h, fun h => gG.2.2.2.2.2.2.2.2.1 h, fun h => gG.2.2.2.2.2.2.2.2.2.1 h, fun h => gG.2.2.2.2.2.2.2.2.2.2.1 h, fun h => gG.2.2.2.2.2.2.2.2.2.2.2.1 h, fun h => gG.2.2.2.2.2.2.2.2.2.2.2.2.1 h, fun h => gG.2.2.2.2.2.2.2.2.2.2.2.2.2.1 h, fun h => gG.2.2.2.2.2.2.2.2.2.2.2.2.2.2.1 h, fun h => gG.2.2.2.2.2.2.2.2.2.2.2.2.2.2.2.1 h, fun h => gG.2.2.2.2.2.2.2.2.2.2.2.2.2.2.2.2.1 h, fun h => gG.2.2.2.2.2.2.2.2.2.2.2.2.2.2.2.2.2 h⟩
        refine below_succ ?_ ?_
        · intro f az u hf hd hcl hI
          obtain ⟨x15, x16, x17, x18, x19, x20, x21, x22, x23, x24, x25, x26, x27, x28, x29, x30, x31, x32, rfl, gD, gG⟩ := hI
          subst hmk
          have e4 := gG.2.2.2.2.1 (hd 4 (by decide))
          subst e4
          have eg := gG.2.2.2.1 (hd 3 (by decide))
          subst eg
          refine wpOp_step rfl (fun K hK => ?_)
          go_simp
          refine hK _ _ ?_
          refine ⟨_, _, _, _, _, _, _, _, _, _, _, _, _, _, _, _, _, _, rfl, gD, fun h => gG.1 h, fun h => gG.2.1 h, fun h => gG.2.2.1 h, fun h => gG.2.2.2.1 h, fun h => gG.2.2.2.2.1 h, fun _ => (by first | rfl | simp), fun h => gG.2.2.2.2.2.2.1 h, fun h => gG.2.2.2.2.2.2.2.1 h, fun h => gG.2.2.2.2.2.2.2.2.1 h, fun h => gG.2.2.2.2.2.2.2.2.2.1 h, fun h => gG.2.2.2.2.2.2.2.2.2.2.1 h, fun h => gG.2.2.2.2.2.2.2.2.2.2.2.1 h, fun h => gG.2.2.2.2.2.2.2.2.2.2.2.2.1 h, fun h => gG.2.2.2.2.2.2.2.2.2.2.2.2.2.1 h, fun h => gG.2.2.2.2.2.2.2.2.2.2.2.2.2.2.1 h, fun h => gG.2.2.2.2.2.2.2.2.2.2.2.2.2.2.2.1 h, fun h => gG.2.2.2.2.2.2.2.2.2.2.2.2.2.2.2.2.1 h, fun h => gG.2.2.2.2.2.2.2.2.2.2.2.2.2.2.2.2.2 h⟩
        refine below_succ ?_ ?_
        · intro f az u hf hd hcl hI
          obtain ⟨x15, x16, x17, x18, x19, x20, x21, x22, x23, x24, x25, x26, x27, x28, x29, x30, x31, x32, rfl, gD, gG⟩ := hI
          subst hmk
          have eg := gG.2.2.2.1 (hd 3 (by decide))
          subst eg
          refine wpOp_step rfl (fun K hK => ?_)
          go_simp
          refine hK _ _ ?_
          refine ⟨_, _, _, _, _, _, _, _, _, _, _, _, _, _, _, _, _, _, rfl, gD, fun h => gG.1 h, fun h => gG.2.1 h, fun h => gG.2.2.1 h, fun h => gG.2.2.2.1 h, fun _ => rfl, fun h => gG.2.2.2.2.2.1 h, fun h => gG.2.2.2.2.2.2.1 h, fun h => gG.2.2.2.2.2.2.2.1 h, fun h => gG.2.2.2.2.2.2.2.2.1 h, fun h => gG.2.2.2.2.2.2.2.2.2.1 h, fun h => gG.2.2.2.2.2.2.2.2.2.2.1 h, fun h => gG.2.2.2.2.2.2.2.2.2.2.2.1 h, fun h => gG.2.2.2.2.2.2.2.2.2.2.2.2.1 h, fun h => gG.2.2.2.2.2.2.2.2.2.2.2.2.2.1 h, fun h => gG.2.2.2.2.2.2.2.2.2.2.2.2.2.2.1 h, fun h => gG.2.2.2.2.2.2.2.2.2.2.2.2.2.2.2.1 h, fun h => gG.2.2.2.2.2.2.2.2.2.2.2.2.2.2.2.2.1 h, fun h => gG.2.2.2.2.2.2.2.2.2.2.2.2.2.2.2.2.2 h⟩
        refine below_succ ?_ ?_
        · intro f az u hf hd hcl hI
          obtain ⟨x15, x16, x17, x18, x19, x20, x21, x22, x23, x24, x25, x26, x27, x28, x29, x30, x31, x32, rfl, gD, gG⟩ := hI
          subst hmk
          have ef := gG.2.2.1 (hd 2 (by decide))
          subst ef
          refine wpOp_step rfl (fun K hK => ?_)
          go_simp
          refine hK _ _ ?_
          refine ⟨_, _, _, _, _, _, _, _, _, _, _, _, _, _, _, _, _, _, rfl, gD, fun h => gG.1 h, fun h => gG.2.1 h, fun h => gG.2.2.1 h, fun _ => rfl, fun h => gG.2.2.2.2.1 h, fun h => gG.2.2.2.2.2.1 h, fun h => gG.2.2.2.2.2.2.1 h, fun h => gG.2.2.2.2.2.2.2.1 h, fun h => gG.2.2.2.2.2.2.2.2.1 h, fun h => gG.2.2.2.2.2.2.2.2.2.1 h, fun h => gG.2.2.2.2.2.2.2.2.2.2.1 h, fun h => gG.2.2.2.2.2.2.2.2.2.2.2.1 h, fun h => gG.2.2.2.2.2.2.2.2.2.2.2.2.1 h, fun h => gG.2.2.2.2.2.2.2.2.2.2.2.2.2.1 h, fun h => gG.2.2.2.2.2.2.2.2.2.2.2.2.2.2.1 h, fun h => gG.2.2.2.2.2.2.2.2.2.2.2.2.2.2.2.1 h, fun h => gG.2.2.2.2.2.2.2.2.2.2.2.2.2.2.2.2.1 h, fun h => gG.2.2.2.2.2.2.2.2.2.2.2.2.2.2.2.2.2 h⟩
        refine below_succ ?_ ?_
        · intro f az u hf hd hcl hI
          obtain ⟨x15, x16, x17, x18, x19, x20, x21, x22, x23, x24, x25, x26, x27, x28, x29, x30, x31, x32, rfl, gD, gG⟩ := hI
          subst hmk
          have e1 := gG.2.1 (hd 1 (by decide))
          subst e1
          refine wpOp_step rfl (fun K hK => ?_)
          go_simp
          refine hK _ _ ?_
          refine ⟨_, _, _, _, _, _, _, _, _, _, _, _, _, _, _, _, _, _, rfl, gD, fun h => gG.1 h, fun h => gG.2.1 h, fun _ => (by first | rfl | simp), fun h => gG.2.2.2.1 h, fun h => gG.2.2.2.2.1 h, fun h => gG.2.2.2.2.2.1 h, fun h => gG.2.2.2.2.2.2.1 h, fun h => gG.2.2.2.2.2.2.2.1 h, fun h => gG.2.2.2.2.2.2.2.2.1 h, fun h => gG.2.2.2.2.2.2.2.2.2.1 h, fun h => gG.2.2.2.2.2.2.2.2.2.2.1 h, fun h => gG.2.2.2.2.2.2.2.2.2.2.2.1 h, fun h => gG.2.2.2.2.2.2.2.2.2.2.2.2.1 h, fun h => gG.2.2.2.2.2.2.2.2.2.2.2.2.2.1 h, fun h => gG.2.2.2.2.2.2.2.2.2.2.2.2.2.2.1 h, fun h => gG.2.2.2.2.2.2.2.2.2.2.2.2.2.2.2.1 h, fun h => gG.2.2.2.2.2.2.2.2.2.2.2.2.2.2.2.2.1 h, fun h => gG.2.2.2.2.2.2.2.2.2.2.2.2.2.2.2.2.2 h⟩
        refine below_succ ?_ ?_
        · intro f az u hf hd hcl hI
          obtain ⟨x15, x16, x17, x18, x19, x20, x21, x22, x23, x24, x25, x26, x27, x28, x29, x30, x31, x32, rfl, gD, gG⟩ := hI
          subst hmk
          have e0 := gG.1 (hd 0 (by decide))
          subst e0
          refine wpOp_step rfl (fun K hK => ?_)
          go_simp
          go_at_call 52
          refine (CP.out _ gD).mono ?_
          rintro e wn ⟨rfl, hb⟩
          try go_simp
          refine hK _ _ ?_
          refine ⟨_, _, _, _, _, _, _, _, _, _, _, _, _, _, _, _, _, _, rfl, hb, fun h => gG.1 h, fun _ => rfl, fun h => gG.2.2.1 h, fun h => gG.2.2.2.1 h, fun h => gG.2.2.2.2.1 h, fun h => gG.2.2.2.2.2.1 h, fun h => gG.2.2.2.2.2.2.1 h, fun h => gG.2.2.2.2.2.2.2.1 h, fun h => gG.2.2.2.2.2.2.2.2.1 h, fun h => gG.2.2.2.2.2.2.2.2.2.1 h, fun h => gG.2.2.2.2.2.2.2.2.2.2.1 h, fun h => gG.2.2.2.2.2.2.2.2.2.2.2.1 h, fun h => gG.2.2.2.2.2.2.2.2.2.2.2.2.1 h, fun h => gG.2.2.2.2.2.2.2.2.2.2.2.2.2.1 h, fun h => gG.2.2.2.2.2.2.2.2.2.2.2.2.2.2.1 h, fun h => gG.2.2.2.2.2.2.2.2.2.2.2.2.2.2.2.1 h, fun h => gG.2.2.2.2.2.2.2.2.2.2.2.2.2.2.2.2.1 h, fun h => gG.2.2.2.2.2.2.2.2.2.2.2.2.2.2.2.2.2 h⟩
        refine below_succ ?_ ?_
        · intro f az u hf hd hcl hI
          obtain ⟨x15, x16, x17, x18, x19, x20, x21, x22, x23, x24, x25, x26, x27, x28, x29, x30, x31, x32, rfl, gD, gG⟩ := hI
          subst hmk
          obtain ⟨y0, y1, y2, y3, y4⟩ := KY.out u gD
          refine wpOp_step rfl (fun K hK => ?_)
          go_simp
          refine hK _ _ ?_
          refine ⟨_, _, _, _, _, _, _, _, _, _, _, _, _, _, _, _, _, _, rfl, gD, fun _ => (by first | rfl | simp), fun h => gG.2.1 h, fun h => gG.2.2.1 h, fun h => gG.2.2.2.1 h, fun h => gG.2.2.2.2.1 h, fun h => gG.2.2.2.2.2.1 h, fun h => gG.2.2.2.2.2.2.1 h, fun h => gG.2.2.2.2.2.2.2.1 h, fun h => gG.2.2.2.2.2.2.2.2.1 h, fun h => gG.2.2.2.2.2.2.2.2.2.1 h, fun h => gG.2.2.2.2.2.2.2.2.2.2.1 h, fun h => gG.2.2.2.2.2.2.2.2.2.2.2.1 h, fun h => gG.2.2.2.2.2.2.2.2.2.2.2.2.1 h, fun h => gG.2.2.2.2.2.2.2.2.2.2.2.2.2.1 h, fun h => gG.2.2.2.2.2.2.2.2.2.2.2.2.2.2.1 h, fun h => gG.2.2.2.2.2.2.2.2.2.2.2.2.2.2.2.1 h, fun h => gG.2.2.2.2.2.2.2.2.2.2.2.2.2.2.2.2.1 h, fun h => gG.2.2.2.2.2.2.2.2.2.2.2.2.2.2.2.2.2 h⟩
        exact below_zero
      · intro f az u hf hI
        obtain ⟨x15, x16, x17, x18, x19, x20, x21, x22, x23, x24, x25, x26, x27, x28, x29, x30, x31, x32, rfl, gD, g0, g1, g2, g3, g4, g5, g6, g7, g8, g9, g10, g11, g12, g13, g14, g15, g16, g17⟩ := hI
        subst hmk
        have et := g17 (hf 17 (by decide))
        subst et
        have hb := gD
        clear hf gD g0 g1 g2 g3 g4 g5 g6 g7 g8 g9 g10 g11 g12 g13 g14 g15 g16 g17
        have HN := Lib.hid (hBP.out _ hb)
        have HS := HN.out.size
        go_wp2
        go_roundg (ps.length - (k + 1))
        case measure => omega
        case rel => exact ⟨k + 1, by omega, rfl, by go_num, Lib.hid (range_all_succ HA.out (by rw [HD.out, HBB.out]; simp [H0.out])), HN.out, HS⟩
    have hw1 : IntKind.i64.wrap ((k : Int) - 1) = ((k - 1 : Nat) : Int) := by rw [IntWalk.i64_in _ (by omega)]; omega
    have hpos : decide (0 < k) = true := decide_eq_true (by omega)
    have hposI : decide ((0 : Int) < (k : Int)) = true := decide_eq_true (by omega)
    have hlt1 : ((k - 1 : Nat) : Int) < (ps.length : Int) := by omega
    have hlt0 : (0 : Int) ≤ ((k - 1 : Nat) : Int) := by omega
    have KEEP2 : Hid (∀ W, Below wy.heap.size wy W → (W.cell? ⟨Y, 0, none⟩ = some (.string x.code) ∧ W.cell? ⟨Y, 1, none⟩ = some (.int .i64 x.slot) ∧ W.cell? ⟨Y, 2, none⟩ = some (.slice a x.ports.length c) ∧ W.cell? ⟨Y, 3, none⟩ = some (.int .i64 x.price) ∧ W.cell? ⟨Y, 4, none⟩ = some (.int .i64 x.grams)) ∧ W.cell? ⟨b, off + (k - 1) * 5, none⟩ = some (.string pk)) := Lib.hid (fun W h => ⟨KY.out W h, P0.out (by omega) W (hBP.out W h)⟩)
    clear P0
    rcases hge : Op.bytesLess pk.toList x.code.toList
    · have HG := Lib.hid hge
      go_region_held3 (fun W => (W.cell? ⟨Y, 0, none⟩ = some (.string x.code) ∧ W.cell? ⟨Y, 1, none⟩ = some (.int .i64 x.slot) ∧ W.cell? ⟨Y, 2, none⟩ = some (.slice a x.ports.length c) ∧ W.cell? ⟨Y, 3, none⟩ = some (.int .i64 x.price) ∧ W.cell? ⟨Y, 4, none⟩ = some (.int .i64 x.grams)) ∧ W.cell? ⟨b, off + (k - 1) * 5, none⟩ = some (.string pk)) (first | exact KEEP2.out _ BR | exact KEEP2.out _ hb) (first | (go_at_call 52; refine (CP.out _ ?_).mono ?_; (first | assumption); rintro e wn ⟨rfl, hb⟩))
      all_goals
        clear hw1 hpos hposI hlt1 hlt0
        have HF := Lib.hid (hBP.out _ hb)
        go_wp2
        go_ret
        exact ⟨ret_bool (by unfold areParts; rw [range_all_false hlt (by rw [HD.out, HBB.out, show keyLt pk x.code = false from HG.out]; simp [h0])]; simp), HF.out⟩
    · have HG := Lib.hid hge
      go_region_held3 (fun W => (W.cell? ⟨Y, 0, none⟩ = some (.string x.code) ∧ W.cell? ⟨Y, 1, none⟩ = some (.int .i64 x.slot) ∧ W.cell? ⟨Y, 2, none⟩ = some (.slice a x.ports.length c) ∧ W.cell? ⟨Y, 3, none⟩ = some (.int .i64 x.price) ∧ W.cell? ⟨Y, 4, none⟩ = some (.int .i64 x.grams)) ∧ W.cell? ⟨b, off + (k - 1) * 5, none⟩ = some (.string pk)) (first | exact KEEP2.out _ BR | exact KEEP2.out _ hb) (first | (go_at_call 52; refine (CP.out _ ?_).mono ?_; (first | assumption); rintro e wn ⟨rfl, hb⟩))
      all_goals
        have HN := Lib.hid (hBP.out _ hb)
        have HS := HN.out.size
        clear hw1 hpos hposI hlt1 hlt0
        go_wp2
        go_roundg (ps.length - (k + 1))
        case measure => omega
        case rel => exact ⟨k + 1, by omega, rfl, by go_num, Lib.hid (range_all_succ HA.out (by rw [HD.out, HBB.out, show keyLt pk x.code = true from HG.out]; simp)), HN.out, HS⟩
end Go.Proofs.Ytblaojjpclipaaa
