/- What the reference's draws for the plans hand out; the contract of hasInt (chapter 26). No statement of the seat is proved here. -/
import Derived.Test.YtijmafppdbllfaaDrawL
namespace Go.Proofs.Ytijmafppdbllfaa
open Go.RowKit

set_option maxHeartbeats 4000000 in
set_option maxRecDepth 20000 in
theorem DrawTightenPlan_any (A : Option Addr) (n cap : Nat) (w : World) (hn : n ≤ 4096) (hc : n ≤ cap) (hb : Bytes w A n w.heap.size) :
    Calls Try.prog 47 #[.slice A n cap] w fun e w' => ∃ x t s, e = .returned (.tuple #[.int .i64 x, .int .i64 t, .int .i64 s]) ∧ (0 ≤ x ∧ x ≤ 13) ∧ (0 ≤ t ∧ t ≤ 2001) ∧ (0 ≤ s ∧ s ≤ 7) ∧ Below w.heap.size w w' := by
  go_enter Try.func47, Try.ntmps47
  go_wp2_with fail
  refine (l01From_any A n cap w hn hc hb).mono ?_
  rintro e w1 ⟨p, rfl, hp, hs1, hb1⟩
  have D1 := Lib.hid (Dr.refl hs1)
  have B1 := Lib.hid hb1
  clear hs1 hb1 hb
  go_wp2_with fail
  refine (next_dr 10 D1.out (by omega)).mono ?_
  rintro e w2 ⟨a, rfl, a1, a2, hd, _⟩
  have D2 := Lib.hid hd
  clear hd D1
  have wa : IntKind.i64.wrap (3 + a) = 3 + a := IntWalk.i64_in _ (by omega)
  go_wp2_with fail
  refine (pick_dr [3 + a, 4, 5, 12, 13] _ _ rfl rfl (by simp) (by simp) D2.out).mono ?_
  rintro e w3 ⟨x, rfl, hx, hd, _⟩
  have D3 := Lib.hid hd
  have xb : 0 ≤ x ∧ x ≤ 13 := by simp at hx; omega
  clear hd hx D2 a1 a2 wa
  go_wp2_with fail
  refine (next_dr 400 D3.out (by omega)).mono ?_
  rintro e w4 ⟨b, rfl, b1, b2, hd, _⟩
  have D4 := Lib.hid hd
  clear hd D3
  have wb : IntKind.i64.wrap (1 + b) = 1 + b := IntWalk.i64_in _ (by omega)
  go_wp2_with fail
  refine (pick_dr [1 + b, 50, 1, 2000, 2001, 0] _ _ rfl rfl (by simp) (by simp) D4.out).mono ?_
  rintro e w5 ⟨t, rfl, ht, hd, _⟩
  have D5 := Lib.hid hd
  have tb : 0 ≤ t ∧ t ≤ 2001 := by simp at ht; omega
  clear hd ht D4 b1 b2 wb
  go_wp2_with fail
  refine (next_dr 6 D5.out (by omega)).mono ?_
  rintro e w6 ⟨c, rfl, c1, c2, hd, _⟩
  have D6 := Lib.hid hd
  clear hd D5
  have wc : IntKind.i64.wrap (1 + c) = 1 + c := IntWalk.i64_in _ (by omega)
  go_wp2_with fail
  refine (pick_dr [1 + c, 3, 2, 7, 0] _ _ rfl rfl (by simp) (by simp) D6.out).mono ?_
  rintro e w7 ⟨s, rfl, hs, hd, _⟩
  have D7 := Lib.hid hd
  have sb : 0 ≤ s ∧ s ≤ 7 := by simp at hs; omega
  clear hd hs D6
  go_wp2
  go_ret3
  exact ⟨x, t, s, rfl, xb, tb, sb, D7.out.to_below B1.out hp⟩
set_option maxHeartbeats 4000000 in
set_option maxRecDepth 20000 in
theorem DrawStarOrder_any (A : Option Addr) (n cap : Nat) (w : World) (hn : n ≤ 4096) (hc : n ≤ cap) (hb : Bytes w A n w.heap.size) :
    Calls Try.prog 48 #[.slice A n cap] w fun e w' => ∃ x, e = .returned (.int .i64 x) ∧ (0 ≤ x ∧ x ≤ 13) ∧ Below w.heap.size w w' := by
  go_enter Try.func48, Try.ntmps48
  go_wp2_with fail
  refine (l01From_any A n cap w hn hc hb).mono ?_
  rintro e w1 ⟨p, rfl, hp, hs1, hb1⟩
  have D1 := Lib.hid (Dr.refl hs1)
  have B1 := Lib.hid hb1
  clear hs1 hb1 hb
  go_wp2_with fail
  refine (next_dr 10 D1.out (by omega)).mono ?_
  rintro e w2 ⟨a, rfl, a1, a2, hd, _⟩
  have D2 := Lib.hid hd
  clear hd D1
  have wa : IntKind.i64.wrap (3 + a) = 3 + a := IntWalk.i64_in _ (by omega)
  go_wp2_with fail
  refine (next_dr 10 D2.out (by omega)).mono ?_
  rintro e w3 ⟨b, rfl, b1, b2, hd, _⟩
  have D3 := Lib.hid hd
  clear hd D2
  have wb : IntKind.i64.wrap (3 + b) = 3 + b := IntWalk.i64_in _ (by omega)
  go_wp2_with fail
  refine (pick_dr [3 + a, 5, 12, 13, 2, 3 + b] _ _ rfl rfl (by simp) (by simp) D3.out).mono ?_
  rintro e w4 ⟨x, rfl, hx, hd, _⟩
  have D4 := Lib.hid hd
  have xb : 0 ≤ x ∧ x ≤ 13 := by simp at hx; omega
  clear hd hx D3
  go_wp2
  go_ret
  exact ⟨x, rfl, xb, D4.out.to_below B1.out hp⟩
set_option maxHeartbeats 400000 in
theorem hasInt_any (v : Value) (xs : List Int) (x : Int) (w : World) (hv : Ints w v xs) :
    Calls Try.prog 50 #[v, .int .i64 x] w fun e w' => e = .returned (.bool (xs.any (· == x))) ∧ w = w' := by
  obtain ⟨A, cap, rfl, _, hm, hc⟩ := Ints.shape hv
  go_enter Try.func50, Try.ntmps50
  go_wp2
  go_loop [5] (fun i => ∃ k : Nat, k ≤ xs.length ∧ i = .int .i64 k ∧ (xs.take k).all (fun y => !(y == x)) = true) (fun i => xs.length - (intOf i).toNat)
  case atStart => exact ⟨0, Nat.zero_le _, rfl, rfl⟩
  case round =>
    obtain ⟨k, hk, rfl, hall⟩ := hrel
    have HA := Lib.hid hall
    clear hall
    by_cases hlt : k < xs.length
    · obtain ⟨b, off, rfl, _, hcell⟩ := hc (by omega)
      have hck := hcell k hlt
      clear hcell
      rcases hx : (xs[k] == x)
      · go_wp2
        go_round
        case rel => exact ⟨k + 1, by omega, by go_num, all_take_succ xs k hlt _ HA.out (by simp [hx])⟩
        case measure => simp [intOf]; omega
      · go_wp2
        go_ret
        exact ⟨ret_bool (List.any_eq_true.2 ⟨xs[k], List.getElem_mem hlt, hx⟩).symm, rfl⟩
    · obtain rfl : k = xs.length := by omega
      go_wp2
      go_ret
      have h := all_of_take xs _ (Nat.le_refl _) _ HA.out
      exact ⟨ret_bool (by rw [eq_comm, List.any_eq_false]; intro y hy; have := List.all_eq_true.1 h y hy; simpa using this), rfl⟩
end Go.Proofs.Ytijmafppdbllfaa
