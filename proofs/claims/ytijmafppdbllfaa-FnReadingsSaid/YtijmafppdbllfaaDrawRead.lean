/- What the reference's draws of readings, bolts and torques hand out (chapter 26). No statement of the seat is proved here. -/
import Derived.Test.YtijmafppdbllfaaDrawL
import Derived.Test.YtijmafppdbllfaaOwnI
namespace Go.Proofs.Ytijmafppdbllfaa
open Go.RowKit

/-- a store into a row of the call's own, beside a source -/
theorem Dr.store {w0 w : World} {p g j : Nat} (h : Dr w0 p w) (hg : w0.heap.size ≤ g) (u : Value) : Dr w0 p (w.setCell ⟨g, j, none⟩ u) :=
  h.below (Below.setCell (Below.refl _ _) hg u)
set_option maxHeartbeats 8000000 in
set_option maxRecDepth 20000 in
theorem l26Draw_any (p : Nat) (t : Int) (w : World) (hs : Src w p) (t0 : 0 ≤ t) (t1 : t ≤ 2001) :
    Calls Try.prog 75 #[.pointer (some ⟨p, 0, none⟩), .int .i64 t] w fun e w' => ∃ v xs, e = .returned v ∧ Own eI w' w.heap.size 2 v xs ∧ xs.length ≤ 1000 ∧ Dr w p w' := by
  have hpw := hs.lt
  have D0 : Hid (Dr w p (w.alloc (.cells #[] 2))) := Lib.hid ((Dr.refl hs).alloc _)
  have O0 : Hid (Own eI (w.alloc (.cells #[] 2)) w.heap.size 2 (.slice (some ⟨w.heap.size, 0, none⟩) 0 0) []) := Lib.hid (Own.empty eI w _ _ (Nat.le_refl _))
  clear hs
  go_enter Try.func75, Try.ntmps75
  go_wp2_with fail
  refine (next_dr 7 D0.out (by omega)).mono ?_
  rintro e w1 ⟨n0, rfl, n1, n2, hd, hg⟩
  have D1 := Lib.hid hd
  have O1 := Lib.hid (O0.out.dr hg hpw)
  obtain ⟨M, rfl⟩ := Int.eq_ofNat_of_zero_le n1
  have hM : M ≤ 6 := by omega
  have hw3 : IntKind.i64.wrap (3 + (M : Int)) = 3 + M := IntWalk.i64_in _ (by omega)
  clear hd hg D0 O0 n1 n2
  go_wp2
  go_loopg [5, 6] (M + 3) (fun k v n wr => ∃ (xs : List Int), n = .int .i64 k ∧ xs.length + k ≤ M + 3 ∧ M + 3 ≤ xs.length + k ∧ Hid (Own eI wr w.heap.size 2 v xs) ∧ Hid (Dr w p wr))
  case atStart => exact ⟨[], by go_num, by simp, by simp, O1, D1⟩
  case round =>
    obtain ⟨xs, rfl, l1, l2, HO, HD⟩ := hrel
    rename Nat => k
    clear O1 D1
    by_cases hk : 0 < k
    · obtain ⟨k, rfl⟩ : ∃ j, k = j + 1 := ⟨k - 1, by omega⟩
      have hkI : (0 : Int) < ((k + 1 : Nat) : Int) := by omega
      go_wp2_with fail
      refine (next_dr 21 HD.out (by omega)).mono ?_
      rintro e w2 ⟨a, rfl, a1, a2, hd, hg⟩
      have D2 := Lib.hid hd
      have O2 := Lib.hid (HO.out.dr hg hpw)
      clear hd hg HD HO
      have wa : IntKind.i64.wrap (a - 10) = a - 10 := IntWalk.i64_in _ (by omega)
      go_wp2_with fail
      refine (next_dr 5 D2.out (by omega)).mono ?_
      rintro e w3 ⟨b, rfl, b1, b2, hd, hg⟩
      have D3 := Lib.hid hd
      have O3 := Lib.hid (O2.out.dr hg hpw)
      clear hd hg D2 O2
      have wb : IntKind.i64.wrap (b - 2) = b - 2 := IntWalk.i64_in _ (by omega)
      go_wp2_with fail
      refine (pick_dr [0, a - 10, b - 2] _ _ rfl rfl (by simp) (by simp) D3.out).mono ?_
      rintro e w4 ⟨x, rfl, hx, hd, hg⟩
      have D4 := Lib.hid hd
      have O4 := Lib.hid (O3.out.dr hg hpw)
      have hsz := D4.out.size
      have x0 : -10 ≤ x ∧ x ≤ 20 := by simp at hx; omega
      obtain ⟨x1, x2⟩ := x0
      clear hd hg hx D3 O3 a1 a2 b1 b2 wa wb
      have wx : IntKind.i64.wrap (t + x) = t + x := IntWalk.i64_in _ (by omega)
      have hxl : xs.length ≤ 1000000000 := by omega
      go_wp2_with (at_builtin; refine wpList_app eI rfl _ _ 22 (by rfl) 2 (.int .i64 0) 8 Try.underlying22 info_i64 rfl (by decide) (by decide) w.heap.size _ xs (by rfl) (by exact O4.out) (by exact hxl) (by exact hsz) _ _ (by rfl) _ (by rfl) (by rfl) ?_)
      all_goals
        intro v5 w5 hO5 hB5 hG5 _ hs5
        have O5 := Lib.hid hO5
        have D5 := Lib.hid (D4.out.below hB5)
        clear hO5 hB5 hG5 hs5 D4 O4
        have hkw : IntKind.i64.wrap (((k + 1 : Nat) : Int) - 1) = (k : Int) := by rw [show ((k + 1 : Nat) : Int) - 1 = (k : Int) by omega]; exact IntWalk.i64_in _ (by omega)
        go_wp2
        go_roundg k
        case measure => omega
        case rel => exact ⟨_, by go_num, by rw [List.length_append, List.length_singleton]; omega, by rw [List.length_append, List.length_singleton]; omega, O5, D5⟩
    · obtain rfl : k = 0 := by omega
      have hxl3 : 3 ≤ xs.length := by omega
      have hxl9 : xs.length ≤ 9 := by omega
      clear l1 l2 hk
      obtain ⟨g, cap, rfl, hgb, hgl⟩ := World.ownsRow.form HO.out (by omega)
      obtain ⟨_, _, ex, hcx, _, _⟩ := Sl.shape (Sl.of_own HO.out (by unfold big40; omega))
      simp only [Value.slice.injEq] at ex
      obtain ⟨e1, e2, e3⟩ := ex
      clear e2
      subst e1
      subst e3
      go_wp2_with fail
      refine (next_dr 30 HD.out (by omega)).mono ?_
      rintro e w2 ⟨c, rfl, c1, c2, hd, hg⟩
      have D2 := Lib.hid hd
      have O2 := Lib.hid (HO.out.dr hg hpw)
      have hsz := D2.out.size
      clear hd hg HD HO
      by_cases h0 : c = 0
      · subst h0
        go_wp2_with fail
        refine (pick_dr [-1, 0, 2000, 2001] _ _ rfl rfl (by simp) (by simp) D2.out).mono ?_
        rintro e w4 ⟨x, rfl, hx, hd, hg⟩
        have D4 := Lib.hid hd
        have O4 := Lib.hid (O2.out.dr hg hpw)
        clear hd hg hx D2 O2
        obtain ⟨q1, q2⟩ := O4.out.cellI 0 (by omega)
        obtain ⟨q3, _⟩ := O4.out.setI 0 x
        have O5 := Lib.hid q3
        have D5 := Lib.hid (D4.out.store (j := 0) hgb (.int .i64 x))
        have hl0 : (0 : Int) < (xs.length : Int) := by omega
        clear q3 D4 O4
        go_wp2
        go_ret
        exact ⟨_, _, rfl, O5.out, by rw [List.length_set]; omega, D5.out⟩
      by_cases h1 : c = 1
      · subst h1
        have hc2 : (2 : Int) ≤ (cap : Int) := by omega
        have O5 := Lib.hid (O2.out.take 2 (by omega))
        clear O2
        go_wp2
        go_ret
        exact ⟨_, _, rfl, O5.out, by rw [List.length_take]; omega, D2.out⟩
      have h0b : (c == 0) = false := beq_eq_false_iff_ne.2 h0
      have h1b : (c == 1) = false := beq_eq_false_iff_ne.2 h1
      by_cases h2 : c = 2
      · subst h2
        clear h0b h1b h0 h1 hcx
        go_wp2
        go_loopg [5] (14 - xs.length) (fun gk v wr => ∃ ys : List Int, gk = 14 - ys.length ∧ ys.length ≤ 13 ∧ Hid (Own eI wr w.heap.size 2 v ys) ∧ Hid (Dr w p wr))
        case atStart => exact ⟨xs, rfl, by omega, O2, D2⟩
        case round =>
          obtain ⟨ys, rfl, l1, HO, HD⟩ := hrel
          clear O2 D2
          obtain ⟨_, cap2, rfl, _, _, _⟩ := Sl.shape (Sl.of_own HO.out (by unfold big40; omega))
          have HL1 : (ys.length : Int) ≤ 13 := by omega
          go_wp2_with fail
          refine (next_dr 2 HD.out (by omega)).mono ?_
          rintro e w3 ⟨b, rfl, b1, b2, hd, hg⟩
          have D3 := Lib.hid hd
          have O3 := Lib.hid (HO.out.dr hg hpw)
          have hsz3 := D3.out.size
          clear hd hg HD HO
          by_cases hb : (ys.length : Int) < 12 + b
          · have hl12 : ys.length ≤ 12 := by omega
            have hxl : ys.length ≤ 1000000000 := by omega
            go_wp2_with (at_builtin; refine wpList_app eI rfl _ _ 22 (by rfl) 2 (.int .i64 0) 8 Try.underlying22 info_i64 rfl (by decide) (by decide) w.heap.size _ ys (by rfl) (by exact O3.out) (by exact hxl) (by exact hsz3) _ _ (by rfl) _ (by rfl) (by rfl) ?_)
            intro v5 w5 hO5 hB5 hG5 _ hs5
            have O5 := Lib.hid hO5
            have D5 := Lib.hid (D3.out.below hB5)
            clear hO5 hB5 hG5 hs5 D3 O3
            go_wp2
            go_roundg (14 - (ys.length + 1))
            case measure => omega
            case rel => exact ⟨_, by rw [List.length_append, List.length_singleton], by rw [List.length_append, List.length_singleton]; omega, O5, D5⟩
          · go_wp2
            go_ret
            exact ⟨_, _, rfl, O3.out, by omega, D3.out⟩
      have h2b : (c == 2) = false := beq_eq_false_iff_ne.2 h2
      go_wp2
      go_ret
      exact ⟨_, _, rfl, O2.out, by omega, D2.out⟩
set_option maxHeartbeats 4000000 in
set_option maxRecDepth 20000 in
theorem DrawIsEven_any (A : Option Addr) (n cap : Nat) (w : World) (hn : n ≤ 4096) (hc : n ≤ cap) (hb : Bytes w A n w.heap.size) :
    Calls Try.prog 52 #[.slice A n cap] w fun e w' => ∃ v xs t pc, e = .returned (.tuple #[v, .int .i64 t, .int .i64 pc]) ∧ Own eI w' w.heap.size 2 v xs ∧ xs.length ≤ 1000 ∧ (0 ≤ t ∧ t ≤ 2001) ∧ (0 ≤ pc ∧ pc ≤ 101) ∧ Below w.heap.size w w' := by
  go_enter Try.func52, Try.ntmps52
  go_wp2_with fail
  refine (l01From_any A n cap w hn hc hb).mono ?_
  rintro e w1 ⟨p, rfl, hp, hs1, hb1⟩
  have D1 := Lib.hid (Dr.refl hs1)
  have B1 := Lib.hid hb1
  have hz1 := hb1.size
  clear hs1 hb1 hb
  go_wp2_with fail
  refine (next_dr 100 D1.out (by omega)).mono ?_
  rintro e w2 ⟨a, rfl, a1, a2, hd, _⟩
  have D2 := Lib.hid hd
  clear hd D1
  have wa : IntKind.i64.wrap (50 + a) = 50 + a := IntWalk.i64_in _ (by omega)
  go_wp2_with fail
  refine (pick_dr [50 + a, 100, 2000, 2001, 0] _ _ rfl rfl (by simp) (by simp) D2.out).mono ?_
  rintro e w3 ⟨t, rfl, ht, hd, _⟩
  have D3 := Lib.hid hd
  have tb : 0 ≤ t ∧ t ≤ 2001 := by simp at ht; omega
  obtain ⟨t0, t1⟩ := tb
  clear hd ht D2 a1 a2 wa
  go_wp2_with fail
  refine (l26Draw_any p t w3 D3.out.1 t0 t1).mono ?_
  rintro e w4 ⟨v, xs, rfl, ho, hl, hd⟩
  have D4 := Lib.hid (D3.out.trans hd)
  have O4 := Lib.hid ho
  have hz3 := D3.out.size
  have hp3 : p < w3.heap.size := D3.out.1.lt
  clear ho hd D3
  go_wp2_with fail
  refine (next_dr 20 D4.out (by omega)).mono ?_
  rintro e w5 ⟨b, rfl, b1, b2, hd, hg⟩
  have D5 := Lib.hid hd
  have O5 := Lib.hid (O4.out.dr hg hp3)
  clear hd hg D4 O4
  go_wp2_with fail
  refine (pick_dr [b, 5, 10, 0, 100, 101] _ _ rfl rfl (by simp) (by simp) D5.out).mono ?_
  rintro e w6 ⟨pc, rfl, hpc, hd, hg⟩
  have D6 := Lib.hid hd
  have O6 := Lib.hid (O5.out.dr hg hp3)
  have pb : 0 ≤ pc ∧ pc ≤ 101 := by simp at hpc; omega
  obtain ⟨pc0, pc1⟩ := pb
  clear hd hg hpc D5 O5
  go_wp2
  go_ret3
  exact ⟨v, xs, t, pc, rfl, O6.out.mono (Nat.le_trans hz1 hz3), hl, ⟨t0, t1⟩, ⟨pc0, pc1⟩, D6.out.to_below B1.out hp⟩
end Go.Proofs.Ytijmafppdbllfaa
