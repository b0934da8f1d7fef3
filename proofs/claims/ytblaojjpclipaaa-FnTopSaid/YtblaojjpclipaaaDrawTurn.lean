/- What the reference's draws of tensions, of a stiffness and of a turn hand out (chapter 7). No statement of the seat is proved here. -/
import Derived.Test.YtblaojjpclipaaaM1
import Derived.Test.YtblaojjpclipaaaAppAll
import Derived.Test.YtblaojjpclipaaaReg
namespace Go.Proofs.Ytblaojjpclipaaa
open Go.RowKit

theorem quo11 {z : Int} (h0 : 0 ≤ z) (h1 : z < 12 ∨ z = 0) : ∃ q : Int, z.tdiv 11 = q ∧ 0 ≤ q ∧ q ≤ 1 := by
  refine ⟨z.tdiv 11, rfl, ?_⟩
  rw [Int.tdiv_eq_ediv_of_nonneg h0]
  omega
/-- a row of one number, just made -/
theorem Own.lit1 {base : Nat} (w : World) (x : Int) (h : base ≤ w.heap.size) : Own eI (w.alloc (.cells #[.int .i64 x] 2)) base 2 (.slice (some ⟨w.heap.size, 0, none⟩) 1 1) [x] := World.ownsRow_lit w #[.int .i64 x] 1 h (by unfold maxLen; omega) rfl
/-- a store into a row of numbers of the call's own -/
theorem Own.putI {w : World} {p base : Nat} {w0 : World} {g n cap : Nat} {xs : List Int} (h : Own eI w base 2 (.slice (some ⟨g, 0, none⟩) n cap) xs) (k : Nat) (x : Int) (hd : Dr w0 p w) (hb : w0.heap.size ≤ base) (hg : base ≤ g) :
    Own eI (w.setCell ⟨g, k, none⟩ (.int .i64 x)) base 2 (.slice (some ⟨g, 0, none⟩) n cap) (xs.set k x) ∧ Dr w0 p (w.setCell ⟨g, k, none⟩ (.int .i64 x)) :=
  ⟨(h.setI k x).1, hd.store (by omega) _⟩
set_option maxHeartbeats 16000000 in
set_option maxRecDepth 20000 in
theorem l07Draw_any (p : Nat) (w : World) (hs : Src w p) :
    Calls Try.prog 21 #[.pointer (some ⟨p, 0, none⟩)] w fun e w' => ∃ v xs, e = .returned v ∧ Own eI w' w.heap.size 2 v xs ∧ xs.length ≤ 1000 ∧ Dr w p w' := by
  have hpw := hs.lt
  have D0 : Hid (Dr w p (w.alloc (.cells #[] 2))) := Lib.hid ((Dr.refl hs).alloc _)
  have O0 : Hid (Own eI (w.alloc (.cells #[] 2)) w.heap.size 2 (.slice (some ⟨w.heap.size, 0, none⟩) 0 0) []) := Lib.hid (Own.empty eI w _ _ (Nat.le_refl _))
  clear hs
  go_enter Try.func21, Try.ntmps21
  go_wp2_with fail
  refine (next_dr 500 D0.out (by omega)).mono ?_
  rintro e w1 ⟨d0, rfl, d1, d2, hd, hg⟩
  have D1 := Lib.hid hd
  have O1 := Lib.hid (O0.out.dr hg hpw)
  have hw0 : IntKind.i64.wrap (600 + d0) = 600 + d0 := IntWalk.i64_in _ (by omega)
  clear hd hg D0 O0
  go_wp2_with fail
  refine (next_dr 12 D1.out (by omega)).mono ?_
  rintro e w2 ⟨n0, rfl, n1, n2, hd, hg⟩
  have D2 := Lib.hid hd
  have O2 := Lib.hid (O1.out.dr hg hpw)
  obtain ⟨M, rfl⟩ := Int.eq_ofNat_of_zero_le n1
  have hM : M ≤ 11 := by omega
  have hw4 : IntKind.i64.wrap (4 + (M : Int)) = ((4 + M : Nat) : Int) := by rw [show 4 + (M : Int) = ((4 + M : Nat) : Int) by omega]; exact IntWalk.i64_in _ (by omega)
  obtain ⟨bs, hbs⟩ : ∃ b, b = 600 + d0 := ⟨_, rfl⟩
  rw [← hbs] at hw0
  have hb0 : 600 ≤ bs := by omega
  have hb1 : bs ≤ 1099 := by omega
  have HBS := Lib.hid hbs
  clear hd hg D1 O1 n1 n2 hbs
  rw [← HBS.out]
  go_wp2
  go_loopg [3, 5] (4 + M) (fun gk v n wr => ∃ (xs : List Int), n = .int .i64 (gk : Nat) ∧ xs.length + gk = 4 + M ∧ Hid (Own eI wr w.heap.size 2 v xs) ∧ Hid (Dr w p wr))
  case atStart => exact ⟨[], rfl, by simp, O2, D2⟩
  case round =>
    rename Nat => k
    obtain ⟨xs, rfl, l1, HO, HD⟩ := hrel
    clear O2 D2
    by_cases hk : 0 < k
    · obtain ⟨k, rfl⟩ : ∃ j, k = j + 1 := ⟨k - 1, by omega⟩
      have hkI : (0 : Int) < ((k + 1 : Nat) : Int) := by omega
      have hkw : IntKind.i64.wrap (((k + 1 : Nat) : Int) - 1) = (k : Int) := by rw [show ((k + 1 : Nat) : Int) - 1 = (k : Int) by omega]; exact IntWalk.i64_in _ (by omega)
      have hxl : xs.length ≤ 1000000 := by omega
      go_wp2_with fail
      refine (next_dr 200 HD.out (by omega)).mono ?_
      rintro e w3 ⟨x, rfl, x0, x1, hd, hg⟩
      have D3 := Lib.hid hd
      have O3 := Lib.hid (HO.out.dr hg hpw)
      have hsz := hd.size
      have hxa : IntKind.i64.wrap (bs + x) = bs + x := IntWalk.i64_in _ (by omega)
      have hxb : IntKind.i64.wrap (bs + x - 100) = bs + x - 100 := IntWalk.i64_in _ (by omega)
      have hxl9 : xs.length ≤ 1000000000 := by omega
      clear hd hg HD HO
      go_wp2_with (at_builtin; refine wpList_app eI rfl _ _ 24 (by rfl) 2 (.int .i64 0) 8 Try.underlying24 info_i64 rfl (by decide) (by decide) w.heap.size _ xs (by rfl) (by exact O3.out) (by exact hxl9) (by exact hsz) (bs + x - 100) _ (by rfl) _ (by rfl) (by first | rfl | simp) ?_)
      intro v6 w6 hO6 hB6 _ _ _
      have O6 := Lib.hid hO6
      have D6 := Lib.hid (D3.out.below hB6)
      clear hO6 hB6 D3 O3
      go_wp2
      go_roundg k
      case measure => omega
      case rel => exact ⟨_, by go_num, by rw [List.length_append, List.length_singleton]; omega, O6, D6⟩
    obtain rfl : k = 0 := by omega
    clear hk
    obtain ⟨g, cap, rfl, hgb, _⟩ := World.ownsRow.form HO.out (by omega)
    have hc3 : 4 ≤ cap := by
      obtain ⟨A', c', e, hc, _, _⟩ := Sl.shape (Sl.of_own HO.out (by unfold big40; omega))
      cases e
      omega
    have hc3i : (3 : Int) ≤ (cap : Int) := by omega
    have hl3 : 4 ≤ xs.length := by omega
    have hl3i : (0 : Int) < (xs.length : Int) := by omega
    have hl3j : (3 : Int) ≤ (xs.length : Int) := by omega
    go_wp2_with fail
    refine (next_dr 30 HD.out (by omega)).mono ?_
    rintro e w4 ⟨c, rfl, c1, c2, hd, hg⟩
    have D4 := Lib.hid hd
    have O4 := Lib.hid (HO.out.dr hg hpw)
    clear hd hg HD HO
    by_cases h0 : c = 0
    · subst h0
      go_wp2_with fail
      refine (pick_dr [-1, 0, 3000, 3001] _ _ rfl rfl (by simp) (by simp) D4.out).mono ?_
      rintro e w5 ⟨a, rfl, ha, hd, hg⟩
      have O5 := O4.out.dr hg hpw
      obtain ⟨k1, k2⟩ := O5.cellI 0 (by omega)
      obtain ⟨q1, q2⟩ := O5.putI 0 a hd (Nat.le_refl _) hgb
      have Q1 := Lib.hid q1
      have Q2 := Lib.hid q2
      clear hd hg ha D4 O4 O5 q1 q2
      go_wp2
      go_ret
      exact ⟨_, _, rfl, Q1.out, by rw [List.length_set]; omega, Q2.out⟩
    have h0b : (c == 0) = false := beq_eq_false_iff_ne.2 h0
    by_cases h1 : c = 1
    · subst h1
      have OT := Lib.hid (O4.out.take 3 (by omega))
      clear h0b h0 O4
      go_wp2
      go_ret
      exact ⟨_, _, rfl, OT.out, by rw [List.length_take]; omega, D4.out⟩
    have h1b : (c == 1) = false := beq_eq_false_iff_ne.2 h1
    by_cases h2 : c = 2
    · subst h2
      clear h0b h0 h1b h1
      go_wp2
      go_loopg [3] (50 - xs.length) (fun gk v wr => ∃ ys : List Int, gk = 50 - ys.length ∧ ys.length ≤ 49 ∧ Hid (Own eI wr w.heap.size 2 v ys) ∧ Hid (Dr w p wr))
      case atStart => exact ⟨xs, rfl, by omega, O4, D4⟩
      case round =>
        obtain ⟨ys, rfl, l2, HO, HD⟩ := hrel
        clear O4 D4
        obtain ⟨_, cap2, rfl, _, _, _⟩ := Sl.shape (Sl.of_own HO.out (by unfold big40; omega))
        have HL1 : (ys.length : Int) ≤ 49 := by omega
        go_wp2_with fail
        refine (next_dr 2 HD.out (by omega)).mono ?_
        rintro e w5 ⟨b, rfl, b1, b2, hd, hg⟩
        have D5 := Lib.hid hd
        have O5 := Lib.hid (HO.out.dr hg hpw)
        have hsz5 := hd.size
        clear hd hg HD HO
        by_cases hb : (ys.length : Int) < 48 + b
        · have hl12 : ys.length ≤ 48 := by omega
          have hxl : ys.length ≤ 1000000000 := by omega
          go_wp2_with (at_builtin; refine wpList_app eI rfl _ _ 24 (by rfl) 2 (.int .i64 0) 8 Try.underlying24 info_i64 rfl (by decide) (by decide) w.heap.size _ ys (by rfl) (by exact O5.out) (by exact hxl) (by exact hsz5) bs _ (by rfl) _ (by rfl) (by first | rfl | simp) ?_)
          intro v6 w6 hO6 hB6 _ _ _
          have O6 := Lib.hid hO6
          have D6 := Lib.hid (D5.out.below hB6)
          clear hO6 hB6 D5 O5
          go_wp2
          go_roundg (50 - (ys.length + 1))
          case measure => omega
          case rel => exact ⟨_, by rw [List.length_append, List.length_singleton], by rw [List.length_append, List.length_singleton]; omega, O6, D6⟩
        · go_wp2
          go_ret
          exact ⟨_, _, rfl, O5.out, by omega, D5.out⟩
    have h2b : (c == 2) = false := beq_eq_false_iff_ne.2 h2
    go_wp2
    go_ret
    exact ⟨_, _, rfl, O4.out, by omega, D4.out⟩
set_option maxHeartbeats 16000000 in
set_option maxRecDepth 20000 in
theorem l07Stiff_any (p : Nat) (w : World) (hs : Src w p) :
    Calls Try.prog 22 #[.pointer (some ⟨p, 0, none⟩)] w fun e w' => ∃ v xs, e = .returned v ∧ Own eI w' w.heap.size 2 v xs ∧ xs.length ≤ 1000 ∧ Dr w p w' := by
  have hpw := hs.lt
  have D0 : Hid (Dr w p w) := Lib.hid (Dr.refl hs)
  clear hs
  go_enter Try.func22, Try.ntmps22
  go_wp2_with fail
  refine (next_dr 60 D0.out (by omega)).mono ?_
  rintro e w1 ⟨d0, rfl, d1, d2, hd, hg⟩
  have hw0 : IntKind.i64.wrap (20 + d0) = 20 + d0 := IntWalk.i64_in _ (by omega)
  have hz := hd.size
  have D1 : Hid (Dr w p (w1.alloc (.cells #[.int .i64 (20 + d0)] 2))) := Lib.hid (hd.alloc _)
  have O1 : Hid (Own eI (w1.alloc (.cells #[.int .i64 (20 + d0)] 2)) w.heap.size 2 (.slice (some ⟨w1.heap.size, 0, none⟩) 1 1) [20 + d0]) := Lib.hid (Own.lit1 w1 _ (by omega))
  clear hd hg D0
  go_wp2_with fail
  generalize w1.alloc (.cells #[.int .i64 (20 + d0)] 2) = wA at *
  refine (next_dr 4 D1.out (by omega)).mono ?_
  rintro e w2 ⟨n0, rfl, n1, n2, hd, hg⟩
  have D2 := Lib.hid hd
  have O2 := Lib.hid (O1.out.dr hg hpw)
  obtain ⟨M, rfl⟩ := Int.eq_ofNat_of_zero_le n1
  have hM : M ≤ 3 := by omega
  clear hd hg D1 O1 n1 n2
  go_wp2
  go_loopg [3, 4] M (fun gk v n wr => ∃ (xs : List Int), n = .int .i64 (gk : Nat) ∧ xs.length + gk = 1 + M ∧ Hid (Own eI wr w.heap.size 2 v xs) ∧ Hid (Dr w p wr))
  case atStart => exact ⟨[20 + d0], rfl, by simp, O2, D2⟩
  case round =>
    rename Nat => k
    obtain ⟨xs, rfl, l1, HO, HD⟩ := hrel
    clear O2 D2
    by_cases hk : 0 < k
    · obtain ⟨k, rfl⟩ : ∃ j, k = j + 1 := ⟨k - 1, by omega⟩
      have hkI : (0 : Int) < ((k + 1 : Nat) : Int) := by omega
      have hkw : IntKind.i64.wrap (((k + 1 : Nat) : Int) - 1) = (k : Int) := by rw [show ((k + 1 : Nat) : Int) - 1 = (k : Int) by omega]; exact IntWalk.i64_in _ (by omega)
      go_wp2_with fail
      refine (next_dr 13 HD.out (by omega)).mono ?_
      rintro e w3 ⟨x, rfl, x0, x1, hd, hg⟩
      have D3 := Lib.hid hd
      have O3 := Lib.hid (HO.out.dr hg hpw)
      have hsz := hd.size
      have hxa : IntKind.i64.wrap (x - 8) = x - 8 := IntWalk.i64_in _ (by omega)
      have hxl9 : xs.length ≤ 1000000000 := by omega
      clear hd hg HD HO
      go_wp2_with (at_builtin; refine wpList_app eI rfl _ _ 24 (by rfl) 2 (.int .i64 0) 8 Try.underlying24 info_i64 rfl (by decide) (by decide) w.heap.size _ xs (by rfl) (by exact O3.out) (by exact hxl9) (by exact hsz) (x - 8) _ (by rfl) _ (by rfl) (by first | rfl | simp) ?_)
      intro v6 w6 hO6 hB6 _ _ _
      have O6 := Lib.hid hO6
      have D6 := Lib.hid (D3.out.below hB6)
      clear hO6 hB6 D3 O3
      go_wp2
      go_roundg k
      case measure => omega
      case rel => exact ⟨_, by go_num, by rw [List.length_append, List.length_singleton]; omega, O6, D6⟩
    obtain rfl : k = 0 := by omega
    clear hk
    obtain ⟨g, cap, rfl, hgb, _⟩ := World.ownsRow.form HO.out (by omega)
    have hl3i : (0 : Int) < (xs.length : Int) := by omega
    go_wp2_with fail
    refine (next_dr 30 HD.out (by omega)).mono ?_
    rintro e w4 ⟨c, rfl, c1, c2, hd, hg⟩
    have D4 := Lib.hid hd
    have O4 := Lib.hid (HO.out.dr hg hpw)
    have hsz4 := hd.size
    clear hd hg HD HO
    by_cases h0 : c = 0
    · subst h0
      go_wp2_with fail
      refine (pick_dr [0, 1, 200, 201] _ _ rfl rfl (by simp) (by simp) D4.out).mono ?_
      rintro e w5 ⟨a, rfl, ha, hd, hg⟩
      have O5 := O4.out.dr hg hpw
      obtain ⟨k1, k2⟩ := O5.cellI 0 (by omega)
      obtain ⟨q1, q2⟩ := O5.putI 0 a hd (Nat.le_refl _) hgb
      have Q1 := Lib.hid q1
      have Q2 := Lib.hid q2
      clear hd hg ha D4 O4 O5 q1 q2
      go_wp2
      go_ret
      exact ⟨_, _, rfl, Q1.out, by rw [List.length_set]; omega, Q2.out⟩
    have h0b : (c == 0) = false := beq_eq_false_iff_ne.2 h0
    by_cases h1 : c = 1
    · subst h1
      have hxl9 : xs.length ≤ 1000000000 := by omega
      clear h0b h0
      go_wp2_with (at_builtin; refine wpList_app eI rfl _ _ 24 (by rfl) 2 (.int .i64 0) 8 Try.underlying24 info_i64 rfl (by decide) (by decide) w.heap.size _ xs (by rfl) (by exact O4.out) (by exact hxl9) (by exact hsz4) (-100) _ (by rfl) _ (by rfl) (by first | rfl | simp) ?_)
      intro v6 w6 hO6 hB6 _ _ _
      have O6 := Lib.hid hO6
      have D6 := Lib.hid (D4.out.below hB6)
      clear hO6 hB6 D4 O4
      go_wp2
      go_ret
      exact ⟨_, _, rfl, O6.out, by rw [List.length_append, List.length_singleton]; omega, D6.out⟩
    have h1b : (c == 1) = false := beq_eq_false_iff_ne.2 h1
    go_wp2
    go_ret
    exact ⟨_, _, rfl, O4.out, by omega, D4.out⟩
set_option maxHeartbeats 8000000 in
set_option maxRecDepth 20000 in
theorem DrawTurnNipple_any (A : Option Addr) (n cap : Nat) (w : World) (hn : n ≤ 4096) (hc : n ≤ cap) (hb : Bytes w A n w.heap.size) :
    Calls Try.prog 5 #[.slice A n cap] w fun e w' => ∃ (v : Value) (L : List Int) (u : Value) (S : List Int) (sp q : Int), e = .returned (.tuple #[v, u, .int .i64 sp, .int .i64 q]) ∧ Own eI w' w.heap.size 2 v L ∧ L.length ≤ 1000 ∧ Own eI w' w.heap.size 2 u S ∧ S.length ≤ 1000 ∧ (0 ≤ sp ∧ sp ≤ 2000) ∧ (-101 ≤ q ∧ q ≤ 101) ∧ Below w.heap.size w w' := by
  go_enter Try.func5, Try.ntmps5
  go_wp2_with fail
  refine (l01From_any A n cap w hn hc hb).mono ?_
  rintro e w1 ⟨p, rfl, hp, hs1, hb1⟩
  have D1 := Lib.hid (Dr.refl hs1)
  have B1 := Lib.hid hb1
  have hz1 := hb1.size
  have hp1 : p < w1.heap.size := hs1.lt
  clear hs1 hb1 hb
  go_wp2_with fail
  refine (l07Draw_any p w1 D1.out.1).mono ?_
  rintro e w2 ⟨v, L, rfl, ho, hl, hd⟩
  have D2 := Lib.hid (D1.out.trans hd)
  have O2 := Lib.hid ho
  have S2 : Hid (Src w2 p) := Lib.hid hd.1
  have hz2 := hd.size
  clear ho hd D1
  go_wp2_with fail
  refine (l07Stiff_any p w2 S2.out).mono ?_
  rintro e w3 ⟨u, S, rfl, ho, hl2, hd⟩
  have D3 := Lib.hid (D2.out.trans hd)
  have O3 := Lib.hid (ho.mono hz2)
  have O2b := Lib.hid (O2.out.dr hd.2.1 hp1)
  obtain ⟨Ax, capx, rfl, _, _, _⟩ := Sl.shape (Sl.of_own O2b.out (by unfold big40; omega))
  clear ho hd D2 S2 O2
  go_wp2_with fail
  refine (next_dr 12 D3.out (by omega)).mono ?_
  rintro e w4 ⟨z, rfl, z0, z1, hd, hg⟩
  have D4 := Lib.hid hd
  have O4 := Lib.hid (O2b.out.dr hg hp1)
  have P4 := Lib.hid (O3.out.dr hg hp1)
  obtain ⟨q, hq, q0, q1⟩ := quo11 z0 z1
  have hw1 : IntKind.i64.wrap q = q := IntWalk.i64_in _ (by omega)
  have hw2 : IntKind.i64.wrap ((L.length : Int) + q) = (L.length : Int) + q := IntWalk.i64_in _ (by omega)
  clear hd hg D3 O3 O2b z0 z1
  go_wp2_with fail
  refine (next_dr ((L.length : Int) + q) D4.out (by omega)).mono ?_
  rintro e w5 ⟨sp, rfl, sp0, sp1, hd, hg⟩
  have D5 := Lib.hid hd
  have O5 := Lib.hid (O4.out.dr hg hp1)
  have P5 := Lib.hid (P4.out.dr hg hp1)
  have sp2 : sp ≤ 2000 := by omega
  clear hd hg D4 O4 P4 sp1 hw1 hw2 hq q0 q1
  go_wp2_with fail
  refine (next_dr 9 D5.out (by omega)).mono ?_
  rintro e w6 ⟨a, rfl, a0, a1, hd, hg⟩
  have D6 := Lib.hid hd
  have O6 := Lib.hid (O5.out.dr hg hp1)
  have P6 := Lib.hid (P5.out.dr hg hp1)
  have hwa : IntKind.i64.wrap (a - 4) = a - 4 := IntWalk.i64_in _ (by omega)
  clear hd hg D5 O5 P5
  go_wp2_with fail
  refine (next_dr 41 D6.out (by omega)).mono ?_
  rintro e w7 ⟨b, rfl, b0, b1, hd, hg⟩
  have D7 := Lib.hid hd
  have O7 := Lib.hid (O6.out.dr hg hp1)
  have P7 := Lib.hid (P6.out.dr hg hp1)
  have hwb : IntKind.i64.wrap (b - 20) = b - 20 := IntWalk.i64_in _ (by omega)
  clear hd hg D6 O6 P6
  go_wp2_with fail
  refine (pick_dr [a - 4, 1, -1, b - 20, 100, 101, -101] _ _ rfl rfl (by simp) (by simp) D7.out).mono ?_
  rintro e w8 ⟨q, rfl, hqm, hd, hg⟩
  have O8 := Lib.hid ((O7.out.dr hg hp1).mono hz1)
  have P8 := Lib.hid ((P7.out.dr hg hp1).mono hz1)
  have HB := Lib.hid (hd.to_below B1.out hp)
  have hqb : -101 ≤ q ∧ q ≤ 101 := by simp at hqm; omega
  clear hd hg hqm D7 O7 P7
  go_wp2
  refine bodyPost_ret (v := .tuple #[.slice Ax L.length capx, u, .int .i64 sp, .int .i64 q]) (by simp [results, Try.results5, go_sem]) rfl ⟨_, L, u, S, sp, q, rfl, O8.out, hl, P8.out, hl2, ⟨sp0, sp2⟩, hqb, HB.out⟩
end Go.Proofs.Ytblaojjpclipaaa
