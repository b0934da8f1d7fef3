/- The walk of the statement on shares (P27). No statement of the seat is proved here. -/
import Derived.Test.YtnpfgngfolgdfaaLaws
import Derived.Test.YtnpfgngfolgdfaaSplit
namespace Go.Proofs.Ytnpfgngfolgdfaa
open Go.RowKit

/-! ### the plain law -/
theorem shareOf_le (s p : Int) (k : Nat) : shareOf s p (k + 1) ≤ shareOf s p k := by unfold shareOf; split <;> split <;> omega
theorem sumTo_split (s p : Int) (n : Nat) : ∀ k, k ≤ n → sumTo (splitL s p n) k = (s / p) * k + (if (k : Int) ≤ s % p then (k : Int) else s % p) ∨ s % p < 0
  | 0, _ => by
    by_cases h : s % p < 0
    · exact .inr h
    · left; rw [sumTo, if_pos (by omega)]; simp
  | k + 1, hk => by
    rcases sumTo_split s p n k (by omega) with ih | ih
    · left
      rw [sumTo, ih]
      have e : (splitL s p n).getD k 0 = shareOf s p k := by simp [splitL, show k < n by omega]
      have e2 : s / p * ((k + 1 : Nat) : Int) = s / p * k + s / p := by rw [Int.natCast_succ, Int.mul_add, Int.mul_one]
      rw [e, e2]
      unfold shareOf
      generalize s / p * (k : Int) = A at *
      generalize s / p = B at *
      generalize s % p = C at *
      split <;> split <;> (try split) <;> omega
    · exact .inr ih
theorem sum_split {s : Int} {n : Nat} (h0 : 0 ≤ s) (hn : 1 ≤ n) : sumTo (splitL s n n) n = s := by
  have h1 := Int.emod_nonneg s (show (n : Int) ≠ 0 by omega)
  have h2 := Int.emod_lt_of_pos s (show (0 : Int) < n by omega)
  rcases sumTo_split s n n n (Nat.le_refl _) with h | h
  · rw [h, if_neg (by omega)]
    have := Int.mul_ediv_add_emod s n
    rw [Int.mul_comm]; omega
  · omega
theorem split_at {s : Int} {n k : Nat} (hk : k < n) : (splitL s n n).getD k 0 = shareOf s n k := by simp [splitL, hk]
set_option maxHeartbeats 2000000 in
set_option maxRecDepth 10000 in
theorem DrawSplitTotal_any (A : Option Addr) (n cap : Nat) (w : World) (hn : n ≤ 4096) (hc : n ≤ cap) (hb : Bytes w A n w.heap.size) :
    Calls Try.prog 54 #[.slice A n cap] w fun e w' => ∃ x y, e = .returned (.tuple #[.int .i64 x, .int .i64 y]) ∧ (-1000000000000 ≤ x ∧ x ≤ 1000000000000) ∧ (-1000000000000 ≤ y ∧ y ≤ 1000000000000) ∧ Below w.heap.size w w' := by
  go_enter Try.func54, Try.ntmps54
  go_wp2_with fail
  refine (l01From_any A n cap w hn hc hb).mono ?_
  rintro e w1 ⟨p, rfl, hp, hs1, hb1⟩
  go_wp2_with fail
  refine (l01Next_any p 100000 w1 hs1 (by omega)).mono ?_
  rintro e w2 ⟨x0, rfl, x00, x01, hs2, hg2⟩
  have hb2 := hb1.grown hg2 hb1.size (fun k hk => by cases hk; exact hp)
  have x02 : x0 ≤ 100000 := by omega
  have HL := Lib.hid (Ints.lit w2 [x0, 100, 0, 1000000000, 1000000001, -1] #[.int .i64 x0, .int .i64 100, .int .i64 0, .int .i64 1000000000, .int .i64 1000000001, .int .i64 (-1)] 2 rfl (by simp))
  have hb2a := hb2.alloc hb2.size (.cells #[.int .i64 x0, .int .i64 100, .int .i64 0, .int .i64 1000000000, .int .i64 1000000001, .int .i64 (-1)] 2)
  have hs2a := hs2.alloc (.cells #[.int .i64 x0, .int .i64 100, .int .i64 0, .int .i64 1000000000, .int .i64 1000000001, .int .i64 (-1)] 2)
  have hlt2 := hs2.lt
  clear hb1 hs1 hg2
  go_wp2_with fail
  refine (l01Pick_any p _ [x0, 100, 0, 1000000000, 1000000001, -1] _ hs2a HL.out (by simp) (fun b off n cap e => by cases e; omega)).mono ?_
  rintro e w3 ⟨x, rfl, hx, hs3, hg3⟩
  have hb3 := hb2a.grown hg3 hb2a.size (fun k hk => by cases hk; exact hp)
  have hxb : -1000000000000 ≤ x ∧ x ≤ 1000000000000 := by simp at hx; omega
  have HX := Lib.hid hxb
  clear hx hxb hb2 hb2a hs2 hs2a hg3
  go_wp2_with fail
  refine (l01Next_any p 6 w3 hs3 (by omega)).mono ?_
  rintro e w4 ⟨y0, rfl, y00, y01, hs4, hg4⟩
  have hb4 := hb3.grown hg4 hb3.size (fun k hk => by cases hk; exact hp)
  have y02 : y0 ≤ 6 := by omega
  have hw : IntKind.i64.wrap (1 + y0) = 1 + y0 := IntWalk.i64_in _ (by omega)
  have HL2 := Lib.hid (Ints.lit w4 [1 + y0, 3, 20, 21, 0] #[.int .i64 (1 + y0), .int .i64 3, .int .i64 20, .int .i64 21, .int .i64 0] 2 rfl (by simp))
  have hb4a := hb4.alloc hb4.size (.cells #[.int .i64 (1 + y0), .int .i64 3, .int .i64 20, .int .i64 21, .int .i64 0] 2)
  have hs4a := hs4.alloc (.cells #[.int .i64 (1 + y0), .int .i64 3, .int .i64 20, .int .i64 21, .int .i64 0] 2)
  have hlt4 := hs4.lt
  clear hb3 hs3 hg4
  go_wp2_with fail
  refine (l01Pick_any p _ [1 + y0, 3, 20, 21, 0] _ hs4a HL2.out (by simp) (fun b off n cap e => by cases e; omega)).mono ?_
  rintro e w5 ⟨y, rfl, hy, hs5, hg5⟩
  have hb5 := hb4a.grown hg5 hb4a.size (fun k hk => by cases hk; exact hp)
  have hyb : -1000000000000 ≤ y ∧ y ≤ 1000000000000 := by simp at hy; omega
  have HY := Lib.hid hyb
  clear hy hyb
  go_wp2
  go_ret2
  exact ⟨x, y, rfl, HX.out, HY.out, hb5⟩
set_option maxHeartbeats 8000000 in
set_option maxRecDepth 20000 in
theorem walk_FnShared (a0 : Option Addr) (len0 cap0 : Nat) (z0 : List Int) (w : World) (p0 : IsRow .u8 w a0 len0 cap0 z0) :
    Calls Try.prog 14 #[.slice a0 len0 cap0] w fun e w' => e = .returned (.bool true) ∧ Below w.heap.size w w' := by
  obtain ⟨hcap, hby⟩ := p0.bytes
  have hmax := p0.max
  by_cases hbig : 4096 < len0
  · have HD : Hid (decide (4096 < len0) = true) := Lib.hid (decide_eq_true hbig)
    go_enter Try.func14, Try.ntmps14
    go_wp2_with fail
    refine (big_any a0 len0 cap0 w hmax).mono ?_
    rintro e w1 ⟨rfl, rfl⟩
    rw [HD.out]
    go_wp2
    go_ret
    exact ⟨rfl, Below.refl _ _⟩
  have HD : Hid (decide (4096 < len0) = false) := Lib.hid (decide_eq_false hbig)
  go_enter Try.func14, Try.ntmps14
  go_wp2_with fail
  refine (big_any a0 len0 cap0 w hmax).mono ?_
  rintro e w1 ⟨rfl, rfl⟩
  rw [HD.out]
  go_wp2_with fail
  refine (DrawSplitTotal_any a0 len0 cap0 w (by omega) hcap hby).mono ?_
  rintro e w2 ⟨s, p, rfl, ⟨s1, s2⟩, ⟨p1, p2⟩, hb2⟩
  have ws : (Lit.int .i64 s).wf = true := by simp [Lit.wf, IntKind.min, IntKind.max, IntKind.signed, IntKind.bits]; omega
  have wp : (Lit.int .i64 p).wf = true := by simp [Lit.wf, IntKind.min, IntKind.max, IntKind.signed, IntKind.bits]; omega
  have hs2 := hb2.size
  clear hby p0
  go_wp2_with fail
  refine (iSplitTotal_law s p w2 ws wp).mono ?_
  rintro e w3 ⟨v, rfl, hv, hb3⟩
  have hs3 := hb3.size
  have hb3w := below_step2 hb2 hb3 hs2
  go_wp2_with fail
  refine (sSplitTotal_law s p w3 ws wp).mono ?_
  rintro e w4 ⟨u, rfl, hu, hb4⟩
  have hb4w := below_step2 hb3w hb4 hb3w.size
  have hvS := Lib.hid (Sl.of_own (hv.below hb4) (big_of (SplitTotal_len s p)))
  have huS := Lib.hid (Sl.of_own hu (big_of (SplitTotal_len s p)))
  clear hv hu hb2 hb3 hb4 hb3w
  go_wp2_with fail
  refine (likeInts_same v u _ w4 hvS.out huS.out).mono ?_
  rintro e w5 ⟨rfl, m, rfl⟩
  rcases hok : splitB s p
  · have hr : SplitTotal_r s p = ([], 2) := by unfold SplitTotal_r; rw [hok]; rfl
    rw [hr]
    go_wp2
    go_ret
    exact ⟨rfl, below_drewN' hb4w _⟩
  have hr : SplitTotal_r s p = (splitL s p p.toNat, 0) := by unfold SplitTotal_r; rw [hok]; rfl
  unfold splitB at hok
  rw [Bool.and_eq_true] at hok
  obtain ⟨t1, t2⟩ := inR_iff.1 hok.1
  obtain ⟨t3, t4⟩ := inR_iff.1 hok.2
  obtain ⟨n, rfl⟩ := Int.eq_ofNat_of_zero_le (show 0 ≤ p by omega)
  rw [Int.toNat_natCast] at hr
  rw [hr] at hvS huS ⊢
  clear hr hok ws wp
  obtain ⟨A1, cap1, rfl, _, _, hc1⟩ := Ints.shapeL hvS.out (splitL_len s n n)
  obtain ⟨A2, cap2, rfl, _, _, hc2⟩ := Ints.shapeL huS.out (splitL_len s n n)
  obtain ⟨b1, o1, rfl, hl1, hx1⟩ := hc1 (by omega)
  obtain ⟨b2, o2, rfl, hl2, hx2⟩ := hc2 (by omega)
  have HX1 : Hid (∀ k, k < n → w4.cell? ⟨b1, o1 + k, none⟩ = some (.int .i64 (shareOf s n k))) := Lib.hid (fun k hk => by rw [hx1 k hk, split_at hk])
  have HX2 : Hid (∀ k, k < n → w4.cell? ⟨b2, o2 + k, none⟩ = some (.int .i64 (shareOf s n k))) := Lib.hid (fun k hk => by rw [hx2 k hk, split_at hk])
  have hq1 : 0 ≤ s / n := Int.ediv_nonneg t1 (by omega)
  have hq2 : s / n ≤ s := Int.ediv_le_self _ t1
  have HSB : Hid (∀ k, 0 ≤ shareOf s n k ∧ shareOf s n k ≤ 1000000001) := Lib.hid (fun k => by unfold shareOf; split <;> omega)
  have HSUM := Lib.hid (sum_split (n := n) t1 (by omega))
  clear hc1 hc2 hx1 hx2
  go_wp2
  go_loopg [9] (n - 1) (fun gi i wr => ∃ k : Nat, 1 ≤ k ∧ k ≤ n ∧ gi = n - k ∧ i = .int .i64 k ∧ Hid (∃ m, wr = w4.drewN m))
  case atStart => exact ⟨1, Nat.le_refl _, by omega, rfl, rfl, Lib.hid ⟨_, rfl⟩⟩
  case round =>
    obtain ⟨k, hk1, hk, rfl, rfl, HW⟩ := hrel
    obtain ⟨m, rfl⟩ := HW.out
    by_cases hlt : k < n
    · obtain ⟨j, rfl⟩ : ∃ j, k = j + 1 := ⟨k - 1, by omega⟩
      have e1 := HX1.out (j + 1) hlt
      have e2 := HX1.out j (by omega)
      have hle := shareOf_le s n j
      have hkI : (0 : Int) ≤ ((j + 1 : Nat) : Int) := by omega
      have hkn : ((j + 1 : Nat) : Int) < (n : Int) := by omega
      have hj0 : ((j + 1 : Nat) : Int) - 1 = (j : Int) := by omega
      have hjw : IntKind.i64.wrap (((j + 1 : Nat) : Int) - 1) = (j : Int) := by rw [hj0]; exact IntWalk.i64_in _ (by omega)
      have hjI : (0 : Int) ≤ (j : Int) := by omega
      have hjn : (j : Int) < (n : Int) := by omega
      generalize shareOf s n (j + 1) = a at *
      generalize shareOf s n j = c at *
      go_wp2
      go_quiet (fail)
      go_wp2
      go_roundg (n - (j + 1 + 1))
      case measure => omega
      case rel => exact ⟨j + 1 + 1, by omega, by omega, rfl, by go_num, Lib.hid ⟨_, rfl⟩⟩
    · obtain rfl : k = n := by omega
      obtain ⟨j, rfl⟩ : ∃ j, k = j + 1 := ⟨k - 1, by omega⟩
      have e1 : w4.cell? ⟨b1, o1, none⟩ = some (.int .i64 (shareOf s (j + 1 : Nat) 0)) := HX1.out 0 hk1
      have e2 := HX2.out j (by omega)
      have hle : shareOf s (j + 1 : Nat) 0 - shareOf s (j + 1 : Nat) j ≤ 1 := by unfold shareOf; split <;> split <;> omega
      have hle2 := HSB.out 0
      have hle3 := HSB.out j
      have hn : ¬ (((j + 1 : Nat) : Int) < ((j + 1 : Nat) : Int)) := by omega
      have hj0 : ((j + 1 : Nat) : Int) - 1 = (j : Int) := by omega
      have hjw : IntKind.i64.wrap (((j + 1 : Nat) : Int) - 1) = (j : Int) := by rw [hj0]; exact IntWalk.i64_in _ (by omega)
      have hjI : (0 : Int) ≤ (j : Int) := by omega
      have hjn : (j : Int) < ((j + 1 : Nat) : Int) := by omega
      have h0n : (0 : Int) < ((j + 1 : Nat) : Int) := by omega
      have HL : ∀ k, k < (splitL s (j + 1 : Nat) (j + 1)).length → -1000000000000 ≤ (splitL s (j + 1 : Nat) (j + 1)).getD k 0 ∧ (splitL s (j + 1 : Nat) (j + 1)).getD k 0 ≤ 1000000000000 := fun k hk => by rw [splitL_len] at hk; rw [split_at hk]; have := HSB.out k; omega
      have HQ : Hid (∀ k, Calls Try.prog 57 #[.slice (some ⟨b1, o1, none⟩) (j + 1) cap1] (w4.drewN k) fun e w' => e = .returned (.int .i64 s) ∧ w4.drewN k = w') := Lib.hid (fun k => by
        have h := sum_any _ _ (w4.drewN k) (Sl.drewN hvS.out k) (by rw [splitL_len]; omega) HL
        rw [splitL_len, HSUM.out] at h
        exact h)
      clear HL HSUM
      generalize shareOf s (j + 1 : Nat) 0 = a at *
      generalize shareOf s (j + 1 : Nat) j = c at *
      have hw2 : IntKind.i64.wrap (a - c) = a - c := IntWalk.i64_in _ (by omega)
      go_wp2
      go_quiet (exact q_same2 (HQ.out _))
      go_wp2
      go_ret
      exact ⟨rfl, below_drewN' (below_drewN' hb4w _) _⟩
end Go.Proofs.Ytnpfgngfolgdfaa
