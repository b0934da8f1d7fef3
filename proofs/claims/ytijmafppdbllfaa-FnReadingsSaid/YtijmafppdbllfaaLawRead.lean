/- The walk of the statement on readings (P26). No statement of the seat is proved here. -/
import Derived.Test.YtijmafppdbllfaaDrawRead
import Derived.Test.YtijmafppdbllfaaReadLaw
namespace Go.Proofs.Ytijmafppdbllfaa
open Go.RowKit

set_option maxHeartbeats 16000000 in
set_option maxRecDepth 20000 in
theorem walk_FnReadings (a0 : Option Addr) (len0 cap0 : Nat) (z0 : List Int) (w : World) (p0 : IsRow .u8 w a0 len0 cap0 z0) :
    Calls Try.prog 14 #[.slice a0 len0 cap0] w fun e w' => e = .returned (.bool true) ∧ Below w.heap.size w w' := by
  obtain ⟨hcap, hby⟩ := p0.bytes
  have hmax := p0.max
  by_cases hbig : 4096 < len0
  · have HD : Hid (decide (4096 < len0) = true) := Lib.hid (decide_eq_true hbig)
    go_enter Try.func14, Try.ntmps14
    go_wp2_with fail
    refine (big_any a0 len0 cap0 w hmax).mono ?_
    rintro e w1 ⟨rfl, rfl⟩
    rw [HD.out]
    go_wp2
    go_ret
    exact ⟨rfl, Below.refl _ _⟩
  have HD : Hid (decide (4096 < len0) = false) := Lib.hid (decide_eq_false hbig)
  go_enter Try.func14, Try.ntmps14
  go_wp2_with fail
  refine (big_any a0 len0 cap0 w hmax).mono ?_
  rintro e w1 ⟨rfl, rfl⟩
  rw [HD.out]
  go_wp2_with fail
  refine (DrawIsEven_any a0 len0 cap0 w (by omega) hcap hby).mono ?_
  rintro e w2 ⟨v, xs, t, pc, rfl, ho, hl, ⟨t0, t1⟩, ⟨c0, c1⟩, hb2⟩
  have wt : (Lit.int .i64 t).wf = true := by simp [Lit.wf, IntKind.min, IntKind.max, IntKind.signed, IntKind.bits]; omega
  have wp : (Lit.int .i64 pc).wf = true := by simp [Lit.wf, IntKind.min, IntKind.max, IntKind.signed, IntKind.bits]; omega
  have hl2 : xs.length ≤ 1048576 := by omega
  have V2 := Lib.hid (Sl.of_own ho (big_of hl2))
  have B2 := Lib.hid hb2
  clear hby p0 ho hb2 hbig hmax hcap
  go_wp2_with fail
  refine (iIsEven_law v xs t pc w2 V2.out hl2 wt wp).mono ?_
  rintro e w3 ⟨rfl, hb⟩
  have V3 := Lib.hid (V2.out.below hb)
  have B3 := Lib.hid (Below.step B2.out hb)
  clear hb V2 B2
  go_wp2_with fail
  refine (sIsEven_law v xs t pc w3 V3.out hl2 wt wp).mono ?_
  rintro e w4 ⟨rfl, hb⟩
  have V4 := Lib.hid (V3.out.below hb)
  have B4 := Lib.hid (Below.step B3.out hb)
  clear hb V3 B3
  go_wp2_with fail
  refine (iNextBolt_law v xs t w4 V4.out hl2 wt).mono ?_
  rintro e w5 ⟨rfl, hb⟩
  have V5 := Lib.hid (V4.out.below hb)
  have B5 := Lib.hid (Below.step B4.out hb)
  clear hb V4 B4
  go_wp2_with fail
  refine (sNextBolt_law v xs t w5 V5.out hl2 wt).mono ?_
  rintro e w6 ⟨rfl, hb⟩
  have V6 := Lib.hid (V5.out.below hb)
  have B6 := Lib.hid (Below.step B5.out hb)
  clear hb V5 B5
  go_wp2_with fail
  refine (iSteepestPair_law v xs w6 V6.out hl2).mono ?_
  rintro e w7 ⟨rfl, hb⟩
  have V7 := Lib.hid (V6.out.below hb)
  have B7 := Lib.hid (Below.step B6.out hb)
  clear hb V6 B6
  go_wp2_with fail
  refine (sSteepestPair_law v xs w7 V7.out hl2).mono ?_
  rintro e w8 ⟨rfl, hb⟩
  have V8 := Lib.hid (V7.out.below hb)
  have B8 := Lib.hid (Below.step B7.out hb)
  clear hb V7 B7 wt wp
  rcases hA : areReadings xs
  · have hN : NextBolt_r xs t = (0, 1) := NextBolt_bad (by unfold readCode; rw [hA]; rfl) (by decide)
    rw [IsEven_bad t pc hA, hN, Steep_bad hA]
    have HA := Lib.hid hA
    clear hA hN
    go_wp2_with fail
    refine (iAreReadings_any v xs w8 V8.out).mono ?_
    rintro e _ ⟨rfl, rfl⟩
    rw [HA.out]
    go_wp2
    go_ret
    exact ⟨rfl, B8.out⟩
  have hST := steep_le xs
  obtain ⟨n3, n12⟩ := areReadings_len hA
  rw [Steep_ok hA]
  have HST : Hid (∀ k, k < xs.length → gap xs k ≤ (steep xs xs.length).2) := Lib.hid (hST xs.length)
  generalize (steep xs xs.length).1 = s1 at *
  generalize (steep xs xs.length).2 = s2 at *
  obtain ⟨A, cap, rfl, _, _, hc⟩ := Ints.shape V8.out
  obtain ⟨b, off, rfl, hbl, hcell⟩ := hc (by omega)
  have HC := Lib.hid hcell
  have HA := Lib.hid hA
  clear hc hcell hST
  have L1 : Hid (∀ k, k < xs.length → ∃ x y, w8.cell? ⟨b, off + k, none⟩ = some (.int .i64 x) ∧ w8.cell? ⟨b, off + (k + 1) % xs.length, none⟩ = some (.int .i64 y) ∧ (0 ≤ x ∧ x ≤ 2000) ∧ (0 ≤ y ∧ y ≤ 2000) ∧ x - y ≤ s2 ∧ y - x ≤ s2) := Lib.hid fun k hk => by
    have hmod : (k + 1) % xs.length < xs.length := Nat.mod_lt _ (by omega)
    have hg := HST.out k hk
    rw [gap_eq xs k hk hmod] at hg
    refine ⟨xs[k], xs[(k + 1) % xs.length], HC.out k hk, HC.out _ hmod, areReadings_at HA.out k hk, areReadings_at HA.out _ hmod, ?_⟩
    unfold iabs at hg
    split at hg <;> omega
  have hNC := NextBolt_cases (t := t) hA
  clear HST hA
  rcases hT : (inR t 1 2000 && inR pc 0 100)
  · rw [IsEven_out HA.out hT]
    clear hT
    rcases hNC with ⟨c, hc, hN⟩ | ⟨q, hq, hqt, hN⟩
    · rw [hN]
      clear hN
      have hcb : (c == 0) = false := beq_eq_false_iff_ne.2 hc
      go_wp2_with fail
      refine (iAreReadings_any _ xs w8 V8.out).mono ?_
      rintro e _ ⟨rfl, rfl⟩
      rw [HA.out]
      go_wp2
      go_loopg [20] xs.length (fun gi i wr => ∃ k, k ≤ xs.length ∧ gi = xs.length - k ∧ i = .int .i64 k ∧ Hid (∃ m, wr = w8.drewN m))
      case atStart => exact ⟨0, Nat.zero_le _, rfl, rfl, Lib.hid ⟨0, rfl⟩⟩
      case round =>
        obtain ⟨k, hk, rfl, rfl, HW⟩ := hrel
        obtain ⟨m, rfl⟩ := HW.out
        by_cases hlt : k < xs.length
        · obtain ⟨x, y', e1, e2, ⟨x0, x1⟩, ⟨y0, y1⟩, g1, g2⟩ := L1.out k hlt
          have hm0 := mod_cast_eq k xs.length
          have hmod : (k + 1) % xs.length < xs.length := Nat.mod_lt _ (by omega)
          have hm1 : 0 ≤ ((k : Int) + 1) % (xs.length : Int) := by rw [hm0]; omega
          have hm2 : ((k : Int) + 1) % (xs.length : Int) < (xs.length : Int) := by rw [hm0]; omega
          have hm3 : (((k : Int) + 1) % (xs.length : Int)).toNat = (k + 1) % xs.length := by rw [hm0]; rfl
          have hw1 : IntKind.i64.wrap ((k : Int) + 1) = (k : Int) + 1 := IntWalk.i64_in _ (by omega)
          have hw2 : IntKind.i64.wrap (x - y') = x - y' := IntWalk.i64_in _ (by omega)
          clear hm0
          go_wp2
          go_quiet (fail)
          go_wp2
          all_goals
            go_roundg (xs.length - (k + 1))
            case measure => omega
            case rel => exact ⟨k + 1, by omega, rfl, by go_num, Lib.hid ⟨_, rfl⟩⟩
        · obtain rfl : k = xs.length := by omega
          go_wp2
          go_ret
          exact ⟨rfl, below_drewN' B8.out _⟩
    · rw [hN]
      clear hN
      have hqc := HC.out q hq
      have hqi : (q : Int) < (xs.length : Int) := by omega
      have hq0 : (0 : Int) ≤ (q : Int) := by omega
      rw [show xs.getD q 0 = xs[q] by simp [hq]] at hqt
      generalize xs[q] = y at *
      go_wp2_with fail
      refine (iAreReadings_any _ xs w8 V8.out).mono ?_
      rintro e _ ⟨rfl, rfl⟩
      rw [HA.out]
      go_wp2
      go_loopg [20] xs.length (fun gi i wr => ∃ k, k ≤ xs.length ∧ gi = xs.length - k ∧ i = .int .i64 k ∧ Hid (∃ m, wr = w8.drewN m))
      case atStart => exact ⟨0, Nat.zero_le _, rfl, rfl, Lib.hid ⟨0, rfl⟩⟩
      case round =>
        obtain ⟨k, hk, rfl, rfl, HW⟩ := hrel
        obtain ⟨m, rfl⟩ := HW.out
        by_cases hlt : k < xs.length
        · obtain ⟨x, y', e1, e2, ⟨x0, x1⟩, ⟨y0, y1⟩, g1, g2⟩ := L1.out k hlt
          have hm0 := mod_cast_eq k xs.length
          have hmod : (k + 1) % xs.length < xs.length := Nat.mod_lt _ (by omega)
          have hm1 : 0 ≤ ((k : Int) + 1) % (xs.length : Int) := by rw [hm0]; omega
          have hm2 : ((k : Int) + 1) % (xs.length : Int) < (xs.length : Int) := by rw [hm0]; omega
          have hm3 : (((k : Int) + 1) % (xs.length : Int)).toNat = (k + 1) % xs.length := by rw [hm0]; rfl
          have hw1 : IntKind.i64.wrap ((k : Int) + 1) = (k : Int) + 1 := IntWalk.i64_in _ (by omega)
          have hw2 : IntKind.i64.wrap (x - y') = x - y' := IntWalk.i64_in _ (by omega)
          clear hm0
          go_wp2
          go_quiet (fail)
          go_wp2
          all_goals
            go_roundg (xs.length - (k + 1))
            case measure => omega
            case rel => exact ⟨k + 1, by omega, rfl, by go_num, Lib.hid ⟨_, rfl⟩⟩
        · obtain rfl : k = xs.length := by omega
          go_wp2
          go_ret
          exact ⟨rfl, below_drewN' B8.out _⟩
  · rw [IsEven_ok HA.out hT]
    rw [Bool.and_eq_true, inR_iff, inR_iff] at hT
    obtain ⟨⟨ht1, ht2⟩, hc1, hc2⟩ := hT
    obtain ⟨ev, hev⟩ : ∃ ev, (xs.all fun n => !farOff t pc n) = ev := ⟨_, rfl⟩
    have HEV := Lib.hid hev
    rw [hev]
    clear hev
    rcases hNC with ⟨c, hc, hN⟩ | ⟨q, hq, hqt, hN⟩
    · rw [hN]
      clear hN
      have hcb : (c == 0) = false := beq_eq_false_iff_ne.2 hc
      go_wp2_with fail
      refine (iAreReadings_any _ xs w8 V8.out).mono ?_
      rintro e _ ⟨rfl, rfl⟩
      rw [HA.out]
      go_wp2
      go_loopg [20] xs.length (fun gi i wr => ∃ k, k ≤ xs.length ∧ gi = xs.length - k ∧ i = .int .i64 k ∧ Hid (∃ m, wr = w8.drewN m))
      case atStart => exact ⟨0, Nat.zero_le _, rfl, rfl, Lib.hid ⟨0, rfl⟩⟩
      case round =>
        obtain ⟨k, hk, rfl, rfl, HW⟩ := hrel
        obtain ⟨m, rfl⟩ := HW.out
        by_cases hlt : k < xs.length
        · obtain ⟨x, y', e1, e2, ⟨x0, x1⟩, ⟨y0, y1⟩, g1, g2⟩ := L1.out k hlt
          have hm0 := mod_cast_eq k xs.length
          have hmod : (k + 1) % xs.length < xs.length := Nat.mod_lt _ (by omega)
          have hm1 : 0 ≤ ((k : Int) + 1) % (xs.length : Int) := by rw [hm0]; omega
          have hm2 : ((k : Int) + 1) % (xs.length : Int) < (xs.length : Int) := by rw [hm0]; omega
          have hm3 : (((k : Int) + 1) % (xs.length : Int)).toNat = (k + 1) % xs.length := by rw [hm0]; rfl
          have hw1 : IntKind.i64.wrap ((k : Int) + 1) = (k : Int) + 1 := IntWalk.i64_in _ (by omega)
          have hw2 : IntKind.i64.wrap (x - y') = x - y' := IntWalk.i64_in _ (by omega)
          clear hm0
          go_wp2
          go_quiet (fail)
          go_wp2
          all_goals
            go_roundg (xs.length - (k + 1))
            case measure => omega
            case rel => exact ⟨k + 1, by omega, rfl, by go_num, Lib.hid ⟨_, rfl⟩⟩
        · obtain rfl : k = xs.length := by omega
          have L2 : Hid (∀ k, (hk : k < xs.length) → ∃ x, (w8.drewN m).cell? ⟨b, off + k, none⟩ = some (.int .i64 x) ∧ (0 ≤ x ∧ x ≤ 2000) ∧ ((xs.take (k + 1)).any (farOff t pc) = ((xs.take k).any (farOff t pc) || farOff t pc x))) := Lib.hid fun k hk => ⟨xs[k], HC.out k hk, areReadings_at HA.out k hk, by rw [List.take_succ_eq_append_getElem hk, List.any_append]; simp⟩
          have hpt := mul_bd (a := pc) (b := t) (A := 100) (B := 2000) (by omega) (by omega) (by omega) (by omega)
          obtain ⟨hp0, hp1⟩ := hpt
          have hpw : IntKind.i64.wrap (pc * t) = pc * t := IntWalk.i64_in _ (by omega)
          have BM := Lib.hid (below_drewN' B8.out m)
          go_wp2
          generalize w8.drewN m = w9 at *
          go_loop [22, 23] (fun f i => ∃ (k : Nat) (fb : Bool), k ≤ xs.length ∧ i = .int .i64 k ∧ f = .bool fb ∧ Hid (fb = (xs.take k).any (farOff t pc))) (fun _ i => xs.length - (intOf i).toNat)
          case atStart => exact ⟨0, false, Nat.zero_le _, rfl, rfl, Lib.hid rfl⟩
          case round =>
            obtain ⟨k, fb, hk, rfl, rfl, HFB⟩ := hrel
            by_cases hlt : k < xs.length
            · obtain ⟨x, e1, ⟨x0, x1⟩, hany⟩ := L2.out k hlt
              have HANY := Lib.hid hany
              clear hany
              have hw2 : IntKind.i64.wrap (x - t) = x - t := IntWalk.i64_in _ (by omega)
              have ha0 : 0 ≤ iabs (x - t) ∧ iabs (x - t) ≤ 4001 := by unfold iabs; split <;> omega
              have hmx : max (x - t) (-(x - t)) = iabs (x - t) := by unfold iabs; split <;> omega
              obtain ⟨ha0, ha1⟩ := ha0
              cases fb
              · have HE : Hid (farOff t pc x = decide (pc * t < 100 * iabs (x - t))) := Lib.hid rfl
                have hn1 : IntKind.i64.wrap (-(x - t)) = -(x - t) := IntWalk.i64_in _ (by omega)
                have hn2 : IntKind.i64.wrap (100 * (x - t)) = 100 * (x - t) := IntWalk.i64_in _ (by omega)
                have hn3 : IntKind.i64.wrap (100 * -(x - t)) = 100 * -(x - t) := IntWalk.i64_in _ (by omega)
                clear ha0 ha1 hmx
                go_wp2
                all_goals
                  go_round
                  case rel => exact ⟨k + 1, _, by omega, by go_num, rfl, Lib.hid (by rw [HANY.out, ← HFB.out, HE.out, Bool.false_or]; unfold iabs; simp only [gt_iff_lt, decide_eq_decide]; split <;> omega)⟩
                  case measure => simp [intOf]; omega
              · go_wp2
                go_round
                case rel => exact ⟨k + 1, true, by omega, by go_num, rfl, Lib.hid (by rw [HANY.out, ← HFB.out]; rfl)⟩
                case measure => simp [intOf]; omega
            · obtain rfl : k = xs.length := by omega
              have HEND : Hid ((ev == !fb) = true) := Lib.hid (by rw [← HEV.out, HFB.out, List.take_of_length_le (Nat.le_refl _)]; simp [List.not_any_eq_all_not])
              go_wp2
              go_ret
              exact ⟨ret_bool HEND.out, BM.out⟩
    · rw [hN]
      clear hN
      have hqc := HC.out q hq
      have hqi : (q : Int) < (xs.length : Int) := by omega
      have hq0 : (0 : Int) ≤ (q : Int) := by omega
      rw [show xs.getD q 0 = xs[q] by simp [hq]] at hqt
      generalize xs[q] = y at *
      go_wp2_with fail
      refine (iAreReadings_any _ xs w8 V8.out).mono ?_
      rintro e _ ⟨rfl, rfl⟩
      rw [HA.out]
      go_wp2
      go_loopg [20] xs.length (fun gi i wr => ∃ k, k ≤ xs.length ∧ gi = xs.length - k ∧ i = .int .i64 k ∧ Hid (∃ m, wr = w8.drewN m))
      case atStart => exact ⟨0, Nat.zero_le _, rfl, rfl, Lib.hid ⟨0, rfl⟩⟩
      case round =>
        obtain ⟨k, hk, rfl, rfl, HW⟩ := hrel
        obtain ⟨m, rfl⟩ := HW.out
        by_cases hlt : k < xs.length
        · obtain ⟨x, y', e1, e2, ⟨x0, x1⟩, ⟨y0, y1⟩, g1, g2⟩ := L1.out k hlt
          have hm0 := mod_cast_eq k xs.length
          have hmod : (k + 1) % xs.length < xs.length := Nat.mod_lt _ (by omega)
          have hm1 : 0 ≤ ((k : Int) + 1) % (xs.length : Int) := by rw [hm0]; omega
          have hm2 : ((k : Int) + 1) % (xs.length : Int) < (xs.length : Int) := by rw [hm0]; omega
          have hm3 : (((k : Int) + 1) % (xs.length : Int)).toNat = (k + 1) % xs.length := by rw [hm0]; rfl
          have hw1 : IntKind.i64.wrap ((k : Int) + 1) = (k : Int) + 1 := IntWalk.i64_in _ (by omega)
          have hw2 : IntKind.i64.wrap (x - y') = x - y' := IntWalk.i64_in _ (by omega)
          clear hm0
          go_wp2
          go_quiet (fail)
          go_wp2
          all_goals
            go_roundg (xs.length - (k + 1))
            case measure => omega
            case rel => exact ⟨k + 1, by omega, rfl, by go_num, Lib.hid ⟨_, rfl⟩⟩
        · obtain rfl : k = xs.length := by omega
          have L2 : Hid (∀ k, (hk : k < xs.length) → ∃ x, (w8.drewN m).cell? ⟨b, off + k, none⟩ = some (.int .i64 x) ∧ (0 ≤ x ∧ x ≤ 2000) ∧ ((xs.take (k + 1)).any (farOff t pc) = ((xs.take k).any (farOff t pc) || farOff t pc x))) := Lib.hid fun k hk => ⟨xs[k], HC.out k hk, areReadings_at HA.out k hk, by rw [List.take_succ_eq_append_getElem hk, List.any_append]; simp⟩
          have hpt := mul_bd (a := pc) (b := t) (A := 100) (B := 2000) (by omega) (by omega) (by omega) (by omega)
          obtain ⟨hp0, hp1⟩ := hpt
          have hpw : IntKind.i64.wrap (pc * t) = pc * t := IntWalk.i64_in _ (by omega)
          have BM := Lib.hid (below_drewN' B8.out m)
          go_wp2
          generalize w8.drewN m = w9 at *
          go_loop [22, 23] (fun f i => ∃ (k : Nat) (fb : Bool), k ≤ xs.length ∧ i = .int .i64 k ∧ f = .bool fb ∧ Hid (fb = (xs.take k).any (farOff t pc))) (fun _ i => xs.length - (intOf i).toNat)
          case atStart => exact ⟨0, false, Nat.zero_le _, rfl, rfl, Lib.hid rfl⟩
          case round =>
            obtain ⟨k, fb, hk, rfl, rfl, HFB⟩ := hrel
            by_cases hlt : k < xs.length
            · obtain ⟨x, e1, ⟨x0, x1⟩, hany⟩ := L2.out k hlt
              have HANY := Lib.hid hany
              clear hany
              have hw2 : IntKind.i64.wrap (x - t) = x - t := IntWalk.i64_in _ (by omega)
              have ha0 : 0 ≤ iabs (x - t) ∧ iabs (x - t) ≤ 4001 := by unfold iabs; split <;> omega
              have hmx : max (x - t) (-(x - t)) = iabs (x - t) := by unfold iabs; split <;> omega
              obtain ⟨ha0, ha1⟩ := ha0
              cases fb
              · have HE : Hid (farOff t pc x = decide (pc * t < 100 * iabs (x - t))) := Lib.hid rfl
                have hn1 : IntKind.i64.wrap (-(x - t)) = -(x - t) := IntWalk.i64_in _ (by omega)
                have hn2 : IntKind.i64.wrap (100 * (x - t)) = 100 * (x - t) := IntWalk.i64_in _ (by omega)
                have hn3 : IntKind.i64.wrap (100 * -(x - t)) = 100 * -(x - t) := IntWalk.i64_in _ (by omega)
                clear ha0 ha1 hmx
                go_wp2
                all_goals
                  go_round
                  case rel => exact ⟨k + 1, _, by omega, by go_num, rfl, Lib.hid (by rw [HANY.out, ← HFB.out, HE.out, Bool.false_or]; unfold iabs; simp only [gt_iff_lt, decide_eq_decide]; split <;> omega)⟩
                  case measure => simp [intOf]; omega
              · go_wp2
                go_round
                case rel => exact ⟨k + 1, true, by omega, by go_num, rfl, Lib.hid (by rw [HANY.out, ← HFB.out]; rfl)⟩
                case measure => simp [intOf]; omega
            · obtain rfl : k = xs.length := by omega
              have HEND : Hid ((ev == !fb) = true) := Lib.hid (by rw [← HEV.out, HFB.out, List.take_of_length_le (Nat.le_refl _)]; simp [List.not_any_eq_all_not])
              go_wp2
              go_ret
              exact ⟨ret_bool HEND.out, BM.out⟩
end Go.Proofs.Ytijmafppdbllfaa
