/- The contract of search.run at every depth (chapter 18). No statement of the seat is proved here. -/
import Derived.Test.YtblaojjpclipaaaRun
import Derived.Test.YtblaojjpclipaaaM1
namespace Go.Proofs.Ytblaojjpclipaaa
open Go.RowKit

theorem St.drewN {w : World} {base S : Nat} {st : SR} {b : List ByteArray} {bs : List (List ByteArray)} {sl : List Int} (h : St w base S st b bs sl) (n : Nat) : St (w.drewN n) base S st b bs sl := ⟨h.box.drewN n, h.bld.drewN n, h.fnd, h.slt.drewN n, h.low⟩
theorem mulq_succ {i : Nat} {q : Int} : ((i + 1 : Nat) : Int) * q = (i : Int) * q + q := by rw [Int.natCast_add, Int.add_mul]; simp
theorem mulq_le {i : Nat} {q : Int} (hq : 0 ≤ q) (h : i ≤ 16) : (i : Int) * q ≤ 16 * q := Int.mul_le_mul_of_nonneg_right (by omega) hq
theorem set_set_same {b : List ByteArray} {k : Nat} {c d : ByteArray} : (b.set k c).set k d = b.set k d := List.set_set ..
theorem set_back {b : List ByteArray} {s : Int} (h8 : b.length = 8) (h7 : s ≤ 7) (he : getC b s = ⟨#[]⟩) : b.set s.toNat ⟨#[]⟩ = b := by
  have hk : s.toNat < b.length := by omega
  unfold getC at he
  rw [getD_at _ _ _ hk] at he
  rw [← he]
  exact List.set_getElem_self hk
set_option maxHeartbeats 16000000 in
set_option maxRecDepth 20000 in
theorem run_law (ps : List Part) (js : List Joint) (sl : List Int) (pv jv sv bv : Tri) (wS : World) (S : Nat) (hA : Ask wS ps js sl pv jv) : ∀ (d k : Nat), k + d = sl.length → ∀ (n : Int) (fv : Tri) (w : World) (b : List ByteArray) (bs : List (List ByteArray)),
    St w wS.heap.size S (sR pv jv sv bv n fv) b bs sl → Below wS.heap.size wS w → Fit ps b → (∀ s ∈ sl.drop k, getC b s = ⟨#[]⟩) → 0 ≤ n → n + nb d ≤ 1000000000000 → bs.length + (srch ps js (sl.drop k) b).length ≤ 1000000000 →
    Calls Try.prog 84 #[.pointer (some ⟨S, 0, none⟩), .int .i64 k] w fun e w' => (∃ r, e = .returned r) ∧ ∃ n' fv', St w' wS.heap.size S (sR pv jv sv bv n' fv') b (bs ++ srch ps js (sl.drop k) b) sl ∧ n ≤ n' ∧ n' ≤ n + nb d ∧ Below wS.heap.size wS w' := by
  intro d
  induction d with
  | zero =>
    intro k hk n fv w b bs hS hB hf he hn0 hn hl
    obtain rfl : k = sl.length := by omega
    rw [List.drop_length] at hl ⊢
    refine (run_end ps js sl pv jv sv bv fv wS S n w b bs hS hB hf.1 (by simpa [srch] using hl) hA.s8).mono ?_
    rintro e w' ⟨h1, fv', h2, h3⟩
    exact ⟨h1, n, fv', h2, Int.le_refl _, by simp [nb], h3⟩
  | succ d ih =>
    intro k hk n fv w b bs hS hB hf he hn0 hn hl
    have hkl : k < sl.length := by omega
    have hdrop : sl.drop k = sl[k] :: sl.drop (k + 1) := List.drop_eq_getElem_cons hkl
    have hok := hA.sok.drop k
    rw [hdrop] at he hl hok ⊢
    obtain ⟨_, hnot, hs0, hs7⟩ := hok.tail
    have hsb : getC b sl[k] = ⟨#[]⟩ := he _ List.mem_cons_self
    have HE := Lib.hid (fun (s : Int) (hs : s ∈ sl.drop (k + 1)) => he s (List.mem_cons_of_mem _ hs))
    have HNOT := Lib.hid hnot
    have HEX : Hid (∀ c, ∀ s ∈ sl.drop (k + 1), getC (b.set sl[k].toNat c) s = ⟨#[]⟩) := Lib.hid (fun c s hs => by
      have hs2 := (hok.2 s (List.mem_cons_of_mem _ hs)).1
      rw [getC_set_ne hs0 hs2 (fun e => hnot (by rw [e]; exact hs)) c]
      exact HE.out s hs)
    have HSET := Lib.hid (set_back hf.1 hs7 hsb)
    have HIH := Lib.hid (ih (k + 1) (by omega))
    have HS := Lib.hid hS
    have HB := Lib.hid hB
    have HA := Lib.hid hA
    have HF := Lib.hid hf
    have HL := Lib.hid hl
    obtain ⟨g, cap, hbv, hg, hgl⟩ := hS.bnew hf.1
    simp only [sR] at hbv
    subst hbv
    obtain ⟨gs, scap, hsv, hgs, _⟩ := World.ownsRow.form hS.slt (by omega)
    obtain ⟨sa, sn, sc⟩ := sv
    simp only [sR, Tri.v] at hsv
    injection hsv with q1 q2 q3
    subst q1 q2 q3
    have hslt := hS.slt
    simp only [sR, Tri.v] at hslt
    obtain ⟨cs, _⟩ := Own.cellI hslt k hkl
    obtain ⟨x0, x1, x2, x3, x4, x5, x6, x7, x8⟩ := hS.cells
    simp only [sR] at x0 x1 x2 x3 x4 x5 x6 x7 x8
    have hlt := hS.lt
    have HQ := Lib.hid (nb_pos d)
    have HNB : Hid (nb (d + 1) = 16 * (1 + nb d)) := Lib.hid rfl
    have hn2 := hn
    rw [HNB.out] at hn2
    have HN2 := Lib.hid hn2
    have h16 := hA.n16
    have hs8 := hA.s8
    have hsok : ∃ z : Nat, sl[k] = z ∧ z < 8 := ⟨sl[k].toNat, by omega, by omega⟩
    obtain ⟨z, hz, hz8⟩ := hsok
    obtain ⟨pa, pn, pc⟩ := pv
    obtain ⟨A, pcap, epv, _, hm, hc⟩ := hA.hp.shape
    simp only [Tri.v] at epv
    injection epv with q1 q2 q3
    subst q1 q2 q3
    clear hS hB hf he hl hok hA hslt hn hn2 hdrop hnot hsb ih
    rw [hz] at cs HNOT HSET HEX HL hs0 hs7 ⊢
    generalize hr : sl.drop (k + 1) = r at *
    clear hr hz hs0 hs7
    rw [Int.toNat_natCast] at HSET HEX
    have hkI : (k : Int) < (sl.length : Int) := by omega
    have hk0 : (0 : Int) ≤ (k : Int) := by omega
    have hkn : ((k : Int) == (sl.length : Int)) = false := by simp; omega
    have hq0 := HQ.out
    have hn2 := HN2.out
    rw [HNB.out]
    generalize hqd : nb d = qd at *
    have HQD := Lib.hid hqd
    clear hqd HNB HN2
    go_enter Try.func84, Try.ntmps84
    go_wp2
    clear x0 x1 x2 x3 x4 x5 x6 x7 x8 cs
    have S0 : Hid (St w wS.heap.size S (sR ⟨pa, ps.length, pc⟩ jv ⟨some ⟨gs, 0, none⟩, sl.length, sc⟩ ⟨some ⟨g, 0, none⟩, 8, cap⟩ n fv) (b.set z ⟨#[]⟩) (bs ++ srchQ ps js z r b ((ps.take 0).filter (inS z))) sl) := Lib.hid (by rw [HSET.out, List.take_zero, List.filter_nil, srchQ_nil, List.append_nil]; exact HS.out)
    have F0 : Hid (Fit ps (b.set z ⟨#[]⟩)) := Lib.hid (by rw [HSET.out]; exact HF.out)
    go_loopg [41] ps.length (fun gi ii wr => ∃ (i : Nat) (m : Int) (fv' : Tri) (c : ByteArray), i ≤ ps.length ∧ gi = ps.length - i ∧ ii = .int .i64 i ∧ n ≤ m ∧ Hid (m ≤ n + (i : Int) * (1 + qd)) ∧ Hid (St wr wS.heap.size S (sR ⟨pa, ps.length, pc⟩ jv ⟨some ⟨gs, 0, none⟩, sl.length, sc⟩ ⟨some ⟨g, 0, none⟩, 8, cap⟩ m fv') (b.set z c) (bs ++ srchQ ps js z r b ((ps.take i).filter (inS z))) sl) ∧ Hid (Fit ps (b.set z c)) ∧ Hid (Below wS.heap.size wS wr))
    case atStart => exact ⟨0, n, fv, ⟨#[]⟩, Nat.zero_le _, rfl, rfl, Int.le_refl _, Lib.hid (by simp), S0, F0, HB⟩
    case round =>
      obtain ⟨i, m, fv', c, hi, rfl, rfl, hnm, HM, HS, HFc, HB⟩ := hrel
      clear S0 F0
      have hmq := HM.out
      have hiq := mulq_le (i := i) (q := 1 + qd) (by omega) (by omega)
      by_cases hlt2 : i < ps.length
      rotate_left
      · obtain rfl : i = ps.length := by omega
        obtain ⟨hst, d0, f0⟩ := HS.out.set rfl HFc.out.1 z hz8 ⟨#[]⟩
        rw [set_set_same, HSET.out, srchQ_all] at hst
        have HST := Lib.hid hst
        have HBN := Lib.hid (HB.out.setCell (p := ⟨g, z, none⟩) hg (.string ⟨#[]⟩))
        obtain ⟨x0, x1, x2, x3, x4, x5, x6, x7, x8⟩ := HS.out.cells
        simp only [sR] at x0 x1 x2 x3 x4 x5 x6 x7 x8
        have hz8i : (z : Int) < 8 := by omega
        clear hst
        go_wp2
        exact bodyPost_end (results_none rfl _ _ _) rfl ⟨⟨_, rfl⟩, m, fv', HST.out, hnm, by omega, HBN.out⟩
      obtain ⟨bp, offp, rfl, hbp, _⟩ := hc (by omega)
      obtain ⟨A1, C1, hat⟩ := RdP.at_ (show RdP wS (.slice (some ⟨bp, offp, none⟩) ps.length pc) ps from HA.out.hp) i hlt2
      obtain ⟨c0, c1, c2, c3, c4, _⟩ := hat wr HB.out
      have hpm : ps[i] ∈ ps := List.getElem_mem hlt2
      have HFX : Hid (Fit ps (b.set z ps[i].code)) := Lib.hid (Fit.set HF.out hpm z)
      have hYES : inS z ps[i] = true → srchQ ps js z r b ((ps.take (i + 1)).filter (inS z)) = srchQ ps js z r b ((ps.take i).filter (inS z)) ++ srchP ps js z r b ps[i] := srchQ_yes hlt2
      have hNO : inS z ps[i] = false → srchQ ps js z r b ((ps.take (i + 1)).filter (inS z)) = srchQ ps js z r b ((ps.take i).filter (inS z)) := srchQ_no hlt2
      have hLE := srchQ_le (ps := ps) (js := js) (s := (z : Int)) (r := r) (b := b) (i + 1)
      have hbY : Below wr.heap.size wr (wr.alloc (.cells #[.string ps[i].code, .int .i64 ps[i].slot, .slice A1 ps[i].ports.length C1, .int .i64 ps[i].price, .int .i64 ps[i].grams] 52)) := (Below.refl _ _).alloc (Nat.le_refl _) _
      have b0 : (wr.alloc (.cells #[.string ps[i].code, .int .i64 ps[i].slot, .slice A1 ps[i].ports.length C1, .int .i64 ps[i].price, .int .i64 ps[i].grams] 52)).cell? ⟨wr.heap.size, 0, none⟩ = some (.string ps[i].code) := (box_new _ _ _ 0).trans rfl
      have b1 : (wr.alloc (.cells #[.string ps[i].code, .int .i64 ps[i].slot, .slice A1 ps[i].ports.length C1, .int .i64 ps[i].price, .int .i64 ps[i].grams] 52)).cell? ⟨wr.heap.size, 1, none⟩ = some (.int .i64 ps[i].slot) := (box_new _ _ _ 1).trans rfl
      have HSY := Lib.hid (HS.out.below hbY)
      have HBY := Lib.hid (Below.step HB.out hbY)
      have hSw := HS.out.lt.2
      have hszY : wr.heap.size < (wr.alloc (.cells #[.string ps[i].code, .int .i64 ps[i].slot, .slice A1 ps[i].ports.length C1, .int .i64 ps[i].price, .int .i64 ps[i].grams] 52)).heap.size := by simp
      have hii : (i : Int) < (ps.length : Int) := by omega
      have hi0 : (0 : Int) ≤ (i : Int) := by omega
      have hiw : IntKind.i64.wrap ((i : Int) + 1) = (i : Int) + 1 := IntWalk.i64_in _ (by omega)
      have HYES := Lib.hid hYES
      have HNO := Lib.hid hNO
      have HLE := Lib.hid hLE
      have hmq2 := mulq_succ (i := i) (q := 1 + qd)
      have hiq2 := mulq_le (i := i + 1) (q := 1 + qd) (by omega) (by omega)
      clear hat hpm hYES hNO hLE hbY
      generalize ps[i] = x at *
      obtain ⟨xc, xs, xp, xr, xg⟩ := x
      simp only at *
      by_cases hsl : xs = (z : Int)
      rotate_left
      · have gsl : (xs == (z : Int)) = false := by simp [hsl]
        have HNX := Lib.hid (HNO.out (by unfold inS; simp [hsl]))
        clear hsl
        go_wp2
        go_roundg (ps.length - (i + 1))
        case measure => omega
        case rel => exact ⟨i + 1, m, fv', c, by omega, rfl, by go_num, hnm, Lib.hid (by omega), by rw [HNX.out]; exact HSY, HFc, HBY⟩
      subst hsl
      have HYX := Lib.hid (HYES.out (by unfold inS; simp))
      obtain ⟨x0, x1, x2, x3, x4, x5, x6, x7, x8⟩ := HSY.out.cells
      simp only [sR] at x0 x1 x2 x3 x4 x5 x6 x7 x8
      have hm1 : (m == -1) = false := by simp; omega
      have hmw : IntKind.i64.wrap (m + 1) = m + 1 := IntWalk.i64_in _ (by omega)
      have hz8i : (z : Int) < 8 := by omega
      have hz0 : (0 : Int) ≤ (z : Int) := by omega
      have NE : Hid (S ≠ wr.heap.size) := Lib.hid (by omega)
      go_wp2
      go_quiet (fail)
      have HZ := Lib.hid (HSY.out.drewN nq)
      have BZ := Lib.hid (below_drewN' HBY.out nq)
      have d0 : ((wr.alloc (.cells #[.string xc, .int .i64 (z : Int), .slice A1 xp.length C1, .int .i64 xr, .int .i64 xg] 52)).drewN nq).cell? ⟨wr.heap.size, 0, none⟩ = some (.string xc) := b0
      have hszZ : wr.heap.size < ((wr.alloc (.cells #[.string xc, .int .i64 (z : Int), .slice A1 xp.length C1, .int .i64 xr, .int .i64 xg] 52)).drewN nq).heap.size := hszY
      clear x0 x1 x2 x3 x4 x5 x6 x7 x8 b0 b1 hszY HSY HBY
      generalize (wr.alloc (.cells #[.string xc, .int .i64 (z : Int), .slice A1 xp.length C1, .int .i64 xr, .int .i64 xg] 52)).drewN nq = wz at *
      obtain ⟨x0, x1, x2, x3, x4, x5, x6, x7, x8⟩ := HZ.out.cells
      simp only [sR] at x0 x1 x2 x3 x4 x5 x6 x7 x8
      have f4 := HZ.out.froz 4
      have P1 : Hid (St (wz.setCell ⟨S, 4, none⟩ (.int .i64 (m + 1))) wS.heap.size S (sR ⟨some ⟨bp, offp, none⟩, ps.length, pc⟩ jv ⟨some ⟨gs, 0, none⟩, sl.length, sc⟩ ⟨some ⟨g, 0, none⟩, 8, cap⟩ (m + 1) fv') (b.set z c) (bs ++ srchQ ps js z r b ((ps.take i).filter (inS z))) sl) := Lib.hid (HZ.out.put 4 _ _ (by decide) rfl rfl rfl rfl)
      have d1 : (wz.setCell ⟨S, 4, none⟩ (.int .i64 (m + 1))).cell? ⟨wr.heap.size, 0, none⟩ = some (.string xc) := (World.cell?_setCell_far wz ⟨S, 4, none⟩ ⟨wr.heap.size, 0, none⟩ _ NE.out).trans d0
      have BP1 := Lib.hid (BZ.out.setCell (p := ⟨S, 4, none⟩) hlt.1 (.int .i64 (m + 1)))
      go_wp2
      clear x0 x1 x2 x3 x4 x5 x6 x7 x8 d0 f4 HZ BZ c0 c1 c2 c3 c4
      generalize wz.setCell ⟨S, 4, none⟩ (.int .i64 (m + 1)) = w1 at *
      obtain ⟨x0, x1, x2, x3, x4, x5, x6, x7, x8⟩ := P1.out.drew.cells
      simp only [sR] at x0 x1 x2 x3 x4 x5 x6 x7 x8
      obtain ⟨hst, e0, ef⟩ := P1.out.drew.set rfl HFc.out.1 z hz8 xc
      have hst2 := (P1.out.set rfl HFc.out.1 z hz8 xc).1
      rw [set_set_same] at hst2
      have P2 := Lib.hid hst2
      clear hst2
      have e1 : w1.drew.cell? ⟨wr.heap.size, 0, none⟩ = some (.string xc) := d1
      have BP2 := Lib.hid (BP1.out.setCell (p := ⟨g, z, none⟩) hg (.string xc))
      clear hst d1
      go_still_tail 8, (by kernel_rfl)
      change wpList _ _ _ _ _ w1.drew
      go_wp2_with fail
      clear e0 ef e1 x0 x1 x2 x3 x4 x5 x6 x7 x8
      have P3 := Lib.hid P2.out.drew
      have BP3 := Lib.hid BP2.out.drew
      clear P1 P2 BP1 BP2
      generalize (w1.setCell ⟨g, z, none⟩ (.string xc)).drew = w2 at *
      refine (broken_any ps js (b.set z xc) _ sl wS.heap.size S _ w2 P3.out (HA.out.hp.below BP3.out) (HA.out.hj.below BP3.out) HFX.out HA.out.jok HA.out.n12).mono ?_
      rintro e w3 ⟨rfl, hb3⟩
      have P4 := Lib.hid (P3.out.below hb3)
      have BP4 := Lib.hid (Below.step BP3.out hb3)
      clear hb3 P3 BP3
      have hP0 : anyBr ps (b.set z xc) js = true → srchP ps js z r b ⟨xc, z, xp, xr, xg⟩ = [] := fun h => srchP_no (s := (z : Int)) h
      have hP1 : anyBr ps (b.set z xc) js = false → srchP ps js z r b ⟨xc, z, xp, xr, xg⟩ = srch ps js r (b.set z xc) := fun h => srchP_yes (s := (z : Int)) h
      rcases hbr : anyBr ps (b.set z xc) js
      rotate_left
      · have HX := Lib.hid (HYX.out)
        rw [hP0 hbr, List.append_nil] at HX
        clear hbr hP0 hP1
        go_wp2
        go_roundg (ps.length - (i + 1))
        case measure => omega
        case rel => exact ⟨i + 1, m + 1, fv', xc, by omega, rfl, by go_num, by omega, Lib.hid (by omega), by rw [HX.out]; exact P4, HFX, BP4⟩
      · have HX := Lib.hid (HYX.out)
        rw [hP1 hbr] at HX
        have hlen : (bs ++ srchQ ps js z r b ((ps.take i).filter (inS z))).length + (srch ps js r (b.set z xc)).length ≤ 1000000000 := by
          have h1 := HLE.out
          have h2 := HL.out
          rw [HX.out, List.length_append] at h1
          rw [List.length_append]
          omega
        have hcall := HIH.out (m + 1) fv' w3 (b.set z xc) _ P4.out BP4.out HFX.out (HEX.out xc) (by omega) (by omega) hlen
        rw [show ((k + 1 : Nat) : Int) = (k : Int) + 1 by omega] at hcall
        have HCALL := Lib.hid hcall
        have hkw : IntKind.i64.wrap ((k : Int) + 1) = (k : Int) + 1 := IntWalk.i64_in _ (by omega)
        clear hbr hP0 hP1 hlen hcall
        go_wp2_with fail
        refine HCALL.out.mono ?_
        rintro e w4 ⟨⟨rr, rfl⟩, n', fv2, hst4, hn1, hn3, hb4⟩
        have P5 : Hid (St w4 wS.heap.size S (sR ⟨some ⟨bp, offp, none⟩, ps.length, pc⟩ jv ⟨some ⟨gs, 0, none⟩, sl.length, sc⟩ ⟨some ⟨g, 0, none⟩, 8, cap⟩ n' fv2) (b.set z xc) (bs ++ srchQ ps js z r b ((ps.take (i + 1)).filter (inS z))) sl) := Lib.hid (by rw [HX.out, ← List.append_assoc]; exact hst4)
        have BP5 := Lib.hid hb4
        clear hst4 hb4 P4 BP4 HCALL
        go_wp2
        go_roundg (ps.length - (i + 1))
        case measure => omega
        case rel => exact ⟨i + 1, n', fv2, xc, by omega, rfl, by go_num, by omega, Lib.hid (by omega), P5, HFX, BP5⟩
end Go.Proofs.Ytblaojjpclipaaa
