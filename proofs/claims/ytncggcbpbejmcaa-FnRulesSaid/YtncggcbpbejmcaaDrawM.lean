/- What the reference's draws of a move and of changed parts hand out (chapter 25). No statement of the seat is proved here. -/
import Derived.Test.YtncggcbpbejmcaaDrawG
import Derived.Test.YtncggcbpbejmcaaMoveS
namespace Go.Proofs.Ytncggcbpbejmcaa
open Go.RowKit

theorem quo11 {z : Int} (h0 : 0 ≤ z) (h1 : z < 12 ∨ z = 0) : ∃ q : Int, z.tdiv 11 = q ∧ 0 ≤ q ∧ q ≤ 1 := by
  refine ⟨z.tdiv 11, rfl, ?_⟩
  rw [Int.tdiv_eq_ediv_of_nonneg h0]
  omega
theorem wf_in {n : Int} (h : -9223372036854775808 ≤ n) (h2 : n ≤ 9223372036854775807) : (Lit.int .i64 n).wf = true := by
  simp [Lit.wf, IntKind.min, IntKind.max, IntKind.signed, IntKind.bits]; omega
theorem MoveRule_len1 (R : List Rule) (i t : Int) (h : R.length ≤ 1000) : (MoveRule_r R i t).1.length ≤ 1000 := by
  unfold MoveRule_r
  split
  · split
    · rename_i h2
      rw [Bool.and_eq_true, inR_iff, inR_iff] at h2
      have := moved_len (R := R) (i := i.toNat) (by omega) t.toNat
      simp only []; omega
    · simp
  · simp
set_option maxHeartbeats 4000000 in
set_option maxRecDepth 20000 in
theorem DrawMoveRule_any (A : Option Addr) (n cap : Nat) (w : World) (hn : n ≤ 4096) (hc : n ≤ cap) (hb : Bytes w A n w.heap.size) :
    Calls Try.prog 59 #[.slice A n cap] w fun e w' => ∃ (v : Value) (R : List Rule) (i t : Int), e = .returned (.tuple #[v, .int .i64 i, .int .i64 t]) ∧ Own eRule w' w.heap.size 78 v R ∧ R.length ≤ 1000 ∧ 0 ≤ i ∧ i ≤ 1001 ∧ 0 ≤ t ∧ t ≤ 1001 ∧ Below w.heap.size w w' := by
  go_enter Try.func59, Try.ntmps59
  go_wp2_with fail
  refine (l01From_any A n cap w hn hc hb).mono ?_
  rintro e w1 ⟨p, rfl, hp, hs1, hb1⟩
  have D1 := Lib.hid (Dr.refl hs1)
  have B1 := Lib.hid hb1
  have hz1 := hb1.size
  have hp1 : p < w1.heap.size := hs1.lt
  clear hs1 hb1 hb
  go_wp2_with fail
  refine (l25Rules_any p w1 D1.out.1).mono ?_
  rintro e w2 ⟨v, R, rfl, ho, hl, hd⟩
  have D2 := Lib.hid (D1.out.trans hd)
  have O2 := Lib.hid ho
  obtain ⟨Ax, capx, rfl, _, _, _⟩ := Sl.shape (Sl.of_own ho (by unfold big40; omega))
  clear ho hd D1
  go_wp2_with fail
  refine (next_dr 12 D2.out (by omega)).mono ?_
  rintro e w3 ⟨z, rfl, z0, z1, hd, hg⟩
  have D3 := Lib.hid hd
  have O3 := Lib.hid (O2.out.dr hg hp1)
  obtain ⟨q, hq, q0, q1⟩ := quo11 z0 z1
  have hw1 : IntKind.i64.wrap q = q := IntWalk.i64_in _ (by omega)
  have hw2 : IntKind.i64.wrap ((R.length : Int) + q) = (R.length : Int) + q := IntWalk.i64_in _ (by omega)
  clear hd hg D2 O2 z0 z1
  go_wp2_with fail
  refine (next_dr ((R.length : Int) + q) D3.out (by omega)).mono ?_
  rintro e w4 ⟨i, rfl, i0, i1, hd, hg⟩
  have D4 := Lib.hid hd
  have O4 := Lib.hid (O3.out.dr hg hp1)
  have i2 : i ≤ 1001 := by omega
  clear hd hg D3 O3 i1 hw1 hw2 hq q0 q1
  go_wp2_with fail
  refine (next_dr 12 D4.out (by omega)).mono ?_
  rintro e w5 ⟨z, rfl, z0, z1, hd, hg⟩
  have D5 := Lib.hid hd
  have O5 := Lib.hid (O4.out.dr hg hp1)
  obtain ⟨q, hq, q0, q1⟩ := quo11 z0 z1
  have hw1 : IntKind.i64.wrap q = q := IntWalk.i64_in _ (by omega)
  have hw2 : IntKind.i64.wrap ((R.length : Int) + q) = (R.length : Int) + q := IntWalk.i64_in _ (by omega)
  clear hd hg D4 O4 z0 z1
  go_wp2_with fail
  refine (next_dr ((R.length : Int) + q) D5.out (by omega)).mono ?_
  rintro e w6 ⟨t, rfl, t0, t1, hd, hg⟩
  have D6 := Lib.hid hd
  have O6 := Lib.hid (O5.out.dr hg hp1)
  have t2 : t ≤ 1001 := by omega
  clear hd hg D5 O5 t1
  go_wp2
  go_ret3
  exact ⟨_, R, i, t, rfl, O6.out.mono hz1, hl, i0, i2, t0, t2, D6.out.to_below B1.out hp⟩
set_option maxHeartbeats 8000000 in
set_option maxRecDepth 20000 in
theorem DrawChangedParts_any (A : Option Addr) (n cap : Nat) (w : World) (hn : n ≤ 4096) (hc : n ≤ cap) (hb : Bytes w A n w.heap.size) :
    Calls Try.prog 60 #[.slice A n cap] w fun e w' => ∃ v R v2 R2 u L, e = .returned (.tuple #[v, v2, u]) ∧ Own eRule w' w.heap.size 78 v R ∧ R.length ≤ 1000 ∧ Own eRule w' w.heap.size 78 v2 R2 ∧ R2.length ≤ 1000 ∧ Own eUsed w' w.heap.size 33 u L ∧ L.length ≤ 1000 ∧ (∀ x ∈ L, okUsed x) ∧ Below w.heap.size w w' := by
  have HBY := Lib.hid hb
  go_enter Try.func60, Try.ntmps60
  go_wp2_with fail
  refine (l01From_any A n cap w hn hc hb).mono ?_
  rintro e w1 ⟨p, rfl, hp, hs1, hb1⟩
  have S1 : Hid (Src w1 p) := Lib.hid hs1
  have B1 := Lib.hid hb1
  have hz1 := hb1.size
  have hp1 : p < w1.heap.size := hs1.lt
  clear hs1 hb1 hb
  go_wp2_with fail
  refine (DrawMoveRule_any A n cap w1 hn hc (HBY.out.below B1.out)).mono ?_
  rintro e w2 ⟨v, R, i, t, rfl, ho, hl, i0, i1, t0, t1, hb2⟩
  have B2 := Lib.hid hb2
  have hz2 := hb2.size
  have S2 : Hid (Src w2 p) := Lib.hid (S1.out.under hp1 hb2)
  have O2 := Lib.hid ho
  have hl6 : R.length ≤ 1048576 := by omega
  have V2 := Lib.hid (Sl.of_own ho (by unfold big40; omega))
  obtain ⟨M, mc, hM⟩ : ∃ a c, MoveRule_r R i t = (a, c) := ⟨_, _, rfl⟩
  have HM := Lib.hid hM
  have hMl : M.length ≤ 1000 := by
    have h := MoveRule_len1 R i t hl
    rw [hM] at h
    exact h
  clear ho hb2 hM S1
  go_wp2_with fail
  refine (sMoveRule_law v R i t w2 V2.out hl6 (wf_in (by omega) (by omega)) (wf_in (by omega) (by omega))).mono ?_
  rw [HM.out]
  rintro e w3 ⟨vm, rfl, hom, hb3⟩
  have S3 : Hid (Src w3 p) := Lib.hid (S2.out.under (by omega) hb3)
  have O3 := Lib.hid (O2.out.below hb3)
  have OM := Lib.hid hom
  have B3 := Lib.hid (Below.step B2.out hb3)
  have hz3 := hb3.size
  clear hom hb3 S2 O2 V2
  have D3 : Hid (Dr w3 p w3) := Lib.hid (Dr.refl S3.out)
  by_cases hm : mc = 0
  · subst hm
    go_wp2_with fail
    refine (next_dr 3 D3.out (by omega)).mono ?_
    rintro e w4 ⟨z, rfl, z0, z1, hd, hg⟩
    have D4 := Lib.hid hd
    have O4 := Lib.hid (O3.out.dr hg hp1)
    have OM4 := Lib.hid (OM.out.dr hg (by omega))
    have hz4 := hd.size
    clear hd hg D3 O3 OM
    by_cases hz : z = 0
    · subst hz
      go_wp2_with fail
      refine (l25Rules_any p w4 D4.out.1).mono ?_
      rintro e w5 ⟨v5, R5, rfl, ho, hl5, hd⟩
      have D5 := Lib.hid (D4.out.trans hd)
      have O5 := Lib.hid (O4.out.dr hd.2.1 hp1)
      have hz5 := D4.out.size
      have OR := Lib.hid ho
      clear ho hd
      have hz6 := D5.out.size
      have hpB : p < w5.heap.size := by omega
      go_wp2_with fail
      refine (l25List_any p w5 D5.out.1).mono ?_
      rintro e w6 ⟨u, L, rfl, ho, hlL, hk, hd⟩
      have D6 := Lib.hid (D5.out.trans hd)
      have O6 := Lib.hid (O5.out.dr hd.2.1 hp1)
      have OM6 := Lib.hid (OR.out.dr hd.2.1 (by omega))
      have OL := Lib.hid ho
      have HK := Lib.hid hk
      clear ho hd hk
      go_wp2
      go_ret3
      exact ⟨v, R, v5, R5, u, L, rfl, O6.out.mono (by omega), hl, OM6.out.mono (by omega), hl5, OL.out.mono (by omega), hlL, HK.out, D6.out.to_below (Below.step B1.out B3.out) hp⟩
    · have hzb : (z == 0) = false := beq_eq_false_iff_ne.2 hz
      have hz6 := D4.out.size
      have hpB : p < w4.heap.size := by omega
      go_wp2_with fail
      refine (l25List_any p w4 D4.out.1).mono ?_
      rintro e w6 ⟨u, L, rfl, ho, hlL, hk, hd⟩
      have D6 := Lib.hid (D4.out.trans hd)
      have O6 := Lib.hid (O4.out.dr hd.2.1 hp1)
      have OM6 := Lib.hid (OM4.out.dr hd.2.1 (by omega))
      have OL := Lib.hid ho
      have HK := Lib.hid hk
      clear ho hd hk
      go_wp2
      go_ret3
      exact ⟨v, R, vm, M, u, L, rfl, O6.out.mono (by omega), hl, OM6.out.mono (by omega), hMl, OL.out.mono (by omega), hlL, HK.out, D6.out.to_below (Below.step B1.out B3.out) hp⟩
  · have hmb : (mc == 0) = false := beq_eq_false_iff_ne.2 hm
    go_wp2_with fail
    refine (l25Rules_any p w3 D3.out.1).mono ?_
    rintro e w5 ⟨v5, R5, rfl, ho, hl5, hd⟩
    have D5 := Lib.hid (D3.out.trans hd)
    have O5 := Lib.hid (O3.out.dr hd.2.1 hp1)
    have hz5 := D3.out.size
    have OR := Lib.hid ho
    clear ho hd
    have hz6 := D5.out.size
    have hpB : p < w5.heap.size := by omega
    go_wp2_with fail
    refine (l25List_any p w5 D5.out.1).mono ?_
    rintro e w6 ⟨u, L, rfl, ho, hlL, hk, hd⟩
    have D6 := Lib.hid (D5.out.trans hd)
    have O6 := Lib.hid (O5.out.dr hd.2.1 hp1)
    have OM6 := Lib.hid (OR.out.dr hd.2.1 (by omega))
    have OL := Lib.hid ho
    have HK := Lib.hid hk
    clear ho hd hk
    go_wp2
    go_ret3
    exact ⟨v, R, v5, R5, u, L, rfl, O6.out.mono (by omega), hl, OM6.out.mono (by omega), hl5, OL.out.mono (by omega), hlL, HK.out, D6.out.to_below (Below.step B1.out B3.out) hp⟩
end Go.Proofs.Ytncggcbpbejmcaa
