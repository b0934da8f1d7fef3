/- The contract of impl.TightenPlan. No statement of the seat is proved here. -/
import Derived.Deep.RegionLaw
import Derived.Test.YtijmafppdbllfaaPlanP
import Derived.Test.YtijmafppdbllfaaAppAll
import Derived.Test.YtijmafppdbllfaaDraw
namespace Go.Proofs.Ytijmafppdbllfaa
open Go.RowKit
attribute [local go_sem ↓] Go.wp_at_zero Go.wp_at_succ

set_option maxHeartbeats 8000000 in
set_option maxRecDepth 20000 in
theorem iTightenPlan_law (n t s : Int) (w : World) (_ : (Lit.int .i64 n).wf = true) (_ : (Lit.int .i64 t).wf = true) (_ : (Lit.int .i64 s).wf = true) :
    Calls Try.prog 35 #[.int .i64 n, .int .i64 t, .int .i64 s] w fun e w' => ∃ x, e = .returned (.tuple #[x, .int .i64 (TightenPlan_r n t s).2]) ∧ OwnP w' w.heap.size x (TightenPlan_r n t s).1 ∧ Below w.heap.size w w' := by
  rcases hb : tightenB n t s
  · have HR := Lib.hid (Tighten_bad hb)
    have HB := Lib.hid hb
    clear hb
    rw [HR.out]
    go_enter Try.func35, Try.ntmps35
    go_wp2_with fail
    refine (isTighten_any n t s w).mono ?_
    rintro e _ ⟨rfl, rfl⟩
    rw [HB.out]
    go_wp2
    go_ret2
    exact ⟨_, rfl, OwnP.nil_ _ _, Below.refl _ _⟩
  obtain ⟨⟨n3, n12⟩, ⟨t1, t2⟩, s1, s6⟩ := tightenB_bd hb
  obtain ⟨N, rfl⟩ := Int.eq_ofNat_of_zero_le (show 0 ≤ n by omega)
  obtain ⟨S, rfl⟩ := Int.eq_ofNat_of_zero_le (show 0 ≤ s by omega)
  have HR := Lib.hid (Tighten_ok hb)
  have HB := Lib.hid hb
  clear hb
  go_enter Try.func35, Try.ntmps35
  go_wp2_with fail
  refine (isTighten_any N t S w).mono ?_
  rintro e _ ⟨rfl, rfl⟩
  rw [HB.out]
  have HST := Lib.hid (star_at (n := N) (by omega) (by omega))
  have HN0 : Hid (OwnP w w.heap.size (.slice none 0 0) (plan (star N) (tightF t S) 0)) := Lib.hid (OwnP.nil_ _ _)
  have HB0 : Hid (Below w.heap.size w w) := Lib.hid (Below.refl _ _)
  have HSO : Hid (∀ w, Calls Try.prog 62 #[.int .i64 N] w fun e w' => ∃ v, e = .returned v ∧ Own eI w' w.heap.size 2 v (star N) ∧ Below w.heap.size w w') := Lib.hid fun w => starOrder_any N w (by omega) (by omega)
  generalize star N = L at *
  have hL : L.length = N := HST.out.1
  have HL := Lib.hid hL
  clear hL HST
  go_wp2
  go_loopg [8, 9] S (fun gk v k wr => ∃ (j c : Nat), j ≤ S ∧ gk = S - j ∧ c = j + 1 ∧ k = .int .i64 c ∧ Hid (OwnP wr w.heap.size v (plan L (tightF t S) j)) ∧ Hid (Below w.heap.size w wr) ∧ w.heap.size ≤ wr.heap.size)
  case atStart => exact ⟨0, 1, Nat.zero_le _, rfl, rfl, rfl, HN0, HB0, Nat.le_refl _⟩
  case round =>
    obtain ⟨j, c, hj, rfl, hcj, rfl, HO, HBB, hs⟩ := hrel
    clear HN0 HB0
    have HCJ := Lib.hid hcj
    have hc6 : c ≤ 7 := by omega
    have hc1 : 1 ≤ c := by omega
    by_cases hlt : j < S
    · have hcs : (c : Int) ≤ (S : Int) := by omega
      have hm := mul_bd (a := t) (b := (c : Int)) (A := 2000) (B := 7) (by omega) t2 (by omega) (by omega)
      have hmw : IntKind.i64.wrap (t * (c : Int)) = t * (c : Int) := IntWalk.i64_in _ (by omega)
      have HCD : Hid (∀ w, Calls Try.prog 70 #[.int .i64 (t * (c : Int)), .int .i64 S] w fun e w' => e = .returned (.int .i64 (tightF t S j)) ∧ w = w') := Lib.hid fun w => by
        have h := ceilDiv_any (t * (c : Int)) S w (by omega) (by omega) (by omega) (by omega)
        have e : tightF t S j = (t * (c : Int) + S - 1) / S := by unfold tightF upDiv; rw [hcj]; rfl
        rw [e]; exact h
      have hcw : IntKind.i64.wrap ((c : Int) + 1) = (c : Int) + 1 := IntWalk.i64_in _ (by omega)
      clear hm hcj
      go_wp2_with fail
      refine (HSO.out wr).mono ?_
      rintro e w2 ⟨u, rfl, ho, hb2⟩
      have HBW : Hid (Below w.heap.size w w2) := Lib.hid (below_step2 HBB.out hb2 hs)
      have HO2 : Hid (OwnP w2 w.heap.size u8 (planU L (tightF t S) j 0)) := Lib.hid (by rw [planU_zero]; exact HO.out.below hb2)
      have hs2 : w.heap.size ≤ w2.heap.size := Nat.le_trans hs hb2.size
      obtain ⟨g, cap, rfl, hgb, hgl⟩ := World.ownsRow.form ho (by rw [HL.out]; omega)
      have HU : Hid (Own eI w2 w.heap.size 2 (.slice (some ⟨g, 0, none⟩) N cap) L) := Lib.hid (by have h := ho.mono hs; rw [HL.out] at h; exact h)
      rw [HL.out]
      clear ho hb2 hgb hgl HO HBB hs
      have hN9 : (N : Int) ≤ 9223372036854775807 := by omega
      go_wp2
      go_loopg [25, 8] N (fun gi i v wi => ∃ q : Nat, q ≤ N ∧ gi = N - q ∧ i = .int .i64 q ∧ Hid (OwnP wi w.heap.size v (planU L (tightF t S) j q)) ∧ Hid (Own eI wi w.heap.size 2 (.slice (some ⟨g, 0, none⟩) N cap) L) ∧ Hid (Below w.heap.size w wi) ∧ w.heap.size ≤ wi.heap.size)
      case atStart => exact ⟨0, Nat.zero_le _, rfl, rfl, HO2, HU, HBW, hs2⟩
      case round =>
        obtain ⟨q, hq, rfl, rfl, HO, HU1, HBB, hs⟩ := hrel
        clear HO2 HU HBW hs2
        by_cases hqt : q < N
        · have hqL : q < L.length := by rw [HL.out]; exact hqt
          have hcl : wr.cell? ⟨g, q, none⟩ = some (.int .i64 L[q]) := by
            have h0 := HU1.out.ints
            rw [HL.out] at h0
            rw [h0.cellAt q (by omega)]
            simp [List.getElem?_eq_getElem hqL]
          have HPS := Lib.hid (planU_succ L (tightF t S) j q hqL)
          have hpl := planU_len L (tightF t S) j q
          rw [HL.out] at hpl
          have hpl2 : N * j ≤ 12 * 6 := Nat.mul_le_mul (by omega) (by omega)
          have hpl3 : (planU L (tightF t S) j q).length ≤ 1000 := by omega
          have HPL := Lib.hid hpl3
          clear hpl hpl2 hpl3
          generalize tightF t S j = f at *
          generalize L[q] = x at *
          clear hqL
          go_wp2_with fail
          refine (HCD.out wr).mono ?_
          rintro e _ ⟨rfl, rfl⟩
          obtain ⟨bs, g1, g2, g4, g3⟩ := HO.out
          have hbl : bs.length ≤ 1000000000 := by have := HPL.out; omega
          have G1 := Lib.hid g1
          have G2 := Lib.hid g2
          have G3 := Lib.hid g3
          have G4 := Lib.hid g4
          clear g1 g2 g3 g4
          go_wp2_with (at_builtin; refine wpList_app eB rfl _ _ 45 (by rfl) 22 (.slice none 0 0) 24 Try.underlying45 info_rowI rfl (by decide) (by decide) w.heap.size _ bs (by rfl) (by exact G1.out.alloc _) (by exact hbl) (by simp; omega) wr.heap.size _ (by rfl) _ (by rfl) (by simp) ?_)
          intro v4 w4 hO4 hB4 hG4 _ hs4
          have HOP : Hid (OwnP w4 w.heap.size v4 (planU L (tightF t S) j (q + 1))) := Lib.hid (by rw [HPS.out]; exact OwnP.app G1.out G2.out G4.out G3.out hs hO4 hG4)
          have HU4 := Lib.hid (Own.kept (HU1.out.alloc _) hG4 (own_ne_type G1.out HU1.out (by decide)))
          have HB4 : Hid (Below w.heap.size w w4) := Lib.hid ((HBB.out.alloc hs _).trans hB4)
          have hs5 : w.heap.size ≤ w4.heap.size := HB4.out.size
          clear hO4 hB4 hG4 hs4 G1 G2 G3 G4 hbl
          go_wp2
          go_roundg (N - (q + 1))
          case measure => omega
          case rel => exact ⟨q + 1, by omega, rfl, by go_num, HOP, HU4, HB4, hs5⟩
        · obtain rfl : q = N := by omega
          have HOP : Hid (OwnP wr w.heap.size u8 (plan L (tightF t S) (j + 1))) := Lib.hid (by rw [← planU_all L (tightF t S) j q (by rw [HL.out]; omega)]; exact HO.out)
          go_wp2
          go_roundg (S - (j + 1))
          case measure => omega
          case rel => exact ⟨j + 1, c + 1, by omega, rfl, by have := HCJ.out; omega, by go_num, HOP, HBB, hs⟩
    · obtain rfl : j = S := by omega
      have hcs : ¬ ((c : Int) ≤ (j : Int)) := by omega
      go_wp2
      go_ret2
      rw [HR.out]
      exact ⟨_, rfl, HO.out, HBB.out⟩
end Go.Proofs.Ytijmafppdbllfaa
