/- The contract of spec.TightenPlan. No statement of the seat is proved here. -/
import Derived.Deep.RegionLaw
import Derived.Test.YtijmafppdbllfaaPlanP
import Derived.Test.YtijmafppdbllfaaAppAll
import Derived.Test.YtijmafppdbllfaaDraw
namespace Go.Proofs.Ytijmafppdbllfaa
open Go.RowKit
attribute [local go_sem ↓] Go.wp_at_zero Go.wp_at_succ

set_option maxHeartbeats 8000000 in
set_option maxRecDepth 20000 in
theorem sTightenPlan_law (n t s : Int) (w : World) (_ : (Lit.int .i64 n).wf = true) (_ : (Lit.int .i64 t).wf = true) (_ : (Lit.int .i64 s).wf = true) :
    Calls Try.prog 34 #[.int .i64 n, .int .i64 t, .int .i64 s] w fun e w' => ∃ x, e = .returned (.tuple #[x, .int .i64 (TightenPlan_r n t s).2]) ∧ OwnP w' w.heap.size x (TightenPlan_r n t s).1 ∧ Below w.heap.size w w' := by
  rcases hb : tightenB n t s
  · have HR := Lib.hid (Tighten_bad hb)
    have HB := Lib.hid hb
    clear hb
    rw [HR.out]
    go_enter Try.func34, Try.ntmps34
    go_wp2_with fail
    refine (l26Code_any n t s w).mono ?_
    rintro e _ ⟨rfl, rfl⟩
    rw [HB.out]
    go_wp2
    go_ret2
    exact ⟨_, rfl, OwnP.nil_ _ _, Below.refl _ _⟩
  obtain ⟨⟨n3, n12⟩, ⟨t1, t2⟩, s1, s6⟩ := tightenB_bd hb
  obtain ⟨N, rfl⟩ := Int.eq_ofNat_of_zero_le (show 0 ≤ n by omega)
  obtain ⟨S, rfl⟩ := Int.eq_ofNat_of_zero_le (show 0 ≤ s by omega)
  have HR := Lib.hid (Tighten_ok hb)
  have HB := Lib.hid hb
  clear hb
  go_enter Try.func34, Try.ntmps34
  go_wp2_with fail
  refine (l26Code_any N t S w).mono ?_
  rintro e _ ⟨rfl, rfl⟩
  rw [HB.out]
  have HST := Lib.hid (star_at (n := N) (by omega) (by omega))
  have HSO : Hid (∀ w, Calls Try.prog 61 #[.int .i64 N] w fun e w' => ∃ v, e = .returned v ∧ Own eI w' w.heap.size 2 v (star N) ∧ Below w.heap.size w w') := Lib.hid fun w => l26Star_any N w (by omega) (by omega)
  generalize star N = L at *
  have hL : L.length = N := HST.out.1
  have HL := Lib.hid hL
  clear hL HST
  have HP0 : Hid (OwnP (w.alloc (.cells #[] 22)) w.heap.size (.slice (some ⟨w.heap.size, 0, none⟩) 0 0) (plan L (tightF t S) 0)) := Lib.hid (OwnP.empty _ _ (Nat.le_refl _))
  have HW0 : Hid (Below w.heap.size w (w.alloc (.cells #[] 22))) := Lib.hid ((Below.refl _ _).alloc (Nat.le_refl _) _)
  have hw0 : w.heap.size ≤ (w.alloc (.cells #[] 22)).heap.size := by simp
  go_wp2_with fail
  generalize w.alloc (.cells #[] 22) = w1 at *
  refine (HSO.out w1).mono ?_
  rintro e w2 ⟨u, rfl, ho, hb2⟩
  have HBW : Hid (Below w.heap.size w w2) := Lib.hid (below_step2 HW0.out hb2 hw0)
  have HO2 : Hid (OwnP w2 w.heap.size (.slice (some ⟨w.heap.size, 0, none⟩) 0 0) (plan L (tightF t S) 0)) := Lib.hid (HP0.out.below hb2)
  have hs2 : w.heap.size ≤ w2.heap.size := Nat.le_trans hw0 hb2.size
  obtain ⟨g, cap, rfl, hgb, hgl⟩ := World.ownsRow.form ho (by rw [HL.out]; omega)
  have HU : Hid (Own eI w2 w.heap.size 2 (.slice (some ⟨g, 0, none⟩) N cap) L) := Lib.hid (by have h := ho.mono hw0; rw [HL.out] at h; exact h)
  rw [HL.out]
  clear ho hb2 hgb hgl HSO HP0 HW0 hw0
  have hN9 : (N : Int) ≤ 9223372036854775807 := by omega
  go_wp2
  go_loopg [9, 11] S (fun gk v k wr => ∃ (j c : Nat), j ≤ S ∧ gk = S - j ∧ c ≤ j + 1 ∧ j + 1 ≤ c ∧ k = .int .i64 c ∧ Hid (OwnP wr w.heap.size v (plan L (tightF t S) j)) ∧ Hid (Own eI wr w.heap.size 2 (.slice (some ⟨g, 0, none⟩) N cap) L) ∧ Hid (Below w.heap.size w wr) ∧ w.heap.size ≤ wr.heap.size)
  case atStart => exact ⟨0, 1, Nat.zero_le _, rfl, by omega, by omega, rfl, HO2, HU, HBW, hs2⟩
  case round =>
    obtain ⟨j, c, hj, rfl, hcj1, hcj2, rfl, HO, HU1, HBB, hs⟩ := hrel
    clear HO2 HU HBW hs2
    have hc6 : c ≤ 7 := by omega
    have hc1 : 1 ≤ c := by omega
    by_cases hlt : j < S
    · have hcs : (c : Int) ≤ (S : Int) := by omega
      have hm := mul_bd (a := t) (b := (c : Int)) (A := 2000) (B := 7) (by omega) t2 (by omega) (by omega)
      have hmw : IntKind.i64.wrap (t * (c : Int)) = t * (c : Int) := IntWalk.i64_in _ (by omega)
      have HCD : Hid (∀ w, Calls Try.prog 68 #[.int .i64 (t * (c : Int)), .int .i64 S] w fun e w' => e = .returned (.int .i64 (tightF t S j)) ∧ w = w') := Lib.hid fun w => by
        have h := l01Ceil_any (t * (c : Int)) S w (by omega) (by omega) (by omega) (by omega)
        have e : tightF t S j = -(-(t * (c : Int)) / S) := by unfold tightF upDiv; rw [ceil_eq _ _ (by omega), show (c : Int) = (j : Int) + 1 by omega]
        rw [e]; exact h
      have hcw : IntKind.i64.wrap ((c : Int) + 1) = (c : Int) + 1 := IntWalk.i64_in _ (by omega)
      have HP2 : Hid (OwnP wr w.heap.size u9 (planU L (tightF t S) j 0)) := Lib.hid (by rw [planU_zero]; exact HO.out)
      clear hm HO
      go_wp2
      go_loopg [12, 9] N (fun gi i v wi => ∃ (q : Nat), q ≤ N ∧ gi = N - q ∧ i = .int .i64 q ∧ Hid (OwnP wi w.heap.size v (planU L (tightF t S) j q)) ∧ Hid (Own eI wi w.heap.size 2 (.slice (some ⟨g, 0, none⟩) N cap) L) ∧ Hid (Below w.heap.size w wi) ∧ w.heap.size ≤ wi.heap.size)
      case atStart => exact ⟨0, Nat.zero_le _, rfl, rfl, HP2, HU1, HBB, hs⟩
      case round =>
        obtain ⟨q, hq, rfl, rfl, HO, HU1, HBB, hs⟩ := hrel
        clear HP2
        by_cases hqt : q < N
        · have hqi : (q : Int) < (N : Int) := by omega
          have hq0 : (0 : Int) ≤ (q : Int) := by omega
          have hqL : q < L.length := by rw [HL.out]; exact hqt
          have hcl0 : wr.cell? ⟨g, q, none⟩ = some (.int .i64 L[q]) := by
            have h0 := HU1.out.ints
            rw [HL.out] at h0
            rw [h0.cellAt q (by omega)]
            simp [List.getElem?_eq_getElem hqL]
          have HPS := Lib.hid (planU_succ L (tightF t S) j q hqL)
          have hpl := planU_len L (tightF t S) j q
          rw [HL.out] at hpl
          have hpl2 : N * j ≤ 12 * 6 := Nat.mul_le_mul (by omega) (by omega)
          have hpl3 : (planU L (tightF t S) j q).length ≤ 1000 := by omega
          have HPL := Lib.hid hpl3
          clear hpl hpl2 hpl3
          generalize tightF t S j = f at *
          generalize L[q] = x at *
          clear hqL
          obtain ⟨bs, g1, g2, g4, g3⟩ := HO.out
          have hbl : bs.length ≤ 1000000000 := by have := HPL.out; omega
          have G1 : Hid (Own eB wr.drew w.heap.size 22 u9 bs) := Lib.hid (Own.drew g1)
          have G2 := Lib.hid g2
          have G3 : Hid (∀ (k b : Nat) (p : Int × Int), bs[k]? = some b → (planU L _ j q)[k]? = some p → w.heap.size ≤ b ∧ PairAt wr.drew b p) := Lib.hid g3
          have G4 := Lib.hid g4
          have HU2 : Hid (Own eI wr.drew w.heap.size 2 (.slice (some ⟨g, 0, none⟩) N cap) L) := Lib.hid (Own.drew HU1.out)
          have HB2 : Hid (Below w.heap.size w wr.drew) := Lib.hid HBB.out.drew
          have hs2 : w.heap.size ≤ wr.drew.heap.size := hs
          clear g1 g2 g3 g4
          go_wp2
          have HLB : Hid (bs.length + [wr.heap.size].length ≤ 1000000000) := Lib.hid (by have := G2.out; have := HPL.out; simp only [List.length_cons, List.length_nil]; omega)
          have ONE : Hid (Sl eB ((wr.drew.alloc (.cells #[.int .i64 x, .int .i64 f] 2)).alloc (.cells #[.slice (some ⟨wr.heap.size, 0, none⟩) 2 2] 22)) (.slice (some ⟨wr.heap.size + 1, 0, none⟩) 1 1) [wr.heap.size]) := Lib.hid (by
            have h := Sl.one_new eB (wr.drew.alloc (.cells #[.int .i64 x, .int .i64 f] 2)) wr.heap.size #[.slice (some ⟨wr.heap.size, 0, none⟩) 2 2] 22 rfl
            rw [World.size_alloc] at h
            exact h)
          have OWB : Hid (Own eB ((wr.drew.alloc (.cells #[.int .i64 x, .int .i64 f] 2)).alloc (.cells #[.slice (some ⟨wr.heap.size, 0, none⟩) 2 2] 22)) w.heap.size 22 u9 bs) := Lib.hid ((G1.out.alloc _).alloc _)
          have SZB : Hid (w.heap.size ≤ ((wr.drew.alloc (.cells #[.int .i64 x, .int .i64 f] 2)).alloc (.cells #[.slice (some ⟨wr.heap.size, 0, none⟩) 2 2] 22)).heap.size) := Lib.hid (by simp; omega)
          go_region_law (first | (go_simp; go_at_call 68; refine (HCD.out _).mono ?_; rintro e _ ⟨rfl, rfl⟩) | (refine step_app_all eB rfl _ _ 45 (by rfl) 22 (.slice none 0 0) 24 Try.underlying45 info_rowI rfl (by decide) (by decide) w.heap.size _ bs (by rfl) OWB.out _ [wr.heap.size] (by rfl) ONE.out HLB.out SZB.out ?_; intro v4 w4 hO4 hB4 hG4 _))
          all_goals
            have hG5 : (wr.drew.alloc (.cells #[.int .i64 x, .int .i64 f] 2)).grownBy w4 u9.ownBlock := grown_tr (World.grownBy_alloc _ _ _) hG4
            have HOP : Hid (OwnP w4 w.heap.size v4 (planU L (tightF t S) j (q + 1))) := Lib.hid (by rw [HPS.out]; exact OwnP.app (w := wr.drew) G1.out G2.out G4.out G3.out hs2 hO4 hG5)
            have HU4 := Lib.hid (Own.kept (HU2.out.alloc _) hG5 (own_ne_type G1.out HU2.out (by decide)))
            have HB4 : Hid (Below w.heap.size w w4) := Lib.hid (((HB2.out.alloc hs2 _).alloc (by simp; omega) _).trans hB4)
            have hs5 : w.heap.size ≤ w4.heap.size := HB4.out.size
            clear hO4 hB4 hG4 G1 G2 G3 G4 hbl hG5 ONE OWB SZB HLB
            go_wp2
            go_roundg (N - (q + 1))
            case measure => omega
            case rel => exact ⟨q + 1, by omega, rfl, by go_num, HOP, HU4, HB4, hs5⟩
        · obtain rfl : q = N := by omega
          have hqi : ¬ ((q : Int) < (q : Int)) := by omega
          have HOP : Hid (OwnP wr w.heap.size u9 (plan L (tightF t S) (j + 1))) := Lib.hid (by rw [← planU_all L (tightF t S) j q (by rw [HL.out]; omega)]; exact HO.out)
          go_wp2
          go_roundg (S - (j + 1))
          case measure => omega
          case rel => exact ⟨j + 1, c + 1, by omega, rfl, by omega, by omega, by go_num, HOP, HU1, HBB, hs⟩
    · obtain rfl : j = S := by omega
      have hcs : ¬ ((c : Int) ≤ (j : Int)) := by omega
      go_wp2
      go_ret2
      rw [HR.out]
      exact ⟨_, rfl, HO.out, HBB.out⟩
end Go.Proofs.Ytijmafppdbllfaa
