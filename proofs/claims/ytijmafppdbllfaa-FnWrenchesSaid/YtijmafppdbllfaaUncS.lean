/- The contract of spec.UncoveredTorques. No statement of the seat is proved here. -/
import Derived.Test.YtijmafppdbllfaaUncP
import Derived.Test.YtijmafppdbllfaaOwnI
import Derived.Test.YtijmafppdbllfaaStar
namespace Go.Proofs.Ytijmafppdbllfaa
open Go.RowKit
attribute [local go_sem ↓] Go.wp_at_zero Go.wp_at_succ

theorem wrFor_cov {xs : List Wrench} {k : Nat} (hA : areWrenches xs = true) (hk : k < 2000) : (WrenchFor_r xs ((k : Int) + 1)).2 = if cov xs ((k : Int) + 1) then 0 else 4 := by
  have hc : wrCode xs ((k : Int) + 1) = 0 := by unfold wrCode; rw [if_pos hA, if_pos (by rw [inR_iff]; omega)]
  rcases h : cov xs ((k : Int) + 1)
  · rw [WrenchFor_none hc (bestW_cov'.2 h)]; rfl
  · rw [WrenchFor_some hc (fun h2 => by rw [bestW_cov'.1 h2] at h; cases h)]; rfl
theorem own_cellB {w : World} {base g n cap k : Nat} {bs : List Nat} (h : Own eB w base 22 (.slice (some ⟨g, 0, none⟩) n cap) bs) {q : Nat} (hq : bs[k]? = some q) : w.cell? ⟨g, k, none⟩ = some (.slice (some ⟨q, 0, none⟩) 2 2) := by
  obtain rfl := h.row
  obtain ⟨hk, hq2⟩ := List.getElem?_eq_some_iff.1 hq
  have h0 : w.ownsRow base 22 1 (.slice (some ⟨g, 0, none⟩) bs.length cap) bs.length (eB.all bs) := h
  rw [h0.cellAt k (by omega)]
  have h6 := eB.at_ bs k hk 0 (by decide)
  have e : k * eB.sz + 0 = k := by simp [eB]
  rw [e] at h6
  rw [h6, hq2]
  rfl
set_option maxHeartbeats 8000000 in
set_option maxRecDepth 20000 in
theorem sUncoveredTorques_law (v : Value) (xs : List Wrench) (w : World) (hv : Sl eWrench w v xs) (hxl : xs.length ≤ 1048576) :
    Calls Try.prog 41 #[v] w fun e w' => ∃ x, e = .returned (.tuple #[x, .int .i64 (UncoveredTorques_r xs).2]) ∧ OwnP w' w.heap.size x (UncoveredTorques_r xs).1 ∧ Below w.heap.size w w' := by
  rcases hA : areWrenches xs
  · have HR := Lib.hid (Unc_bad hA)
    have HA : Hid (wrCode xs 1 = 1) := Lib.hid (wrCode_bad hA)
    clear hA
    rw [HR.out]
    go_enter Try.func41, Try.ntmps41
    go_wp2_with fail
    refine (l26Wrenches_any v xs 1 w hv).mono ?_
    rintro e w1 ⟨rfl, hb⟩
    rw [HA.out]
    go_wp2
    go_ret2
    exact ⟨_, rfl, OwnP.nil_ _ _, hb⟩
  have HR := Lib.hid (Unc_ok hA)
  have HC1 : Hid (wrCode xs 1 = 0) := Lib.hid (by unfold wrCode; rw [if_pos hA]; rfl)
  have HWF : Hid (∀ k : Nat, k < 2000 → (WrenchFor_r xs ((k : Int) + 1)).2 = if cov xs ((k : Int) + 1) then 0 else 4) := Lib.hid fun k hk => wrFor_cov hA hk
  clear hA
  go_enter Try.func41, Try.ntmps41
  go_wp2_with fail
  refine (l26Wrenches_any v xs 1 w hv).mono ?_
  rintro e w1 ⟨rfl, hb⟩
  rw [HC1.out]
  have HV1 : Hid (Sl eWrench (w1.alloc (.cells #[] 22)) v xs) := Lib.hid ((hv.below hb).alloc _)
  have HB1 : Hid (Below w.heap.size w (w1.alloc (.cells #[] 22))) := Lib.hid (hb.alloc hb.size _)
  have HP1 : Hid (OwnP (w1.alloc (.cells #[] 22)) w.heap.size (.slice (some ⟨w1.heap.size, 0, none⟩) 0 0) (unc xs 0)) := Lib.hid (OwnP.empty w1 w.heap.size hb.size)
  have hs1 : w.heap.size ≤ (w1.alloc (.cells #[] 22)).heap.size := HB1.out.size
  have HVW := Lib.hid hv
  clear hb hv
  go_wp2
  generalize w1.alloc (.cells #[] 22) = w2 at *
  go_loopg [5, 6] 2000 (fun gi o t wr => ∃ k : Nat, k ≤ 2000 ∧ gi = 2000 - k ∧ t = .int .i64 ((k : Int) + 1) ∧ Hid (OwnP wr w.heap.size o (unc xs k)) ∧ Hid (Below w.heap.size w wr) ∧ w.heap.size ≤ wr.heap.size)
  case atStart => exact ⟨0, Nat.zero_le _, rfl, by go_num, HP1, HB1, hs1⟩
  case round =>
    obtain ⟨k, hk, rfl, rfl, HP, HB, hs⟩ := hrel
    clear HV1 HB1 HP1 hs1
    have hkw : IntKind.i64.wrap ((k : Int) + 1 + 1) = (k : Int) + 1 + 1 := IntWalk.i64_in _ (by omega)
    have hkw2 : IntKind.i64.wrap ((k : Int) + 1 - 1) = (k : Int) := by rw [show (k : Int) + 1 - 1 = (k : Int) by omega]; exact IntWalk.i64_in _ (by omega)
    by_cases hlt : k < 2000
    · have hle : (k : Int) + 1 ≤ 2000 := by omega
      have wt : (Lit.int .i64 ((k : Int) + 1)).wf = true := by simp [Lit.wf, IntKind.min, IntKind.max, IntKind.signed, IntKind.bits]; omega
      go_wp2_with fail
      refine (sWrenchFor_law v xs ((k : Int) + 1) wr (HVW.out.below HB.out) hxl wt).mono ?_
      rintro e w3 ⟨rfl, hb3⟩
      rw [HWF.out k hlt]
      have HP3 := Lib.hid (HP.out.below hb3)
      have HB3 := Lib.hid (below_step2 HB.out hb3 hs)
      have hs3 : w.heap.size ≤ w3.heap.size := Nat.le_trans hs hb3.size
      have hul := unc_len xs k
      obtain ⟨bs, g1, g2, g4, g3⟩ := HP3.out
      clear HP HB hs hb3 wt
      generalize (WrenchFor_r xs ((k : Int) + 1)).1 = wf1 at *
      rcases hcv : cov xs ((k : Int) + 1)
      rotate_left
      · have HU := Lib.hid (unc_cov hcv)
        obtain ⟨Ao, co, eo, _, _, _⟩ := (RdP.of_own HP3.out (by unfold big40; omega)).shape
        subst eo
        clear hcv g1 g2 g3 g4
        go_wp2
        go_roundg (2000 - (k + 1))
        case measure => omega
        case rel => exact ⟨k + 1, by omega, rfl, by go_num, Lib.hid (by rw [HU.out]; exact HP3.out), HB3, hs3⟩
      · have HNEW := Lib.hid (unc_new hcv)
        have HBUMP := Lib.hid (unc_bump hcv)
        clear hcv
        generalize unc xs k = ps at *
        have G1 := Lib.hid g1
        have G2 := Lib.hid g2
        have G3 := Lib.hid g3
        have G4 := Lib.hid g4
        clear HP3 g3 g4
        rcases Nat.eq_zero_or_pos ps.length with h0 | h0
        · have HU := Lib.hid (HNEW.out (by omega))
          obtain rfl : ps = [] := List.eq_nil_of_length_eq_zero h0
          obtain rfl : bs = [] := List.eq_nil_of_length_eq_zero (by rw [g2]; rfl)
          obtain ⟨Ao, co, rfl, _, _, _⟩ := Sl.shape (Sl.of_own g1 (by simp))
          clear h0 g1 g2
          simp only [List.length_nil]
          have hbl : ([] : List Nat).length ≤ 1000000000 := by simp
          go_wp2_with (at_builtin; refine wpList_app eB rfl _ _ 45 (by rfl) 22 (.slice none 0 0) 24 Try.underlying45 info_rowI rfl (by decide) (by decide) w.heap.size _ [] (by rfl) (by exact G1.out.alloc _) (by exact hbl) (by simp; omega) w3.heap.size _ (by rfl) _ (by rfl) (by simp) ?_)
          intro v5 w5 hO5 hB5 hG5 _ _
          have HOP : Hid (OwnP w5 w.heap.size v5 (unc xs (k + 1))) := Lib.hid (by rw [HU.out]; exact OwnP.app G1.out G2.out G4.out G3.out hs3 hO5 hG5)
          have HB6 : Hid (Below w.heap.size w w5) := Lib.hid ((HB3.out.alloc hs3 _).trans hB5)
          have hs6 : w.heap.size ≤ w5.heap.size := HB6.out.size
          clear hO5 hB5 hG5 G1 G2 G3 G4 hbl
          go_wp2
          go_roundg (2000 - (k + 1))
          case measure => omega
          case rel => exact ⟨k + 1, by omega, rfl, by go_num, HOP, HB6, hs6⟩
        · obtain ⟨n, hn⟩ : ∃ n, ps.length = n + 1 := ⟨ps.length - 1, by omega⟩
          obtain ⟨g, cap, rfl, hbg, hgl⟩ := World.ownsRow.form g1 (by omega)
          have hbn : bs.length = n + 1 := by omega
          rw [hbn] at g1 ⊢
          obtain ⟨q, hq⟩ : ∃ q, bs[n]? = some q := ⟨_, List.getElem?_eq_getElem (show n < bs.length by omega)⟩
          obtain ⟨p, hp⟩ : ∃ p, ps[n]? = some p := ⟨_, List.getElem?_eq_getElem (show n < ps.length by omega)⟩
          have hq1 := own_cellB g1 hq
          have HQ := Lib.hid hq
          obtain ⟨hb0, hpa⟩ := G3.out n q p hq hp
          have hlast : ps.getD (ps.length - 1) (0, 0) = p := by rw [hn, Nat.add_sub_cancel, List.getD_eq_getElem?_getD, hp]; rfl
          have HLAST := Lib.hid hlast
          have HBM : Hid (bump ps ((k : Int) + 1) = ps.set n (p.1, (k : Int) + 1)) := Lib.hid (by unfold bump; rw [hlast, hn, Nat.add_sub_cancel])
          have HPN : Hid (n < ps.length) := Lib.hid (by omega)
          have HN1 : Hid (ps.length = n + 1) := Lib.hid hn
          have hn2000 : n + 1 ≤ 2000 := by omega
          clear hn hbn h0 hlast
          have HPA := Lib.hid hpa
          have hc1 := hpa.c1
          have hn1 : IntKind.i64.wrap (((n + 1 : Nat) : Int) - 1) = (n : Int) := by rw [show ((n + 1 : Nat) : Int) - 1 = (n : Int) by omega]; exact IntWalk.i64_in _ (by omega)
          have hn2 : (0 : Int) < ((n + 1 : Nat) : Int) := by omega
          have hn3 : (n : Int) < ((n + 1 : Nat) : Int) := by omega
          have hn4 : (0 : Int) ≤ (n : Int) := by omega
          clear hq hp hpa hbg hgl g2
          by_cases hpk : p.2 = k
          · have hpb : (p.2 == (k : Int)) = true := beq_iff_eq.2 hpk
            have HU := Lib.hid (HBUMP.out (by have := HPN.out; omega) (by rw [HLAST.out]; exact hpk))
            have hoq := HPA.out.own hb0
            obtain ⟨_, hfr⟩ := hoq.cellI 1 (by simp)
            obtain ⟨hst1, hst2⟩ := hoq.setI 1 ((k : Int) + 1)
            have hpa2 : PairAt (w3.setCell ⟨q, 1, none⟩ (.int .i64 ((k : Int) + 1))) q (p.1, (k : Int) + 1) := PairAt.of_own hst1
            have hset := OwnP.set (k := n) G1.out G2.out G4.out G3.out HPN.out HQ.out hpa2 hst2
            have HOP : Hid (OwnP (w3.setCell ⟨q, 1, none⟩ (.int .i64 ((k : Int) + 1))) w.heap.size (.slice (some ⟨g, 0, none⟩) (n + 1) cap) (unc xs (k + 1))) := Lib.hid (by
              rw [HU.out, HBM.out]
              exact ⟨bs, by have h := hset.1; rw [show bs.length = n + 1 by rw [G2.out, HN1.out]] at h; exact h, hset.2⟩)
            have HB6 : Hid (Below w.heap.size w (w3.setCell ⟨q, 1, none⟩ (.int .i64 ((k : Int) + 1)))) := Lib.hid (HB3.out.setCell hb0 _)
            have hs6 : w.heap.size ≤ (w3.setCell ⟨q, 1, none⟩ (.int .i64 ((k : Int) + 1))).heap.size := HB6.out.size
            clear hoq hst1 hst2 hpa2 hset hpk g1
            go_wp2
            go_roundg (2000 - (k + 1))
            case measure => omega
            case rel => exact ⟨k + 1, by omega, rfl, by go_num, HOP, HB6, hs6⟩
          · have hpb : (p.2 == (k : Int)) = false := beq_eq_false_iff_ne.2 hpk
            have HU := Lib.hid (HNEW.out (fun h => hpk (by have h2 := h.2; rw [HLAST.out] at h2; exact h2)))
            clear hpk
            have hbl : bs.length ≤ 1000000000 := by rw [G2.out, HN1.out]; omega
            go_wp2_with (at_builtin; refine wpList_app eB rfl _ _ 45 (by rfl) 22 (.slice none 0 0) 24 Try.underlying45 info_rowI rfl (by decide) (by decide) w.heap.size _ bs (by rfl) (by have h := G1.out; rw [show bs.length = n + 1 by rw [G2.out, HN1.out]] at h; exact h.alloc _) (by exact hbl) (by simp; omega) w3.heap.size _ (by rfl) _ (by rfl) (by simp) ?_)
            intro v5 w5 hO5 hB5 hG5 _ _
            have HOP : Hid (OwnP w5 w.heap.size v5 (unc xs (k + 1))) := Lib.hid (by rw [HU.out]; exact OwnP.app (show Own eB w3 w.heap.size 22 _ bs from g1) G2.out G4.out G3.out hs3 hO5 hG5)
            have HB6 : Hid (Below w.heap.size w w5) := Lib.hid ((HB3.out.alloc hs3 _).trans hB5)
            have hs6 : w.heap.size ≤ w5.heap.size := HB6.out.size
            clear hO5 hB5 hG5 G1 G2 G3 G4 hbl
            go_wp2
            go_roundg (2000 - (k + 1))
            case measure => omega
            case rel => exact ⟨k + 1, by omega, rfl, by go_num, HOP, HB6, hs6⟩
    · obtain rfl : k = 2000 := by omega
      have hle : ¬ (((2000 : Nat) : Int) + 1 ≤ 2000) := by omega
      go_wp2
      go_ret2
      rw [HR.out]
      exact ⟨_, rfl, HP.out, HB.out⟩
end Go.Proofs.Ytijmafppdbllfaa
