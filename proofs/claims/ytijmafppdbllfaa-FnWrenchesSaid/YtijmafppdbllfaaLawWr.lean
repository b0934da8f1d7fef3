/- The walk of the statement on wrenches (P26). No statement of the seat is proved here. -/
import Derived.Test.YtijmafppdbllfaaWrLaw
import Derived.Test.YtijmafppdbllfaaUncI
import Derived.Test.YtijmafppdbllfaaUncS
import Derived.Test.YtijmafppdbllfaaDrawTools
namespace Go.Proofs.Ytijmafppdbllfaa
open Go.RowKit

set_option maxHeartbeats 16000000 in
set_option maxRecDepth 20000 in
theorem walk_FnWrenches (a0 : Option Addr) (len0 cap0 : Nat) (z0 : List Int) (w : World) (p0 : IsRow .u8 w a0 len0 cap0 z0) :
    Calls Try.prog 12 #[.slice a0 len0 cap0] w fun e w' => e = .returned (.bool true) ∧ Below w.heap.size w w' := by
  obtain ⟨hcap, hby⟩ := p0.bytes
  have hmax := p0.max
  by_cases hbig : 4096 < len0
  · have HD : Hid (decide (4096 < len0) = true) := Lib.hid (decide_eq_true hbig)
    go_enter Try.func12, Try.ntmps12
    go_wp2_with fail
    refine (big_any a0 len0 cap0 w hmax).mono ?_
    rintro e w1 ⟨rfl, rfl⟩
    rw [HD.out]
    go_wp2
    go_ret
    exact ⟨rfl, Below.refl _ _⟩
  have HD : Hid (decide (4096 < len0) = false) := Lib.hid (decide_eq_false hbig)
  go_enter Try.func12, Try.ntmps12
  go_wp2_with fail
  refine (big_any a0 len0 cap0 w hmax).mono ?_
  rintro e w1 ⟨rfl, rfl⟩
  rw [HD.out]
  go_wp2_with fail
  refine (DrawWrenchFor_any a0 len0 cap0 w (by omega) hcap hby).mono ?_
  rintro e w2 ⟨v, xs, t, rfl, ho, hl, ⟨t0, t1⟩, hb2⟩
  have wt : (Lit.int .i64 t).wf = true := by simp [Lit.wf, IntKind.min, IntKind.max, IntKind.signed, IntKind.bits]; omega
  have hl2 : xs.length ≤ 1048576 := by omega
  have V2 := Lib.hid (Sl.of_own ho (big_of hl2))
  have B2 := Lib.hid hb2
  clear hby p0 ho hb2 hbig hmax hcap
  go_wp2_with fail
  refine (iWrenchFor_law v xs t w2 V2.out hl2 wt).mono ?_
  rintro e w3 ⟨rfl, hb⟩
  have V3 := Lib.hid (V2.out.below hb)
  have B3 := Lib.hid (Below.step B2.out hb)
  clear hb V2 B2
  go_wp2_with fail
  refine (sWrenchFor_law v xs t w3 V3.out hl2 wt).mono ?_
  rintro e w4 ⟨rfl, hb⟩
  have V4 := Lib.hid (V3.out.below hb)
  have B4 := Lib.hid (Below.step B3.out hb)
  clear hb V3 B3
  go_wp2_with fail
  refine (iUncoveredTorques_law v xs w4 V4.out hl2).mono ?_
  rintro e w5 ⟨u1, rfl, ho5, hb⟩
  have V5 := Lib.hid (V4.out.below hb)
  have B5 := Lib.hid (Below.step B4.out hb)
  have R5 := Lib.hid (RdP.of_own ho5 (big_of (UncoveredTorques_len xs)))
  clear hb V4 B4 ho5
  go_wp2_with fail
  refine (sUncoveredTorques_law v xs w5 V5.out hl2).mono ?_
  rintro e w6 ⟨u2, rfl, ho6, hb⟩
  have V6 := Lib.hid (V5.out.below hb)
  have B6 := Lib.hid (Below.step B5.out hb)
  have R6 := Lib.hid (R5.out.below hb)
  have R7 := Lib.hid (RdP.of_own ho6 (big_of (UncoveredTorques_len xs)))
  clear hb V5 B5 R5 ho6 wt
  rcases hA : areWrenches xs
  · have hW : WrenchFor_r xs t = (0, 1) := WrenchFor_bad (wrCode_bad hA) (by decide)
    rw [hW]
    rw [Unc_bad hA] at R6 R7 ⊢
    clear hW hA
    go_wp2_with fail
    refine (likeRows_same u1 u2 _ w6 R6.out R7.out).mono ?_
    rintro e w8 ⟨rfl, m, rfl⟩
    go_wp2
    go_ret
    exact ⟨rfl, below_drewN' B6.out _⟩
  rcases hT : inR t 1 2000
  · have hW : WrenchFor_r xs t = (0, 2) := WrenchFor_bad (by unfold wrCode; rw [if_pos hA, hT]; rfl) (by decide)
    rw [hW]
    rw [Unc_ok hA] at R6 R7 ⊢
    clear hW hA hT
    go_wp2_with fail
    refine (likeRows_same u1 u2 _ w6 R6.out R7.out).mono ?_
    rintro e w8 ⟨rfl, m, rfl⟩
    go_wp2
    go_ret
    exact ⟨rfl, below_drewN' B6.out _⟩
  have hc0 : wrCode xs t = 0 := by unfold wrCode; rw [if_pos hA, if_pos hT]
  obtain ⟨t2, t3⟩ := inR_iff.1 hT
  rw [Unc_ok hA] at R6 R7 ⊢
  change Hid (RdP w6 u1 (unc xs 2000)) at R6
  change Hid (RdP w6 u2 (unc xs 2000)) at R7
  have hok := uncOk xs 2000
  have HIN : Hid ((unc xs 2000).any (inP t) = !cov xs t) := Lib.hid (hok.a t t2 t3)
  have HBD : Hid (∀ p ∈ unc xs 2000, 1 ≤ p.1 ∧ p.1 ≤ p.2 ∧ p.2 ≤ 2000) := Lib.hid hok.b
  have HPW : Hid ((unc xs 2000).Pairwise fun p q => p.2 + 1 < q.1) := Lib.hid hok.c
  have hpl := unc_len xs 2000
  have HW : Hid ((cov xs t = true → ∃ j : Nat, j < xs.length ∧ WrenchFor_r xs t = ((j : Int), 0) ∧ inR t (xs.getD j zWrench).least (xs.getD j zWrench).most = true) ∧ (cov xs t = false → WrenchFor_r xs t = (0, 4))) := Lib.hid ⟨fun h => by
    have hn : ¬ bestW t xs xs.length < 0 := fun h2 => by rw [bestW_cov'.1 h2] at h; cases h
    obtain ⟨j, hj⟩ := Int.eq_ofNat_of_zero_le (show 0 ≤ bestW t xs xs.length by omega)
    have hb := bestW_in _ _ hj
    exact ⟨j, hb.2, by rw [WrenchFor_some hc0 hn, hj], hb.1⟩, fun h => WrenchFor_none hc0 (bestW_cov'.2 h)⟩
  clear hok hA hT hc0
  generalize unc xs 2000 = ps at *
  have HRP : Hid (∃ A cap, u1 = .slice A ps.length cap ∧ (∀ k, k < ps.length → ∃ b off q p, A = some ⟨b, off, none⟩ ∧ ps[k]? = some p ∧ w6.cell? ⟨b, off + k, none⟩ = some (.slice (some ⟨q, 0, none⟩) 2 2) ∧ w6.cell? ⟨q, 0, none⟩ = some (.int .i64 p.1) ∧ w6.cell? ⟨q, 1, none⟩ = some (.int .i64 p.2) ∧ 1 ≤ p.1 ∧ p.1 ≤ p.2 ∧ p.2 ≤ 2000)) := Lib.hid (by
    obtain ⟨A, cap, e, _, _, hc⟩ := R6.out.shape
    refine ⟨A, cap, e, fun k hk => ?_⟩
    obtain ⟨b, off, e2, _, hx⟩ := hc (by omega)
    obtain ⟨q, h1, h2⟩ := hx k hk
    exact ⟨b, off, q, ps[k], e2, by simp [hk], h1, h2.c0, h2.c1, HBD.out _ (List.getElem_mem hk)⟩)
  have HGAP : Hid (∀ (k : Nat) (p q : Int × Int), ps[k]? = some p → ps[k + 1]? = some q → p.2 + 1 < q.1) := Lib.hid (fun k p q hp hq => by
    obtain ⟨h1, e1⟩ := List.getElem?_eq_some_iff.1 hp
    obtain ⟨h2, e2⟩ := List.getElem?_eq_some_iff.1 hq
    have := List.pairwise_iff_getElem.1 HPW.out k (k + 1) h1 h2 (by omega)
    rw [e1, e2] at this
    exact this)
  have HTK : Hid (∀ (k : Nat) (p : Int × Int), ps[k]? = some p → (ps.take (k + 1)).any (inP t) = ((ps.take k).any (inP t) || inP t p)) := Lib.hid (fun k p hp => by
    obtain ⟨h1, e1⟩ := List.getElem?_eq_some_iff.1 hp
    rw [List.take_succ_eq_append_getElem h1, List.any_append, e1]; simp)
  obtain ⟨A, cap, eu, hrow⟩ := HRP.out
  have HROW := Lib.hid hrow
  clear hrow HRP HBD HPW
  obtain ⟨A9, cap9, ev, _, _, hc9⟩ := V6.out.shape
  have HC9 := Lib.hid hc9
  subst eu ev
  clear hc9
  rcases hcv : cov xs t
  · have hWc := HW.out.2 hcv
    rw [hWc]
    have HF : Hid (ps.any (inP t) = true) := Lib.hid (by rw [HIN.out, hcv]; rfl)
    clear hWc hcv HW HIN
    go_wp2_with fail
    refine (likeRows_same _ u2 _ w6 R6.out R7.out).mono ?_
    rintro e w8 ⟨rfl, m0, rfl⟩
    clear R6 R7
    go_wp2
    go_loopg [13, 14] ps.length (fun gi inn i wr => ∃ (k : Nat) (b : Bool), k ≤ ps.length ∧ gi = ps.length - k ∧ i = .int .i64 k ∧ inn = .bool b ∧ Hid (b = (ps.take k).any (inP t)) ∧ Hid (∃ m, wr = w6.drewN m))
    case atStart => exact ⟨0, false, Nat.zero_le _, rfl, rfl, rfl, Lib.hid rfl, Lib.hid ⟨_, rfl⟩⟩
    case round =>
      obtain ⟨k, b, hk, rfl, rfl, rfl, HB, HWR⟩ := hrel
      obtain ⟨m, rfl⟩ := HWR.out
      by_cases hlt : k < ps.length
      · obtain ⟨bb, off, q, p, rfl, hp, e0, e1, e2, g1, g2, g3⟩ := HROW.out k hlt
        have f0 : (w6.drewN m).cell? ⟨bb, off + k, none⟩ = some (.slice (some ⟨q, 0, none⟩) 2 2) := e0
        have f1 : (w6.drewN m).cell? ⟨q, 0, none⟩ = some (.int .i64 p.1) := e1
        have f2 : (w6.drewN m).cell? ⟨q, 1, none⟩ = some (.int .i64 p.2) := e2
        have HNX := Lib.hid (HTK.out k p hp)
        have HP := Lib.hid hp
        have hki : (k : Int) < (ps.length : Int) := by omega
        have hk0 : (0 : Int) ≤ (k : Int) := by omega
        have hq1 : IntKind.i64.wrap (p.2 + 1) = p.2 + 1 := IntWalk.i64_in _ (by omega)
        have HNB : Hid ((b || (decide (p.1 ≤ t) && decide (t ≤ p.2))) = (ps.take (k + 1)).any (inP t)) := Lib.hid (by rw [HNX.out, ← HB.out]; rfl)
        clear hp HNX
        rcases Nat.eq_zero_or_pos k with h0 | h0
        · subst h0
          have f0' : (w6.drewN m).cell? ⟨bb, off, none⟩ = some (.slice (some ⟨q, 0, none⟩) 2 2) := f0
          obtain ⟨p1, p2⟩ := p
          simp only at *
          cases b <;> by_cases hx : p1 ≤ t <;> by_cases hy : t ≤ p2
          all_goals first
            | (exfalso; omega)
            | skip
          all_goals
            have hx1 := Lib.hid hx
            have hy1 := Lib.hid hy
            go_wp2
            go_quiet (fail)
            go_wp2
            go_roundg (ps.length - (0 + 1))
            case measure => omega
            case rel => exact ⟨0 + 1, _, by omega, rfl, by go_num, rfl, Lib.hid (by rw [← HNB.out]; simp [hx1.out, hy1.out]), Lib.hid ⟨_, rfl⟩⟩
        · obtain ⟨k, rfl⟩ : ∃ j, k = j + 1 := ⟨k - 1, by omega⟩
          obtain ⟨bb', off', q', p', e', hp', e0', _, e2', g1', g2', g3'⟩ := HROW.out k (by omega)
          cases e'
          have hgap := HGAP.out k p' p hp' HP.out
          have f0' : (w6.drewN m).cell? ⟨bb, off + k, none⟩ = some (.slice (some ⟨q', 0, none⟩) 2 2) := e0'
          have f2' : (w6.drewN m).cell? ⟨q', 1, none⟩ = some (.int .i64 p'.2) := e2'
          have hj0 : ((k + 1 : Nat) : Int) - 1 = (k : Int) := by omega
          have hjw : IntKind.i64.wrap (((k + 1 : Nat) : Int) - 1) = (k : Int) := by rw [hj0]; exact IntWalk.i64_in _ (by omega)
          have hjI : (0 : Int) ≤ (k : Int) := by omega
          have hjn : (k : Int) < (ps.length : Int) := by omega
          have hk1 : (0 : Int) < ((k + 1 : Nat) : Int) := by omega
          have hkA : (0 : Int) ≤ (k : Int) + 1 := by omega
          have hkB : (k : Int) + 1 < (ps.length : Int) := by omega
          have hkC : ((k : Int) + 1).toNat = k + 1 := by omega
          have hkD : (0 : Int) < (k : Int) + 1 := by omega
          have hkE : IntKind.i64.wrap ((k : Int) + 1 - 1) = (k : Int) := by rw [show (k : Int) + 1 - 1 = (k : Int) by omega]; exact IntWalk.i64_in _ (by omega)
          have hkF : (k : Int) + 1 - 1 = (k : Int) := by omega
          have hkG : IntKind.i64.wrap (k : Int) = (k : Int) := IntWalk.i64_in _ (by omega)
          have hq2 : IntKind.i64.wrap (p'.2 + 1) = p'.2 + 1 := IntWalk.i64_in _ (by omega)
          have hng : ¬ (p.1 ≤ p'.2 + 1) := by omega
          clear hp'
          obtain ⟨p1, p2⟩ := p
          obtain ⟨z1, z2⟩ := p'
          simp only at *
          cases b <;> by_cases hx : p1 ≤ t <;> by_cases hy : t ≤ p2
          all_goals first
            | (exfalso; omega)
            | skip
          all_goals
            have hx1 := Lib.hid hx
            have hy1 := Lib.hid hy
            go_wp2
            go_quiet (fail)
            go_wp2
            go_roundg (ps.length - (k + 1 + 1))
            case measure => omega
            case rel => exact ⟨k + 1 + 1, _, by omega, rfl, by go_num, rfl, Lib.hid (by rw [← HNB.out]; simp [hx1.out, hy1.out]), Lib.hid ⟨_, rfl⟩⟩
      · obtain rfl : k = ps.length := by omega
        have hbt : b = true := by rw [HB.out, List.take_of_length_le (Nat.le_refl _)]; exact HF.out
        subst hbt
        go_wp2
        go_ret
        exact ⟨rfl, below_drewN' B6.out _⟩
  · obtain ⟨j, hj, hWc, hin⟩ := HW.out.1 hcv
    rw [hWc]
    have HF : Hid (ps.any (inP t) = false) := Lib.hid (by rw [HIN.out, hcv]; rfl)
    obtain ⟨b9, off9, rfl, _, hx9⟩ := HC9.out (by omega)
    obtain ⟨i1, i2⟩ := inR_iff.1 hin
    rw [show xs.getD j zWrench = xs[j] by simp [hj]] at i1 i2
    have d0 : w6.cell? ⟨b9, off9 + j * 2, none⟩ = some (.int .i64 xs[j].least) := by simpa [eWrench, Nat.add_assoc] using hx9 j hj 0 _ (by decide) rfl
    have d1 : w6.cell? ⟨b9, off9 + j * 2 + 1, none⟩ = some (.int .i64 xs[j].most) := by simpa [eWrench, Nat.add_assoc] using hx9 j hj 1 _ (by decide) rfl
    have hji : (j : Int) < (xs.length : Int) := by omega
    have hj0 : (0 : Int) ≤ (j : Int) := by omega
    generalize xs[j].least = le at *
    generalize xs[j].most = mo at *
    clear hWc hcv HW HIN hx9 HC9 hin
    go_wp2_with fail
    refine (likeRows_same _ u2 _ w6 R6.out R7.out).mono ?_
    rintro e w8 ⟨rfl, m0, rfl⟩
    clear R6 R7
    go_wp2
    go_loopg [13, 14] ps.length (fun gi inn i wr => ∃ (k : Nat) (b : Bool), k ≤ ps.length ∧ gi = ps.length - k ∧ i = .int .i64 k ∧ inn = .bool b ∧ Hid (b = (ps.take k).any (inP t)) ∧ Hid (∃ m, wr = w6.drewN m))
    case atStart => exact ⟨0, false, Nat.zero_le _, rfl, rfl, rfl, Lib.hid rfl, Lib.hid ⟨_, rfl⟩⟩
    case round =>
      obtain ⟨k, b, hk, rfl, rfl, rfl, HB, HWR⟩ := hrel
      obtain ⟨m, rfl⟩ := HWR.out
      by_cases hlt : k < ps.length
      · obtain ⟨bb, off, q, p, rfl, hp, e0, e1, e2, g1, g2, g3⟩ := HROW.out k hlt
        have f0 : (w6.drewN m).cell? ⟨bb, off + k, none⟩ = some (.slice (some ⟨q, 0, none⟩) 2 2) := e0
        have f1 : (w6.drewN m).cell? ⟨q, 0, none⟩ = some (.int .i64 p.1) := e1
        have f2 : (w6.drewN m).cell? ⟨q, 1, none⟩ = some (.int .i64 p.2) := e2
        have HNX := Lib.hid (HTK.out k p hp)
        have HP := Lib.hid hp
        have hki : (k : Int) < (ps.length : Int) := by omega
        have hk0 : (0 : Int) ≤ (k : Int) := by omega
        have hq1 : IntKind.i64.wrap (p.2 + 1) = p.2 + 1 := IntWalk.i64_in _ (by omega)
        have HNB : Hid ((b || (decide (p.1 ≤ t) && decide (t ≤ p.2))) = (ps.take (k + 1)).any (inP t)) := Lib.hid (by rw [HNX.out, ← HB.out]; rfl)
        clear hp HNX
        rcases Nat.eq_zero_or_pos k with h0 | h0
        · subst h0
          have f0' : (w6.drewN m).cell? ⟨bb, off, none⟩ = some (.slice (some ⟨q, 0, none⟩) 2 2) := f0
          obtain ⟨p1, p2⟩ := p
          simp only at *
          cases b <;> by_cases hx : p1 ≤ t <;> by_cases hy : t ≤ p2
          all_goals first
            | (exfalso; omega)
            | skip
          all_goals
            have hx1 := Lib.hid hx
            have hy1 := Lib.hid hy
            go_wp2
            go_quiet (fail)
            go_wp2
            go_roundg (ps.length - (0 + 1))
            case measure => omega
            case rel => exact ⟨0 + 1, _, by omega, rfl, by go_num, rfl, Lib.hid (by rw [← HNB.out]; simp [hx1.out, hy1.out]), Lib.hid ⟨_, rfl⟩⟩
        · obtain ⟨k, rfl⟩ : ∃ j, k = j + 1 := ⟨k - 1, by omega⟩
          obtain ⟨bb', off', q', p', e', hp', e0', _, e2', g1', g2', g3'⟩ := HROW.out k (by omega)
          cases e'
          have hgap := HGAP.out k p' p hp' HP.out
          have f0' : (w6.drewN m).cell? ⟨bb, off + k, none⟩ = some (.slice (some ⟨q', 0, none⟩) 2 2) := e0'
          have f2' : (w6.drewN m).cell? ⟨q', 1, none⟩ = some (.int .i64 p'.2) := e2'
          have hj0 : ((k + 1 : Nat) : Int) - 1 = (k : Int) := by omega
          have hjw : IntKind.i64.wrap (((k + 1 : Nat) : Int) - 1) = (k : Int) := by rw [hj0]; exact IntWalk.i64_in _ (by omega)
          have hjI : (0 : Int) ≤ (k : Int) := by omega
          have hjn : (k : Int) < (ps.length : Int) := by omega
          have hk1 : (0 : Int) < ((k + 1 : Nat) : Int) := by omega
          have hkA : (0 : Int) ≤ (k : Int) + 1 := by omega
          have hkB : (k : Int) + 1 < (ps.length : Int) := by omega
          have hkC : ((k : Int) + 1).toNat = k + 1 := by omega
          have hkD : (0 : Int) < (k : Int) + 1 := by omega
          have hkE : IntKind.i64.wrap ((k : Int) + 1 - 1) = (k : Int) := by rw [show (k : Int) + 1 - 1 = (k : Int) by omega]; exact IntWalk.i64_in _ (by omega)
          have hkF : (k : Int) + 1 - 1 = (k : Int) := by omega
          have hkG : IntKind.i64.wrap (k : Int) = (k : Int) := IntWalk.i64_in _ (by omega)
          have hq2 : IntKind.i64.wrap (p'.2 + 1) = p'.2 + 1 := IntWalk.i64_in _ (by omega)
          have hng : ¬ (p.1 ≤ p'.2 + 1) := by omega
          clear hp'
          obtain ⟨p1, p2⟩ := p
          obtain ⟨z1, z2⟩ := p'
          simp only at *
          cases b <;> by_cases hx : p1 ≤ t <;> by_cases hy : t ≤ p2
          all_goals first
            | (exfalso; omega)
            | skip
          all_goals
            have hx1 := Lib.hid hx
            have hy1 := Lib.hid hy
            go_wp2
            go_quiet (fail)
            go_wp2
            go_roundg (ps.length - (k + 1 + 1))
            case measure => omega
            case rel => exact ⟨k + 1 + 1, _, by omega, rfl, by go_num, rfl, Lib.hid (by rw [← HNB.out]; simp [hx1.out, hy1.out]), Lib.hid ⟨_, rfl⟩⟩
      · obtain rfl : k = ps.length := by omega
        have hbf : b = false := by rw [HB.out, List.take_of_length_le (Nat.le_refl _)]; exact HF.out
        subst hbf
        have c0 : (w6.drewN m).cell? ⟨b9, off9 + j * 2, none⟩ = some (.int .i64 le) := d0
        have c1 : (w6.drewN m).cell? ⟨b9, off9 + j * 2 + 1, none⟩ = some (.int .i64 mo) := d1
        go_wp2
        go_ret
        exact ⟨rfl, below_drewN' B6.out _⟩
end Go.Proofs.Ytijmafppdbllfaa
