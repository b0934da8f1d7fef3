/- Contracts of JoinItems of the program (chapter 27). No statement of the seat is proved here. -/
import Derived.Test.YtfiapefkomolmaaJoin
import Derived.Test.YtfiapefkomolmaaCells
import Derived.StillTailTactics
namespace Go.Proofs.Ytfiapefkomolmaa
open Go.RowKit

set_option maxHeartbeats 8000000 in
set_option maxRecDepth 20000 in
theorem iJoinItems_law (v : Value) (xs : List Item) (w : World) (hv : Sl eItem w v xs) (_ : xs.length ≤ 1048576) (hq : ∀ x ∈ xs, okItem x) :
    Calls Try.prog 40 #[v] w fun e w' => ∃ u, e = .returned (.tuple #[u, .int .i64 (JoinItems_r xs).2]) ∧ Own eItem w' w.heap.size 40 u (JoinItems_r xs).1 ∧ Below w.heap.size w w' := by
  rcases ha : areItems xs
  · have HR := Lib.hid (JoinItems_bad ha)
    have HA := Lib.hid ha
    clear ha
    rw [HR.out]
    go_enter Try.func40, Try.ntmps40
    go_wp2_with fail
    refine (iAreItems_any v xs w hv hq).mono ?_
    rintro e w1 ⟨rfl, hb⟩
    rw [HA.out]
    go_wp2
    go_ret2
    exact ⟨_, rfl, Own.nil_ _ _ _ _, hb⟩
  have HQ := Lib.hid (joinL_okI ha hq)
  have HA := Lib.hid ha
  have HQ0 := Lib.hid hq
  have HJ := Lib.hid (joined_all ha)
  have HM := Lib.hid (JoinItems_many ha)
  have HK := Lib.hid (JoinItems_ok ha)
  obtain ⟨h20, hat⟩ := areItems_at ha
  have HT := Lib.hid hat
  have HV := Lib.hid hv
  clear ha hat hq hv
  go_enter Try.func40, Try.ntmps40
  go_wp2_with fail
  refine (iAreItems_any v xs w HV.out HQ0.out).mono ?_
  rintro e w1 ⟨rfl, hb1⟩
  rw [HA.out]
  have hs1 := hb1.size
  obtain ⟨A, cap, rfl, _, hm, hc⟩ := (HV.out.below hb1).shape
  go_wp2
  go_loopg [15, 4] xs.length (fun gi i q wr => ∃ k : Nat, k ≤ xs.length ∧ gi = xs.length - k ∧ i = .int .i64 k ∧ Own eItem wr w1.heap.size 40 q (joinL xs k) ∧ Below w1.heap.size w1 wr ∧ w1.heap.size ≤ wr.heap.size)
  case atStart => exact ⟨0, Nat.zero_le _, rfl, rfl, Own.nil_ _ _ _ _, Below.refl _ _, Nat.le_refl _⟩
  case round =>
    obtain ⟨k, hk, rfl, rfl, hown, hb, hs⟩ := hrel
    by_cases hlt : k < xs.length
    · obtain ⟨b, off, rfl, hbl, hcell⟩ := hc (by omega)
      have c0 : wr.cell? ⟨b, off + k * 4, none⟩ = some (.string xs[k].name) := (hb.cell (p := ⟨b, off + k * 4, none⟩) hbl).trans (by simpa [eItem, Nat.add_assoc] using hcell k hlt 0 _ (by decide) rfl)
      have c1 : wr.cell? ⟨b, off + k * 4 + 1, none⟩ = some (.int .i64 xs[k].pieces) := (hb.cell (p := ⟨b, off + k * 4 + 1, none⟩) hbl).trans (by simpa [eItem, Nat.add_assoc] using hcell k hlt 1 _ (by decide) rfl)
      have c2 : wr.cell? ⟨b, off + k * 4 + 2, none⟩ = some (.int .i64 xs[k].cents) := (hb.cell (p := ⟨b, off + k * 4 + 2, none⟩) hbl).trans (by simpa [eItem, Nat.add_assoc] using hcell k hlt 2 _ (by decide) rfl)
      have c3 : wr.cell? ⟨b, off + k * 4 + 3, none⟩ = some (.bool xs[k].work) := (hb.cell (p := ⟨b, off + k * 4 + 3, none⟩) hbl).trans (by simpa [eItem, Nat.add_assoc] using hcell k hlt 3 _ (by decide) rfl)
      obtain ⟨_, x1, x2, x3, x4⟩ := HT.out k hlt
      have HJN : Hid (joinL xs (k + 1) = joinOne (joinL xs k) xs[k]) := Lib.hid (by rw [joinL, getD_at _ _ _ hlt])
      have HJK := Lib.hid (HJ.out k hk)
      clear hc hcell
      generalize joinL xs k = out at *
      generalize xs[k] = x at *
      obtain ⟨nm, pc, ct, wk⟩ := x
      simp only at *
      have hol : out.length ≤ k := HJK.out.len
      obtain ⟨A2, cap2, rfl, _, _, _⟩ := (Sl.of_own hown (by unfold big40; omega)).shape
      have HNB := Lib.hid hown.apart
      have hownW := hown.alloc (.cells #[.string nm, .int .i64 pc, .int .i64 ct, .bool wk] 40)
      have hbW := hb.alloc hs (.cells #[.string nm, .int .i64 pc, .int .i64 ct, .bool wk] 40)
      have bx0 : (wr.alloc (.cells #[.string nm, .int .i64 pc, .int .i64 ct, .bool wk] 40)).cell? ⟨wr.heap.size, 0, none⟩ = some (.string nm) := (box_new _ _ _ 0).trans rfl
      have bx1 : (wr.alloc (.cells #[.string nm, .int .i64 pc, .int .i64 ct, .bool wk] 40)).cell? ⟨wr.heap.size, 1, none⟩ = some (.int .i64 pc) := (box_new _ _ _ 1).trans rfl
      have bx2 : (wr.alloc (.cells #[.string nm, .int .i64 pc, .int .i64 ct, .bool wk] 40)).cell? ⟨wr.heap.size, 2, none⟩ = some (.int .i64 ct) := (box_new _ _ _ 2).trans rfl
      have bx3 : (wr.alloc (.cells #[.string nm, .int .i64 pc, .int .i64 ct, .bool wk] 40)).cell? ⟨wr.heap.size, 3, none⟩ = some (.bool wk) := (box_new _ _ _ 3).trans rfl
      have hgs : wr.heap.size < (wr.alloc (.cells #[.string nm, .int .i64 pc, .int .i64 ct, .bool wk] 40)).heap.size := by simp
      clear hown hb
      go_wp2
      clear c0 c1 c2 c3
      generalize wr.alloc (.cells #[.string nm, .int .i64 pc, .int .i64 ct, .bool wk] 40) = W0 at *
      have hsW : w1.heap.size ≤ W0.heap.size := by omega
      generalize wr.heap.size = gb at *
      have hjk0 : jK out ⟨nm, pc, ct, wk⟩ 0 = out := rfl
      rw [← hjk0] at hownW
      clear hjk0
      go_loopg [21, 7] out.length (fun gi i jn wi => ∃ m : Nat, m ≤ out.length ∧ gi = out.length - m ∧ i = .int .i64 m ∧ jn = .bool ((out.take m).any (sameI ⟨nm, pc, ct, wk⟩)) ∧ Own eItem wi w1.heap.size 40 (.slice A2 out.length cap2) (jK out ⟨nm, pc, ct, wk⟩ m) ∧ wi.cell? ⟨gb, 0, none⟩ = some (.string nm) ∧ wi.cell? ⟨gb, 1, none⟩ = some (.int .i64 pc) ∧ wi.cell? ⟨gb, 2, none⟩ = some (.int .i64 ct) ∧ wi.cell? ⟨gb, 3, none⟩ = some (.bool wk) ∧ Below w1.heap.size w1 wi ∧ w1.heap.size ≤ wi.heap.size ∧ gb < wi.heap.size)
      case atStart => exact ⟨0, Nat.zero_le _, rfl, rfl, rfl, hownW, bx0, bx1, bx2, bx3, hbW, hsW, hgs⟩
      case round =>
        obtain ⟨m, hmk, rfl, rfl, rfl, hown, bi0, bi1, bi2, bi3, hbi, hsi, hgi⟩ := hrel
        clear hownW bx0 bx1 bx2 bx3 hbW hsW hgs
        by_cases hlm : m < out.length
        · obtain ⟨g, cap3, e3, hg1, hg2⟩ := World.ownsRow.form hown (by rw [jK_len]; omega)
          obtain rfl : A2 = some ⟨g, 0, none⟩ := by injection e3
          clear e3
          have hml : m < (jK out ⟨nm, pc, ct, wk⟩ m).length := by rw [jK_len]; exact hlm
          have hge : (jK out ⟨nm, pc, ct, wk⟩ m)[m] = out[m] := by
            have h := jK_at out ⟨nm, pc, ct, wk⟩ m m (Nat.le_refl _)
            rw [getD_at _ _ _ hml, getD_at _ _ _ hlm] at h
            exact h
          have hgo : out.getD m zItem = out[m] := getD_at _ _ _ hlm
          obtain ⟨_, y1, y2, y3, y4⟩ := HJK.out.ok m hlm
          have o0 := hown.cellsAt m hml 0 (by decide)
          have o1 := hown.cellsAt m hml 1 (by decide)
          have o2 := hown.cellsAt m hml 2 (by decide)
          have o3 := hown.cellsAt m hml 3 (by decide)
          have HST := Lib.hid (fun (W : World) (h : Own eItem W w1.heap.size 40 (.slice (some ⟨g, 0, none⟩) out.length cap2) (jK out ⟨nm, pc, ct, wk⟩ m)) (u : Int) (hu : u = out[m].pieces + pc) => h.store1 m hml 1 (by decide) (.int .i64 u) (addP out[m] ⟨nm, pc, ct, wk⟩) (by rw [hge, hu]; rfl))
          rw [hge] at o0 o1 o2 o3
          have HY := Lib.hid (jK_yes (out := out) (x := ⟨nm, pc, ct, wk⟩) (k := m))
          have HN := Lib.hid (jK_no (out := out) (x := ⟨nm, pc, ct, wk⟩) (k := m))
          have HAY := Lib.hid (any_take_yes (p := sameI ⟨nm, pc, ct, wk⟩) hlm)
          have HAN := Lib.hid (any_take_no (p := sameI ⟨nm, pc, ct, wk⟩) hlm)
          rw [hgo] at HY HN
          have HSD : Hid (sameI ⟨nm, pc, ct, wk⟩ out[m] = ((out[m].name.toList == nm.toList) && (out[m].cents == ct) && (out[m].work == wk))) := Lib.hid rfl
          have hgne : g ≠ gb := fun e => HNB.out (by rw [e]; rfl)
          have HFR : Hid (∀ (W : World), Own eItem W w1.heap.size 40 (.slice (some ⟨g, 0, none⟩) out.length cap2) (jK out ⟨nm, pc, ct, wk⟩ m) → W.frozen? ⟨g, m * 4 + 1, none⟩ = false) := Lib.hid (fun W h => Own.free h _)
          clear hge hgo hml
          have HO := Lib.hid hown
          have HBI := Lib.hid hbi
          clear hown hbi
          generalize out[m] = y at *
          obtain ⟨ym, yp, yc, yw⟩ := y
          simp only at *
          have q0 : wr.cell? ⟨g, m * 4, none⟩ = some (.string ym) := o0.trans rfl
          have q1 : wr.cell? ⟨g, m * 4 + 1, none⟩ = some (.int .i64 yp) := o1.trans rfl
          have q2 : wr.cell? ⟨g, m * 4 + 2, none⟩ = some (.int .i64 yc) := o2.trans rfl
          have q3 : wr.cell? ⟨g, m * 4 + 3, none⟩ = some (.bool yw) := o3.trans rfl
          clear o0 o1 o2 o3
          have hbA := HBI.out.alloc hsi (.cells #[.string ym, .int .i64 yp, .int .i64 yc, .bool yw] 40)
          have hoA := HO.out.alloc (.cells #[.string ym, .int .i64 yp, .int .i64 yc, .bool yw] 40)
          have HBA := Lib.hid hbA
          have HOA := Lib.hid hoA
          have k0 := (box_old wr (.cells #[.string ym, .int .i64 yp, .int .i64 yc, .bool yw] 40) ⟨gb, 0, none⟩ hgi).trans bi0
          have k1 := (box_old wr (.cells #[.string ym, .int .i64 yp, .int .i64 yc, .bool yw] 40) ⟨gb, 1, none⟩ hgi).trans bi1
          have k2 := (box_old wr (.cells #[.string ym, .int .i64 yp, .int .i64 yc, .bool yw] 40) ⟨gb, 2, none⟩ hgi).trans bi2
          have k3 := (box_old wr (.cells #[.string ym, .int .i64 yp, .int .i64 yc, .bool yw] 40) ⟨gb, 3, none⟩ hgi).trans bi3
          have ks : wr.heap.size < (wr.alloc (.cells #[.string ym, .int .i64 yp, .int .i64 yc, .bool yw] 40)).heap.size := by simp
          clear hbA hoA
          rcases g1 : (ym.toList == nm.toList)
          · have HE := Lib.hid (HSD.out.trans (by rw [g1]; try rfl))
            go_wp2
            go_roundg (out.length - (m + 1))
            case measure => omega
            case rel => exact ⟨m + 1, by omega, rfl, by go_num, by rw [HAN.out HE.out], by rw [HN.out HE.out]; exact HOA.out, k0, k1, k2, k3, HBA.out, by omega, by omega⟩
          rcases g2 : (yc == ct)
          · have HE := Lib.hid (HSD.out.trans (by rw [g1, g2]; try rfl))
            go_wp2
            go_roundg (out.length - (m + 1))
            case measure => omega
            case rel => exact ⟨m + 1, by omega, rfl, by go_num, by rw [HAN.out HE.out], by rw [HN.out HE.out]; exact HOA.out, k0, k1, k2, k3, HBA.out, by omega, by omega⟩
          rcases g3 : (yw == wk)
          · have HE := Lib.hid (HSD.out.trans (by rw [g1, g2, g3]; try rfl))
            go_wp2
            go_roundg (out.length - (m + 1))
            case measure => omega
            case rel => exact ⟨m + 1, by omega, rfl, by go_num, by rw [HAN.out HE.out], by rw [HN.out HE.out]; exact HOA.out, k0, k1, k2, k3, HBA.out, by omega, by omega⟩
          · have HE := Lib.hid (HSD.out.trans (by rw [g1, g2, g3]; try rfl))
            have hw1 : IntKind.i64.wrap (yp + pc) = yp + pc := IntWalk.i64_in _ (by omega)
            have q1A := (box_old wr (.cells #[.string ym, .int .i64 yp, .int .i64 yc, .bool yw] 40) ⟨g, m * 4 + 1, none⟩ hg2).trans q1
            go_wp2
            clear q0 q1 q2 q3 bi0 bi1 bi2 bi3
            generalize wr.alloc (.cells #[.string ym, .int .i64 yp, .int .i64 yc, .bool yw] 40) = wA at *
            have hO2 : Own eItem wA.drew w1.heap.size 40 (.slice (some ⟨g, 0, none⟩) out.length cap2) (jK out ⟨nm, pc, ct, wk⟩ m) := HOA.out.drew
            have hB2 : Below w1.heap.size w1 wA.drew := HBA.out.drew
            have j0 : wA.drew.cell? ⟨gb, 0, none⟩ = some (.string nm) := k0
            have j1 : wA.drew.cell? ⟨gb, 1, none⟩ = some (.int .i64 pc) := k1
            have j2 : wA.drew.cell? ⟨gb, 2, none⟩ = some (.int .i64 ct) := k2
            have j3 : wA.drew.cell? ⟨gb, 3, none⟩ = some (.bool wk) := k3
            have js : wr.heap.size < wA.drew.heap.size := ks
            have hst1 : wA.drew.cell? ⟨g, m * 4 + 1, none⟩ = some (.int .i64 yp) := q1A
            have hst2 : wA.drew.frozen? ⟨g, m * 4 + 1, none⟩ = false := HFR.out _ hO2
            have HO2 := Lib.hid hO2
            have HB2 := Lib.hid hB2
            clear hO2 hB2
            go_still_tail 10, (by kernel_rfl)
            change wpList _ _ _ _ _ wA.drew
            generalize wA.drew = w2 at *
            have HSS := Lib.hid (HST.out w2 HO2.out (yp + pc) rfl)
            have i0 := (HSS.out.2.cell_far ⟨gb, 0, none⟩ (by simp only []; omega) (fun e => hgne (by cases e; rfl))).trans j0
            have i1 := (HSS.out.2.cell_far ⟨gb, 1, none⟩ (by simp only []; omega) (fun e => hgne (by cases e; rfl))).trans j1
            have i2 := (HSS.out.2.cell_far ⟨gb, 2, none⟩ (by simp only []; omega) (fun e => hgne (by cases e; rfl))).trans j2
            have i3 := (HSS.out.2.cell_far ⟨gb, 3, none⟩ (by simp only []; omega) (fun e => hgne (by cases e; rfl))).trans j3
            go_wp2
            go_roundg (out.length - (m + 1))
            case measure => omega
            case rel => exact ⟨m + 1, by omega, rfl, by go_num, by rw [HAY.out HE.out], by rw [HY.out HE.out]; exact HSS.out.1, i0, i1, i2, i3, HB2.out.setCell (by simp only []; omega) _, by simp; omega, by simp; omega⟩
        · obtain rfl : m = out.length := by omega
          rw [List.take_length]
          rcases hany : out.any (sameI ⟨nm, pc, ct, wk⟩)
          · have HOA : Hid (Own eItem wr w1.heap.size 40 (.slice A2 out.length cap2) out) := Lib.hid (by rw [jK_none hany _ (Nat.le_refl _)] at hown; exact hown)
            have HJ1 := Lib.hid (joinOne_new hany)
            have HBI := Lib.hid hbi
            clear hown hbi hany
            go_wp2_with (at_builtin; refine wpList_app eItem rfl _ _ 46 (by rfl) 40 (.agg #[.string ⟨#[]⟩, .int .i64 0, .int .i64 0, .bool false]) 40 Try.underlying46 info_Item rfl (by decide) (by decide) w1.heap.size _ out (by rfl) (by exact HOA.out) (by omega) (by exact hsi) ⟨nm, pc, ct, wk⟩ _ (by rfl) _ (by rfl) (by rfl) ?_)
            intro v' w' hown' hbw' _ _ hs'
            have HO2 := Lib.hid hown'
            have HB2 := Lib.hid (HBI.out.trans hbw')
            clear hown' hbw'
            go_wp2
            go_roundg (xs.length - (k + 1))
            case measure => omega
            case rel => exact ⟨k + 1, by omega, rfl, by go_num, by rw [HJN.out, HJ1.out]; exact HO2.out, HB2.out, by omega⟩
          · have HOA : Hid (Own eItem wr w1.heap.size 40 (.slice A2 out.length cap2) (joinOne out ⟨nm, pc, ct, wk⟩)) := Lib.hid (by rw [jK_end HJK.out hany] at hown; exact hown)
            have HBI := Lib.hid hbi
            clear hown hbi hany
            go_wp2
            go_roundg (xs.length - (k + 1))
            case measure => omega
            case rel => exact ⟨k + 1, by omega, rfl, by go_num, by rw [HJN.out]; exact HOA.out, HBI.out, hsi⟩
    · obtain rfl : k = xs.length := by omega
      have hln : (joinL xs xs.length).length ≤ 20 := Nat.le_trans (HJ.out _ (Nat.le_refl _)).len h20
      have HO := Lib.hid hown
      have HB := Lib.hid (Below.step hb1 hb)
      clear hown hb hb1 hc
      go_wp2_with fail
      refine (iAreItems_any u4 (joinL xs xs.length) wr (Sl.of_own HO.out (by unfold big40; omega)) HQ.out).mono ?_
      rintro e w2 ⟨rfl, hb2⟩
      rcases hF : areItems (joinL xs xs.length)
      · have HR := Lib.hid (HM.out hF)
        go_wp2
        go_ret2
        rw [HR.out]
        exact ⟨_, rfl, Own.nil_ _ _ _ _, Below.step HB.out hb2⟩
      · have HR := Lib.hid (HK.out hF)
        go_wp2
        go_ret2
        rw [HR.out]
        exact ⟨_, rfl, (HO.out.below hb2).mono hs1, Below.step HB.out hb2⟩
end Go.Proofs.Ytfiapefkomolmaa
