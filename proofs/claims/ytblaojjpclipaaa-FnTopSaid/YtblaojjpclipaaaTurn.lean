/- Contracts of both TurnNipple (chapter 7). No statement of the seat is proved here. -/
import Derived.Test.YtblaojjpclipaaaSpread
import Derived.Test.YtblaojjpclipaaaM2
namespace Go.Proofs.Ytblaojjpclipaaa
open Go.RowKit

def TurnNipple_r (L S : List Int) (sp q : Int) : List Int × Int :=
  if areTens L && isStiff S then (if inR sp 0 ((L.length : Int) - 1) && inR q (-100) 100 then (if areTens (spr L S sp q S.length) then (spr L S sp q S.length, 0) else ([], 3)) else ([], 2)) else ([], 1)
theorem Turn_1 {L S : List Int} {sp q : Int} (h : (areTens L && isStiff S) = false) : TurnNipple_r L S sp q = ([], 1) := by unfold TurnNipple_r; rw [h]; rfl
theorem Turn_2 {L S : List Int} {sp q : Int} (h : (areTens L && isStiff S) = true) (h2 : (inR sp 0 ((L.length : Int) - 1) && inR q (-100) 100) = false) : TurnNipple_r L S sp q = ([], 2) := by unfold TurnNipple_r; rw [h, h2]; rfl
theorem Turn_3 {L S : List Int} {sp q : Int} (h : (areTens L && isStiff S) = true) (h2 : (inR sp 0 ((L.length : Int) - 1) && inR q (-100) 100) = true) (h3 : areTens (spr L S sp q S.length) = false) : TurnNipple_r L S sp q = ([], 3) := by unfold TurnNipple_r; rw [h, h2, h3]; rfl
theorem Turn_4 {L S : List Int} {sp q : Int} (h : (areTens L && isStiff S) = true) (h2 : (inR sp 0 ((L.length : Int) - 1) && inR q (-100) 100) = true) (h3 : areTens (spr L S sp q S.length) = true) : TurnNipple_r L S sp q = (spr L S sp q S.length, 0) := by unfold TurnNipple_r; rw [h, h2, h3]; rfl
theorem weights_bd {S : List Int} {q : Int} (hS : Bd 200 S) (h : inR q (-100) 100 = true) : ∀ k, -20000 ≤ q * S.getD k 0 ∧ q * S.getD k 0 ≤ 20000 := fun k => by
  obtain ⟨h1, h2⟩ := inR_iff.1 h
  have := mul_bd (a := 100) (b := 200) h1 h2 (hS k).1 (hS k).2
  omega
set_option maxHeartbeats 8000000 in
set_option maxRecDepth 20000 in
theorem iTurnNipple_law (v : Value) (L : List Int) (u : Value) (S : List Int) (sp q : Int) (w : World) (hv : Ints w v L) (hl : L.length ≤ 1048576) (hu : Ints w u S) :
    Calls Try.prog 6 #[v, u, .int .i64 sp, .int .i64 q] w fun e w' => ∃ x, e = .returned (.tuple #[x, .int .i64 (TurnNipple_r L S sp q).2]) ∧ Own eI w' w.heap.size 2 x (TurnNipple_r L S sp q).1 ∧ Below w.heap.size w w' := by
  have HV := Lib.hid hv
  have HU := Lib.hid hu
  rcases hA : areTens L
  · have HR := Lib.hid (Turn_1 (sp := sp) (q := q) (S := S) (L := L) (by rw [hA]; rfl))
    have HA := Lib.hid hA
    clear hA hv hu
    rw [HR.out]
    go_enter Try.func6, Try.ntmps6
    go_wp2_with fail
    refine (iAreTensions_any v L w HV.out).mono ?_
    rintro e w1 ⟨rfl, rfl⟩
    rw [HA.out]
    go_wp2
    go_ret2
    exact ⟨_, rfl, Own.nil_ _ _ _ _, Below.refl _ _⟩
  rcases hS : isStiff S
  · have HR := Lib.hid (Turn_1 (sp := sp) (q := q) (S := S) (L := L) (by rw [hA, hS]; rfl))
    have HA := Lib.hid hA
    have HS := Lib.hid hS
    clear hA hv hu hS
    rw [HR.out]
    go_enter Try.func6, Try.ntmps6
    go_wp2_with fail
    refine (iAreTensions_any v L w HV.out).mono ?_
    rintro e w1 ⟨rfl, rfl⟩
    rw [HA.out]
    go_wp2_with fail
    refine (iIsStiffness_any u S w HU.out).mono ?_
    rintro e w1 ⟨rfl, m, rfl⟩
    rw [HS.out]
    have HB := Lib.hid (below_of_drewN (w := w) m)
    go_wp2
    go_ret2
    exact ⟨_, rfl, Own.nil_ _ _ _ _, HB.out⟩
  have hAS : (areTens L && isStiff S) = true := by rw [hA, hS]; rfl
  obtain ⟨l4, l48, hLB⟩ := areTens_bd hA
  obtain ⟨s1, s4, hSB⟩ := isStiff_bd hS
  have hw1 : IntKind.i64.wrap ((L.length : Int) - 1) = (L.length : Int) - 1 := IntWalk.i64_in _ (by omega)
  have HA := Lib.hid hA
  have HS := Lib.hid hS
  rcases hI : inR sp 0 ((L.length : Int) - 1)
  · have HR := Lib.hid (Turn_2 (q := q) hAS (by rw [hI]; rfl))
    have HI := Lib.hid hI
    obtain ⟨A, cap, rfl, _, _, _⟩ := Ints.shape hv
    clear hA hv hu hS hI hAS
    rw [HR.out]
    go_enter Try.func6, Try.ntmps6
    go_wp2_with fail
    refine (iAreTensions_any _ L w HV.out).mono ?_
    rintro e w1 ⟨rfl, rfl⟩
    rw [HA.out]
    go_wp2_with fail
    refine (iIsStiffness_any u S w HU.out).mono ?_
    rintro e w1 ⟨rfl, m, rfl⟩
    rw [HS.out]
    have HB := Lib.hid (below_of_drewN (w := w) m)
    go_wp2_with fail
    refine (within_any _ _ _ _).mono ?_
    rintro e _ ⟨rfl, rfl⟩
    rw [HI.out]
    go_wp2
    go_ret2
    exact ⟨_, rfl, Own.nil_ _ _ _ _, HB.out⟩
  have HI := Lib.hid hI
  rcases hQ : inR q (-100) 100
  · have HR := Lib.hid (Turn_2 (q := q) hAS (by rw [hI, hQ]; rfl))
    have HQ := Lib.hid hQ
    obtain ⟨A, cap, rfl, _, _, _⟩ := Ints.shape hv
    clear hA hv hu hS hI hAS hQ
    rw [HR.out]
    go_enter Try.func6, Try.ntmps6
    go_wp2_with fail
    refine (iAreTensions_any _ L w HV.out).mono ?_
    rintro e w1 ⟨rfl, rfl⟩
    rw [HA.out]
    go_wp2_with fail
    refine (iIsStiffness_any u S w HU.out).mono ?_
    rintro e w1 ⟨rfl, m, rfl⟩
    rw [HS.out]
    have HB := Lib.hid (below_of_drewN (w := w) m)
    go_wp2_with fail
    refine (within_any _ _ _ _).mono ?_
    rintro e _ ⟨rfl, rfl⟩
    rw [HI.out]
    go_wp2_with fail
    refine (isQuarters_any _ _).mono ?_
    rintro e _ ⟨rfl, rfl⟩
    rw [HQ.out]
    go_wp2
    go_ret2
    exact ⟨_, rfl, Own.nil_ _ _ _ _, HB.out⟩
  have HQ := Lib.hid hQ
  have hIQ : (inR sp 0 ((L.length : Int) - 1) && inR q (-100) 100) = true := by rw [hI, hQ]; rfl
  obtain ⟨sp0, sp1⟩ := inR_iff.1 hI
  have HWB := Lib.hid (weights_bd hSB hQ)
  have HLB := Lib.hid (hLB.mono (d := 100000) (by omega))
  have hXl := spr_len L S sp q S.length
  have HR3 : Hid (areTens (spr L S sp q S.length) = false → TurnNipple_r L S sp q = ([], 3)) := Lib.hid (fun h => Turn_3 hAS hIQ h)
  have HR4 : Hid (areTens (spr L S sp q S.length) = true → TurnNipple_r L S sp q = (spr L S sp q S.length, 0)) := Lib.hid (fun h => Turn_4 hAS hIQ h)
  obtain ⟨A, cap, rfl, _, _, _⟩ := Ints.shape hv
  clear hA hv hu hS hI hAS hQ hIQ hLB hSB
  go_enter Try.func6, Try.ntmps6
  go_wp2_with fail
  refine (iAreTensions_any _ L w HV.out).mono ?_
  rintro e w1 ⟨rfl, rfl⟩
  rw [HA.out]
  go_wp2_with fail
  refine (iIsStiffness_any u S w HU.out).mono ?_
  rintro e w1 ⟨rfl, m, rfl⟩
  rw [HS.out]
  have HBm := Lib.hid (below_of_drewN (w := w) m)
  have HUm : Hid (Ints (w.drewN m) u S) := Lib.hid (Sl.drewN HU.out m)
  have HVm : Hid (Ints (w.drewN m) (.slice A L.length cap) L) := Lib.hid (Sl.drewN HV.out m)
  have hz : (w.drewN m).heap.size = w.heap.size := rfl
  generalize w.drewN m = wm at *
  go_wp2_with fail
  refine (within_any _ _ _ _).mono ?_
  rintro e _ ⟨rfl, rfl⟩
  rw [HI.out]
  go_wp2_with fail
  refine (isQuarters_any _ _).mono ?_
  rintro e _ ⟨rfl, rfl⟩
  rw [HQ.out]
  go_wp2_with fail
  refine (copyList_any _ L wm HVm.out (by omega)).mono ?_
  rintro e w2 ⟨x, rfl, ho, hb⟩
  have O2 := Lib.hid ho
  have B2 := Lib.hid hb
  clear ho hb
  go_wp2_with fail
  refine (spreadTurn_any wm w2 x L u S sp q O2.out HUm.out B2.out (by omega) (by omega) s4 sp0 (by omega) HLB.out HWB.out).mono ?_
  rintro e w3 ⟨⟨rr, rfl⟩, ho, hb⟩
  have O3 := Lib.hid ho
  have B3 := Lib.hid hb
  have X3 := Lib.hid (Sl.of_own ho (by unfold big40; omega))
  clear ho hb O2 B2
  go_wp2_with fail
  refine (iAreTensions_any x _ w3 X3.out).mono ?_
  rintro e w4 ⟨rfl, rfl⟩
  rcases h3 : areTens (spr L S sp q S.length)
  · have HR := Lib.hid (HR3.out h3)
    clear HR3 HR4
    go_wp2
    go_ret2
    rw [HR.out]
    exact ⟨_, rfl, Own.nil_ _ _ _ _, HBm.out.trans (by rw [← hz]; exact B3.out)⟩
  · have HR := Lib.hid (HR4.out h3)
    clear HR3 HR4
    go_wp2
    go_ret2
    rw [HR.out]
    exact ⟨_, rfl, by rw [← hz]; exact O3.out, HBm.out.trans (by rw [← hz]; exact B3.out)⟩
end Go.Proofs.Ytblaojjpclipaaa
