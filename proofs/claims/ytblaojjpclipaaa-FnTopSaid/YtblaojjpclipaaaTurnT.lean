/- Contracts of the reference's l07Turn, TurnAll and TurnNipple (chapter 7). No statement of the seat is proved here. -/
import Derived.Test.YtblaojjpclipaaaTurnS
import Derived.StillTailTactics
namespace Go.Proofs.Ytblaojjpclipaaa
open Go.RowKit

set_option maxHeartbeats 16000000 in
set_option maxRecDepth 20000 in
theorem l07Turn_any (v : Value) (L : List Int) (u : Value) (S : List Int) (t : Value) (ts : List Int) (w : World) (hv : Ints w v L) (hu : Ints w u S) (ht : Ints w t ts) (l1 : 1 ≤ L.length) (l2 : L.length ≤ 100) (s4 : S.length ≤ 4) (hl : ts.length = L.length)
    (hbd : ∀ i, Bd 300000 (sprAll L S ts i)) (hq : ∀ i k, -20000 ≤ ts.getD i 0 * S.getD k 0 ∧ ts.getD i 0 * S.getD k 0 ≤ 20000) :
    Calls Try.prog 59 #[v, u, t] w fun e w' => ∃ x, e = .returned x ∧ Own eI w' w.heap.size 2 x (sprAll L S ts L.length) ∧ Below w.heap.size w w' := by
  have HV := Lib.hid hv
  obtain ⟨A, cap, rfl, _, _, _⟩ := Ints.shape hv
  obtain ⟨AS, capS, rfl, _, _, hcS⟩ := Ints.shape hu
  obtain ⟨AT, capT, rfl, _, _, hcT⟩ := Ints.shape ht
  have HBD := Lib.hid hbd
  have HQ := Lib.hid hq
  have HL := Lib.hid hl
  have htl : ∀ k, k < L.length → k < ts.length := fun k hk => by omega
  have HTL := Lib.hid htl
  clear hv hu ht hbd hq hl htl
  go_enter Try.func59, Try.ntmps59
  go_wp2_with fail
  refine (l01Own_any _ L w HV.out (by omega)).mono ?_
  rintro e w1 ⟨x, rfl, ho, hb⟩
  obtain ⟨g, capx, rfl, hg, _⟩ := World.ownsRow.form ho (by omega)
  have O1 := Lib.hid ho
  have B1 := Lib.hid hb
  clear ho hb
  go_wp2
  go_loopg [9] L.length (fun gi ii wr => ∃ i : Nat, i ≤ L.length ∧ gi = L.length - i ∧ ii = .int .i64 i ∧ Hid (Own eI wr w.heap.size 2 (.slice (some ⟨g, 0, none⟩) L.length capx) (sprAll L S ts i)) ∧ Hid (Below w.heap.size w wr))
  case atStart => exact ⟨0, Nat.zero_le _, rfl, rfl, O1, B1⟩
  case round =>
    obtain ⟨i, hi, rfl, rfl, HO, HB⟩ := hrel
    clear O1 B1
    by_cases hiL : i < L.length
    rotate_left
    · obtain rfl : i = L.length := by omega
      go_wp2
      go_ret
      exact ⟨_, rfl, HO.out, HB.out⟩
    have hii : (i : Int) < (L.length : Int) := by omega
    have hi0 : (0 : Int) ≤ (i : Int) := by omega
    have hit := HTL.out i hiL
    have hitI : (i : Int) < (ts.length : Int) := by omega
    obtain ⟨bt, ot, rfl, hbt, hct⟩ := hcT (by omega)
    have CT : Hid (∀ W, Below w.heap.size w W → W.cell? ⟨bt, ot + i, none⟩ = some (.int .i64 ts[i])) := Lib.hid (fun W h => (h.cell (p := ⟨bt, ot + i, none⟩) hbt).trans (hct i hit))
    have HQi : Hid (∀ k, -20000 ≤ ts[i] * S.getD k 0 ∧ ts[i] * S.getD k 0 ≤ 20000) := Lib.hid (fun k => by have := HQ.out i k; rwa [getD_at ts 0 i hit] at this)
    have HNX : Hid (sprAll L S ts (i + 1) = spr (sprAll L S ts i) S (i : Int) ts[i] S.length) := Lib.hid (by rw [sprAll, getD_at ts 0 i hit])
    have HBi := Lib.hid (fun k => spr_bd (m := 20000) (HBD.out i) (i : Int) ts[i] (by omega) HQi.out k)
    have HLn : Hid ((sprAll L S ts i).length = L.length) := Lib.hid (sprAll_len L S ts i)
    clear hcT hct
    generalize hC : sprAll L S ts i = cur at *
    generalize ts[i] = ti at *
    clear hC
    have hiw : IntKind.i64.wrap ((i : Int) + 1) = (i : Int) + 1 := IntWalk.i64_in _ (by omega)
    go_wp2
    go_loopg [10] S.length (fun gd dd wr => ∃ k : Nat, k ≤ S.length ∧ gd = S.length - k ∧ dd = .int .i64 k ∧ Hid (Own eI wr w.heap.size 2 (.slice (some ⟨g, 0, none⟩) L.length capx) (spr cur S (i : Int) ti k)) ∧ Hid (Below w.heap.size w wr))
    case atStart => exact ⟨0, Nat.zero_le _, rfl, rfl, HO, HB⟩
    case round =>
      obtain ⟨k, hk, rfl, rfl, HO, HB⟩ := hrel
      by_cases hlt : k < S.length
      rotate_left
      · obtain rfl : k = S.length := by omega
        go_wp2
        go_roundg (L.length - (i + 1))
        case measure => omega
        case rel => exact ⟨i + 1, by omega, rfl, by go_num, by rw [HNX.out]; exact HO, HB⟩
      have hkI : (k : Int) < (S.length : Int) := by omega
      have hk0 : (0 : Int) ≤ (k : Int) := by omega
      obtain ⟨bs, os, rfl, hbs, hcs⟩ := hcS (by omega)
      have CS : Hid (∀ W, Below w.heap.size w W → W.cell? ⟨bs, os + k, none⟩ = some (.int .i64 S[k])) := Lib.hid (fun W h => (h.cell (p := ⟨bs, os + k, none⟩) hbs).trans (hcs k hlt))
      obtain ⟨r, hr, hrl⟩ := plc_get L.length ((i : Int) - k) (by omega)
      obtain ⟨r2, hr2, hrl2⟩ := plc_get L.length ((i : Int) + k) (by omega)
      have hlen : (spr cur S (i : Int) ti k).length = L.length := by rw [spr_len]; exact HLn.out
      have hbd := HBi.out k
      have hbr := hbd r
      have hbr2 := hbd r2
      have hqk := HQi.out k
      have hsp : spr cur S (i : Int) ti (k + 1) = spr1 (spr cur S (i : Int) ti k) (i : Int) k (ti * S.getD k 0) := rfl
      rw [getD_at S 0 k hlt] at hqk hsp
      unfold spr1 at hsp
      rw [hlen, plc_of hr, plc_of hr2] at hsp
      have HSP := Lib.hid hsp
      clear hsp hcS hcs hbd
      have hkb : (20000 : Int) * 2 * k ≤ 200000 := by omega
      generalize spr cur S (i : Int) ti k = M at *
      generalize S[k] = s at *
      have hrM : r < M.length := by omega
      obtain ⟨c1, f1⟩ := HO.out.cellI r hrM
      rw [getD_at M 0 r hrM] at hbr
      have hadd : addAt M r (ti * s) = M.set r (M[r] + ti * s) := by unfold addAt; rw [getD_at M 0 r hrM]
      have HADD := Lib.hid hadd
      clear hadd
      generalize M[r] = x at *
      have hm : IntKind.i64.wrap (ti * s) = ti * s := IntWalk.i64_in _ (by omega)
      have hw1 : IntKind.i64.wrap ((i : Int) - k) = (i : Int) - k := IntWalk.i64_in _ (by omega)
      have hw2 : IntKind.i64.wrap ((i : Int) + k) = (i : Int) + k := IntWalk.i64_in _ (by omega)
      have hw3 : IntKind.i64.wrap (x + ti * s) = x + ti * s := IntWalk.i64_in _ (by omega)
      have hkw : IntKind.i64.wrap ((k : Int) + 1) = (k : Int) + 1 := IntWalk.i64_in _ (by omega)
      have i0 : (0 : Int) ≤ (r : Int) := by omega
      have i1 : (r : Int) < (L.length : Int) := by omega
      have j0 : (0 : Int) ≤ (r2 : Int) := by omega
      have j1 : (r2 : Int) < (L.length : Int) := by omega
      have O1 : Hid (Own eI ((wr.setCell ⟨g, r, none⟩ (.int .i64 (x + ti * s))).drew) w.heap.size 2 (.slice (some ⟨g, 0, none⟩) L.length capx) (M.set r (x + ti * s))) := Lib.hid (HO.out.setI r (x + ti * s)).1.drew
      have B1 : Hid (Below w.heap.size w ((wr.setCell ⟨g, r, none⟩ (.int .i64 (x + ti * s))).drew)) := Lib.hid (HB.out.setCell (p := ⟨g, r, none⟩) hg _).drew
      have MD : Hid (∀ W, Calls Try.prog 80 #[.int .i64 ((i : Int) - k), .int .i64 L.length] W fun e w' => e = .returned (.int .i64 r) ∧ w' = W) := Lib.hid (fun W => by
        rw [← hr]
        exact (l01Mod_any _ _ W (by omega) (by omega) (by omega) (by omega)).mono fun _ _ h => ⟨h.1, h.2.symm⟩)
      have MD2 : Hid (∀ W, Calls Try.prog 80 #[.int .i64 ((i : Int) + k), .int .i64 L.length] W fun e w' => e = .returned (.int .i64 r2) ∧ w' = W) := Lib.hid (fun W => by
        rw [← hr2]
        exact (l01Mod_any _ _ W (by omega) (by omega) (by omega) (by omega)).mono fun _ _ h => ⟨h.1, h.2.symm⟩)
      have HSP0 : Hid (k = 0 → spr cur S (i : Int) ti (k + 1) = M.set r (x + ti * s)) := Lib.hid (fun h => by rw [HSP.out, if_pos h, HADD.out])
      have cT := CT.out _ HB.out
      have cS := CS.out _ HB.out
      clear hr hr2
      go_wp2
      go_still_tail 24, (by kernel_rfl)
      still_call (MD.out _)
      repeat still_step
      still_call (MD.out _)
      repeat still_step
      refine wpStill_nil ?_
      have hcd : (wr.drew).cell? ⟨g, r, none⟩ = some (.int .i64 x) := c1
      have hfd : (wr.drew).frozen? ⟨g, r, none⟩ = false := f1
      change wpList _ _ _ _ _ wr.drew
      by_cases hk0 : k = 0
      · replace HSP0 := Lib.hid (HSP0.out hk0)
        subst hk0
        clear HSP
        go_wp2
        go_roundg (S.length - (0 + 1))
        case measure => omega
        case rel => exact ⟨1, by omega, rfl, by go_num, by rw [HSP0.out]; exact O1, B1⟩
      · have hkp : (0 : Int) < (k : Int) := by omega
        have hrM2 : r2 < (M.set r (x + ti * s)).length := by rw [List.length_set]; omega
        have hx2 : -700000 ≤ (M.set r (x + ti * s))[r2] ∧ (M.set r (x + ti * s))[r2] ≤ 700000 := by
          rw [List.getElem_set]
          split
          · omega
          · rw [getD_at M 0 r2 (by omega)] at hbr2
            omega
        have hadd2 : addAt (M.set r (x + ti * s)) r2 (ti * s) = (M.set r (x + ti * s)).set r2 ((M.set r (x + ti * s))[r2] + ti * s) := by unfold addAt; rw [getD_at _ 0 r2 hrM2]
        rw [if_neg hk0, HADD.out, hadd2] at HSP
        have hx3 : IntKind.i64.wrap ((M.set r (x + ti * s))[r2] + ti * s) = (M.set r (x + ti * s))[r2] + ti * s := IntWalk.i64_in _ (by omega)
        go_wp2
        clear c1 f1 hcd hfd cT cS
        obtain ⟨c2, f2⟩ := O1.out.cellI r2 hrM2
        have cT := CT.out _ B1.out
        have cS := CS.out _ B1.out
        generalize (wr.setCell ⟨g, r, none⟩ (.int .i64 (x + ti * s))).drew = w1 at *
        have O2 := Lib.hid (O1.out.drew.setI r2 ((M.set r (x + ti * s))[r2] + ti * s)).1
        have B2 : Hid (Below w.heap.size w (w1.drew.setCell ⟨g, r2, none⟩ (.int .i64 ((M.set r (x + ti * s))[r2] + ti * s)))) := Lib.hid (B1.out.drew.setCell (p := ⟨g, r2, none⟩) hg _)
        have HX := Lib.hid HSP.out
        clear hadd2 HSP HSP0
        generalize (M.set r (x + ti * s))[r2] = y at *
        go_still_tail 24, (by kernel_rfl)
        still_call (MD2.out _)
        repeat still_step
        still_call (MD2.out _)
        repeat still_step
        refine wpStill_nil ?_
        have hcd : w1.drew.cell? ⟨g, r2, none⟩ = some (.int .i64 y) := c2
        have hfd : w1.drew.frozen? ⟨g, r2, none⟩ = false := f2
        change wpList _ _ _ _ _ w1.drew
        go_wp2
        go_roundg (S.length - (k + 1))
        case measure => omega
        case rel => exact ⟨k + 1, by omega, rfl, by go_num, by rw [HX.out]; exact O2, B2⟩
theorem one_bd {L S : List Int} {n sp : Nat} {q : Int} (hL : Bd 3000 L) (hS : Bd 200 S) (s4 : S.length ≤ 4) (h : sp < n) (hq : inR q (-100) 100 = true) : (∀ i, Bd 300000 (sprAll L S (oneL n sp q) i)) ∧ ∀ i k, -20000 ≤ (oneL n sp q).getD i 0 * S.getD k 0 ∧ (oneL n sp q).getD i 0 * S.getD k 0 ≤ 20000 := by
  have hw := weights_bd hS hq
  refine ⟨fun i => ?_, fun i k => ?_⟩
  · rw [sprAll_one L S n sp q h]
    split
    · exact hL.mono (by omega)
    · have := spr_bd (m := 20000) hL (sp : Int) q (by omega) hw S.length
      exact this.mono (by omega)
  · rw [oneL_at]
    split
    · exact hw k
    · rw [Int.zero_mul]; omega
set_option maxHeartbeats 8000000 in
set_option maxRecDepth 20000 in
/-- turning one nipple by the list of all turns -/
theorem TurnAll_one (v : Value) (L : List Int) (u : Value) (S : List Int) (t : Value) (sp : Nat) (q : Int) (w : World) (hv : Ints w v L) (hu : Ints w u S) (ht : Ints w t (oneL L.length sp q)) (hA : areTens L = true) (hS : isStiff S = true) (h : sp < L.length) :
    Calls Try.prog 34 #[v, u, t] w fun e w' => ∃ x, e = .returned (.tuple #[x, .int .i64 (TurnNipple_r L S sp q).2]) ∧ Own eI w' w.heap.size 2 x (TurnNipple_r L S sp q).1 ∧ Below w.heap.size w w' := by
  have HV := Lib.hid hv
  have HU := Lib.hid hu
  have HT := Lib.hid ht
  have hAS : (areTens L && isStiff S) = true := by rw [hA, hS]; rfl
  have hI : inR (sp : Int) 0 ((L.length : Int) - 1) = true := inR_iff.2 (by omega)
  obtain ⟨l4, l48, hLB⟩ := areTens_bd hA
  obtain ⟨s1, s4, hSB⟩ := isStiff_bd hS
  have HA := Lib.hid hA
  have HS := Lib.hid hS
  have HOL := Lib.hid (oneL_len L.length sp q)
  rcases hQ : inR q (-100) 100
  · have HR := Lib.hid (Turn_2 (q := q) hAS (by rw [hI, hQ]; rfl))
    have HC := Lib.hid (rangeC_2 ((oneL_all L.length sp q h).trans hQ))
    clear hA hS hAS hI hQ hv hu ht hLB hSB
    rw [HR.out]
    go_enter Try.func34, Try.ntmps34
    go_wp2_with fail
    refine (l07Code_any v L u S t _ w HV.out HU.out HT.out HA.out HS.out HOL.out).mono ?_
    rw [HC.out]
    rintro e w1 ⟨rfl, m, rfl⟩
    have HB := Lib.hid (below_of_drewN (w := w) m)
    go_wp2
    go_ret2
    exact ⟨_, rfl, Own.nil_ _ _ _ _, HB.out⟩
  have hIQ : (inR (sp : Int) 0 ((L.length : Int) - 1) && inR q (-100) 100) = true := by rw [hI, hQ]; rfl
  have HC := Lib.hid (rangeC_0 ((oneL_all L.length sp q h).trans hQ))
  obtain ⟨hb1, hb2⟩ := one_bd hLB hSB s4 h hQ
  have HB1 := Lib.hid hb1
  have HB2 := Lib.hid hb2
  have HE : Hid (sprAll L S (oneL L.length sp q) L.length = spr L S sp q S.length) := Lib.hid (by rw [sprAll_one L S L.length sp q h, if_neg (by omega)])
  have hXl := spr_len L S sp q S.length
  have HR3 : Hid (areTens (spr L S sp q S.length) = false → TurnNipple_r L S sp q = ([], 3)) := Lib.hid (fun h => Turn_3 hAS hIQ h)
  have HR4 : Hid (areTens (spr L S sp q S.length) = true → TurnNipple_r L S sp q = (spr L S sp q S.length, 0)) := Lib.hid (fun h => Turn_4 hAS hIQ h)
  clear hA hS hAS hI hQ hIQ hv hu ht hLB hSB hb1 hb2
  go_enter Try.func34, Try.ntmps34
  go_wp2_with fail
  refine (l07Code_any v L u S t _ w HV.out HU.out HT.out HA.out HS.out HOL.out).mono ?_
  rw [HC.out]
  rintro e w1 ⟨rfl, m, rfl⟩
  have HBm := Lib.hid (below_of_drewN (w := w) m)
  have HUm : Hid (Ints (w.drewN m) u S) := Lib.hid (Sl.drewN HU.out m)
  have HVm : Hid (Ints (w.drewN m) v L) := Lib.hid (Sl.drewN HV.out m)
  have HTm : Hid (Ints (w.drewN m) t (oneL L.length sp q)) := Lib.hid (Sl.drewN HT.out m)
  have hz : (w.drewN m).heap.size = w.heap.size := rfl
  generalize w.drewN m = wm at *
  go_wp2_with fail
  refine (l07Turn_any v L u S t _ wm HVm.out HUm.out HTm.out (by omega) (by omega) s4 HOL.out HB1.out HB2.out).mono ?_
  rw [HE.out]
  rintro e w3 ⟨x, rfl, ho, hb⟩
  have O3 := Lib.hid ho
  have B3 := Lib.hid hb
  have X3 := Lib.hid (Sl.of_own ho (by unfold big40; omega))
  clear ho hb
  go_wp2_with fail
  refine (sAreTensions_any x _ w3 X3.out).mono ?_
  rintro e w4 ⟨rfl, rfl⟩
  rcases h3 : areTens (spr L S sp q S.length)
  · have HR := Lib.hid (HR3.out h3)
    clear HR3 HR4
    go_wp2
    go_ret2
    rw [HR.out]
    exact ⟨_, rfl, Own.nil_ _ _ _ _, HBm.out.trans (by rw [← hz]; exact B3.out)⟩
  · have HR := Lib.hid (HR4.out h3)
    clear HR3 HR4
    go_wp2
    go_ret2
    rw [HR.out]
    exact ⟨_, rfl, by rw [← hz]; exact O3.out, HBm.out.trans (by rw [← hz]; exact B3.out)⟩
set_option maxHeartbeats 8000000 in
set_option maxRecDepth 20000 in
theorem sTurnNipple_law (v : Value) (L : List Int) (u : Value) (S : List Int) (sp q : Int) (w : World) (hv : Ints w v L) (hl : L.length ≤ 1048576) (hu : Ints w u S) :
    Calls Try.prog 7 #[v, u, .int .i64 sp, .int .i64 q] w fun e w' => ∃ x, e = .returned (.tuple #[x, .int .i64 (TurnNipple_r L S sp q).2]) ∧ Own eI w' w.heap.size 2 x (TurnNipple_r L S sp q).1 ∧ Below w.heap.size w w' := by
  have HV := Lib.hid hv
  have HU := Lib.hid hu
  rcases hA : areTens L
  · have HR := Lib.hid (Turn_1 (sp := sp) (q := q) (S := S) (L := L) (by rw [hA]; rfl))
    have HA := Lib.hid hA
    clear hA hv hu
    rw [HR.out]
    go_enter Try.func7, Try.ntmps7
    go_wp2_with fail
    refine (sAreTensions_any v L w HV.out).mono ?_
    rintro e w1 ⟨rfl, rfl⟩
    rw [HA.out]
    go_wp2
    go_ret2
    exact ⟨_, rfl, Own.nil_ _ _ _ _, Below.refl _ _⟩
  rcases hS : isStiff S
  · have HR := Lib.hid (Turn_1 (sp := sp) (q := q) (S := S) (L := L) (by rw [hA, hS]; rfl))
    have HA := Lib.hid hA
    have HS := Lib.hid hS
    clear hA hv hu hS
    rw [HR.out]
    go_enter Try.func7, Try.ntmps7
    go_wp2_with fail
    refine (sAreTensions_any v L w HV.out).mono ?_
    rintro e w1 ⟨rfl, rfl⟩
    rw [HA.out]
    go_wp2_with fail
    refine (sIsStiffness_any u S w HU.out).mono ?_
    rintro e w1 ⟨rfl, m, rfl⟩
    rw [HS.out]
    have HB := Lib.hid (below_of_drewN (w := w) m)
    go_wp2
    go_ret2
    exact ⟨_, rfl, Own.nil_ _ _ _ _, HB.out⟩
  have hAS : (areTens L && isStiff S) = true := by rw [hA, hS]; rfl
  obtain ⟨l4, l48, hLB⟩ := areTens_bd hA
  have hw1 : IntKind.i64.wrap ((L.length : Int) - 1) = (L.length : Int) - 1 := IntWalk.i64_in _ (by omega)
  have HA := Lib.hid hA
  have HS := Lib.hid hS
  obtain ⟨A, cap, rfl, _, _, _⟩ := Ints.shape hv
  rcases hI : inR sp 0 ((L.length : Int) - 1)
  · have HR := Lib.hid (Turn_2 (q := q) hAS (by rw [hI]; rfl))
    have HI := Lib.hid hI
    clear hA hv hu hS hI hAS hLB
    rw [HR.out]
    go_enter Try.func7, Try.ntmps7
    go_wp2_with fail
    refine (sAreTensions_any _ L w HV.out).mono ?_
    rintro e w1 ⟨rfl, rfl⟩
    rw [HA.out]
    go_wp2_with fail
    refine (sIsStiffness_any u S w HU.out).mono ?_
    rintro e w1 ⟨rfl, m, rfl⟩
    rw [HS.out]
    have HB := Lib.hid (below_of_drewN (w := w) m)
    go_wp2_with fail
    refine (l01In_any _ _ _ _).mono ?_
    rintro e _ ⟨rfl, rfl⟩
    rw [HI.out]
    go_wp2
    go_ret2
    exact ⟨_, rfl, Own.nil_ _ _ _ _, HB.out⟩
  have HI := Lib.hid hI
  obtain ⟨sp0, sp1⟩ := inR_iff.1 hI
  obtain ⟨j, rfl⟩ := Int.eq_ofNat_of_zero_le sp0
  have hj : j < L.length := by omega
  clear hA hv hu hS hI hAS hLB
  go_enter Try.func7, Try.ntmps7
  go_wp2_with fail
  refine (sAreTensions_any _ L w HV.out).mono ?_
  rintro e w1 ⟨rfl, rfl⟩
  rw [HA.out]
  go_wp2_with fail
  refine (sIsStiffness_any u S w HU.out).mono ?_
  rintro e w1 ⟨rfl, m, rfl⟩
  rw [HS.out]
  have HBm := Lib.hid (below_of_drewN (w := w) m)
  have HUm : Hid (Ints (w.drewN m) u S) := Lib.hid (Sl.drewN HU.out m)
  have HVm : Hid (Ints (w.drewN m) (.slice A L.length cap) L) := Lib.hid (Sl.drewN HV.out m)
  have hz : (w.drewN m).heap.size = w.heap.size := rfl
  generalize w.drewN m = wm at *
  go_wp2_with fail
  refine (l01In_any _ _ _ _).mono ?_
  rintro e _ ⟨rfl, rfl⟩
  rw [HI.out]
  go_wp2_with fail
  refine (l07One_any L.length j q wm hj (by omega)).mono ?_
  rintro e w2 ⟨t, rfl, ho, hb⟩
  have B2 := Lib.hid hb
  have HT := Lib.hid (Sl.of_own ho (by rw [oneL_len]; unfold big40; omega))
  have HV2 := Lib.hid (HVm.out.below hb)
  have HU2 := Lib.hid (HUm.out.below hb)
  have hz2 := hb.size
  clear ho hb
  go_wp2_with fail
  refine (TurnAll_one _ L u S t j q w2 HV2.out HU2.out HT.out HA.out HS.out hj).mono ?_
  rintro e w3 ⟨x, rfl, ho, hb⟩
  have O3 := Lib.hid (ho.mono (base' := w.heap.size) (by omega))
  have B3 : Hid (Below w.heap.size w w3) := Lib.hid (HBm.out.trans (by rw [← hz]; exact Below.step B2.out hb))
  clear ho hb
  go_wp2
  go_ret2
  exact ⟨_, rfl, O3.out, B3.out⟩
end Go.Proofs.Ytblaojjpclipaaa
