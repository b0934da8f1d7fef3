/- The contract of impl.MoveRule. No statement of the seat is proved here. -/
import Derived.Deep.RegionLaw
import Derived.Test.YtncggcbpbejmcaaMoveP
import Derived.Test.YtncggcbpbejmcaaDraw
namespace Go.Proofs.Ytncggcbpbejmcaa
open Go.RowKit

theorem size_Rule : (Try.prog.info? 78).map (·.size) = some eRule.sz := by kernel_rfl
theorem Sl.none_of {α : Type} (E : Enc α) (w : World) (A : Option Addr) (cap : Nat) : Sl E w (.slice A 0 cap) [] := ⟨E.len _, Nat.zero_le _, A, cap, rfl, Nat.zero_le _, fun h => absurd h (by simp)⟩
set_option maxHeartbeats 8000000 in
set_option maxRecDepth 20000 in
theorem iMoveRule_law (v : Value) (R : List Rule) (i t : Int) (w : World) (hv : Sl eRule w v R) (_ : R.length ≤ 1048576) (_ : (Lit.int .i64 i).wf = true) (_ : (Lit.int .i64 t).wf = true) :
    Calls Try.prog 28 #[v, .int .i64 i, .int .i64 t] w fun e w' => ∃ x, e = .returned (.tuple #[x, .int .i64 (MoveRule_r R i t).2]) ∧ Own eRule w' w.heap.size 78 x (MoveRule_r R i t).1 ∧ Below w.heap.size w w' := by
  have hw1 : IntKind.i64.wrap ((R.length : Int) - 1) = (R.length : Int) - 1 := IntWalk.i64_in _ (by omega)
  rcases hA : areRules R
  · have HR := Lib.hid (MoveRule_1 (i := i) (t := t) hA)
    have HA := Lib.hid hA
    clear hA
    rw [HR.out]
    go_enter Try.func28, Try.ntmps28
    go_wp2_with fail
    refine (iAreRules_any v R w hv).mono ?_
    rintro e w1 ⟨rfl, hb⟩
    rw [HA.out]
    go_wp2
    go_ret2
    exact ⟨_, rfl, Own.nil_ _ _ _ _, hb⟩
  have HA := Lib.hid hA
  rcases hI : inR i 0 ((R.length : Int) - 1)
  · have HR := Lib.hid (MoveRule_2 (i := i) (t := t) hA (by rw [hI]; rfl))
    have HI := Lib.hid hI
    clear hA hI
    rw [HR.out]
    go_enter Try.func28, Try.ntmps28
    go_wp2_with fail
    refine (iAreRules_any v R w hv).mono ?_
    rintro e w1 ⟨rfl, hb⟩
    rw [HA.out]
    obtain ⟨A, cap, rfl, _, _, _⟩ := (hv.below hb).shape
    go_wp2_with fail
    refine (within_eq HI.out _).mono ?_
    rintro e _ ⟨rfl, rfl⟩
    go_wp2
    go_ret2
    exact ⟨_, rfl, Own.nil_ _ _ _ _, hb⟩
  have HI := Lib.hid hI
  rcases hT : inR t 0 ((R.length : Int) - 1)
  · have HR := Lib.hid (MoveRule_2 (i := i) (t := t) hA (by rw [hI, hT]; rfl))
    have HT := Lib.hid hT
    clear hA hI hT
    rw [HR.out]
    go_enter Try.func28, Try.ntmps28
    go_wp2_with fail
    refine (iAreRules_any v R w hv).mono ?_
    rintro e w1 ⟨rfl, hb⟩
    rw [HA.out]
    obtain ⟨A, cap, rfl, _, _, _⟩ := (hv.below hb).shape
    go_wp2_with fail
    refine (within_eq HI.out _).mono ?_
    rintro e _ ⟨rfl, rfl⟩
    go_wp2_with fail
    refine (within_eq HT.out _).mono ?_
    rintro e _ ⟨rfl, rfl⟩
    go_wp2
    go_ret2
    exact ⟨_, rfl, Own.nil_ _ _ _ _, hb⟩
  have HT := Lib.hid hT
  obtain ⟨i0, i1⟩ := inR_iff.1 hI
  obtain ⟨t0, t1⟩ := inR_iff.1 hT
  obtain ⟨a, rfl⟩ := Int.eq_ofNat_of_zero_le i0
  obtain ⟨b, rfl⟩ := Int.eq_ofNat_of_zero_le t0
  have ha : a < R.length := by omega
  have hbl : b < R.length := by omega
  have HR := Lib.hid (MoveRule_ok hA ha hbl)
  clear hA hI hT i0 i1 t0 t1
  go_enter Try.func28, Try.ntmps28
  go_wp2_with fail
  refine (iAreRules_any v R w hv).mono ?_
  rintro e w1 ⟨rfl, hb⟩
  rw [HA.out]
  have HV := Lib.hid (hv.below hb)
  obtain ⟨A, cap, rfl, hcp, _, hc⟩ := (hv.below hb).shape
  obtain ⟨bb, off, rfl, hbb, hcell⟩ := hc (by omega)
  have HB := Lib.hid hb
  have HC := Lib.hid hcell
  clear hv hb hc hcell
  go_wp2_with fail
  refine (within_eq HI.out _).mono ?_
  rintro e _ ⟨rfl, rfl⟩
  go_wp2_with fail
  refine (within_eq HT.out _).mono ?_
  rintro e _ ⟨rfl, rfl⟩
  have HO0 := Lib.hid (Own.empty eRule w1 w1.heap.size 78 (Nat.le_refl _))
  have HS1 : Hid (Sl eRule (w1.alloc (.cells #[] 78)) (.slice (some ⟨bb, off, none⟩) a cap) (R.take a)) := Lib.hid ((Sl.take HV.out a (by omega)).alloc _)
  have hac : (a : Int) ≤ (cap : Int) := by omega
  have ha0 : (0 : Int) ≤ (a : Int) := by omega
  go_wp2_with (at_builtin; refine wpList_app_all eRule rfl _ _ 25 (by rfl) 78 (.agg #[.int .i64 0, .int .i64 0, .int .i64 0]) 24 Try.underlying25 info_Rule rfl (by decide) (by decide) w1.heap.size _ [] (by rfl) (by exact HO0.out) _ (R.take a) (by rfl) (by exact HS1.out) (by simp; omega) (by simp) ?_)
  intro v2 w2 hO2 hB2 hG2 hor2
  have hB12 : Below w1.heap.size w1 w2 := ((Below.refl _ _).alloc (Nat.le_refl _) _).trans hB2
  have hs12 := hB12.size
  have HO2 := Lib.hid hO2
  have HB12 := Lib.hid hB12
  have HV2 := Lib.hid (HV.out.below hB12)
  have hw2 : IntKind.i64.wrap ((a : Int) + 1) = (a : Int) + 1 := IntWalk.i64_in _ (by omega)
  have ha1 : (a : Int) + 1 ≤ (R.length : Int) := by omega
  have ha2 : (0 : Int) ≤ (a : Int) + 1 := by omega
  clear hO2 hB2 hG2 hor2 hB12
  have hlen2 : ((R.take a).length : Nat) = a := by rw [List.length_take]; omega
  -- the cut R[a+1:]: laid at the row's head where a + 1 is the row's whole room
  have hS2 : Hid (Sl eRule w2 (.slice (if cap = a + 1 then some ⟨bb, off, none⟩ else some ⟨bb, off + (a + 1) * 3, none⟩) (R.length - (a + 1)) (cap - (a + 1))) (R.drop (a + 1))) := Lib.hid (by
    by_cases hq : cap = a + 1
    · rw [if_pos hq, List.drop_eq_nil_of_le (by omega), show R.length - (a + 1) = 0 by omega]
      exact Sl.none_of _ _ _ _
    · rw [if_neg hq]
      exact Sl.drop HV2.out (a + 1) (by omega))
  go_wp2_with (at_builtin; refine wpList_app_all eRule rfl _ _ 25 (by rfl) 78 (.agg #[.int .i64 0, .int .i64 0, .int .i64 0]) 24 Try.underlying25 info_Rule rfl (by decide) (by decide) w1.heap.size _ (R.take a) (by rfl) (by exact HO2.out) _ (R.drop (a + 1)) (by rfl) (by exact hS2.out) (by simp; omega) (by exact hs12) ?_)
  all_goals
    intro v3 w3 hO3 hB3 _ _
    have HO3 : Hid (Own eRule w3 w1.heap.size 78 v3 (restL R a)) := Lib.hid hO3
    have HB13 := Lib.hid (HB12.out.trans hB3)
    have hs13 := HB13.out.size
    have HRL := Lib.hid (restL_len ha)
    have hrl : (restL R a).length ≤ 1000000000 := by have := HRL.out; omega
    clear hO3 hB3 hS2 HO2 HB12 HV2
    go_wp2_with (at_builtin; refine wpList_app eRule rfl _ _ 25 (by rfl) 78 (.agg #[.int .i64 0, .int .i64 0, .int .i64 0]) 24 Try.underlying25 info_Rule rfl (by decide) (by decide) w1.heap.size _ (restL R a) (by rfl) (by exact HO3.out) (by exact hrl) (by exact hs13) zRule _ (by rfl) _ (by rfl) (by rfl) ?_)
    intro v4 w4 hO4 hB4 _ _ hs4
    have hl4 : (restL R a ++ [zRule]).length = R.length := by rw [List.length_append, List.length_singleton]; exact HRL.out
    have hO4' : w4.ownsRow w1.heap.size 78 3 v4 R.length (eRule.all (restL R a ++ [zRule])) := by
      unfold Own at hO4
      rw [hl4] at hO4
      exact hO4
    obtain ⟨g, cap4, rfl, hbg, hgl⟩ := World.ownsRow.form hO4' (by omega)
    have hO4c : Own eRule w4 w1.heap.size 78 (.slice (some ⟨g, 0, none⟩) R.length cap4) (restL R a ++ [zRule]) := hO4
    obtain ⟨_, _, ex, hcx, _, _⟩ := Sl.shape (Sl.of_own hO4c (by rw [hl4]; unfold big40; omega))
    simp only [Value.slice.injEq] at ex
    obtain ⟨e1, e2, e3⟩ := ex
    clear e2
    subst e1
    subst e3
    rw [hl4] at hcx
    have HO4 := Lib.hid hO4c
    have HB14 := Lib.hid (HB13.out.trans hB4)
    have hs14 := HB14.out.size
    have hw5 : IntKind.i64.wrap ((b : Int) + 1) = (b : Int) + 1 := IntWalk.i64_in _ (by omega)
    have b1 : (b : Int) + 1 ≤ (R.length : Int) := by omega
    have b0 : (0 : Int) ≤ (b : Int) := by omega
    have b2 : (0 : Int) ≤ (b : Int) + 1 := by omega
    have b3 : (b : Int) ≤ (R.length : Int) := by omega
    have hc4 : (R.length : Int) ≤ (cap4 : Int) := by omega
    have HL4 := Lib.hid hl4
    have HPOS : Hid (0 < R.length - (b + 1) → (if cap4 = b + 1 then (some ⟨g, 0, none⟩ : Option Addr) else some ⟨g, (b + 1) * 3, none⟩) = some ⟨g, (b + 1) * eRule.sz, none⟩ ∧ (if cap4 = b then (some ⟨g, 0, none⟩ : Option Addr) else some ⟨g, b * 3, none⟩) = some ⟨g, b * eRule.sz, none⟩) := Lib.hid (fun hp => ⟨by rw [if_neg (by omega)]; rfl, by rw [if_neg (by omega)]; rfl⟩)
    have hne : bb ≠ g := by omega
    have HNE := Lib.hid hne
    clear hO4 hO4' hO4c hB4 hl4 hlen2 hcx hgl hrl HO3 HB13 hne
    go_wp2
    have HO5 := Lib.hid (Own.drew HO4.out)
    have HB15 : Hid (Below w1.heap.size w1 w4.drew) := Lib.hid HB14.out.drew
    have hs14' : w1.heap.size ≤ w4.drew.heap.size := hs14
    go_still_tail 7, (by kernel_rfl)
    change wpList _ _ _ _ _ w4.drew
    generalize w4.drew = w4' at *
    trace_state
    refine wpList_shove (E := eRule) rfl _ _ 25 25 (by rfl) 78 Try.underlying25 size_Rule w1.heap.size g R.length cap4 78 (restL R a ++ [zRule]) HO5.out b hbl (if cap4 = b + 1 then some ⟨g, 0, none⟩ else some ⟨g, (b + 1) * 3, none⟩) (if cap4 = b then some ⟨g, 0, none⟩ else some ⟨g, b * 3, none⟩) (R.length - (b + 1)) (R.length - b) (cap4 - (b + 1)) (cap4 - b) rfl rfl rfl rfl HPOS.out ?_
    intro w5 hO6 hG6
    have HX : Hid (∀ j u, j < 3 → (eRule.f R[a])[j]? = some u → w5.cell? ⟨bb, off + (a * 3 + j), none⟩ = some u) := Lib.hid (fun j u hj hu => by
      have h1 := HC.out a ha j u hj hu
      have h2 : w4'.cell? ⟨bb, off + (a * 3 + j), none⟩ = some u := (HB15.out.cell (p := ⟨bb, off + (a * 3 + j), none⟩) hbb).trans h1
      exact (hG6.cell_far ⟨bb, off + (a * 3 + j), none⟩ (Nat.lt_of_lt_of_le hbb hs14') (by intro e; cases e; exact HNE.out rfl)).trans h2)
    have c0 : w5.cell? ⟨bb, off + a * 3, none⟩ = some (.int .i64 R[a].field) := by simpa [eRule, Nat.add_assoc] using HX.out 0 _ (by decide) rfl
    have c1 : w5.cell? ⟨bb, off + a * 3 + 1, none⟩ = some (.int .i64 R[a].least) := by simpa [eRule, Nat.add_assoc] using HX.out 1 _ (by decide) rfl
    have c2 : w5.cell? ⟨bb, off + a * 3 + 2, none⟩ = some (.int .i64 R[a].grade) := by simpa [eRule, Nat.add_assoc] using HX.out 2 _ (by decide) rfl
    have hsl : (shoved (restL R a ++ [zRule]) b).length = R.length := by rw [shoved_len _ _ (by rw [HL4.out]; exact hbl), HL4.out]
    obtain ⟨o0, d0⟩ : ∃ u, w5.cell? ⟨g, b * 3, none⟩ = some u := hO6.old b (by rw [hsl]; exact hbl) 0 (by decide)
    obtain ⟨o1, d1⟩ : ∃ u, w5.cell? ⟨g, b * 3 + 1, none⟩ = some u := hO6.old b (by rw [hsl]; exact hbl) 1 (by decide)
    obtain ⟨o2, d2⟩ : ∃ u, w5.cell? ⟨g, b * 3 + 2, none⟩ = some u := hO6.old b (by rw [hsl]; exact hbl) 2 (by decide)
    have f0 := hO6.free (b * 3)
    have f1 := hO6.free (b * 3 + 1)
    have f2 := hO6.free (b * 3 + 2)
    have hst := hO6.store b (by rw [hsl]; exact hbl) R[a]
    have hmv : (shoved (restL R a ++ [zRule]) b).set b R[a] = moved R a b := by
      have h := moved_eq ha hbl zRule
      rw [show R.getD a zRule = R[a] by simp [ha]] at h
      exact h
    rw [hmv] at hst
    have HST : Hid (Own eRule (((w5.setCell ⟨g, b * 3, none⟩ (.int .i64 R[a].field)).setCell ⟨g, b * 3 + 1, none⟩ (.int .i64 R[a].least)).setCell ⟨g, b * 3 + 2, none⟩ (.int .i64 R[a].grade)) w1.heap.size 78 (.slice (some ⟨g, 0, none⟩) R.length cap4) (moved R a b)) := Lib.hid hst.1
    have HSG : Hid (w5.grownBy (((w5.setCell ⟨g, b * 3, none⟩ (.int .i64 R[a].field)).setCell ⟨g, b * 3 + 1, none⟩ (.int .i64 R[a].least)).setCell ⟨g, b * 3 + 2, none⟩ (.int .i64 R[a].grade)) (some g)) := Lib.hid hst.2
    have HB6 := Lib.hid (HB15.out.grown hG6 hs14' (fun k hk => by cases hk; exact hbg))
    have hai : (a : Int) < (R.length : Int) := by omega
    have hbi : (b : Int) < (R.length : Int) := by omega
    clear hst hmv hsl hO6 hG6
    have HBZ : Hid (Below w.heap.size w (((w5.setCell ⟨g, b * 3, none⟩ (.int .i64 R[a].field)).setCell ⟨g, b * 3 + 1, none⟩ (.int .i64 R[a].least)).setCell ⟨g, b * 3 + 2, none⟩ (.int .i64 R[a].grade))) := Lib.hid (((HB.out.trans (HB6.out.mono HB.out.size))).grown HSG.out (Nat.le_trans HB.out.size HB6.out.size) (fun k hk => by cases hk; exact Nat.le_trans HB.out.size hbg))
    have HSO : Hid (Own eRule (((w5.setCell ⟨g, b * 3, none⟩ (.int .i64 R[a].field)).setCell ⟨g, b * 3 + 1, none⟩ (.int .i64 R[a].least)).setCell ⟨g, b * 3 + 2, none⟩ (.int .i64 R[a].grade)) w.heap.size 78 (.slice (some ⟨g, 0, none⟩) R.length cap4) (moved R a b)) := Lib.hid (HST.out.mono HB.out.size)
    clear HST HSG
    generalize R[a] = ra at *
    go_wp2
    all_goals
      go_ret2
      rw [HR.out]
      first
        | exact ⟨.slice (some ⟨g, 0, none⟩) R.length cap4, rfl, HSO.out, HBZ.out⟩
        | exact ⟨.slice (some ⟨g, 0, none⟩) R.length (b + 1), rfl, by have h := HSO.out; rwa [show cap4 = b + 1 by assumption] at h, HBZ.out⟩
end Go.Proofs.Ytncggcbpbejmcaa
