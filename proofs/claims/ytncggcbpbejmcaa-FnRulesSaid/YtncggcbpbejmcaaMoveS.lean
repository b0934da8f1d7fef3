/- The contract of spec.MoveRule. No statement of the seat is proved here. -/
import Derived.Deep.RegionLaw
import Derived.Test.YtncggcbpbejmcaaMoveI
import Derived.Test.YtncggcbpbejmcaaUsedL
namespace Go.Proofs.Ytncggcbpbejmcaa
open Go.RowKit

theorem own_some {α : Type} {E : Enc α} {w : World} {base : Nat} {t : TypeId} {v : Value} {xs : List α} {k : Nat} (h : Own E w base t v xs) (hk : v.ownBlock = some k) : ∃ g cap, v = .slice (some ⟨g, 0, none⟩) xs.length cap ∧ xs.length ≤ cap ∧ base ≤ g ∧ g < w.heap.size := by
  have hl := World.ownsRow.lt h k hk
  rcases h.2 with ⟨rfl, _⟩ | ⟨g, cap, cur, rfl, _, _, hn, _⟩
  · simp [Value.ownBlock] at hk
  · simp only [Value.ownBlock, Option.some.injEq] at hk
    subst hk
    exact ⟨g, cap, rfl, hn, hl.1, hl.2⟩
set_option maxHeartbeats 8000000 in
set_option maxRecDepth 20000 in
theorem sMoveRule_law (v : Value) (R : List Rule) (i t : Int) (w : World) (hv : Sl eRule w v R) (_ : R.length ≤ 1048576) (_ : (Lit.int .i64 i).wf = true) (_ : (Lit.int .i64 t).wf = true) :
    Calls Try.prog 27 #[v, .int .i64 i, .int .i64 t] w fun e w' => ∃ x, e = .returned (.tuple #[x, .int .i64 (MoveRule_r R i t).2]) ∧ Own eRule w' w.heap.size 78 x (MoveRule_r R i t).1 ∧ Below w.heap.size w w' := by
  have hw1 : IntKind.i64.wrap ((R.length : Int) - 1) = (R.length : Int) - 1 := IntWalk.i64_in _ (by omega)
  rcases hA : areRules R
  · have HR := Lib.hid (MoveRule_1 (i := i) (t := t) hA)
    have HC0 : Hid (gCode R [] = 1) := Lib.hid (gCode_1 (by rw [gBoth_nil]; exact hA))
    clear hA
    rw [HR.out]
    go_enter Try.func27, Try.ntmps27
    go_wp2_with fail
    refine (l25Code_any v R (.slice none 0 0) [] w hv (Sl.nil_ eUsed w) (by simp)).mono ?_
    rintro e w1 ⟨rfl, hb⟩
    rw [HC0.out]
    obtain ⟨A, cap, rfl, _, _, _⟩ := (hv.below hb).shape
    go_wp2
    go_ret2
    exact ⟨_, rfl, Own.nil_ _ _ _ _, hb⟩
  have HC0 : Hid (gCode R [] = 0) := Lib.hid (gCode_0 (by rw [gBoth_nil]; exact hA))
  rcases hI : inR i 0 ((R.length : Int) - 1)
  · have HR := Lib.hid (MoveRule_2 (i := i) (t := t) hA (by rw [hI]; rfl))
    have HI := Lib.hid hI
    clear hA hI
    rw [HR.out]
    go_enter Try.func27, Try.ntmps27
    go_wp2_with fail
    refine (l25Code_any v R (.slice none 0 0) [] w hv (Sl.nil_ eUsed w) (by simp)).mono ?_
    rintro e w1 ⟨rfl, hb⟩
    rw [HC0.out]
    obtain ⟨A, cap, rfl, _, _, _⟩ := (hv.below hb).shape
    go_wp2_with fail
    refine (l01In_eq HI.out _).mono ?_
    rintro e _ ⟨rfl, rfl⟩
    go_wp2
    go_ret2
    exact ⟨_, rfl, Own.nil_ _ _ _ _, hb⟩
  have HI := Lib.hid hI
  rcases hT : inR t 0 ((R.length : Int) - 1)
  · have HR := Lib.hid (MoveRule_2 (i := i) (t := t) hA (by rw [hI, hT]; rfl))
    have HT := Lib.hid hT
    clear hA hI hT
    rw [HR.out]
    go_enter Try.func27, Try.ntmps27
    go_wp2_with fail
    refine (l25Code_any v R (.slice none 0 0) [] w hv (Sl.nil_ eUsed w) (by simp)).mono ?_
    rintro e w1 ⟨rfl, hb⟩
    rw [HC0.out]
    obtain ⟨A, cap, rfl, _, _, _⟩ := (hv.below hb).shape
    go_wp2_with fail
    refine (l01In_eq HI.out _).mono ?_
    rintro e _ ⟨rfl, rfl⟩
    go_wp2_with fail
    refine (l01In_eq HT.out _).mono ?_
    rintro e _ ⟨rfl, rfl⟩
    go_wp2
    go_ret2
    exact ⟨_, rfl, Own.nil_ _ _ _ _, hb⟩
  have HT := Lib.hid hT
  obtain ⟨i0, i1⟩ := inR_iff.1 hI
  obtain ⟨t0, t1⟩ := inR_iff.1 hT
  obtain ⟨a, rfl⟩ := Int.eq_ofNat_of_zero_le i0
  obtain ⟨b, rfl⟩ := Int.eq_ofNat_of_zero_le t0
  have ha : a < R.length := by omega
  have hbl : b < R.length := by omega
  have HR := Lib.hid (MoveRule_ok hA ha hbl)
  clear hA hI hT i0 i1 t0 t1
  go_enter Try.func27, Try.ntmps27
  go_wp2_with fail
  refine (l25Code_any v R (.slice none 0 0) [] w hv (Sl.nil_ eUsed w) (by simp)).mono ?_
  rintro e w1 ⟨rfl, hb⟩
  rw [HC0.out]
  have HV := Lib.hid (hv.below hb)
  obtain ⟨A, cap, rfl, hcp, _, hc⟩ := (hv.below hb).shape
  obtain ⟨bb, off, rfl, hbb, hcell⟩ := hc (by omega)
  have HB := Lib.hid hb
  have HC := Lib.hid hcell
  clear hv hb hc hcell
  go_wp2_with fail
  refine (l01In_eq HI.out _).mono ?_
  rintro e _ ⟨rfl, rfl⟩
  go_wp2_with fail
  refine (l01In_eq HT.out _).mono ?_
  rintro e _ ⟨rfl, rfl⟩
  have hac : (a : Int) ≤ (cap : Int) := by omega
  have ha0 : (0 : Int) ≤ (a : Int) := by omega
  have hw2 : IntKind.i64.wrap ((a : Int) + 1) = (a : Int) + 1 := IntWalk.i64_in _ (by omega)
  have ha1 : (a : Int) + 1 ≤ (R.length : Int) := by omega
  have ha2 : (0 : Int) ≤ (a : Int) + 1 := by omega
  have hcpI : (R.length : Int) ≤ (cap : Int) := by omega
  -- region 7: R[:a] and R[a+1:] behind one another
  have OWN1 : Hid (Own eRule (w1.drew.alloc (.cells #[] 78)) w1.heap.size 78 (.slice (some ⟨w1.heap.size, 0, none⟩) 0 0) []) := Lib.hid (Own.empty eRule w1.drew w1.heap.size 78 (Nat.le_refl _))
  have LST1 : Hid (Sl eRule (w1.drew.alloc (.cells #[] 78)) (.slice (some ⟨bb, off, none⟩) a cap) (R.take a)) := Lib.hid ((Sl.drew (Sl.take HV.out a (by omega))).alloc _)
  have SZ1 : Hid (w1.heap.size ≤ (w1.drew.alloc (.cells #[] 78)).heap.size) := Lib.hid (by simp)
  have KB : Hid (∀ W, Below w1.heap.size (w1.drew.alloc (.cells #[] 78)) W → Below w1.heap.size w1 W) := Lib.hid (fun W h => ((Below.refl _ _).drew.alloc (Nat.le_refl _) _).trans h)
  have LST2 : Hid (∀ W, Below w1.heap.size (w1.drew.alloc (.cells #[] 78)) W → Sl eRule W (.slice (if cap = a + 1 then some ⟨bb, off, none⟩ else some ⟨bb, off + (a + 1) * 3, none⟩) (R.length - (a + 1)) (cap - (a + 1))) (R.drop (a + 1))) := Lib.hid (fun W h => by
    have h2 := HV.out.below (KB.out W h)
    by_cases hq : cap = a + 1
    · rw [if_pos hq, List.drop_eq_nil_of_le (by omega), show R.length - (a + 1) = 0 by omega]
      exact Sl.none_of _ _ _ _
    · rw [if_neg hq]
      exact Sl.drop h2 (a + 1) (by omega))
  have L1 : Hid (([] : List Rule).length + (R.take a).length ≤ 1000000000) := Lib.hid (by simp; omega)
  have L2 : Hid (([] ++ R.take a).length + (R.drop (a + 1)).length ≤ 1000000000) := Lib.hid (by simp; omega)
  go_wp2
  go_region_held3 (fun _ => True) (trivial) (first
    | (refine step_app_all eRule rfl _ _ 25 (by rfl) 78 (.agg #[.int .i64 0, .int .i64 0, .int .i64 0]) 24 Try.underlying25 info_Rule rfl (by decide) (by decide) w1.heap.size _ [] (by rfl) OWN1.out _ (R.take a) (by rfl) LST1.out L1.out SZ1.out ?_; intro v2 wv2 hown2 hbl2 _ hor2)
    | (refine step_app_all eRule rfl _ _ 25 (by rfl) 78 (.agg #[.int .i64 0, .int .i64 0, .int .i64 0]) 24 Try.underlying25 info_Rule rfl (by decide) (by decide) w1.heap.size _ ([] ++ R.take a) (by rfl) hown2 _ (R.drop (a + 1)) (by rfl) (LST2.out wv2 hbl2) L2.out (Nat.le_trans SZ1.out hbl2.size) ?_; intro v3 wv3 hown3 hbl3 _ hor3))
  all_goals
    have hsome : ∃ k, v3.ownBlock = some k := by
      rcases hor3 with h | h
      · rcases hor2 with h2 | h2 <;> exact ⟨_, h.trans h2⟩
      · exact ⟨_, h⟩
    obtain ⟨k3, hk3⟩ := hsome
    have hown3' : Own eRule wv3 w1.heap.size 78 v3 (restL R a) := hown3
    obtain ⟨g, capr, rfl, hcr, hbg, hgl⟩ := own_some hown3' hk3
    have BW3 : Below w1.heap.size w1 wv3 := KB.out _ (hbl2.trans hbl3)
    have RSL := Lib.hid (Sl.of_own hown3' (by have := restL_len ha; unfold big40; omega))
    have HRL := Lib.hid (restL_len ha)
    have hm1 : (restL R a).length + 1 ≤ R.length := by have := HRL.out; omega
    have hm2 : b ≤ (restL R a).length := by have := HRL.out; omega
    have HMV : Hid ([] ++ (restL R a).take b ++ [R[a]] ++ (restL R a).drop b = moved R a b) := Lib.hid (by
      unfold moved
      rw [show R.getD a zRule = R[a] by simp [ha]]
      rfl)
    have X1 : Hid (Sl eRule wv3 (.slice (some ⟨g, 0, none⟩) b capr) ((restL R a).take b)) := Lib.hid (Sl.take RSL.out b hm2)
    have X2 : Hid (∀ W, Below wv3.heap.size wv3 W → Sl eRule W (.slice (if capr = b then some ⟨g, 0, none⟩ else some ⟨g, b * 3, none⟩) ((restL R a).length - b) (capr - b)) ((restL R a).drop b)) := Lib.hid (fun W h => by
      have h2 := RSL.out.below h
      by_cases hq : capr = b
      · rw [if_pos hq, List.drop_eq_nil_of_le (by omega), show (restL R a).length - b = 0 by omega]
        exact Sl.none_of _ _ _ _
      · rw [if_neg hq]
        have h3 := Sl.drop h2 b hm2
        rw [Nat.zero_add] at h3
        exact h3)
    have hx3 : ∀ j u, j < 3 → (eRule.f R[a])[j]? = some u → wv3.cell? ⟨bb, off + (a * 3 + j), none⟩ = some u := fun j u hj hu => (BW3.cell (p := ⟨bb, off + (a * 3 + j), none⟩) hbb).trans (HC.out a ha j u hj hu)
    have c0 : wv3.cell? ⟨bb, off + a * 3, none⟩ = some (.int .i64 R[a].field) := by simpa [eRule, Nat.add_assoc] using hx3 0 _ (by decide) rfl
    have c1 : wv3.cell? ⟨bb, off + a * 3 + 1, none⟩ = some (.int .i64 R[a].least) := by simpa [eRule, Nat.add_assoc] using hx3 1 _ (by decide) rfl
    have c2 : wv3.cell? ⟨bb, off + a * 3 + 2, none⟩ = some (.int .i64 R[a].grade) := by simpa [eRule, Nat.add_assoc] using hx3 2 _ (by decide) rfl
    have HBW := Lib.hid (HB.out.trans (BW3.mono HB.out.size))
    have hbb3 : bb < wv3.heap.size := Nat.lt_of_lt_of_le hbb BW3.size
    have L3 : Hid (([] : List Rule).length + ((restL R a).take b).length ≤ 1000000000) := Lib.hid (by simp; omega)
    have L4 : Hid (([] ++ (restL R a).take b).length + [R[a]].length ≤ 1000000000) := Lib.hid (by simp; omega)
    have L5 : Hid ((([] ++ (restL R a).take b) ++ [R[a]]).length + ((restL R a).drop b).length ≤ 1000000000) := Lib.hid (by simp; omega)
    obtain ⟨⟨fl, ls, gr⟩, hra⟩ : ∃ r, R[a] = r := ⟨_, rfl⟩
    rw [hra] at c0 c1 c2 L4 L5 HMV
    simp only at c0 c1 c2
    clear hx3 hra hown3 hown3' hbl2 hbl3 hor2 hor3 hk3 OWN1 LST1 SZ1 KB LST2 L1 L2 RSL BW3 HC HV
    generalize wv3 = w2 at *
    have hmm : (((restL R a).length : Nat) : Int) ≤ (capr : Int) := by omega
    have hbm : (b : Int) ≤ (((restL R a).length : Nat) : Int) := by omega
    have hbc : (b : Int) ≤ (capr : Int) := by omega
    have hb0 : (0 : Int) ≤ (b : Int) := by omega
    have hai : (a : Int) < (R.length : Int) := by omega
    generalize hml : (restL R a).length = m at *
    have HML := Lib.hid hml
    clear hml
    have KEEP : Hid (∀ W, Below w2.heap.size w2 W → Below w2.heap.size w2 W ∧ W.cell? ⟨bb, off + a * 3, none⟩ = some (.int .i64 fl) ∧ W.cell? ⟨bb, off + a * 3 + 1, none⟩ = some (.int .i64 ls) ∧ W.cell? ⟨bb, off + a * 3 + 2, none⟩ = some (.int .i64 gr)) := Lib.hid (fun W h => ⟨h, (h.cell (p := ⟨bb, off + a * 3, none⟩) hbb3).trans c0, (h.cell (p := ⟨bb, off + a * 3 + 1, none⟩) hbb3).trans c1, (h.cell (p := ⟨bb, off + a * 3 + 2, none⟩) hbb3).trans c2⟩)
    have OWN1 : Hid (Own eRule (w2.alloc (.cells #[] 78)).drew w2.heap.size 78 (.slice (some ⟨w2.heap.size, 0, none⟩) 0 0) []) := Lib.hid (Own.drew (Own.empty eRule w2 w2.heap.size 78 (Nat.le_refl _)))
    have OWN2 : Hid (Own eRule ((w2.alloc (.cells #[] 78)).alloc (.cells #[.int .i64 fl, .int .i64 ls, .int .i64 gr] 78)).drew w2.heap.size 78 (.slice (some ⟨w2.heap.size, 0, none⟩) 0 0) []) := Lib.hid (Own.drew ((Own.empty eRule w2 w2.heap.size 78 (Nat.le_refl _)).alloc _))
    have OWN3 : Hid (Own eRule ((w2.alloc (.cells #[.int .i64 fl, .int .i64 ls, .int .i64 gr] 78)).alloc (.cells #[] 78)).drew w2.heap.size 78 (.slice (some ⟨w2.heap.size + 1, 0, none⟩) 0 0) []) := Lib.hid (Own.drew (by
      have h := Own.empty eRule (w2.alloc (.cells #[.int .i64 fl, .int .i64 ls, .int .i64 gr] 78)) w2.heap.size 78 (by simp)
      rw [World.size_alloc] at h
      exact h))
    have LST1 : Hid (Sl eRule (w2.alloc (.cells #[] 78)).drew (.slice (some ⟨g, 0, none⟩) b capr) ((restL R a).take b)) := Lib.hid (Sl.drew (X1.out.alloc _))
    have LST2 : Hid (Sl eRule ((w2.alloc (.cells #[] 78)).alloc (.cells #[.int .i64 fl, .int .i64 ls, .int .i64 gr] 78)).drew (.slice (some ⟨g, 0, none⟩) b capr) ((restL R a).take b)) := Lib.hid (Sl.drew ((X1.out.alloc _).alloc _))
    have LST3 : Hid (Sl eRule ((w2.alloc (.cells #[.int .i64 fl, .int .i64 ls, .int .i64 gr] 78)).alloc (.cells #[] 78)).drew (.slice (some ⟨g, 0, none⟩) b capr) ((restL R a).take b)) := Lib.hid (Sl.drew ((X1.out.alloc _).alloc _))
    have SZ1 : Hid (w2.heap.size ≤ (w2.alloc (.cells #[] 78)).drew.heap.size) := Lib.hid (by simp)
    have SZ2 : Hid (w2.heap.size ≤ ((w2.alloc (.cells #[] 78)).alloc (.cells #[.int .i64 fl, .int .i64 ls, .int .i64 gr] 78)).drew.heap.size) := Lib.hid (by simp; omega)
    have SZ3 : Hid (w2.heap.size ≤ ((w2.alloc (.cells #[.int .i64 fl, .int .i64 ls, .int .i64 gr] 78)).alloc (.cells #[] 78)).drew.heap.size) := Lib.hid (by simp; omega)
    have ONE1 : Hid (∀ W : World, Sl eRule (W.alloc (.cells #[.int .i64 fl, .int .i64 ls, .int .i64 gr] 78)) (.slice (some ⟨W.heap.size, 0, none⟩) 1 1) [⟨fl, ls, gr⟩]) := Lib.hid (fun W => Sl.one_new eRule W ⟨fl, ls, gr⟩ _ _ rfl)
    have SZA : Hid (∀ W : World, (w2.alloc (.cells #[] 78)).drew.heap.size ≤ W.heap.size → w2.heap.size ≤ (W.alloc (.cells #[.int .i64 fl, .int .i64 ls, .int .i64 gr] 78)).heap.size) := Lib.hid (fun W h => by have := SZ1.out; simp; omega)
    have NEW2 : Hid (∀ W : World, ((w2.alloc (.cells #[] 78)).alloc (.cells #[.int .i64 fl, .int .i64 ls, .int .i64 gr] 78)).drew.grownBy W (some w2.heap.size) → Sl eRule W (.slice (some ⟨w2.heap.size + 1, 0, none⟩) 1 1) [⟨fl, ls, gr⟩]) := Lib.hid (fun W h => by
      have h1 := ONE1.out (w2.alloc (.cells #[] 78))
      rw [World.size_alloc] at h1
      exact (Sl.drew h1).far h (by simp))
    have NEW3 : Hid (∀ W : World, ((w2.alloc (.cells #[.int .i64 fl, .int .i64 ls, .int .i64 gr] 78)).alloc (.cells #[] 78)).drew.grownBy W (some (w2.heap.size + 1)) → Sl eRule W (.slice (some ⟨w2.heap.size, 0, none⟩) 1 1) [⟨fl, ls, gr⟩]) := Lib.hid (fun W h => (Sl.drew ((ONE1.out w2).alloc _)).far h (by simp))
    go_wp2
    all_goals
      go_region_held3 (fun W => Below w2.heap.size w2 W ∧ W.cell? ⟨bb, off + a * 3, none⟩ = some (.int .i64 fl) ∧ W.cell? ⟨bb, off + a * 3 + 1, none⟩ = some (.int .i64 ls) ∧ W.cell? ⟨bb, off + a * 3 + 2, none⟩ = some (.int .i64 gr)) (first | exact KEEP.out _ ((Below.refl _ _).drew) | exact KEEP.out _ ((Below.refl _ _).alloc (Nat.le_refl _) _).drew | exact KEEP.out _ (((Below.refl _ _).alloc (Nat.le_refl _) _).alloc (by simp) _).drew | exact KEEP.out _ (‹Below w2.heap.size w2 _ ∧ _›.1.trans hbl) | exact KEEP.out _ (‹Below w2.heap.size w2 _ ∧ _›.1.alloc ‹Below w2.heap.size w2 _ ∧ _›.1.size _)) (first | (refine step_app_all eRule rfl _ _ 25 (by rfl) 78 (.agg #[.int .i64 0, .int .i64 0, .int .i64 0]) 24 Try.underlying25 info_Rule rfl (by decide) (by decide) w2.heap.size _ [] (by rfl) OWN1.out _ ((restL R a).take b) (by rfl) LST1.out L3.out SZ1.out ?_; intro v4 wv4 hown4 hbl hg4 hor4) | (refine step_app_all eRule rfl _ _ 25 (by rfl) 78 (.agg #[.int .i64 0, .int .i64 0, .int .i64 0]) 24 Try.underlying25 info_Rule rfl (by decide) (by decide) w2.heap.size _ [] (by rfl) OWN2.out _ ((restL R a).take b) (by rfl) LST2.out L3.out SZ2.out ?_; intro v4 wv4 hown4 hbl hg4 hor4) | (refine step_app_all eRule rfl _ _ 25 (by rfl) 78 (.agg #[.int .i64 0, .int .i64 0, .int .i64 0]) 24 Try.underlying25 info_Rule rfl (by decide) (by decide) w2.heap.size _ [] (by rfl) OWN3.out _ ((restL R a).take b) (by rfl) LST3.out L3.out SZ3.out ?_; intro v4 wv4 hown4 hbl hg4 hor4) | (refine step_app_all eRule rfl _ _ 25 (by rfl) 78 (.agg #[.int .i64 0, .int .i64 0, .int .i64 0]) 24 Try.underlying25 info_Rule rfl (by decide) (by decide) w2.heap.size _ ([] ++ ((restL R a).take b)) (by rfl) (hown4.alloc _) _ [⟨fl, ls, gr⟩] (by rfl) (ONE1.out wv4) L4.out (SZA.out _ hbl.size) ?_; intro v5 wv5 hown5 hbl hg5 hor5) | (refine step_app_all eRule rfl _ _ 25 (by rfl) 78 (.agg #[.int .i64 0, .int .i64 0, .int .i64 0]) 24 Try.underlying25 info_Rule rfl (by decide) (by decide) w2.heap.size _ ([] ++ ((restL R a).take b)) (by rfl) hown4 _ [⟨fl, ls, gr⟩] (by rfl) (NEW2.out wv4 hg4) L4.out (Nat.le_trans SZ2.out hbl.size) ?_; intro v5 wv5 hown5 hbl hg5 hor5) | (refine step_app_all eRule rfl _ _ 25 (by rfl) 78 (.agg #[.int .i64 0, .int .i64 0, .int .i64 0]) 24 Try.underlying25 info_Rule rfl (by decide) (by decide) w2.heap.size _ ([] ++ ((restL R a).take b)) (by rfl) hown4 _ [⟨fl, ls, gr⟩] (by rfl) (NEW3.out wv4 hg4) L4.out (Nat.le_trans SZ3.out hbl.size) ?_; intro v5 wv5 hown5 hbl hg5 hor5) | (refine step_app_all eRule rfl _ _ 25 (by rfl) 78 (.agg #[.int .i64 0, .int .i64 0, .int .i64 0]) 24 Try.underlying25 info_Rule rfl (by decide) (by decide) w2.heap.size _ (([] ++ ((restL R a).take b)) ++ [⟨fl, ls, gr⟩]) (by rfl) hown5 _ ((restL R a).drop b) (by rfl) (X2.out wv5 (‹Below w2.heap.size w2 wv5 ∧ _›).1) L5.out (‹Below w2.heap.size w2 wv5 ∧ _›).1.size ?_; intro v6 wv6 hown6 hbl hg6 hor6))
      all_goals
        have hbF : Below w2.heap.size w2 wv6 := (‹Below w2.heap.size w2 wv6 ∧ _›).1
        have HO : Hid (Own eRule wv6 w.heap.size 78 v6 (moved R a b)) := Lib.hid (by rw [← HMV.out]; exact hown6.mono HBW.out.size)
        have HBF := Lib.hid (HBW.out.trans (hbF.mono HBW.out.size))
        go_wp2
        all_goals
          go_ret2
          rw [HR.out]
          exact ⟨_, rfl, HO.out, HBF.out⟩
end Go.Proofs.Ytncggcbpbejmcaa
