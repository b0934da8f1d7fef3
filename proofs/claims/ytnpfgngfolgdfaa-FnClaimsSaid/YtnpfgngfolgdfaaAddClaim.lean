/- Contracts of AddClaim (chapter 28). No statement of the seat is proved here. -/
import Derived.Test.YtnpfgngfolgdfaaClaims
import Derived.Test.YtnpfgngfolgdfaaAppAll
import Derived.Deep.DrawnRows
namespace Go.Proofs.Ytnpfgngfolgdfaa
open Go.RowKit
attribute [local go_sem ↓] Go.wp_at_zero Go.wp_at_succ

def AddClaim_r (xs : List Claim) (c : Claim) : List Claim × Int :=
  if areClaims xs then (if xs.length = 20 then ([], 3) else if areClaims (xs ++ [c]) then (xs ++ [c], 0) else ([], 5)) else ([], 1)
theorem AddClaim_bad {xs : List Claim} (c : Claim) (h : areClaims xs = false) : AddClaim_r xs c = ([], 1) := by unfold AddClaim_r; rw [h]; rfl
theorem AddClaim_full {xs : List Claim} (c : Claim) (h : areClaims xs = true) (h2 : xs.length = 20) : AddClaim_r xs c = ([], 3) := by unfold AddClaim_r; rw [if_pos h, if_pos h2]
theorem AddClaim_state {xs : List Claim} {c : Claim} (h : areClaims xs = true) (h2 : xs.length ≠ 20) (h3 : areClaims (xs ++ [c]) = false) : AddClaim_r xs c = ([], 5) := by unfold AddClaim_r; rw [if_pos h, if_neg h2, h3]; rfl
theorem AddClaim_ok {xs : List Claim} {c : Claim} (h : areClaims xs = true) (h2 : xs.length ≠ 20) (h3 : areClaims (xs ++ [c]) = true) : AddClaim_r xs c = (xs ++ [c], 0) := by unfold AddClaim_r; rw [if_pos h, if_neg h2, h3]; rfl
theorem AddClaim_len (xs : List Claim) (c : Claim) : (AddClaim_r xs c).1.length ≤ 1048576 := by
  unfold AddClaim_r
  split
  · split
    · simp
    · split
      · rename_i h
        unfold areClaims at h
        rw [Bool.and_eq_true, decide_eq_true_eq] at h
        simp only []; omega
      · simp
  · simp
set_option maxHeartbeats 8000000 in
set_option maxRecDepth 20000 in
theorem iAddClaim_law (v : Value) (xs : List Claim) (c : Claim) (w : World) (hv : Sl eClaim w v xs) (_ : xs.length ≤ 1048576) (hq : ∀ x ∈ xs, okClaim x) (hc : okClaim c) :
    Calls Try.prog 32 #[v, .agg #[.string c.part, .int .i64 c.sold, .int .i64 c.day, .int .i64 c.tens]] w fun e w' => ∃ u, e = .returned (.tuple #[u, .int .i64 (AddClaim_r xs c).2]) ∧ Own eClaim w' w.heap.size 47 u (AddClaim_r xs c).1 ∧ Below w.heap.size w w' := by
  have hqc : ∀ x ∈ xs ++ [c], okClaim x := fun x hx => by
    rcases List.mem_append.1 hx with h | h
    · exact hq x h
    · rw [List.mem_singleton.1 h]; exact hc
  obtain ⟨pt, sd, dy, tn⟩ := c
  simp only at *
  rcases ha : areClaims xs
  · have HR := Lib.hid (AddClaim_bad ⟨pt, sd, dy, tn⟩ ha)
    have HA := Lib.hid ha
    clear ha
    rw [HR.out]
    go_enter Try.func32, Try.ntmps32
    go_wp2_with fail
    refine (iAreClaims_any v xs _ (hv.alloc _) hq).mono ?_
    rintro e w1 ⟨rfl, hb⟩
    rw [HA.out]
    obtain ⟨_, _, hbw, _⟩ := box1 hb
    go_wp2
    go_ret2
    exact ⟨_, rfl, Own.nil_ _ _ _ _, hbw⟩
  by_cases h20 : xs.length = 20
  · have HR := Lib.hid (AddClaim_full ⟨pt, sd, dy, tn⟩ ha h20)
    have HA := Lib.hid ha
    have he : ((xs.length : Int) == 20) = true := beq_iff_eq.2 (by omega)
    obtain ⟨A0, cap0, rfl, _, _, _⟩ := hv.shape
    clear ha h20
    rw [HR.out]
    go_enter Try.func32, Try.ntmps32
    go_wp2_with fail
    refine (iAreClaims_any _ xs _ (hv.alloc _) hq).mono ?_
    rintro e w1 ⟨rfl, hb⟩
    rw [HA.out]
    obtain ⟨_, _, hbw, _⟩ := box1 hb
    go_wp2
    go_ret2
    exact ⟨_, rfl, Own.nil_ _ _ _ _, hbw⟩
  have hl20 : xs.length ≤ 20 := by unfold areClaims at ha; rw [Bool.and_eq_true, decide_eq_true_eq] at ha; exact ha.1
  have he : ((xs.length : Int) == 20) = false := beq_eq_false_iff_ne.2 (by omega)
  have HS := Lib.hid (AddClaim_state (c := ⟨pt, sd, dy, tn⟩) ha h20)
  have HK := Lib.hid (AddClaim_ok (c := ⟨pt, sd, dy, tn⟩) ha h20)
  have HA := Lib.hid ha
  have HQC := Lib.hid hqc
  obtain ⟨A0, cap0, rfl, _, _, _⟩ := hv.shape
  clear ha h20 hqc
  go_enter Try.func32, Try.ntmps32
  go_wp2_with fail
  refine (iAreClaims_any _ xs _ (hv.alloc _) hq).mono ?_
  rintro e w1 ⟨rfl, hb⟩
  rw [HA.out]
  have HL := Lib.hid ((hv.alloc (.cells #[.string pt, .int .i64 sd, .int .i64 dy, .int .i64 tn] 47)).below hb)
  obtain ⟨bc, _, hbw, hsw⟩ := box1 hb
  have c0 : w1.cell? ⟨w.heap.size, 0, none⟩ = some (.string pt) := (bc 0).trans rfl
  have c1 : w1.cell? ⟨w.heap.size, 1, none⟩ = some (.int .i64 sd) := (bc 1).trans rfl
  have c2 : w1.cell? ⟨w.heap.size, 2, none⟩ = some (.int .i64 dy) := (bc 2).trans rfl
  have c3 : w1.cell? ⟨w.heap.size, 3, none⟩ = some (.int .i64 tn) := (bc 3).trans rfl
  have hg : w.heap.size < w1.heap.size := by omega
  have hsA : w.heap.size ≤ w1.heap.size := by omega
  have KEEP : Hid (∀ W, Below w1.heap.size w1 W → Below w1.heap.size w1 W ∧ W.cell? ⟨w.heap.size, 0, none⟩ = some (.string pt) ∧ W.cell? ⟨w.heap.size, 1, none⟩ = some (.int .i64 sd) ∧ W.cell? ⟨w.heap.size, 2, none⟩ = some (.int .i64 dy) ∧ W.cell? ⟨w.heap.size, 3, none⟩ = some (.int .i64 tn)) := Lib.hid (fun W h => ⟨h, (h.cell (p := ⟨w.heap.size, 0, none⟩) hg).trans c0, (h.cell (p := ⟨w.heap.size, 1, none⟩) hg).trans c1, (h.cell (p := ⟨w.heap.size, 2, none⟩) hg).trans c2, (h.cell (p := ⟨w.heap.size, 3, none⟩) hg).trans c3⟩)
  have HBW := Lib.hid hbw
  have OWN1 : Hid (Own eClaim (w1.alloc (.cells #[] 47)).drew w1.heap.size 47 (.slice (some ⟨w1.heap.size, 0, none⟩) 0 0) []) := Lib.hid (Own.drew (Own.empty eClaim w1 w1.heap.size 47 (Nat.le_refl _)))
  have OWN2 : Hid (Own eClaim ((w1.alloc (.cells #[] 47)).alloc (.cells #[.string pt, .int .i64 sd, .int .i64 dy, .int .i64 tn] 47)).drew w1.heap.size 47 (.slice (some ⟨w1.heap.size, 0, none⟩) 0 0) []) := Lib.hid (Own.drew ((Own.empty eClaim w1 w1.heap.size 47 (Nat.le_refl _)).alloc _))
  have OWN3 : Hid (Own eClaim ((w1.alloc (.cells #[.string pt, .int .i64 sd, .int .i64 dy, .int .i64 tn] 47)).alloc (.cells #[] 47)).drew w1.heap.size 47 (.slice (some ⟨w1.heap.size + 1, 0, none⟩) 0 0) []) := Lib.hid (Own.drew (by
    have h := Own.empty eClaim (w1.alloc (.cells #[.string pt, .int .i64 sd, .int .i64 dy, .int .i64 tn] 47)) w1.heap.size 47 (by simp)
    rw [World.size_alloc] at h
    exact h))
  have LST1 : Hid (Sl eClaim (w1.alloc (.cells #[] 47)).drew (.slice A0 xs.length cap0) xs) := Lib.hid (Sl.drew (HL.out.alloc _))
  have LST2 : Hid (Sl eClaim ((w1.alloc (.cells #[] 47)).alloc (.cells #[.string pt, .int .i64 sd, .int .i64 dy, .int .i64 tn] 47)).drew (.slice A0 xs.length cap0) xs) := Lib.hid (Sl.drew ((HL.out.alloc _).alloc _))
  have LST3 : Hid (Sl eClaim ((w1.alloc (.cells #[.string pt, .int .i64 sd, .int .i64 dy, .int .i64 tn] 47)).alloc (.cells #[] 47)).drew (.slice A0 xs.length cap0) xs) := Lib.hid (Sl.drew ((HL.out.alloc _).alloc _))
  have SZ1 : Hid (w1.heap.size ≤ (w1.alloc (.cells #[] 47)).drew.heap.size) := Lib.hid (by simp)
  have SZ2 : Hid (w1.heap.size ≤ ((w1.alloc (.cells #[] 47)).alloc (.cells #[.string pt, .int .i64 sd, .int .i64 dy, .int .i64 tn] 47)).drew.heap.size) := Lib.hid (by simp; omega)
  have SZ3 : Hid (w1.heap.size ≤ ((w1.alloc (.cells #[.string pt, .int .i64 sd, .int .i64 dy, .int .i64 tn] 47)).alloc (.cells #[] 47)).drew.heap.size) := Lib.hid (by simp; omega)
  have ONE1 : Hid (∀ W : World, Sl eClaim (W.alloc (.cells #[.string pt, .int .i64 sd, .int .i64 dy, .int .i64 tn] 47)) (.slice (some ⟨W.heap.size, 0, none⟩) 1 1) [⟨pt, sd, dy, tn⟩]) := Lib.hid (fun W => Sl.one_new eClaim W ⟨pt, sd, dy, tn⟩ _ _ rfl)
  have SZA : Hid (∀ W : World, (w1.alloc (.cells #[] 47)).drew.heap.size ≤ W.heap.size → w1.heap.size ≤ (W.alloc (.cells #[.string pt, .int .i64 sd, .int .i64 dy, .int .i64 tn] 47)).heap.size) := Lib.hid (fun W h => by have := SZ1.out; simp; omega)
  have NEW2 : Hid (∀ W : World, ((w1.alloc (.cells #[] 47)).alloc (.cells #[.string pt, .int .i64 sd, .int .i64 dy, .int .i64 tn] 47)).drew.grownBy W (some w1.heap.size) → Sl eClaim W (.slice (some ⟨w1.heap.size + 1, 0, none⟩) 1 1) [⟨pt, sd, dy, tn⟩]) := Lib.hid (fun W h => by
    have h1 := ONE1.out (w1.alloc (.cells #[] 47))
    rw [World.size_alloc] at h1
    exact (Sl.drew h1).far h (by simp))
  have NEW3 : Hid (∀ W : World, ((w1.alloc (.cells #[.string pt, .int .i64 sd, .int .i64 dy, .int .i64 tn] 47)).alloc (.cells #[] 47)).drew.grownBy W (some (w1.heap.size + 1)) → Sl eClaim W (.slice (some ⟨w1.heap.size, 0, none⟩) 1 1) [⟨pt, sd, dy, tn⟩]) := Lib.hid (fun W h => (Sl.drew ((ONE1.out w1).alloc _)).far h (by simp))
  clear bc hb hv hbw
  go_wp2
  go_region_held3 (fun W => Below w1.heap.size w1 W ∧ W.cell? ⟨w.heap.size, 0, none⟩ = some (.string pt) ∧ W.cell? ⟨w.heap.size, 1, none⟩ = some (.int .i64 sd) ∧ W.cell? ⟨w.heap.size, 2, none⟩ = some (.int .i64 dy) ∧ W.cell? ⟨w.heap.size, 3, none⟩ = some (.int .i64 tn)) (first | exact KEEP.out _ ((Below.refl _ _).drew) | exact KEEP.out _ ((Below.refl _ _).alloc (Nat.le_refl _) _).drew | exact KEEP.out _ (((Below.refl _ _).alloc (Nat.le_refl _) _).alloc (by simp) _).drew | exact KEEP.out _ (‹Below w1.heap.size w1 _ ∧ _›.1.trans hbl) | exact KEEP.out _ (‹Below w1.heap.size w1 _ ∧ _›.1.alloc ‹Below w1.heap.size w1 _ ∧ _›.1.size _)) (first | (refine step_app_all eClaim rfl _ _ 28 (by rfl) 47 (.agg #[.string ⟨#[]⟩, .int .i64 0, .int .i64 0, .int .i64 0]) 40 Try.underlying28 info_Claim rfl (by decide) (by decide) w1.heap.size _ [] (by rfl) OWN1.out _ xs (by rfl) LST1.out (by simp only [List.length_append, List.length_nil, List.length_cons]; omega) SZ1.out ?_; intro v1 wv1 hown1 hbl hg1 hor1) | (refine step_app_all eClaim rfl _ _ 28 (by rfl) 47 (.agg #[.string ⟨#[]⟩, .int .i64 0, .int .i64 0, .int .i64 0]) 40 Try.underlying28 info_Claim rfl (by decide) (by decide) w1.heap.size _ [] (by rfl) OWN2.out _ xs (by rfl) LST2.out (by simp only [List.length_append, List.length_nil, List.length_cons]; omega) SZ2.out ?_; intro v1 wv1 hown1 hbl hg1 hor1) | (refine step_app_all eClaim rfl _ _ 28 (by rfl) 47 (.agg #[.string ⟨#[]⟩, .int .i64 0, .int .i64 0, .int .i64 0]) 40 Try.underlying28 info_Claim rfl (by decide) (by decide) w1.heap.size _ [] (by rfl) OWN3.out _ xs (by rfl) LST3.out (by simp only [List.length_append, List.length_nil, List.length_cons]; omega) SZ3.out ?_; intro v1 wv1 hown1 hbl hg1 hor1) | (refine step_app_all eClaim rfl _ _ 28 (by rfl) 47 (.agg #[.string ⟨#[]⟩, .int .i64 0, .int .i64 0, .int .i64 0]) 40 Try.underlying28 info_Claim rfl (by decide) (by decide) w1.heap.size _ ([] ++ xs) (by rfl) (hown1.alloc _) _ [⟨pt, sd, dy, tn⟩] (by rfl) (ONE1.out wv1) (by simp only [List.length_append, List.length_nil, List.length_cons]; omega) (SZA.out _ hbl.size) ?_; intro v2 wv2 hown2 hbl hg2 hor2) | (refine step_app_all eClaim rfl _ _ 28 (by rfl) 47 (.agg #[.string ⟨#[]⟩, .int .i64 0, .int .i64 0, .int .i64 0]) 40 Try.underlying28 info_Claim rfl (by decide) (by decide) w1.heap.size _ ([] ++ xs) (by rfl) hown1 _ [⟨pt, sd, dy, tn⟩] (by rfl) (NEW2.out wv1 hg1) (by simp only [List.length_append, List.length_nil, List.length_cons]; omega) (Nat.le_trans SZ2.out hbl.size) ?_; intro v2 wv2 hown2 hbl hg2 hor2) | (refine step_app_all eClaim rfl _ _ 28 (by rfl) 47 (.agg #[.string ⟨#[]⟩, .int .i64 0, .int .i64 0, .int .i64 0]) 40 Try.underlying28 info_Claim rfl (by decide) (by decide) w1.heap.size _ ([] ++ xs) (by rfl) hown1 _ [⟨pt, sd, dy, tn⟩] (by rfl) (NEW3.out wv1 hg1) (by simp only [List.length_append, List.length_nil, List.length_cons]; omega) (Nat.le_trans SZ3.out hbl.size) ?_; intro v2 wv2 hown2 hbl hg2 hor2))
  all_goals
    have hbF : Below w1.heap.size w1 wv2 := (‹Below w1.heap.size w1 _ ∧ _›).1
    have HO : Hid (Own eClaim wv2 w1.heap.size 47 v2 (xs ++ [⟨pt, sd, dy, tn⟩])) := Lib.hid hown2
    have HB := Lib.hid (below_step2 HBW.out hbF hsA)
    go_wp2_with fail
    refine (iAreClaims_any v2 (xs ++ [⟨pt, sd, dy, tn⟩]) wv2 (Sl.of_own HO.out (by simp only [List.length_append, List.length_cons, List.length_nil]; unfold big40; omega)) HQC.out).mono ?_
    rintro e w2 ⟨rfl, hb2⟩
    rcases hF : areClaims (xs ++ [⟨pt, sd, dy, tn⟩])
    · have HR := Lib.hid (HS.out hF)
      go_wp2
      go_ret2
      rw [HR.out]
      exact ⟨_, rfl, Own.nil_ _ _ _ _, Below.step HB.out hb2⟩
    · have HR := Lib.hid (HK.out hF)
      go_wp2
      go_ret2
      rw [HR.out]
      exact ⟨_, rfl, (HO.out.below hb2).mono hsA, Below.step HB.out hb2⟩
set_option maxHeartbeats 8000000 in
set_option maxRecDepth 20000 in
theorem sAddClaim_law (v : Value) (xs : List Claim) (c : Claim) (w : World) (hv : Sl eClaim w v xs) (_ : xs.length ≤ 1048576) (hq : ∀ x ∈ xs, okClaim x) (hc : okClaim c) :
    Calls Try.prog 30 #[v, .agg #[.string c.part, .int .i64 c.sold, .int .i64 c.day, .int .i64 c.tens]] w fun e w' => ∃ u, e = .returned (.tuple #[u, .int .i64 (AddClaim_r xs c).2]) ∧ Own eClaim w' w.heap.size 47 u (AddClaim_r xs c).1 ∧ Below w.heap.size w w' := by
  have hqc : ∀ x ∈ xs ++ [c], okClaim x := fun x hx => by
    rcases List.mem_append.1 hx with h | h
    · exact hq x h
    · rw [List.mem_singleton.1 h]; exact hc
  obtain ⟨pt, sd, dy, tn⟩ := c
  simp only at *
  rcases ha : areClaims xs
  · have HR := Lib.hid (AddClaim_bad ⟨pt, sd, dy, tn⟩ ha)
    have HA := Lib.hid ha
    clear ha
    rw [HR.out]
    go_enter Try.func30, Try.ntmps30
    go_wp2_with fail
    refine (sAreClaims_any v xs _ (hv.alloc _) hq).mono ?_
    rintro e w1 ⟨rfl, hb⟩
    rw [HA.out]
    obtain ⟨_, _, hbw, _⟩ := box1 hb
    go_wp2
    go_ret2
    exact ⟨_, rfl, Own.nil_ _ _ _ _, hbw⟩
  by_cases h20 : xs.length = 20
  · have HR := Lib.hid (AddClaim_full ⟨pt, sd, dy, tn⟩ ha h20)
    have HA := Lib.hid ha
    have he : ((xs.length : Int) == 20) = true := beq_iff_eq.2 (by omega)
    obtain ⟨A0, cap0, rfl, _, _, _⟩ := hv.shape
    clear ha h20
    rw [HR.out]
    go_enter Try.func30, Try.ntmps30
    go_wp2_with fail
    refine (sAreClaims_any _ xs _ (hv.alloc _) hq).mono ?_
    rintro e w1 ⟨rfl, hb⟩
    rw [HA.out]
    obtain ⟨_, _, hbw, _⟩ := box1 hb
    go_wp2
    go_ret2
    exact ⟨_, rfl, Own.nil_ _ _ _ _, hbw⟩
  have hl20 : xs.length ≤ 20 := by unfold areClaims at ha; rw [Bool.and_eq_true, decide_eq_true_eq] at ha; exact ha.1
  have he : ((xs.length : Int) == 20) = false := beq_eq_false_iff_ne.2 (by omega)
  have HS := Lib.hid (AddClaim_state (c := ⟨pt, sd, dy, tn⟩) ha h20)
  have HK := Lib.hid (AddClaim_ok (c := ⟨pt, sd, dy, tn⟩) ha h20)
  have HA := Lib.hid ha
  have HQC := Lib.hid hqc
  obtain ⟨A0, cap0, rfl, _, _, _⟩ := hv.shape
  clear ha h20 hqc
  go_enter Try.func30, Try.ntmps30
  go_wp2_with fail
  refine (sAreClaims_any _ xs _ (hv.alloc _) hq).mono ?_
  rintro e w1 ⟨rfl, hb⟩
  rw [HA.out]
  have HL := Lib.hid ((hv.alloc (.cells #[.string pt, .int .i64 sd, .int .i64 dy, .int .i64 tn] 47)).below hb)
  obtain ⟨bc, _, hbw, hsw⟩ := box1 hb
  have c0 : w1.cell? ⟨w.heap.size, 0, none⟩ = some (.string pt) := (bc 0).trans rfl
  have c1 : w1.cell? ⟨w.heap.size, 1, none⟩ = some (.int .i64 sd) := (bc 1).trans rfl
  have c2 : w1.cell? ⟨w.heap.size, 2, none⟩ = some (.int .i64 dy) := (bc 2).trans rfl
  have c3 : w1.cell? ⟨w.heap.size, 3, none⟩ = some (.int .i64 tn) := (bc 3).trans rfl
  have hg : w.heap.size < w1.heap.size := by omega
  have hsA : w.heap.size ≤ w1.heap.size := by omega
  have KEEP : Hid (∀ W, Below w1.heap.size w1 W → Below w1.heap.size w1 W ∧ W.cell? ⟨w.heap.size, 0, none⟩ = some (.string pt) ∧ W.cell? ⟨w.heap.size, 1, none⟩ = some (.int .i64 sd) ∧ W.cell? ⟨w.heap.size, 2, none⟩ = some (.int .i64 dy) ∧ W.cell? ⟨w.heap.size, 3, none⟩ = some (.int .i64 tn)) := Lib.hid (fun W h => ⟨h, (h.cell (p := ⟨w.heap.size, 0, none⟩) hg).trans c0, (h.cell (p := ⟨w.heap.size, 1, none⟩) hg).trans c1, (h.cell (p := ⟨w.heap.size, 2, none⟩) hg).trans c2, (h.cell (p := ⟨w.heap.size, 3, none⟩) hg).trans c3⟩)
  have HBW := Lib.hid hbw
  have OWN1 : Hid (Own eClaim (w1.alloc (.cells #[] 47)).drew w1.heap.size 47 (.slice (some ⟨w1.heap.size, 0, none⟩) 0 0) []) := Lib.hid (Own.drew (Own.empty eClaim w1 w1.heap.size 47 (Nat.le_refl _)))
  have OWN2 : Hid (Own eClaim ((w1.alloc (.cells #[] 47)).alloc (.cells #[.string pt, .int .i64 sd, .int .i64 dy, .int .i64 tn] 47)).drew w1.heap.size 47 (.slice (some ⟨w1.heap.size, 0, none⟩) 0 0) []) := Lib.hid (Own.drew ((Own.empty eClaim w1 w1.heap.size 47 (Nat.le_refl _)).alloc _))
  have OWN3 : Hid (Own eClaim ((w1.alloc (.cells #[.string pt, .int .i64 sd, .int .i64 dy, .int .i64 tn] 47)).alloc (.cells #[] 47)).drew w1.heap.size 47 (.slice (some ⟨w1.heap.size + 1, 0, none⟩) 0 0) []) := Lib.hid (Own.drew (by
    have h := Own.empty eClaim (w1.alloc (.cells #[.string pt, .int .i64 sd, .int .i64 dy, .int .i64 tn] 47)) w1.heap.size 47 (by simp)
    rw [World.size_alloc] at h
    exact h))
  have LST1 : Hid (Sl eClaim (w1.alloc (.cells #[] 47)).drew (.slice A0 xs.length cap0) xs) := Lib.hid (Sl.drew (HL.out.alloc _))
  have LST2 : Hid (Sl eClaim ((w1.alloc (.cells #[] 47)).alloc (.cells #[.string pt, .int .i64 sd, .int .i64 dy, .int .i64 tn] 47)).drew (.slice A0 xs.length cap0) xs) := Lib.hid (Sl.drew ((HL.out.alloc _).alloc _))
  have LST3 : Hid (Sl eClaim ((w1.alloc (.cells #[.string pt, .int .i64 sd, .int .i64 dy, .int .i64 tn] 47)).alloc (.cells #[] 47)).drew (.slice A0 xs.length cap0) xs) := Lib.hid (Sl.drew ((HL.out.alloc _).alloc _))
  have SZ1 : Hid (w1.heap.size ≤ (w1.alloc (.cells #[] 47)).drew.heap.size) := Lib.hid (by simp)
  have SZ2 : Hid (w1.heap.size ≤ ((w1.alloc (.cells #[] 47)).alloc (.cells #[.string pt, .int .i64 sd, .int .i64 dy, .int .i64 tn] 47)).drew.heap.size) := Lib.hid (by simp; omega)
  have SZ3 : Hid (w1.heap.size ≤ ((w1.alloc (.cells #[.string pt, .int .i64 sd, .int .i64 dy, .int .i64 tn] 47)).alloc (.cells #[] 47)).drew.heap.size) := Lib.hid (by simp; omega)
  have ONE1 : Hid (∀ W : World, Sl eClaim (W.alloc (.cells #[.string pt, .int .i64 sd, .int .i64 dy, .int .i64 tn] 47)) (.slice (some ⟨W.heap.size, 0, none⟩) 1 1) [⟨pt, sd, dy, tn⟩]) := Lib.hid (fun W => Sl.one_new eClaim W ⟨pt, sd, dy, tn⟩ _ _ rfl)
  have SZA : Hid (∀ W : World, (w1.alloc (.cells #[] 47)).drew.heap.size ≤ W.heap.size → w1.heap.size ≤ (W.alloc (.cells #[.string pt, .int .i64 sd, .int .i64 dy, .int .i64 tn] 47)).heap.size) := Lib.hid (fun W h => by have := SZ1.out; simp; omega)
  have NEW2 : Hid (∀ W : World, ((w1.alloc (.cells #[] 47)).alloc (.cells #[.string pt, .int .i64 sd, .int .i64 dy, .int .i64 tn] 47)).drew.grownBy W (some w1.heap.size) → Sl eClaim W (.slice (some ⟨w1.heap.size + 1, 0, none⟩) 1 1) [⟨pt, sd, dy, tn⟩]) := Lib.hid (fun W h => by
    have h1 := ONE1.out (w1.alloc (.cells #[] 47))
    rw [World.size_alloc] at h1
    exact (Sl.drew h1).far h (by simp))
  have NEW3 : Hid (∀ W : World, ((w1.alloc (.cells #[.string pt, .int .i64 sd, .int .i64 dy, .int .i64 tn] 47)).alloc (.cells #[] 47)).drew.grownBy W (some (w1.heap.size + 1)) → Sl eClaim W (.slice (some ⟨w1.heap.size, 0, none⟩) 1 1) [⟨pt, sd, dy, tn⟩]) := Lib.hid (fun W h => (Sl.drew ((ONE1.out w1).alloc _)).far h (by simp))
  clear bc hb hv hbw
  go_wp2
  go_region_held3 (fun W => Below w1.heap.size w1 W ∧ W.cell? ⟨w.heap.size, 0, none⟩ = some (.string pt) ∧ W.cell? ⟨w.heap.size, 1, none⟩ = some (.int .i64 sd) ∧ W.cell? ⟨w.heap.size, 2, none⟩ = some (.int .i64 dy) ∧ W.cell? ⟨w.heap.size, 3, none⟩ = some (.int .i64 tn)) (first | exact KEEP.out _ ((Below.refl _ _).drew) | exact KEEP.out _ ((Below.refl _ _).alloc (Nat.le_refl _) _).drew | exact KEEP.out _ (((Below.refl _ _).alloc (Nat.le_refl _) _).alloc (by simp) _).drew | exact KEEP.out _ (‹Below w1.heap.size w1 _ ∧ _›.1.trans hbl) | exact KEEP.out _ (‹Below w1.heap.size w1 _ ∧ _›.1.alloc ‹Below w1.heap.size w1 _ ∧ _›.1.size _)) (first | (refine step_app_all eClaim rfl _ _ 28 (by rfl) 47 (.agg #[.string ⟨#[]⟩, .int .i64 0, .int .i64 0, .int .i64 0]) 40 Try.underlying28 info_Claim rfl (by decide) (by decide) w1.heap.size _ [] (by rfl) OWN1.out _ xs (by rfl) LST1.out (by simp only [List.length_append, List.length_nil, List.length_cons]; omega) SZ1.out ?_; intro v1 wv1 hown1 hbl hg1 hor1) | (refine step_app_all eClaim rfl _ _ 28 (by rfl) 47 (.agg #[.string ⟨#[]⟩, .int .i64 0, .int .i64 0, .int .i64 0]) 40 Try.underlying28 info_Claim rfl (by decide) (by decide) w1.heap.size _ [] (by rfl) OWN2.out _ xs (by rfl) LST2.out (by simp only [List.length_append, List.length_nil, List.length_cons]; omega) SZ2.out ?_; intro v1 wv1 hown1 hbl hg1 hor1) | (refine step_app_all eClaim rfl _ _ 28 (by rfl) 47 (.agg #[.string ⟨#[]⟩, .int .i64 0, .int .i64 0, .int .i64 0]) 40 Try.underlying28 info_Claim rfl (by decide) (by decide) w1.heap.size _ [] (by rfl) OWN3.out _ xs (by rfl) LST3.out (by simp only [List.length_append, List.length_nil, List.length_cons]; omega) SZ3.out ?_; intro v1 wv1 hown1 hbl hg1 hor1) | (refine step_app_all eClaim rfl _ _ 28 (by rfl) 47 (.agg #[.string ⟨#[]⟩, .int .i64 0, .int .i64 0, .int .i64 0]) 40 Try.underlying28 info_Claim rfl (by decide) (by decide) w1.heap.size _ ([] ++ xs) (by rfl) (hown1.alloc _) _ [⟨pt, sd, dy, tn⟩] (by rfl) (ONE1.out wv1) (by simp only [List.length_append, List.length_nil, List.length_cons]; omega) (SZA.out _ hbl.size) ?_; intro v2 wv2 hown2 hbl hg2 hor2) | (refine step_app_all eClaim rfl _ _ 28 (by rfl) 47 (.agg #[.string ⟨#[]⟩, .int .i64 0, .int .i64 0, .int .i64 0]) 40 Try.underlying28 info_Claim rfl (by decide) (by decide) w1.heap.size _ ([] ++ xs) (by rfl) hown1 _ [⟨pt, sd, dy, tn⟩] (by rfl) (NEW2.out wv1 hg1) (by simp only [List.length_append, List.length_nil, List.length_cons]; omega) (Nat.le_trans SZ2.out hbl.size) ?_; intro v2 wv2 hown2 hbl hg2 hor2) | (refine step_app_all eClaim rfl _ _ 28 (by rfl) 47 (.agg #[.string ⟨#[]⟩, .int .i64 0, .int .i64 0, .int .i64 0]) 40 Try.underlying28 info_Claim rfl (by decide) (by decide) w1.heap.size _ ([] ++ xs) (by rfl) hown1 _ [⟨pt, sd, dy, tn⟩] (by rfl) (NEW3.out wv1 hg1) (by simp only [List.length_append, List.length_nil, List.length_cons]; omega) (Nat.le_trans SZ3.out hbl.size) ?_; intro v2 wv2 hown2 hbl hg2 hor2))
  all_goals
    have hbF : Below w1.heap.size w1 wv2 := (‹Below w1.heap.size w1 _ ∧ _›).1
    have HO : Hid (Own eClaim wv2 w1.heap.size 47 v2 (xs ++ [⟨pt, sd, dy, tn⟩])) := Lib.hid hown2
    have HB := Lib.hid (below_step2 HBW.out hbF hsA)
    go_wp2_with fail
    refine (sAreClaims_any v2 (xs ++ [⟨pt, sd, dy, tn⟩]) wv2 (Sl.of_own HO.out (by simp only [List.length_append, List.length_cons, List.length_nil]; unfold big40; omega)) HQC.out).mono ?_
    rintro e w2 ⟨rfl, hb2⟩
    rcases hF : areClaims (xs ++ [⟨pt, sd, dy, tn⟩])
    · have HR := Lib.hid (HS.out hF)
      go_wp2
      go_ret2
      rw [HR.out]
      exact ⟨_, rfl, Own.nil_ _ _ _ _, Below.step HB.out hb2⟩
    · have HR := Lib.hid (HK.out hF)
      go_wp2
      go_ret2
      rw [HR.out]
      exact ⟨_, rfl, (HO.out.below hb2).mono hsA, Below.step HB.out hb2⟩
end Go.Proofs.Ytnpfgngfolgdfaa
