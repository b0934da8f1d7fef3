/- Contracts of CheapestRebuild (chapter 25). No statement of the seat is proved here. -/
import Derived.Deep.DrawnRows
import Derived.Test.YtncggcbpbejmcaaLGradeOf
import Derived.Test.YtncggcbpbejmcaaRebuilt
namespace Go.Proofs.Ytncggcbpbejmcaa
open Go.RowKit

/-- the least number of dents from d on (n of them looked at) whose rebuild has a grade of at most g -/
def cheapFrom (R : List Rule) (x : Used) (g : Int) : Nat → Nat → Int × Int
  | 0, _ => (0, 4)
  | n + 1, d => if gradeF R (rebuiltF x 0 d) ≤ g then (d, 0) else cheapFrom R x g n (d + 1)
theorem cheap_yes {R : List Rule} {x : Used} {g : Int} {n d : Nat} {r : Int × Int} (h : cheapFrom R x g (n + 1) d = r) (h2 : gradeF R (rebuiltF x 0 d) ≤ g) : r = ((d : Int), 0) := by rw [← h, cheapFrom, if_pos h2]
theorem cheap_no {R : List Rule} {x : Used} {g : Int} {n d : Nat} {r : Int × Int} (h : cheapFrom R x g (n + 1) d = r) (h2 : ¬ gradeF R (rebuiltF x 0 d) ≤ g) : cheapFrom R x g n (d + 1) = r := by rw [← h, cheapFrom, if_neg h2]
def CheapestRebuild_r (R : List Rule) (x : Used) (g : Int) : Int × Int := if areRules R && isUsed x then (if inR g 0 4 then cheapFrom R x g 21 0 else (0, 2)) else (0, 1)
theorem Cheap_1 {R : List Rule} {x : Used} {g : Int} (h : (areRules R && isUsed x) = false) : CheapestRebuild_r R x g = (0, 1) := by unfold CheapestRebuild_r; rw [h]; rfl
theorem Cheap_2 {R : List Rule} {x : Used} {g : Int} (h : (areRules R && isUsed x) = true) (h2 : inR g 0 4 = false) : CheapestRebuild_r R x g = (0, 2) := by unfold CheapestRebuild_r; rw [h, h2]; rfl
theorem Cheap_ok {R : List Rule} {x : Used} {g : Int} (h : (areRules R && isUsed x) = true) (h2 : inR g 0 4 = true) : cheapFrom R x g 21 0 = CheapestRebuild_r R x g := by unfold CheapestRebuild_r; rw [h, h2]; rfl
abbrev Cheap_e (r : Int × Int) : Ending := .returned (.tuple #[.int .i64 r.1, .int .i64 r.2])
theorem Cheap_e_of {r : Int × Int} {a b : Int} (h : r = (a, b)) : Ending.returned (.tuple #[.int .i64 a, .int .i64 b]) = Cheap_e r := by rw [h]
set_option maxHeartbeats 4000000 in
set_option maxRecDepth 20000 in
theorem iCheapestRebuild_law (v : Value) (R : List Rule) (x : Used) (g : Int) (w : World) (hv : Sl eRule w v R) (_ : R.length ≤ 1048576) (hx : okUsed x) (_ : (Lit.int .i64 g).wf = true) :
    Calls Try.prog 39 #[v, .agg #[.string x.name, .int .i64 x.hours, .int .i64 x.play, .int .i64 x.rust, .int .i64 x.dents], .int .i64 g] w fun e w' => e = Cheap_e (CheapestRebuild_r R x g) ∧ Below w.heap.size w w' := by
  rcases hA : areRules R
  · have HR := Lib.hid (Cheap_1 (R := R) (x := x) (g := g) (by rw [hA]; rfl))
    have HA := Lib.hid hA
    clear hA
    go_enter Try.func39, Try.ntmps39
    go_wp2_with fail
    refine (iAreRules_any v R _ (hv.alloc _)).mono ?_
    rintro e w1 ⟨rfl, hb⟩
    rw [HA.out]
    obtain ⟨_, hbw, _⟩ := usedBox hb
    go_wp2
    go_ret2
    exact ⟨Cheap_e_of HR.out, hbw⟩
  rcases hU : isUsed x
  · have HR := Lib.hid (Cheap_1 (R := R) (x := x) (g := g) (by rw [hA, hU]; rfl))
    have HA := Lib.hid hA
    have HU := Lib.hid hU
    clear hA hU
    go_enter Try.func39, Try.ntmps39
    go_wp2_with fail
    refine (iAreRules_any v R _ (hv.alloc _)).mono ?_
    rintro e w1 ⟨rfl, hb⟩
    rw [HA.out]
    obtain ⟨⟨b0, b1, b2, b3, b4⟩, hbw, hs⟩ := usedBox hb
    go_wp2_with fail
    refine (iIsUsed_any x w1 hx).mono ?_
    rintro e w2 ⟨rfl, hb2⟩
    rw [HU.out]
    go_wp2
    go_ret2
    exact ⟨Cheap_e_of HR.out, below_step2 hbw hb2 (by omega)⟩
  have hAU : (areRules R && isUsed x) = true := by rw [hA, hU]; rfl
  have HA := Lib.hid hA
  have HU := Lib.hid hU
  clear hA
  rcases hG : inR g 0 4
  · have HR := Lib.hid (Cheap_2 hAU hG)
    have HG := Lib.hid hG
    clear hG hU hAU
    go_enter Try.func39, Try.ntmps39
    go_wp2_with fail
    refine (iAreRules_any v R _ (hv.alloc _)).mono ?_
    rintro e w1 ⟨rfl, hb⟩
    rw [HA.out]
    obtain ⟨⟨b0, b1, b2, b3, b4⟩, hbw, hs⟩ := usedBox hb
    go_wp2_with fail
    refine (iIsUsed_any x w1 hx).mono ?_
    rintro e w2 ⟨rfl, hb2⟩
    rw [HU.out]
    go_wp2_with fail
    refine (isGrade_eq HG.out _).mono ?_
    rintro e _ ⟨rfl, rfl⟩
    go_wp2
    go_ret2
    exact ⟨Cheap_e_of HR.out, below_step2 hbw hb2 (by omega)⟩
  · have HG := Lib.hid hG
    go_enter Try.func39, Try.ntmps39
    go_wp2_with fail
    refine (iAreRules_any v R _ (hv.alloc _)).mono ?_
    rintro e w1 ⟨rfl, hb⟩
    rw [HA.out]
    have HV1 := Lib.hid ((hv.alloc (.cells #[.string x.name, .int .i64 x.hours, .int .i64 x.play, .int .i64 x.rust, .int .i64 x.dents] 33)).below hb)
    obtain ⟨⟨b0, b1, b2, b3, b4⟩, hbw, hs⟩ := usedBox hb
    go_wp2_with fail
    refine (iIsUsed_any x w1 hx).mono ?_
    rintro e W ⟨rfl, hb2⟩
    rw [HU.out]
    replace b0 := (hb2.cell (p := ⟨w.heap.size, 0, none⟩) (by simp only []; omega)).trans b0
    replace b1 := (hb2.cell (p := ⟨w.heap.size, 1, none⟩) (by simp only []; omega)).trans b1
    replace b2 := (hb2.cell (p := ⟨w.heap.size, 2, none⟩) (by simp only []; omega)).trans b2
    replace b3 := (hb2.cell (p := ⟨w.heap.size, 3, none⟩) (by simp only []; omega)).trans b3
    replace b4 := (hb2.cell (p := ⟨w.heap.size, 4, none⟩) (by simp only []; omega)).trans b4
    have HBX := Lib.hid (And.intro b0 (And.intro b1 (And.intro b2 (And.intro b3 b4))))
    have hsW : w.heap.size < W.heap.size := Nat.lt_of_lt_of_le hs hb2.size
    have HBW := Lib.hid (below_step2 hbw hb2 (by omega))
    have HV := Lib.hid (HV1.out.below hb2)
    clear b0 b1 b2 b3 b4 hb hb2 hbw hs HV1
    go_wp2_with fail
    refine (isGrade_eq HG.out _).mono ?_
    rintro e _ ⟨rfl, rfl⟩
    have hdn := (isUsed_bd hU).2.2.2
    have HC0 := Lib.hid (Cheap_ok (g := g) hAU hG)
    clear hU hAU hG hv
    go_wp2
    go_loopg [8] 21 (fun gi i wr => ∃ k n : Nat, k + n = 21 ∧ gi = n ∧ i = .int .i64 k ∧ Hid (cheapFrom R x g n k = CheapestRebuild_r R x g) ∧ Below W.heap.size W wr ∧ W.heap.size ≤ wr.heap.size)
    case atStart => exact ⟨0, 21, rfl, rfl, rfl, HC0, Below.refl _ _, Nat.le_refl _⟩
    case round =>
      obtain ⟨k, n, hkn, hgi, rfl, HC, hb, hs⟩ := hrel
      replace hgi := hgi.symm
      subst hgi
      by_cases hlt : k ≤ 20
      · obtain ⟨m, rfl⟩ : ∃ m, n = m + 1 := ⟨n - 1, by omega⟩
        have b0 := (hb.cell (p := ⟨w.heap.size, 0, none⟩) hsW).trans HBX.out.1
        have b1 := (hb.cell (p := ⟨w.heap.size, 1, none⟩) hsW).trans HBX.out.2.1
        have b2 := (hb.cell (p := ⟨w.heap.size, 2, none⟩) hsW).trans HBX.out.2.2.1
        have b3 := (hb.cell (p := ⟨w.heap.size, 3, none⟩) hsW).trans HBX.out.2.2.2.1
        have b4 := (hb.cell (p := ⟨w.heap.size, 4, none⟩) hsW).trans HBX.out.2.2.2.2
        have HY : Hid (gradeF R (rebuiltF x 0 k) ≤ g → CheapestRebuild_r R x g = ((k : Int), 0)) := Lib.hid (fun h => cheap_yes HC.out h)
        have HN : Hid (¬ gradeF R (rebuiltF x 0 k) ≤ g → cheapFrom R x g m (k + 1) = CheapestRebuild_r R x g) := Lib.hid (fun h => cheap_no HC.out h)
        clear HC
        go_wp2_with fail
        refine (irebuilt_any x 0 k wr (by omega) (by omega) (by omega) (by omega)).mono ?_
        rintro e w5 ⟨rfl, hb5⟩
        have hb5W := below_step2 hb hb5 hs
        have hs5 := Nat.le_trans hs hb5.size
        go_wp2_with fail
        refine (gradeOf_any v R (rebuiltF x 0 k) w5 (HV.out.below hb5W)).mono ?_
        rintro e w6 ⟨rfl, hb6⟩
        have HB6 := Lib.hid (below_step2 hb5W hb6 hs5)
        have hs6 := Nat.le_trans hs5 hb6.size
        clear hb hb5 hb5W hb6
        unfold Grade_e
        generalize gradeF R (rebuiltF x 0 k) = gf at *
        by_cases hle : gf ≤ g
        · have HE := Lib.hid (HY.out hle)
          go_wp2
          go_ret2
          exact ⟨Cheap_e_of HE.out, below_step2 HBW.out HB6.out (by omega)⟩
        · have HE := Lib.hid (HN.out (by omega))
          go_wp2
          go_roundg m
          case measure => omega
          case rel => exact ⟨k + 1, m, by omega, rfl, by go_num, HE, HB6.out, hs6⟩
      · obtain rfl : n = 0 := by omega
        have HE : Hid (CheapestRebuild_r R x g = (0, 4)) := Lib.hid HC.out.symm
        clear HC
        go_wp2
        go_ret2
        exact ⟨Cheap_e_of HE.out, below_step2 HBW.out hb (by omega)⟩
set_option maxHeartbeats 4000000 in
set_option maxRecDepth 20000 in
theorem sCheapestRebuild_law (v : Value) (R : List Rule) (x : Used) (g : Int) (w : World) (hv : Sl eRule w v R) (_ : R.length ≤ 1048576) (hx : okUsed x) (_ : (Lit.int .i64 g).wf = true) :
    Calls Try.prog 38 #[v, .agg #[.string x.name, .int .i64 x.hours, .int .i64 x.play, .int .i64 x.rust, .int .i64 x.dents], .int .i64 g] w fun e w' => e = Cheap_e (CheapestRebuild_r R x g) ∧ Below w.heap.size w w' := by
  have hq1 : ∀ y ∈ [x], okUsed y := fun y hy => by rw [List.mem_singleton.1 hy]; exact hx
  have HSL : Hid (Sl eUsed ((w.alloc (.cells #[.string x.name, .int .i64 x.hours, .int .i64 x.play, .int .i64 x.rust, .int .i64 x.dents] 33)).alloc (.cells #[.string x.name, .int .i64 x.hours, .int .i64 x.play, .int .i64 x.rust, .int .i64 x.dents] 33)) (.slice (some ⟨w.heap.size + 1, 0, none⟩) 1 1) [x]) := Lib.hid (by
    have h := Sl.one_new eUsed (w.alloc (.cells #[.string x.name, .int .i64 x.hours, .int .i64 x.play, .int .i64 x.rust, .int .i64 x.dents] 33)) x #[.string x.name, .int .i64 x.hours, .int .i64 x.play, .int .i64 x.rust, .int .i64 x.dents] 33 rfl
    rw [World.size_alloc] at h
    exact h)
  have hbx : ∀ j, (w.alloc (.cells #[.string x.name, .int .i64 x.hours, .int .i64 x.play, .int .i64 x.rust, .int .i64 x.dents] 33)).cell? ⟨w.heap.size, j, none⟩ = #[Value.string x.name, .int .i64 x.hours, .int .i64 x.play, .int .i64 x.rust, .int .i64 x.dents][j]? := fun j => box_new _ _ _ j
  rcases hAU : (areRules R && isUsed x)
  · have HR := Lib.hid (Cheap_1 (g := g) hAU)
    have HCo : Hid (gCode R [x] = 1) := Lib.hid (gCode_1 (by rw [gBoth_one]; exact hAU))
    clear hAU
    go_enter Try.func38, Try.ntmps38
    go_wp2_with fail
    refine (l25Code_any v R (.slice (some ⟨w.heap.size + 1, 0, none⟩) 1 1) [x] ((w.alloc (.cells #[.string x.name, .int .i64 x.hours, .int .i64 x.play, .int .i64 x.rust, .int .i64 x.dents] 33)).alloc (.cells #[.string x.name, .int .i64 x.hours, .int .i64 x.play, .int .i64 x.rust, .int .i64 x.dents] 33)) ((hv.alloc _).alloc _) HSL.out hq1).mono ?_
    rintro e W ⟨rfl, hb⟩
    rw [HCo.out]
    go_wp2
    go_ret2
    exact ⟨Cheap_e_of HR.out, (box2 hb).2.2.2.2.1⟩
  have HCo : Hid (gCode R [x] = 0) := Lib.hid (gCode_0 (by rw [gBoth_one]; exact hAU))
  obtain ⟨hA, hU⟩ := (Bool.and_eq_true _ _).mp hAU
  have HA := Lib.hid hA
  clear hA
  rcases hG : inR g 0 4
  · have HR := Lib.hid (Cheap_2 hAU hG)
    have HG := Lib.hid hG
    clear hAU hG hU
    go_enter Try.func38, Try.ntmps38
    go_wp2_with fail
    refine (l25Code_any v R (.slice (some ⟨w.heap.size + 1, 0, none⟩) 1 1) [x] ((w.alloc (.cells #[.string x.name, .int .i64 x.hours, .int .i64 x.play, .int .i64 x.rust, .int .i64 x.dents] 33)).alloc (.cells #[.string x.name, .int .i64 x.hours, .int .i64 x.play, .int .i64 x.rust, .int .i64 x.dents] 33)) ((hv.alloc _).alloc _) HSL.out hq1).mono ?_
    rintro e W ⟨rfl, hb⟩
    rw [HCo.out]
    go_wp2_with fail
    refine (l01In_eq HG.out _).mono ?_
    rintro e _ ⟨rfl, rfl⟩
    go_wp2
    go_ret2
    exact ⟨Cheap_e_of HR.out, (box2 hb).2.2.2.2.1⟩
  · have HG := Lib.hid hG
    go_enter Try.func38, Try.ntmps38
    go_wp2_with fail
    refine (l25Code_any v R (.slice (some ⟨w.heap.size + 1, 0, none⟩) 1 1) [x] ((w.alloc (.cells #[.string x.name, .int .i64 x.hours, .int .i64 x.play, .int .i64 x.rust, .int .i64 x.dents] 33)).alloc (.cells #[.string x.name, .int .i64 x.hours, .int .i64 x.play, .int .i64 x.rust, .int .i64 x.dents] 33)) ((hv.alloc _).alloc _) HSL.out hq1).mono ?_
    rintro e W ⟨rfl, hb⟩
    rw [HCo.out]
    have HV := Lib.hid (((hv.alloc (.cells #[.string x.name, .int .i64 x.hours, .int .i64 x.play, .int .i64 x.rust, .int .i64 x.dents] 33)).alloc (.cells #[.string x.name, .int .i64 x.hours, .int .i64 x.play, .int .i64 x.rust, .int .i64 x.dents] 33)).below hb)
    obtain ⟨bc, _, _, _, hbw, hs⟩ := box2 hb
    have b0 : W.cell? ⟨w.heap.size, 0, none⟩ = some (.string x.name) := (bc 0).trans rfl
    have b1 : W.cell? ⟨w.heap.size, 1, none⟩ = some (.int .i64 x.hours) := (bc 1).trans rfl
    have b2 : W.cell? ⟨w.heap.size, 2, none⟩ = some (.int .i64 x.play) := (bc 2).trans rfl
    have b3 : W.cell? ⟨w.heap.size, 3, none⟩ = some (.int .i64 x.rust) := (bc 3).trans rfl
    have b4 : W.cell? ⟨w.heap.size, 4, none⟩ = some (.int .i64 x.dents) := (bc 4).trans rfl
    have HBX := Lib.hid (And.intro b0 (And.intro b1 (And.intro b2 (And.intro b3 b4))))
    have hsW : w.heap.size < W.heap.size := by omega
    have HBW := Lib.hid hbw
    clear b0 b1 b2 b3 b4 bc hbx hb hbw hs HSL
    go_wp2_with fail
    refine (l01In_eq HG.out _).mono ?_
    rintro e _ ⟨rfl, rfl⟩
    have hdn := (isUsed_bd hU).2.2.2
    have HC0 := Lib.hid (Cheap_ok (g := g) hAU hG)
    clear hU hAU hG hv
    go_wp2
    go_loopg [9] 21 (fun gi i wr => ∃ k n : Nat, k + n = 21 ∧ gi = n ∧ i = .int .i64 k ∧ Hid (cheapFrom R x g n k = CheapestRebuild_r R x g) ∧ Below W.heap.size W wr ∧ W.heap.size ≤ wr.heap.size)
    case atStart => exact ⟨0, 21, rfl, rfl, rfl, HC0, Below.refl _ _, Nat.le_refl _⟩
    case round =>
      obtain ⟨k, n, hkn, hgi, rfl, HC, hb, hs⟩ := hrel
      replace hgi := hgi.symm
      subst hgi
      by_cases hlt : k ≤ 20
      · obtain ⟨m, rfl⟩ : ∃ m, n = m + 1 := ⟨n - 1, by omega⟩
        have b0 := (hb.cell (p := ⟨w.heap.size, 0, none⟩) hsW).trans HBX.out.1
        have b1 := (hb.cell (p := ⟨w.heap.size, 1, none⟩) hsW).trans HBX.out.2.1
        have b2 := (hb.cell (p := ⟨w.heap.size, 2, none⟩) hsW).trans HBX.out.2.2.1
        have b3 := (hb.cell (p := ⟨w.heap.size, 3, none⟩) hsW).trans HBX.out.2.2.2.1
        have b4 := (hb.cell (p := ⟨w.heap.size, 4, none⟩) hsW).trans HBX.out.2.2.2.2
        have HY : Hid (gradeF R (rebuiltF x 0 k) ≤ g → CheapestRebuild_r R x g = ((k : Int), 0)) := Lib.hid (fun h => cheap_yes HC.out h)
        have HN : Hid (¬ gradeF R (rebuiltF x 0 k) ≤ g → cheapFrom R x g m (k + 1) = CheapestRebuild_r R x g) := Lib.hid (fun h => cheap_no HC.out h)
        clear HC
        go_wp2_with fail
        refine (srebuilt_any x 0 k wr (by omega) (by omega) (by omega) (by omega)).mono ?_
        rintro e w5 ⟨rfl, hb5⟩
        have hb5W := below_step2 hb hb5 hs
        have hs5 := Nat.le_trans hs hb5.size
        go_wp2_with fail
        refine (l25Grade_any v R (rebuiltF x 0 k) w5 (HV.out.below hb5W) HA.out).mono ?_
        rintro e w6 ⟨rfl, hb6⟩
        have HB6 := Lib.hid (below_step2 hb5W hb6 hs5)
        have hs6 := Nat.le_trans hs5 hb6.size
        clear hb hb5 hb5W hb6
        unfold Grade_e
        generalize gradeF R (rebuiltF x 0 k) = gf at *
        by_cases hle : gf ≤ g
        · have HE := Lib.hid (HY.out hle)
          go_wp2
          go_ret2
          exact ⟨Cheap_e_of HE.out, below_step2 HBW.out HB6.out (by omega)⟩
        · have HE := Lib.hid (HN.out (by omega))
          go_wp2
          go_roundg m
          case measure => omega
          case rel => exact ⟨k + 1, m, by omega, rfl, by go_num, HE, HB6.out, hs6⟩
      · obtain rfl : n = 0 := by omega
        have HE : Hid (CheapestRebuild_r R x g = (0, 4)) := Lib.hid HC.out.symm
        clear HC
        go_wp2
        go_ret2
        exact ⟨Cheap_e_of HE.out, below_step2 HBW.out hb (by omega)⟩
end Go.Proofs.Ytncggcbpbejmcaa
