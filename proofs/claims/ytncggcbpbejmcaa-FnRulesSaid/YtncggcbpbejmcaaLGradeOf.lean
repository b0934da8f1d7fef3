/- Contracts of GradeOf (chapter 25). No statement of the seat is proved here. -/
import Derived.Deep.DrawnRows
import Derived.Test.YtncggcbpbejmcaaUsedL
namespace Go.Proofs.Ytncggcbpbejmcaa
open Go.RowKit

def GradeOf_r (R : List Rule) (x : Used) : Int × Int × Int := if areRules R && isUsed x then (gradeF R x, gradeIx R x, 0) else (0, 0, 1)
theorem GradeOf_bad {R : List Rule} {x : Used} (h : (areRules R && isUsed x) = false) : GradeOf_r R x = (0, 0, 1) := by unfold GradeOf_r; rw [h]; rfl
theorem GradeOf_ok {R : List Rule} {x : Used} (h : (areRules R && isUsed x) = true) : GradeOf_r R x = (gradeF R x, gradeIx R x, 0) := by unfold GradeOf_r; rw [h]; rfl
/-- a part in a block of its own, seen from a world above -/
theorem usedBox {w w1 : World} {x : Used} (hb : Below (w.alloc (.cells #[.string x.name, .int .i64 x.hours, .int .i64 x.play, .int .i64 x.rust, .int .i64 x.dents] 33)).heap.size (w.alloc (.cells #[.string x.name, .int .i64 x.hours, .int .i64 x.play, .int .i64 x.rust, .int .i64 x.dents] 33)) w1) : (w1.cell? ⟨w.heap.size, 0, none⟩ = some (.string x.name) ∧ w1.cell? ⟨w.heap.size, 1, none⟩ = some (.int .i64 x.hours) ∧ w1.cell? ⟨w.heap.size, 2, none⟩ = some (.int .i64 x.play) ∧ w1.cell? ⟨w.heap.size, 3, none⟩ = some (.int .i64 x.rust) ∧ w1.cell? ⟨w.heap.size, 4, none⟩ = some (.int .i64 x.dents)) ∧ Below w.heap.size w w1 ∧ w.heap.size + 1 ≤ w1.heap.size := by
  obtain ⟨bc, _, h1, h2⟩ := box1 hb
  exact ⟨⟨(bc 0).trans rfl, (bc 1).trans rfl, (bc 2).trans rfl, (bc 3).trans rfl, (bc 4).trans rfl⟩, h1, h2⟩
set_option maxHeartbeats 2000000 in
theorem iGradeOf_law (v : Value) (R : List Rule) (x : Used) (w : World) (hv : Sl eRule w v R) (_ : R.length ≤ 1048576) (hx : okUsed x) :
    Calls Try.prog 37 #[v, .agg #[.string x.name, .int .i64 x.hours, .int .i64 x.play, .int .i64 x.rust, .int .i64 x.dents]] w fun e w' => e = .returned (.tuple #[.int .i64 (GradeOf_r R x).1, .int .i64 (GradeOf_r R x).2.1, .int .i64 (GradeOf_r R x).2.2]) ∧ Below w.heap.size w w' := by
  rcases hA : areRules R
  · have HR := Lib.hid (GradeOf_bad (R := R) (x := x) (by rw [hA]; rfl))
    have HA := Lib.hid hA
    clear hA
    rw [HR.out]
    go_enter Try.func37, Try.ntmps37
    go_wp2_with fail
    refine (iAreRules_any v R _ (hv.alloc _)).mono ?_
    rintro e w1 ⟨rfl, hb⟩
    rw [HA.out]
    obtain ⟨_, hbw, _⟩ := usedBox hb
    go_wp2
    go_ret3
    exact ⟨rfl, hbw⟩
  rcases hU : isUsed x
  · have HR := Lib.hid (GradeOf_bad (R := R) (x := x) (by rw [hA, hU]; rfl))
    have HA := Lib.hid hA
    have HU := Lib.hid hU
    clear hA hU
    rw [HR.out]
    go_enter Try.func37, Try.ntmps37
    go_wp2_with fail
    refine (iAreRules_any v R _ (hv.alloc _)).mono ?_
    rintro e w1 ⟨rfl, hb⟩
    rw [HA.out]
    obtain ⟨⟨b0, b1, b2, b3, b4⟩, hbw, hs⟩ := usedBox hb
    go_wp2_with fail
    refine (iIsUsed_any x w1 hx).mono ?_
    rintro e w2 ⟨rfl, hb2⟩
    rw [HU.out]
    go_wp2
    go_ret3
    exact ⟨rfl, below_step2 hbw hb2 (by omega)⟩
  · have HR := Lib.hid (GradeOf_ok (R := R) (x := x) (by rw [hA, hU]; rfl))
    have HA := Lib.hid hA
    have HU := Lib.hid hU
    clear hA hU
    rw [HR.out]
    go_enter Try.func37, Try.ntmps37
    go_wp2_with fail
    refine (iAreRules_any v R _ (hv.alloc _)).mono ?_
    rintro e w1 ⟨rfl, hb⟩
    rw [HA.out]
    have HV1 := Lib.hid ((hv.alloc (.cells #[.string x.name, .int .i64 x.hours, .int .i64 x.play, .int .i64 x.rust, .int .i64 x.dents] 33)).below hb)
    obtain ⟨⟨b0, b1, b2, b3, b4⟩, hbw, hs⟩ := usedBox hb
    go_wp2_with fail
    refine (iIsUsed_any x w1 hx).mono ?_
    rintro e w2 ⟨rfl, hb2⟩
    rw [HU.out]
    replace b0 := (hb2.cell (p := ⟨w.heap.size, 0, none⟩) (by simp only []; omega)).trans b0
    replace b1 := (hb2.cell (p := ⟨w.heap.size, 1, none⟩) (by simp only []; omega)).trans b1
    replace b2 := (hb2.cell (p := ⟨w.heap.size, 2, none⟩) (by simp only []; omega)).trans b2
    replace b3 := (hb2.cell (p := ⟨w.heap.size, 3, none⟩) (by simp only []; omega)).trans b3
    replace b4 := (hb2.cell (p := ⟨w.heap.size, 4, none⟩) (by simp only []; omega)).trans b4
    go_wp2_with fail
    refine (gradeOf_any v R x w2 (HV1.out.below hb2)).mono ?_
    rintro e w3 ⟨rfl, hb3⟩
    go_wp2
    go_ret3
    exact ⟨rfl, Below.step (below_step2 hbw hb2 (by omega)) hb3⟩
set_option maxHeartbeats 2000000 in
theorem sGradeOf_law (v : Value) (R : List Rule) (x : Used) (w : World) (hv : Sl eRule w v R) (_ : R.length ≤ 1048576) (hx : okUsed x) :
    Calls Try.prog 36 #[v, .agg #[.string x.name, .int .i64 x.hours, .int .i64 x.play, .int .i64 x.rust, .int .i64 x.dents]] w fun e w' => e = .returned (.tuple #[.int .i64 (GradeOf_r R x).1, .int .i64 (GradeOf_r R x).2.1, .int .i64 (GradeOf_r R x).2.2]) ∧ Below w.heap.size w w' := by
  have hq1 : ∀ y ∈ [x], okUsed y := fun y hy => by rw [List.mem_singleton.1 hy]; exact hx
  have HSL : Hid (Sl eUsed ((w.alloc (.cells #[.string x.name, .int .i64 x.hours, .int .i64 x.play, .int .i64 x.rust, .int .i64 x.dents] 33)).alloc (.cells #[.string x.name, .int .i64 x.hours, .int .i64 x.play, .int .i64 x.rust, .int .i64 x.dents] 33)) (.slice (some ⟨w.heap.size + 1, 0, none⟩) 1 1) [x]) := Lib.hid (by
    have h := Sl.one_new eUsed (w.alloc (.cells #[.string x.name, .int .i64 x.hours, .int .i64 x.play, .int .i64 x.rust, .int .i64 x.dents] 33)) x #[.string x.name, .int .i64 x.hours, .int .i64 x.play, .int .i64 x.rust, .int .i64 x.dents] 33 rfl
    rw [World.size_alloc] at h
    exact h)
  have hbx : ∀ j, (w.alloc (.cells #[.string x.name, .int .i64 x.hours, .int .i64 x.play, .int .i64 x.rust, .int .i64 x.dents] 33)).cell? ⟨w.heap.size, j, none⟩ = #[Value.string x.name, .int .i64 x.hours, .int .i64 x.play, .int .i64 x.rust, .int .i64 x.dents][j]? := fun j => box_new _ _ _ j
  rcases hA : (areRules R && isUsed x)
  · have HR := Lib.hid (GradeOf_bad hA)
    have HC : Hid (gCode R [x] = 1) := Lib.hid (gCode_1 (by rw [gBoth_one]; exact hA))
    clear hA
    rw [HR.out]
    go_enter Try.func36, Try.ntmps36
    go_wp2_with fail
    refine (l25Code_any v R (.slice (some ⟨w.heap.size + 1, 0, none⟩) 1 1) [x] ((w.alloc (.cells #[.string x.name, .int .i64 x.hours, .int .i64 x.play, .int .i64 x.rust, .int .i64 x.dents] 33)).alloc (.cells #[.string x.name, .int .i64 x.hours, .int .i64 x.play, .int .i64 x.rust, .int .i64 x.dents] 33)) ((hv.alloc _).alloc _) HSL.out hq1).mono ?_
    rintro e w1 ⟨rfl, hb⟩
    rw [HC.out]
    go_wp2
    go_ret3
    exact ⟨rfl, (box2 hb).2.2.2.2.1⟩
  · have HR := Lib.hid (GradeOf_ok hA)
    have HC : Hid (gCode R [x] = 0) := Lib.hid (gCode_0 (by rw [gBoth_one]; exact hA))
    have ha : areRules R = true := by rw [Bool.and_eq_true] at hA; exact hA.1
    clear hA
    rw [HR.out]
    go_enter Try.func36, Try.ntmps36
    go_wp2_with fail
    refine (l25Code_any v R (.slice (some ⟨w.heap.size + 1, 0, none⟩) 1 1) [x] ((w.alloc (.cells #[.string x.name, .int .i64 x.hours, .int .i64 x.play, .int .i64 x.rust, .int .i64 x.dents] 33)).alloc (.cells #[.string x.name, .int .i64 x.hours, .int .i64 x.play, .int .i64 x.rust, .int .i64 x.dents] 33)) ((hv.alloc _).alloc _) HSL.out hq1).mono ?_
    rintro e w1 ⟨rfl, hb⟩
    rw [HC.out]
    have HV1 := Lib.hid (((hv.alloc (.cells #[.string x.name, .int .i64 x.hours, .int .i64 x.play, .int .i64 x.rust, .int .i64 x.dents] 33)).alloc (.cells #[.string x.name, .int .i64 x.hours, .int .i64 x.play, .int .i64 x.rust, .int .i64 x.dents] 33)).below hb)
    obtain ⟨bc, _, _, _, hbw, hs⟩ := box2 hb
    have b0 : w1.cell? ⟨w.heap.size, 0, none⟩ = some (.string x.name) := (bc 0).trans rfl
    have b1 : w1.cell? ⟨w.heap.size, 1, none⟩ = some (.int .i64 x.hours) := (bc 1).trans rfl
    have b2 : w1.cell? ⟨w.heap.size, 2, none⟩ = some (.int .i64 x.play) := (bc 2).trans rfl
    have b3 : w1.cell? ⟨w.heap.size, 3, none⟩ = some (.int .i64 x.rust) := (bc 3).trans rfl
    have b4 : w1.cell? ⟨w.heap.size, 4, none⟩ = some (.int .i64 x.dents) := (bc 4).trans rfl
    clear bc hbx
    go_wp2_with fail
    refine (l25Grade_any v R x w1 HV1.out ha).mono ?_
    rintro e w3 ⟨rfl, hb3⟩
    go_wp2
    go_ret3
    exact ⟨rfl, below_step2 hbw hb3 (by omega)⟩
end Go.Proofs.Ytncggcbpbejmcaa
