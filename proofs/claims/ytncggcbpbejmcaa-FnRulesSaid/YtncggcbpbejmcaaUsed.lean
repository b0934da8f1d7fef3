/- Contracts of IsUsed and of the functions on the fields of a used part (chapter 25). No statement of the seat is proved here. -/
import Derived.Test.YtncggcbpbejmcaaSUsed
import Derived.Test.YtncggcbpbejmcaaWords
namespace Go.Proofs.Ytncggcbpbejmcaa
open Go.RowKit

def numF (x : Used) (f : Int) : Int := if f = 0 then x.hours else if f = 1 then x.play else if f = 2 then x.rust else x.dents
def mostF (f : Int) : Int := if f = 0 then 100000 else if f = 1 then 5000 else if f = 2 then 10 else 20
def usedAt (x : Used) (i : Nat) : Bool := inR (numF x i) 0 (mostF i)
def isUsed (x : Used) : Bool := isWord x.name && (List.range 4).all (usedAt x)
theorem numF_0 (x : Used) {f : Int} (h : f = 0) : numF x f = x.hours := by subst h; rfl
theorem numF_1 (x : Used) {f : Int} (h : f = 1) : numF x f = x.play := by subst h; rfl
theorem numF_2 (x : Used) {f : Int} (h : f = 2) : numF x f = x.rust := by subst h; rfl
theorem numF_3 (x : Used) {f : Int} (h0 : f ≠ 0) (h1 : f ≠ 1) (h2 : f ≠ 2) : numF x f = x.dents := by unfold numF; rw [if_neg h0, if_neg h1, if_neg h2]
theorem mostF_0 {f : Int} (h : f = 0) : mostF f = 100000 := by subst h; rfl
theorem mostF_1 {f : Int} (h : f = 1) : mostF f = 5000 := by subst h; rfl
theorem mostF_2 {f : Int} (h : f = 2) : mostF f = 10 := by subst h; rfl
theorem mostF_3 {f : Int} (h0 : f ≠ 0) (h1 : f ≠ 1) (h2 : f ≠ 2) : mostF f = 20 := by unfold mostF; rw [if_neg h0, if_neg h1, if_neg h2]
theorem numberOf_any (x : Used) (f : Int) (w : World) :
    Calls Try.prog 74 #[.agg #[.string x.name, .int .i64 x.hours, .int .i64 x.play, .int .i64 x.rust, .int .i64 x.dents], .int .i64 f] w fun e w' => e = .returned (.int .i64 (numF x f)) ∧ Below w.heap.size w w' := by
  by_cases h0 : f = 0
  · subst h0
    go_enter Try.func74, Try.ntmps74
    go_wp2
    go_ret
    refine ⟨ret_int rfl, ?_⟩
    go_grown
  by_cases h1 : f = 1
  · subst h1
    go_enter Try.func74, Try.ntmps74
    go_wp2
    go_ret
    refine ⟨ret_int rfl, ?_⟩
    go_grown
  by_cases h2 : f = 2
  · subst h2
    go_enter Try.func74, Try.ntmps74
    go_wp2
    go_ret
    refine ⟨ret_int rfl, ?_⟩
    go_grown
  have e0 : (f == 0) = false := beq_eq_false_iff_ne.2 h0
  have e1 : (f == 1) = false := beq_eq_false_iff_ne.2 h1
  have e2 : (f == 2) = false := beq_eq_false_iff_ne.2 h2
  have H := Lib.hid (numF_3 x h0 h1 h2)
  clear h0 h1 h2
  go_enter Try.func74, Try.ntmps74
  go_wp2
  go_ret
  refine ⟨ret_int H.out.symm, ?_⟩
  go_grown
theorem greatestOf_any (f : Int) (w : World) :
    Calls Try.prog 75 #[.int .i64 f] w fun e w' => e = .returned (.int .i64 (mostF f)) ∧ w = w' := by
  by_cases h0 : f = 0
  · subst h0
    go_enter Try.func75, Try.ntmps75
    go_wp2
    go_ret
    exact ⟨ret_int rfl, rfl⟩
  by_cases h1 : f = 1
  · subst h1
    go_enter Try.func75, Try.ntmps75
    go_wp2
    go_ret
    exact ⟨ret_int rfl, rfl⟩
  by_cases h2 : f = 2
  · subst h2
    go_enter Try.func75, Try.ntmps75
    go_wp2
    go_ret
    exact ⟨ret_int rfl, rfl⟩
  have e0 : (f == 0) = false := beq_eq_false_iff_ne.2 h0
  have e1 : (f == 1) = false := beq_eq_false_iff_ne.2 h1
  have e2 : (f == 2) = false := beq_eq_false_iff_ne.2 h2
  have H := Lib.hid (mostF_3 h0 h1 h2)
  clear h0 h1 h2
  go_enter Try.func75, Try.ntmps75
  go_wp2
  go_ret
  exact ⟨ret_int H.out.symm, rfl⟩
theorem l25Field_any (x : Used) (f : Int) (w : World) (hf : 0 ≤ f) (hf2 : f ≤ 3) :
    Calls Try.prog 70 #[.agg #[.string x.name, .int .i64 x.hours, .int .i64 x.play, .int .i64 x.rust, .int .i64 x.dents], .int .i64 f] w fun e w' => e = .returned (.int .i64 (numF x f)) ∧ Below w.heap.size w w' := by
  rcases (show f = 0 ∨ f = 1 ∨ f = 2 ∨ f = 3 by omega) with rfl | rfl | rfl | rfl
  all_goals
    go_enter Try.func70, Try.ntmps70
    go_wp2
    go_ret
    refine ⟨ret_int rfl, ?_⟩
    go_grown
theorem l25Most_any (f : Int) (w : World) (hf : 0 ≤ f) (hf2 : f ≤ 3) :
    Calls Try.prog 71 #[.int .i64 f] w fun e w' => e = .returned (.int .i64 (mostF f)) ∧ Below w.heap.size w w' := by
  rcases (show f = 0 ∨ f = 1 ∨ f = 2 ∨ f = 3 by omega) with rfl | rfl | rfl | rfl
  all_goals
    go_enter Try.func71, Try.ntmps71
    go_wp2
    go_ret
    refine ⟨ret_int rfl, ?_⟩
    go_grown
set_option maxHeartbeats 1000000 in
theorem iIsUsed_any (x : Used) (w : World) (hx : okUsed x) :
    Calls Try.prog 23 #[.agg #[.string x.name, .int .i64 x.hours, .int .i64 x.play, .int .i64 x.rust, .int .i64 x.dents]] w fun e w' => e = .returned (.bool (isUsed x)) ∧ Below w.heap.size w w' := by
  rcases hA : isWord x.name
  · have HA := Lib.hid hA
    clear hA
    go_enter Try.func23, Try.ntmps23
    go_wp2_with (go_at_call 73; refine (iIsWord_eq hx HA.out _).mono ?_; rintro e w' ⟨rfl, rfl⟩)
    go_ret
    refine ⟨ret_bool (by unfold isUsed; rw [HA.out]; rfl), ?_⟩
    go_grown
  have HA := Lib.hid hA
  clear hA
  go_enter Try.func23, Try.ntmps23
  go_wp2_with (go_at_call 73; refine (iIsWord_eq hx HA.out _).mono ?_; rintro e w' ⟨rfl, rfl⟩)
  go_loopg [3] 4 (fun gi i wr => ∃ k : Nat, k ≤ 4 ∧ gi = 4 - k ∧ i = .int .i64 k ∧ Hid ((List.range k).all (usedAt x) = true) ∧ Below (w.heap.size + 1) (w.alloc (.cells #[.string x.name, .int .i64 x.hours, .int .i64 x.play, .int .i64 x.rust, .int .i64 x.dents] 33)) wr ∧ w.heap.size + 1 ≤ wr.heap.size)
  case atStart => exact ⟨0, by omega, rfl, rfl, Lib.hid rfl, Below.refl _ _, by simp⟩
  case round =>
    obtain ⟨k, hk, rfl, rfl, HS, hb, hs⟩ := hrel
    have c0 : wr.cell? ⟨w.heap.size, 0, none⟩ = some (.string x.name) := (hb.cell (p := ⟨w.heap.size, 0, none⟩) (by simp)).trans (by simp)
    have c1 : wr.cell? ⟨w.heap.size, 1, none⟩ = some (.int .i64 x.hours) := (hb.cell (p := ⟨w.heap.size, 1, none⟩) (by simp)).trans (by simp)
    have c2 : wr.cell? ⟨w.heap.size, 2, none⟩ = some (.int .i64 x.play) := (hb.cell (p := ⟨w.heap.size, 2, none⟩) (by simp)).trans (by simp)
    have c3 : wr.cell? ⟨w.heap.size, 3, none⟩ = some (.int .i64 x.rust) := (hb.cell (p := ⟨w.heap.size, 3, none⟩) (by simp)).trans (by simp)
    have c4 : wr.cell? ⟨w.heap.size, 4, none⟩ = some (.int .i64 x.dents) := (hb.cell (p := ⟨w.heap.size, 4, none⟩) (by simp)).trans (by simp)
    have HB := Lib.hid hb
    clear hb
    have hend : ∀ W, Below (w.heap.size + 1) (w.alloc (.cells #[.string x.name, .int .i64 x.hours, .int .i64 x.play, .int .i64 x.rust, .int .i64 x.dents] 33)) W → Below w.heap.size w W := fun W h => ((Below.refl _ _).alloc (Nat.le_refl _) _).trans (h.mono (by omega))
    have HE := Lib.hid hend
    clear hend
    by_cases hlt : k < 4
    · rcases hu : usedAt x k
      · have HU := Lib.hid hu
        have HU2 : Hid (inR (numF x k) 0 (mostF k) = false) := Lib.hid hu
        clear hu
        go_wp2_with fail
        refine (numberOf_any x k wr).mono ?_
        rintro e w1 ⟨rfl, hb1⟩
        go_wp2_with fail
        refine (greatestOf_any k w1).mono ?_
        rintro e w' ⟨rfl, rfl⟩
        go_wp2_with fail
        refine (within_eq HU2.out _).mono ?_
        rintro e w' ⟨rfl, rfl⟩
        go_wp2
        go_ret
        exact ⟨ret_bool (by unfold isUsed; rw [range_all_false hlt HU.out]; simp), HE.out _ (below_step2 HB.out hb1 hs)⟩
      · have HU := Lib.hid hu
        have HU2 : Hid (inR (numF x k) 0 (mostF k) = true) := Lib.hid hu
        clear hu
        go_wp2_with fail
        refine (numberOf_any x k wr).mono ?_
        rintro e w1 ⟨rfl, hb1⟩
        go_wp2_with fail
        refine (greatestOf_any k w1).mono ?_
        rintro e w' ⟨rfl, rfl⟩
        go_wp2_with fail
        refine (within_eq HU2.out _).mono ?_
        rintro e w' ⟨rfl, rfl⟩
        have hb2 := below_step2 HB.out hb1 hs
        have hs2 : w.heap.size + 1 ≤ w1.heap.size := Nat.le_trans hs hb1.size
        clear hb1
        go_wp2
        go_roundg (4 - (k + 1))
        case measure => omega
        case rel => exact ⟨k + 1, by omega, rfl, by go_num, Lib.hid (range_all_succ HS.out HU.out), hb2, hs2⟩
    · obtain rfl : k = 4 := by omega
      go_wp2
      go_ret
      exact ⟨ret_bool (by unfold isUsed; rw [HA.out, HS.out]; rfl), HE.out _ HB.out⟩
set_option maxHeartbeats 1000000 in
theorem sIsUsed_any (x : Used) (w : World) (hx : okUsed x) :
    Calls Try.prog 21 #[.agg #[.string x.name, .int .i64 x.hours, .int .i64 x.play, .int .i64 x.rust, .int .i64 x.dents]] w fun e w' => e = .returned (.bool (isUsed x)) ∧ Below w.heap.size w w' := by
  go_enter Try.func21, Try.ntmps21
  go_wp2
  go_loopg [3] 4 (fun gi i wr => ∃ k : Nat, k ≤ 4 ∧ gi = 4 - k ∧ i = .int .i64 k ∧ Hid ((List.range k).all (usedAt x) = true) ∧ Below (w.heap.size + 1) (w.alloc (.cells #[.string x.name, .int .i64 x.hours, .int .i64 x.play, .int .i64 x.rust, .int .i64 x.dents] 33)) wr ∧ w.heap.size + 1 ≤ wr.heap.size)
  case atStart => exact ⟨0, by omega, rfl, rfl, Lib.hid rfl, Below.refl _ _, by simp⟩
  case round =>
    obtain ⟨k, hk, rfl, rfl, HS, hb, hs⟩ := hrel
    have c0 : wr.cell? ⟨w.heap.size, 0, none⟩ = some (.string x.name) := (hb.cell (p := ⟨w.heap.size, 0, none⟩) (by simp)).trans (by simp)
    have c1 : wr.cell? ⟨w.heap.size, 1, none⟩ = some (.int .i64 x.hours) := (hb.cell (p := ⟨w.heap.size, 1, none⟩) (by simp)).trans (by simp)
    have c2 : wr.cell? ⟨w.heap.size, 2, none⟩ = some (.int .i64 x.play) := (hb.cell (p := ⟨w.heap.size, 2, none⟩) (by simp)).trans (by simp)
    have c3 : wr.cell? ⟨w.heap.size, 3, none⟩ = some (.int .i64 x.rust) := (hb.cell (p := ⟨w.heap.size, 3, none⟩) (by simp)).trans (by simp)
    have c4 : wr.cell? ⟨w.heap.size, 4, none⟩ = some (.int .i64 x.dents) := (hb.cell (p := ⟨w.heap.size, 4, none⟩) (by simp)).trans (by simp)
    have HB := Lib.hid hb
    clear hb
    have hend : ∀ W, Below (w.heap.size + 1) (w.alloc (.cells #[.string x.name, .int .i64 x.hours, .int .i64 x.play, .int .i64 x.rust, .int .i64 x.dents] 33)) W → Below w.heap.size w W := fun W h => ((Below.refl _ _).alloc (Nat.le_refl _) _).trans (h.mono (by omega))
    have HE := Lib.hid hend
    clear hend
    by_cases hlt : k < 4
    · rcases hu : usedAt x k
      · have HU := Lib.hid hu
        have HU2 : Hid (inR (numF x k) 0 (mostF k) = false) := Lib.hid hu
        clear hu
        go_wp2_with fail
        refine (l25Field_any x k wr (by omega) (by omega)).mono ?_
        rintro e w1 ⟨rfl, hb1⟩
        go_wp2_with fail
        refine (l25Most_any k w1 (by omega) (by omega)).mono ?_
        rintro e w2 ⟨rfl, hb2⟩
        go_wp2_with fail
        refine (l01In_eq HU2.out _).mono ?_
        rintro e w' ⟨rfl, rfl⟩
        go_wp2
        go_ret
        exact ⟨ret_bool (by unfold isUsed; rw [range_all_false hlt HU.out]; simp), HE.out _ (below_step2 (below_step2 HB.out hb1 hs) hb2 (Nat.le_trans hs hb1.size))⟩
      · have HU := Lib.hid hu
        have HU2 : Hid (inR (numF x k) 0 (mostF k) = true) := Lib.hid hu
        clear hu
        go_wp2_with fail
        refine (l25Field_any x k wr (by omega) (by omega)).mono ?_
        rintro e w1 ⟨rfl, hb1⟩
        go_wp2_with fail
        refine (l25Most_any k w1 (by omega) (by omega)).mono ?_
        rintro e w2 ⟨rfl, hb2⟩
        go_wp2_with fail
        refine (l01In_eq HU2.out _).mono ?_
        rintro e w' ⟨rfl, rfl⟩
        have hb3 := below_step2 (below_step2 HB.out hb1 hs) hb2 (Nat.le_trans hs hb1.size)
        have hs2 : w.heap.size + 1 ≤ w2.heap.size := Nat.le_trans (Nat.le_trans hs hb1.size) hb2.size
        clear hb1 hb2
        go_wp2
        go_roundg (4 - (k + 1))
        case measure => omega
        case rel => exact ⟨k + 1, by omega, rfl, by go_num, Lib.hid (range_all_succ HS.out HU.out), hb3, hs2⟩
    · obtain rfl : k = 4 := by omega
      go_wp2_with (go_at_call 72; refine (sIsWord_any _ _ hx).mono ?_; rintro e w' ⟨rfl, rfl⟩)
      go_ret
      exact ⟨ret_bool (by unfold isUsed; rw [HS.out, Bool.and_true]), HE.out _ HB.out⟩
def IsUsed_r (x : Used) : Bool := isUsed x
theorem iIsUsed_law (x : Used) (w : World) (hx : okUsed x) :
    Calls Try.prog 23 #[.agg #[.string x.name, .int .i64 x.hours, .int .i64 x.play, .int .i64 x.rust, .int .i64 x.dents]] w fun e w' => e = .returned (.bool (IsUsed_r x)) ∧ Below w.heap.size w w' := iIsUsed_any x w hx
theorem sIsUsed_law (x : Used) (w : World) (hx : okUsed x) :
    Calls Try.prog 21 #[.agg #[.string x.name, .int .i64 x.hours, .int .i64 x.play, .int .i64 x.rust, .int .i64 x.dents]] w fun e w' => e = .returned (.bool (IsUsed_r x)) ∧ Below w.heap.size w w' := sIsUsed_any x w hx
end Go.Proofs.Ytncggcbpbejmcaa
