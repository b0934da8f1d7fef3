/- Contracts of both AreJoints (chapter 17). No statement of the seat is proved here. -/
import Derived.Test.YtblaojjpclipaaaM1
import Derived.Test.YtblaojjpclipaaaM3
namespace Go.Proofs.Ytblaojjpclipaaa
open Go.RowKit

def jointB (j : Joint) : Bool := inR j.a 0 7 && inR j.b 0 7 && decide (j.a < j.b) && inR j.kind 0 9
def areJoints (js : List Joint) : Bool := decide (js.length ≤ 12) && js.all jointB
theorem areJoints_at {js : List Joint} (h : areJoints js = true) : js.length ≤ 12 ∧ ∀ j ∈ js, 0 ≤ j.a ∧ j.a ≤ 7 ∧ 0 ≤ j.b ∧ j.b ≤ 7 ∧ j.a < j.b ∧ 0 ≤ j.kind ∧ j.kind ≤ 9 := by
  unfold areJoints at h
  rw [Bool.and_eq_true, decide_eq_true_eq, List.all_eq_true] at h
  refine ⟨h.1, fun j hj => ?_⟩
  have h2 := h.2 j hj
  unfold jointB at h2
  simp only [Bool.and_eq_true, inR_iff, decide_eq_true_eq] at h2
  omega
theorem isSlotJ_eq {n : Int} {b : Bool} (h : inR n 0 7 = b) (w : World) : Calls Try.prog 76 #[.int .i64 n] w fun e w' => e = .returned (.bool b) ∧ w = w' := by
  rw [← h]
  exact isSlot_any n w
theorem all_no {js : List Joint} {k : Nat} (hk : k < js.length) (h : jointB js[k] = false) : areJoints js = false := by
  unfold areJoints
  rw [List.all_eq_false.2 ⟨js[k], List.getElem_mem hk, by rw [h]; decide⟩, Bool.and_false]
set_option maxHeartbeats 8000000 in
set_option maxRecDepth 20000 in
theorem iAreJoints_any (v : Value) (js : List Joint) (w : World) (hv : Sl eJoint w v js) :
    Calls Try.prog 62 #[v] w fun e w' => e = .returned (.bool (areJoints js)) ∧ Below w.heap.size w w' := by
  obtain ⟨A, cap, rfl, _, hm, hc⟩ := hv.shape
  by_cases hbig : 12 < js.length
  · clear hc
    go_enter Try.func62, Try.ntmps62
    go_wp2
    go_ret
    exact ⟨ret_bool (by unfold areJoints; rw [decide_eq_false (by omega)]; rfl), Below.refl _ _⟩
  clear hv
  go_enter Try.func62, Try.ntmps62
  go_wp2
  go_loopg [10] js.length (fun gi i wr => ∃ k : Nat, k ≤ js.length ∧ gi = js.length - k ∧ i = .int .i64 k ∧ Hid ((js.take k).all jointB = true) ∧ Below w.heap.size w wr ∧ w.heap.size ≤ wr.heap.size)
  case atStart => exact ⟨0, Nat.zero_le _, rfl, rfl, Lib.hid rfl, Below.refl _ _, Nat.le_refl _⟩
  case round =>
    obtain ⟨k, hk, rfl, rfl, HA, hb, hs⟩ := hrel
    by_cases hlt : k < js.length
    · obtain ⟨b, off, rfl, hbl, hcell⟩ := hc (by omega)
      have c0 : wr.cell? ⟨b, off + k * 3, none⟩ = some (.int .i64 js[k].a) := (hb.cell (p := ⟨b, off + k * 3, none⟩) hbl).trans (by simpa [eJoint, Nat.add_assoc] using hcell k hlt 0 _ (by decide) rfl)
      have c1 : wr.cell? ⟨b, off + k * 3 + 1, none⟩ = some (.int .i64 js[k].b) := (hb.cell (p := ⟨b, off + k * 3 + 1, none⟩) hbl).trans (by simpa [eJoint, Nat.add_assoc] using hcell k hlt 1 _ (by decide) rfl)
      have c2 : wr.cell? ⟨b, off + k * 3 + 2, none⟩ = some (.int .i64 js[k].kind) := (hb.cell (p := ⟨b, off + k * 3 + 2, none⟩) hbl).trans (by simpa [eJoint, Nat.add_assoc] using hcell k hlt 2 _ (by decide) rfl)
      have HB := Lib.hid (hb.alloc hs (.cells #[.int .i64 js[k].a, .int .i64 js[k].b, .int .i64 js[k].kind] 47))
      have hsz : w.heap.size ≤ (wr.alloc (.cells #[.int .i64 js[k].a, .int .i64 js[k].b, .int .i64 js[k].kind] 47)).heap.size := by simp; omega
      have hbx : ∀ j, (wr.alloc (.cells #[.int .i64 js[k].a, .int .i64 js[k].b, .int .i64 js[k].kind] 47)).cell? ⟨wr.heap.size, j, none⟩ = #[Value.int .i64 js[k].a, .int .i64 js[k].b, .int .i64 js[k].kind][j]? := fun j => box_new _ _ _ j
      have b0 := (hbx 0).trans (show _ = some (Value.int .i64 js[k].a) from rfl)
      have b1 := (hbx 1).trans (show _ = some (Value.int .i64 js[k].b) from rfl)
      have b2 := (hbx 2).trans (show _ = some (Value.int .i64 js[k].kind) from rfl)
      have HNO : Hid (jointB js[k] = false → areJoints js = false) := Lib.hid (fun h => all_no hlt h)
      have HYES : Hid (jointB js[k] = true → (js.take (k + 1)).all jointB = true) := Lib.hid (fun h => by rw [List.take_succ_eq_append_getElem hlt, List.all_append, HA.out]; simp [h])
      clear hc hcell hb hbx
      generalize js[k] = q at *
      obtain ⟨ja, jb, kd⟩ := q
      simp only at *
      rcases h1 : inR ja 0 7
      · have H1 := Lib.hid h1
        clear h1
        go_wp2_with fail
        generalize wr.alloc (.cells #[.int .i64 ja, .int .i64 jb, .int .i64 kd] 47) = wb at *
        generalize wr.heap.size = Y at *
        refine (isSlotJ_eq H1.out _).mono ?_
        rintro e w' ⟨rfl, rfl⟩
        go_wp2
        go_ret
        exact ⟨ret_bool (HNO.out (by unfold jointB; simp only []; rw [H1.out]; simp)).symm, HB.out⟩
      have H1 := Lib.hid h1
      clear h1
      go_wp2_with fail
      generalize wr.alloc (.cells #[.int .i64 ja, .int .i64 jb, .int .i64 kd] 47) = wb at *
      generalize wr.heap.size = Y at *
      refine (isSlotJ_eq H1.out _).mono ?_
      rintro e w' ⟨rfl, rfl⟩
      rcases h2 : inR jb 0 7
      · have H2 := Lib.hid h2
        clear h2
        go_wp2_with fail
        refine (isSlotJ_eq H2.out _).mono ?_
        rintro e w' ⟨rfl, rfl⟩
        go_wp2
        go_ret
        exact ⟨ret_bool (HNO.out (by unfold jointB; simp only []; rw [H1.out, H2.out]; simp)).symm, HB.out⟩
      have H2 := Lib.hid h2
      clear h2
      go_wp2_with fail
      refine (isSlotJ_eq H2.out _).mono ?_
      rintro e w' ⟨rfl, rfl⟩
      by_cases h3 : ja < jb
      rotate_left
      · have hd : decide (jb ≤ ja) = true := decide_eq_true (by omega)
        have H3 : Hid (decide (ja < jb) = false) := Lib.hid (decide_eq_false h3)
        go_wp2
        go_ret
        exact ⟨ret_bool (HNO.out (by unfold jointB; simp only []; rw [H1.out, H2.out, H3.out]; simp)).symm, HB.out⟩
      have hd : decide (jb ≤ ja) = false := decide_eq_false (by omega)
      have H3 : Hid (decide (ja < jb) = true) := Lib.hid (decide_eq_true h3)
      rcases h4 : inR kd 0 9
      · have H4 := Lib.hid h4
        clear h4
        go_wp2_with fail
        refine (within_eq H4.out _).mono ?_
        rintro e w' ⟨rfl, rfl⟩
        go_wp2
        go_ret
        exact ⟨ret_bool (HNO.out (by unfold jointB; simp only []; rw [H1.out, H2.out, H3.out, H4.out]; simp)).symm, HB.out⟩
      have H4 := Lib.hid h4
      clear h4
      go_wp2_with fail
      refine (within_eq H4.out _).mono ?_
      rintro e w' ⟨rfl, rfl⟩
      go_wp2
      go_roundg (js.length - (k + 1))
      case measure => omega
      case rel => exact ⟨k + 1, by omega, rfl, by go_num, Lib.hid (HYES.out (by unfold jointB; simp only []; rw [H1.out, H2.out, H3.out, H4.out]; rfl)), HB.out, hsz⟩
    · obtain rfl : k = js.length := by omega
      have HAL : Hid (js.all jointB = true) := Lib.hid (by have := HA.out; rwa [List.take_of_length_le (Nat.le_refl _)] at this)
      go_wp2
      go_ret
      exact ⟨ret_bool (by unfold areJoints; rw [HAL.out, Bool.and_true]; exact (decide_eq_true (by omega)).symm), hb⟩
set_option maxHeartbeats 8000000 in
set_option maxRecDepth 20000 in
theorem sAreJoints_any (v : Value) (js : List Joint) (w : World) (hv : Sl eJoint w v js) :
    Calls Try.prog 66 #[v] w fun e w' => e = .returned (.bool (areJoints js)) ∧ Below w.heap.size w w' := by
  obtain ⟨A, cap, rfl, _, hm, hc⟩ := hv.shape
  clear hv
  go_enter Try.func66, Try.ntmps66
  go_wp2
  go_loopg [3] js.length (fun gi i wr => ∃ k : Nat, k ≤ js.length ∧ gi = js.length - k ∧ i = .int .i64 k ∧ Hid ((js.take k).all jointB = true) ∧ Below w.heap.size w wr ∧ w.heap.size ≤ wr.heap.size)
  case atStart => exact ⟨0, Nat.zero_le _, rfl, rfl, Lib.hid rfl, Below.refl _ _, Nat.le_refl _⟩
  case round =>
    obtain ⟨k, hk, rfl, rfl, HA, hb, hs⟩ := hrel
    by_cases hlt : k < js.length
    · obtain ⟨b, off, rfl, hbl, hcell⟩ := hc (by omega)
      have c0 : wr.cell? ⟨b, off + k * 3, none⟩ = some (.int .i64 js[k].a) := (hb.cell (p := ⟨b, off + k * 3, none⟩) hbl).trans (by simpa [eJoint, Nat.add_assoc] using hcell k hlt 0 _ (by decide) rfl)
      have c1 : wr.cell? ⟨b, off + k * 3 + 1, none⟩ = some (.int .i64 js[k].b) := (hb.cell (p := ⟨b, off + k * 3 + 1, none⟩) hbl).trans (by simpa [eJoint, Nat.add_assoc] using hcell k hlt 1 _ (by decide) rfl)
      have c2 : wr.cell? ⟨b, off + k * 3 + 2, none⟩ = some (.int .i64 js[k].kind) := (hb.cell (p := ⟨b, off + k * 3 + 2, none⟩) hbl).trans (by simpa [eJoint, Nat.add_assoc] using hcell k hlt 2 _ (by decide) rfl)
      have HB := Lib.hid (hb.alloc hs (.cells #[.int .i64 js[k].a, .int .i64 js[k].b, .int .i64 js[k].kind] 47))
      have hsz : w.heap.size ≤ (wr.alloc (.cells #[.int .i64 js[k].a, .int .i64 js[k].b, .int .i64 js[k].kind] 47)).heap.size := by simp; omega
      have hbx : ∀ j, (wr.alloc (.cells #[.int .i64 js[k].a, .int .i64 js[k].b, .int .i64 js[k].kind] 47)).cell? ⟨wr.heap.size, j, none⟩ = #[Value.int .i64 js[k].a, .int .i64 js[k].b, .int .i64 js[k].kind][j]? := fun j => box_new _ _ _ j
      have b0 := (hbx 0).trans (show _ = some (Value.int .i64 js[k].a) from rfl)
      have b1 := (hbx 1).trans (show _ = some (Value.int .i64 js[k].b) from rfl)
      have b2 := (hbx 2).trans (show _ = some (Value.int .i64 js[k].kind) from rfl)
      have HNO : Hid (jointB js[k] = false → areJoints js = false) := Lib.hid (fun h => all_no hlt h)
      have HYES : Hid (jointB js[k] = true → (js.take (k + 1)).all jointB = true) := Lib.hid (fun h => by rw [List.take_succ_eq_append_getElem hlt, List.all_append, HA.out]; simp [h])
      clear hc hcell hb hbx
      generalize js[k] = q at *
      obtain ⟨ja, jb, kd⟩ := q
      simp only at *
      rcases h1 : inR ja 0 7
      · have H1 := Lib.hid h1
        clear h1
        go_wp2_with fail
        generalize wr.alloc (.cells #[.int .i64 ja, .int .i64 jb, .int .i64 kd] 47) = wb at *
        generalize wr.heap.size = Y at *
        refine (l01In_eq H1.out _).mono ?_
        rintro e w' ⟨rfl, rfl⟩
        go_wp2
        go_ret
        exact ⟨ret_bool (HNO.out (by unfold jointB; simp only []; rw [H1.out]; simp)).symm, HB.out⟩
      have hja := inR_iff.1 h1
      have H1 := Lib.hid h1
      have hw : IntKind.i64.wrap (ja + 1) = ja + 1 := IntWalk.i64_in _ (by omega)
      clear h1
      go_wp2_with fail
      generalize wr.alloc (.cells #[.int .i64 ja, .int .i64 jb, .int .i64 kd] 47) = wb at *
      generalize wr.heap.size = Y at *
      refine (l01In_eq H1.out _).mono ?_
      rintro e w' ⟨rfl, rfl⟩
      rcases h2 : inR jb (ja + 1) 7
      · have H2 := Lib.hid h2
        have H5 : Hid ((inR jb 0 7 && decide (ja < jb)) = false) := Lib.hid (by
          rcases inR_false.1 h2 with h | h
          · rw [decide_eq_false (by omega), Bool.and_false]
          · rw [inR_false.2 (by omega), Bool.false_and])
        clear h2
        go_wp2_with fail
        refine (l01In_eq H2.out _).mono ?_
        rintro e w' ⟨rfl, rfl⟩
        go_wp2
        go_ret
        exact ⟨ret_bool (HNO.out (by unfold jointB; simp only []; rw [H1.out, Bool.true_and, H5.out]; simp)).symm, HB.out⟩
      have hjb := inR_iff.1 h2
      have H2 := Lib.hid h2
      have H5 : Hid (inR jb 0 7 = true ∧ decide (ja < jb) = true) := Lib.hid ⟨inR_iff.2 (by omega), decide_eq_true (by omega)⟩
      clear h2
      go_wp2_with fail
      refine (l01In_eq H2.out _).mono ?_
      rintro e w' ⟨rfl, rfl⟩
      rcases h4 : inR kd 0 9
      · have H4 := Lib.hid h4
        clear h4
        go_wp2_with fail
        refine (l01In_eq H4.out _).mono ?_
        rintro e w' ⟨rfl, rfl⟩
        go_wp2
        go_ret
        exact ⟨ret_bool (HNO.out (by unfold jointB; simp only []; rw [H1.out, H5.out.1, H5.out.2, H4.out]; simp)).symm, HB.out⟩
      have H4 := Lib.hid h4
      clear h4
      go_wp2_with fail
      refine (l01In_eq H4.out _).mono ?_
      rintro e w' ⟨rfl, rfl⟩
      go_wp2
      go_roundg (js.length - (k + 1))
      case measure => omega
      case rel => exact ⟨k + 1, by omega, rfl, by go_num, Lib.hid (HYES.out (by unfold jointB; simp only []; rw [H1.out, H5.out.1, H5.out.2, H4.out]; rfl)), HB.out, hsz⟩
    · obtain rfl : k = js.length := by omega
      have HAL : Hid (js.all jointB = true) := Lib.hid (by have := HA.out; rwa [List.take_of_length_le (Nat.le_refl _)] at this)
      go_wp2
      go_ret
      exact ⟨ret_bool (by unfold areJoints; rw [HAL.out, Bool.and_true]; by_cases h : js.length ≤ 12 <;> simp [h] <;> omega), hb⟩
end Go.Proofs.Ytblaojjpclipaaa
