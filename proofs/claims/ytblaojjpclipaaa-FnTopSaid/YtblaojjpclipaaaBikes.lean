/- The contract of bicycles (chapter 18). No statement of the seat is proved here. -/
import Derived.Test.YtblaojjpclipaaaSlots
import Derived.Test.YtblaojjpclipaaaSumB
namespace Go.Proofs.Ytblaojjpclipaaa
open Go.RowKit

/-- parts and joints as they have to be -/
structure Both (ps : List Part) (js : List Joint) : Prop where
  n16 : ps.length ≤ 16
  n12 : js.length ≤ 12
  jok : ∀ j ∈ js, okJ j
  pok : okPr ps
  cne : ∀ x ∈ ps, emp x.code = false
theorem emp_none : emp ⟨#[]⟩ = true := by
  unfold emp ByteArray.toList
  rw [ByteArray.toList.loop]
  rfl
theorem fit_empt (ps : List Part) : Fit ps empt8 := ⟨rfl, fun c hc => .inl (by rw [List.eq_of_mem_replicate hc]; exact emp_none)⟩
theorem getC_empt (s : Int) : getC empt8 s = ⟨#[]⟩ := by
  unfold getC empt8
  rw [List.getD_eq_getElem?_getD, List.getElem?_replicate]
  split <;> rfl
theorem nb_8 : ∀ d, d ≤ 8 → nb d ≤ 1000000000000 := by decide
def allB (ps : List Part) (js : List Joint) : List (List ByteArray) := srch ps js (slotsOf js) empt8
theorem allB_len {ps : List Part} {js : List Joint} (h : ps.length ≤ 16) : (allB ps js).length ≤ 65536 := srch_len16 (slots_ok js).1 h
theorem slotsOf_len (js : List Joint) : (slotsOf js).length ≤ 8 := slots_len 8
set_option maxHeartbeats 4000000 in
set_option maxRecDepth 20000 in
theorem bicycles_any (pv jv : Tri) (ps : List Part) (js : List Joint) (w : World) (hp : RdP w pv.v ps) (hj : Sl eJoint w jv.v js) (hO : Both ps js) :
    Calls Try.prog 63 #[.slice pv.a pv.n pv.cap, .slice jv.a jv.n jv.cap] w fun e w' => ∃ u n g, e = .returned (.tuple #[u, .int .i64 n]) ∧ OwnL w' w.heap.size g u (allB ps js) ∧ Below w.heap.size w w' := by
  have HA : Hid (Ask w ps js (slotsOf js) pv jv) := Lib.hid ⟨hp, hj, hO.n16, hO.n12, hO.jok, slots_ok js, slotsOf_len js⟩
  have HJ := Lib.hid hj
  have HO := Lib.hid hO
  have hl := slotsOf_len js
  have hnb := nb_8 _ hl
  have hal := allB_len (js := js) hO.n16
  have HAL := Lib.hid hal
  have HNB := Lib.hid hnb
  clear hp hj hO hl hnb hal
  go_enter Try.func63, Try.ntmps63
  go_wp2_with fail
  refine (newSearch_any pv jv js w HJ.out HO.out.n12).mono ?_
  rintro e w1 ⟨S, sv, bv, rfl, hst, hb⟩
  have S1 := Lib.hid hst
  have B1 := Lib.hid hb
  clear hst hb
  go_wp2_with fail
  have hrun := run_law ps js (slotsOf js) pv jv sv bv w S HA.out (slotsOf js).length 0 (by omega) 0 noTri w1 empt8 [] S1.out B1.out (fit_empt ps) (fun s _ => getC_empt s) (Int.le_refl _) (by have := HNB.out; omega) (by have := HAL.out; unfold allB at this; simp; omega)
  rw [show ((0 : Nat) : Int) = 0 from rfl] at hrun
  refine hrun.mono ?_
  rintro e w2 ⟨⟨rr, rfl⟩, n, fv, hst, _, _, hb⟩
  rw [List.nil_append, List.drop_zero] at hst
  have S2 := Lib.hid hst
  have B2 := Lib.hid hb
  obtain ⟨x0, x1, x2, x3, x4, x5, x6, x7, x8⟩ := hst.cells
  simp only [sR] at x0 x1 x2 x3 x4 x5 x6 x7 x8
  have OL := Lib.hid hst.fnd
  clear hst hb hrun S1 B1
  go_wp2
  go_quiet (fail)
  go_wp2
  go_ret2
  exact ⟨_, _, _, rfl, OL.out, below_drewN' B2.out _⟩
end Go.Proofs.Ytblaojjpclipaaa
