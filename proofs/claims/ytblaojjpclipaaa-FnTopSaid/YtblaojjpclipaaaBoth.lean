/- Contracts of areBoth, l18Code and both CheapestBicycle (chapter 18). No statement of the seat is proved here. -/
import Derived.Test.YtblaojjpclipaaaCheap
namespace Go.Proofs.Ytblaojjpclipaaa
open Go.RowKit

theorem toList_loopB (bs : ByteArray) : ∀ (n i : Nat) (r : List UInt8), bs.size - i = n → ByteArray.toList.loop bs i r = r.reverse ++ bs.data.toList.drop i := by
  intro n
  induction n with
  | zero =>
    intro i r h
    have e : bs.data.toList.length ≤ i := by rw [Array.length_toList]; exact Nat.le_of_sub_eq_zero h
    rw [ByteArray.toList.loop, if_neg (by omega), List.drop_of_length_le e, List.append_nil]
  | succ n ih =>
    intro i r h
    have hi : i < bs.data.toList.length := by rw [Array.length_toList]; exact Nat.lt_of_sub_pos (by rw [show bs.data.size - i = n + 1 from h]; omega)
    rw [ByteArray.toList.loop, if_pos (by omega), ih (i + 1) _ (by omega), List.reverse_cons, List.append_assoc, List.drop_eq_getElem_cons hi]
    congr 1
    have e : bs.get! i = bs.data.toList[i] := by
      rw [Array.length_toList] at hi
      show bs.data[i]! = _
      rw [getElem!_pos bs.data i hi, Array.getElem_toList]
    rw [e]; rfl
theorem emp_word {s : ByteArray} (h : isWord s = true) : emp s = false := by
  unfold isWord at h
  rw [Bool.and_eq_true, inR_iff] at h
  have h1 := h.1.1
  unfold emp ByteArray.toList
  rw [toList_loopB s _ 0 [] rfl]
  simp only [List.reverse_nil, List.nil_append, List.drop_zero]
  cases hd : s.data.toList with
  | nil =>
    have : s.data.toList.length = s.size := Array.length_toList
    rw [hd] at this
    simp at this
    omega
  | cons a l => rfl
theorem part_ok {x : Part} (h : isPartB x = true) : emp x.code = false ∧ (0 ≤ x.slot ∧ x.slot ≤ 7) ∧ (0 ≤ x.price ∧ x.price ≤ 10000000) ∧ 0 ≤ x.grams ∧ x.grams ≤ 100000 := by
  unfold isPartB at h
  simp only [Bool.and_eq_true, inR_iff, decide_eq_true_eq] at h
  obtain ⟨⟨⟨⟨⟨h1, h2⟩, _⟩, h3⟩, h4⟩, _⟩ := h
  exact ⟨emp_word h1, h2, h3, h4⟩
theorem parts_at {ps : List Part} (h : areParts ps = true) : ps.length ≤ 16 ∧ ∀ x ∈ ps, isPartB x = true := by
  unfold areParts at h
  rw [Bool.and_eq_true, decide_eq_true_eq, List.all_eq_true] at h
  refine ⟨h.1, fun x hx => ?_⟩
  obtain ⟨i, hi, rfl⟩ := List.getElem_of_mem hx
  have h2 := h.2 i (List.mem_range.2 hi)
  unfold partOk at h2
  rw [Bool.and_eq_true, getD_at _ _ _ hi] at h2
  exact h2.1
theorem both_of {ps : List Part} {js : List Joint} (hp : areParts ps = true) (hj : areJoints js = true) : Both ps js := by
  obtain ⟨h1, h2⟩ := parts_at hp
  obtain ⟨h3, h4⟩ := areJoints_at hj
  exact ⟨h1, h3, fun j hx => by obtain ⟨a, b, c, d, _⟩ := h4 j hx; exact ⟨a, b, c, d⟩, fun x hx => (part_ok (h2 x hx)).2.2, fun x hx => (part_ok (h2 x hx)).1⟩
def bothB (ps : List Part) (js : List Joint) : Bool := areParts ps && areJoints js
theorem both_ok {ps : List Part} {js : List Joint} (h : bothB ps js = true) : Both ps js := by
  unfold bothB at h
  rw [Bool.and_eq_true] at h
  exact both_of h.1 h.2
set_option maxHeartbeats 4000000 in
set_option maxRecDepth 20000 in
theorem areBoth_any (pv jv : Value) (ps : List Part) (js : List Joint) (w : World) (hp : RdP w pv ps) (hj : Sl eJoint w jv js) (hq : ∀ x ∈ ps, x.code.size ≤ 1048576) :
    Calls Try.prog 37 #[pv, jv] w fun e w' => e = .returned (.bool (bothB ps js)) ∧ Below w.heap.size w w' := by
  have HP := Lib.hid hp
  have HJ := Lib.hid hj
  have HQ := Lib.hid hq
  clear hp hj hq
  rcases hA : areParts ps
  · have HA := Lib.hid hA
    clear hA
    go_enter Try.func37, Try.ntmps37
    go_wp2_with fail
    refine (iAreParts_any pv ps w HP.out HQ.out).mono ?_
    rw [HA.out]
    rintro e w1 ⟨rfl, hb⟩
    have B1 := Lib.hid hb
    clear hb
    go_wp2
    go_ret
    exact ⟨ret_bool (by unfold bothB; rw [HA.out]; rfl), B1.out⟩
  · have HA := Lib.hid hA
    clear hA
    have HR : Hid (bothB ps js = areJoints js) := Lib.hid (by unfold bothB; rw [HA.out]; rfl)
    go_enter Try.func37, Try.ntmps37
    go_wp2_with fail
    refine (iAreParts_any pv ps w HP.out HQ.out).mono ?_
    rw [HA.out]
    rintro e w1 ⟨rfl, hb⟩
    have B1 := Lib.hid hb
    clear hb
    go_wp2_with fail
    refine (iAreJoints_any jv js w1 (HJ.out.below B1.out)).mono ?_
    rintro e w2 ⟨rfl, hb⟩
    have B2 := Lib.hid (Below.step B1.out hb)
    clear hb
    go_wp2
    go_ret
    exact ⟨ret_bool (by rw [HR.out]), B2.out⟩
def codeB (ps : List Part) (js : List Joint) : Int := if bothB ps js = true then 0 else 1
set_option maxHeartbeats 4000000 in
set_option maxRecDepth 20000 in
theorem l18Code_any (pv jv : Value) (ps : List Part) (js : List Joint) (w : World) (hp : RdP w pv ps) (hj : Sl eJoint w jv js) (hq : ∀ x ∈ ps, x.code.size ≤ 1048576) :
    Calls Try.prog 39 #[pv, jv] w fun e w' => e = .returned (.int .i64 (codeB ps js)) ∧ Below w.heap.size w w' := by
  have HP := Lib.hid hp
  have HJ := Lib.hid hj
  have HQ := Lib.hid hq
  clear hp hj hq
  rcases hA : areParts ps
  · have HA := Lib.hid hA
    clear hA
    go_enter Try.func39, Try.ntmps39
    go_wp2_with fail
    refine (sAreParts_any pv ps w HP.out HQ.out).mono ?_
    rw [HA.out]
    rintro e w1 ⟨rfl, hb⟩
    have B1 := Lib.hid hb
    clear hb
    go_wp2
    go_ret
    exact ⟨ret_int (by unfold codeB bothB; rw [HA.out]; rfl), B1.out⟩
  rcases hJ : areJoints js
  all_goals
    have HA := Lib.hid hA
    have HJJ := Lib.hid hJ
    clear hA hJ
    go_enter Try.func39, Try.ntmps39
    go_wp2_with fail
    refine (sAreParts_any pv ps w HP.out HQ.out).mono ?_
    rw [HA.out]
    rintro e w1 ⟨rfl, hb⟩
    have B1 := Lib.hid hb
    clear hb
    go_wp2_with fail
    refine (sAreJoints_any jv js w1 (HJ.out.below B1.out)).mono ?_
    rw [HJJ.out]
    rintro e w2 ⟨rfl, hb⟩
    have B2 := Lib.hid (Below.step B1.out hb)
    clear hb
    go_wp2
    go_ret
    exact ⟨ret_int (by unfold codeB bothB; rw [HA.out, HJJ.out]; rfl), B2.out⟩
def bikeB (ps : List Part) (js : List Joint) : List ByteArray := if bothB ps js = true then bestB ps (allB ps js) else []
def bikeP (ps : List Part) (js : List Joint) : Int := if bothB ps js = true then bestP ps (allB ps js) else 0
def bikeE (ps : List Part) (js : List Joint) : Int := if bothB ps js = true then bestE ps (allB ps js) else 1
theorem bike_no {ps : List Part} {js : List Joint} (h : bothB ps js = false) : bikeB ps js = [] ∧ bikeP ps js = 0 ∧ bikeE ps js = 1 ∧ codeB ps js = 1 := by unfold bikeB bikeP bikeE codeB; rw [h]; exact ⟨rfl, rfl, rfl, rfl⟩
theorem bike_yes {ps : List Part} {js : List Joint} (h : bothB ps js = true) : bikeB ps js = bestB ps (allB ps js) ∧ bikeP ps js = bestP ps (allB ps js) ∧ bikeE ps js = bestE ps (allB ps js) ∧ codeB ps js = 0 := by unfold bikeB bikeP bikeE codeB; rw [h]; exact ⟨rfl, rfl, rfl, rfl⟩
set_option maxHeartbeats 4000000 in
set_option maxRecDepth 20000 in
theorem iCheapestBicycle_law (pv jv : Value) (ps : List Part) (js : List Joint) (w : World) (hp : RdP w pv ps) (hj : Sl eJoint w jv js) (hq : ∀ x ∈ ps, x.code.size ≤ 1048576) :
    Calls Try.prog 9 #[pv, jv] w fun e w' => ∃ u, e = .returned (.tuple #[u, .int .i64 (bikeP ps js), .int .i64 (bikeE ps js)]) ∧ Sl eS w' u (bikeB ps js) ∧ Below w.heap.size w w' := by
  obtain ⟨pa, pc, rfl, _⟩ := hp.shape
  obtain ⟨ja, jc, rfl, _⟩ := hj.shape
  have HP := Lib.hid hp
  have HJ := Lib.hid hj
  have HQ := Lib.hid hq
  clear hp hj hq
  rcases hA : bothB ps js
  · obtain ⟨r1, r2, r3, _⟩ := bike_no hA
    have HA := Lib.hid hA
    rw [r1, r2, r3]
    clear r1 r2 r3 hA
    go_enter Try.func9, Try.ntmps9
    go_wp2_with fail
    refine (areBoth_any _ _ ps js w HP.out HJ.out HQ.out).mono ?_
    rw [HA.out]
    rintro e w1 ⟨rfl, hb⟩
    have B1 := Lib.hid hb
    clear hb
    go_wp2
    go_ret3
    exact ⟨_, rfl, Sl.nilS _ _, B1.out⟩
  · obtain ⟨r1, r2, r3, _⟩ := bike_yes hA
    have HA := Lib.hid hA
    have HO := Lib.hid (both_ok hA)
    rw [r1, r2, r3]
    clear r1 r2 r3 hA
    go_enter Try.func9, Try.ntmps9
    go_wp2_with fail
    refine (areBoth_any _ _ ps js w HP.out HJ.out HQ.out).mono ?_
    rw [HA.out]
    rintro e w1 ⟨rfl, hb⟩
    have B1 := Lib.hid hb
    clear hb
    go_wp2_with fail
    refine (cheapest_any ⟨pa, ps.length, pc⟩ ⟨ja, js.length, jc⟩ ps js w1 (HP.out.below B1.out) (HJ.out.below B1.out) HO.out).mono ?_
    rintro e w2 ⟨u, rfl, hs, hb⟩
    have S2 := Lib.hid hs
    have B2 := Lib.hid (Below.step B1.out hb)
    clear hs hb
    go_wp2
    go_ret3
    exact ⟨_, rfl, S2.out, B2.out⟩
set_option maxHeartbeats 4000000 in
set_option maxRecDepth 20000 in
theorem sCheapestBicycle_law (pv jv : Value) (ps : List Part) (js : List Joint) (w : World) (hp : RdP w pv ps) (hj : Sl eJoint w jv js) (hq : ∀ x ∈ ps, x.code.size ≤ 1048576) :
    Calls Try.prog 10 #[pv, jv] w fun e w' => ∃ u, e = .returned (.tuple #[u, .int .i64 (bikeP ps js), .int .i64 (bikeE ps js)]) ∧ Sl eS w' u (bikeB ps js) ∧ Below w.heap.size w w' := by
  have HP := Lib.hid hp
  have HJ := Lib.hid hj
  have HQ := Lib.hid hq
  clear hp hj hq
  rcases hA : bothB ps js
  · obtain ⟨r1, r2, r3, r4⟩ := bike_no hA
    have R4 := Lib.hid r4
    rw [r1, r2, r3]
    clear r1 r2 r3 r4 hA
    go_enter Try.func10, Try.ntmps10
    go_wp2_with fail
    refine (l18Code_any _ _ ps js w HP.out HJ.out HQ.out).mono ?_
    rw [R4.out]
    rintro e w1 ⟨rfl, hb⟩
    have B1 := Lib.hid hb
    clear hb
    go_wp2
    go_ret3
    exact ⟨_, rfl, Sl.nilS _ _, B1.out⟩
  · obtain ⟨r1, r2, r3, r4⟩ := bike_yes hA
    have R4 := Lib.hid r4
    have HO := Lib.hid (both_ok hA)
    rw [r1, r2, r3]
    clear r1 r2 r3 r4 hA
    go_enter Try.func10, Try.ntmps10
    go_wp2_with fail
    refine (l18Code_any _ _ ps js w HP.out HJ.out HQ.out).mono ?_
    rw [R4.out]
    rintro e w1 ⟨rfl, hb⟩
    have B1 := Lib.hid hb
    clear hb
    go_wp2_with fail
    refine (l18All_any _ _ ps js w1 (HP.out.below B1.out) (HJ.out.below B1.out) HO.out).mono ?_
    rintro e w2 ⟨u, rfl, hol, hb⟩
    have B2 := Lib.hid (Below.step B1.out hb)
    have hrd := hol.rd (by have := allB_len (js := js) HO.out.n16; unfold big40; omega)
    have R2 := Lib.hid hrd
    clear hol hb hrd
    go_wp2_with fail
    refine (l18Best_any _ _ ps (allB ps js) w2 (HP.out.below B2.out) R2.out allB_fit HO.out.pok).mono ?_
    rintro e w3 ⟨u3, rfl, hs, hb⟩
    have S3 := Lib.hid hs
    have B3 := Lib.hid (Below.step B2.out hb)
    clear hs hb
    go_wp2
    go_ret3
    exact ⟨_, rfl, S3.out, B3.out⟩
end Go.Proofs.Ytblaojjpclipaaa
