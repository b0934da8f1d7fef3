/- The slots of all joints; contracts of newSearch, bicycles and l18Slots (chapter 18). No statement of the seat is proved here. -/
import Derived.Test.YtblaojjpclipaaaRunL
namespace Go.Proofs.Ytblaojjpclipaaa
open Go.RowKit

def tB (s : Int) (j : Joint) : Bool := j.a == s || j.b == s
def slotsTo (js : List Joint) : Nat → List Int
  | 0 => []
  | n + 1 => if js.any (tB n) = true then slotsTo js n ++ [(n : Int)] else slotsTo js n
def slotsOf (js : List Joint) : List Int := slotsTo js 8
theorem slots_yes {js : List Joint} {n : Nat} (h : js.any (tB n) = true) : slotsTo js (n + 1) = slotsTo js n ++ [(n : Int)] := by rw [slotsTo, if_pos h]
theorem slots_no {js : List Joint} {n : Nat} (h : js.any (tB n) = false) : slotsTo js (n + 1) = slotsTo js n := by rw [slotsTo, if_neg (by rw [h]; decide)]
theorem slots_lt {js : List Joint} : ∀ (n : Nat), ∀ s ∈ slotsTo js n, 0 ≤ s ∧ s < n
  | 0, s, h => by simp [slotsTo] at h
  | n + 1, s, h => by
    rcases hb : js.any (tB n)
    · rw [slots_no hb] at h
      have := slots_lt n s h
      omega
    · rw [slots_yes hb] at h
      rcases List.mem_append.1 h with h | h
      · have := slots_lt n s h
        omega
      · rw [List.mem_singleton.1 h]; omega
theorem slots_len {js : List Joint} : ∀ (n : Nat), (slotsTo js n).length ≤ n
  | 0 => Nat.le_refl _
  | n + 1 => by
    have := slots_len (js := js) n
    rcases hb : js.any (tB n)
    · rw [slots_no hb]; omega
    · rw [slots_yes hb, List.length_append, List.length_singleton]; omega
theorem slots_nodup {js : List Joint} : ∀ (n : Nat), (slotsTo js n).Nodup
  | 0 => List.nodup_nil
  | n + 1 => by
    have h := slots_nodup (js := js) n
    rcases hb : js.any (tB n)
    · rw [slots_no hb]; exact h
    · rw [slots_yes hb]
      refine List.nodup_append.2 ⟨h, by simp, fun a ha b hb e => ?_⟩
      have h1 := slots_lt n a ha
      rw [List.mem_singleton.1 hb] at e
      omega
theorem slots_ok (js : List Joint) : okS (slotsOf js) := ⟨slots_nodup 8, fun s h => by have := slots_lt 8 s h; omega⟩
theorem slots_mem {js : List Joint} {s : Nat} (h : js.any (tB s) = true) : ∀ (n : Nat), s < n → (s : Int) ∈ slotsTo js n
  | 0, hn => by omega
  | n + 1, hn => by
    by_cases e : s = n
    · subst e
      rw [slots_yes h]; simp
    · have h1 := slots_mem h n (by omega)
      rcases hb : js.any (tB n)
      · rw [slots_no hb]; exact h1
      · rw [slots_yes hb]; simp [h1]
theorem slots_a {js : List Joint} {j : Joint} (h : j ∈ js) (hj : okJ j) : j.a ∈ slotsOf js ∧ j.b ∈ slotsOf js := by
  obtain ⟨h0, h1, h2, h3⟩ := hj
  obtain ⟨a, ha⟩ : ∃ a : Nat, j.a = a := ⟨j.a.toNat, by omega⟩
  obtain ⟨b, hb⟩ : ∃ b : Nat, j.b = b := ⟨j.b.toNat, by omega⟩
  rw [ha, hb]
  exact ⟨slots_mem (List.any_eq_true.2 ⟨j, h, by unfold tB; simp [ha]⟩) 8 (by omega), slots_mem (List.any_eq_true.2 ⟨j, h, by unfold tB; simp [hb]⟩) 8 (by omega)⟩
/-- a slot more: the list of them stands in another row -/
theorem St.grow2 {w w' : World} {base S : Nat} {st : SR} {b : List ByteArray} {bs : List (List ByteArray)} {sl sl' : List Int} (h : St w base S st b bs sl) {t : Tri} (hn : Own eI w' base 2 t.v sl') (hg : w.grownBy w' st.sv.v.ownBlock) : St (w'.setCell ⟨S, 2, none⟩ t.v) base S { st with sv := t } b bs sl' ∧ w'.cell? ⟨S, 2, none⟩ = some st.sv.v ∧ w'.frozen? ⟨S, 2, none⟩ = false := by
  have hB := Own.kept h.bld hg (own_ne_row h.slt h.bld (by decide))
  have hX := Own.kept h.box hg (own_ne_row h.slt h.box (by decide))
  have hL := h.fnd.keptT h.slt hg (by decide) (by decide)
  obtain ⟨q1, q2⟩ := hX.store1 0 (by simp) 2 (by decide) t.v { st with sv := t } rfl
  rw [show 0 * eSr.sz + 2 = 2 by omega] at q1 q2
  exact ⟨⟨q1, Own.kept hB q2 (own_ne_row hX hB (by decide)), hL.keptT hX q2 (by decide) (by decide), Own.kept hn q2 (own_ne_row hX hn (by decide)), by have := h.low; have := hg.size; simp; omega⟩, hX.cellsAt 0 (by simp) 2 (by decide), World.ownsRow.frozenAt hX 2⟩
def noTri : Tri := ⟨none, 0, 0⟩
def empt8 : List ByteArray := List.replicate 8 ⟨#[]⟩
theorem empt8_len : empt8.length = 8 := rfl
set_option maxHeartbeats 16000000 in
set_option maxRecDepth 20000 in
theorem newSearch_any (pv jv : Tri) (js : List Joint) (w : World) (hj : Sl eJoint w jv.v js) (h12 : js.length ≤ 12) :
    Calls Try.prog 83 #[.slice pv.a pv.n pv.cap, .slice jv.a jv.n jv.cap] w fun e w' => ∃ S sv bv, e = .returned (.pointer (some ⟨S, 0, none⟩)) ∧ St w' w.heap.size S (sR pv jv sv bv 0 noTri) empt8 [] (slotsOf js) ∧ Below w.heap.size w w' := by
  obtain ⟨ja, jn, jc⟩ := jv
  obtain ⟨A, jcap, ejv, _, hm, hc⟩ := hj.shape
  simp only [Tri.v] at ejv
  injection ejv with q1 q2 q3
  subst q1 q2 q3
  obtain ⟨pa, pn, pc⟩ := pv
  simp only at *
  obtain ⟨i0, hi, hz0, hz1, hz2⟩ := info_parts info_str
  clear hj
  go_enter Try.func83, Try.ntmps83
  go_wp2_with (at_make; refine wpList_make_full _ rfl _ _ 33 rfl w.heap.size 9 i0 (.string ⟨#[]⟩) 1 Try.underlying33 hi hz0 hz1 .i64 .i64 _ _ 8 rfl rfl rfl rfl ?c1 ?c2 (Nat.le_refl _) ?_)
  case c1 => rw [hz2]; omega
  case c2 => unfold maxLen; omega
  intro wm hown hgrow
  have hbm : Below w.heap.size w wm := (Below.refl _ _).grown hgrow (Nat.le_refl _) (by simp)
  have hsm : w.heap.size ≤ wm.heap.size := hbm.size
  have hown0 : Own eS wm w.heap.size 9 (.slice (some ⟨w.heap.size, 0, none⟩) 8 8) empt8 := by
    have h := own_made _ _ _ _ _ _ hown
    unfold Own
    rw [empt8_len, eS_all]
    exact h
  have O0 := Lib.hid hown0
  have B0 := Lib.hid hbm
  clear hown hgrow hown0 hbm hi hz0 hz1 hz2
  go_wp2
  have S0 : Hid (St (wm.alloc (.cells #[.slice pa pn pc, .slice ja js.length jc, .slice none 0 0, .slice (some ⟨w.heap.size, 0, none⟩) 8 8, .int .i64 0, .int .i64 (-1), .bool false, .bool false, .slice none 0 0] 113)) w.heap.size wm.heap.size (sR ⟨pa, pn, pc⟩ ⟨ja, js.length, jc⟩ noTri ⟨some ⟨w.heap.size, 0, none⟩, 8, 8⟩ 0 noTri) empt8 [] (slotsTo js 0)) := Lib.hid ⟨World.ownsRow_lit wm #[.slice pa pn pc, .slice ja js.length jc, .slice none 0 0, .slice (some ⟨w.heap.size, 0, none⟩) 8 8, .int .i64 0, .int .i64 (-1), .bool false, .bool false, .slice none 0 0] 1 hsm (by unfold maxLen; omega) rfl, O0.out.alloc _, OwnL.nil_ _ _ _, Own.nil_ _ _ _ _, by simp; omega⟩
  have B1 : Hid (Below w.heap.size w (wm.alloc (.cells #[.slice pa pn pc, .slice ja js.length jc, .slice none 0 0, .slice (some ⟨w.heap.size, 0, none⟩) 8 8, .int .i64 0, .int .i64 (-1), .bool false, .bool false, .slice none 0 0] 113))) := Lib.hid (B0.out.alloc hsm _)
  clear B0 O0
  generalize wm.alloc (.cells #[.slice pa pn pc, .slice ja js.length jc, .slice none 0 0, .slice (some ⟨w.heap.size, 0, none⟩) 8 8, .int .i64 0, .int .i64 (-1), .bool false, .bool false, .slice none 0 0] 113) = w1 at *
  generalize wm.heap.size = S at *
  clear hsm
  go_loopg [6] 8 (fun gs u wr => ∃ (s : Nat) (sv : Tri), s ≤ 8 ∧ gs = 8 - s ∧ u = .int .i64 s ∧ Hid (St wr w.heap.size S (sR ⟨pa, pn, pc⟩ ⟨ja, js.length, jc⟩ sv ⟨some ⟨w.heap.size, 0, none⟩, 8, 8⟩ 0 noTri) empt8 [] (slotsTo js s)) ∧ Hid (Below w.heap.size w wr))
  case atStart => exact ⟨0, noTri, by omega, rfl, rfl, S0, B1⟩
  case round =>
    obtain ⟨s, sv, hs, rfl, rfl, HS, HB⟩ := hrel
    clear S0 B1
    by_cases hs8 : s < 8
    rotate_left
    · obtain rfl : s = 8 := by omega
      go_wp2
      go_ret
      exact ⟨S, sv, _, rfl, HS.out, HB.out⟩
    have hsi : (s : Int) < 8 := by omega
    have hs0 : (0 : Int) ≤ (s : Int) := by omega
    have hsw : IntKind.i64.wrap ((s : Int) + 1) = (s : Int) + 1 := IntWalk.i64_in _ (by omega)
    have hl9 : (slotsTo js s).length ≤ 1000000000 := by have := slots_len (js := js) s; omega
    go_wp2
    obtain ⟨wo, hwo⟩ : ∃ wo, wo = wr := ⟨_, rfl⟩
    subst hwo
    go_loopg [20] js.length (fun gk kk wq => ∃ (k : Nat), k ≤ js.length ∧ gk = js.length - k ∧ kk = .int .i64 k ∧ Hid ((js.take k).any (tB s) = false) ∧ Hid (Below wo.heap.size wo wq))
    case atStart => exact ⟨0, Nat.zero_le _, rfl, rfl, Lib.hid rfl, Lib.hid (Below.refl _ _)⟩
    case round =>
      obtain ⟨k, hk, rfl, rfl, HN, HBQ⟩ := hrel
      by_cases hlt : k < js.length
      rotate_left
      · obtain rfl : k = js.length := by omega
        have HSN : Hid (slotsTo js (s + 1) = slotsTo js s) := Lib.hid (slots_no (by have := HN.out; rwa [List.take_of_length_le (Nat.le_refl _)] at this))
        have HS2 := Lib.hid (HS.out.below HBQ.out)
        have HB2 := Lib.hid (Below.step HB.out HBQ.out)
        clear HS HB
        go_wp2
        go_roundg (8 - (s + 1))
        case measure => omega
        case rel => exact ⟨s + 1, sv, by omega, rfl, by go_num, by rw [HSN.out]; exact HS2, HB2⟩
      obtain ⟨gj, off, rfl, hbl, hcell⟩ := hc (by omega)
      have hbw := Below.step HB.out HBQ.out
      have c0 : wr.cell? ⟨gj, off + k * 3, none⟩ = some (.int .i64 js[k].a) := (hbw.cell (p := ⟨gj, off + k * 3, none⟩) hbl).trans (by simpa [eJoint, Nat.add_assoc] using hcell k hlt 0 _ (by decide) rfl)
      have c1 : wr.cell? ⟨gj, off + k * 3 + 1, none⟩ = some (.int .i64 js[k].b) := (hbw.cell (p := ⟨gj, off + k * 3 + 1, none⟩) hbl).trans (by simpa [eJoint, Nat.add_assoc] using hcell k hlt 1 _ (by decide) rfl)
      have c2 : wr.cell? ⟨gj, off + k * 3 + 2, none⟩ = some (.int .i64 js[k].kind) := (hbw.cell (p := ⟨gj, off + k * 3 + 2, none⟩) hbl).trans (by simpa [eJoint, Nat.add_assoc] using hcell k hlt 2 _ (by decide) rfl)
      have HY : Hid (tB s js[k] = true → js.any (tB s) = true) := Lib.hid (fun h => List.any_eq_true.2 ⟨js[k], List.getElem_mem hlt, h⟩)
      have HNX : Hid (tB s js[k] = false → (js.take (k + 1)).any (tB s) = false) := Lib.hid (fun h => any_take_succ k hlt HN.out h)
      have hki : (k : Int) < (js.length : Int) := by omega
      have hk0 : (0 : Int) ≤ (k : Int) := by omega
      have hkw : IntKind.i64.wrap ((k : Int) + 1) = (k : Int) + 1 := IntWalk.i64_in _ (by omega)
      clear hcell
      generalize js[k] = j at *
      obtain ⟨jx, jy, kd⟩ := j
      simp only at *
      have hbx := HBQ.out.alloc HBQ.out.size (.cells #[.int .i64 jx, .int .i64 jy, .int .i64 kd] 47)
      have b0 : (wr.alloc (.cells #[.int .i64 jx, .int .i64 jy, .int .i64 kd] 47)).cell? ⟨wr.heap.size, 0, none⟩ = some (.int .i64 jx) := (box_new _ _ _ 0).trans rfl
      have b1 : (wr.alloc (.cells #[.int .i64 jx, .int .i64 jy, .int .i64 kd] 47)).cell? ⟨wr.heap.size, 1, none⟩ = some (.int .i64 jy) := (box_new _ _ _ 1).trans rfl
      have HBX := Lib.hid hbx
      have SY := Lib.hid (HS.out.below hbx)
      have BY := Lib.hid (Below.step HB.out hbx)
      clear hbx hbw
      by_cases ha : jx = (s : Int)
      · have ga : (jx == (s : Int)) = true := by simp [ha]
        have HANY := Lib.hid (HY.out (by unfold tB; simp [ha]))
        clear ha
        generalize hsl : slotsTo js s = sls at *
        have HSL := Lib.hid hsl
        clear hsl
        obtain ⟨x0, x1, x2, x3, x4, x5, x6, x7, x8⟩ := SY.out.cells
        simp only [sR] at x0 x1 x2 x3 x4 x5 x6 x7 x8
        go_wp2_with (at_builtin; refine wpList_app eI rfl _ _ 24 (by rfl) 2 (.int .i64 0) 8 Try.underlying24 info_i64 rfl (by decide) (by decide) w.heap.size _ sls (by rfl) (by exact SY.out.slt) (by exact hl9) (by exact SY.out.low) (s : Int) _ (by rfl) _ (by rfl) (by first | rfl | simp) ?_)
        intro v6 w6 hO6 hB6 hG6 _ _
        obtain ⟨a6, c6, rfl⟩ := slice_ofR hO6
        rw [show (sls ++ [(s : Int)]).length = sls.length + 1 by simp] at hO6
        obtain ⟨hst, e2, f2⟩ := SY.out.grow2 (t := ⟨a6, sls.length + 1, c6⟩) hO6 hG6
        have HSN : Hid (slotsTo js (s + 1) = sls ++ [(s : Int)]) := Lib.hid (by rw [slots_yes HANY.out, HSL.out])
        have P6 : Hid (St (w6.setCell ⟨S, 2, none⟩ (.slice a6 (sls.length + 1) c6)) w.heap.size S (sR ⟨pa, pn, pc⟩ ⟨some ⟨gj, off, none⟩, js.length, jc⟩ ⟨a6, sls.length + 1, c6⟩ ⟨some ⟨w.heap.size, 0, none⟩, 8, 8⟩ 0 noTri) empt8 [] (slotsTo js (s + 1))) := Lib.hid (by rw [HSN.out]; exact hst)
        have B6 := Lib.hid ((BY.out.trans hB6).setCell (p := ⟨S, 2, none⟩) SY.out.lt.1 (.slice a6 (sls.length + 1) c6))
        clear hO6 hB6 hG6 hst SY BY HS HB HBQ HBX x0 x1 x2 x3 x4 x5 x6 x7 x8
        simp only [sR] at e2
        unfold Tri.v at e2
        go_wp2
        go_roundg (8 - (s + 1))
        case measure => omega
        case rel => exact ⟨s + 1, ⟨a6, sls.length + 1, c6⟩, by omega, rfl, by go_num, P6, B6⟩
      have ga : (jx == (s : Int)) = false := by simp [ha]
      by_cases hb : jy = (s : Int)
      · have gb : (jy == (s : Int)) = true := by simp [hb]
        have HANY := Lib.hid (HY.out (by unfold tB; simp [hb]))
        clear ha hb
        generalize hsl : slotsTo js s = sls at *
        have HSL := Lib.hid hsl
        clear hsl
        obtain ⟨x0, x1, x2, x3, x4, x5, x6, x7, x8⟩ := SY.out.cells
        simp only [sR] at x0 x1 x2 x3 x4 x5 x6 x7 x8
        go_wp2_with (at_builtin; refine wpList_app eI rfl _ _ 24 (by rfl) 2 (.int .i64 0) 8 Try.underlying24 info_i64 rfl (by decide) (by decide) w.heap.size _ sls (by rfl) (by exact SY.out.slt) (by exact hl9) (by exact SY.out.low) (s : Int) _ (by rfl) _ (by rfl) (by first | rfl | simp) ?_)
        intro v6 w6 hO6 hB6 hG6 _ _
        obtain ⟨a6, c6, rfl⟩ := slice_ofR hO6
        rw [show (sls ++ [(s : Int)]).length = sls.length + 1 by simp] at hO6
        obtain ⟨hst, e2, f2⟩ := SY.out.grow2 (t := ⟨a6, sls.length + 1, c6⟩) hO6 hG6
        have HSN : Hid (slotsTo js (s + 1) = sls ++ [(s : Int)]) := Lib.hid (by rw [slots_yes HANY.out, HSL.out])
        have P6 : Hid (St (w6.setCell ⟨S, 2, none⟩ (.slice a6 (sls.length + 1) c6)) w.heap.size S (sR ⟨pa, pn, pc⟩ ⟨some ⟨gj, off, none⟩, js.length, jc⟩ ⟨a6, sls.length + 1, c6⟩ ⟨some ⟨w.heap.size, 0, none⟩, 8, 8⟩ 0 noTri) empt8 [] (slotsTo js (s + 1))) := Lib.hid (by rw [HSN.out]; exact hst)
        have B6 := Lib.hid ((BY.out.trans hB6).setCell (p := ⟨S, 2, none⟩) SY.out.lt.1 (.slice a6 (sls.length + 1) c6))
        clear hO6 hB6 hG6 hst SY BY HS HB HBQ HBX x0 x1 x2 x3 x4 x5 x6 x7 x8
        simp only [sR] at e2
        unfold Tri.v at e2
        go_wp2
        go_roundg (8 - (s + 1))
        case measure => omega
        case rel => exact ⟨s + 1, ⟨a6, sls.length + 1, c6⟩, by omega, rfl, by go_num, P6, B6⟩
      have gb : (jy == (s : Int)) = false := by simp [hb]
      have HX := Lib.hid (HNX.out (by unfold tB; simp [ha, hb]))
      clear ha hb
      go_wp2
      go_roundg (js.length - (k + 1))
      case measure => omega
      case rel => exact ⟨k + 1, by omega, rfl, by go_num, HX, HBX⟩
end Go.Proofs.Ytblaojjpclipaaa
