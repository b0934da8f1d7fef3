/- The contract of l18Slots (chapter 18). No statement of the seat is proved here. -/
import Derived.Test.YtblaojjpclipaaaSlots
namespace Go.Proofs.Ytblaojjpclipaaa
open Go.RowKit

theorem has_no (js : List Joint) (s : Nat) : (slotsTo js s).any (· == (s : Int)) = false := by
  rw [List.any_eq_false]
  intro x hx h
  have h1 := slots_lt s x hx
  rw [beq_iff_eq] at h
  omega
theorem has_yes (js : List Joint) (s : Nat) : (slotsTo js s ++ [(s : Int)]).any (· == (s : Int)) = true := by
  rw [List.any_append]; simp
/-- the slots while the joints are looked at -/
def slotsMid (js : List Joint) (s : Nat) (hit : Bool) : List Int := if hit = true then slotsTo js s ++ [(s : Int)] else slotsTo js s
theorem slotsMid_len (js : List Joint) (s : Nat) (hit : Bool) : (slotsMid js s hit).length ≤ s + 1 := by
  have := slots_len (js := js) s
  unfold slotsMid
  split
  · rw [List.length_append, List.length_singleton]; omega
  · omega
theorem slotsMid_end (js : List Joint) (s : Nat) : slotsMid js s (js.any (tB s)) = slotsTo js (s + 1) := rfl
set_option maxHeartbeats 8000000 in
set_option maxRecDepth 20000 in
theorem l18Slots_any (jv : Value) (js : List Joint) (w : World) (hj : Sl eJoint w jv js) (h12 : js.length ≤ 12) :
    Calls Try.prog 70 #[jv] w fun e w' => ∃ u, e = .returned u ∧ Own eI w' w.heap.size 2 u (slotsOf js) ∧ Below w.heap.size w w' := by
  obtain ⟨A, jcap, rfl, _, hm, hc⟩ := hj.shape
  have O0 : Hid (Own eI (w.alloc (.cells #[] 2)) w.heap.size 2 (.slice (some ⟨w.heap.size, 0, none⟩) 0 0) (slotsTo js 0)) := Lib.hid (Own.empty eI w _ _ (Nat.le_refl _))
  have B0 : Hid (Below w.heap.size w (w.alloc (.cells #[] 2))) := Lib.hid ((Below.refl _ _).alloc (Nat.le_refl _) _)
  clear hj
  go_enter Try.func70, Try.ntmps70
  go_wp2
  go_loopg [3, 4] 8 (fun gs v u wr => ∃ (s : Nat), s ≤ 8 ∧ gs = 8 - s ∧ u = .int .i64 s ∧ Hid (Own eI wr w.heap.size 2 v (slotsTo js s)) ∧ Hid (Below w.heap.size w wr))
  case atStart => exact ⟨0, by omega, rfl, rfl, O0, B0⟩
  case round =>
    obtain ⟨s, hs, rfl, rfl, HO, HB⟩ := hrel
    clear O0 B0
    by_cases hs8 : s < 8
    rotate_left
    · obtain rfl : s = 8 := by omega
      go_wp2
      go_ret
      exact ⟨_, rfl, HO.out, HB.out⟩
    have hsi : (s : Int) < 8 := by omega
    have hs0 : (0 : Int) ≤ (s : Int) := by omega
    have hsw : IntKind.i64.wrap ((s : Int) + 1) = (s : Int) + 1 := IntWalk.i64_in _ (by omega)
    go_wp2
    go_loopg [3, 5] js.length (fun gk v kk wq => ∃ (k : Nat) (hit : Bool), k ≤ js.length ∧ gk = js.length - k ∧ kk = .int .i64 k ∧ Hid ((js.take k).any (tB s) = hit) ∧ Hid (Own eI wq w.heap.size 2 v (slotsMid js s hit)) ∧ Hid (Below w.heap.size w wq))
    case atStart => exact ⟨0, false, Nat.zero_le _, rfl, rfl, Lib.hid rfl, HO, HB⟩
    case round =>
      obtain ⟨k, hit, hk, rfl, rfl, HN, HO, HB⟩ := hrel
      by_cases hlt : k < js.length
      rotate_left
      · obtain rfl : k = js.length := by omega
        have HO2 : Hid (Own eI wr w.heap.size 2 u3 (slotsTo js (s + 1))) := Lib.hid (by rw [← slotsMid_end]; have h := HN.out; rw [List.take_of_length_le (Nat.le_refl _)] at h; rw [h]; exact HO.out)
        clear HO
        go_wp2
        go_roundg (8 - (s + 1))
        case measure => omega
        case rel => exact ⟨s + 1, by omega, rfl, by go_num, HO2, HB⟩
      obtain ⟨gj, off, rfl, hbl, hcell⟩ := hc (by omega)
      have hbw := HB.out
      have c0 : wr.cell? ⟨gj, off + k * 3, none⟩ = some (.int .i64 js[k].a) := (hbw.cell (p := ⟨gj, off + k * 3, none⟩) hbl).trans (by simpa [eJoint, Nat.add_assoc] using hcell k hlt 0 _ (by decide) rfl)
      have c1 : wr.cell? ⟨gj, off + k * 3 + 1, none⟩ = some (.int .i64 js[k].b) := (hbw.cell (p := ⟨gj, off + k * 3 + 1, none⟩) hbl).trans (by simpa [eJoint, Nat.add_assoc] using hcell k hlt 1 _ (by decide) rfl)
      have c2 : wr.cell? ⟨gj, off + k * 3 + 2, none⟩ = some (.int .i64 js[k].kind) := (hbw.cell (p := ⟨gj, off + k * 3 + 2, none⟩) hbl).trans (by simpa [eJoint, Nat.add_assoc] using hcell k hlt 2 _ (by decide) rfl)
      have HY : Hid (tB s js[k] = true → (js.take (k + 1)).any (tB s) = true) := Lib.hid (fun h => any_take_yes hlt h)
      have HNX : Hid (tB s js[k] = false → (js.take (k + 1)).any (tB s) = (js.take k).any (tB s)) := Lib.hid (fun h => any_take_no hlt h)
      have hki : (k : Int) < (js.length : Int) := by omega
      have hk0 : (0 : Int) ≤ (k : Int) := by omega
      have hkw : IntKind.i64.wrap ((k : Int) + 1) = (k : Int) + 1 := IntWalk.i64_in _ (by omega)
      have hl9 : (slotsMid js s hit).length ≤ 1000000000 := by have := slotsMid_len js s hit; omega
      have hsz := HB.out.size
      have HAS := Lib.hid (l01Has_any u3 (slotsMid js s hit) (s : Int) wr (Sl.of_own HO.out (by have := slotsMid_len js s hit; unfold big40; omega)))
      clear hcell hbw
      generalize js[k] = j at *
      obtain ⟨jx, jy, kd⟩ := j
      simp only at *
      have MATCH : Hid (tB s ⟨jx, jy, kd⟩ = (jx == (s : Int) || jy == (s : Int))) := Lib.hid rfl
      by_cases ha : jx = (s : Int)
      · have ga : (jx == (s : Int)) = true := by simp [ha]
        have HX := Lib.hid (HY.out (by rw [MATCH.out, ga]; rfl))
        clear ha
        cases hit
        · have HQ := HAS.out
          rw [show slotsMid js s false = slotsTo js s from rfl, has_no] at HQ
          have HQ2 := Lib.hid HQ
          replace HO : Hid (Own eI wr w.heap.size 2 u3 (slotsTo js s)) := HO
          replace hl9 : (slotsTo js s).length ≤ 1000000000 := hl9
          clear HQ HAS
          go_wp2_with fail
          refine HQ2.out.mono ?_
          rintro e w3 ⟨rfl, rfl⟩
          go_wp2_with (at_builtin; refine wpList_app eI rfl _ _ 24 (by rfl) 2 (.int .i64 0) 8 Try.underlying24 info_i64 rfl (by decide) (by decide) w.heap.size _ (slotsTo js s) (by rfl) (by exact HO.out) (by exact hl9) (by exact hsz) (s : Int) _ (by rfl) _ (by rfl) (by first | rfl | simp) ?_)
          intro v6 w6 hO6 hB6 _ _ _
          have O6 : Hid (Own eI w6 w.heap.size 2 v6 (slotsMid js s true)) := Lib.hid hO6
          have B6 := Lib.hid (HB.out.trans hB6)
          clear hO6 hB6 HO HB
          go_wp2
          go_roundg (js.length - (k + 1))
          case measure => omega
          case rel => exact ⟨k + 1, true, by omega, rfl, by go_num, HX, O6, B6⟩
        · have HQ := HAS.out
          rw [show slotsMid js s true = slotsTo js s ++ [(s : Int)] from rfl, has_yes] at HQ
          have HQ2 := Lib.hid HQ
          clear HQ HAS
          go_wp2_with fail
          refine HQ2.out.mono ?_
          rintro e w3 ⟨rfl, rfl⟩
          go_wp2
          go_roundg (js.length - (k + 1))
          case measure => omega
          case rel => exact ⟨k + 1, true, by omega, rfl, by go_num, HX, HO, HB⟩
      have ga : (jx == (s : Int)) = false := by simp [ha]
      by_cases hb : jy = (s : Int)
      · have gb : (jy == (s : Int)) = true := by simp [hb]
        have HX := Lib.hid (HY.out (by rw [MATCH.out, ga, gb]; rfl))
        clear ha hb
        cases hit
        · have HQ := HAS.out
          rw [show slotsMid js s false = slotsTo js s from rfl, has_no] at HQ
          have HQ2 := Lib.hid HQ
          replace HO : Hid (Own eI wr w.heap.size 2 u3 (slotsTo js s)) := HO
          replace hl9 : (slotsTo js s).length ≤ 1000000000 := hl9
          clear HQ HAS
          go_wp2_with fail
          refine HQ2.out.mono ?_
          rintro e w3 ⟨rfl, rfl⟩
          go_wp2_with (at_builtin; refine wpList_app eI rfl _ _ 24 (by rfl) 2 (.int .i64 0) 8 Try.underlying24 info_i64 rfl (by decide) (by decide) w.heap.size _ (slotsTo js s) (by rfl) (by exact HO.out) (by exact hl9) (by exact hsz) (s : Int) _ (by rfl) _ (by rfl) (by first | rfl | simp) ?_)
          intro v6 w6 hO6 hB6 _ _ _
          have O6 : Hid (Own eI w6 w.heap.size 2 v6 (slotsMid js s true)) := Lib.hid hO6
          have B6 := Lib.hid (HB.out.trans hB6)
          clear hO6 hB6 HO HB
          go_wp2
          go_roundg (js.length - (k + 1))
          case measure => omega
          case rel => exact ⟨k + 1, true, by omega, rfl, by go_num, HX, O6, B6⟩
        · have HQ := HAS.out
          rw [show slotsMid js s true = slotsTo js s ++ [(s : Int)] from rfl, has_yes] at HQ
          have HQ2 := Lib.hid HQ
          clear HQ HAS
          go_wp2_with fail
          refine HQ2.out.mono ?_
          rintro e w3 ⟨rfl, rfl⟩
          go_wp2
          go_roundg (js.length - (k + 1))
          case measure => omega
          case rel => exact ⟨k + 1, true, by omega, rfl, by go_num, HX, HO, HB⟩
      have gb : (jy == (s : Int)) = false := by simp [hb]
      have HX := Lib.hid ((HNX.out (by rw [MATCH.out, ga, gb]; rfl)).trans HN.out)
      clear ha hb
      go_wp2
      go_roundg (js.length - (k + 1))
      case measure => omega
      case rel => exact ⟨k + 1, hit, by omega, rfl, by go_num, HX, HO, HB⟩
end Go.Proofs.Ytblaojjpclipaaa
