/- Contracts of gradeOf and of l25Grade (chapter 25). No statement of the seat is proved here. -/
import Derived.Deep.DrawnRows
import Derived.Test.YtncggcbpbejmcaaRules
import Derived.Test.YtncggcbpbejmcaaUsed
import Derived.Test.YtncggcbpbejmcaaCells
namespace Go.Proofs.Ytncggcbpbejmcaa
open Go.RowKit

attribute [local go_sem ↓] Go.wp_at_zero Go.wp_at_succ
def fires (x : Used) (r : Rule) : Bool := decide (r.least ≤ numF x r.field)
def gradeIx (R : List Rule) (x : Used) : Int := firstAt (fires x) R
def gradeF (R : List Rule) (x : Used) : Int := if gradeIx R x < 0 then 0 else (R.getD (gradeIx R x).toNat zRule).grade
theorem areRules_at {R : List Rule} (h : areRules R = true) : R.length ≤ 12 ∧ ∀ (k : Nat) (hk : k < R.length), 0 ≤ R[k].field ∧ R[k].field ≤ 3 ∧ 0 ≤ R[k].least ∧ R[k].least ≤ 100000 ∧ 0 ≤ R[k].grade ∧ R[k].grade ≤ 4 := by
  unfold areRules at h
  rw [Bool.and_eq_true, decide_eq_true_eq, List.all_eq_true] at h
  refine ⟨h.1, fun k hk => ?_⟩
  have h2 := h.2 _ (List.getElem_mem hk)
  unfold ruleOk at h2
  simp only [Bool.and_eq_true, inR_iff] at h2
  exact ⟨h2.1.1.1, h2.1.1.2, h2.1.2.1, h2.1.2.2, h2.2.1, h2.2.2⟩
theorem gradeF_at {R : List Rule} {x : Used} {k : Nat} (hk : k < R.length) (h1 : (R.take k).any (fires x) = false) (h2 : fires x R[k] = true) : gradeF R x = R[k].grade ∧ gradeIx R x = k := by
  have e : gradeIx R x = k := firstAt_at hk h1 h2
  refine ⟨?_, e⟩
  unfold gradeF
  rw [e, if_neg (by omega), Int.toNat_natCast, getD_at _ _ _ hk]
theorem gradeF_none {R : List Rule} {x : Used} (h : R.any (fires x) = false) : gradeF R x = 0 ∧ gradeIx R x = -1 := by
  have e : gradeIx R x = -1 := firstAt_none h
  refine ⟨?_, e⟩
  unfold gradeF
  rw [e]; rfl
theorem gradeF_bd {R : List Rule} (h : areRules R = true) (x : Used) : 0 ≤ gradeF R x ∧ gradeF R x ≤ 4 := by
  unfold gradeF
  split
  · omega
  · rename_i hn
    obtain ⟨k, hk, e, _, _⟩ := firstAt_get (p := fires x) (xs := R) hn
    have e2 : gradeIx R x = k := e
    rw [e2, Int.toNat_natCast, getD_at _ _ _ hk]
    have := (areRules_at h).2 k hk
    omega
abbrev Grade_e (R : List Rule) (x : Used) : Ending := .returned (.tuple #[.int .i64 (gradeF R x), .int .i64 (gradeIx R x)])
theorem Grade_e_of {R : List Rule} {x : Used} {a b : Int} (h : gradeF R x = a ∧ gradeIx R x = b) : Ending.returned (.tuple #[.int .i64 a, .int .i64 b]) = Grade_e R x := by unfold Grade_e; rw [h.1, h.2]
set_option maxHeartbeats 4000000 in
set_option maxRecDepth 20000 in
theorem gradeOf_any (v : Value) (R : List Rule) (x : Used) (w : World) (hv : Sl eRule w v R) :
    Calls Try.prog 80 #[v, .agg #[.string x.name, .int .i64 x.hours, .int .i64 x.play, .int .i64 x.rust, .int .i64 x.dents]] w fun e w' => e = Grade_e R x ∧ Below w.heap.size w w' := by
  obtain ⟨A, cap, rfl, _, hm, hc⟩ := hv.shape
  have hend : ∀ W, Below (w.heap.size + 1) (w.alloc (.cells #[.string x.name, .int .i64 x.hours, .int .i64 x.play, .int .i64 x.rust, .int .i64 x.dents] 33)) W → Below w.heap.size w W := fun W h => ((Below.refl _ _).alloc (Nat.le_refl _) _).trans (h.mono (by omega))
  have HE := Lib.hid hend
  have b0 : (w.alloc (.cells #[.string x.name, .int .i64 x.hours, .int .i64 x.play, .int .i64 x.rust, .int .i64 x.dents] 33)).cell? ⟨w.heap.size, 0, none⟩ = some (.string x.name) := (box_new _ _ _ 0).trans rfl
  have b1 : (w.alloc (.cells #[.string x.name, .int .i64 x.hours, .int .i64 x.play, .int .i64 x.rust, .int .i64 x.dents] 33)).cell? ⟨w.heap.size, 1, none⟩ = some (.int .i64 x.hours) := (box_new _ _ _ 1).trans rfl
  have b2 : (w.alloc (.cells #[.string x.name, .int .i64 x.hours, .int .i64 x.play, .int .i64 x.rust, .int .i64 x.dents] 33)).cell? ⟨w.heap.size, 2, none⟩ = some (.int .i64 x.play) := (box_new _ _ _ 2).trans rfl
  have b3 : (w.alloc (.cells #[.string x.name, .int .i64 x.hours, .int .i64 x.play, .int .i64 x.rust, .int .i64 x.dents] 33)).cell? ⟨w.heap.size, 3, none⟩ = some (.int .i64 x.rust) := (box_new _ _ _ 3).trans rfl
  have b4 : (w.alloc (.cells #[.string x.name, .int .i64 x.hours, .int .i64 x.play, .int .i64 x.rust, .int .i64 x.dents] 33)).cell? ⟨w.heap.size, 4, none⟩ = some (.int .i64 x.dents) := (box_new _ _ _ 4).trans rfl
  have HBX := Lib.hid (And.intro b0 (And.intro b1 (And.intro b2 (And.intro b3 b4))))
  have HOLD : Hid (∀ p : Addr, p.block < w.heap.size → (w.alloc (.cells #[.string x.name, .int .i64 x.hours, .int .i64 x.play, .int .i64 x.rust, .int .i64 x.dents] 33)).cell? p = w.cell? p) := Lib.hid (fun p hp => box_old _ _ p hp)
  clear hend b0 b1 b2 b3 b4 hv
  go_enter Try.func80, Try.ntmps80
  go_wp2
  go_loopg [10] R.length (fun gi i wr => ∃ k : Nat, k ≤ R.length ∧ gi = R.length - k ∧ i = .int .i64 k ∧ Hid ((R.take k).any (fires x) = false) ∧ Below (w.heap.size + 1) (w.alloc (.cells #[.string x.name, .int .i64 x.hours, .int .i64 x.play, .int .i64 x.rust, .int .i64 x.dents] 33)) wr ∧ w.heap.size + 1 ≤ wr.heap.size)
  case atStart => exact ⟨0, Nat.zero_le _, rfl, rfl, Lib.hid rfl, Below.refl _ _, by simp⟩
  case round =>
    obtain ⟨k, hk, rfl, rfl, HA, hb, hs⟩ := hrel
    by_cases hlt : k < R.length
    · obtain ⟨b, off, rfl, hbl, hcell⟩ := hc (by omega)
      have hold : ∀ p : Addr, p.block < w.heap.size → wr.cell? p = w.cell? p := fun p hp => (hb.cell (p := p) (by omega)).trans (HOLD.out p hp)
      have c0 : wr.cell? ⟨b, off + k * 3, none⟩ = some (.int .i64 R[k].field) := (hold ⟨b, off + k * 3, none⟩ hbl).trans (by simpa [eRule, Nat.add_assoc] using hcell k hlt 0 _ (by decide) rfl)
      have c1 : wr.cell? ⟨b, off + k * 3 + 1, none⟩ = some (.int .i64 R[k].least) := (hold ⟨b, off + k * 3 + 1, none⟩ hbl).trans (by simpa [eRule, Nat.add_assoc] using hcell k hlt 1 _ (by decide) rfl)
      have c2 : wr.cell? ⟨b, off + k * 3 + 2, none⟩ = some (.int .i64 R[k].grade) := (hold ⟨b, off + k * 3 + 2, none⟩ hbl).trans (by simpa [eRule, Nat.add_assoc] using hcell k hlt 2 _ (by decide) rfl)
      have y0 : wr.cell? ⟨w.heap.size, 0, none⟩ = some (.string x.name) := (hb.cell (p := ⟨w.heap.size, 0, none⟩) (by simp)).trans HBX.out.1
      have y1 : wr.cell? ⟨w.heap.size, 1, none⟩ = some (.int .i64 x.hours) := (hb.cell (p := ⟨w.heap.size, 1, none⟩) (by simp)).trans HBX.out.2.1
      have y2 : wr.cell? ⟨w.heap.size, 2, none⟩ = some (.int .i64 x.play) := (hb.cell (p := ⟨w.heap.size, 2, none⟩) (by simp)).trans HBX.out.2.2.1
      have y3 : wr.cell? ⟨w.heap.size, 3, none⟩ = some (.int .i64 x.rust) := (hb.cell (p := ⟨w.heap.size, 3, none⟩) (by simp)).trans HBX.out.2.2.2.1
      have y4 : wr.cell? ⟨w.heap.size, 4, none⟩ = some (.int .i64 x.dents) := (hb.cell (p := ⟨w.heap.size, 4, none⟩) (by simp)).trans HBX.out.2.2.2.2
      have x0 := (box_old wr (.cells #[.int .i64 R[k].field, .int .i64 R[k].least, .int .i64 R[k].grade] 78) ⟨w.heap.size, 0, none⟩ (by simp only []; omega)).trans y0
      have x1 := (box_old wr (.cells #[.int .i64 R[k].field, .int .i64 R[k].least, .int .i64 R[k].grade] 78) ⟨w.heap.size, 1, none⟩ (by simp only []; omega)).trans y1
      have x2 := (box_old wr (.cells #[.int .i64 R[k].field, .int .i64 R[k].least, .int .i64 R[k].grade] 78) ⟨w.heap.size, 2, none⟩ (by simp only []; omega)).trans y2
      have x3 := (box_old wr (.cells #[.int .i64 R[k].field, .int .i64 R[k].least, .int .i64 R[k].grade] 78) ⟨w.heap.size, 3, none⟩ (by simp only []; omega)).trans y3
      have x4 := (box_old wr (.cells #[.int .i64 R[k].field, .int .i64 R[k].least, .int .i64 R[k].grade] 78) ⟨w.heap.size, 4, none⟩ (by simp only []; omega)).trans y4
      clear y0 y1 y2 y3 y4
      have HY := Lib.hid (gradeF_at hlt HA.out)
      have HN := Lib.hid (any_take_succ (p := fires x) k hlt HA.out)
      have HD : Hid (fires x R[k] = decide (R[k].least ≤ numF x R[k].field)) := Lib.hid rfl
      clear hc hcell hold
      generalize R[k] = r at *
      obtain ⟨f, l, g⟩ := r
      simp only at *
      have r0 : (wr.alloc (.cells #[.int .i64 f, .int .i64 l, .int .i64 g] 78)).cell? ⟨wr.heap.size, 0, none⟩ = some (.int .i64 f) := (box_new _ _ _ 0).trans rfl
      have r1 : (wr.alloc (.cells #[.int .i64 f, .int .i64 l, .int .i64 g] 78)).cell? ⟨wr.heap.size, 1, none⟩ = some (.int .i64 l) := (box_new _ _ _ 1).trans rfl
      have r2 : (wr.alloc (.cells #[.int .i64 f, .int .i64 l, .int .i64 g] 78)).cell? ⟨wr.heap.size, 2, none⟩ = some (.int .i64 g) := (box_new _ _ _ 2).trans rfl
      have hgr : wr.heap.size < (wr.alloc (.cells #[.int .i64 f, .int .i64 l, .int .i64 g] 78)).heap.size := by simp
      have hbA := hb.alloc hs (.cells #[.int .i64 f, .int .i64 l, .int .i64 g] 78)
      have hsA : w.heap.size + 1 ≤ (wr.alloc (.cells #[.int .i64 f, .int .i64 l, .int .i64 g] 78)).heap.size := by simp; omega
      clear hb
      go_wp2
      clear c0 c1 c2
      generalize wr.alloc (.cells #[.int .i64 f, .int .i64 l, .int .i64 g] 78) = wA at *
      generalize wr.heap.size = gr at *
      have hgx : w.heap.size < wA.heap.size := by omega
      have KEEP : Hid (∀ W, Below wA.heap.size wA W → Below wA.heap.size wA W ∧ W.cell? ⟨w.heap.size, 0, none⟩ = some (.string x.name) ∧ W.cell? ⟨w.heap.size, 1, none⟩ = some (.int .i64 x.hours) ∧ W.cell? ⟨w.heap.size, 2, none⟩ = some (.int .i64 x.play) ∧ W.cell? ⟨w.heap.size, 3, none⟩ = some (.int .i64 x.rust) ∧ W.cell? ⟨w.heap.size, 4, none⟩ = some (.int .i64 x.dents) ∧ W.cell? ⟨gr, 0, none⟩ = some (.int .i64 f) ∧ W.cell? ⟨gr, 1, none⟩ = some (.int .i64 l)) := Lib.hid (fun W h => ⟨h, (h.cell (p := ⟨w.heap.size, 0, none⟩) hgx).trans x0, (h.cell (p := ⟨w.heap.size, 1, none⟩) hgx).trans x1, (h.cell (p := ⟨w.heap.size, 2, none⟩) hgx).trans x2, (h.cell (p := ⟨w.heap.size, 3, none⟩) hgx).trans x3, (h.cell (p := ⟨w.heap.size, 4, none⟩) hgx).trans x4, (h.cell (p := ⟨gr, 0, none⟩) hgr).trans r0, (h.cell (p := ⟨gr, 1, none⟩) hgr).trans r1⟩)
      go_region_held3 (fun W => Below wA.heap.size wA W ∧ W.cell? ⟨w.heap.size, 0, none⟩ = some (.string x.name) ∧ W.cell? ⟨w.heap.size, 1, none⟩ = some (.int .i64 x.hours) ∧ W.cell? ⟨w.heap.size, 2, none⟩ = some (.int .i64 x.play) ∧ W.cell? ⟨w.heap.size, 3, none⟩ = some (.int .i64 x.rust) ∧ W.cell? ⟨w.heap.size, 4, none⟩ = some (.int .i64 x.dents) ∧ W.cell? ⟨gr, 0, none⟩ = some (.int .i64 f) ∧ W.cell? ⟨gr, 1, none⟩ = some (.int .i64 l)) (first | exact KEEP.out _ ((Below.refl _ _).drew) | exact KEEP.out _ (‹Below wA.heap.size wA _ ∧ _›.1.trans (hb3.mono ‹Below wA.heap.size wA _ ∧ _›.1.size)))
        (first | (go_at_call 74; refine (numberOf_any x f _).mono ?_; rintro e w3 ⟨rfl, hb3⟩))
      have hF : Below wA.heap.size wA w3 := (‹Below wA.heap.size wA _ ∧ _›).1
      have z2 : w3.cell? ⟨gr, 2, none⟩ = some (.int .i64 g) := (hF.cell (p := ⟨gr, 2, none⟩) hgr).trans r2
      have hbF := below_step2 hbA hF hsA
      have hsF : w.heap.size + 1 ≤ w3.heap.size := Nat.le_trans hsA hF.size
      by_cases hle : l ≤ numF x f
      · have HE2 := Lib.hid (HY.out (HD.out.trans (decide_eq_true hle)))
        go_wp2
        go_ret2
        exact ⟨Grade_e_of HE2.out, HE.out _ hbF⟩
      · have HE2 := Lib.hid (HN.out (HD.out.trans (decide_eq_false hle)))
        go_wp2
        go_roundg (R.length - (k + 1))
        case measure => omega
        case rel => exact ⟨k + 1, by omega, rfl, by go_num, HE2, hbF, hsF⟩
    · obtain rfl : k = R.length := by omega
      have HX := Lib.hid (gradeF_none (any_of_take _ (Nat.le_refl _) HA.out))
      go_wp2
      go_ret2
      exact ⟨Grade_e_of HX.out, HE.out _ hb⟩
set_option maxHeartbeats 4000000 in
set_option maxRecDepth 20000 in
theorem l25Grade_any (v : Value) (R : List Rule) (x : Used) (w : World) (hv : Sl eRule w v R) (ha : areRules R = true) :
    Calls Try.prog 79 #[v, .agg #[.string x.name, .int .i64 x.hours, .int .i64 x.play, .int .i64 x.rust, .int .i64 x.dents]] w fun e w' => e = Grade_e R x ∧ Below w.heap.size w w' := by
  obtain ⟨A, cap, rfl, _, hm, hc⟩ := hv.shape
  have HRA := Lib.hid (areRules_at ha).2
  clear ha
  have hend : ∀ W, Below (w.heap.size + 1) (w.alloc (.cells #[.string x.name, .int .i64 x.hours, .int .i64 x.play, .int .i64 x.rust, .int .i64 x.dents] 33)) W → Below w.heap.size w W := fun W h => ((Below.refl _ _).alloc (Nat.le_refl _) _).trans (h.mono (by omega))
  have HE := Lib.hid hend
  have b0 : (w.alloc (.cells #[.string x.name, .int .i64 x.hours, .int .i64 x.play, .int .i64 x.rust, .int .i64 x.dents] 33)).cell? ⟨w.heap.size, 0, none⟩ = some (.string x.name) := (box_new _ _ _ 0).trans rfl
  have b1 : (w.alloc (.cells #[.string x.name, .int .i64 x.hours, .int .i64 x.play, .int .i64 x.rust, .int .i64 x.dents] 33)).cell? ⟨w.heap.size, 1, none⟩ = some (.int .i64 x.hours) := (box_new _ _ _ 1).trans rfl
  have b2 : (w.alloc (.cells #[.string x.name, .int .i64 x.hours, .int .i64 x.play, .int .i64 x.rust, .int .i64 x.dents] 33)).cell? ⟨w.heap.size, 2, none⟩ = some (.int .i64 x.play) := (box_new _ _ _ 2).trans rfl
  have b3 : (w.alloc (.cells #[.string x.name, .int .i64 x.hours, .int .i64 x.play, .int .i64 x.rust, .int .i64 x.dents] 33)).cell? ⟨w.heap.size, 3, none⟩ = some (.int .i64 x.rust) := (box_new _ _ _ 3).trans rfl
  have b4 : (w.alloc (.cells #[.string x.name, .int .i64 x.hours, .int .i64 x.play, .int .i64 x.rust, .int .i64 x.dents] 33)).cell? ⟨w.heap.size, 4, none⟩ = some (.int .i64 x.dents) := (box_new _ _ _ 4).trans rfl
  have HBX := Lib.hid (And.intro b0 (And.intro b1 (And.intro b2 (And.intro b3 b4))))
  have HOLD : Hid (∀ p : Addr, p.block < w.heap.size → (w.alloc (.cells #[.string x.name, .int .i64 x.hours, .int .i64 x.play, .int .i64 x.rust, .int .i64 x.dents] 33)).cell? p = w.cell? p) := Lib.hid (fun p hp => box_old _ _ p hp)
  clear hend b0 b1 b2 b3 b4 hv
  go_enter Try.func79, Try.ntmps79
  go_wp2
  go_loopg [6] R.length (fun gi i wr => ∃ k : Nat, k ≤ R.length ∧ gi = R.length - k ∧ i = .int .i64 k ∧ Hid ((R.take k).any (fires x) = false) ∧ Below (w.heap.size + 1) (w.alloc (.cells #[.string x.name, .int .i64 x.hours, .int .i64 x.play, .int .i64 x.rust, .int .i64 x.dents] 33)) wr ∧ w.heap.size + 1 ≤ wr.heap.size)
  case atStart => exact ⟨0, Nat.zero_le _, rfl, rfl, Lib.hid rfl, Below.refl _ _, by simp⟩
  case round =>
    obtain ⟨k, hk, rfl, rfl, HA, hb, hs⟩ := hrel
    by_cases hlt : k < R.length
    · obtain ⟨b, off, rfl, hbl, hcell⟩ := hc (by omega)
      have hold : ∀ p : Addr, p.block < w.heap.size → wr.cell? p = w.cell? p := fun p hp => (hb.cell (p := p) (by omega)).trans (HOLD.out p hp)
      have c0 : wr.cell? ⟨b, off + k * 3, none⟩ = some (.int .i64 R[k].field) := (hold ⟨b, off + k * 3, none⟩ hbl).trans (by simpa [eRule, Nat.add_assoc] using hcell k hlt 0 _ (by decide) rfl)
      have c1 : wr.cell? ⟨b, off + k * 3 + 1, none⟩ = some (.int .i64 R[k].least) := (hold ⟨b, off + k * 3 + 1, none⟩ hbl).trans (by simpa [eRule, Nat.add_assoc] using hcell k hlt 1 _ (by decide) rfl)
      have c2 : wr.cell? ⟨b, off + k * 3 + 2, none⟩ = some (.int .i64 R[k].grade) := (hold ⟨b, off + k * 3 + 2, none⟩ hbl).trans (by simpa [eRule, Nat.add_assoc] using hcell k hlt 2 _ (by decide) rfl)
      have y0 : wr.cell? ⟨w.heap.size, 0, none⟩ = some (.string x.name) := (hb.cell (p := ⟨w.heap.size, 0, none⟩) (by simp)).trans HBX.out.1
      have y1 : wr.cell? ⟨w.heap.size, 1, none⟩ = some (.int .i64 x.hours) := (hb.cell (p := ⟨w.heap.size, 1, none⟩) (by simp)).trans HBX.out.2.1
      have y2 : wr.cell? ⟨w.heap.size, 2, none⟩ = some (.int .i64 x.play) := (hb.cell (p := ⟨w.heap.size, 2, none⟩) (by simp)).trans HBX.out.2.2.1
      have y3 : wr.cell? ⟨w.heap.size, 3, none⟩ = some (.int .i64 x.rust) := (hb.cell (p := ⟨w.heap.size, 3, none⟩) (by simp)).trans HBX.out.2.2.2.1
      have y4 : wr.cell? ⟨w.heap.size, 4, none⟩ = some (.int .i64 x.dents) := (hb.cell (p := ⟨w.heap.size, 4, none⟩) (by simp)).trans HBX.out.2.2.2.2
      have x0 := y0
      have x1 := y1
      have x2 := y2
      have x3 := y3
      have x4 := y4
      clear y0 y1 y2 y3 y4
      obtain ⟨f0, f3, _, _, _, _⟩ := HRA.out k hlt
      have HY := Lib.hid (gradeF_at hlt HA.out)
      have HN := Lib.hid (any_take_succ (p := fires x) k hlt HA.out)
      have HD : Hid (fires x R[k] = decide (R[k].least ≤ numF x R[k].field)) := Lib.hid rfl
      clear hc hcell hold
      generalize R[k] = r at *
      obtain ⟨f, l, g⟩ := r
      simp only at *
      have hkI : (k : Int) < (R.length : Int) := by omega
      have hk0 : (0 : Int) ≤ (k : Int) := by omega
      have hgr : b < wr.heap.size := by omega
      have hbA := hb
      have hsA := hs
      clear hb
      go_wp2
      generalize wr = wA at *
      have hgx : w.heap.size < wA.heap.size := by omega
      have KEEP : Hid (∀ W, Below wA.heap.size wA W → Below wA.heap.size wA W ∧ W.cell? ⟨w.heap.size, 0, none⟩ = some (.string x.name) ∧ W.cell? ⟨w.heap.size, 1, none⟩ = some (.int .i64 x.hours) ∧ W.cell? ⟨w.heap.size, 2, none⟩ = some (.int .i64 x.play) ∧ W.cell? ⟨w.heap.size, 3, none⟩ = some (.int .i64 x.rust) ∧ W.cell? ⟨w.heap.size, 4, none⟩ = some (.int .i64 x.dents) ∧ W.cell? ⟨b, off + k * 3, none⟩ = some (.int .i64 f) ∧ W.cell? ⟨b, off + k * 3 + 1, none⟩ = some (.int .i64 l)) := Lib.hid (fun W h => ⟨h, (h.cell (p := ⟨w.heap.size, 0, none⟩) hgx).trans x0, (h.cell (p := ⟨w.heap.size, 1, none⟩) hgx).trans x1, (h.cell (p := ⟨w.heap.size, 2, none⟩) hgx).trans x2, (h.cell (p := ⟨w.heap.size, 3, none⟩) hgx).trans x3, (h.cell (p := ⟨w.heap.size, 4, none⟩) hgx).trans x4, (h.cell (p := ⟨b, off + k * 3, none⟩) hgr).trans c0, (h.cell (p := ⟨b, off + k * 3 + 1, none⟩) hgr).trans c1⟩)
      go_region_held3 (fun W => Below wA.heap.size wA W ∧ W.cell? ⟨w.heap.size, 0, none⟩ = some (.string x.name) ∧ W.cell? ⟨w.heap.size, 1, none⟩ = some (.int .i64 x.hours) ∧ W.cell? ⟨w.heap.size, 2, none⟩ = some (.int .i64 x.play) ∧ W.cell? ⟨w.heap.size, 3, none⟩ = some (.int .i64 x.rust) ∧ W.cell? ⟨w.heap.size, 4, none⟩ = some (.int .i64 x.dents) ∧ W.cell? ⟨b, off + k * 3, none⟩ = some (.int .i64 f) ∧ W.cell? ⟨b, off + k * 3 + 1, none⟩ = some (.int .i64 l)) (first | exact KEEP.out _ ((Below.refl _ _).drew) | exact KEEP.out _ (‹Below wA.heap.size wA _ ∧ _›.1.trans (hb3.mono ‹Below wA.heap.size wA _ ∧ _›.1.size)))
        (first | (go_at_call 70; refine (l25Field_any x f _ f0 f3).mono ?_; rintro e w3 ⟨rfl, hb3⟩))
      have hF : Below wA.heap.size wA w3 := (‹Below wA.heap.size wA _ ∧ _›).1
      have z2 : w3.cell? ⟨b, off + k * 3 + 2, none⟩ = some (.int .i64 g) := (hF.cell (p := ⟨b, off + k * 3 + 2, none⟩) hgr).trans c2
      have hbF := below_step2 hbA hF hsA
      have hsF : w.heap.size + 1 ≤ w3.heap.size := Nat.le_trans hsA hF.size
      by_cases hle : l ≤ numF x f
      · have HE2 := Lib.hid (HY.out (HD.out.trans (decide_eq_true hle)))
        go_wp2
        go_ret2
        exact ⟨Grade_e_of HE2.out, HE.out _ hbF⟩
      · have HE2 := Lib.hid (HN.out (HD.out.trans (decide_eq_false hle)))
        go_wp2
        go_roundg (R.length - (k + 1))
        case measure => omega
        case rel => exact ⟨k + 1, by omega, rfl, by go_num, HE2, hbF, hsF⟩
    · obtain rfl : k = R.length := by omega
      have HX := Lib.hid (gradeF_none (any_of_take _ (Nat.le_refl _) HA.out))
      go_wp2
      go_ret2
      exact ⟨Grade_e_of HX.out, HE.out _ hb⟩
end Go.Proofs.Ytncggcbpbejmcaa
