/- Contracts of itemText and ItemText (chapter 27). No statement of the seat is proved here. -/
import Derived.Test.YtfiapefkomolmaaItems
import Derived.Test.YtfiapefkomolmaaDec
import Derived.Test.YtfiapefkomolmaaOwn
namespace Go.Proofs.Ytfiapefkomolmaa
open Go.RowKit
attribute [local go_sem ↓] Go.wp_at_zero Go.wp_at_succ

def endI (b : Bool) : ByteArray := if b then ⟨#[119]⟩ else ⟨#[112]⟩
/-- the text of an item -/
def txtI (x : Item) : ByteArray := dec x.pieces.toNat ++ ⟨#[120]⟩ ++ x.name ++ ⟨#[64]⟩ ++ dec x.cents.toNat ++ endI x.work
theorem isWord_size {s : ByteArray} (h : isWord s = true) : 1 ≤ s.size ∧ s.size ≤ 16 := by
  unfold isWord at h
  rw [Bool.and_eq_true] at h
  have := inR_iff.1 h.1
  omega
theorem isItem_bd {x : Item} (h : isItemB x = true) : (1 ≤ x.name.size ∧ x.name.size ≤ 16) ∧ (1 ≤ x.pieces ∧ x.pieces ≤ 1000) ∧ 0 ≤ x.cents ∧ x.cents ≤ 1000000 := by
  unfold isItemB at h
  simp only [Bool.and_eq_true, inR_iff] at h
  exact ⟨isWord_size h.1.1, h.1.2, h.2⟩
theorem dec_size10 {n : Nat} (h : n ≤ 1000000) : (dec n).size ≤ 1000001 := Nat.le_trans (dec_size n) (by omega)
set_option maxHeartbeats 4000000 in
set_option maxRecDepth 20000 in
theorem itemText_any (x : Item) (w : World) (h : isItemB x = true) :
    Calls Try.prog 62 #[.agg #[.string x.name, .int .i64 x.pieces, .int .i64 x.cents, .bool x.work]] w fun e w' => e = .returned (.string (txtI x)) ∧ Below w.heap.size w w' := by
  obtain ⟨⟨n0, n1⟩, ⟨p0, p1⟩, q0, q1⟩ := isItem_bd h
  obtain ⟨nm, pc, ct, wk⟩ := x
  simp only at *
  obtain ⟨p, rfl⟩ := Int.eq_ofNat_of_zero_le (show 0 ≤ pc by omega)
  obtain ⟨q, rfl⟩ := Int.eq_ofNat_of_zero_le q0
  have HT : Hid (txtI ⟨nm, p, q, wk⟩ = dec p ++ ⟨#[120]⟩ ++ nm ++ ⟨#[64]⟩ ++ dec q ++ endI wk) := Lib.hid (by unfold txtI; rw [Int.toNat_natCast, Int.toNat_natCast])
  have hdp := dec_size10 (n := p) (by omega)
  have hdq := dec_size10 (n := q) (by omega)
  clear h n0
  have g1 : ¬ (9223372036854775807 < (dec p).size + 1) := by omega
  have g2 : ¬ (9223372036854775807 < (dec p).size + 1 + nm.size) := by omega
  have g3 : ¬ (9223372036854775807 < (dec p).size + 1 + nm.size + 1) := by omega
  have g4 : ¬ (9223372036854775807 < (dec p).size + 1 + nm.size + 1 + (dec q).size) := by omega
  have g5 : ¬ (9223372036854775807 < (dec p).size + 1 + nm.size + 1 + (dec q).size + 1) := by omega
  rcases wk
  · have hcells : ∀ j, (w.alloc (.cells #[.string nm, .int .i64 p, .int .i64 q, .bool false] 40)).cell? ⟨w.heap.size, j, none⟩ = #[Value.string nm, .int .i64 p, .int .i64 q, .bool false][j]? := fun j => box_new _ _ _ j
    have hB : Below w.heap.size w (w.alloc (.cells #[.string nm, .int .i64 p, .int .i64 q, .bool false] 40)) := (Below.refl _ _).alloc (Nat.le_refl _) _
    have l0 : w.heap.size < (w.alloc (.cells #[.string nm, .int .i64 p, .int .i64 q, .bool false] 40)).heap.size := by simp
    have c0 : (w.alloc (.cells #[.string nm, .int .i64 p, .int .i64 q, .bool false] 40)).cell? ⟨w.heap.size, 0, none⟩ = some (.string nm) := (hcells 0).trans rfl
    have c1 : (w.alloc (.cells #[.string nm, .int .i64 p, .int .i64 q, .bool false] 40)).cell? ⟨w.heap.size, 1, none⟩ = some (.int .i64 p) := (hcells 1).trans rfl
    have c2 : (w.alloc (.cells #[.string nm, .int .i64 p, .int .i64 q, .bool false] 40)).cell? ⟨w.heap.size, 2, none⟩ = some (.int .i64 q) := (hcells 2).trans rfl
    have c3 : (w.alloc (.cells #[.string nm, .int .i64 p, .int .i64 q, .bool false] 40)).cell? ⟨w.heap.size, 3, none⟩ = some (.bool false) := (hcells 3).trans rfl
    clear hcells
    go_enter Try.func62, Try.ntmps62
    go_wp2
    generalize w.alloc (.cells #[.string nm, .int .i64 p, .int .i64 q, .bool false] 40) = W0 at *
    go_region_held3 (fun w' => w'.cell? ⟨w.heap.size, 0, none⟩ = some (.string nm) ∧ w'.cell? ⟨w.heap.size, 1, none⟩ = some (.int .i64 (p : Int)) ∧ w'.cell? ⟨w.heap.size, 2, none⟩ = some (.int .i64 (q : Int))) (first | exact ⟨c0, c1, c2⟩ | exact ⟨(hbp.cell (p := ⟨w.heap.size, 0, none⟩) l0).trans c0, (hbp.cell (p := ⟨w.heap.size, 1, none⟩) l0).trans c1, (hbp.cell (p := ⟨w.heap.size, 2, none⟩) l0).trans c2⟩ | exact ⟨(hbq.cell (p := ⟨w.heap.size, 0, none⟩) l0).trans c0, (hbq.cell (p := ⟨w.heap.size, 1, none⟩) l0).trans c1, (hbq.cell (p := ⟨w.heap.size, 2, none⟩) l0).trans c2⟩ | exact ⟨(hbq.cell (p := ⟨w.heap.size, 0, none⟩) (Nat.lt_of_lt_of_le l0 hbp.size)).trans ((hbp.cell (p := ⟨w.heap.size, 0, none⟩) l0).trans c0), (hbq.cell (p := ⟨w.heap.size, 1, none⟩) (Nat.lt_of_lt_of_le l0 hbp.size)).trans ((hbp.cell (p := ⟨w.heap.size, 1, none⟩) l0).trans c1), (hbq.cell (p := ⟨w.heap.size, 2, none⟩) (Nat.lt_of_lt_of_le l0 hbp.size)).trans ((hbp.cell (p := ⟨w.heap.size, 2, none⟩) l0).trans c2)⟩ | exact ⟨(hbp.cell (p := ⟨w.heap.size, 0, none⟩) (Nat.lt_of_lt_of_le l0 hbq.size)).trans ((hbq.cell (p := ⟨w.heap.size, 0, none⟩) l0).trans c0), (hbp.cell (p := ⟨w.heap.size, 1, none⟩) (Nat.lt_of_lt_of_le l0 hbq.size)).trans ((hbq.cell (p := ⟨w.heap.size, 1, none⟩) l0).trans c1), (hbp.cell (p := ⟨w.heap.size, 2, none⟩) (Nat.lt_of_lt_of_le l0 hbq.size)).trans ((hbq.cell (p := ⟨w.heap.size, 2, none⟩) l0).trans c2)⟩) (first | (go_at_call_of 83 p; refine (decimal_any p _ (by omega)).mono ?_; rintro e wp ⟨rfl, hbp⟩) | (go_at_call_of 83 q; refine (decimal_any q _ (by omega)).mono ?_; rintro e wq ⟨rfl, hbq⟩))
    all_goals
      have c3p : wp.cell? ⟨w.heap.size, 3, none⟩ = some (.bool false) := by first | exact (hbp.cell (p := ⟨w.heap.size, 3, none⟩) l0).trans c3 | exact (hbp.cell (p := ⟨w.heap.size, 3, none⟩) (Nat.lt_of_lt_of_le l0 hbq.size)).trans ((hbq.cell (p := ⟨w.heap.size, 3, none⟩) l0).trans c3)
      have c3q : wq.cell? ⟨w.heap.size, 3, none⟩ = some (.bool false) := by first | exact (hbq.cell (p := ⟨w.heap.size, 3, none⟩) l0).trans c3 | exact (hbq.cell (p := ⟨w.heap.size, 3, none⟩) (Nat.lt_of_lt_of_le l0 hbp.size)).trans ((hbp.cell (p := ⟨w.heap.size, 3, none⟩) l0).trans c3)
      go_wp2
      go_ret
      refine ⟨by rw [HT.out]; rfl, ?_⟩
      first
        | exact below_step2 (below_step2 hB.drew hbp (Nat.le_of_lt l0)) hbq (Nat.le_trans (Nat.le_of_lt l0) hbp.size)
        | exact below_step2 (below_step2 hB.drew hbq (Nat.le_of_lt l0)) hbp (Nat.le_trans (Nat.le_of_lt l0) hbq.size)
  · have hcells : ∀ j, (w.alloc (.cells #[.string nm, .int .i64 p, .int .i64 q, .bool true] 40)).cell? ⟨w.heap.size, j, none⟩ = #[Value.string nm, .int .i64 p, .int .i64 q, .bool true][j]? := fun j => box_new _ _ _ j
    have hB : Below w.heap.size w (w.alloc (.cells #[.string nm, .int .i64 p, .int .i64 q, .bool true] 40)) := (Below.refl _ _).alloc (Nat.le_refl _) _
    have l0 : w.heap.size < (w.alloc (.cells #[.string nm, .int .i64 p, .int .i64 q, .bool true] 40)).heap.size := by simp
    have c0 : (w.alloc (.cells #[.string nm, .int .i64 p, .int .i64 q, .bool true] 40)).cell? ⟨w.heap.size, 0, none⟩ = some (.string nm) := (hcells 0).trans rfl
    have c1 : (w.alloc (.cells #[.string nm, .int .i64 p, .int .i64 q, .bool true] 40)).cell? ⟨w.heap.size, 1, none⟩ = some (.int .i64 p) := (hcells 1).trans rfl
    have c2 : (w.alloc (.cells #[.string nm, .int .i64 p, .int .i64 q, .bool true] 40)).cell? ⟨w.heap.size, 2, none⟩ = some (.int .i64 q) := (hcells 2).trans rfl
    have c3 : (w.alloc (.cells #[.string nm, .int .i64 p, .int .i64 q, .bool true] 40)).cell? ⟨w.heap.size, 3, none⟩ = some (.bool true) := (hcells 3).trans rfl
    clear hcells
    go_enter Try.func62, Try.ntmps62
    go_wp2
    generalize w.alloc (.cells #[.string nm, .int .i64 p, .int .i64 q, .bool true] 40) = W0 at *
    go_region_held3 (fun w' => w'.cell? ⟨w.heap.size, 0, none⟩ = some (.string nm) ∧ w'.cell? ⟨w.heap.size, 1, none⟩ = some (.int .i64 (p : Int)) ∧ w'.cell? ⟨w.heap.size, 2, none⟩ = some (.int .i64 (q : Int))) (first | exact ⟨c0, c1, c2⟩ | exact ⟨(hbp.cell (p := ⟨w.heap.size, 0, none⟩) l0).trans c0, (hbp.cell (p := ⟨w.heap.size, 1, none⟩) l0).trans c1, (hbp.cell (p := ⟨w.heap.size, 2, none⟩) l0).trans c2⟩ | exact ⟨(hbq.cell (p := ⟨w.heap.size, 0, none⟩) l0).trans c0, (hbq.cell (p := ⟨w.heap.size, 1, none⟩) l0).trans c1, (hbq.cell (p := ⟨w.heap.size, 2, none⟩) l0).trans c2⟩ | exact ⟨(hbq.cell (p := ⟨w.heap.size, 0, none⟩) (Nat.lt_of_lt_of_le l0 hbp.size)).trans ((hbp.cell (p := ⟨w.heap.size, 0, none⟩) l0).trans c0), (hbq.cell (p := ⟨w.heap.size, 1, none⟩) (Nat.lt_of_lt_of_le l0 hbp.size)).trans ((hbp.cell (p := ⟨w.heap.size, 1, none⟩) l0).trans c1), (hbq.cell (p := ⟨w.heap.size, 2, none⟩) (Nat.lt_of_lt_of_le l0 hbp.size)).trans ((hbp.cell (p := ⟨w.heap.size, 2, none⟩) l0).trans c2)⟩ | exact ⟨(hbp.cell (p := ⟨w.heap.size, 0, none⟩) (Nat.lt_of_lt_of_le l0 hbq.size)).trans ((hbq.cell (p := ⟨w.heap.size, 0, none⟩) l0).trans c0), (hbp.cell (p := ⟨w.heap.size, 1, none⟩) (Nat.lt_of_lt_of_le l0 hbq.size)).trans ((hbq.cell (p := ⟨w.heap.size, 1, none⟩) l0).trans c1), (hbp.cell (p := ⟨w.heap.size, 2, none⟩) (Nat.lt_of_lt_of_le l0 hbq.size)).trans ((hbq.cell (p := ⟨w.heap.size, 2, none⟩) l0).trans c2)⟩) (first | (go_at_call_of 83 p; refine (decimal_any p _ (by omega)).mono ?_; rintro e wp ⟨rfl, hbp⟩) | (go_at_call_of 83 q; refine (decimal_any q _ (by omega)).mono ?_; rintro e wq ⟨rfl, hbq⟩))
    all_goals
      have c3p : wp.cell? ⟨w.heap.size, 3, none⟩ = some (.bool true) := by first | exact (hbp.cell (p := ⟨w.heap.size, 3, none⟩) l0).trans c3 | exact (hbp.cell (p := ⟨w.heap.size, 3, none⟩) (Nat.lt_of_lt_of_le l0 hbq.size)).trans ((hbq.cell (p := ⟨w.heap.size, 3, none⟩) l0).trans c3)
      have c3q : wq.cell? ⟨w.heap.size, 3, none⟩ = some (.bool true) := by first | exact (hbq.cell (p := ⟨w.heap.size, 3, none⟩) l0).trans c3 | exact (hbq.cell (p := ⟨w.heap.size, 3, none⟩) (Nat.lt_of_lt_of_le l0 hbp.size)).trans ((hbp.cell (p := ⟨w.heap.size, 3, none⟩) l0).trans c3)
      go_wp2
      go_ret
      refine ⟨by rw [HT.out]; rfl, ?_⟩
      first
        | exact below_step2 (below_step2 hB.drew hbp (Nat.le_of_lt l0)) hbq (Nat.le_trans (Nat.le_of_lt l0) hbp.size)
        | exact below_step2 (below_step2 hB.drew hbq (Nat.le_of_lt l0)) hbp (Nat.le_trans (Nat.le_of_lt l0) hbq.size)
set_option maxHeartbeats 4000000 in
set_option maxRecDepth 20000 in
theorem l27Text_any (x : Item) (w : World) (h : isItemB x = true) :
    Calls Try.prog 60 #[.agg #[.string x.name, .int .i64 x.pieces, .int .i64 x.cents, .bool x.work]] w fun e w' => e = .returned (.string (txtI x)) ∧ Below w.heap.size w w' := by
  obtain ⟨⟨n0, n1⟩, ⟨p0, p1⟩, q0, q1⟩ := isItem_bd h
  obtain ⟨nm, pc, ct, wk⟩ := x
  simp only at *
  obtain ⟨p, rfl⟩ := Int.eq_ofNat_of_zero_le (show 0 ≤ pc by omega)
  obtain ⟨q, rfl⟩ := Int.eq_ofNat_of_zero_le q0
  have HT : Hid (txtI ⟨nm, p, q, wk⟩ = dec p ++ ⟨#[120]⟩ ++ nm ++ ⟨#[64]⟩ ++ dec q ++ endI wk) := Lib.hid (by unfold txtI; rw [Int.toNat_natCast, Int.toNat_natCast])
  have hdp := dec_size10 (n := p) (by omega)
  have hdq := dec_size10 (n := q) (by omega)
  clear h n0
  have g1 : ¬ (9223372036854775807 < (dec p).size + 1) := by omega
  have g2 : ¬ (9223372036854775807 < (dec p).size + 1 + nm.size) := by omega
  have g3 : ¬ (9223372036854775807 < (dec p).size + 1 + nm.size + 1) := by omega
  have g4 : ¬ (9223372036854775807 < (dec p).size + 1 + nm.size + 1 + (dec q).size) := by omega
  have g5 : ¬ (9223372036854775807 < (dec p).size + 1 + nm.size + 1 + (dec q).size + 1) := by omega
  rcases wk
  · have hcells : ∀ j, (w.alloc (.cells #[.string nm, .int .i64 p, .int .i64 q, .bool false] 40)).cell? ⟨w.heap.size, j, none⟩ = #[Value.string nm, .int .i64 p, .int .i64 q, .bool false][j]? := fun j => box_new _ _ _ j
    have hB : Below w.heap.size w (w.alloc (.cells #[.string nm, .int .i64 p, .int .i64 q, .bool false] 40)) := (Below.refl _ _).alloc (Nat.le_refl _) _
    have l0 : w.heap.size < (w.alloc (.cells #[.string nm, .int .i64 p, .int .i64 q, .bool false] 40)).heap.size := by simp
    have c0 : (w.alloc (.cells #[.string nm, .int .i64 p, .int .i64 q, .bool false] 40)).cell? ⟨w.heap.size, 0, none⟩ = some (.string nm) := (hcells 0).trans rfl
    have c1 : (w.alloc (.cells #[.string nm, .int .i64 p, .int .i64 q, .bool false] 40)).cell? ⟨w.heap.size, 1, none⟩ = some (.int .i64 p) := (hcells 1).trans rfl
    have c2 : (w.alloc (.cells #[.string nm, .int .i64 p, .int .i64 q, .bool false] 40)).cell? ⟨w.heap.size, 2, none⟩ = some (.int .i64 q) := (hcells 2).trans rfl
    have c3 : (w.alloc (.cells #[.string nm, .int .i64 p, .int .i64 q, .bool false] 40)).cell? ⟨w.heap.size, 3, none⟩ = some (.bool false) := (hcells 3).trans rfl
    clear hcells
    go_enter Try.func60, Try.ntmps60
    go_wp2
    generalize w.alloc (.cells #[.string nm, .int .i64 p, .int .i64 q, .bool false] 40) = W0 at *
    go_region_held3 (fun w' => w'.cell? ⟨w.heap.size, 0, none⟩ = some (.string nm) ∧ w'.cell? ⟨w.heap.size, 1, none⟩ = some (.int .i64 (p : Int)) ∧ w'.cell? ⟨w.heap.size, 2, none⟩ = some (.int .i64 (q : Int))) (first | exact ⟨c0, c1, c2⟩ | exact ⟨(hbp.cell (p := ⟨w.heap.size, 0, none⟩) l0).trans c0, (hbp.cell (p := ⟨w.heap.size, 1, none⟩) l0).trans c1, (hbp.cell (p := ⟨w.heap.size, 2, none⟩) l0).trans c2⟩ | exact ⟨(hbq.cell (p := ⟨w.heap.size, 0, none⟩) l0).trans c0, (hbq.cell (p := ⟨w.heap.size, 1, none⟩) l0).trans c1, (hbq.cell (p := ⟨w.heap.size, 2, none⟩) l0).trans c2⟩ | exact ⟨(hbq.cell (p := ⟨w.heap.size, 0, none⟩) (Nat.lt_of_lt_of_le l0 hbp.size)).trans ((hbp.cell (p := ⟨w.heap.size, 0, none⟩) l0).trans c0), (hbq.cell (p := ⟨w.heap.size, 1, none⟩) (Nat.lt_of_lt_of_le l0 hbp.size)).trans ((hbp.cell (p := ⟨w.heap.size, 1, none⟩) l0).trans c1), (hbq.cell (p := ⟨w.heap.size, 2, none⟩) (Nat.lt_of_lt_of_le l0 hbp.size)).trans ((hbp.cell (p := ⟨w.heap.size, 2, none⟩) l0).trans c2)⟩ | exact ⟨(hbp.cell (p := ⟨w.heap.size, 0, none⟩) (Nat.lt_of_lt_of_le l0 hbq.size)).trans ((hbq.cell (p := ⟨w.heap.size, 0, none⟩) l0).trans c0), (hbp.cell (p := ⟨w.heap.size, 1, none⟩) (Nat.lt_of_lt_of_le l0 hbq.size)).trans ((hbq.cell (p := ⟨w.heap.size, 1, none⟩) l0).trans c1), (hbp.cell (p := ⟨w.heap.size, 2, none⟩) (Nat.lt_of_lt_of_le l0 hbq.size)).trans ((hbq.cell (p := ⟨w.heap.size, 2, none⟩) l0).trans c2)⟩) (first | (go_at_call_of 81 p; refine (l01Dec_any p _ (by omega)).mono ?_; rintro e wp ⟨rfl, hbp⟩) | (go_at_call_of 81 q; refine (l01Dec_any q _ (by omega)).mono ?_; rintro e wq ⟨rfl, hbq⟩))
    all_goals
      go_wp2
      go_ret
      refine ⟨by rw [HT.out]; rfl, ?_⟩
      first
        | exact below_step2 (below_step2 hB.drew hbp (Nat.le_of_lt l0)) hbq (Nat.le_trans (Nat.le_of_lt l0) hbp.size)
        | exact below_step2 (below_step2 hB.drew hbq (Nat.le_of_lt l0)) hbp (Nat.le_trans (Nat.le_of_lt l0) hbq.size)
  · have hcells : ∀ j, (w.alloc (.cells #[.string nm, .int .i64 p, .int .i64 q, .bool true] 40)).cell? ⟨w.heap.size, j, none⟩ = #[Value.string nm, .int .i64 p, .int .i64 q, .bool true][j]? := fun j => box_new _ _ _ j
    have hB : Below w.heap.size w (w.alloc (.cells #[.string nm, .int .i64 p, .int .i64 q, .bool true] 40)) := (Below.refl _ _).alloc (Nat.le_refl _) _
    have l0 : w.heap.size < (w.alloc (.cells #[.string nm, .int .i64 p, .int .i64 q, .bool true] 40)).heap.size := by simp
    have c0 : (w.alloc (.cells #[.string nm, .int .i64 p, .int .i64 q, .bool true] 40)).cell? ⟨w.heap.size, 0, none⟩ = some (.string nm) := (hcells 0).trans rfl
    have c1 : (w.alloc (.cells #[.string nm, .int .i64 p, .int .i64 q, .bool true] 40)).cell? ⟨w.heap.size, 1, none⟩ = some (.int .i64 p) := (hcells 1).trans rfl
    have c2 : (w.alloc (.cells #[.string nm, .int .i64 p, .int .i64 q, .bool true] 40)).cell? ⟨w.heap.size, 2, none⟩ = some (.int .i64 q) := (hcells 2).trans rfl
    have c3 : (w.alloc (.cells #[.string nm, .int .i64 p, .int .i64 q, .bool true] 40)).cell? ⟨w.heap.size, 3, none⟩ = some (.bool true) := (hcells 3).trans rfl
    clear hcells
    go_enter Try.func60, Try.ntmps60
    go_wp2
    generalize w.alloc (.cells #[.string nm, .int .i64 p, .int .i64 q, .bool true] 40) = W0 at *
    go_region_held3 (fun w' => w'.cell? ⟨w.heap.size, 0, none⟩ = some (.string nm) ∧ w'.cell? ⟨w.heap.size, 1, none⟩ = some (.int .i64 (p : Int)) ∧ w'.cell? ⟨w.heap.size, 2, none⟩ = some (.int .i64 (q : Int))) (first | exact ⟨c0, c1, c2⟩ | exact ⟨(hbp.cell (p := ⟨w.heap.size, 0, none⟩) l0).trans c0, (hbp.cell (p := ⟨w.heap.size, 1, none⟩) l0).trans c1, (hbp.cell (p := ⟨w.heap.size, 2, none⟩) l0).trans c2⟩ | exact ⟨(hbq.cell (p := ⟨w.heap.size, 0, none⟩) l0).trans c0, (hbq.cell (p := ⟨w.heap.size, 1, none⟩) l0).trans c1, (hbq.cell (p := ⟨w.heap.size, 2, none⟩) l0).trans c2⟩ | exact ⟨(hbq.cell (p := ⟨w.heap.size, 0, none⟩) (Nat.lt_of_lt_of_le l0 hbp.size)).trans ((hbp.cell (p := ⟨w.heap.size, 0, none⟩) l0).trans c0), (hbq.cell (p := ⟨w.heap.size, 1, none⟩) (Nat.lt_of_lt_of_le l0 hbp.size)).trans ((hbp.cell (p := ⟨w.heap.size, 1, none⟩) l0).trans c1), (hbq.cell (p := ⟨w.heap.size, 2, none⟩) (Nat.lt_of_lt_of_le l0 hbp.size)).trans ((hbp.cell (p := ⟨w.heap.size, 2, none⟩) l0).trans c2)⟩ | exact ⟨(hbp.cell (p := ⟨w.heap.size, 0, none⟩) (Nat.lt_of_lt_of_le l0 hbq.size)).trans ((hbq.cell (p := ⟨w.heap.size, 0, none⟩) l0).trans c0), (hbp.cell (p := ⟨w.heap.size, 1, none⟩) (Nat.lt_of_lt_of_le l0 hbq.size)).trans ((hbq.cell (p := ⟨w.heap.size, 1, none⟩) l0).trans c1), (hbp.cell (p := ⟨w.heap.size, 2, none⟩) (Nat.lt_of_lt_of_le l0 hbq.size)).trans ((hbq.cell (p := ⟨w.heap.size, 2, none⟩) l0).trans c2)⟩) (first | (go_at_call_of 81 p; refine (l01Dec_any p _ (by omega)).mono ?_; rintro e wp ⟨rfl, hbp⟩) | (go_at_call_of 81 q; refine (l01Dec_any q _ (by omega)).mono ?_; rintro e wq ⟨rfl, hbq⟩))
    all_goals
      go_wp2
      go_ret
      refine ⟨by rw [HT.out]; rfl, ?_⟩
      first
        | exact below_step2 (below_step2 hB.drew hbp (Nat.le_of_lt l0)) hbq (Nat.le_trans (Nat.le_of_lt l0) hbp.size)
        | exact below_step2 (below_step2 hB.drew hbq (Nat.le_of_lt l0)) hbp (Nat.le_trans (Nat.le_of_lt l0) hbq.size)
def ItemText_r (x : Item) : ByteArray × Int := if isItemB x then (txtI x, 0) else (⟨#[]⟩, 1)
theorem ItemText_bad {x : Item} (h : isItemB x = false) : ItemText_r x = (⟨#[]⟩, 1) := by unfold ItemText_r; rw [h]; rfl
theorem ItemText_ok {x : Item} (h : isItemB x = true) : ItemText_r x = (txtI x, 0) := by unfold ItemText_r; rw [h]; rfl
set_option maxHeartbeats 2000000 in
theorem iItemText_law (x : Item) (w : World) (hx : okItem x) :
    Calls Try.prog 28 #[.agg #[.string x.name, .int .i64 x.pieces, .int .i64 x.cents, .bool x.work]] w fun e w' => e = .returned (.tuple #[.string (ItemText_r x).1, .int .i64 (ItemText_r x).2]) ∧ Below w.heap.size w w' := by
  rcases hA : isItemB x
  · have HR := Lib.hid (ItemText_bad hA)
    have HA := Lib.hid hA
    clear hA
    rw [HR.out]
    go_enter Try.func28, Try.ntmps28
    go_wp2_with fail
    refine (iItem_any x _ hx).mono ?_
    rintro e w1 ⟨rfl, hb1⟩
    rw [HA.out]
    obtain ⟨_, _, hbw, hs1⟩ := box1 hb1
    go_wp2
    go_ret2
    exact ⟨rfl, hbw⟩
  · have HR := Lib.hid (ItemText_ok hA)
    have HA := Lib.hid hA
    clear hA
    rw [HR.out]
    go_enter Try.func28, Try.ntmps28
    go_wp2_with fail
    refine (iItem_any x _ hx).mono ?_
    rintro e w1 ⟨rfl, hb1⟩
    rw [HA.out]
    obtain ⟨bc, _, hbw, hs1⟩ := box1 hb1
    have d0 : w1.cell? ⟨w.heap.size, 0, none⟩ = some (.string x.name) := (bc 0).trans rfl
    have d1 : w1.cell? ⟨w.heap.size, 1, none⟩ = some (.int .i64 x.pieces) := (bc 1).trans rfl
    have d2 : w1.cell? ⟨w.heap.size, 2, none⟩ = some (.int .i64 x.cents) := (bc 2).trans rfl
    have d3 : w1.cell? ⟨w.heap.size, 3, none⟩ = some (.bool x.work) := (bc 3).trans rfl
    clear bc hb1
    go_wp2_with fail
    refine (itemText_any x w1 HA.out).mono ?_
    rintro e w2 ⟨rfl, hb2⟩
    go_wp2
    go_ret2
    exact ⟨rfl, below_step2 hbw hb2 (by omega)⟩
set_option maxHeartbeats 2000000 in
theorem sItemText_law (x : Item) (w : World) (hx : okItem x) :
    Calls Try.prog 26 #[.agg #[.string x.name, .int .i64 x.pieces, .int .i64 x.cents, .bool x.work]] w fun e w' => e = .returned (.tuple #[.string (ItemText_r x).1, .int .i64 (ItemText_r x).2]) ∧ Below w.heap.size w w' := by
  rcases hA : isItemB x
  · have HR := Lib.hid (ItemText_bad hA)
    have HA := Lib.hid hA
    clear hA
    rw [HR.out]
    go_enter Try.func26, Try.ntmps26
    go_wp2_with fail
    refine (sItem_any x _ hx).mono ?_
    rintro e w1 ⟨rfl, hb1⟩
    rw [HA.out]
    obtain ⟨_, _, hbw, hs1⟩ := box1 hb1
    go_wp2
    go_ret2
    exact ⟨rfl, hbw⟩
  · have HR := Lib.hid (ItemText_ok hA)
    have HA := Lib.hid hA
    clear hA
    rw [HR.out]
    go_enter Try.func26, Try.ntmps26
    go_wp2_with fail
    refine (sItem_any x _ hx).mono ?_
    rintro e w1 ⟨rfl, hb1⟩
    rw [HA.out]
    obtain ⟨bc, _, hbw, hs1⟩ := box1 hb1
    have d0 : w1.cell? ⟨w.heap.size, 0, none⟩ = some (.string x.name) := (bc 0).trans rfl
    have d1 : w1.cell? ⟨w.heap.size, 1, none⟩ = some (.int .i64 x.pieces) := (bc 1).trans rfl
    have d2 : w1.cell? ⟨w.heap.size, 2, none⟩ = some (.int .i64 x.cents) := (bc 2).trans rfl
    have d3 : w1.cell? ⟨w.heap.size, 3, none⟩ = some (.bool x.work) := (bc 3).trans rfl
    clear bc hb1
    go_wp2_with fail
    refine (l27Text_any x w1 HA.out).mono ?_
    rintro e w2 ⟨rfl, hb2⟩
    go_wp2
    go_ret2
    exact ⟨rfl, below_step2 hbw hb2 (by omega)⟩
end Go.Proofs.Ytfiapefkomolmaa
