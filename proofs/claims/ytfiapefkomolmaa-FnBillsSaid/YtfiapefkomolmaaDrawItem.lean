/- What the reference's draws of an item and of an item's text hand out (chapter 27). No statement of the seat is proved here. -/
import Derived.Test.YtfiapefkomolmaaGoodItem
import Derived.Test.YtfiapefkomolmaaDamage
import Derived.Test.YtfiapefkomolmaaReadP
namespace Go.Proofs.Ytfiapefkomolmaa
open Go.RowKit

theorem Bytes.below {w w' : World} {A : Option Addr} {n : Nat} (h : Bytes w A n w.heap.size) (hb : Below w.heap.size w w') : Bytes w' A n w'.heap.size := fun hn => by
  obtain ⟨b, off, e, hbp, hx⟩ := h hn
  refine ⟨b, off, e, Nat.lt_of_lt_of_le hbp hb.size, fun j hj => ?_⟩
  obtain ⟨x, hx1, hx2⟩ := hx j hj
  exact ⟨x, hx1, (hb.cell (p := ⟨b, off + j, none⟩) hbp).trans hx2⟩
theorem item_cells {W : World} {B : Nat} {v0 v1 v2 v3 o0 o1 o2 o3 : Value} (e0 : W.cell? ⟨B, 0, none⟩ = some o0) (e1 : W.cell? ⟨B, 1, none⟩ = some o1) (e2 : W.cell? ⟨B, 2, none⟩ = some o2) (e3 : W.cell? ⟨B, 3, none⟩ = some o3) :
    ((((W.setCell ⟨B, 0, none⟩ v0).setCell ⟨B, 1, none⟩ v1).setCell ⟨B, 2, none⟩ v2).setCell ⟨B, 3, none⟩ v3).cell? ⟨B, 0, none⟩ = some v0 ∧ ((((W.setCell ⟨B, 0, none⟩ v0).setCell ⟨B, 1, none⟩ v1).setCell ⟨B, 2, none⟩ v2).setCell ⟨B, 3, none⟩ v3).cell? ⟨B, 1, none⟩ = some v1 ∧ ((((W.setCell ⟨B, 0, none⟩ v0).setCell ⟨B, 1, none⟩ v1).setCell ⟨B, 2, none⟩ v2).setCell ⟨B, 3, none⟩ v3).cell? ⟨B, 2, none⟩ = some v2 ∧ ((((W.setCell ⟨B, 0, none⟩ v0).setCell ⟨B, 1, none⟩ v1).setCell ⟨B, 2, none⟩ v2).setCell ⟨B, 3, none⟩ v3).cell? ⟨B, 3, none⟩ = some v3 := by
  have a0 := World.cell?_setCell_same W _ v0 e0
  have a1 := (World.cell?_setCell_other W ⟨B, 0, none⟩ ⟨B, 1, none⟩ v0 (by simp)).trans e1
  have a2 := (World.cell?_setCell_other W ⟨B, 0, none⟩ ⟨B, 2, none⟩ v0 (by simp)).trans e2
  have a3 := (World.cell?_setCell_other W ⟨B, 0, none⟩ ⟨B, 3, none⟩ v0 (by simp)).trans e3
  generalize W.setCell ⟨B, 0, none⟩ v0 = W1 at *
  have b1 := World.cell?_setCell_same W1 _ v1 a1
  have b0 := (World.cell?_setCell_other W1 ⟨B, 1, none⟩ ⟨B, 0, none⟩ v1 (by simp)).trans a0
  have b2 := (World.cell?_setCell_other W1 ⟨B, 1, none⟩ ⟨B, 2, none⟩ v1 (by simp)).trans a2
  have b3 := (World.cell?_setCell_other W1 ⟨B, 1, none⟩ ⟨B, 3, none⟩ v1 (by simp)).trans a3
  generalize W1.setCell ⟨B, 1, none⟩ v1 = W2 at *
  have c2 := World.cell?_setCell_same W2 _ v2 b2
  have c0 := (World.cell?_setCell_other W2 ⟨B, 2, none⟩ ⟨B, 0, none⟩ v2 (by simp)).trans b0
  have c1 := (World.cell?_setCell_other W2 ⟨B, 2, none⟩ ⟨B, 1, none⟩ v2 (by simp)).trans b1
  have c3 := (World.cell?_setCell_other W2 ⟨B, 2, none⟩ ⟨B, 3, none⟩ v2 (by simp)).trans b3
  generalize W2.setCell ⟨B, 2, none⟩ v2 = W3 at *
  exact ⟨(World.cell?_setCell_other W3 ⟨B, 3, none⟩ ⟨B, 0, none⟩ v3 (by simp)).trans c0, (World.cell?_setCell_other W3 ⟨B, 3, none⟩ ⟨B, 1, none⟩ v3 (by simp)).trans c1, (World.cell?_setCell_other W3 ⟨B, 3, none⟩ ⟨B, 2, none⟩ v3 (by simp)).trans c2, World.cell?_setCell_same W3 _ v3 c3⟩
theorem txtI_size {x : Item} (h : isItemB x = true) : (txtI x).size ≤ 40 := by
  obtain ⟨⟨_, n1⟩, ⟨p0, p1⟩, q0, q1⟩ := isItem_bd h
  have h1 := dec_7 (n := x.pieces.toNat) (by omega)
  have h2 := dec_7 (n := x.cents.toNat) (by omega)
  have he : (endI x.work).size = 1 := by unfold endI; split <;> rfl
  have hX : (⟨#[120]⟩ : ByteArray).size = 1 := rfl
  have hY : (⟨#[64]⟩ : ByteArray).size = 1 := rfl
  unfold txtI
  rw [ByteArray.size_append, ByteArray.size_append, ByteArray.size_append, ByteArray.size_append, ByteArray.size_append, he, hX, hY]
  omega
set_option maxHeartbeats 4000000 in
set_option maxRecDepth 20000 in
theorem DrawReadItem_any (A : Option Addr) (n cap : Nat) (w : World) (hn : n ≤ 4096) (hc : n ≤ cap) (hb : Bytes w A n w.heap.size) :
    Calls Try.prog 51 #[.slice A n cap] w fun e w' => ∃ s : ByteArray, e = .returned (.string s) ∧ s.size ≤ 1000010 ∧ Below w.heap.size w w' := by
  go_enter Try.func51, Try.ntmps51
  go_wp2_with fail
  refine (l01From_any A n cap w hn hc hb).mono ?_
  rintro e w1 ⟨p, rfl, hp, hs1, hb1⟩
  have D1 := Lib.hid (Dr.refl hs1)
  have B1 := Lib.hid hb1
  clear hs1 hb1 hb
  go_wp2_with fail
  refine (l27Good_dr w1 p w1 D1.out).mono ?_
  rintro e w2 ⟨x, rfl, hx, hd, _⟩
  have D2 := Lib.hid hd
  have HTS := txtI_size hx
  clear hd D1
  go_wp2_with fail
  refine (l27Text_any x w2 hx).mono ?_
  rintro e w3 ⟨rfl, hb⟩
  have D3 := Lib.hid (D2.out.below (hb.mono D2.out.size))
  clear hb D2 hx
  generalize txtI x = t at *
  go_wp2_with fail
  refine (next_dr 3 D3.out (by omega)).mono ?_
  rintro e w4 ⟨c, rfl, c0, c1, hd, _⟩
  have D4 := Lib.hid hd
  clear hd D3
  by_cases h0 : c = 0
  · subst h0
    go_wp2_with fail
    refine (l01Damage_dr w1 p w4 t D4.out (by omega)).mono ?_
    rintro e w5 ⟨s, rfl, hs, hd, _⟩
    have D5 := Lib.hid hd
    clear hd D4
    go_wp2
    go_ret
    exact ⟨s, rfl, hs, D5.out.to_below B1.out hp⟩
  · have h0b : (c == 0) = false := beq_eq_false_iff_ne.2 h0
    go_wp2
    go_ret
    exact ⟨t, rfl, by omega, D4.out.to_below B1.out hp⟩
set_option maxHeartbeats 4000000 in
set_option maxRecDepth 20000 in
theorem DrawItemText_any (A : Option Addr) (n cap : Nat) (w : World) (hn : n ≤ 4096) (hc : n ≤ cap) (hb : Bytes w A n w.heap.size) :
    Calls Try.prog 50 #[.slice A n cap] w fun e w' => ∃ x : Item, e = .returned (.agg #[.string x.name, .int .i64 x.pieces, .int .i64 x.cents, .bool x.work]) ∧ okItem x ∧ Below w.heap.size w w' := by
  have hbox : ∀ j, (w.alloc (.cells #[.string ⟨#[]⟩, .int .i64 0, .int .i64 0, .bool false] 40)).cell? ⟨w.heap.size, j, none⟩ = #[Value.string ⟨#[]⟩, .int .i64 0, .int .i64 0, .bool false][j]? := fun j => box_new _ _ _ j
  have z0 := (hbox 0).trans (show _ = some (Value.string ⟨#[]⟩) from rfl)
  have z1 := (hbox 1).trans (show _ = some (Value.int .i64 0) from rfl)
  have z2 := (hbox 2).trans (show _ = some (Value.int .i64 0) from rfl)
  have z3 := (hbox 3).trans (show _ = some (Value.bool false) from rfl)
  have hfr : ∀ j, (w.alloc (.cells #[.string ⟨#[]⟩, .int .i64 0, .int .i64 0, .bool false] 40)).frozen? ⟨w.heap.size, j, none⟩ = false := fun j => frozen_box _ _ _ _ (frozen_out _ _ (Nat.le_refl _))
  have hszA : (w.alloc (.cells #[.string ⟨#[]⟩, .int .i64 0, .int .i64 0, .bool false] 40)).heap.size = w.heap.size + 1 := by simp
  have hBA : Below w.heap.size w (w.alloc (.cells #[.string ⟨#[]⟩, .int .i64 0, .int .i64 0, .bool false] 40)) := (Below.refl _ _).alloc (Nat.le_refl _) _
  have hbA := hb.below hBA
  have HZ0 := Lib.hid z0
  have HZ1 := Lib.hid z1
  have HZ2 := Lib.hid z2
  have HZ3 := Lib.hid z3
  have HFR := Lib.hid hfr
  have HBA := Lib.hid hBA
  clear hbox z0 z1 z2 z3 hfr hBA hb
  go_enter Try.func50, Try.ntmps50
  go_wp2_with fail
  generalize w.alloc (.cells #[.string ⟨#[]⟩, .int .i64 0, .int .i64 0, .bool false] 40) = wA at *
  refine (l01From_any A n cap wA hn hc hbA).mono ?_
  rintro e w1 ⟨p, rfl, hp, hs1, hb1⟩
  have D1 := Lib.hid (Dr.refl hs1)
  have B1 := Lib.hid hb1
  have hz1 := hb1.size
  clear hs1 hb1 hbA
  go_wp2_with fail
  refine (l27Good_dr w1 p w1 D1.out).mono ?_
  rintro e w2 ⟨⟨nm, pc, ct, wk⟩, rfl, hx, hd, _⟩
  have hnm : nm.size ≤ 16 := (isItem_bd hx).1.2
  have D2 := Lib.hid hd
  have hz2 := hd.2.1.size
  have DX : Hid (Dr (w2.alloc (.cells #[.string nm, .int .i64 pc, .int .i64 ct, .bool wk] 40)) p (w2.alloc (.cells #[.string nm, .int .i64 pc, .int .i64 ct, .bool wk] 40))) := Lib.hid (Dr.refl (hd.1.alloc _))
  have D3 : Hid (Dr w1 p (w2.alloc (.cells #[.string nm, .int .i64 pc, .int .i64 ct, .bool wk] 40))) := Lib.hid (hd.alloc _)
  have hxb : ∀ j, (w2.alloc (.cells #[.string nm, .int .i64 pc, .int .i64 ct, .bool wk] 40)).cell? ⟨w2.heap.size, j, none⟩ = #[Value.string nm, .int .i64 pc, .int .i64 ct, .bool wk][j]? := fun j => box_new _ _ _ j
  have HX0 := Lib.hid ((hxb 0).trans (show _ = some (Value.string nm) from rfl))
  have HX1 := Lib.hid ((hxb 1).trans (show _ = some (Value.int .i64 pc) from rfl))
  have HX2 := Lib.hid ((hxb 2).trans (show _ = some (Value.int .i64 ct) from rfl))
  have HX3 := Lib.hid ((hxb 3).trans (show _ = some (Value.bool wk) from rfl))
  have HXF : Hid (∀ j, (w2.alloc (.cells #[.string nm, .int .i64 pc, .int .i64 ct, .bool wk] 40)).frozen? ⟨w2.heap.size, j, none⟩ = false) := Lib.hid (fun j => frozen_box _ _ _ _ (frozen_out _ _ (Nat.le_refl _)))
  have hltX : w2.heap.size < (w2.alloc (.cells #[.string nm, .int .i64 pc, .int .i64 ct, .bool wk] 40)).heap.size := by simp
  clear hd hxb hx D1 D2
  go_wp2_with fail
  generalize w2.alloc (.cells #[.string nm, .int .i64 pc, .int .i64 ct, .bool wk] 40) = w3 at *
  have hpX : p < w2.heap.size := by have := D3.out.lt; omega
  generalize w2.heap.size = X at *
  refine (next_dr 12 DX.out (by omega)).mono ?_
  rintro e w4 ⟨c, rfl, c0, c1, hd, hg⟩
  have E4 := Lib.hid hd
  have D4 : Hid (Dr w1 p w4) := Lib.hid (D3.out.trans (hd.2.1 |> fun g => ⟨hd.1, g, D3.out.1.lt⟩))
  clear hd hg
  have hr0 : w.heap.size < w1.heap.size := by omega
  have hrp : w.heap.size ≠ p := by omega
  have hXp : X ≠ p := by omega
  have hrX : w.heap.size ≠ X := by omega
  have FIN : Hid (∀ W, Dr w1 p W → W.cell? ⟨w.heap.size, 0, none⟩ = some (.string ⟨#[]⟩) ∧ W.cell? ⟨w.heap.size, 1, none⟩ = some (.int .i64 0) ∧ W.cell? ⟨w.heap.size, 2, none⟩ = some (.int .i64 0) ∧ W.cell? ⟨w.heap.size, 3, none⟩ = some (.bool false) ∧ (∀ j, W.frozen? ⟨w.heap.size, j, none⟩ = false) ∧ Below w.heap.size w W) := Lib.hid (fun W h => by
    have hne : some w.heap.size ≠ some p := fun e => hrp (Option.some.inj e)
    have hc : ∀ j v, wA.cell? ⟨w.heap.size, j, none⟩ = some v → W.cell? ⟨w.heap.size, j, none⟩ = some v := fun j v hv => (h.2.1.cell_far ⟨w.heap.size, j, none⟩ hr0 hne).trans ((B1.out.cell (p := ⟨w.heap.size, j, none⟩) (by simp only []; omega)).trans hv)
    exact ⟨hc _ _ HZ0.out, hc _ _ HZ1.out, hc _ _ HZ2.out, hc _ _ HZ3.out, fun j => (h.2.1.frozen_far _ hr0 hne).trans ((B1.out.frozen (by simp only []; omega)).trans (HFR.out j)), (HBA.out.trans (B1.out.mono (by omega))).grown h.2.1 (by omega) (fun k hk => by cases hk; omega)⟩)
  have XC : Hid (∀ W, Dr w3 p W → W.cell? ⟨X, 0, none⟩ = some (.string nm) ∧ W.cell? ⟨X, 1, none⟩ = some (.int .i64 pc) ∧ W.cell? ⟨X, 2, none⟩ = some (.int .i64 ct) ∧ W.cell? ⟨X, 3, none⟩ = some (.bool wk) ∧ W.frozen? ⟨X, 1, none⟩ = false) := Lib.hid (fun W h => by
    have hne : some X ≠ some p := fun e => hXp (Option.some.inj e)
    exact ⟨(h.2.1.cell_far _ hltX hne).trans HX0.out, (h.2.1.cell_far _ hltX hne).trans HX1.out, (h.2.1.cell_far _ hltX hne).trans HX2.out, (h.2.1.cell_far _ hltX hne).trans HX3.out, (h.2.1.frozen_far _ hltX hne).trans (HXF.out 1)⟩)
  have HOUT : Hid (∀ (W : World) (v0 v1 v2 v3 : Value), Dr w1 p W → Below w.heap.size w ((((W.setCell ⟨w.heap.size, 0, none⟩ v0).setCell ⟨w.heap.size, 1, none⟩ v1).setCell ⟨w.heap.size, 2, none⟩ v2).setCell ⟨w.heap.size, 3, none⟩ v3)) := Lib.hid (fun W v0 v1 v2 v3 h => ((((FIN.out W h).2.2.2.2.2.setCell (by simp) v0).setCell (by simp) v1).setCell (by simp) v2).setCell (by simp) v3)
  by_cases h0 : c = 0
  · subst h0
    go_wp2_with fail
    refine (pick_dr [0, 1000, 1001] _ _ rfl rfl (by simp) (by simp) E4.out).mono ?_
    rintro e w5 ⟨x, rfl, hx, hd, hg⟩
    obtain ⟨x0, x1, x2, x3, xf⟩ := XC.out w5 hd
    have D5 : Dr w1 p (w5.setCell ⟨X, 1, none⟩ (.int .i64 x)) := Dr.store (D4.out.step hd.1 hg) (by omega) _
    have s0 := (World.cell?_setCell_other w5 ⟨X, 1, none⟩ ⟨X, 0, none⟩ (.int .i64 x) (by simp)).trans x0
    have s1 := World.cell?_setCell_same w5 _ (.int .i64 x) x1
    have s2 := (World.cell?_setCell_other w5 ⟨X, 1, none⟩ ⟨X, 2, none⟩ (.int .i64 x) (by simp)).trans x2
    have s3 := (World.cell?_setCell_other w5 ⟨X, 1, none⟩ ⟨X, 3, none⟩ (.int .i64 x) (by simp)).trans x3
    have D5o : Dr w1 p w5 := D4.out.step hd.1 hg
    obtain ⟨r0, r1, r2, r3, rf, _⟩ := FIN.out w5 D5o
    have rf0 := rf 0
    have rf1 := rf 1
    have rf2 := rf 2
    have rf3 := rf 3
    obtain ⟨t0, t1, t2, t3, _, _⟩ := FIN.out _ D5
    obtain ⟨y0, y1, y2, y3⟩ := item_cells (v0 := .string nm) (v1 := .int .i64 x) (v2 := .int .i64 ct) (v3 := .bool wk) t0 t1 t2 t3
    have HY := Lib.hid (HOUT.out _ (.string nm) (.int .i64 x) (.int .i64 ct) (.bool wk) D5)
    have HOK : Hid (okItem ⟨nm, x, ct, wk⟩) := Lib.hid (by show nm.size ≤ _; omega)
    clear hd hg hx D4 E4 D5 D5o t0 t1 t2 t3 rf
    go_wp2
    refine bodyPost_ret (v := .agg #[.string (⟨nm, x, ct, wk⟩ : Item).name, .int .i64 (⟨nm, x, ct, wk⟩ : Item).pieces, .int .i64 (⟨nm, x, ct, wk⟩ : Item).cents, .bool (⟨nm, x, ct, wk⟩ : Item).work]) (by simp [results, Try.results50, go_sem, y0, y1, y2, y3]) rfl ⟨⟨nm, x, ct, wk⟩, rfl, HOK.out, HY.out⟩
  · have h0b : (c == 0) = false := beq_eq_false_iff_ne.2 h0
    obtain ⟨x0, x1, x2, x3, _⟩ := XC.out w4 E4.out
    obtain ⟨r0, r1, r2, r3, rf, _⟩ := FIN.out w4 D4.out
    have rf0 := rf 0
    have rf1 := rf 1
    have rf2 := rf 2
    have rf3 := rf 3
    obtain ⟨y0, y1, y2, y3⟩ := item_cells (v0 := .string nm) (v1 := .int .i64 pc) (v2 := .int .i64 ct) (v3 := .bool wk) r0 r1 r2 r3
    have HY := Lib.hid (HOUT.out w4 (.string nm) (.int .i64 pc) (.int .i64 ct) (.bool wk) D4.out)
    have HOK : Hid (okItem ⟨nm, pc, ct, wk⟩) := Lib.hid (by show nm.size ≤ _; omega)
    go_wp2
    refine bodyPost_ret (v := .agg #[.string (⟨nm, pc, ct, wk⟩ : Item).name, .int .i64 (⟨nm, pc, ct, wk⟩ : Item).pieces, .int .i64 (⟨nm, pc, ct, wk⟩ : Item).cents, .bool (⟨nm, pc, ct, wk⟩ : Item).work]) (by simp [results, Try.results50, go_sem, y0, y1, y2, y3]) rfl ⟨⟨nm, pc, ct, wk⟩, rfl, HOK.out, HY.out⟩
end Go.Proofs.Ytfiapefkomolmaa
