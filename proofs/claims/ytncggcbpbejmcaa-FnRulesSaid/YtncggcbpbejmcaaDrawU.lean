/- What the reference's draw of a used part hands out (chapter 25). No statement of the seat is proved here. -/
import Derived.Test.YtncggcbpbejmcaaDrawUsed
import Derived.Test.YtncggcbpbejmcaaFloat
import Derived.Test.YtncggcbpbejmcaaCells
import Derived.Deep.RegionLaw
import Derived.Test.YtncggcbpbejmcaaInv
namespace Go.Proofs.Ytncggcbpbejmcaa
open Go.RowKit

theorem litM_at (x : Nat) (h : x < 8) : ∃ s : ByteArray, s.size ≤ 20 ∧ ∀ h : x < ([.string ⟨#[97, 110, 99, 104, 111, 114]⟩, .string ⟨#[98, 111, 108, 116]⟩, .string ⟨#[99, 114, 97, 110, 107]⟩, .string ⟨#[102, 111, 114, 107]⟩, .string ⟨#[102, 114, 97, 109, 101]⟩, .string ⟨#[104, 101, 97, 100, 115, 101, 116]⟩, .string ⟨#[112, 111, 115, 116]⟩, .string ⟨#[115, 97, 100, 100, 108, 101]⟩] : List Value).length, ([.string ⟨#[97, 110, 99, 104, 111, 114]⟩, .string ⟨#[98, 111, 108, 116]⟩, .string ⟨#[99, 114, 97, 110, 107]⟩, .string ⟨#[102, 111, 114, 107]⟩, .string ⟨#[102, 114, 97, 109, 101]⟩, .string ⟨#[104, 101, 97, 100, 115, 101, 116]⟩, .string ⟨#[112, 111, 115, 116]⟩, .string ⟨#[115, 97, 100, 100, 108, 101]⟩] : List Value)[x]'h = .string s := by
  match x, h with
  | 0, _ => exact ⟨⟨#[97, 110, 99, 104, 111, 114]⟩, by decide, fun _ => rfl⟩
  | 1, _ => exact ⟨⟨#[98, 111, 108, 116]⟩, by decide, fun _ => rfl⟩
  | 2, _ => exact ⟨⟨#[99, 114, 97, 110, 107]⟩, by decide, fun _ => rfl⟩
  | 3, _ => exact ⟨⟨#[102, 111, 114, 107]⟩, by decide, fun _ => rfl⟩
  | 4, _ => exact ⟨⟨#[102, 114, 97, 109, 101]⟩, by decide, fun _ => rfl⟩
  | 5, _ => exact ⟨⟨#[104, 101, 97, 100, 115, 101, 116]⟩, by decide, fun _ => rfl⟩
  | 6, _ => exact ⟨⟨#[112, 111, 115, 116]⟩, by decide, fun _ => rfl⟩
  | 7, _ => exact ⟨⟨#[115, 97, 100, 100, 108, 101]⟩, by decide, fun _ => rfl⟩
theorem used_cells {W : World} {B : Nat} {v0 v1 v2 v3 v4 o0 o1 o2 o3 o4 : Value} (z0 : W.cell? ⟨B, 0, none⟩ = some o0) (z1 : W.cell? ⟨B, 1, none⟩ = some o1) (z2 : W.cell? ⟨B, 2, none⟩ = some o2) (z3 : W.cell? ⟨B, 3, none⟩ = some o3) (z4 : W.cell? ⟨B, 4, none⟩ = some o4) : (((((W.setCell ⟨B, 0, none⟩ v0).setCell ⟨B, 1, none⟩ v1).setCell ⟨B, 2, none⟩ v2).setCell ⟨B, 3, none⟩ v3).setCell ⟨B, 4, none⟩ v4).cell? ⟨B, 0, none⟩ = some v0 ∧ (((((W.setCell ⟨B, 0, none⟩ v0).setCell ⟨B, 1, none⟩ v1).setCell ⟨B, 2, none⟩ v2).setCell ⟨B, 3, none⟩ v3).setCell ⟨B, 4, none⟩ v4).cell? ⟨B, 1, none⟩ = some v1 ∧ (((((W.setCell ⟨B, 0, none⟩ v0).setCell ⟨B, 1, none⟩ v1).setCell ⟨B, 2, none⟩ v2).setCell ⟨B, 3, none⟩ v3).setCell ⟨B, 4, none⟩ v4).cell? ⟨B, 2, none⟩ = some v2 ∧ (((((W.setCell ⟨B, 0, none⟩ v0).setCell ⟨B, 1, none⟩ v1).setCell ⟨B, 2, none⟩ v2).setCell ⟨B, 3, none⟩ v3).setCell ⟨B, 4, none⟩ v4).cell? ⟨B, 3, none⟩ = some v3 ∧ (((((W.setCell ⟨B, 0, none⟩ v0).setCell ⟨B, 1, none⟩ v1).setCell ⟨B, 2, none⟩ v2).setCell ⟨B, 3, none⟩ v3).setCell ⟨B, 4, none⟩ v4).cell? ⟨B, 4, none⟩ = some v4 := by
  have other : ∀ (X : World) (i j : Nat) (v u : Value), i ≠ j → X.cell? ⟨B, i, none⟩ = some u → (X.setCell ⟨B, j, none⟩ v).cell? ⟨B, i, none⟩ = some u := fun X i j v u hij hu => (World.cell?_setCell_other X ⟨B, j, none⟩ ⟨B, i, none⟩ v (by simp; try omega)).trans hu
  have same : ∀ (X : World) (j : Nat) (v u : Value), X.cell? ⟨B, j, none⟩ = some u → (X.setCell ⟨B, j, none⟩ v).cell? ⟨B, j, none⟩ = some v := fun X j v u hu => World.cell?_setCell_same X _ v hu
  exact ⟨(other _ 0 4 v4 v0 (by omega) (other _ 0 3 v3 v0 (by omega) (other _ 0 2 v2 v0 (by omega) (other _ 0 1 v1 v0 (by omega) (same _ 0 v0 o0 z0))))), (other _ 1 4 v4 v1 (by omega) (other _ 1 3 v3 v1 (by omega) (other _ 1 2 v2 v1 (by omega) (same _ 1 v1 o1 (other _ 1 0 v0 o1 (by omega) z1))))), (other _ 2 4 v4 v2 (by omega) (other _ 2 3 v3 v2 (by omega) (same _ 2 v2 o2 (other _ 2 1 v1 o2 (by omega) (other _ 2 0 v0 o2 (by omega) z2))))), (other _ 3 4 v4 v3 (by omega) (same _ 3 v3 o3 (other _ 3 2 v2 o3 (by omega) (other _ 3 1 v1 o3 (by omega) (other _ 3 0 v0 o3 (by omega) z3))))), (same _ 4 v4 o4 (other _ 4 3 v3 o4 (by omega) (other _ 4 2 v2 o4 (by omega) (other _ 4 1 v1 o4 (by omega) (other _ 4 0 v0 o4 (by omega) z4)))))⟩
/-- behind the draw of a used part: it lies in block Y, the result's block B stands -/
structure UFin (w : World) (p B Y : Nat) (v0 v1 v2 v3 v4 : Value) (F : World) : Prop where
  c0 : F.cell? ⟨Y, 0, none⟩ = some v0
  c1 : F.cell? ⟨Y, 1, none⟩ = some v1
  c2 : F.cell? ⟨Y, 2, none⟩ = some v2
  c3 : F.cell? ⟨Y, 3, none⟩ = some v3
  c4 : F.cell? ⟨Y, 4, none⟩ = some v4
  bo : ∀ j, j < 5 → ∃ o, F.cell? ⟨B, j, none⟩ = some o
  bf : ∀ j, F.frozen? ⟨B, j, none⟩ = false
  yf : ∀ j, F.frozen? ⟨Y, j, none⟩ = false
  dr : Dr w p F
  yb : B < Y
  ys : Y < F.heap.size
  yp : Y ≠ p
theorem used_fin {w wA W : World} {p B Y : Nat} {v0 v1 v2 v3 v4 o0 o1 o2 o3 o4 : Value} (hw : Dr w p wA) (hdr : Dr wA p W) (hB : B < wA.heap.size) (hn : B ≠ p) (hwB : w.heap.size ≤ B) (hBY : B < Y) (hYp : Y ≠ p) (z0 : W.cell? ⟨Y, 0, none⟩ = some o0) (z1 : W.cell? ⟨Y, 1, none⟩ = some o1) (z2 : W.cell? ⟨Y, 2, none⟩ = some o2) (z3 : W.cell? ⟨Y, 3, none⟩ = some o3) (z4 : W.cell? ⟨Y, 4, none⟩ = some o4) (hz : ∀ j, j < 5 → ∃ o, wA.cell? ⟨B, j, none⟩ = some o) (hf : ∀ j, wA.frozen? ⟨B, j, none⟩ = false) (hfY : ∀ j, W.frozen? ⟨Y, j, none⟩ = false) : UFin w p B Y v0 v1 v2 v3 v4 (((((W.setCell ⟨Y, 0, none⟩ v0).setCell ⟨Y, 1, none⟩ v1).setCell ⟨Y, 2, none⟩ v2).setCell ⟨Y, 3, none⟩ v3).setCell ⟨Y, 4, none⟩ v4) := by
  have hne : some B ≠ some p := fun e => hn (Option.some.inj e)
  obtain ⟨c0, c1, c2, c3, c4⟩ := used_cells (v0 := v0) (v1 := v1) (v2 := v2) (v3 := v3) (v4 := v4) z0 z1 z2 z3 z4
  have hYs : Y < W.heap.size := World.block_lt_of_cell? _ _ z0
  have oB : ∀ (X : World) (i j : Nat) (v : Value), (∃ o, X.cell? ⟨B, i, none⟩ = some o) → ∃ o, (X.setCell ⟨Y, j, none⟩ v).cell? ⟨B, i, none⟩ = some o := fun X i j v ⟨o, ho⟩ => ⟨o, (World.cell?_setCell_other X ⟨Y, j, none⟩ ⟨B, i, none⟩ v (by simp; try omega)).trans ho⟩
  refine ⟨c0, c1, c2, c3, c4, fun j hj => oB _ _ _ _ (oB _ _ _ _ (oB _ _ _ _ (oB _ _ _ _ (oB _ _ _ _ ?_)))), fun j => ?_, fun j => ?_, ?_, hBY, ?_, hYp⟩
  · obtain ⟨o, ho⟩ := hz j hj
    exact ⟨o, (hdr.2.1.cell_far ⟨B, j, none⟩ hB hne).trans ho⟩
  · have h0 : W.frozen? ⟨B, j, none⟩ = false := (hdr.2.1.frozen_far _ hB hne).trans (hf j)
    simp [h0]
  · simp [hfY j]
  · exact (((((hw.trans hdr).store (by omega) _).store (by omega) _).store (by omega) _).store (by omega) _).store (by omega) _
  · simpa [World.setCell] using hYs
theorem used_finA {w wA W : World} {p B : Nat} {v0 v1 v2 v3 v4 : Value} (hw : Dr w p wA) (hdr : Dr wA p W) (hB : B < wA.heap.size) (hn : B ≠ p) (hz : ∀ j, j < 5 → ∃ o, wA.cell? ⟨B, j, none⟩ = some o) (hf : ∀ j, wA.frozen? ⟨B, j, none⟩ = false) : UFin w p B W.heap.size v0 v1 v2 v3 v4 (W.alloc (.cells #[v0, v1, v2, v3, v4] 33)) := by
  have hne : some B ≠ some p := fun e => hn (Option.some.inj e)
  have hBW : B < W.heap.size := Nat.lt_of_lt_of_le hB hdr.size
  have hp : p < W.heap.size := hdr.1.lt
  have hx : ∀ j, (W.alloc (.cells #[v0, v1, v2, v3, v4] 33)).cell? ⟨W.heap.size, j, none⟩ = #[v0, v1, v2, v3, v4][j]? := fun j => box_new _ _ _ j
  refine ⟨(hx 0).trans rfl, (hx 1).trans rfl, (hx 2).trans rfl, (hx 3).trans rfl, (hx 4).trans rfl, fun j hj => ?_, fun j => ?_, fun j => frozen_box _ _ _ _ (frozen_out _ _ (Nat.le_refl _)), (hw.trans hdr).alloc _, hBW, by simp, by omega⟩
  · obtain ⟨o, ho⟩ := hz j hj
    exact ⟨o, (box_old _ _ _ hBW).trans ((hdr.2.1.cell_far ⟨B, j, none⟩ hB hne).trans ho)⟩
  · exact frozen_box _ _ _ _ ((hdr.2.1.frozen_far _ hB hne).trans (hf j))
theorem litA_at (k : Nat) (hk : k < 8) (s : ByteArray) (h : ∀ h : k < ([.string ⟨#[97, 110, 99, 104, 111, 114]⟩, .string ⟨#[98, 111, 108, 116]⟩, .string ⟨#[99, 114, 97, 110, 107]⟩, .string ⟨#[102, 111, 114, 107]⟩, .string ⟨#[102, 114, 97, 109, 101]⟩, .string ⟨#[104, 101, 97, 100, 115, 101, 116]⟩, .string ⟨#[112, 111, 115, 116]⟩, .string ⟨#[115, 97, 100, 100, 108, 101]⟩] : List Value).length, ([.string ⟨#[97, 110, 99, 104, 111, 114]⟩, .string ⟨#[98, 111, 108, 116]⟩, .string ⟨#[99, 114, 97, 110, 107]⟩, .string ⟨#[102, 111, 114, 107]⟩, .string ⟨#[102, 114, 97, 109, 101]⟩, .string ⟨#[104, 101, 97, 100, 115, 101, 116]⟩, .string ⟨#[112, 111, 115, 116]⟩, .string ⟨#[115, 97, 100, 100, 108, 101]⟩] : List Value)[k]'h = .string s) : (#[.string ⟨#[97, 110, 99, 104, 111, 114]⟩, .string ⟨#[98, 111, 108, 116]⟩, .string ⟨#[99, 114, 97, 110, 107]⟩, .string ⟨#[102, 111, 114, 107]⟩, .string ⟨#[102, 114, 97, 109, 101]⟩, .string ⟨#[104, 101, 97, 100, 115, 101, 116]⟩, .string ⟨#[112, 111, 115, 116]⟩, .string ⟨#[115, 97, 100, 100, 108, 101]⟩] : Array Value)[k]? = some (.string s) := by
  have hk' : k < ([.string ⟨#[97, 110, 99, 104, 111, 114]⟩, .string ⟨#[98, 111, 108, 116]⟩, .string ⟨#[99, 114, 97, 110, 107]⟩, .string ⟨#[102, 111, 114, 107]⟩, .string ⟨#[102, 114, 97, 109, 101]⟩, .string ⟨#[104, 101, 97, 100, 115, 101, 116]⟩, .string ⟨#[112, 111, 115, 116]⟩, .string ⟨#[115, 97, 100, 100, 108, 101]⟩] : List Value).length := hk
  rw [List.getElem?_toArray]
  rw [List.getElem?_eq_getElem hk', h hk']
/-- the names' slice -/
def PN (p : Nat) (u : World) (x : Value) : Prop := ∃ N, x = .slice (some ⟨N, 0, none⟩) 8 8 ∧ N ≠ p ∧ N < u.heap.size ∧ ∀ k, k < 8 → ∃ s : ByteArray, s.size ≤ 20 ∧ u.cell? ⟨N, k, none⟩ = some (.string s)
/-- a name's place -/
def PI (p : Nat) (u : World) (x : Value) : Prop := ∃ (N k : Nat) (s : ByteArray), x = .pointer (some ⟨N, k, none⟩) ∧ N ≠ p ∧ N < u.heap.size ∧ s.size ≤ 20 ∧ u.cell? ⟨N, k, none⟩ = some (.string s)
/-- the part's own block -/
def PY (p B : Nat) (u : World) (x : Value) : Prop := ∃ Y, x = .pointer (some ⟨Y, 0, none⟩) ∧ Y ≠ p ∧ B < Y ∧ Y < u.heap.size ∧ (∀ j, j < 5 → ∃ o, u.cell? ⟨Y, j, none⟩ = some o) ∧ ∀ j, u.frozen? ⟨Y, j, none⟩ = false
/-- the part as it was drawn -/
def PF (w : World) (p B : Nat) (u : World) (x : Value) : Prop := ∃ (Y : Nat) (s : ByteArray) (h pl r d : Int), x = .pointer (some ⟨Y, 0, none⟩) ∧ s.size ≤ 20 ∧ UFin w p B Y (.string s) (.int .i64 h) (.int .i64 pl) (.int .i64 r) (.int .i64 d) u
theorem PN.stay {p : Nat} {u u' : World} {x : Value} : PN p u x → Stay p u u' → PN p u' x := fun ⟨N, h1, h2, h3, h4⟩ h => ⟨N, h1, h2, Nat.lt_of_lt_of_le h3 h.sz, fun k hk => by
  obtain ⟨s, a, b⟩ := h4 k hk
  exact ⟨s, a, (h.ce _ _ h2 h3).trans b⟩⟩
theorem PI.stay {p : Nat} {u u' : World} {x : Value} : PI p u x → Stay p u u' → PI p u' x := fun ⟨N, k, s, h1, h2, h3, h4, h5⟩ h => ⟨N, k, s, h1, h2, Nat.lt_of_lt_of_le h3 h.sz, h4, (h.ce _ _ h2 h3).trans h5⟩
theorem PY.stay {p B : Nat} {u u' : World} {x : Value} : PY p B u x → Stay p u u' → PY p B u' x := fun ⟨Y, h1, h2, h3, h4, h5, h6⟩ h => ⟨Y, h1, h2, h3, Nat.lt_of_lt_of_le h4 h.sz, fun j hj => by
  obtain ⟨o, b⟩ := h5 j hj
  exact ⟨o, (h.ce _ _ h2 h4).trans b⟩, fun j => (h.fr _ _ h2 h4).trans (h6 j)⟩
theorem PY.new {w0 u : World} {p B : Nat} {v0 v1 v2 v3 v4 : Value} {t : TypeId} (hD : Dr w0 p u) (hB : B < u.heap.size) : PY p B (u.alloc (.cells #[v0, v1, v2, v3, v4] t)) (.pointer (some ⟨u.heap.size, 0, none⟩)) := by
  have hx : ∀ j, (u.alloc (.cells #[v0, v1, v2, v3, v4] t)).cell? ⟨u.heap.size, j, none⟩ = #[v0, v1, v2, v3, v4][j]? := fun j => box_new _ _ _ j
  refine ⟨_, rfl, by have := hD.1.lt; omega, hB, by simp, fun j hj => ?_, fun j => frozen_box _ _ _ _ (frozen_out _ _ (Nat.le_refl _))⟩
  rcases (show j = 0 ∨ j = 1 ∨ j = 2 ∨ j = 3 ∨ j = 4 by omega) with rfl | rfl | rfl | rfl | rfl
  · exact ⟨_, (hx 0).trans rfl⟩
  · exact ⟨_, (hx 1).trans rfl⟩
  · exact ⟨_, (hx 2).trans rfl⟩
  · exact ⟨_, (hx 3).trans rfl⟩
  · exact ⟨_, (hx 4).trans rfl⟩
theorem UFin.on {w F G : World} {p B Y : Nat} {v0 v1 v2 v3 v4 : Value} (h : UFin w p B Y v0 v1 v2 v3 v4 F) (hB : B ≠ p) (hD : Dr w p G) (hs : Stay p F G) : UFin w p B Y v0 v1 v2 v3 v4 G := by
  have hBs : B < F.heap.size := Nat.lt_trans h.yb h.ys
  refine ⟨(hs.ce _ _ h.yp h.ys).trans h.c0, (hs.ce _ _ h.yp h.ys).trans h.c1, (hs.ce _ _ h.yp h.ys).trans h.c2, (hs.ce _ _ h.yp h.ys).trans h.c3, (hs.ce _ _ h.yp h.ys).trans h.c4, fun j hj => ?_, fun j => (hs.fr _ _ hB hBs).trans (h.bf j), fun j => (hs.fr _ _ h.yp h.ys).trans (h.yf j), hD, h.yb, Nat.lt_of_lt_of_le h.ys hs.sz, h.yp⟩
  obtain ⟨o, ho⟩ := h.bo j hj
  exact ⟨o, (hs.ce _ _ hB hBs).trans ho⟩
theorem UFin.set0 {w F : World} {p B Y : Nat} {v0 v1 v2 v3 v4 : Value} (h : UFin w p B Y v0 v1 v2 v3 v4 F) (hwB : w.heap.size ≤ B) (a : Value) : UFin w p B Y a v1 v2 v3 v4 (F.setCell ⟨Y, 0, none⟩ a) := by
  have hyb := h.yb
  refine ⟨(World.cell?_setCell_same F _ a h.c0), ((World.cell?_setCell_other F ⟨Y, 0, none⟩ ⟨Y, 1, none⟩ a (by simp)).trans h.c1), ((World.cell?_setCell_other F ⟨Y, 0, none⟩ ⟨Y, 2, none⟩ a (by simp)).trans h.c2), ((World.cell?_setCell_other F ⟨Y, 0, none⟩ ⟨Y, 3, none⟩ a (by simp)).trans h.c3), ((World.cell?_setCell_other F ⟨Y, 0, none⟩ ⟨Y, 4, none⟩ a (by simp)).trans h.c4), fun k hk => ?_, fun k => ?_, fun k => ?_, h.dr.store (by omega) _, h.yb, by simpa [World.setCell] using h.ys, h.yp⟩
  · obtain ⟨o, ho⟩ := h.bo k hk
    exact ⟨o, (World.cell?_setCell_other F ⟨Y, 0, none⟩ ⟨B, k, none⟩ a (by simp; try omega)).trans ho⟩
  · have := h.bf k
    simp [this]
  · have := h.yf k
    simp [this]
theorem UFin.set1 {w F : World} {p B Y : Nat} {v0 v1 v2 v3 v4 : Value} (h : UFin w p B Y v0 v1 v2 v3 v4 F) (hwB : w.heap.size ≤ B) (a : Value) : UFin w p B Y v0 a v2 v3 v4 (F.setCell ⟨Y, 1, none⟩ a) := by
  have hyb := h.yb
  refine ⟨((World.cell?_setCell_other F ⟨Y, 1, none⟩ ⟨Y, 0, none⟩ a (by simp)).trans h.c0), (World.cell?_setCell_same F _ a h.c1), ((World.cell?_setCell_other F ⟨Y, 1, none⟩ ⟨Y, 2, none⟩ a (by simp)).trans h.c2), ((World.cell?_setCell_other F ⟨Y, 1, none⟩ ⟨Y, 3, none⟩ a (by simp)).trans h.c3), ((World.cell?_setCell_other F ⟨Y, 1, none⟩ ⟨Y, 4, none⟩ a (by simp)).trans h.c4), fun k hk => ?_, fun k => ?_, fun k => ?_, h.dr.store (by omega) _, h.yb, by simpa [World.setCell] using h.ys, h.yp⟩
  · obtain ⟨o, ho⟩ := h.bo k hk
    exact ⟨o, (World.cell?_setCell_other F ⟨Y, 1, none⟩ ⟨B, k, none⟩ a (by simp; try omega)).trans ho⟩
  · have := h.bf k
    simp [this]
  · have := h.yf k
    simp [this]
theorem UFin.set3 {w F : World} {p B Y : Nat} {v0 v1 v2 v3 v4 : Value} (h : UFin w p B Y v0 v1 v2 v3 v4 F) (hwB : w.heap.size ≤ B) (a : Value) : UFin w p B Y v0 v1 v2 a v4 (F.setCell ⟨Y, 3, none⟩ a) := by
  have hyb := h.yb
  refine ⟨((World.cell?_setCell_other F ⟨Y, 3, none⟩ ⟨Y, 0, none⟩ a (by simp)).trans h.c0), ((World.cell?_setCell_other F ⟨Y, 3, none⟩ ⟨Y, 1, none⟩ a (by simp)).trans h.c1), ((World.cell?_setCell_other F ⟨Y, 3, none⟩ ⟨Y, 2, none⟩ a (by simp)).trans h.c2), (World.cell?_setCell_same F _ a h.c3), ((World.cell?_setCell_other F ⟨Y, 3, none⟩ ⟨Y, 4, none⟩ a (by simp)).trans h.c4), fun k hk => ?_, fun k => ?_, fun k => ?_, h.dr.store (by omega) _, h.yb, by simpa [World.setCell] using h.ys, h.yp⟩
  · obtain ⟨o, ho⟩ := h.bo k hk
    exact ⟨o, (World.cell?_setCell_other F ⟨Y, 3, none⟩ ⟨B, k, none⟩ a (by simp; try omega)).trans ho⟩
  · have := h.bf k
    simp [this]
  · have := h.yf k
    simp [this]
set_option maxHeartbeats 16000000 in
set_option maxRecDepth 20000 in
theorem l25Used_dr (w0 : World) (p : Nat) (w : World) (hD : Dr w0 p w) :
    Calls Try.prog 86 #[.pointer (some ⟨p, 0, none⟩)] w fun e w' => ∃ x : Used, e = .returned (.agg #[.string x.name, .int .i64 x.hours, .int .i64 x.play, .int .i64 x.rust, .int .i64 x.dents]) ∧ okUsed x ∧ Dr w0 p w' ∧ w.grownBy w' (some p) := by
  have hpw : p < w.heap.size := hD.1.lt
  have HD0 := Lib.hid hD
  have DW : Dr w p (w.alloc (.cells #[.string ⟨#[]⟩, .int .i64 0, .int .i64 0, .int .i64 0, .int .i64 0] 33)) := (Dr.refl hD.1).alloc _
  have DA : Dr (w.alloc (.cells #[.string ⟨#[]⟩, .int .i64 0, .int .i64 0, .int .i64 0, .int .i64 0] 33)) p (w.alloc (.cells #[.string ⟨#[]⟩, .int .i64 0, .int .i64 0, .int .i64 0, .int .i64 0] 33)) := Dr.refl (hD.1.alloc _)
  have hbox : ∀ j, (w.alloc (.cells #[.string ⟨#[]⟩, .int .i64 0, .int .i64 0, .int .i64 0, .int .i64 0] 33)).cell? ⟨w.heap.size, j, none⟩ = #[Value.string ⟨#[]⟩, .int .i64 0, .int .i64 0, .int .i64 0, .int .i64 0][j]? := fun j => box_new _ _ _ j
  have z0 := (hbox 0).trans (show _ = some (Value.string ⟨#[]⟩) from rfl)
  have z1 := (hbox 1).trans (show _ = some (Value.int .i64 0) from rfl)
  have z2 := (hbox 2).trans (show _ = some (Value.int .i64 0) from rfl)
  have z3 := (hbox 3).trans (show _ = some (Value.int .i64 0) from rfl)
  have z4 := (hbox 4).trans (show _ = some (Value.int .i64 0) from rfl)
  have hfr : ∀ j, (w.alloc (.cells #[.string ⟨#[]⟩, .int .i64 0, .int .i64 0, .int .i64 0, .int .i64 0] 33)).frozen? ⟨w.heap.size, j, none⟩ = false := fun j => frozen_box _ _ _ _ (frozen_out _ _ (Nat.le_refl _))
  have f0 := hfr 0
  have f1 := hfr 1
  have f2 := hfr 2
  have f3 := hfr 3
  have f4 := hfr 4
  have HFR := Lib.hid hfr
  have hszA : (w.alloc (.cells #[.string ⟨#[]⟩, .int .i64 0, .int .i64 0, .int .i64 0, .int .i64 0] 33)).heap.size = w.heap.size + 1 := by simp
  clear hbox hfr hD
  go_enter Try.func86, Try.ntmps86
  go_wp2
  generalize w.alloc (.cells #[.string ⟨#[]⟩, .int .i64 0, .int .i64 0, .int .i64 0, .int .i64 0] 33) = wA at *
  have DAd : Dr wA p wA.drew := DA.drew
  have DAe : ∀ o, Dr wA p (wA.alloc o).drew := fun o => (DA.alloc o).drew
  obtain ⟨B, hB⟩ : ∃ B, w.heap.size = B := ⟨_, rfl⟩
  have hBw : w.heap.size ≤ B := by omega
  rw [hB] at z0 z1 z2 z3 z4 f0 f1 f2 f3 f4 HFR hszA hpw ⊢
  clear hB
  have hs1 : wA.drew.heap.size = B + 1 := hszA
  have hs2 : ∀ o, (wA.alloc o).drew.heap.size = B + 1 + 1 := fun o => (World.size_alloc wA o).trans (by rw [hszA])
  have nB : B ≠ p := by omega
  have HDW := Lib.hid DW
  have hBA : B < wA.heap.size := by omega
  clear DW
  have n1 : B + 1 ≠ p := by omega
  have m1 : B ≠ B + 1 := by omega
  have n2 : B + 1 + 1 ≠ p := by omega
  have q1 : (B + 1 + 1 = B + 1) = False := eq_false (by omega)
  have q2 : (B + 1 = B + 1 + 1) = False := eq_false (by omega)
  have q3 : (B = B + 1) = False := eq_false (by omega)
  have q4 : (B = B + 1 + 1) = False := eq_false (by omega)
  have fy1 : ∀ j, wA.frozen? ⟨B + 1, j, none⟩ = false := fun j => frozen_out _ _ (by simp only []; omega)
  have fy2 : ∀ j, wA.frozen? ⟨B + 1 + 1, j, none⟩ = false := fun j => frozen_out _ _ (by simp only []; omega)
  have HZ : Hid (∀ j, j < 5 → ∃ o, wA.cell? ⟨B, j, none⟩ = some o) := Lib.hid (fun j hj => by
    rcases (show j = 0 ∨ j = 1 ∨ j = 2 ∨ j = 3 ∨ j = 4 by omega) with rfl | rfl | rfl | rfl | rfl
    · exact ⟨_, z0⟩
    · exact ⟨_, z1⟩
    · exact ⟨_, z2⟩
    · exact ⟨_, z3⟩
    · exact ⟨_, z4⟩)
  clear z0 z1 z2 z3 z4 f0 f1 f2 f3 f4
  have hca := cell_alloc_any
  have hfa := frozen_alloc_any
  refine wp_region_inv (by kernel_rfl) ([[], [], [1, 0], [0, 2], [3], [], [5, 2], [], [7, 6], [], [9, 8], [], [11, 10], [4, 6, 8, 10, 12], [], [14, 13, 12, 0, 1, 2, 3, 4, 5, 6, 7, 8, 9, 10, 11, 12, 13, 14]] : List (List Nat)) (by kernel_rfl) (by kernel_rfl) (fun f b u => ∃ x3 x4 x5 x6 x7 x8 x9 x10 x11 x12 x13 x14 x15 x16 x17 : Value, b = (⟨#[.pointer (some ⟨p, 0, none⟩), undef, .pointer (some ⟨B, 0, none⟩), x3, x4, x5, x6, x7, x8, x9, x10, x11, x12, x13, x14, x15, x16, x17, undef, undef, undef, undef, undef, undef, undef, undef, undef, undef, undef, undef, undef, undef, undef, undef, undef, undef, undef, undef], []⟩ : Act) ∧ (f 15 = false → Dr wA p u ∧ B < u.heap.size) ∧ (f 0 = true → f 15 = false → PN p u x4) ∧ (f 1 = true → f 15 = false → x5 = .pointer (some ⟨p, 0, none⟩)) ∧ (f 2 = true → f 15 = false → ∃ k : Nat, k < 8 ∧ x6 = .int .i64 k) ∧ (f 3 = true → f 15 = false → PI p u x7) ∧ (f 4 = true → f 15 = false → ∃ s : ByteArray, s.size ≤ 20 ∧ x8 = .string s) ∧ (f 5 = true → f 15 = false → x9 = .pointer (some ⟨p, 0, none⟩)) ∧ (f 6 = true → f 15 = false → ∃ h : Int, x10 = .int .i64 h) ∧ (f 7 = true → f 15 = false → x11 = .pointer (some ⟨p, 0, none⟩)) ∧ (f 8 = true → f 15 = false → ∃ h : Int, x12 = .int .i64 h) ∧ (f 9 = true → f 15 = false → x13 = .pointer (some ⟨p, 0, none⟩)) ∧ (f 10 = true → f 15 = false → ∃ h : Int, x14 = .int .i64 h) ∧ (f 11 = true → f 15 = false → x15 = .pointer (some ⟨p, 0, none⟩)) ∧ (f 12 = true → f 15 = false → ∃ h : Int, x16 = .int .i64 h) ∧ (f 13 = true → f 15 = false → ∃ (s : ByteArray) (h pl r d : Int), s.size ≤ 20 ∧ x17 = .agg #[.string s, .int .i64 h, .int .i64 pl, .int .i64 r, .int .i64 d]) ∧ (f 14 = true → f 15 = false → PY p B u x3) ∧ (f 15 = true → PF w p B u x3)) ?_ ?_ ?_
  · exact ⟨_, _, _, _, _, _, _, _, _, _, _, _, _, _, _, rfl, fun _ => ⟨DAd, by rw [hs1]; omega⟩, fun h => (by cases h), fun h => (by cases h), fun h => (by cases h), fun h => (by cases h), fun h => (by cases h), fun h => (by cases h), fun h => (by cases h), fun h => (by cases h), fun h => (by cases h), fun h => (by cases h), fun h => (by cases h), fun h => (by cases h), fun h => (by cases h), fun h => (by cases h), fun h => (by cases h), fun h => (by cases h)⟩
  · show ∀ i, i < 16 → _
    refine below_succ ?_ ?_
    · intro f b u hf hd hcl hI
      obtain ⟨x3, x4, x5, x6, x7, x8, x9, x10, x11, x12, x13, x14, x15, x16, x17, rfl, gD, g0, g1, g2, g3, g4, g5, g6, g7, g8, g9, g10, g11, g12, g13, g14, gF⟩ := hI
      obtain ⟨gD, hBu⟩ := gD hf
      have e13 := g13 (hd 13 (by decide)) hf
      obtain ⟨s, h, pl, r, d, hs4, rfl⟩ := e13
      have e14 := g14 (hd 14 (by decide)) hf
      obtain ⟨Y, rfl, hYp, hBY, hYs, hYc, hYf⟩ := e14
      refine wpOp_step rfl (fun K hK => ?_)
      obtain ⟨o0, z0⟩ := hYc 0 (by decide)
      obtain ⟨o1, z1⟩ := hYc 1 (by decide)
      obtain ⟨o2, z2⟩ := hYc 2 (by decide)
      obtain ⟨o3, z3⟩ := hYc 3 (by decide)
      obtain ⟨o4, z4⟩ := hYc 4 (by decide)
      have f0 := hYf 0
      have f1 := hYf 1
      have f2 := hYf 2
      have f3 := hYf 3
      have f4 := hYf 4
      go_simp
      refine hK _ _ ?_
      refine ⟨_, _, _, _, _, _, _, _, _, _, _, _, _, _, _, rfl, fun h => by simp at h, fun _ h => by simp at h, fun _ h => by simp at h, fun _ h => by simp at h, fun _ h => by simp at h, fun _ h => by simp at h, fun _ h => by simp at h, fun _ h => by simp at h, fun _ h => by simp at h, fun _ h => by simp at h, fun _ h => by simp at h, fun _ h => by simp at h, fun _ h => by simp at h, fun _ h => by simp at h, fun _ h => by simp at h, fun _ h => by simp at h, fun _ => ⟨Y, s, h, pl, r, d, rfl, hs4, ?_⟩⟩
      exact used_fin HDW.out gD hBA nB hBw hBY hYp z0 z1 z2 z3 z4 HZ.out HFR.out hYf
    refine below_succ ?_ ?_
    · intro f b u hf hd hcl hI
      obtain ⟨x3, x4, x5, x6, x7, x8, x9, x10, x11, x12, x13, x14, x15, x16, x17, rfl, gD, g0, g1, g2, g3, g4, g5, g6, g7, g8, g9, g10, g11, g12, g13, g14, gF⟩ := hI
      have hf15 : f 15 = false := by
        cases h15 : f 15 with
        | false => rfl
        | true => exact absurd ((hcl 15 (by decide) h15) 14 (by decide)) (by rw [hf]; decide)
      obtain ⟨gD, hBu⟩ := gD hf15
      refine wpOp_step rfl (fun K hK => ?_)
      go_simp
      refine hK _ _ ?_
      refine ⟨_, _, _, _, _, _, _, _, _, _, _, _, _, _, _, rfl, fun _ => ⟨gD.alloc _, by simp; omega⟩, fun h e => (g0 (by simpa using h) hf15).stay (Stay.alloc p u _ _), fun h e => g1 (by simpa using h) hf15, fun h e => g2 (by simpa using h) hf15, fun h e => (g3 (by simpa using h) hf15).stay (Stay.alloc p u _ _), fun h e => g4 (by simpa using h) hf15, fun h e => g5 (by simpa using h) hf15, fun h e => g6 (by simpa using h) hf15, fun h e => g7 (by simpa using h) hf15, fun h e => g8 (by simpa using h) hf15, fun h e => g9 (by simpa using h) hf15, fun h e => g10 (by simpa using h) hf15, fun h e => g11 (by simpa using h) hf15, fun h e => g12 (by simpa using h) hf15, fun h e => g13 (by simpa using h) hf15, fun _ _ => PY.new gD hBu, fun h => absurd h (by simp [hf15])⟩
    refine below_succ ?_ ?_
    · intro f b u hf hd hcl hI
      obtain ⟨x3, x4, x5, x6, x7, x8, x9, x10, x11, x12, x13, x14, x15, x16, x17, rfl, gD, g0, g1, g2, g3, g4, g5, g6, g7, g8, g9, g10, g11, g12, g13, g14, gF⟩ := hI
      have hf15 : f 15 = false := by
        cases h15 : f 15 with
        | false => rfl
        | true => exact absurd ((hcl 15 (by decide) h15) 13 (by decide)) (by rw [hf]; decide)
      obtain ⟨gD, hBu⟩ := gD hf15
      have e4 := g4 (hd 4 (by decide)) hf15
      obtain ⟨s, hs4, rfl⟩ := e4
      have e6 := g6 (hd 6 (by decide)) hf15
      obtain ⟨h, rfl⟩ := e6
      have e8 := g8 (hd 8 (by decide)) hf15
      obtain ⟨pl, rfl⟩ := e8
      have e10 := g10 (hd 10 (by decide)) hf15
      obtain ⟨r, rfl⟩ := e10
      have e12 := g12 (hd 12 (by decide)) hf15
      obtain ⟨d, rfl⟩ := e12
      refine wpOp_step rfl (fun K hK => ?_)
      go_simp
      refine hK _ _ ?_
      refine ⟨_, _, _, _, _, _, _, _, _, _, _, _, _, _, _, rfl, fun _ => ⟨gD, hBu⟩, fun h e => g0 (by simpa using h) hf15, fun h e => g1 (by simpa using h) hf15, fun h e => g2 (by simpa using h) hf15, fun h e => g3 (by simpa using h) hf15, fun h e => g4 (by simpa using h) hf15, fun h e => g5 (by simpa using h) hf15, fun h e => g6 (by simpa using h) hf15, fun h e => g7 (by simpa using h) hf15, fun h e => g8 (by simpa using h) hf15, fun h e => g9 (by simpa using h) hf15, fun h e => g10 (by simpa using h) hf15, fun h e => g11 (by simpa using h) hf15, fun h e => g12 (by simpa using h) hf15, fun _ _ => ⟨s, h, pl, r, d, hs4, rfl⟩, fun h e => g14 (by simpa using h) hf15, fun h => absurd h (by simp [hf15])⟩
    refine below_succ ?_ ?_
    · intro f b u hf hd hcl hI
      obtain ⟨x3, x4, x5, x6, x7, x8, x9, x10, x11, x12, x13, x14, x15, x16, x17, rfl, gD, g0, g1, g2, g3, g4, g5, g6, g7, g8, g9, g10, g11, g12, g13, g14, gF⟩ := hI
      have hf15 : f 15 = false := by
        cases h15 : f 15 with
        | false => rfl
        | true => exact absurd ((hcl 15 (by decide) h15) 12 (by decide)) (by rw [hf]; decide)
      obtain ⟨gD, hBu⟩ := gD hf15
      have e11 := g11 (hd 11 (by decide)) hf15
      subst e11
      refine wpOp_step rfl (fun K hK => ?_)
      go_simp
      go_at_call 87
      refine (next_fl 6 (w0 := wA) gD (by omega)).mono ?_
      rintro e wn ⟨v, rfl, v0, v1, hd2, hon⟩
      have hst : Stay p u wn := ⟨Nat.le_of_eq hon.sz.symm, fun b o hb _ => hon.ce b o hb, fun b o hb _ => hon.fr b o hb⟩
      try go_simp
      refine hK _ _ ?_
      refine ⟨_, _, _, _, _, _, _, _, _, _, _, _, _, _, _, rfl, fun _ => ⟨hd2, by rw [hon.sz]; exact hBu⟩, fun h e => (g0 (by simpa using h) hf15).stay hst, fun h e => g1 (by simpa using h) hf15, fun h e => g2 (by simpa using h) hf15, fun h e => (g3 (by simpa using h) hf15).stay hst, fun h e => g4 (by simpa using h) hf15, fun h e => g5 (by simpa using h) hf15, fun h e => g6 (by simpa using h) hf15, fun h e => g7 (by simpa using h) hf15, fun h e => g8 (by simpa using h) hf15, fun h e => g9 (by simpa using h) hf15, fun h e => g10 (by simpa using h) hf15, fun h e => g11 (by simpa using h) hf15, fun _ _ => ⟨v, rfl⟩, fun h e => g13 (by simpa using h) hf15, fun h e => (g14 (by simpa using h) hf15).stay hst, fun h => absurd h (by simp [hf15])⟩
    refine below_succ ?_ ?_
    · intro f b u hf hd hcl hI
      obtain ⟨x3, x4, x5, x6, x7, x8, x9, x10, x11, x12, x13, x14, x15, x16, x17, rfl, gD, g0, g1, g2, g3, g4, g5, g6, g7, g8, g9, g10, g11, g12, g13, g14, gF⟩ := hI
      have hf15 : f 15 = false := by
        cases h15 : f 15 with
        | false => rfl
        | true => exact absurd ((hcl 15 (by decide) h15) 11 (by decide)) (by rw [hf]; decide)
      obtain ⟨gD, hBu⟩ := gD hf15
      refine wpOp_step rfl (fun K hK => ?_)
      go_simp
      refine hK _ _ ?_
      refine ⟨_, _, _, _, _, _, _, _, _, _, _, _, _, _, _, rfl, fun _ => ⟨gD, hBu⟩, fun h e => g0 (by simpa using h) hf15, fun h e => g1 (by simpa using h) hf15, fun h e => g2 (by simpa using h) hf15, fun h e => g3 (by simpa using h) hf15, fun h e => g4 (by simpa using h) hf15, fun h e => g5 (by simpa using h) hf15, fun h e => g6 (by simpa using h) hf15, fun h e => g7 (by simpa using h) hf15, fun h e => g8 (by simpa using h) hf15, fun h e => g9 (by simpa using h) hf15, fun h e => g10 (by simpa using h) hf15, fun _ _ => rfl, fun h e => g12 (by simpa using h) hf15, fun h e => g13 (by simpa using h) hf15, fun h e => g14 (by simpa using h) hf15, fun h => absurd h (by simp [hf15])⟩
    refine below_succ ?_ ?_
    · intro f b u hf hd hcl hI
      obtain ⟨x3, x4, x5, x6, x7, x8, x9, x10, x11, x12, x13, x14, x15, x16, x17, rfl, gD, g0, g1, g2, g3, g4, g5, g6, g7, g8, g9, g10, g11, g12, g13, g14, gF⟩ := hI
      have hf15 : f 15 = false := by
        cases h15 : f 15 with
        | false => rfl
        | true => exact absurd ((hcl 15 (by decide) h15) 10 (by decide)) (by rw [hf]; decide)
      obtain ⟨gD, hBu⟩ := gD hf15
      have e9 := g9 (hd 9 (by decide)) hf15
      subst e9
      refine wpOp_step rfl (fun K hK => ?_)
      go_simp
      go_at_call 87
      refine (next_fl 6 (w0 := wA) gD (by omega)).mono ?_
      rintro e wn ⟨v, rfl, v0, v1, hd2, hon⟩
      have hst : Stay p u wn := ⟨Nat.le_of_eq hon.sz.symm, fun b o hb _ => hon.ce b o hb, fun b o hb _ => hon.fr b o hb⟩
      try go_simp
      refine hK _ _ ?_
      refine ⟨_, _, _, _, _, _, _, _, _, _, _, _, _, _, _, rfl, fun _ => ⟨hd2, by rw [hon.sz]; exact hBu⟩, fun h e => (g0 (by simpa using h) hf15).stay hst, fun h e => g1 (by simpa using h) hf15, fun h e => g2 (by simpa using h) hf15, fun h e => (g3 (by simpa using h) hf15).stay hst, fun h e => g4 (by simpa using h) hf15, fun h e => g5 (by simpa using h) hf15, fun h e => g6 (by simpa using h) hf15, fun h e => g7 (by simpa using h) hf15, fun h e => g8 (by simpa using h) hf15, fun h e => g9 (by simpa using h) hf15, fun _ _ => ⟨v, rfl⟩, fun h e => g11 (by simpa using h) hf15, fun h e => g12 (by simpa using h) hf15, fun h e => g13 (by simpa using h) hf15, fun h e => (g14 (by simpa using h) hf15).stay hst, fun h => absurd h (by simp [hf15])⟩
    refine below_succ ?_ ?_
    · intro f b u hf hd hcl hI
      obtain ⟨x3, x4, x5, x6, x7, x8, x9, x10, x11, x12, x13, x14, x15, x16, x17, rfl, gD, g0, g1, g2, g3, g4, g5, g6, g7, g8, g9, g10, g11, g12, g13, g14, gF⟩ := hI
      have hf15 : f 15 = false := by
        cases h15 : f 15 with
        | false => rfl
        | true => exact absurd ((hcl 15 (by decide) h15) 9 (by decide)) (by rw [hf]; decide)
      obtain ⟨gD, hBu⟩ := gD hf15
      refine wpOp_step rfl (fun K hK => ?_)
      go_simp
      refine hK _ _ ?_
      refine ⟨_, _, _, _, _, _, _, _, _, _, _, _, _, _, _, rfl, fun _ => ⟨gD, hBu⟩, fun h e => g0 (by simpa using h) hf15, fun h e => g1 (by simpa using h) hf15, fun h e => g2 (by simpa using h) hf15, fun h e => g3 (by simpa using h) hf15, fun h e => g4 (by simpa using h) hf15, fun h e => g5 (by simpa using h) hf15, fun h e => g6 (by simpa using h) hf15, fun h e => g7 (by simpa using h) hf15, fun h e => g8 (by simpa using h) hf15, fun _ _ => rfl, fun h e => g10 (by simpa using h) hf15, fun h e => g11 (by simpa using h) hf15, fun h e => g12 (by simpa using h) hf15, fun h e => g13 (by simpa using h) hf15, fun h e => g14 (by simpa using h) hf15, fun h => absurd h (by simp [hf15])⟩
    refine below_succ ?_ ?_
    · intro f b u hf hd hcl hI
      obtain ⟨x3, x4, x5, x6, x7, x8, x9, x10, x11, x12, x13, x14, x15, x16, x17, rfl, gD, g0, g1, g2, g3, g4, g5, g6, g7, g8, g9, g10, g11, g12, g13, g14, gF⟩ := hI
      have hf15 : f 15 = false := by
        cases h15 : f 15 with
        | false => rfl
        | true => exact absurd ((hcl 15 (by decide) h15) 8 (by decide)) (by rw [hf]; decide)
      obtain ⟨gD, hBu⟩ := gD hf15
      have e7 := g7 (hd 7 (by decide)) hf15
      subst e7
      refine wpOp_step rfl (fun K hK => ?_)
      go_simp
      go_at_call 87
      refine (next_fl 400 (w0 := wA) gD (by omega)).mono ?_
      rintro e wn ⟨v, rfl, v0, v1, hd2, hon⟩
      have hst : Stay p u wn := ⟨Nat.le_of_eq hon.sz.symm, fun b o hb _ => hon.ce b o hb, fun b o hb _ => hon.fr b o hb⟩
      try go_simp
      refine hK _ _ ?_
      refine ⟨_, _, _, _, _, _, _, _, _, _, _, _, _, _, _, rfl, fun _ => ⟨hd2, by rw [hon.sz]; exact hBu⟩, fun h e => (g0 (by simpa using h) hf15).stay hst, fun h e => g1 (by simpa using h) hf15, fun h e => g2 (by simpa using h) hf15, fun h e => (g3 (by simpa using h) hf15).stay hst, fun h e => g4 (by simpa using h) hf15, fun h e => g5 (by simpa using h) hf15, fun h e => g6 (by simpa using h) hf15, fun h e => g7 (by simpa using h) hf15, fun _ _ => ⟨v, rfl⟩, fun h e => g9 (by simpa using h) hf15, fun h e => g10 (by simpa using h) hf15, fun h e => g11 (by simpa using h) hf15, fun h e => g12 (by simpa using h) hf15, fun h e => g13 (by simpa using h) hf15, fun h e => (g14 (by simpa using h) hf15).stay hst, fun h => absurd h (by simp [hf15])⟩
    refine below_succ ?_ ?_
    · intro f b u hf hd hcl hI
      obtain ⟨x3, x4, x5, x6, x7, x8, x9, x10, x11, x12, x13, x14, x15, x16, x17, rfl, gD, g0, g1, g2, g3, g4, g5, g6, g7, g8, g9, g10, g11, g12, g13, g14, gF⟩ := hI
      have hf15 : f 15 = false := by
        cases h15 : f 15 with
        | false => rfl
        | true => exact absurd ((hcl 15 (by decide) h15) 7 (by decide)) (by rw [hf]; decide)
      obtain ⟨gD, hBu⟩ := gD hf15
      refine wpOp_step rfl (fun K hK => ?_)
      go_simp
      refine hK _ _ ?_
      refine ⟨_, _, _, _, _, _, _, _, _, _, _, _, _, _, _, rfl, fun _ => ⟨gD, hBu⟩, fun h e => g0 (by simpa using h) hf15, fun h e => g1 (by simpa using h) hf15, fun h e => g2 (by simpa using h) hf15, fun h e => g3 (by simpa using h) hf15, fun h e => g4 (by simpa using h) hf15, fun h e => g5 (by simpa using h) hf15, fun h e => g6 (by simpa using h) hf15, fun _ _ => rfl, fun h e => g8 (by simpa using h) hf15, fun h e => g9 (by simpa using h) hf15, fun h e => g10 (by simpa using h) hf15, fun h e => g11 (by simpa using h) hf15, fun h e => g12 (by simpa using h) hf15, fun h e => g13 (by simpa using h) hf15, fun h e => g14 (by simpa using h) hf15, fun h => absurd h (by simp [hf15])⟩
    refine below_succ ?_ ?_
    · intro f b u hf hd hcl hI
      obtain ⟨x3, x4, x5, x6, x7, x8, x9, x10, x11, x12, x13, x14, x15, x16, x17, rfl, gD, g0, g1, g2, g3, g4, g5, g6, g7, g8, g9, g10, g11, g12, g13, g14, gF⟩ := hI
      have hf15 : f 15 = false := by
        cases h15 : f 15 with
        | false => rfl
        | true => exact absurd ((hcl 15 (by decide) h15) 6 (by decide)) (by rw [hf]; decide)
      obtain ⟨gD, hBu⟩ := gD hf15
      have e5 := g5 (hd 5 (by decide)) hf15
      subst e5
      refine wpOp_step rfl (fun K hK => ?_)
      go_simp
      go_at_call 87
      refine (next_fl 3000 (w0 := wA) gD (by omega)).mono ?_
      rintro e wn ⟨v, rfl, v0, v1, hd2, hon⟩
      have hst : Stay p u wn := ⟨Nat.le_of_eq hon.sz.symm, fun b o hb _ => hon.ce b o hb, fun b o hb _ => hon.fr b o hb⟩
      try go_simp
      refine hK _ _ ?_
      refine ⟨_, _, _, _, _, _, _, _, _, _, _, _, _, _, _, rfl, fun _ => ⟨hd2, by rw [hon.sz]; exact hBu⟩, fun h e => (g0 (by simpa using h) hf15).stay hst, fun h e => g1 (by simpa using h) hf15, fun h e => g2 (by simpa using h) hf15, fun h e => (g3 (by simpa using h) hf15).stay hst, fun h e => g4 (by simpa using h) hf15, fun h e => g5 (by simpa using h) hf15, fun _ _ => ⟨v, rfl⟩, fun h e => g7 (by simpa using h) hf15, fun h e => g8 (by simpa using h) hf15, fun h e => g9 (by simpa using h) hf15, fun h e => g10 (by simpa using h) hf15, fun h e => g11 (by simpa using h) hf15, fun h e => g12 (by simpa using h) hf15, fun h e => g13 (by simpa using h) hf15, fun h e => (g14 (by simpa using h) hf15).stay hst, fun h => absurd h (by simp [hf15])⟩
    refine below_succ ?_ ?_
    · intro f b u hf hd hcl hI
      obtain ⟨x3, x4, x5, x6, x7, x8, x9, x10, x11, x12, x13, x14, x15, x16, x17, rfl, gD, g0, g1, g2, g3, g4, g5, g6, g7, g8, g9, g10, g11, g12, g13, g14, gF⟩ := hI
      have hf15 : f 15 = false := by
        cases h15 : f 15 with
        | false => rfl
        | true => exact absurd ((hcl 15 (by decide) h15) 5 (by decide)) (by rw [hf]; decide)
      obtain ⟨gD, hBu⟩ := gD hf15
      refine wpOp_step rfl (fun K hK => ?_)
      go_simp
      refine hK _ _ ?_
      refine ⟨_, _, _, _, _, _, _, _, _, _, _, _, _, _, _, rfl, fun _ => ⟨gD, hBu⟩, fun h e => g0 (by simpa using h) hf15, fun h e => g1 (by simpa using h) hf15, fun h e => g2 (by simpa using h) hf15, fun h e => g3 (by simpa using h) hf15, fun h e => g4 (by simpa using h) hf15, fun _ _ => rfl, fun h e => g6 (by simpa using h) hf15, fun h e => g7 (by simpa using h) hf15, fun h e => g8 (by simpa using h) hf15, fun h e => g9 (by simpa using h) hf15, fun h e => g10 (by simpa using h) hf15, fun h e => g11 (by simpa using h) hf15, fun h e => g12 (by simpa using h) hf15, fun h e => g13 (by simpa using h) hf15, fun h e => g14 (by simpa using h) hf15, fun h => absurd h (by simp [hf15])⟩
    refine below_succ ?_ ?_
    · intro f b u hf hd hcl hI
      obtain ⟨x3, x4, x5, x6, x7, x8, x9, x10, x11, x12, x13, x14, x15, x16, x17, rfl, gD, g0, g1, g2, g3, g4, g5, g6, g7, g8, g9, g10, g11, g12, g13, g14, gF⟩ := hI
      have hf15 : f 15 = false := by
        cases h15 : f 15 with
        | false => rfl
        | true => exact absurd ((hcl 15 (by decide) h15) 4 (by decide)) (by rw [hf]; decide)
      obtain ⟨gD, hBu⟩ := gD hf15
      have e3 := g3 (hd 3 (by decide)) hf15
      obtain ⟨N, k, s, rfl, hNp, hNs, hs4, hNc⟩ := e3
      refine wpOp_step rfl (fun K hK => ?_)
      go_simp
      refine hK _ _ ?_
      refine ⟨_, _, _, _, _, _, _, _, _, _, _, _, _, _, _, rfl, fun _ => ⟨gD, hBu⟩, fun h e => g0 (by simpa using h) hf15, fun h e => g1 (by simpa using h) hf15, fun h e => g2 (by simpa using h) hf15, fun h e => g3 (by simpa using h) hf15, fun _ _ => ⟨s, hs4, rfl⟩, fun h e => g5 (by simpa using h) hf15, fun h e => g6 (by simpa using h) hf15, fun h e => g7 (by simpa using h) hf15, fun h e => g8 (by simpa using h) hf15, fun h e => g9 (by simpa using h) hf15, fun h e => g10 (by simpa using h) hf15, fun h e => g11 (by simpa using h) hf15, fun h e => g12 (by simpa using h) hf15, fun h e => g13 (by simpa using h) hf15, fun h e => g14 (by simpa using h) hf15, fun h => absurd h (by simp [hf15])⟩
    refine below_succ ?_ ?_
    · intro f b u hf hd hcl hI
      obtain ⟨x3, x4, x5, x6, x7, x8, x9, x10, x11, x12, x13, x14, x15, x16, x17, rfl, gD, g0, g1, g2, g3, g4, g5, g6, g7, g8, g9, g10, g11, g12, g13, g14, gF⟩ := hI
      have hf15 : f 15 = false := by
        cases h15 : f 15 with
        | false => rfl
        | true => exact absurd ((hcl 15 (by decide) h15) 3 (by decide)) (by rw [hf]; decide)
      obtain ⟨gD, hBu⟩ := gD hf15
      have e0 := g0 (hd 0 (by decide)) hf15
      obtain ⟨N, rfl, hNp, hNs, hNc⟩ := e0
      have e2 := g2 (hd 2 (by decide)) hf15
      obtain ⟨k, hk8, rfl⟩ := e2
      refine wpOp_step rfl (fun K hK => ?_)
      have hk8i : (k : Int) < 8 := by omega
      obtain ⟨s, hs4, hNk⟩ := hNc k hk8
      go_simp
      refine hK _ _ ?_
      refine ⟨_, _, _, _, _, _, _, _, _, _, _, _, _, _, _, rfl, fun _ => ⟨gD, hBu⟩, fun h e => g0 (by simpa using h) hf15, fun h e => g1 (by simpa using h) hf15, fun h e => g2 (by simpa using h) hf15, fun _ _ => ⟨N, k, s, by simp, hNp, hNs, hs4, hNk⟩, fun h e => g4 (by simpa using h) hf15, fun h e => g5 (by simpa using h) hf15, fun h e => g6 (by simpa using h) hf15, fun h e => g7 (by simpa using h) hf15, fun h e => g8 (by simpa using h) hf15, fun h e => g9 (by simpa using h) hf15, fun h e => g10 (by simpa using h) hf15, fun h e => g11 (by simpa using h) hf15, fun h e => g12 (by simpa using h) hf15, fun h e => g13 (by simpa using h) hf15, fun h e => g14 (by simpa using h) hf15, fun h => absurd h (by simp [hf15])⟩
    refine below_succ ?_ ?_
    · intro f b u hf hd hcl hI
      obtain ⟨x3, x4, x5, x6, x7, x8, x9, x10, x11, x12, x13, x14, x15, x16, x17, rfl, gD, g0, g1, g2, g3, g4, g5, g6, g7, g8, g9, g10, g11, g12, g13, g14, gF⟩ := hI
      have hf15 : f 15 = false := by
        cases h15 : f 15 with
        | false => rfl
        | true => exact absurd ((hcl 15 (by decide) h15) 2 (by decide)) (by rw [hf]; decide)
      obtain ⟨gD, hBu⟩ := gD hf15
      have e1 := g1 (hd 1 (by decide)) hf15
      subst e1
      refine wpOp_step rfl (fun K hK => ?_)
      go_simp
      go_at_call 87
      refine (next_fl 8 (w0 := wA) gD (by omega)).mono ?_
      rintro e wn ⟨v, rfl, v0, v1, hd2, hon⟩
      have hst : Stay p u wn := ⟨Nat.le_of_eq hon.sz.symm, fun b o hb _ => hon.ce b o hb, fun b o hb _ => hon.fr b o hb⟩
      obtain ⟨v, rfl⟩ := Int.eq_ofNat_of_zero_le v0
      have v8 : v < 8 := (by omega)
      try go_simp
      refine hK _ _ ?_
      refine ⟨_, _, _, _, _, _, _, _, _, _, _, _, _, _, _, rfl, fun _ => ⟨hd2, by rw [hon.sz]; exact hBu⟩, fun h e => (g0 (by simpa using h) hf15).stay hst, fun h e => g1 (by simpa using h) hf15, fun _ _ => ⟨v, v8, rfl⟩, fun h e => (g3 (by simpa using h) hf15).stay hst, fun h e => g4 (by simpa using h) hf15, fun h e => g5 (by simpa using h) hf15, fun h e => g6 (by simpa using h) hf15, fun h e => g7 (by simpa using h) hf15, fun h e => g8 (by simpa using h) hf15, fun h e => g9 (by simpa using h) hf15, fun h e => g10 (by simpa using h) hf15, fun h e => g11 (by simpa using h) hf15, fun h e => g12 (by simpa using h) hf15, fun h e => g13 (by simpa using h) hf15, fun h e => (g14 (by simpa using h) hf15).stay hst, fun h => absurd h (by simp [hf15])⟩
    refine below_succ ?_ ?_
    · intro f b u hf hd hcl hI
      obtain ⟨x3, x4, x5, x6, x7, x8, x9, x10, x11, x12, x13, x14, x15, x16, x17, rfl, gD, g0, g1, g2, g3, g4, g5, g6, g7, g8, g9, g10, g11, g12, g13, g14, gF⟩ := hI
      have hf15 : f 15 = false := by
        cases h15 : f 15 with
        | false => rfl
        | true => exact absurd ((hcl 15 (by decide) h15) 1 (by decide)) (by rw [hf]; decide)
      obtain ⟨gD, hBu⟩ := gD hf15
      refine wpOp_step rfl (fun K hK => ?_)
      go_simp
      refine hK _ _ ?_
      refine ⟨_, _, _, _, _, _, _, _, _, _, _, _, _, _, _, rfl, fun _ => ⟨gD, hBu⟩, fun h e => g0 (by simpa using h) hf15, fun _ _ => rfl, fun h e => g2 (by simpa using h) hf15, fun h e => g3 (by simpa using h) hf15, fun h e => g4 (by simpa using h) hf15, fun h e => g5 (by simpa using h) hf15, fun h e => g6 (by simpa using h) hf15, fun h e => g7 (by simpa using h) hf15, fun h e => g8 (by simpa using h) hf15, fun h e => g9 (by simpa using h) hf15, fun h e => g10 (by simpa using h) hf15, fun h e => g11 (by simpa using h) hf15, fun h e => g12 (by simpa using h) hf15, fun h e => g13 (by simpa using h) hf15, fun h e => g14 (by simpa using h) hf15, fun h => absurd h (by simp [hf15])⟩
    refine below_succ ?_ ?_
    · intro f b u hf hd hcl hI
      obtain ⟨x3, x4, x5, x6, x7, x8, x9, x10, x11, x12, x13, x14, x15, x16, x17, rfl, gD, g0, g1, g2, g3, g4, g5, g6, g7, g8, g9, g10, g11, g12, g13, g14, gF⟩ := hI
      have hf15 : f 15 = false := by
        cases h15 : f 15 with
        | false => rfl
        | true => exact absurd ((hcl 15 (by decide) h15) 0 (by decide)) (by rw [hf]; decide)
      obtain ⟨gD, hBu⟩ := gD hf15
      refine wpOp_step rfl (fun K hK => ?_)
      go_simp
      go_at_call 90
      refine (l16Names_any _).mono ?_
      rintro e wn ⟨rfl, rfl⟩
      try go_simp
      refine hK _ _ ?_
      refine ⟨_, _, _, _, _, _, _, _, _, _, _, _, _, _, _, rfl, fun _ => ⟨gD.alloc _, by simp; omega⟩, fun _ _ => ⟨_, rfl, by have := gD.1.lt; omega, by simp, fun k hk => by
          obtain ⟨s, h1, h2⟩ := litM_at k hk
          exact ⟨s, h1, by rw [box_new]; exact litA_at k hk s h2⟩⟩, fun h e => g1 (by simpa using h) hf15, fun h e => g2 (by simpa using h) hf15, fun h e => (g3 (by simpa using h) hf15).stay (Stay.alloc p u _ _), fun h e => g4 (by simpa using h) hf15, fun h e => g5 (by simpa using h) hf15, fun h e => g6 (by simpa using h) hf15, fun h e => g7 (by simpa using h) hf15, fun h e => g8 (by simpa using h) hf15, fun h e => g9 (by simpa using h) hf15, fun h e => g10 (by simpa using h) hf15, fun h e => g11 (by simpa using h) hf15, fun h e => g12 (by simpa using h) hf15, fun h e => g13 (by simpa using h) hf15, fun h e => (g14 (by simpa using h) hf15).stay (Stay.alloc p u _ _), fun h => absurd h (by simp [hf15])⟩
    exact below_zero
  · intro f b u hf hI
    obtain ⟨x3, x4, x5, x6, x7, x8, x9, x10, x11, x12, x13, x14, x15, x16, x17, rfl, gD, g0, g1, g2, g3, g4, g5, g6, g7, g8, g9, g10, g11, g12, g13, g14, gF⟩ := hI
    obtain ⟨Y, s, h, pl, r, d, rfl, hs4, HF⟩ := gF (hf 15 (by decide))
    clear gD gF hf g0 g1 g2 g3 g4 g5 g6 g7 g8 g9 g10 g11 g12 g13 g14
    go_wp2_with fail
    refine (next_fl 40 (w0 := w) HF.dr (by omega)).mono ?_
    rintro e wn ⟨c, rfl, c0, c1, hd2, hon⟩
    replace HF := HF.on nB hd2 ⟨Nat.le_of_eq hon.sz.symm, fun b o hb _ => hon.ce b o hb, fun b o hb _ => hon.fr b o hb⟩
    clear hon hd2
    by_cases hc0 : c = 0
    · subst hc0
      go_wp2_with fail
      refine (pick_dr [-1, 0, 100000, 100001] _ 4 rfl rfl (by decide) (by decide) HF.dr).mono ?_
      rintro e wx ⟨a, rfl, _, hd3, hg3⟩
      replace HF := HF.on nB hd3 (Stay.grown hg3 hg3.size)
      clear hg3 hd3
      have cj := HF.c1
      have fj := HF.yf 1
      have HG := HF.set1 hBw (.int .i64 a)
      have HF2 := Lib.hid HG
      clear HF
      have s0 := HG.c0
      have s1 := HG.c1
      have s2 := HG.c2
      have s3 := HG.c3
      have s4 := HG.c4
      obtain ⟨o0, z0⟩ := HG.bo 0 (by decide)
      have fb0 := HG.bf 0
      obtain ⟨o1, z1⟩ := HG.bo 1 (by decide)
      have fb1 := HG.bf 1
      obtain ⟨o2, z2⟩ := HG.bo 2 (by decide)
      have fb2 := HG.bf 2
      obtain ⟨o3, z3⟩ := HG.bo 3 (by decide)
      have fb3 := HG.bf 3
      obtain ⟨o4, z4⟩ := HG.bo 4 (by decide)
      have fb4 := HG.bf 4
      have HFIN := Lib.hid (((((HG.dr.store hBw (j := 0) (.string s)).store hBw (j := 1) (.int .i64 a)).store hBw (j := 2) (.int .i64 pl)).store hBw (j := 3) (.int .i64 r)).store hBw (j := 4) (.int .i64 d))
      obtain ⟨t0, t1, t2, t3, t4⟩ := used_cells (v0 := (.string s)) (v1 := (.int .i64 a)) (v2 := (.int .i64 pl)) (v3 := (.int .i64 r)) (v4 := (.int .i64 d)) z0 z1 z2 z3 z4
      clear HG
      go_wp2
      refine bodyPost_ret (v := .agg #[.string (⟨s, a, pl, r, d⟩ : Used).name, .int .i64 (⟨s, a, pl, r, d⟩ : Used).hours, .int .i64 (⟨s, a, pl, r, d⟩ : Used).play, .int .i64 (⟨s, a, pl, r, d⟩ : Used).rust, .int .i64 (⟨s, a, pl, r, d⟩ : Used).dents]) (by simp [results, Try.results86, go_sem, t0, t1, t2, t3, t4]) rfl ⟨⟨s, a, pl, r, d⟩, rfl, (by show (ByteArray.size _) ≤ _; exact Nat.le_trans hs4 (by decide)), HD0.out.trans HFIN.out, HFIN.out.2.1⟩
    have hb0 : (c == 0) = false := beq_eq_false_iff_ne.2 hc0
    by_cases hc1 : c = 1
    · subst hc1
      go_wp2_with fail
      refine (pick_dr [-1, 0, 10, 11] _ 4 rfl rfl (by decide) (by decide) HF.dr).mono ?_
      rintro e wx ⟨a, rfl, _, hd3, hg3⟩
      replace HF := HF.on nB hd3 (Stay.grown hg3 hg3.size)
      clear hg3 hd3
      have cj := HF.c3
      have fj := HF.yf 3
      have HG := HF.set3 hBw (.int .i64 a)
      have HF2 := Lib.hid HG
      clear HF
      have s0 := HG.c0
      have s1 := HG.c1
      have s2 := HG.c2
      have s3 := HG.c3
      have s4 := HG.c4
      obtain ⟨o0, z0⟩ := HG.bo 0 (by decide)
      have fb0 := HG.bf 0
      obtain ⟨o1, z1⟩ := HG.bo 1 (by decide)
      have fb1 := HG.bf 1
      obtain ⟨o2, z2⟩ := HG.bo 2 (by decide)
      have fb2 := HG.bf 2
      obtain ⟨o3, z3⟩ := HG.bo 3 (by decide)
      have fb3 := HG.bf 3
      obtain ⟨o4, z4⟩ := HG.bo 4 (by decide)
      have fb4 := HG.bf 4
      have HFIN := Lib.hid (((((HG.dr.store hBw (j := 0) (.string s)).store hBw (j := 1) (.int .i64 h)).store hBw (j := 2) (.int .i64 pl)).store hBw (j := 3) (.int .i64 a)).store hBw (j := 4) (.int .i64 d))
      obtain ⟨t0, t1, t2, t3, t4⟩ := used_cells (v0 := (.string s)) (v1 := (.int .i64 h)) (v2 := (.int .i64 pl)) (v3 := (.int .i64 a)) (v4 := (.int .i64 d)) z0 z1 z2 z3 z4
      clear HG
      go_wp2
      refine bodyPost_ret (v := .agg #[.string (⟨s, h, pl, a, d⟩ : Used).name, .int .i64 (⟨s, h, pl, a, d⟩ : Used).hours, .int .i64 (⟨s, h, pl, a, d⟩ : Used).play, .int .i64 (⟨s, h, pl, a, d⟩ : Used).rust, .int .i64 (⟨s, h, pl, a, d⟩ : Used).dents]) (by simp [results, Try.results86, go_sem, t0, t1, t2, t3, t4]) rfl ⟨⟨s, h, pl, a, d⟩, rfl, (by show (ByteArray.size _) ≤ _; exact Nat.le_trans hs4 (by decide)), HD0.out.trans HFIN.out, HFIN.out.2.1⟩
    have hb1 : (c == 1) = false := beq_eq_false_iff_ne.2 hc1
    by_cases hc2 : c = 2
    · subst hc2
      go_wp2_with fail
      refine (l01DrawWord_dr w p _ HF.dr).mono ?_
      rintro e wx ⟨nm, rfl, hnm, hd3, hg3⟩
      replace HF := HF.on nB hd3 (Stay.grown hg3 hg3.size)
      clear hg3 hd3
      have cj := HF.c0
      have fj := HF.yf 0
      have HG := HF.set0 hBw (.string nm)
      have HF2 := Lib.hid HG
      clear HF
      have s0 := HG.c0
      have s1 := HG.c1
      have s2 := HG.c2
      have s3 := HG.c3
      have s4 := HG.c4
      obtain ⟨o0, z0⟩ := HG.bo 0 (by decide)
      have fb0 := HG.bf 0
      obtain ⟨o1, z1⟩ := HG.bo 1 (by decide)
      have fb1 := HG.bf 1
      obtain ⟨o2, z2⟩ := HG.bo 2 (by decide)
      have fb2 := HG.bf 2
      obtain ⟨o3, z3⟩ := HG.bo 3 (by decide)
      have fb3 := HG.bf 3
      obtain ⟨o4, z4⟩ := HG.bo 4 (by decide)
      have fb4 := HG.bf 4
      have HFIN := Lib.hid (((((HG.dr.store hBw (j := 0) (.string nm)).store hBw (j := 1) (.int .i64 h)).store hBw (j := 2) (.int .i64 pl)).store hBw (j := 3) (.int .i64 r)).store hBw (j := 4) (.int .i64 d))
      obtain ⟨t0, t1, t2, t3, t4⟩ := used_cells (v0 := (.string nm)) (v1 := (.int .i64 h)) (v2 := (.int .i64 pl)) (v3 := (.int .i64 r)) (v4 := (.int .i64 d)) z0 z1 z2 z3 z4
      clear HG
      go_wp2
      refine bodyPost_ret (v := .agg #[.string (⟨nm, h, pl, r, d⟩ : Used).name, .int .i64 (⟨nm, h, pl, r, d⟩ : Used).hours, .int .i64 (⟨nm, h, pl, r, d⟩ : Used).play, .int .i64 (⟨nm, h, pl, r, d⟩ : Used).rust, .int .i64 (⟨nm, h, pl, r, d⟩ : Used).dents]) (by simp [results, Try.results86, go_sem, t0, t1, t2, t3, t4]) rfl ⟨⟨nm, h, pl, r, d⟩, rfl, (by show (ByteArray.size _) ≤ _; exact Nat.le_trans hnm (by decide)), HD0.out.trans HFIN.out, HFIN.out.2.1⟩
    have hb2 : (c == 2) = false := beq_eq_false_iff_ne.2 hc2
    have HG := HF
    have HF2 := Lib.hid HG
    clear HF
    have s0 := HG.c0
    have s1 := HG.c1
    have s2 := HG.c2
    have s3 := HG.c3
    have s4 := HG.c4
    obtain ⟨o0, z0⟩ := HG.bo 0 (by decide)
    have fb0 := HG.bf 0
    obtain ⟨o1, z1⟩ := HG.bo 1 (by decide)
    have fb1 := HG.bf 1
    obtain ⟨o2, z2⟩ := HG.bo 2 (by decide)
    have fb2 := HG.bf 2
    obtain ⟨o3, z3⟩ := HG.bo 3 (by decide)
    have fb3 := HG.bf 3
    obtain ⟨o4, z4⟩ := HG.bo 4 (by decide)
    have fb4 := HG.bf 4
    have HFIN := Lib.hid (((((HG.dr.store hBw (j := 0) (.string s)).store hBw (j := 1) (.int .i64 h)).store hBw (j := 2) (.int .i64 pl)).store hBw (j := 3) (.int .i64 r)).store hBw (j := 4) (.int .i64 d))
    obtain ⟨t0, t1, t2, t3, t4⟩ := used_cells (v0 := (.string s)) (v1 := (.int .i64 h)) (v2 := (.int .i64 pl)) (v3 := (.int .i64 r)) (v4 := (.int .i64 d)) z0 z1 z2 z3 z4
    clear HG
    go_wp2
    refine bodyPost_ret (v := .agg #[.string (⟨s, h, pl, r, d⟩ : Used).name, .int .i64 (⟨s, h, pl, r, d⟩ : Used).hours, .int .i64 (⟨s, h, pl, r, d⟩ : Used).play, .int .i64 (⟨s, h, pl, r, d⟩ : Used).rust, .int .i64 (⟨s, h, pl, r, d⟩ : Used).dents]) (by simp [results, Try.results86, go_sem, t0, t1, t2, t3, t4]) rfl ⟨⟨s, h, pl, r, d⟩, rfl, (by show (ByteArray.size _) ≤ _; exact Nat.le_trans hs4 (by decide)), HD0.out.trans HFIN.out, HFIN.out.2.1⟩
end Go.Proofs.Ytncggcbpbejmcaa
