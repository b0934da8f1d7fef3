/- What the reference's draws of a stock and of pieces to use hand out (chapter 24). No statement of the seat is proved here. -/
import Derived.Test.YtblaojjpclipaaaM1
import Derived.Test.YtblaojjpclipaaaReg
namespace Go.Proofs.Ytblaojjpclipaaa
open Go.RowKit

theorem ok_appB {xs : List Bin} {y : Bin} (h : ∀ x ∈ xs, okBin x) (hy : okBin y) : ∀ x ∈ xs ++ [y], okBin x := by
  intro x hx
  rcases List.mem_append.1 hx with hx | hx
  · exact h x hx
  · rw [List.mem_singleton.1 hx]; exact hy
theorem cells5 {W : World} {B : Nat} {v0 v1 v2 v3 v4 o0 o1 o2 o3 o4 : Value} (z0 : W.cell? ⟨B, 0, none⟩ = some o0) (z1 : W.cell? ⟨B, 1, none⟩ = some o1) (z2 : W.cell? ⟨B, 2, none⟩ = some o2) (z3 : W.cell? ⟨B, 3, none⟩ = some o3) (z4 : W.cell? ⟨B, 4, none⟩ = some o4) : (((((W.setCell ⟨B, 0, none⟩ v0).setCell ⟨B, 1, none⟩ v1).setCell ⟨B, 2, none⟩ v2).setCell ⟨B, 3, none⟩ v3).setCell ⟨B, 4, none⟩ v4).cell? ⟨B, 0, none⟩ = some v0 ∧ (((((W.setCell ⟨B, 0, none⟩ v0).setCell ⟨B, 1, none⟩ v1).setCell ⟨B, 2, none⟩ v2).setCell ⟨B, 3, none⟩ v3).setCell ⟨B, 4, none⟩ v4).cell? ⟨B, 1, none⟩ = some v1 ∧ (((((W.setCell ⟨B, 0, none⟩ v0).setCell ⟨B, 1, none⟩ v1).setCell ⟨B, 2, none⟩ v2).setCell ⟨B, 3, none⟩ v3).setCell ⟨B, 4, none⟩ v4).cell? ⟨B, 2, none⟩ = some v2 ∧ (((((W.setCell ⟨B, 0, none⟩ v0).setCell ⟨B, 1, none⟩ v1).setCell ⟨B, 2, none⟩ v2).setCell ⟨B, 3, none⟩ v3).setCell ⟨B, 4, none⟩ v4).cell? ⟨B, 3, none⟩ = some v3 ∧ (((((W.setCell ⟨B, 0, none⟩ v0).setCell ⟨B, 1, none⟩ v1).setCell ⟨B, 2, none⟩ v2).setCell ⟨B, 3, none⟩ v3).setCell ⟨B, 4, none⟩ v4).cell? ⟨B, 4, none⟩ = some v4 := by
  have other : ∀ (X : World) (i j : Nat) (v u : Value), i ≠ j → X.cell? ⟨B, i, none⟩ = some u → (X.setCell ⟨B, j, none⟩ v).cell? ⟨B, i, none⟩ = some u := fun X i j v u hij hu => (World.cell?_setCell_other X ⟨B, j, none⟩ ⟨B, i, none⟩ v (by simp; try omega)).trans hu
  have same : ∀ (X : World) (j : Nat) (v u : Value), X.cell? ⟨B, j, none⟩ = some u → (X.setCell ⟨B, j, none⟩ v).cell? ⟨B, j, none⟩ = some v := fun X j v u hu => World.cell?_setCell_same X _ v hu
  exact ⟨(other _ 0 4 v4 v0 (by omega) (other _ 0 3 v3 v0 (by omega) (other _ 0 2 v2 v0 (by omega) (other _ 0 1 v1 v0 (by omega) (same _ 0 v0 o0 z0))))), (other _ 1 4 v4 v1 (by omega) (other _ 1 3 v3 v1 (by omega) (other _ 1 2 v2 v1 (by omega) (same _ 1 v1 o1 (other _ 1 0 v0 o1 (by omega) z1))))), (other _ 2 4 v4 v2 (by omega) (other _ 2 3 v3 v2 (by omega) (same _ 2 v2 o2 (other _ 2 1 v1 o2 (by omega) (other _ 2 0 v0 o2 (by omega) z2))))), (other _ 3 4 v4 v3 (by omega) (same _ 3 v3 o3 (other _ 3 2 v2 o3 (by omega) (other _ 3 1 v1 o3 (by omega) (other _ 3 0 v0 o3 (by omega) z3))))), (same _ 4 v4 o4 (other _ 4 3 v3 o4 (by omega) (other _ 4 2 v2 o4 (by omega) (other _ 4 1 v1 o4 (by omega) (other _ 4 0 v0 o4 (by omega) z4)))))⟩
set_option maxHeartbeats 8000000 in
set_option maxRecDepth 20000 in
theorem l24Good_dr (w0 : World) (p : Nat) (w : World) (cd : ByteArray) (hD : Dr w0 p w) :
    Calls Try.prog 90 #[.pointer (some ⟨p, 0, none⟩), .string cd] w fun e w' => ∃ x : Bin, e = .returned (.agg #[.string x.code, .int .i64 x.amount, .int .i64 x.reserved, .int .i64 x.point, .int .i64 x.lot]) ∧ x.code = cd ∧ Dr w0 p w' ∧ w.grownBy w' (some p) := by
  have hpw : p < w.heap.size := hD.1.lt
  have HD0 := Lib.hid hD
  have DA : Hid (Dr w p (w.alloc (.cells #[.string ⟨#[]⟩, .int .i64 0, .int .i64 0, .int .i64 0, .int .i64 0] 54))) := Lib.hid ((Dr.refl hD.1).alloc _)
  have hbx : ∀ j, (w.alloc (.cells #[.string ⟨#[]⟩, .int .i64 0, .int .i64 0, .int .i64 0, .int .i64 0] 54)).cell? ⟨w.heap.size, j, none⟩ = #[Value.string ⟨#[]⟩, .int .i64 0, .int .i64 0, .int .i64 0, .int .i64 0][j]? := fun j => box_new _ _ _ j
  have hfr : ∀ j, (w.alloc (.cells #[.string ⟨#[]⟩, .int .i64 0, .int .i64 0, .int .i64 0, .int .i64 0] 54)).frozen? ⟨w.heap.size, j, none⟩ = false := fun j => frozen_box _ _ _ _ (frozen_out _ _ (Nat.le_refl _))
  have HBX := Lib.hid hbx
  have HFR := Lib.hid hfr
  have hszA : (w.alloc (.cells #[.string ⟨#[]⟩, .int .i64 0, .int .i64 0, .int .i64 0, .int .i64 0] 54)).heap.size = w.heap.size + 1 := by simp
  clear hbx hfr hD
  go_enter Try.func90, Try.ntmps90
  go_wp2_with fail
  generalize w.alloc (.cells #[.string ⟨#[]⟩, .int .i64 0, .int .i64 0, .int .i64 0, .int .i64 0] 54) = wA at *
  obtain ⟨B, hB⟩ : ∃ B, w.heap.size = B := ⟨_, rfl⟩
  have hwB : w.heap.size ≤ B := by omega
  rw [hB] at HBX HFR hszA hpw ⊢
  clear hB
  refine (next_dr 20 DA.out (by omega)).mono ?_
  rintro e w1 ⟨a, rfl, a0, a1, hd, hg⟩
  have D1 := Lib.hid hd
  have G1 := Lib.hid hg
  clear hd hg
  go_wp2_with fail
  refine (next_dr 12 D1.out (by omega)).mono ?_
  rintro e w2 ⟨pt, rfl, p0, p1, hd, hg⟩
  have D2 := Lib.hid hd
  have G2 := Lib.hid (grown_tr G1.out hg)
  clear hd hg D1 G1
  go_wp2_with fail
  refine (next_dr 9 D2.out (by omega)).mono ?_
  rintro e w3 ⟨lt, rfl, l0, l1, hd, hg⟩
  have G3 := Lib.hid (grown_tr G2.out hg)
  have hw1 : IntKind.i64.wrap (1 + lt) = 1 + lt := IntWalk.i64_in _ (by omega)
  have hw2 : IntKind.i64.wrap (a + 1) = a + 1 := IntWalk.i64_in _ (by omega)
  have D3 : Hid (Dr w p (w3.alloc (.cells #[.string cd, .int .i64 a, .int .i64 0, .int .i64 pt, .int .i64 (1 + lt)] 54))) := Lib.hid (hd.alloc _)
  have hpY : p < w3.heap.size := hd.1.lt
  have hBY : B < w3.heap.size := Nat.lt_of_lt_of_le (show B < wA.heap.size by omega) G3.out.size
  have hby : ∀ j, (w3.alloc (.cells #[.string cd, .int .i64 a, .int .i64 0, .int .i64 pt, .int .i64 (1 + lt)] 54)).cell? ⟨w3.heap.size, j, none⟩ = #[Value.string cd, .int .i64 a, .int .i64 0, .int .i64 pt, .int .i64 (1 + lt)][j]? := fun j => box_new _ _ _ j
  have HBY := Lib.hid hby
  have hfy : ∀ j, (w3.alloc (.cells #[.string cd, .int .i64 a, .int .i64 0, .int .i64 pt, .int .i64 (1 + lt)] 54)).frozen? ⟨w3.heap.size, j, none⟩ = false := fun j => frozen_box _ _ _ _ (frozen_out _ _ (Nat.le_refl _))
  have HFY := Lib.hid hfy
  have hne : some B ≠ some p := fun e => by have := Option.some.inj e; omega
  have hcb : ∀ j v, wA.cell? ⟨B, j, none⟩ = some v → (w3.alloc (.cells #[.string cd, .int .i64 a, .int .i64 0, .int .i64 pt, .int .i64 (1 + lt)] 54)).cell? ⟨B, j, none⟩ = some v := fun j v hv => (box_old _ _ _ hBY).trans ((G3.out.cell_far ⟨B, j, none⟩ (by simp only []; omega) hne).trans hv)
  have hfb : ∀ j, (w3.alloc (.cells #[.string cd, .int .i64 a, .int .i64 0, .int .i64 pt, .int .i64 (1 + lt)] 54)).frozen? ⟨B, j, none⟩ = false := fun j => frozen_box _ _ _ _ ((G3.out.frozen_far ⟨B, j, none⟩ (by simp only []; omega) hne).trans (HFR.out j))
  have HCB := Lib.hid hcb
  have HFB := Lib.hid hfb
  have hszY : (w3.alloc (.cells #[.string cd, .int .i64 a, .int .i64 0, .int .i64 pt, .int .i64 (1 + lt)] 54)).heap.size = w3.heap.size + 1 := by simp
  have y1 := (hby 1).trans (show _ = some (Value.int .i64 a) from rfl)
  clear hd hg D2 G2 G3 hby hfy hcb hfb
  go_wp2_with fail
  generalize w3.alloc (.cells #[.string cd, .int .i64 a, .int .i64 0, .int .i64 pt, .int .i64 (1 + lt)] 54) = wY at *
  obtain ⟨Y, hY⟩ : ∃ Y, w3.heap.size = Y := ⟨_, rfl⟩
  rw [hY] at HBY HFY hszY hpY hBY y1 ⊢
  clear hY
  refine (next_dr (a + 1) D3.out (by omega)).mono ?_
  rintro e w5 ⟨r, rfl, r0, r1, hd, hg⟩
  have hneY : some Y ≠ some p := fun e => by have := Option.some.inj e; omega
  have hcy : ∀ j v, wY.cell? ⟨Y, j, none⟩ = some v → w5.cell? ⟨Y, j, none⟩ = some v := fun j v hv => (hg.cell_far ⟨Y, j, none⟩ (by simp only []; omega) hneY).trans hv
  have y0 := hcy 0 _ ((HBY.out 0).trans (show _ = some (Value.string cd) from rfl))
  have y1b := hcy 1 _ ((HBY.out 1).trans (show _ = some (Value.int .i64 a) from rfl))
  have y2 := hcy 2 _ ((HBY.out 2).trans (show _ = some (Value.int .i64 0) from rfl))
  have y3 := hcy 3 _ ((HBY.out 3).trans (show _ = some (Value.int .i64 pt) from rfl))
  have y4 := hcy 4 _ ((HBY.out 4).trans (show _ = some (Value.int .i64 (1 + lt)) from rfl))
  have f2 : w5.frozen? ⟨Y, 2, none⟩ = false := (hg.frozen_far ⟨Y, 2, none⟩ (by simp only []; omega) hneY).trans (HFY.out 2)
  have hcB : ∀ j v, wA.cell? ⟨B, j, none⟩ = some v → w5.cell? ⟨B, j, none⟩ = some v := fun j v hv => (hg.cell_far ⟨B, j, none⟩ (by simp only []; omega) hne).trans (HCB.out j v hv)
  have x0 := hcB 0 _ ((HBX.out 0).trans (show _ = some (Value.string ⟨#[]⟩) from rfl))
  have x1 := hcB 1 _ ((HBX.out 1).trans (show _ = some (Value.int .i64 0) from rfl))
  have x2 := hcB 2 _ ((HBX.out 2).trans (show _ = some (Value.int .i64 0) from rfl))
  have x3 := hcB 3 _ ((HBX.out 3).trans (show _ = some (Value.int .i64 0) from rfl))
  have x4 := hcB 4 _ ((HBX.out 4).trans (show _ = some (Value.int .i64 0) from rfl))
  have hfB : ∀ j, w5.frozen? ⟨B, j, none⟩ = false := fun j => (hg.frozen_far ⟨B, j, none⟩ (by simp only []; omega) hne).trans (HFB.out j)
  have g0 := hfB 0
  have g1 := hfB 1
  have g2 := hfB 2
  have g3 := hfB 3
  have g4 := hfB 4
  have hYB : Y ≠ B := by omega
  have hBYn : B ≠ Y := by omega
  have D6 := Lib.hid ((((((hd.store (g := Y) (j := 2) (by omega) (.int .i64 r)).store (g := B) (j := 0) hwB (.string cd)).store (g := B) (j := 1) hwB (.int .i64 a)).store (g := B) (j := 2) hwB (.int .i64 r)).store (g := B) (j := 3) hwB (.int .i64 pt)).store (g := B) (j := 4) hwB (.int .i64 (1 + lt)))
  have fr : ∀ (j : Nat) (v : Value), w5.cell? ⟨B, j, none⟩ = some v → (w5.setCell ⟨Y, 2, none⟩ (.int .i64 r)).cell? ⟨B, j, none⟩ = some v := fun j v hv => (World.cell?_setCell_other w5 ⟨Y, 2, none⟩ ⟨B, j, none⟩ _ (by simp [hYB, hBYn])).trans hv
  obtain ⟨u0, u1, u2, u3, u4⟩ := cells5 (v0 := .string cd) (v1 := .int .i64 a) (v2 := .int .i64 r) (v3 := .int .i64 pt) (v4 := .int .i64 (1 + lt)) (fr 0 _ x0) (fr 1 _ x1) (fr 2 _ x2) (fr 3 _ x3) (fr 4 _ x4)
  clear hd hg hcy hcB hfB fr HBX HFR HBY HFY HCB HFB DA D3 y1
  go_wp2
  refine bodyPost_ret (v := .agg #[.string (⟨cd, a, r, pt, 1 + lt⟩ : Bin).code, .int .i64 (⟨cd, a, r, pt, 1 + lt⟩ : Bin).amount, .int .i64 (⟨cd, a, r, pt, 1 + lt⟩ : Bin).reserved, .int .i64 (⟨cd, a, r, pt, 1 + lt⟩ : Bin).point, .int .i64 (⟨cd, a, r, pt, 1 + lt⟩ : Bin).lot]) (by simp [results, Try.results90, go_sem, u0, u1, u2, u3, u4]) rfl ⟨⟨cd, a, r, pt, 1 + lt⟩, rfl, rfl, HD0.out.trans D6.out, D6.out.2.1⟩
end Go.Proofs.Ytblaojjpclipaaa
