/- Plain lemmas on boxes: fresh blocks of cells on top of a world. No statement of the seat is proved here. -/
import Derived.Test.YtnpfgngfolgdfaaStructs
namespace Go.Proofs.Ytnpfgngfolgdfaa
open Go.RowKit

theorem box_new (w : World) (c : Array Value) (t : TypeId) (j : Nat) : (w.alloc (.cells c t)).cell? ⟨w.heap.size, j, none⟩ = c[j]? := by
  rw [World.cell?_alloc_new]
theorem box_old (w : World) (o : Obj) (p : Addr) (h : p.block < w.heap.size) : (w.alloc o).cell? p = w.cell? p := World.cell?_alloc_lt w o p h
theorem frozen_out (w : World) (p : Addr) (h : w.heap.size ≤ p.block) : w.frozen? p = false := by
  unfold World.frozen?
  rw [Array.getElem?_eq_none h]
theorem frozen_box (w : World) (c : Array Value) (t : TypeId) (p : Addr) (h : w.frozen? p = false) : (w.alloc (.cells c t)).frozen? p = false := by rw [frozen?_alloc_cells, h]
/-- one box on a world, seen from a world above it -/
theorem box1 {w w1 : World} {c : Array Value} {t : TypeId} (hb : Below (w.alloc (.cells c t)).heap.size (w.alloc (.cells c t)) w1) :
    (∀ j, w1.cell? ⟨w.heap.size, j, none⟩ = c[j]?) ∧ (∀ j, w1.frozen? ⟨w.heap.size, j, none⟩ = false) ∧ Below w.heap.size w w1 ∧ w.heap.size + 1 ≤ w1.heap.size := by
  have hs := hb.size
  simp only [World.size_alloc] at hs
  refine ⟨fun j => ?_, fun j => ?_, ((Below.refl _ _).alloc (Nat.le_refl _) _).trans (hb.mono (by simp)), hs⟩
  · rw [hb.cell (by simp), box_new]
  · rw [hb.frozen (by simp)]; exact frozen_box _ _ _ _ (frozen_out _ _ (Nat.le_refl _))
/-- two boxes on a world, seen from a world above them -/
theorem box2 {w w1 : World} {c c2 : Array Value} {t t2 : TypeId} (hb : Below ((w.alloc (.cells c t)).alloc (.cells c2 t2)).heap.size ((w.alloc (.cells c t)).alloc (.cells c2 t2)) w1) :
    (∀ j, w1.cell? ⟨w.heap.size, j, none⟩ = c[j]?) ∧ (∀ j, w1.frozen? ⟨w.heap.size, j, none⟩ = false) ∧ (∀ j, w1.cell? ⟨w.heap.size + 1, j, none⟩ = c2[j]?) ∧ (∀ j, w1.frozen? ⟨w.heap.size + 1, j, none⟩ = false) ∧ Below w.heap.size w w1 ∧ w.heap.size + 2 ≤ w1.heap.size := by
  have hs := hb.size
  simp only [World.size_alloc] at hs
  have e : (w.alloc (.cells c t)).heap.size = w.heap.size + 1 := World.size_alloc _ _
  refine ⟨fun j => ?_, fun j => ?_, fun j => ?_, fun j => ?_, (((Below.refl _ _).alloc (Nat.le_refl _) _).alloc (by simp) _).trans (hb.mono (by simp; omega)), hs⟩
  · rw [hb.cell (by simp; try omega), box_old _ _ _ (by simp), box_new]
  · rw [hb.frozen (by simp; try omega)]; exact frozen_box _ _ _ _ (frozen_box _ _ _ _ (frozen_out _ _ (Nat.le_refl _)))
  · rw [hb.cell (by simp; try omega), ← e, box_new]
  · rw [hb.frozen (by simp; try omega)]; exact frozen_box _ _ _ _ (frozen_box _ _ _ _ (frozen_out _ _ (by simp)))
end Go.Proofs.Ytnpfgngfolgdfaa
