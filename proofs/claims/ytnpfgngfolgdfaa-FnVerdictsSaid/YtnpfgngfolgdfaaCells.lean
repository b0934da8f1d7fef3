/- Plain lemmas on the cells of a row of structs. No statement of the seat is proved here. -/
import Derived.Test.YtnpfgngfolgdfaaOwn
import Derived.Test.YtnpfgngfolgdfaaBox
import Derived.Test.YtnpfgngfolgdfaaFind
namespace Go.Proofs.Ytnpfgngfolgdfaa
open Go.RowKit

section
variable {α : Type} {E : Enc α}
theorem Own.cellsAt {w : World} {base g n cap : Nat} {t : TypeId} {xs : List α} (h : Own E w base t (.slice (some ⟨g, 0, none⟩) n cap) xs) (k : Nat) (hk : k < xs.length) (j : Nat) (hj : j < E.sz) : w.cell? ⟨g, k * E.sz + j, none⟩ = (E.f xs[k])[j]? := by
  obtain rfl := h.row
  have hm : (k + 1) * E.sz ≤ xs.length * E.sz := Nat.mul_le_mul_right _ hk
  rw [Nat.add_mul, Nat.one_mul] at hm
  have hh : w.ownsRow base t E.sz (.slice (some ⟨g, 0, none⟩) xs.length cap) xs.length (E.all xs) := h
  rw [hh.cellAt _ (by omega), E.at_ xs k hk j hj]
theorem Enc.set1 (E : Enc α) (j : Nat) (u : Value) (x' : α) (hj : j < E.sz) : ∀ (xs : List α) (k : Nat) (hk : k < xs.length), E.f x' = (E.f xs[k]).set j u → (E.all xs).set (k * E.sz + j) u = E.all (xs.set k x')
  | x :: xs, 0, _, h => by
    simp only [Enc.all, List.flatMap_cons, Nat.zero_mul, Nat.zero_add, List.set_cons_zero, List.getElem_cons_zero] at *
    rw [List.set_append_left _ _ (by rw [E.hl]; exact hj), h]
  | x :: xs, k + 1, hk, h => by
    have ih := Enc.set1 E j u x' hj xs k (by simpa using hk) (by simpa using h)
    simp only [Enc.all, List.flatMap_cons, List.set_cons_succ] at *
    rw [List.set_append_right _ _ (by rw [E.hl, Nat.add_mul]; omega), E.hl]
    have e : (k + 1) * E.sz + j - E.sz = k * E.sz + j := by rw [Nat.add_mul]; omega
    rw [e, ih]
/-- one cell of one element is stored -/
theorem Own.store1 {w : World} {base g n cap : Nat} {t : TypeId} {xs : List α} (h : Own E w base t (.slice (some ⟨g, 0, none⟩) n cap) xs) (k : Nat) (hk : k < xs.length) (j : Nat) (hj : j < E.sz) (u : Value) (x' : α) (hx : E.f x' = (E.f xs[k]).set j u) :
    Own E (w.setCell ⟨g, k * E.sz + j, none⟩ u) base t (.slice (some ⟨g, 0, none⟩) n cap) (xs.set k x') ∧ w.grownBy (w.setCell ⟨g, k * E.sz + j, none⟩ u) (some g) := by
  obtain rfl := h.row
  have hh : w.ownsRow base t E.sz (.slice (some ⟨g, 0, none⟩) xs.length cap) xs.length (E.all xs) := h
  obtain ⟨h1, h2⟩ := hh.stored (k * E.sz + j) u
  refine ⟨?_, h2⟩
  unfold Own
  rw [List.length_set, ← Enc.set1 E j u x' hj xs k hk hx]
  exact h1
theorem any_take_no {p : α → Bool} {xs : List α} {k : Nat} (hk : k < xs.length) (h : p xs[k] = false) : (xs.take (k + 1)).any p = (xs.take k).any p := by
  rw [List.take_succ_eq_append_getElem hk, List.any_append]; simp [h]
theorem any_take_yes {p : α → Bool} {xs : List α} {k : Nat} (hk : k < xs.length) (h : p xs[k] = true) : (xs.take (k + 1)).any p = true := by
  rw [List.take_succ_eq_append_getElem hk, List.any_append]; simp [h]
theorem Own.apart {w : World} {base : Nat} {t : TypeId} {v : Value} {xs : List α} (h : Own E w base t v xs) : v.ownBlock ≠ some w.heap.size := fun e => by
  have := (World.ownsRow.lt h _ e).2
  omega
end
/-- one element in a block of its own, as a slice -/
theorem Sl.one_new {α : Type} (E : Enc α) (w : World) (y : α) (cells : Array Value) (t : TypeId) (hc : cells.toList = E.f y) : Sl E (w.alloc (.cells cells t)) (.slice (some ⟨w.heap.size, 0, none⟩) 1 1) [y] := by
  refine ⟨E.len _, by simp [big40], _, 1, rfl, Nat.le_refl _, fun _ => ⟨w.heap.size, 0, rfl, by simp, fun j u hu => ?_⟩⟩
  rw [Nat.zero_add, World.cell?_alloc_new, ← hu, E.one_, ← hc]
  simp
theorem Sl.nil_ {α : Type} (E : Enc α) (w : World) : Sl E w (.slice none 0 0) [] := ⟨E.len _, Nat.zero_le _, none, 0, rfl, Nat.le_refl _, fun h => absurd h (by simp)⟩
end Go.Proofs.Ytnpfgngfolgdfaa
