/- Plain lemmas on slices of integers of the call's own: a part of them, a store, a load. No statement of the seat is proved here. -/
import Derived.Test.YtijmafppdbllfaaOwn
namespace Go.Proofs.Ytijmafppdbllfaa
open Go.RowKit

theorem Own.take {α : Type} {E : Enc α} {w : World} {base g n cap : Nat} {t : TypeId} {xs : List α} (h : Own E w base t (.slice (some ⟨g, 0, none⟩) n cap) xs) (k : Nat) (hk : k ≤ n) : Own E w base t (.slice (some ⟨g, 0, none⟩) k cap) (xs.take k) := by
  have hn := h.row
  have hl : (xs.take k).length = k := by rw [List.length_take]; omega
  refine ⟨E.len _, ?_⟩
  rcases h.2 with ⟨hh, _⟩ | ⟨g', cap', cur, e, h1, h2, h3, h4, h5, h6⟩
  · cases hh
  · cases e
    have hmul : k * E.sz ≤ xs.length * E.sz := Nat.mul_le_mul_right _ (by omega)
    refine .inr ⟨g, cap, cur, by rw [hl], h1, h2, by rw [hl]; omega, h4, h5, ?_⟩
    rw [hl, ← E.take xs k (by omega), ← h6, List.take_take, Nat.min_eq_left hmul]
theorem Own.setI {w : World} {base g n cap : Nat} {xs : List Int} (h : Own eI w base 2 (.slice (some ⟨g, 0, none⟩) n cap) xs) (k : Nat) (x : Int) :
    Own eI (w.setCell ⟨g, k, none⟩ (.int .i64 x)) base 2 (.slice (some ⟨g, 0, none⟩) n cap) (xs.set k x) ∧ w.grownBy (w.setCell ⟨g, k, none⟩ (.int .i64 x)) (some g) := by
  obtain rfl := h.row
  obtain ⟨h1, h2⟩ := h.ints.stored k (.int .i64 x)
  refine ⟨own_of_ints (n := xs.length) ?_ (by simp), h2⟩
  rw [List.map_set]
  exact h1
theorem Own.cellI {w : World} {base g n cap : Nat} {xs : List Int} (h : Own eI w base 2 (.slice (some ⟨g, 0, none⟩) n cap) xs) (k : Nat) (hk : k < xs.length) : w.cell? ⟨g, k, none⟩ = some (.int .i64 xs[k]) ∧ w.frozen? ⟨g, k, none⟩ = false := by
  obtain rfl := h.row
  refine ⟨?_, h.ints.frozenAt k⟩
  rw [h.ints.cellAt k (by omega)]
  simp [List.getElem?_eq_getElem hk]
end Go.Proofs.Ytijmafppdbllfaa
