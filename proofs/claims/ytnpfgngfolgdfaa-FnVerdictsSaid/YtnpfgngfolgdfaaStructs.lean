/- Plain lemmas on lists of structs in memory. No statement of the seat is proved here. -/
import Derived.Test.YtnpfgngfolgdfaaList
import Derived.StillTailTactics
namespace Go.Proofs.Ytnpfgngfolgdfaa
open Go.RowKit

/-- what a weighing leaves -/
def szr (left : Int) (t : Nat) : Int := if (t : Int) ≤ left then left - t else -1
theorem szr_neg {left : Int} {t : Nat} (h : ¬ ((t : Nat) : Int) ≤ left) : szr left t = -1 := by unfold szr; rw [if_neg h]
theorem szr_pos {left : Int} {t : Nat} (h : ((t : Nat) : Int) ≤ left) : szr left t = left - t := by unfold szr; rw [if_pos h]
theorem sum_take_succ {α : Type} (f : α → Nat) (xs : List α) (k : Nat) (h : k < xs.length) : ((xs.take (k + 1)).map f).sum = ((xs.take k).map f).sum + f xs[k] := by
  rw [List.take_succ_eq_append_getElem h, List.map_append, List.sum_append]; simp only [List.map_cons, List.map_nil, List.sum_cons, List.sum_nil, Nat.add_zero]
theorem sum_take_le {α : Type} (f : α → Nat) : ∀ (xs : List α) (k : Nat), ((xs.take k).map f).sum ≤ (xs.map f).sum
  | [], k => by simp
  | x :: xs, 0 => by simp
  | x :: xs, k + 1 => by have := sum_take_le f xs k; simp only [List.take_succ_cons, List.map_cons, List.sum_cons]; omega
/-- store cells one behind the other -/
def setAll (l : List Value) (off : Nat) : List Value → List Value
  | [] => l
  | c :: cs => setAll (l.set off c) (off + 1) cs
theorem setAll_eq : ∀ (cs l : List Value) (off : Nat), off + cs.length ≤ l.length → setAll l off cs = l.take off ++ (cs ++ l.drop (off + cs.length))
  | [], l, off, _ => by simp [setAll]
  | c :: cs, l, off, h => by
    simp only [List.length_cons] at h
    rw [setAll, setAll_eq cs _ _ (by simp; omega)]
    rw [List.take_set, List.drop_set]
    rw [if_pos (by omega)]
    have e1 : (l.take (off + 1)).set off c = l.take off ++ [c] := by
      rw [List.take_succ_eq_append_getElem (by omega), List.set_append_right _ _ (by simp; omega)]
      have e : off - (l.take off).length = 0 := by simp; omega
      rw [e]; rfl
    rw [e1]
    have e2 : off + 1 + cs.length = off + (c :: cs).length := by simp; omega
    rw [e2]
    simp
theorem Enc.take {α : Type} (E : Enc α) : ∀ (xs : List α) (k : Nat), k ≤ xs.length → (E.all xs).take (k * E.sz) = E.all (xs.take k)
  | xs, 0, _ => by simp [Enc.all]
  | x :: xs, k + 1, h => by
    have ih := Enc.take E xs k (by simpa using h)
    simp only [Enc.all, List.flatMap_cons, List.take_succ_cons] at *
    rw [List.take_append, E.hl, ← ih]
    have e : (k + 1) * E.sz - E.sz = k * E.sz := by rw [Nat.add_mul]; omega
    rw [e, List.take_of_length_le (by rw [E.hl, Nat.add_mul]; omega)]
theorem Enc.drop {α : Type} (E : Enc α) : ∀ (xs : List α) (k : Nat), k ≤ xs.length → (E.all xs).drop (k * E.sz) = E.all (xs.drop k)
  | xs, 0, _ => by simp
  | x :: xs, k + 1, h => by
    have ih := Enc.drop E xs k (by simpa using h)
    simp only [Enc.all, List.flatMap_cons, List.drop_succ_cons] at *
    rw [List.drop_append, E.hl, ← ih]
    have e : (k + 1) * E.sz - E.sz = k * E.sz := by rw [Nat.add_mul]; omega
    rw [e, List.drop_eq_nil_of_le (by rw [E.hl, Nat.add_mul]; omega), List.nil_append]
theorem Enc.set {α : Type} (E : Enc α) (xs : List α) (k : Nat) (hk : k < xs.length) (x : α) : setAll (E.all xs) (k * E.sz) (E.f x) = E.all (xs.set k x) := by
  have hm : (k + 1) * E.sz ≤ xs.length * E.sz := Nat.mul_le_mul_right _ hk
  rw [Nat.add_mul, Nat.one_mul] at hm
  rw [setAll_eq _ _ _ (by rw [E.hl, E.len]; omega), E.take _ _ (by omega), E.hl]
  have e : k * E.sz + E.sz = (k + 1) * E.sz := by rw [Nat.add_mul]; omega
  rw [e, E.drop _ _ hk, List.set_eq_take_append_cons_drop, if_pos hk, E.app]
  simp [Enc.all]

/-- the first k copied, the others zero -/
def copG {α : Type} (z : α) (xs : List α) (k : Nat) : List α := xs.take k ++ List.replicate (xs.length - k) z
theorem copG_len {α : Type} (z : α) (xs : List α) (k : Nat) (h : k ≤ xs.length) : (copG z xs k).length = xs.length := by simp [copG]; omega
theorem copG_zero {α : Type} (z : α) (xs : List α) : copG z xs 0 = List.replicate xs.length z := by simp [copG]
theorem copG_all {α : Type} (z : α) (xs : List α) : copG z xs xs.length = xs := by simp [copG]
theorem copG_succ {α : Type} (z : α) (xs : List α) (k : Nat) (h : k < xs.length) : (copG z xs k).set k xs[k] = copG z xs (k + 1) := by
  unfold copG
  rw [List.set_append_right _ _ (by simp; omega)]
  rw [List.take_succ_eq_append_getElem h, List.append_assoc]
  congr 1
  have e : k - (xs.take k).length = 0 := by simp; omega
  rw [e]
  have e2 : xs.length - k = (xs.length - (k + 1)) + 1 := by omega
  rw [e2, List.replicate_succ]
  rfl
theorem madeCells_enc {α : Type} (E : Enc α) (z : α) (n : Nat) (hs : 0 < E.sz) : (madeCells (E.f z).toArray (n * E.sz)).toList = E.all (List.replicate n z) := by
  apply List.ext_getElem?
  intro i
  have hl : (E.all (List.replicate n z)).length = n * E.sz := by rw [E.len]; simp
  have hl2 : (madeCells (E.f z).toArray (n * E.sz)).toList.length = n * E.sz := by rw [Array.length_toList, size_madeCells]
  by_cases hi : i < n * E.sz
  · have hq : i / E.sz < n := by rw [Nat.div_lt_iff_lt_mul hs]; exact hi
    have hr : i % E.sz < E.sz := Nat.mod_lt _ hs
    have e : i = i / E.sz * E.sz + i % E.sz := by rw [Nat.mul_comm]; exact (Nat.div_add_mod i E.sz).symm
    have h1 := E.at_ (List.replicate n z) (i / E.sz) (by simpa using hq) (i % E.sz) hr
    rw [← e] at h1
    rw [h1]
    simp only [List.getElem_replicate]
    rw [Array.getElem?_toList]
    unfold madeCells
    simp only [Array.getElem?_map, Array.getElem?_range, hi, if_true, Option.map_some]
    rw [List.size_toArray, E.hl]
    rw [List.getElem?_eq_getElem (by rw [E.hl]; exact hr)]
    simp only [Option.some.injEq]
    rw [List.getElem!_toArray]
    rw [getElem!_pos (E.f z) _ (by rw [E.hl]; exact hr)]
  · rw [List.getElem?_eq_none (by omega), List.getElem?_eq_none (by omega)]
theorem Own.made {α : Type} (E : Enc α) {w : World} {base n : Nat} {t : TypeId} {v : Value} (z : α) (hs : 0 < E.sz) (h : w.ownsRow base t E.sz v n (madeCells (E.f z).toArray (n * E.sz)).toList) : Own E w base t v (List.replicate n z) := by
  unfold Own
  rw [madeCells_enc E z n hs] at h
  simpa using h
theorem below_step2 {B : Nat} {a w w2 : World} (h : Below B a w) (h2 : Below w.heap.size w w2) (hB : B ≤ w.heap.size) : Below B a w2 := h.trans (h2.mono hB)

section
variable {α : Type} {E : Enc α} {w : World} {base : Nat} {t : TypeId} {g cap n : Nat} {xs : List α}
theorem Own.row (h : Own E w base t (.slice (some ⟨g, 0, none⟩) n cap) xs) : n = xs.length := by
  rcases h.2 with ⟨hh, _⟩ | ⟨_, _, _, hh, _⟩
  · cases hh
  · cases hh; rfl
theorem Own.old (h : Own E w base t (.slice (some ⟨g, 0, none⟩) n cap) xs) (k : Nat) (hk : k < xs.length) (j : Nat) (hj : j < E.sz) : ∃ u, w.cell? ⟨g, k * E.sz + j, none⟩ = some u := by
  obtain rfl := h.row
  have hm : (k + 1) * E.sz ≤ xs.length * E.sz := Nat.mul_le_mul_right _ hk
  rw [Nat.add_mul, Nat.one_mul] at hm
  have hh : w.ownsRow base t E.sz (.slice (some ⟨g, 0, none⟩) xs.length cap) xs.length (E.all xs) := h
  rw [hh.cellAt _ (by omega), E.at_ xs k hk j hj, List.getElem?_eq_getElem (by rw [E.hl]; exact hj)]
  exact ⟨_, rfl⟩
theorem Own.free (h : Own E w base t (.slice (some ⟨g, 0, none⟩) n cap) xs) (j : Nat) : w.frozen? ⟨g, j, none⟩ = false := by
  obtain rfl := h.row
  have hh : w.ownsRow base t E.sz (.slice (some ⟨g, 0, none⟩) xs.length cap) xs.length (E.all xs) := h
  exact hh.frozenAt j
/-- the world behind some stores -/
def setCellsW (w : World) (g off : Nat) : List Value → World
  | [] => w
  | c :: cs => setCellsW (w.setCell ⟨g, off, none⟩ c) g (off + 1) cs
theorem storesOwn : ∀ (cs : List Value) (w : World) (off : Nat) (l : List Value) {sz n : Nat}, w.ownsRow base t sz (.slice (some ⟨g, 0, none⟩) n cap) n l →
    (setCellsW w g off cs).ownsRow base t sz (.slice (some ⟨g, 0, none⟩) n cap) n (setAll l off cs) ∧ w.grownBy (setCellsW w g off cs) (some g)
  | [], w, off, l, _, _, h => ⟨h, World.grownBy.refl _ _⟩
  | c :: cs, w, off, l, _, _, h => by
    obtain ⟨h1, h2⟩ := h.stored off c
    obtain ⟨h3, h4⟩ := storesOwn cs _ (off + 1) _ h1
    exact ⟨h3, ⟨h4.os.trans h2.os, h4.tape.trans h2.tape, h4.output.trans h2.output, Nat.le_trans h2.size h4.size, fun i hi hne => (h4.block i (Nat.lt_of_lt_of_le hi h2.size) hne).trans (h2.block i hi hne)⟩⟩
theorem Own.store (h : Own E w base t (.slice (some ⟨g, 0, none⟩) n cap) xs) (k : Nat) (hk : k < xs.length) (x : α) :
    Own E (setCellsW w g (k * E.sz) (E.f x)) base t (.slice (some ⟨g, 0, none⟩) n cap) (xs.set k x) ∧ w.grownBy (setCellsW w g (k * E.sz) (E.f x)) (some g) := by
  obtain rfl := h.row
  have hh : w.ownsRow base t E.sz (.slice (some ⟨g, 0, none⟩) xs.length cap) xs.length (E.all xs) := h
  obtain ⟨h1, h2⟩ := storesOwn (E.f x) w (k * E.sz) _ hh
  rw [E.set xs k hk x] at h1
  refine ⟨?_, h2⟩
  unfold Own
  rw [List.length_set]
  exact h1
end
end Go.Proofs.Ytnpfgngfolgdfaa
