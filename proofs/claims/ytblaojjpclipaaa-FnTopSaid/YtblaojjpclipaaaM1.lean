/- Plain lemmas on rows of structs in memory. No statement of the seat is proved here. -/
import Derived.Test.YtblaojjpclipaaaM0
import Derived.StillTailTactics
namespace Go.Proofs.Ytblaojjpclipaaa
open Go.RowKit

/-- what a weighing leaves -/
def szr (left : Int) (t : Nat) : Int := if (t : Int) ≤ left then left - t else -1
theorem szr_neg {left : Int} {t : Nat} (h : ¬ ((t : Nat) : Int) ≤ left) : szr left t = -1 := by unfold szr; rw [if_neg h]
theorem szr_pos {left : Int} {t : Nat} (h : ((t : Nat) : Int) ≤ left) : szr left t = left - t := by unfold szr; rw [if_pos h]
theorem sum_take_succ {α : Type} (f : α → Nat) (xs : List α) (k : Nat) (h : k < xs.length) : ((xs.take (k + 1)).map f).sum = ((xs.take k).map f).sum + f xs[k] := by
  rw [List.take_succ_eq_append_getElem h, List.map_append, List.sum_append]; simp only [List.map_cons, List.map_nil, List.sum_cons, List.sum_nil, Nat.add_zero]
theorem sum_take_le {α : Type} (f : α → Nat) : ∀ (xs : List α) (k : Nat), ((xs.take k).map f).sum ≤ (xs.map f).sum
  | [], k => by simp
  | x :: xs, 0 => by simp
  | x :: xs, k + 1 => by have := sum_take_le f xs k; simp only [List.take_succ_cons, List.map_cons, List.sum_cons]; omega
/-- store cells one behind the other -/
def setAll (l : List Value) (off : Nat) : List Value → List Value
  | [] => l
  | c :: cs => setAll (l.set off c) (off + 1) cs
theorem setAll_eq : ∀ (cs l : List Value) (off : Nat), off + cs.length ≤ l.length → setAll l off cs = l.take off ++ (cs ++ l.drop (off + cs.length))
  | [], l, off, _ => by simp [setAll]
  | c :: cs, l, off, h => by
    simp only [List.length_cons] at h
    rw [setAll, setAll_eq cs _ _ (by simp; omega)]
    rw [List.take_set, List.drop_set]
    rw [if_pos (by omega)]
    have e1 : (l.take (off + 1)).set off c = l.take off ++ [c] := by
      rw [List.take_succ_eq_append_getElem (by omega), List.set_append_right _ _ (by simp; omega)]
      have e : off - (l.take off).length = 0 := by simp; omega
      rw [e]; rfl
    rw [e1]
    have e2 : off + 1 + cs.length = off + (c :: cs).length := by simp; omega
    rw [e2]
    simp
theorem Enc.take {α : Type} (E : Enc α) : ∀ (xs : List α) (k : Nat), k ≤ xs.length → (E.all xs).take (k * E.sz) = E.all (xs.take k)
  | xs, 0, _ => by simp [Enc.all]
  | x :: xs, k + 1, h => by
    have ih := Enc.take E xs k (by simpa using h)
    simp only [Enc.all, List.flatMap_cons, List.take_succ_cons] at *
    rw [List.take_append, E.hl, ← ih]
    have e : (k + 1) * E.sz - E.sz = k * E.sz := by rw [Nat.add_mul]; omega
    rw [e, List.take_of_length_le (by rw [E.hl, Nat.add_mul]; omega)]
theorem Enc.drop {α : Type} (E : Enc α) : ∀ (xs : List α) (k : Nat), k ≤ xs.length → (E.all xs).drop (k * E.sz) = E.all (xs.drop k)
  | xs, 0, _ => by simp
  | x :: xs, k + 1, h => by
    have ih := Enc.drop E xs k (by simpa using h)
    simp only [Enc.all, List.flatMap_cons, List.drop_succ_cons] at *
    rw [List.drop_append, E.hl, ← ih]
    have e : (k + 1) * E.sz - E.sz = k * E.sz := by rw [Nat.add_mul]; omega
    rw [e, List.drop_eq_nil_of_le (by rw [E.hl, Nat.add_mul]; omega), List.nil_append]
theorem Enc.set {α : Type} (E : Enc α) (xs : List α) (k : Nat) (hk : k < xs.length) (x : α) : setAll (E.all xs) (k * E.sz) (E.f x) = E.all (xs.set k x) := by
  have hm : (k + 1) * E.sz ≤ xs.length * E.sz := Nat.mul_le_mul_right _ hk
  rw [Nat.add_mul, Nat.one_mul] at hm
  rw [setAll_eq _ _ _ (by rw [E.hl, E.len]; omega), E.take _ _ (by omega), E.hl]
  have e : k * E.sz + E.sz = (k + 1) * E.sz := by rw [Nat.add_mul]; omega
  rw [e, E.drop _ _ hk, List.set_eq_take_append_cons_drop, if_pos hk, E.app]
  simp [Enc.all]

/-- the first k copied, the others zero -/
def copG {α : Type} (z : α) (xs : List α) (k : Nat) : List α := xs.take k ++ List.replicate (xs.length - k) z
theorem copG_len {α : Type} (z : α) (xs : List α) (k : Nat) (h : k ≤ xs.length) : (copG z xs k).length = xs.length := by simp [copG]; omega
theorem copG_zero {α : Type} (z : α) (xs : List α) : copG z xs 0 = List.replicate xs.length z := by simp [copG]
theorem copG_all {α : Type} (z : α) (xs : List α) : copG z xs xs.length = xs := by simp [copG]
theorem copG_succ {α : Type} (z : α) (xs : List α) (k : Nat) (h : k < xs.length) : (copG z xs k).set k xs[k] = copG z xs (k + 1) := by
  unfold copG
  rw [List.set_append_right _ _ (by simp; omega)]
  rw [List.take_succ_eq_append_getElem h, List.append_assoc]
  congr 1
  have e : k - (xs.take k).length = 0 := by simp; omega
  rw [e]
  have e2 : xs.length - k = (xs.length - (k + 1)) + 1 := by omega
  rw [e2, List.replicate_succ]
  rfl
theorem madeCells_enc {α : Type} (E : Enc α) (z : α) (n : Nat) (hs : 0 < E.sz) : (madeCells (E.f z).toArray (n * E.sz)).toList = E.all (List.replicate n z) := by
  apply List.ext_getElem?
  intro i
  have hl : (E.all (List.replicate n z)).length = n * E.sz := by rw [E.len]; simp
  have hl2 : (madeCells (E.f z).toArray (n * E.sz)).toList.length = n * E.sz := by rw [Array.length_toList, size_madeCells]
  by_cases hi : i < n * E.sz
  · have hq : i / E.sz < n := by rw [Nat.div_lt_iff_lt_mul hs]; exact hi
    have hr : i % E.sz < E.sz := Nat.mod_lt _ hs
    have e : i = i / E.sz * E.sz + i % E.sz := by rw [Nat.mul_comm]; exact (Nat.div_add_mod i E.sz).symm
    have h1 := E.at_ (List.replicate n z) (i / E.sz) (by simpa using hq) (i % E.sz) hr
    rw [← e] at h1
    rw [h1]
    simp only [List.getElem_replicate]
    rw [Array.getElem?_toList]
    unfold madeCells
    simp only [Array.getElem?_map, Array.getElem?_range, hi, if_true, Option.map_some]
    rw [List.size_toArray, E.hl]
    rw [List.getElem?_eq_getElem (by rw [E.hl]; exact hr)]
    simp only [Option.some.injEq]
    rw [List.getElem!_toArray]
    rw [getElem!_pos (E.f z) _ (by rw [E.hl]; exact hr)]
  · rw [List.getElem?_eq_none (by omega), List.getElem?_eq_none (by omega)]
theorem Own.made {α : Type} (E : Enc α) {w : World} {base n : Nat} {t : TypeId} {v : Value} (z : α) (hs : 0 < E.sz) (h : w.ownsRow base t E.sz v n (madeCells (E.f z).toArray (n * E.sz)).toList) : Own E w base t v (List.replicate n z) := by
  unfold Own
  rw [madeCells_enc E z n hs] at h
  simpa using h
theorem below_step2 {B : Nat} {a w w2 : World} (h : Below B a w) (h2 : Below w.heap.size w w2) (hB : B ≤ w.heap.size) : Below B a w2 := h.trans (h2.mono hB)

section
variable {α : Type} {E : Enc α} {w : World} {base : Nat} {t : TypeId} {g cap n : Nat} {xs : List α}
theorem Own.row (h : Own E w base t (.slice (some ⟨g, 0, none⟩) n cap) xs) : n = xs.length := by
  rcases h.2 with ⟨hh, _⟩ | ⟨_, _, _, hh, _⟩
  · cases hh
  · cases hh; rfl
theorem Own.old (h : Own E w base t (.slice (some ⟨g, 0, none⟩) n cap) xs) (k : Nat) (hk : k < xs.length) (j : Nat) (hj : j < E.sz) : ∃ u, w.cell? ⟨g, k * E.sz + j, none⟩ = some u := by
  obtain rfl := h.row
  have hm : (k + 1) * E.sz ≤ xs.length * E.sz := Nat.mul_le_mul_right _ hk
  rw [Nat.add_mul, Nat.one_mul] at hm
  have hh : w.ownsRow base t E.sz (.slice (some ⟨g, 0, none⟩) xs.length cap) xs.length (E.all xs) := h
  rw [hh.cellAt _ (by omega), E.at_ xs k hk j hj, List.getElem?_eq_getElem (by rw [E.hl]; exact hj)]
  exact ⟨_, rfl⟩
theorem Own.free (h : Own E w base t (.slice (some ⟨g, 0, none⟩) n cap) xs) (j : Nat) : w.frozen? ⟨g, j, none⟩ = false := by
  obtain rfl := h.row
  have hh : w.ownsRow base t E.sz (.slice (some ⟨g, 0, none⟩) xs.length cap) xs.length (E.all xs) := h
  exact hh.frozenAt j
/-- the world behind some stores -/
def setCellsW (w : World) (g off : Nat) : List Value → World
  | [] => w
  | c :: cs => setCellsW (w.setCell ⟨g, off, none⟩ c) g (off + 1) cs
theorem storesOwn : ∀ (cs : List Value) (w : World) (off : Nat) (l : List Value) {sz n : Nat}, w.ownsRow base t sz (.slice (some ⟨g, 0, none⟩) n cap) n l →
    (setCellsW w g off cs).ownsRow base t sz (.slice (some ⟨g, 0, none⟩) n cap) n (setAll l off cs) ∧ w.grownBy (setCellsW w g off cs) (some g)
  | [], w, off, l, _, _, h => ⟨h, World.grownBy.refl _ _⟩
  | c :: cs, w, off, l, _, _, h => by
    obtain ⟨h1, h2⟩ := h.stored off c
    obtain ⟨h3, h4⟩ := storesOwn cs _ (off + 1) _ h1
    exact ⟨h3, ⟨h4.os.trans h2.os, h4.tape.trans h2.tape, h4.output.trans h2.output, Nat.le_trans h2.size h4.size, fun i hi hne => (h4.block i (Nat.lt_of_lt_of_le hi h2.size) hne).trans (h2.block i hi hne)⟩⟩
theorem Own.store (h : Own E w base t (.slice (some ⟨g, 0, none⟩) n cap) xs) (k : Nat) (hk : k < xs.length) (x : α) :
    Own E (setCellsW w g (k * E.sz) (E.f x)) base t (.slice (some ⟨g, 0, none⟩) n cap) (xs.set k x) ∧ w.grownBy (setCellsW w g (k * E.sz) (E.f x)) (some g) := by
  obtain rfl := h.row
  have hh : w.ownsRow base t E.sz (.slice (some ⟨g, 0, none⟩) xs.length cap) xs.length (E.all xs) := h
  obtain ⟨h1, h2⟩ := storesOwn (E.f x) w (k * E.sz) _ hh
  rw [E.set xs k hk x] at h1
  refine ⟨?_, h2⟩
  unfold Own
  rw [List.length_set]
  exact h1
end
end Go.Proofs.Ytblaojjpclipaaa
namespace Go.Proofs.Ytblaojjpclipaaa
open Go.RowKit

structure Port where
  kind : Int
  size : Int
  plug : Bool
def ePort : Enc Port := ⟨fun x => [.int .i64 x.kind, .int .i64 x.size, .bool x.plug], 3, fun _ => rfl, fun x u hu => by simp at hu; rcases hu with rfl | rfl | rfl <;> rfl⟩
def aPort (x : Port) : Value := .agg #[.int .i64 x.kind, .int .i64 x.size, .bool x.plug]
def zPort : Port := ⟨0, 0, false⟩
theorem info_Port : (Try.prog.info? 105).map (fun i => (i.zero, i.size, i.bytes)) = some (some (.agg #[.int .i64 0, .int .i64 0, .bool false]), 3, 24) := by kernel_rfl

def okPort (_ : Port) : Prop := True






end Go.Proofs.Ytblaojjpclipaaa
namespace Go.Proofs.Ytblaojjpclipaaa
open Go.RowKit

theorem box_new (w : World) (c : Array Value) (t : TypeId) (j : Nat) : (w.alloc (.cells c t)).cell? ⟨w.heap.size, j, none⟩ = c[j]? := by
  rw [World.cell?_alloc_new]
theorem box_old (w : World) (o : Obj) (p : Addr) (h : p.block < w.heap.size) : (w.alloc o).cell? p = w.cell? p := World.cell?_alloc_lt w o p h
theorem frozen_out (w : World) (p : Addr) (h : w.heap.size ≤ p.block) : w.frozen? p = false := by
  unfold World.frozen?
  rw [Array.getElem?_eq_none h]
theorem frozen_box (w : World) (c : Array Value) (t : TypeId) (p : Addr) (h : w.frozen? p = false) : (w.alloc (.cells c t)).frozen? p = false := by rw [frozen?_alloc_cells, h]
/-- one box on a world, seen from a world above it -/
theorem box1 {w w1 : World} {c : Array Value} {t : TypeId} (hb : Below (w.alloc (.cells c t)).heap.size (w.alloc (.cells c t)) w1) :
    (∀ j, w1.cell? ⟨w.heap.size, j, none⟩ = c[j]?) ∧ (∀ j, w1.frozen? ⟨w.heap.size, j, none⟩ = false) ∧ Below w.heap.size w w1 ∧ w.heap.size + 1 ≤ w1.heap.size := by
  have hs := hb.size
  simp only [World.size_alloc] at hs
  refine ⟨fun j => ?_, fun j => ?_, ((Below.refl _ _).alloc (Nat.le_refl _) _).trans (hb.mono (by simp)), hs⟩
  · rw [hb.cell (by simp), box_new]
  · rw [hb.frozen (by simp)]; exact frozen_box _ _ _ _ (frozen_out _ _ (Nat.le_refl _))
/-- two boxes on a world, seen from a world above them -/
theorem box2 {w w1 : World} {c c2 : Array Value} {t t2 : TypeId} (hb : Below ((w.alloc (.cells c t)).alloc (.cells c2 t2)).heap.size ((w.alloc (.cells c t)).alloc (.cells c2 t2)) w1) :
    (∀ j, w1.cell? ⟨w.heap.size, j, none⟩ = c[j]?) ∧ (∀ j, w1.frozen? ⟨w.heap.size, j, none⟩ = false) ∧ (∀ j, w1.cell? ⟨w.heap.size + 1, j, none⟩ = c2[j]?) ∧ (∀ j, w1.frozen? ⟨w.heap.size + 1, j, none⟩ = false) ∧ Below w.heap.size w w1 ∧ w.heap.size + 2 ≤ w1.heap.size := by
  have hs := hb.size
  simp only [World.size_alloc] at hs
  have e : (w.alloc (.cells c t)).heap.size = w.heap.size + 1 := World.size_alloc _ _
  refine ⟨fun j => ?_, fun j => ?_, fun j => ?_, fun j => ?_, (((Below.refl _ _).alloc (Nat.le_refl _) _).alloc (by simp) _).trans (hb.mono (by simp; omega)), hs⟩
  · rw [hb.cell (by simp; try omega), box_old _ _ _ (by simp), box_new]
  · rw [hb.frozen (by simp; try omega)]; exact frozen_box _ _ _ _ (frozen_box _ _ _ _ (frozen_out _ _ (Nat.le_refl _)))
  · rw [hb.cell (by simp; try omega), ← e, box_new]
  · rw [hb.frozen (by simp; try omega)]; exact frozen_box _ _ _ _ (frozen_box _ _ _ _ (frozen_out _ _ (by simp)))
end Go.Proofs.Ytblaojjpclipaaa
namespace Go.Proofs.Ytblaojjpclipaaa
open Go.RowKit

def firstAt {α : Type} (p : α → Bool) (xs : List α) : Int := if xs.any p then ((xs.findIdx p : Nat) : Int) else -1
section
variable {α : Type} {p : α → Bool} {xs : List α}
theorem firstAt_none (h : xs.any p = false) : firstAt p xs = -1 := by unfold firstAt; rw [h]; rfl
theorem firstAt_at {k : Nat} (hk : k < xs.length) (h : (xs.take k).any p = false) (hp : p xs[k] = true) : firstAt p xs = k := by
  have ha : xs.any p = true := List.any_eq_true.2 ⟨xs[k], List.getElem_mem hk, hp⟩
  have e : xs.findIdx p = k := by
    rw [List.findIdx_eq hk]
    refine ⟨hp, fun j hj => ?_⟩
    rw [List.any_eq_false] at h
    have := h xs[j] (by rw [List.mem_take_iff_getElem]; exact ⟨j, by omega, rfl⟩)
    simpa using this
  unfold firstAt
  rw [ha, e]; rfl
theorem firstAt_neg : firstAt p xs < 0 ↔ xs.any p = false := by
  unfold firstAt
  cases h : xs.any p
  · simp
  · simp only [if_true]; constructor
    · intro h; omega
    · intro h; cases h
theorem firstAt_get (h : ¬ firstAt p xs < 0) : ∃ (k : Nat) (hk : k < xs.length), firstAt p xs = k ∧ p xs[k] = true ∧ (xs.take k).any p = false := by
  have ha : xs.any p = true := by
    rcases hb : xs.any p
    · exact absurd (firstAt_neg.2 hb) h
    · rfl
  have hlt : xs.findIdx p < xs.length := by
    rw [List.findIdx_lt_length]
    simpa using ha
  refine ⟨xs.findIdx p, hlt, by unfold firstAt; rw [ha]; rfl, List.findIdx_getElem (w := hlt), ?_⟩
  rw [List.any_eq_false]
  intro x hx
  rw [List.mem_take_iff_getElem] at hx
  obtain ⟨j, hj, rfl⟩ := hx
  have := List.not_of_lt_findIdx (p := p) (xs := xs) (i := j) (by omega)
  simpa using this
theorem any_take_succ (k : Nat) (h : k < xs.length) (ha : (xs.take k).any p = false) (hp : p xs[k] = false) : (xs.take (k + 1)).any p = false := by
  rw [List.take_succ_eq_append_getElem h, List.any_append, ha]; simp [hp]
theorem any_of_take (k : Nat) (h : xs.length ≤ k) (ha : (xs.take k).any p = false) : xs.any p = false := by
  rwa [List.take_of_length_le h] at ha
theorem firstAt_le {k : Nat} (hk : (xs.take k).any p = true) : firstAt p xs < k := by
  rw [List.any_eq_true] at hk
  obtain ⟨x, hx, hp⟩ := hk
  rw [List.mem_take_iff_getElem] at hx
  obtain ⟨j, hj, rfl⟩ := hx
  have ha : xs.any p = true := List.any_eq_true.2 ⟨xs[j], List.getElem_mem _, hp⟩
  have hj2 : j < xs.length := by omega
  have : xs.findIdx p ≤ j := by
    rcases Nat.lt_or_ge j (xs.findIdx p) with h | h
    · have := List.not_of_lt_findIdx (p := p) (xs := xs) (i := j) h
      rw [hp] at this
      cases this
    · exact h
  unfold firstAt
  rw [ha, if_pos rfl]
  omega
end
/-- the first k elements of a slice -/
theorem Sl.take {α : Type} {E : Enc α} {w : World} {A : Option Addr} {n cap : Nat} {xs : List α} (h : Sl E w (.slice A n cap) xs) (k : Nat) (hk : k ≤ n) : Sl E w (.slice A k cap) (xs.take k) := by
  obtain ⟨A', cap', e, hc, hm, h3⟩ := h.shape
  cases e
  have hl : (xs.take k).length = k := by simp; omega
  refine ⟨E.len _, by rw [hl]; unfold big40; omega, A, cap, by rw [hl], by rw [hl]; omega, fun hp => ?_⟩
  rw [hl] at hp
  obtain ⟨b, off, e, hb, _⟩ := h3 (by omega)
  obtain ⟨_, _, A2, cap2, e2, _, h4⟩ := h
  cases e2
  obtain ⟨b2, off2, e3, hb2, hx⟩ := h4 (by omega)
  refine ⟨b2, off2, e3, hb2, fun j u hu => hx j u ?_⟩
  rw [← E.take xs k hk] at hu
  rw [List.getElem?_take] at hu
  split at hu
  · exact hu
  · cases hu
end Go.Proofs.Ytblaojjpclipaaa
namespace Go.Proofs.Ytblaojjpclipaaa
open Go.RowKit

section
variable {α : Type} {E : Enc α} {w : World} {base : Nat} {t : TypeId} {v : Value} {xs : List α}
theorem Own.drewN (h : Own E w base t v xs) (k : Nat) : Own E (w.drewN k) base t v xs := h
theorem Own.drew (h : Own E w base t v xs) : Own E w.drew base t v xs := World.ownsRow.drew h
theorem Own.mono (h : Own E w base t v xs) {base' : Nat} (hb : base' ≤ base) : Own E w base' t v xs :=
  ⟨h.1, h.2.imp id fun ⟨g, cap, cur, h1, h2, h3⟩ => ⟨g, cap, cur, h1, Nat.le_trans hb h2, h3⟩⟩
theorem Own.alloc (h : Own E w base t v xs) (o : Obj) : Own E (w.alloc o) base t v xs := World.ownsRow.alloc h o
end
theorem Own.nil_ {α : Type} (E : Enc α) (w : World) (base : Nat) (t : TypeId) : Own E w base t (.slice none 0 0) [] := World.ownsRow_nil _ _ _ _
theorem Own.empty {α : Type} (E : Enc α) (w : World) (base : Nat) (t : TypeId) (h : base ≤ w.heap.size) : Own E (w.alloc (.cells #[] t)) base t (.slice (some ⟨w.heap.size, 0, none⟩) 0 0) [] :=
  World.ownsRow_made w #[] 0 h (by decide) (by simp)
theorem own_apart {w : World} {b2 : Nat} {t2 : TypeId} {s2 n2 : Nat} {v1 v2 : Value} {x2 : List Value} (h2 : w.ownsRow b2 t2 s2 v2 n2 x2) (h : ∀ k, v1.ownBlock = some k → k < b2) : v1.ownBlock = none ∨ v1.ownBlock ≠ v2.ownBlock := by
  cases hv : v1.ownBlock with
  | none => exact .inl rfl
  | some k =>
    refine .inr (fun e => ?_)
    have := h k hv
    have := (World.ownsRow.lt h2 k e.symm).1
    omega
theorem own_apart2 {w : World} {b2 : Nat} {t2 : TypeId} {s2 n2 g : Nat} {v2 : Value} {x2 : List Value} (h2 : w.ownsRow b2 t2 s2 v2 n2 x2) (h : g < b2) : v2.ownBlock = none ∨ v2.ownBlock ≠ some g := by
  refine .inr (fun e => ?_)
  have := (World.ownsRow.lt h2 g e).1
  omega
theorem own_of_ints {w : World} {base : Nat} {t : TypeId} {v : Value} {n : Nat} {xs : List Int} (h : w.ownsRow base t 1 v n (xs.map (Value.int .i64))) (hn : xs.length = n) : Own eI w base t v xs := by
  subst hn; unfold Own; rw [eI_all]; exact h
theorem Own.ints {w : World} {base : Nat} {t : TypeId} {v : Value} {xs : List Int} (h : Own eI w base t v xs) : w.ownsRow base t 1 v xs.length (xs.map (Value.int .i64)) := by
  unfold Own at h; rw [eI_all] at h; exact h

theorem Ints.shapeL {w : World} {v : Value} {xs : List Int} {n : Nat} (h : Ints w v xs) (hn : xs.length = n) : ∃ A cap, v = .slice A n cap ∧ n ≤ cap ∧ n ≤ 1099511627776 ∧
    (0 < n → ∃ b off, A = some ⟨b, off, none⟩ ∧ b < w.heap.size ∧ ∀ (k : Nat), k < n → w.cell? ⟨b, off + k, none⟩ = some (.int .i64 (xs.getD k 0))) := by
  subst hn
  obtain ⟨A, cap, e, h1, h2, h3⟩ := Ints.shape h
  refine ⟨A, cap, e, h1, h2, fun hp => ?_⟩
  obtain ⟨b, off, e2, hb, hc⟩ := h3 hp
  refine ⟨b, off, e2, hb, fun k hk => ?_⟩
  rw [hc k hk]
  simp [hk]
end Go.Proofs.Ytblaojjpclipaaa
namespace Go.Proofs.Ytblaojjpclipaaa
open Go.RowKit

structure Joint where
  a : Int
  b : Int
  kind : Int
def eJoint : Enc Joint := ⟨fun x => [.int .i64 x.a, .int .i64 x.b, .int .i64 x.kind], 3, fun _ => rfl, fun x u hu => by simp at hu; rcases hu with rfl | rfl | rfl <;> rfl⟩
def aJoint (x : Joint) : Value := .agg #[.int .i64 x.a, .int .i64 x.b, .int .i64 x.kind]
def zJoint : Joint := ⟨0, 0, 0⟩
theorem info_Joint : (Try.prog.info? 47).map (fun i => (i.zero, i.size, i.bytes)) = some (some (.agg #[.int .i64 0, .int .i64 0, .int .i64 0]), 3, 24) := by kernel_rfl

def okJoint (_ : Joint) : Prop := True






end Go.Proofs.Ytblaojjpclipaaa
namespace Go.Proofs.Ytblaojjpclipaaa
open Go.RowKit

section
variable {α : Type} {E : Enc α}
theorem Own.cellsAt {w : World} {base g n cap : Nat} {t : TypeId} {xs : List α} (h : Own E w base t (.slice (some ⟨g, 0, none⟩) n cap) xs) (k : Nat) (hk : k < xs.length) (j : Nat) (hj : j < E.sz) : w.cell? ⟨g, k * E.sz + j, none⟩ = (E.f xs[k])[j]? := by
  obtain rfl := h.row
  have hm : (k + 1) * E.sz ≤ xs.length * E.sz := Nat.mul_le_mul_right _ hk
  rw [Nat.add_mul, Nat.one_mul] at hm
  have hh : w.ownsRow base t E.sz (.slice (some ⟨g, 0, none⟩) xs.length cap) xs.length (E.all xs) := h
  rw [hh.cellAt _ (by omega), E.at_ xs k hk j hj]
theorem Enc.set1 (E : Enc α) (j : Nat) (u : Value) (x' : α) (hj : j < E.sz) : ∀ (xs : List α) (k : Nat) (hk : k < xs.length), E.f x' = (E.f xs[k]).set j u → (E.all xs).set (k * E.sz + j) u = E.all (xs.set k x')
  | x :: xs, 0, _, h => by
    simp only [Enc.all, List.flatMap_cons, Nat.zero_mul, Nat.zero_add, List.set_cons_zero, List.getElem_cons_zero] at *
    rw [List.set_append_left _ _ (by rw [E.hl]; exact hj), h]
  | x :: xs, k + 1, hk, h => by
    have ih := Enc.set1 E j u x' hj xs k (by simpa using hk) (by simpa using h)
    simp only [Enc.all, List.flatMap_cons, List.set_cons_succ] at *
    rw [List.set_append_right _ _ (by rw [E.hl, Nat.add_mul]; omega), E.hl]
    have e : (k + 1) * E.sz + j - E.sz = k * E.sz + j := by rw [Nat.add_mul]; omega
    rw [e, ih]
/-- one cell of one element is stored -/
theorem Own.store1 {w : World} {base g n cap : Nat} {t : TypeId} {xs : List α} (h : Own E w base t (.slice (some ⟨g, 0, none⟩) n cap) xs) (k : Nat) (hk : k < xs.length) (j : Nat) (hj : j < E.sz) (u : Value) (x' : α) (hx : E.f x' = (E.f xs[k]).set j u) :
    Own E (w.setCell ⟨g, k * E.sz + j, none⟩ u) base t (.slice (some ⟨g, 0, none⟩) n cap) (xs.set k x') ∧ w.grownBy (w.setCell ⟨g, k * E.sz + j, none⟩ u) (some g) := by
  obtain rfl := h.row
  have hh : w.ownsRow base t E.sz (.slice (some ⟨g, 0, none⟩) xs.length cap) xs.length (E.all xs) := h
  obtain ⟨h1, h2⟩ := hh.stored (k * E.sz + j) u
  refine ⟨?_, h2⟩
  unfold Own
  rw [List.length_set, ← Enc.set1 E j u x' hj xs k hk hx]
  exact h1
theorem any_take_no {p : α → Bool} {xs : List α} {k : Nat} (hk : k < xs.length) (h : p xs[k] = false) : (xs.take (k + 1)).any p = (xs.take k).any p := by
  rw [List.take_succ_eq_append_getElem hk, List.any_append]; simp [h]
theorem any_take_yes {p : α → Bool} {xs : List α} {k : Nat} (hk : k < xs.length) (h : p xs[k] = true) : (xs.take (k + 1)).any p = true := by
  rw [List.take_succ_eq_append_getElem hk, List.any_append]; simp [h]
theorem Own.apart {w : World} {base : Nat} {t : TypeId} {v : Value} {xs : List α} (h : Own E w base t v xs) : v.ownBlock ≠ some w.heap.size := fun e => by
  have := (World.ownsRow.lt h _ e).2
  omega
end
/-- one element in a block of its own, as a slice -/
theorem Sl.one_new {α : Type} (E : Enc α) (w : World) (y : α) (cells : Array Value) (t : TypeId) (hc : cells.toList = E.f y) : Sl E (w.alloc (.cells cells t)) (.slice (some ⟨w.heap.size, 0, none⟩) 1 1) [y] := by
  refine ⟨E.len _, by simp [big40], _, 1, rfl, Nat.le_refl _, fun _ => ⟨w.heap.size, 0, rfl, by simp, fun j u hu => ?_⟩⟩
  rw [Nat.zero_add, World.cell?_alloc_new, ← hu, E.one_, ← hc]
  simp
theorem Sl.nil_ {α : Type} (E : Enc α) (w : World) : Sl E w (.slice none 0 0) [] := ⟨E.len _, Nat.zero_le _, none, 0, rfl, Nat.le_refl _, fun h => absurd h (by simp)⟩
end Go.Proofs.Ytblaojjpclipaaa
namespace Go.Proofs.Ytblaojjpclipaaa
open Go.RowKit

theorem Own.take {α : Type} {E : Enc α} {w : World} {base g n cap : Nat} {t : TypeId} {xs : List α} (h : Own E w base t (.slice (some ⟨g, 0, none⟩) n cap) xs) (k : Nat) (hk : k ≤ n) : Own E w base t (.slice (some ⟨g, 0, none⟩) k cap) (xs.take k) := by
  have hn := h.row
  have hl : (xs.take k).length = k := by rw [List.length_take]; omega
  refine ⟨E.len _, ?_⟩
  rcases h.2 with ⟨hh, _⟩ | ⟨g', cap', cur, e, h1, h2, h3, h4, h5, h6⟩
  · cases hh
  · cases e
    have hmul : k * E.sz ≤ xs.length * E.sz := Nat.mul_le_mul_right _ (by omega)
    refine .inr ⟨g, cap, cur, by rw [hl], h1, h2, by rw [hl]; omega, h4, h5, ?_⟩
    rw [hl, ← E.take xs k (by omega), ← h6, List.take_take, Nat.min_eq_left hmul]
theorem Own.setI {w : World} {base g n cap : Nat} {xs : List Int} (h : Own eI w base 2 (.slice (some ⟨g, 0, none⟩) n cap) xs) (k : Nat) (x : Int) :
    Own eI (w.setCell ⟨g, k, none⟩ (.int .i64 x)) base 2 (.slice (some ⟨g, 0, none⟩) n cap) (xs.set k x) ∧ w.grownBy (w.setCell ⟨g, k, none⟩ (.int .i64 x)) (some g) := by
  obtain rfl := h.row
  obtain ⟨h1, h2⟩ := h.ints.stored k (.int .i64 x)
  refine ⟨own_of_ints (n := xs.length) ?_ (by simp), h2⟩
  rw [List.map_set]
  exact h1
theorem Own.cellI {w : World} {base g n cap : Nat} {xs : List Int} (h : Own eI w base 2 (.slice (some ⟨g, 0, none⟩) n cap) xs) (k : Nat) (hk : k < xs.length) : w.cell? ⟨g, k, none⟩ = some (.int .i64 xs[k]) ∧ w.frozen? ⟨g, k, none⟩ = false := by
  obtain rfl := h.row
  refine ⟨?_, h.ints.frozenAt k⟩
  rw [h.ints.cellAt k (by omega)]
  simp [List.getElem?_eq_getElem hk]
end Go.Proofs.Ytblaojjpclipaaa
namespace Go.Proofs.Ytblaojjpclipaaa
open Go.RowKit

structure Bin where
  code : ByteArray
  amount : Int
  reserved : Int
  point : Int
  lot : Int
def eBin : Enc Bin := ⟨fun x => [.string x.code, .int .i64 x.amount, .int .i64 x.reserved, .int .i64 x.point, .int .i64 x.lot], 5, fun _ => rfl, fun x u hu => by simp at hu; rcases hu with rfl | rfl | rfl | rfl | rfl <;> rfl⟩
def aBin (x : Bin) : Value := .agg #[.string x.code, .int .i64 x.amount, .int .i64 x.reserved, .int .i64 x.point, .int .i64 x.lot]
def zBin : Bin := ⟨ByteArray.empty, 0, 0, 0, 0⟩
theorem info_Bin : (Try.prog.info? 54).map (fun i => (i.zero, i.size, i.bytes)) = some (some (.agg #[.string ⟨#[]⟩, .int .i64 0, .int .i64 0, .int .i64 0, .int .i64 0]), 5, 48) := by kernel_rfl

def strBin (x : Bin) : Nat := x.code.size
def okBin (x : Bin) : Prop := strBin x ≤ 9223372036854775807






end Go.Proofs.Ytblaojjpclipaaa
