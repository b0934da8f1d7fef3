/- Plain lemmas on functions that draw from a source: the source is kept, all else that was there is left as it was. No statement of the seat is proved here. -/
import Derived.Test.YtnpfgngfolgdfaaLaws
namespace Go.Proofs.Ytnpfgngfolgdfaa
open Go.RowKit

theorem Src.under {w w' : World} {p B : Nat} (h : Src w p) (hp : p < B) (hb : Below B w w') : Src w' p := by
  obtain ⟨A, n, cap, at_, seed, h1, h2, h3, h4, h5, h6, c0, c1, c2, hf, hby⟩ := h
  refine ⟨A, n, cap, at_, seed, h1, h2, h3, h4, h5, Nat.lt_of_lt_of_le h6 hb.size, (hb.cell hp).trans c0, (hb.cell hp).trans c1, (hb.cell hp).trans c2, fun j => (hb.frozen hp).trans (hf j), fun hn => ?_⟩
  obtain ⟨b, off, e, hbp, hx⟩ := hby hn
  refine ⟨b, off, e, hbp, fun j hj => ?_⟩
  obtain ⟨x, hx1, hx2⟩ := hx j hj
  exact ⟨x, hx1, (hb.cell (p := ⟨b, off + j, none⟩) (by simp only []; omega)).trans hx2⟩
/-- behind some draws: the source in block p stands, nothing else that was there in w0 has turned -/
def Dr (w0 : World) (p : Nat) (w : World) : Prop := Src w p ∧ w0.grownBy w (some p) ∧ p < w0.heap.size
section
variable {w0 w w' : World} {p : Nat}
theorem Dr.refl (h : Src w p) : Dr w p w := ⟨h, World.grownBy.refl _ _, h.lt⟩
theorem Dr.size (h : Dr w0 p w) : w0.heap.size ≤ w.heap.size := h.2.1.size
theorem Dr.lt (h : Dr w0 p w) : p < w0.heap.size := h.2.2
theorem Dr.step (h : Dr w0 p w) (h1 : Src w' p) (h2 : w.grownBy w' (some p)) : Dr w0 p w' := ⟨h1, grown_tr h.2.1 h2, h.2.2⟩
theorem Dr.alloc (h : Dr w0 p w) (o : Obj) : Dr w0 p (w.alloc o) := ⟨h.1.alloc o, grown_tr h.2.1 (World.grownBy_alloc _ _ _), h.2.2⟩
theorem Dr.drew (h : Dr w0 p w) : Dr w0 p w.drew := ⟨h.1, grown_drewN h.2.1 1, h.2.2⟩
theorem Dr.drewN (h : Dr w0 p w) (n : Nat) : Dr w0 p (w.drewN n) := ⟨h.1, grown_drewN h.2.1 n, h.2.2⟩
theorem Dr.below (h : Dr w0 p w) (hb : Below w0.heap.size w w') : Dr w0 p w' :=
  ⟨h.1.under h.2.2 hb, ⟨hb.os.trans h.2.1.os, hb.tape.trans h.2.1.tape, hb.output.trans h.2.1.output, Nat.le_trans h.2.1.size hb.size, fun i hi hne => (hb.block i hi).trans (h.2.1.block i hi hne)⟩, h.2.2⟩
theorem Dr.trans {w1 : World} (h : Dr w0 p w) (h2 : Dr w p w1) : Dr w0 p w1 := ⟨h2.1, grown_tr h.2.1 h2.2.1, h.2.2⟩
theorem Dr.to_below {W : World} (h : Dr w0 p w) (hb : Below W.heap.size W w0) (hp : W.heap.size ≤ p) : Below W.heap.size W w := hb.grown h.2.1 hb.size (fun k hk => by cases hk; exact hp)
theorem Own.dr {α : Type} {E : Enc α} {base : Nat} {t : TypeId} {v : Value} {xs : List α} (h : Own E w base t v xs) (hg : w.grownBy w' (some p)) (hp : p < base) : Own E w' base t v xs :=
  h.kept hg (own_apart2 h hp)
end
/-- a store into a row of the call's own, beside a source -/
theorem Dr.store {w0 w : World} {p g j : Nat} (h : Dr w0 p w) (hg : w0.heap.size ≤ g) (u : Value) : Dr w0 p (w.setCell ⟨g, j, none⟩ u) :=
  h.below (Below.setCell (Below.refl _ _) hg u)
theorem next_dr {w0 : World} {p : Nat} {w : World} (n : Int) (h : Dr w0 p w) (hn : n ≤ 9223372036854775807) :
    Calls Try.prog 77 #[.pointer (some ⟨p, 0, none⟩), .int .i64 n] w fun e w' => ∃ x, e = .returned (.int .i64 x) ∧ 0 ≤ x ∧ (x < n ∨ x = 0) ∧ Dr w0 p w' ∧ w.grownBy w' (some p) :=
  (l01Next_any p n w h.1 hn).mono fun _ _ ⟨x, h1, h2, h3, h4, h5⟩ => ⟨x, h1, h2, h3, h.step h4 h5, h5⟩
theorem pick_dr {w0 : World} {p : Nat} {w : World} (xs : List Int) (cells : Array Value) (n : Nat) (hc : cells.toList = xs.map (Value.int .i64)) (hn : n = xs.length) (hx : 0 < xs.length) (hl : xs.length ≤ 1000) (h : Dr w0 p w) :
    Calls Try.prog 76 #[.pointer (some ⟨p, 0, none⟩), .slice (some ⟨w.heap.size, 0, none⟩) n n] (w.alloc (.cells cells 2)) fun e w' => ∃ x, e = .returned (.int .i64 x) ∧ x ∈ xs ∧ Dr w0 p w' ∧ w.grownBy w' (some p) := by
  subst hn
  refine (l01Pick_any p _ xs _ (h.alloc _).1 (Ints.lit w xs cells 2 hc hl) hx (fun b off n cap e => by cases e; have := h.1.lt; omega)).mono ?_
  rintro e w' ⟨x, h1, h2, h3, h4⟩
  exact ⟨x, h1, h2, (h.alloc _).step h3 h4, grown_tr (World.grownBy_alloc _ _ _) h4⟩
end Go.Proofs.Ytnpfgngfolgdfaa
