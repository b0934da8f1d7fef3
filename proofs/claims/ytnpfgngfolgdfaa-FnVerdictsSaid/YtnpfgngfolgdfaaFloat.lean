/- Draws inside a statement whose order is drawn: a call leaves all but the source's block as it was, cell by cell, and makes no block. No statement of the seat is proved here. -/
import Derived.Test.YtnpfgngfolgdfaaDrawL
import Derived.Deep.RegionHeld3
namespace Go.Proofs.Ytnpfgngfolgdfaa
open Go.RowKit

theorem cell_out (W : World) (b o : Nat) (h : W.heap.size ≤ b) : W.cell? ⟨b, o, none⟩ = none := by
  rcases hc : W.cell? ⟨b, o, none⟩ with _ | v
  · rfl
  · have : b < W.heap.size := World.block_lt_of_cell? _ _ hc
    omega
theorem cell_alloc_any (W : World) (cs : Array Value) (t : TypeId) (b o : Nat) : (W.alloc (.cells cs t)).cell? ⟨b, o, none⟩ = if b = W.heap.size then cs[o]? else W.cell? ⟨b, o, none⟩ := by
  by_cases h : b = W.heap.size
  · subst h
    rw [if_pos rfl, World.cell?_alloc_new]
  · rw [if_neg h]
    by_cases h2 : b < W.heap.size
    · exact World.cell?_alloc_lt W _ _ h2
    · rw [cell_out W b o (by omega), cell_out _ b o (by simp; omega)]
theorem frozen_alloc_any (W : World) (cs : Array Value) (t : TypeId) (b o : Nat) : (W.alloc (.cells cs t)).frozen? ⟨b, o, none⟩ = W.frozen? ⟨b, o, none⟩ := frozen?_alloc_cells _ _ _ _
theorem lit_cell {W : World} {cs : Array Value} {t : TypeId} {b k : Nat} {v : Value} (hb : b = W.heap.size) (h : cs[k]? = some v) : (W.alloc (.cells cs t)).cell? ⟨b, k, none⟩ = some v := by
  rw [cell_alloc_any, if_pos hb]; exact h
theorem lit_cell2 {W : World} {cs cs2 : Array Value} {t t2 : TypeId} {b k : Nat} {v : Value} (hb : b = W.heap.size) (h : cs[k]? = some v) : ((W.alloc (.cells cs t)).alloc (.cells cs2 t2)).cell? ⟨b, k, none⟩ = some v := by
  rw [cell_alloc_any, if_neg (by simp; omega)]; exact lit_cell hb h
theorem lit3 {a b c x : Int} {k : Nat} (h : [a, b, c][k]? = some x) : (#[.int .i64 a, .int .i64 b, .int .i64 c] : Array Value)[k]? = some (.int .i64 x) := by
  rcases k with _ | _ | _ | k
  · simp at h; subst h; rfl
  · simp at h; subst h; rfl
  · simp at h; subst h; rfl
  · simp at h
theorem lit4 {a b c d x : Int} {k : Nat} (h : [a, b, c, d][k]? = some x) : (#[.int .i64 a, .int .i64 b, .int .i64 c, .int .i64 d] : Array Value)[k]? = some (.int .i64 x) := by
  rcases k with _ | _ | _ | _ | k
  · simp at h; subst h; rfl
  · simp at h; subst h; rfl
  · simp at h; subst h; rfl
  · simp at h; subst h; rfl
  · simp at h
/-- all but block p is as it was -/
structure Only (w w' : World) (p : Nat) : Prop where
  sz : w'.heap.size = w.heap.size
  ce : ∀ b o, b ≠ p → w'.cell? ⟨b, o, none⟩ = w.cell? ⟨b, o, none⟩
  fr : ∀ b o, b ≠ p → w'.frozen? ⟨b, o, none⟩ = w.frozen? ⟨b, o, none⟩
theorem Only.of {w w' : World} {p : Nat} (hg : w.grownBy w' (some p)) (hs : w'.heap.size = w.heap.size) : Only w w' p := by
  refine ⟨hs, fun b o hb => ?_, fun b o hb => ?_⟩
  · by_cases h : b < w.heap.size
    · exact hg.cell_far _ h (fun e => hb (Option.some.inj e))
    · rw [cell_out _ b o (by omega), cell_out _ b o (by omega)]
  · by_cases h : b < w.heap.size
    · exact hg.frozen_far _ h (fun e => hb (Option.some.inj e))
    · rw [frozen_out _ _ (by simp only []; omega), frozen_out _ _ (by simp only []; omega)]
theorem next_fl {w0 : World} {p : Nat} {w : World} (n : Int) (h : Dr w0 p w) (hn : n ≤ 9223372036854775807) :
    Calls Try.prog 77 #[.pointer (some ⟨p, 0, none⟩), .int .i64 n] w fun e w' => ∃ x, e = .returned (.int .i64 x) ∧ 0 ≤ x ∧ (x < n ∨ x = 0) ∧ Dr w0 p w' ∧ Only w w' p :=
  (l01Next_all p n w h.1 hn).mono fun _ _ ⟨x, h1, h2, h3, h4, h5, h6⟩ => ⟨x, h1, h2, h3, h.step h4 h5, Only.of h5 h6⟩
/-- a pick out of a literal that lies in block b -/
theorem pick_fl {w0 : World} {p b : Nat} {w : World} (xs : List Int) (n : Nat) (hn : n = xs.length) (hx : 0 < xs.length) (hl : xs.length ≤ 1000) (h : Dr w0 p w) (hb : b ≠ p) (hbs : b < w.heap.size) (hc : ∀ (k : Nat) (x : Int), xs[k]? = some x → w.cell? ⟨b, k, none⟩ = some (.int .i64 x)) :
    Calls Try.prog 76 #[.pointer (some ⟨p, 0, none⟩), .slice (some ⟨b, 0, none⟩) n n] w fun e w' => ∃ x, e = .returned (.int .i64 x) ∧ x ∈ xs ∧ Dr w0 p w' ∧ Only w w' p := by
  subst hn
  refine (l01Pick_all p _ xs w h.1 ⟨by rw [eI_all]; simp [eI], by unfold big40; omega, _, _, rfl, Nat.le_refl _, fun _ => ⟨b, 0, rfl, hbs, fun j u hu => ?_⟩⟩ hx (fun b2 off n cap e => by cases e; exact hb)).mono fun _ _ ⟨x, h1, h2, h3, h4, h5⟩ => ⟨x, h1, h2, h.step h3 h4, Only.of h4 h5⟩
  rw [eI_all, List.getElem?_map] at hu
  rcases hj : xs[j]? with _ | x
  · rw [hj] at hu; cases hu
  · rw [hj] at hu
    cases hu
    rw [Nat.zero_add]
    exact hc j x hj
end Go.Proofs.Ytnpfgngfolgdfaa
