/- Facts on the values that a statement whose order is drawn makes on its way: texts and numbers in literals, places, one-element rows. No statement of the seat is proved here. -/
import Derived.Test.YtblaojjpclipaaaM2
import Derived.Test.YtblaojjpclipaaaAppAll
import Derived.Test.YtblaojjpclipaaaInv
namespace Go.Proofs.Ytblaojjpclipaaa
open Go.RowKit

theorem Bytes.below {w w' : World} {A : Option Addr} {n : Nat} (h : Bytes w A n w.heap.size) (hb : Below w.heap.size w w') : Bytes w' A n w'.heap.size := fun hn => by
  obtain ⟨b, off, e, hbp, hx⟩ := h hn
  refine ⟨b, off, e, Nat.lt_of_lt_of_le hbp hb.size, fun j hj => ?_⟩
  obtain ⟨x, hx1, hx2⟩ := hx j hj
  exact ⟨x, hx1, (hb.cell (p := ⟨b, off + j, none⟩) hbp).trans hx2⟩
theorem wf_in {n : Int} (h : -9223372036854775808 ≤ n) (h2 : n ≤ 9223372036854775807) : (Lit.int .i64 n).wf = true := by
  simp [Lit.wf, IntKind.min, IntKind.max, IntKind.signed, IntKind.bits]; omega
/-- an operation behind a guard that does not hold -/
theorem skip_op {o : Oper} {y : Nat → Option Bool} {A B : Prop} (h : Region.wanted o y = false) (hb : B) : if Region.wanted o y = true then A else B := by
  rw [if_neg (by rw [h]; decide)]
  exact hb
/-- a slice of n texts in a block that stands -/
def PS (p : Nat) (u : World) (x : Value) (n : Nat) : Prop := ∃ N, x = .slice (some ⟨N, 0, none⟩) n n ∧ N ≠ p ∧ N < u.heap.size ∧ ∀ k, k < n → ∃ s : ByteArray, s.size ≤ 20 ∧ u.cell? ⟨N, k, none⟩ = some (.string s)
/-- a text's place -/
def PI (p : Nat) (u : World) (x : Value) : Prop := ∃ (N k : Nat) (s : ByteArray), x = .pointer (some ⟨N, k, none⟩) ∧ N ≠ p ∧ N < u.heap.size ∧ s.size ≤ 20 ∧ u.cell? ⟨N, k, none⟩ = some (.string s)
/-- a slice of n numbers from lo to hi in a block that stands -/
def PK (p : Nat) (u : World) (x : Value) (n : Nat) (lo hi : Int) : Prop := ∃ (N : Nat) (xs : List Int), x = .slice (some ⟨N, 0, none⟩) n n ∧ N ≠ p ∧ N < u.heap.size ∧ xs.length = n ∧ (∀ y ∈ xs, lo ≤ y ∧ y ≤ hi) ∧ ∀ (k : Nat) (y : Int), xs[k]? = some y → u.cell? ⟨N, k, none⟩ = some (.int .i64 y)
/-- one element in a row of its own -/
def PO {α : Type} (E : Enc α) (ok : α → Prop) (p : Nat) (u : World) (x : Value) : Prop := ∃ (N : Nat) (c : α), x = .slice (some ⟨N, 0, none⟩) 1 1 ∧ N ≠ p ∧ ok c ∧ Sl E u (.slice (some ⟨N, 0, none⟩) 1 1) [c]
/-- behind an append: the row has one element more -/
def PA {α : Type} (E : Enc α) (ok : α → Prop) (w : World) (p base : Nat) (t : TypeId) (xs : List α) (u : World) (x : Value) : Prop := ∃ c : α, ok c ∧ Own E u base t x (xs ++ [c]) ∧ Dr w p u
theorem PS.stay {p n : Nat} {u u' : World} {x : Value} : PS p u x n → Stay p u u' → PS p u' x n := fun ⟨N, h1, h2, h3, h4⟩ h => ⟨N, h1, h2, Nat.lt_of_lt_of_le h3 h.sz, fun k hk => by
  obtain ⟨s, a, b⟩ := h4 k hk
  exact ⟨s, a, (h.ce _ _ h2 h3).trans b⟩⟩
theorem PI.stay {p : Nat} {u u' : World} {x : Value} : PI p u x → Stay p u u' → PI p u' x := fun ⟨N, k, s, h1, h2, h3, h4, h5⟩ h => ⟨N, k, s, h1, h2, Nat.lt_of_lt_of_le h3 h.sz, h4, (h.ce _ _ h2 h3).trans h5⟩
theorem PK.stay {p n : Nat} {lo hi : Int} {u u' : World} {x : Value} : PK p u x n lo hi → Stay p u u' → PK p u' x n lo hi := fun ⟨N, xs, h1, h2, h3, h4, h5, h6⟩ h => ⟨N, xs, h1, h2, Nat.lt_of_lt_of_le h3 h.sz, h4, h5, fun k y hy => (h.ce _ _ h2 h3).trans (h6 k y hy)⟩
theorem Sl.stay {α : Type} {E : Enc α} {w w' : World} {p b n cap : Nat} {ys : List α} (h : Sl E w (.slice (some ⟨b, 0, none⟩) n cap) ys) (hs : Stay p w w') (hne : b ≠ p) : Sl E w' (.slice (some ⟨b, 0, none⟩) n cap) ys := by
  obtain ⟨h1, h2, A, cap2, e, hc, h3⟩ := h
  refine ⟨h1, h2, A, cap2, e, hc, fun hp => ?_⟩
  obtain ⟨b2, off, rfl, hb, hx⟩ := h3 hp
  obtain rfl : b = b2 := by cases e; rfl
  exact ⟨b, off, rfl, Nat.lt_of_lt_of_le hb hs.sz, fun j u hu => (hs.ce b (off + j) hne hb).trans (hx j u hu)⟩
theorem PO.stay {α : Type} {E : Enc α} {ok : α → Prop} {p : Nat} {u u' : World} {x : Value} : PO E ok p u x → Stay p u u' → PO E ok p u' x := fun ⟨N, c, h1, h2, h3, h4⟩ h => ⟨N, c, h1, h2, h3, h4.stay h h2⟩
theorem PS.new {w0 u : World} {p n : Nat} {cells : Array Value} {t : TypeId} (hD : Dr w0 p u) (hc : ∀ k, k < n → ∃ s : ByteArray, s.size ≤ 20 ∧ cells[k]? = some (.string s)) : PS p (u.alloc (.cells cells t)) (.slice (some ⟨u.heap.size, 0, none⟩) n n) n := by
  refine ⟨_, rfl, by have := hD.1.lt; omega, by simp, fun k hk => ?_⟩
  obtain ⟨s, h1, h2⟩ := hc k hk
  exact ⟨s, h1, by rw [box_new]; exact h2⟩
theorem PK.new {w0 u : World} {p : Nat} {lo hi : Int} (xs : List Int) (cells : Array Value) (t : TypeId) (hc : cells.toList = xs.map (Value.int .i64)) (hD : Dr w0 p u) (hx : ∀ y ∈ xs, lo ≤ y ∧ y ≤ hi) : PK p (u.alloc (.cells cells t)) (.slice (some ⟨u.heap.size, 0, none⟩) xs.length xs.length) xs.length lo hi := by
  refine ⟨_, xs, rfl, by have := hD.1.lt; omega, by simp, rfl, hx, fun k y hy => ?_⟩
  rw [box_new, ← Array.getElem?_toList, hc, List.getElem?_map, hy]
  rfl
theorem PO.new {α : Type} {E : Enc α} {ok : α → Prop} {w0 u : World} {p : Nat} (cells : Array Value) (t : TypeId) (c : α) (hc : cells.toList = E.f c) (hD : Dr w0 p u) (ho : ok c) : PO E ok p (u.alloc (.cells cells t)) (.slice (some ⟨u.heap.size, 0, none⟩) 1 1) :=
  ⟨_, c, rfl, by have := hD.1.lt; omega, ho, Sl.one_new E u c _ _ hc⟩
theorem Stay.trans {p : Nat} {u v w : World} (h : Stay p u v) (h2 : Stay p v w) : Stay p u w :=
  ⟨Nat.le_trans h.sz h2.sz, fun b o hb hl => (h2.ce b o hb (Nat.lt_of_lt_of_le hl h.sz)).trans (h.ce b o hb hl), fun b o hb hl => (h2.fr b o hb (Nat.lt_of_lt_of_le hl h.sz)).trans (h.fr b o hb hl)⟩
theorem Stay.only {p : Nat} {u v : World} (h : Only u v p) : Stay p u v := ⟨Nat.le_of_eq h.sz.symm, fun b o hb _ => h.ce b o hb, fun b o hb _ => h.fr b o hb⟩
theorem Stay.drew {p : Nat} {u v : World} (h : Stay p u v) : Stay p u v.drew := ⟨h.sz, fun b o hb hl => h.ce b o hb hl, fun b o hb hl => h.fr b o hb hl⟩
theorem PS.far {p n N : Nat} {u u' : World} {row : Option Nat} (h : PS p u (.slice (some ⟨N, 0, none⟩) n n) n) (hg : u.grownBy u' row) (hne : row ≠ some N) : PS p u' (.slice (some ⟨N, 0, none⟩) n n) n := by
  obtain ⟨M, e, h2, h3, h4⟩ := h
  obtain rfl : N = M := by cases e; rfl
  refine ⟨N, rfl, h2, Nat.lt_of_lt_of_le h3 hg.size, fun k hk => ?_⟩
  obtain ⟨s, a, b⟩ := h4 k hk
  exact ⟨s, a, (hg.cell_far ⟨N, k, none⟩ h3 (fun e => hne e.symm)).trans b⟩
theorem PS.lt {p n N : Nat} {u : World} (h : PS p u (.slice (some ⟨N, 0, none⟩) n n) n) : N < u.heap.size := by
  obtain ⟨M, e, h2, h3, h4⟩ := h
  obtain rfl : N = M := by cases e; rfl
  exact h3
theorem own_new {v v' : Value} {N : Nat} {u : World} (h : v.ownBlock ≠ some N) (hN : N < u.heap.size) (ho : v'.ownBlock = v.ownBlock ∨ v'.ownBlock = some u.heap.size) : v'.ownBlock ≠ some N := fun e => by
  rcases ho with h2 | h2
  · exact h (h2.symm.trans e)
  · rw [h2] at e; cases e; omega
end Go.Proofs.Ytblaojjpclipaaa
