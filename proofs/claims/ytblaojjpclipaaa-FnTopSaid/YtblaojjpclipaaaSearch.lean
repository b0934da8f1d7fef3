/- The search for bicycles in memory: its box, its build, what it has found (chapter 18). No statement of the seat is proved here. -/
import Derived.Test.YtblaojjpclipaaaWith
namespace Go.Proofs.Ytblaojjpclipaaa
open Go.RowKit

structure Tri where
  a : Option Addr
  n : Nat
  cap : Nat
def Tri.v (t : Tri) : Value := .slice t.a t.n t.cap
def eT : Enc Tri := ⟨fun t => [.slice t.a t.n t.cap], 1, fun _ => rfl, fun x u hu => by simp at hu; subst hu; rfl⟩
structure SR where
  pv : Tri
  jv : Tri
  sv : Tri
  bv : Tri
  nodes : Int
  most : Int
  full : Bool
  single : Bool
  fv : Tri
def eSr : Enc SR := ⟨fun s => [.slice s.pv.a s.pv.n s.pv.cap, .slice s.jv.a s.jv.n s.jv.cap, .slice s.sv.a s.sv.n s.sv.cap, .slice s.bv.a s.bv.n s.bv.cap, .int .i64 s.nodes, .int .i64 s.most, .bool s.full, .bool s.single, .slice s.fv.a s.fv.n s.fv.cap], 9, fun _ => rfl, fun x u hu => by simp at hu; rcases hu with rfl | rfl | rfl | rfl | rfl | rfl | rfl | rfl | rfl <;> rfl⟩
theorem info_strs : (Try.prog.info? 33).map (fun i => (i.zero, i.size, i.bytes)) = some (some (.slice none 0 0), 1, 24) := by kernel_rfl

/-- two rows of different types lie in different blocks -/
theorem own_ne_row {α β : Type} {E : Enc α} {F : Enc β} {w : World} {b1 b2 : Nat} {t1 t2 : TypeId} {v1 v2 : Value} {xs : List α} {ys : List β} (h1 : Own E w b1 t1 v1 xs) (h2 : Own F w b2 t2 v2 ys) (ht : t1 ≠ t2) : v2.ownBlock = none ∨ v2.ownBlock ≠ v1.ownBlock := by
  rcases h2.2 with ⟨rfl, _⟩ | ⟨g, cap, cur, rfl, _, hg, _⟩
  · exact .inl rfl
  · refine .inr (fun e => ?_)
    rcases h1.2 with ⟨rfl, _⟩ | ⟨g', cap', cur', rfl, _, hg', _⟩
    · simp [Value.ownBlock] at e
    · simp only [Value.ownBlock, Option.some.injEq] at e
      subst e
      rw [hg] at hg'
      have hp := Option.some.inj hg'
      injection hp with e1 e2
      exact ht e2.symm
/-- builds of the call's own; none of them in the block g -/
def OwnL (w : World) (base : Nat) (g : Option Nat) (v : Value) (bs : List (List ByteArray)) : Prop := ∃ cs : List Tri, Own eT w base 33 v cs ∧ cs.length = bs.length ∧
  ∀ (k : Nat) (c : Tri) (b : List ByteArray), cs[k]? = some c → bs[k]? = some b → Own eS w base 9 c.v b ∧ b.length = 8 ∧ ∀ j, g = some j → c.v.ownBlock ≠ some j
/-- builds that can be read -/
def RdB (w : World) (v : Value) (bs : List (List ByteArray)) : Prop := ∃ cs : List Tri, Sl eT w v cs ∧ cs.length = bs.length ∧
  ∀ (k : Nat) (c : Tri) (b : List ByteArray), cs[k]? = some c → bs[k]? = some b → Sl eS w c.v b ∧ b.length = 8
section
variable {w w' : World} {base : Nat} {g : Option Nat} {v : Value} {bs : List (List ByteArray)}
theorem OwnL.nil_ (w : World) (base : Nat) (g : Option Nat) : OwnL w base g (.slice none 0 0) [] := ⟨[], Own.nil_ _ _ _ _, rfl, fun k c b e _ => by simp at e⟩
theorem OwnL.empty (w : World) (base : Nat) (g : Option Nat) (h : base ≤ w.heap.size) : OwnL (w.alloc (.cells #[] 33)) base g (.slice (some ⟨w.heap.size, 0, none⟩) 0 0) [] := ⟨[], Own.empty _ _ _ _ h, rfl, fun k c b e _ => by simp at e⟩
theorem OwnL.below (h : OwnL w base g v bs) (hb : Below w.heap.size w w') : OwnL w' base g v bs := by
  obtain ⟨cs, h1, h2, h3⟩ := h
  exact ⟨cs, h1.below hb, h2, fun k c b e1 e2 => ⟨(h3 k c b e1 e2).1.below hb, (h3 k c b e1 e2).2⟩⟩
theorem OwnL.drew (h : OwnL w base g v bs) : OwnL w.drew base g v bs := h
theorem OwnL.mono (h : OwnL w base g v bs) {base' : Nat} (hb : base' ≤ base) : OwnL w base' g v bs := by
  obtain ⟨cs, h1, h2, h3⟩ := h
  exact ⟨cs, h1.mono hb, h2, fun k c b e1 e2 => ⟨(h3 k c b e1 e2).1.mono hb, (h3 k c b e1 e2).2⟩⟩
/-- a row of another type is written -/
theorem OwnL.keptT {α : Type} {E : Enc α} {b1 : Nat} {t1 : TypeId} {v1 : Value} {xs : List α} (h : OwnL w base g v bs) (h1 : Own E w b1 t1 v1 xs) (hg : w.grownBy w' v1.ownBlock) (n1 : t1 ≠ 33) (n2 : t1 ≠ 9) : OwnL w' base g v bs := by
  obtain ⟨cs, k1, k2, k3⟩ := h
  exact ⟨cs, Own.kept k1 hg (own_ne_row h1 k1 n1), k2, fun k c b e1 e2 => ⟨Own.kept (k3 k c b e1 e2).1 hg (own_ne_row h1 (k3 k c b e1 e2).1 n2), (k3 k c b e1 e2).2⟩⟩
/-- the build in the block g is written -/
theorem OwnL.keptG {b1 n cap j : Nat} {xs : List ByteArray} (h : OwnL w base (some j) v bs) (h1 : Own eS w b1 9 (.slice (some ⟨j, 0, none⟩) n cap) xs) (hg : w.grownBy w' (some j)) : OwnL w' base (some j) v bs := by
  obtain ⟨cs, k1, k2, k3⟩ := h
  exact ⟨cs, Own.kept k1 hg (own_ne_row h1 k1 (by decide)), k2, fun k c b e1 e2 => ⟨Own.kept (k3 k c b e1 e2).1 hg (.inr ((k3 k c b e1 e2).2.2 j rfl)), (k3 k c b e1 e2).2⟩⟩
theorem OwnL.len (h : OwnL w base g v bs) : ∃ a cap, v = .slice a bs.length cap := by
  obtain ⟨cs, k1, k2, _⟩ := h
  rcases k1.2 with ⟨rfl, e⟩ | ⟨q, cap, cur, e, _⟩
  · exact ⟨none, 0, by rw [← k2, e]⟩
  · exact ⟨_, cap, by rw [← k2]; exact e⟩
/-- a build more -/
theorem OwnL.app {cs : List Tri} {c : Tri} {b : List ByteArray} {v' : Value} (h1 : Own eT w base 33 v cs) (h2 : cs.length = bs.length) (h3 : ∀ (k : Nat) (c : Tri) (b : List ByteArray), cs[k]? = some c → bs[k]? = some b → Own eS w base 9 c.v b ∧ b.length = 8 ∧ ∀ j, g = some j → c.v.ownBlock ≠ some j)
    (hc : Own eS w base 9 c.v b) (h8 : b.length = 8) (hg0 : ∀ j, g = some j → c.v.ownBlock ≠ some j) (hn : Own eT w' base 33 v' (cs ++ [c])) (hg : w.grownBy w' v.ownBlock) : OwnL w' base g v' (bs ++ [b]) := by
  refine ⟨cs ++ [c], hn, by simp [h2], fun k c' b' e1 e2 => ?_⟩
  rcases Nat.lt_or_ge k cs.length with hk | hk
  · rw [List.getElem?_append_left hk] at e1
    rw [List.getElem?_append_left (by omega)] at e2
    obtain ⟨r1, r2⟩ := h3 k c' b' e1 e2
    exact ⟨Own.kept r1 hg (own_ne_row h1 r1 (by decide)), r2⟩
  · rw [List.getElem?_append_right hk] at e1
    rw [List.getElem?_append_right (by omega)] at e2
    have hk0 : k - cs.length = 0 := by
      rcases Nat.eq_zero_or_pos (k - cs.length) with h0 | h0
      · exact h0
      · rw [List.getElem?_eq_none (by simp; omega)] at e1; cases e1
    rw [hk0] at e1
    rw [show k - bs.length = 0 by omega] at e2
    simp at e1 e2
    subst e1 e2
    exact ⟨Own.kept hc hg (own_ne_row h1 hc (by decide)), h8, hg0⟩
theorem OwnL.rd (h : OwnL w base g v bs) (hn : bs.length ≤ big40) : RdB w v bs := by
  obtain ⟨cs, k1, k2, k3⟩ := h
  exact ⟨cs, Sl.of_own k1 (by omega), k2, fun k c b e1 e2 => ⟨Sl.of_own (k3 k c b e1 e2).1 (by rw [(k3 k c b e1 e2).2.1]; unfold big40; omega), (k3 k c b e1 e2).2.1⟩⟩
theorem RdB.below (h : RdB w v bs) (hb : Below w.heap.size w w') : RdB w' v bs := by
  obtain ⟨cs, h1, h2, h3⟩ := h
  exact ⟨cs, h1.below hb, h2, fun k c b e1 e2 => ⟨(h3 k c b e1 e2).1.below hb, (h3 k c b e1 e2).2⟩⟩
theorem RdB.shape (h : RdB w v bs) : ∃ A cap, v = .slice A bs.length cap ∧ bs.length ≤ cap ∧ bs.length ≤ 1099511627776 ∧
    (0 < bs.length → ∃ b off, A = some ⟨b, off, none⟩ ∧ b < w.heap.size ∧ ∀ (k : Nat) (hk : k < bs.length), ∃ a c, ∀ W, Below w.heap.size w W → W.cell? ⟨b, off + k, none⟩ = some (.slice a 8 c) ∧ Sl eS W (.slice a 8 c) bs[k] ∧ bs[k].length = 8) := by
  obtain ⟨cs, h1, h2, h3⟩ := h
  obtain ⟨A, cap, rfl, hc, hm, h4⟩ := h1.shape
  refine ⟨A, cap, by rw [h2], by omega, by omega, fun hp => ?_⟩
  obtain ⟨b, off, rfl, hb, h5⟩ := h4 (by omega)
  refine ⟨b, off, rfl, hb, fun k hk => ?_⟩
  have hks : k < cs.length := by omega
  obtain ⟨q, q8⟩ := h3 k cs[k] bs[k] (by simp [hks]) (by simp [hk])
  have c0 := h5 k hks 0 _ (by decide) (by rfl)
  have hn : cs[k].n = 8 := by
    obtain ⟨A', cap', e, _⟩ := q.shape
    unfold Tri.v at e
    injection e with _ e _
    rw [e, q8]
  refine ⟨cs[k].a, cs[k].cap, fun W hW => ⟨(hW.cell (p := ⟨b, off + k, none⟩) hb).trans ?_, ?_, q8⟩⟩
  · rw [← hn]; simpa [eT] using c0
  · have h6 := q.below hW
    unfold Tri.v at h6
    rw [hn] at h6
    exact h6
end

/-- the search in memory -/
structure St (w : World) (base S : Nat) (st : SR) (b : List ByteArray) (bs : List (List ByteArray)) (sl : List Int) : Prop where
  box : Own eSr w base 113 (.slice (some ⟨S, 0, none⟩) 1 1) [st]
  bld : Own eS w base 9 st.bv.v b
  fnd : OwnL w base st.bv.v.ownBlock st.fv.v bs
  slt : Own eI w base 2 st.sv.v sl
  low : base ≤ w.heap.size
abbrev SCells (W : World) (S : Nat) (s : SR) : Prop := W.cell? ⟨S, 0, none⟩ = some (.slice s.pv.a s.pv.n s.pv.cap) ∧ W.cell? ⟨S, 1, none⟩ = some (.slice s.jv.a s.jv.n s.jv.cap) ∧ W.cell? ⟨S, 2, none⟩ = some (.slice s.sv.a s.sv.n s.sv.cap) ∧ W.cell? ⟨S, 3, none⟩ = some (.slice s.bv.a s.bv.n s.bv.cap) ∧ W.cell? ⟨S, 4, none⟩ = some (.int .i64 s.nodes) ∧ W.cell? ⟨S, 5, none⟩ = some (.int .i64 s.most) ∧ W.cell? ⟨S, 6, none⟩ = some (.bool s.full) ∧ W.cell? ⟨S, 7, none⟩ = some (.bool s.single) ∧ W.cell? ⟨S, 8, none⟩ = some (.slice s.fv.a s.fv.n s.fv.cap)
section
variable {w w' : World} {base S : Nat} {st : SR} {b : List ByteArray} {bs : List (List ByteArray)} {sl : List Int}
theorem St.lt (h : St w base S st b bs sl) : base ≤ S ∧ S < w.heap.size := World.ownsRow.lt h.box S rfl
theorem St.below (h : St w base S st b bs sl) (hb : Below w.heap.size w w') : St w' base S st b bs sl := ⟨h.box.below hb, h.bld.below hb, h.fnd.below hb, h.slt.below hb, Nat.le_trans h.low hb.size⟩
theorem St.drew (h : St w base S st b bs sl) : St w.drew base S st b bs sl := ⟨h.box.drew, h.bld.drew, h.fnd.drew, h.slt.drew, h.low⟩
theorem St.cells (h : St w base S st b bs sl) : SCells w S st := by
  have hc := fun j hj => h.box.cellsAt 0 (by simp) j hj
  refine ⟨(?_ : _ = _), ?_, ?_, ?_, ?_, ?_, ?_, ?_, ?_⟩
  · exact hc 0 (by decide)
  · exact hc 1 (by decide)
  · exact hc 2 (by decide)
  · exact hc 3 (by decide)
  · exact hc 4 (by decide)
  · exact hc 5 (by decide)
  · exact hc 6 (by decide)
  · exact hc 7 (by decide)
  · exact hc 8 (by decide)
theorem St.froz (h : St w base S st b bs sl) (j : Nat) : w.frozen? ⟨S, j, none⟩ = false := World.ownsRow.frozenAt h.box j
/-- one cell of the box is written -/
theorem St.put (h : St w base S st b bs sl) (j : Nat) (u : Value) (st' : SR) (hj : j < 9) (hx : eSr.f st' = (eSr.f st).set j u) (e1 : st'.bv = st.bv) (e2 : st'.fv = st.fv) (e3 : st'.sv = st.sv) : St (w.setCell ⟨S, j, none⟩ u) base S st' b bs sl := by
  obtain ⟨h1, h2⟩ := h.box.store1 0 (by simp) j hj u st' hx
  rw [show 0 * eSr.sz + j = j by omega] at h1 h2
  refine ⟨h1, ?_, ?_, ?_, by simpa using h.low⟩
  · rw [e1]; exact Own.kept h.bld h2 (own_ne_row h.box h.bld (by decide))
  · rw [e1, e2]; exact h.fnd.keptT h.box h2 (by decide) (by decide)
  · rw [e3]; exact Own.kept h.slt h2 (own_ne_row h.box h.slt (by decide))
theorem St.bnew (h : St w base S st b bs sl) (h8 : b.length = 8) : ∃ g cap, st.bv = ⟨some ⟨g, 0, none⟩, 8, cap⟩ ∧ base ≤ g ∧ g < w.heap.size := by
  obtain ⟨g, cap, e, h1, h2⟩ := World.ownsRow.form h.bld (by omega)
  refine ⟨g, cap, ?_, h1, h2⟩
  unfold Tri.v at e
  injection e with e1 e2 e3
  have e0 : st.bv = ⟨st.bv.a, st.bv.n, st.bv.cap⟩ := rfl
  rw [e0, e1, e2, e3, h8]
/-- one text of the build is written -/
theorem St.set (h : St w base S st b bs sl) {g cap : Nat} (hb : st.bv = ⟨some ⟨g, 0, none⟩, 8, cap⟩) (h8 : b.length = 8) (k : Nat) (hk : k < 8) (c : ByteArray) : St (w.setCell ⟨g, k, none⟩ (.string c)) base S st (b.set k c) bs sl ∧ (w.cell? ⟨g, k, none⟩ = some (.string (b.getD k ⟨#[]⟩)) ∧ w.frozen? ⟨g, k, none⟩ = false) := by
  have hB := h.bld
  have hF := h.fnd
  rw [hb] at hB hF
  obtain ⟨h1, h2⟩ := Own.store1 (n := 8) hB k (by omega) 0 (by decide) (.string c) c rfl
  rw [show k * eS.sz + 0 = k from by show k * 1 + 0 = k; omega] at h1 h2
  refine ⟨⟨Own.kept h.box h2 (own_ne_row hB h.box (by decide)), ?_, ?_, Own.kept h.slt h2 (own_ne_row hB h.slt (by decide)), by simpa using h.low⟩, ?_⟩
  · rw [hb]; exact h1
  · rw [hb]; exact OwnL.keptG hF hB h2
  · rw [getD_at _ _ k (by omega)]
    exact Own.cell1 (n := 8) (f := Value.string) rfl hB k (by omega) rfl
/-- a build more has been found: the list of them stands in another row -/
theorem St.grow (h : St w base S st b bs sl) {cs : List Tri} {c : Tri} {b' : List ByteArray} {t : Tri} (h1 : Own eT w base 33 st.fv.v cs) (h2 : cs.length = bs.length) (h3 : ∀ (k : Nat) (c : Tri) (b : List ByteArray), cs[k]? = some c → bs[k]? = some b → Own eS w base 9 c.v b ∧ b.length = 8 ∧ ∀ j, st.bv.v.ownBlock = some j → c.v.ownBlock ≠ some j)
    (hc : Own eS w base 9 c.v b') (h8 : b'.length = 8) (hg0 : ∀ j, st.bv.v.ownBlock = some j → c.v.ownBlock ≠ some j) (hn : Own eT w' base 33 t.v (cs ++ [c])) (hg : w.grownBy w' st.fv.v.ownBlock) : St (w'.setCell ⟨S, 8, none⟩ t.v) base S { st with fv := t } b (bs ++ [b']) sl := by
  have hL := OwnL.app h1 h2 h3 hc h8 hg0 hn hg
  have hB := Own.kept h.bld hg (own_ne_row h1 h.bld (by decide))
  have hX := Own.kept h.box hg (own_ne_row h1 h.box (by decide))
  have hS := Own.kept h.slt hg (own_ne_row h1 h.slt (by decide))
  obtain ⟨q1, q2⟩ := hX.store1 0 (by simp) 8 (by decide) t.v { st with fv := t } rfl
  rw [show 0 * eSr.sz + 8 = 8 by omega] at q1 q2
  exact ⟨q1, Own.kept hB q2 (own_ne_row hX hB (by decide)), hL.keptT hX q2 (by decide) (by decide), Own.kept hS q2 (own_ne_row hX hS (by decide)), by have := h.low; have := hg.size; simp; omega⟩
end
end Go.Proofs.Ytblaojjpclipaaa
