/- Versions: a parent's number and a sheet of lines each; a list of them in memory, each sheet a row of its own. No statement of the seat is proved here. -/
import Derived.Test.YtklllcehndfcpaaSLine
import Derived.Test.YtklllcehndfcpaaMLine
import Derived.Test.YtklllcehndfcpaaCells
namespace Go.Proofs.Ytklllcehndfcpaa
open Go.RowKit

structure Ver where
  parent : Int
  lines : List Line
/-- the cells of a version: the sheet as address, length and capacity -/
structure VC where
  p : Int
  a : Option Addr
  n : Nat
  cap : Nat
def VC.sl (s : VC) : Value := .slice s.a s.n s.cap
def eV : Enc VC := ⟨fun s => [.int .i64 s.p, .slice s.a s.n s.cap], 2, fun _ => rfl, fun x u hu => by simp at hu; rcases hu with rfl | rfl <;> rfl⟩
def zVC : VC := ⟨0, none, 0, 0⟩
def zVer : Ver := ⟨0, []⟩
theorem info_Version : (Try.prog.info? 58).map (fun i => (i.zero, i.size, i.bytes)) = some (some (.agg #[.int .i64 0, .slice none 0 0]), 2, 32) := by kernel_rfl
def okVer (x : Ver) : Prop := ∀ l ∈ x.lines, okLine l
def weighV (x : Ver) : Nat := 1 + x.lines.length
def totV (vs : List Ver) : Nat := (vs.map weighV).sum

/-- the block numbers from lo to hi may have changed, new blocks may have come -/
def Span (lo hi : Nat) (w w' : World) : Prop := Below lo w w' ∧ ∀ k, hi ≤ k → k < w.heap.size → w'.heap[k]? = w.heap[k]?
theorem Span.refl (lo hi : Nat) (w : World) : Span lo hi w w := ⟨Below.refl _ _, fun _ _ _ => rfl⟩
theorem Span.trans {lo hi : Nat} {a b c : World} (h : Span lo hi a b) (k : Span lo hi b c) : Span lo hi a c :=
  ⟨h.1.trans k.1, fun i h1 h2 => (k.2 i h1 (Nat.lt_of_lt_of_le h2 h.1.size)).trans (h.2 i h1 h2)⟩
theorem Span.size {lo hi : Nat} {a b : World} (h : Span lo hi a b) : a.heap.size ≤ b.heap.size := h.1.size
theorem Span.block {lo hi : Nat} {a b : World} (h : Span lo hi a b) {k : Nat} (hk : k < a.heap.size) (hf : k < lo ∨ hi ≤ k) : b.heap[k]? = a.heap[k]? := by
  rcases hf with hf | hf
  · exact h.1.block k hf
  · exact h.2 k hf hk
theorem Span.of_grown {lo hi : Nat} {a b : World} {row : Option Nat} (h : a.grownBy b row) (hlo : lo ≤ a.heap.size) (hr : ∀ k, row = some k → lo ≤ k ∧ k < hi) : Span lo hi a b :=
  ⟨⟨h.os, h.tape, h.output, h.size, fun k hk => h.block k (by omega) (fun e => by have := hr k e.symm; omega)⟩, fun k h1 h2 => h.block k h2 (fun e => by have := hr k e.symm; omega)⟩
theorem Span.of_below {lo hi : Nat} {a b : World} (h : Below a.heap.size a b) (hlo : lo ≤ a.heap.size) : Span lo hi a b := ⟨h.mono hlo, fun k _ h2 => h.block k h2⟩
theorem Span.below {lo hi lo' : Nat} {a b : World} (h : Span lo hi a b) (hl : lo' ≤ lo) : Below lo' a b := h.1.mono hl

section
variable {α : Type} {E : Enc α} {w w' : World} {base : Nat} {t : TypeId} {v : Value} {xs : List α}
/-- a row of the call's own whose block is left alone -/
theorem Own.block (h : Own E w base t v xs) (hk : ∀ k, v.ownBlock = some k → w'.heap[k]? = w.heap[k]?) : Own E w' base t v xs := by
  refine ⟨h.1, ?_⟩
  rcases h.2 with h2 | ⟨g, cap, cur, rfl, h2, h3, h4⟩
  · exact .inl h2
  · exact .inr ⟨g, cap, cur, rfl, h2, (hk g rfl).trans h3, h4⟩
theorem Own.span {lo hi : Nat} (h : Own E w base t v xs) (hs : Span lo hi w w') (hf : ∀ k, v.ownBlock = some k → k < lo ∨ hi ≤ k) : Own E w' base t v xs :=
  h.block fun k hk => hs.block (World.ownsRow.lt h k hk).2 (hf k hk)
end

def VAt (w : World) (s : VC) (x : Ver) : Prop := s.p = x.parent ∧ Sl eLine w s.sl x.lines
theorem VAt.below {w w' : World} {s : VC} {x : Ver} (h : VAt w s x) (hb : Below w.heap.size w w') : VAt w' s x := ⟨h.1, h.2.below hb⟩
theorem VAt.n {w : World} {s : VC} {x : Ver} (h : VAt w s x) : s.n = x.lines.length := by
  obtain ⟨A, cap, e, _⟩ := h.2.shape
  unfold VC.sl at e
  injection e
/-- versions that can be read -/
def RdV (w : World) (v : Value) (vs : List Ver) : Prop := ∃ ss : List VC, Sl eV w v ss ∧ ss.length = vs.length ∧ ∀ (k : Nat) (s : VC) (x : Ver), ss[k]? = some s → vs[k]? = some x → VAt w s x
/-- one of the versions of the call's own -/
def VOwn (w : World) (lo hi : Nat) (s : VC) (x : Ver) : Prop := s.p = x.parent ∧ Own eLine w lo 72 s.sl x.lines ∧ (∀ k, s.sl.ownBlock = some k → k < hi)
/-- versions of the call's own, in the blocks from lo to hi -/
def OwnV (w : World) (lo hi : Nat) (v : Value) (vs : List Ver) : Prop := ∃ ss : List VC, Own eV w lo 58 v ss ∧ (∀ k, v.ownBlock = some k → k < hi) ∧ hi ≤ w.heap.size ∧ ss.length = vs.length ∧
  (∀ (k : Nat) (s : VC) (x : Ver), ss[k]? = some s → vs[k]? = some x → VOwn w lo hi s x) ∧
  ∀ (i j : Nat) (s u : VC), i < j → ss[i]? = some s → ss[j]? = some u → s.sl.ownBlock = none ∨ s.sl.ownBlock ≠ u.sl.ownBlock

theorem sl_oneCell (s : VC) : s.sl = .slice s.a s.n s.cap := rfl
section
variable {w w' : World} {lo hi : Nat} {v : Value} {vs : List Ver}
theorem RdV.below (h : RdV w v vs) (hb : Below w.heap.size w w') : RdV w' v vs := by
  obtain ⟨ss, h1, h2, h3⟩ := h
  exact ⟨ss, h1.below hb, h2, fun k s x hs hx => (h3 k s x hs hx).below hb⟩
theorem RdV.drewN (h : RdV w v vs) (n : Nat) : RdV (w.drewN n) v vs := h
theorem RdV.len (h : RdV w v vs) : vs.length ≤ 1099511627776 := by
  obtain ⟨ss, h1, h2, _⟩ := h
  have := h1.len
  unfold big40 at this
  omega
theorem RdV.of_own (h : OwnV w lo hi v vs) (hn : vs.length ≤ big40) (hl : ∀ x ∈ vs, x.lines.length ≤ big40) : RdV w v vs := by
  obtain ⟨ss, h1, _, _, h2, h3, _⟩ := h
  refine ⟨ss, Sl.of_own h1 (by omega), h2, fun k s x hs hx => ?_⟩
  obtain ⟨q1, q2, _⟩ := h3 k s x hs hx
  exact ⟨q1, Sl.of_own q2 (hl x (List.mem_of_getElem? hx))⟩
/-- the shape of versions that can be read -/
theorem RdV.shape (h : RdV w v vs) : ∃ A cap, v = .slice A vs.length cap ∧ vs.length ≤ cap ∧ vs.length ≤ 1099511627776 ∧
    (0 < vs.length → ∃ b off, A = some ⟨b, off, none⟩ ∧ b < w.heap.size ∧ ∀ (k : Nat) (hk : k < vs.length), ∃ a c, w.cell? ⟨b, off + k * 2, none⟩ = some (.int .i64 vs[k].parent) ∧ w.cell? ⟨b, off + k * 2 + 1, none⟩ = some (.slice a vs[k].lines.length c) ∧ Sl eLine w (.slice a vs[k].lines.length c) vs[k].lines) := by
  obtain ⟨ss, h1, h2, h3⟩ := h
  obtain ⟨A, cap, rfl, hc, hm, h4⟩ := h1.shape
  refine ⟨A, cap, by rw [h2], by omega, by omega, fun hp => ?_⟩
  obtain ⟨b, off, rfl, hb, h5⟩ := h4 (by omega)
  refine ⟨b, off, rfl, hb, fun k hk => ?_⟩
  have hks : k < ss.length := by omega
  have hat := h3 k ss[k] vs[k] (by simp [hks]) (by simp [hk])
  have hn := hat.n
  have c0 := h5 k hks 0 _ (by decide) (by rfl)
  have c1 := h5 k hks 1 _ (by decide) (by rfl)
  refine ⟨ss[k].a, ss[k].cap, ?_, ?_, ?_⟩
  · rw [← hat.1]; simpa [eV] using c0
  · rw [← hn]; simpa [eV, Nat.add_assoc] using c1
  · rw [← hn]; exact hat.2
/-- all that is asked of a version is kept where its blocks are -/
theorem VOwn.block {s : VC} {x : Ver} (h : VOwn w lo hi s x) (hk : ∀ k, s.sl.ownBlock = some k → w'.heap[k]? = w.heap[k]?) : VOwn w' lo hi s x := ⟨h.1, h.2.1.block hk, h.2.2⟩
theorem OwnV.span {lo' hi' : Nat} (h : OwnV w lo hi v vs) (hs : Span lo' hi' w w') (hf : hi ≤ lo' ∨ hi' ≤ lo) : OwnV w' lo hi v vs := by
  obtain ⟨ss, h1, h2, h3, h4, h5, h6⟩ := h
  refine ⟨ss, h1.span hs (fun k hk => ?_), h2, Nat.le_trans h3 hs.size, h4, fun k s x e1 e2 => ?_, h6⟩
  · have := h2 k hk
    have := (World.ownsRow.lt h1 k hk).1
    omega
  · obtain ⟨q1, q2, q3⟩ := h5 k s x e1 e2
    refine ⟨q1, q2.span hs (fun j hj => ?_), q3⟩
    have := q3 j hj
    have := (World.ownsRow.lt q2 j hj).1
    omega
theorem OwnV.below (h : OwnV w lo hi v vs) (hb : Below w.heap.size w w') : OwnV w' lo hi v vs :=
  h.span (lo' := w.heap.size) (hi' := w.heap.size) (Span.of_below hb (Nat.le_refl _)) (.inl h.choose_spec.2.2.1)
theorem OwnV.hi_le (h : OwnV w lo hi v vs) : hi ≤ w.heap.size := h.choose_spec.2.2.1
theorem OwnV.mono (h : OwnV w lo hi v vs) {lo' hi' : Nat} (hl : lo' ≤ lo) (hh : hi ≤ hi') (hs : hi' ≤ w.heap.size) : OwnV w lo' hi' v vs := by
  obtain ⟨ss, h1, h2, h3, h4, h5, h6⟩ := h
  have mono : ∀ {α : Type} {E : Enc α} {t : TypeId} {v : Value} {xs : List α}, Own E w lo t v xs → Own E w lo' t v xs := fun {_ _ _ _ _} h => h.mono hl
  exact ⟨ss, mono h1, fun k hk => Nat.lt_of_lt_of_le (h2 k hk) hh, hs, h4, fun k s x e1 e2 => ⟨(h5 k s x e1 e2).1, mono (h5 k s x e1 e2).2.1, fun j hj => Nat.lt_of_lt_of_le ((h5 k s x e1 e2).2.2 j hj) hh⟩, h6⟩
theorem OwnV.nil_ (w : World) (lo hi : Nat) (h : hi ≤ w.heap.size) : OwnV w lo hi (.slice none 0 0) [] :=
  ⟨[], World.ownsRow_nil _ _ _ _, fun k hk => by simp [Value.ownBlock] at hk, h, rfl, fun k s x e _ => by simp at e, fun i j s u _ e _ => by simp at e⟩
end

/-- two rows of different types lie in different blocks -/
theorem own_ne_cells {α β : Type} {E : Enc α} {F : Enc β} {w : World} {b1 b2 : Nat} {t1 t2 : TypeId} {v1 v2 : Value} {xs : List α} {ys : List β} (h1 : Own E w b1 t1 v1 xs) (h2 : Own F w b2 t2 v2 ys) (ht : t1 ≠ t2) : v2.ownBlock = none ∨ v2.ownBlock ≠ v1.ownBlock := by
  rcases h2.2 with ⟨rfl, _⟩ | ⟨g, cap, cur, rfl, _, hg, _⟩
  · exact .inl rfl
  · refine .inr (fun e => ?_)
    rcases h1.2 with ⟨rfl, _⟩ | ⟨g', cap', cur', rfl, _, hg', _⟩
    · simp [Value.ownBlock] at e
    · simp only [Value.ownBlock, Option.some.injEq] at e
      subst e
      rw [hg] at hg'
      have hp := Option.some.inj hg'
      injection hp with e1 e2
      exact ht e2.symm
theorem ne_ver_line : (58 : TypeId) ≠ 72 := by decide
end Go.Proofs.Ytklllcehndfcpaa
