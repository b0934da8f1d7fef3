/- Rows of two integers each: a slice of slices of the call's own. No statement of the seat is proved here. -/
import Derived.Test.YtijmafppdbllfaaMarks
import Derived.Test.YtijmafppdbllfaaStructs
namespace Go.Proofs.Ytijmafppdbllfaa
open Go.RowKit

/-- a row of two integers, told by its block -/
def eB : Enc Nat := ⟨fun b => [.slice (some ⟨b, 0, none⟩) 2 2], 1, fun _ => rfl, fun x u hu => by simp at hu; subst hu; rfl⟩
theorem info_rowI : (Try.prog.info? 22).map (fun i => (i.zero, i.size, i.bytes)) = some (some (.slice none 0 0), 1, 24) := by kernel_rfl
/-- block b holds the pair p -/
def PairAt (w : World) (b : Nat) (p : Int × Int) : Prop := w.heap[b]? = some (.cells #[.int .i64 p.1, .int .i64 p.2] 2 (0, 0))
theorem PairAt.lt {w : World} {b : Nat} {p : Int × Int} (h : PairAt w b p) : b < w.heap.size := (Array.getElem?_eq_some_iff.1 h).1
theorem PairAt.same {w w' : World} {b : Nat} {p : Int × Int} (h : PairAt w b p) (e : w'.heap[b]? = w.heap[b]?) : PairAt w' b p := e.trans h
theorem PairAt.c0 {w : World} {b : Nat} {p : Int × Int} (h : PairAt w b p) : w.cell? ⟨b, 0, none⟩ = some (.int .i64 p.1) := by
  unfold PairAt at h; simp [World.cell?, h]
theorem PairAt.c1 {w : World} {b : Nat} {p : Int × Int} (h : PairAt w b p) : w.cell? ⟨b, 1, none⟩ = some (.int .i64 p.2) := by
  unfold PairAt at h; simp [World.cell?, h]
theorem PairAt.ints {w : World} {b : Nat} {p : Int × Int} (h : PairAt w b p) : Ints w (.slice (some ⟨b, 0, none⟩) 2 2) [p.1, p.2] := by
  refine ⟨rfl, by simp [big40], _, _, rfl, Nat.le_refl _, fun _ => ⟨b, 0, rfl, h.lt, fun j u hu => ?_⟩⟩
  match j, hu with
  | 0, hu => cases hu; exact h.c0
  | 1, hu => cases hu; exact h.c1
theorem PairAt.own {w : World} {b base : Nat} {p : Int × Int} (h : PairAt w b p) (hb : base ≤ b) : Own eI w base 2 (.slice (some ⟨b, 0, none⟩) 2 2) [p.1, p.2] :=
  ⟨rfl, .inr ⟨b, 2, _, rfl, hb, h, Nat.le_refl _, by decide, rfl, rfl⟩⟩
theorem PairAt.of_own {w : World} {b base : Nat} {x y : Int} (h : Own eI w base 2 (.slice (some ⟨b, 0, none⟩) 2 2) [x, y]) : PairAt w b (x, y) := by
  rcases h.2 with ⟨hh, _⟩ | ⟨g, cap, cur, e, _, hg, _, _, hcs, ht⟩
  · cases hh
  · cases e
    have e2 : cur = #[.int .i64 x, .int .i64 y] := by
      have e3 : cur.toList = eI.all [x, y] := by rw [← ht, List.take_of_length_le (by rw [Array.length_toList, hcs]; exact Nat.le_refl _)]
      exact Array.toList_inj.1 (e3.trans rfl)
    rw [e2] at hg
    exact hg
/-- rows of two integers that can be read -/
def RdP (w : World) (v : Value) (ps : List (Int × Int)) : Prop := ∃ bs : List Nat, Sl eB w v bs ∧ bs.length = ps.length ∧ ∀ (k b : Nat) (p : Int × Int), bs[k]? = some b → ps[k]? = some p → PairAt w b p
/-- rows of two integers of the call's own -/
def OwnP (w : World) (base : Nat) (v : Value) (ps : List (Int × Int)) : Prop := ∃ bs : List Nat, Own eB w base 22 v bs ∧ bs.length = ps.length ∧ bs.Nodup ∧ ∀ (k b : Nat) (p : Int × Int), bs[k]? = some b → ps[k]? = some p → base ≤ b ∧ PairAt w b p

section
variable {w w' : World} {base : Nat} {v : Value} {ps : List (Int × Int)}
theorem RdP.below (h : RdP w v ps) (hb : Below w.heap.size w w') : RdP w' v ps := by
  obtain ⟨bs, h1, h2, h3⟩ := h
  exact ⟨bs, h1.below hb, h2, fun k b p hk hp => (h3 k b p hk hp).same (hb.block b (h3 k b p hk hp).lt)⟩
theorem RdP.of_own (h : OwnP w base v ps) (hn : ps.length ≤ big40) : RdP w v ps := by
  obtain ⟨bs, h1, h2, _, h3⟩ := h
  exact ⟨bs, Sl.of_own h1 (by omega), h2, fun k b p hk hp => (h3 k b p hk hp).2⟩
theorem RdP.drewN (h : RdP w v ps) (n : Nat) : RdP (w.drewN n) v ps := h
theorem OwnP.below (h : OwnP w base v ps) (hb : Below w.heap.size w w') : OwnP w' base v ps := by
  obtain ⟨bs, h1, h2, h4, h3⟩ := h
  exact ⟨bs, h1.below hb, h2, h4, fun k b p hk hp => ⟨(h3 k b p hk hp).1, (h3 k b p hk hp).2.same (hb.block b (h3 k b p hk hp).2.lt)⟩⟩
theorem OwnP.mono (h : OwnP w base v ps) {base' : Nat} (hb : base' ≤ base) : OwnP w base' v ps := by
  obtain ⟨bs, h1, h2, h4, h3⟩ := h
  refine ⟨bs, ⟨h1.1, ?_⟩, h2, h4, fun k b p hk hp => ⟨Nat.le_trans hb (h3 k b p hk hp).1, (h3 k b p hk hp).2⟩⟩
  rcases h1.2 with h | ⟨g, cap, cur, e1, e2, e3⟩
  · exact .inl h
  · exact .inr ⟨g, cap, cur, e1, Nat.le_trans hb e2, e3⟩
theorem OwnP.nil_ (w : World) (base : Nat) : OwnP w base (.slice none 0 0) [] := ⟨[], World.ownsRow_nil _ _ _ _, rfl, List.nodup_nil, fun k b p hk _ => by simp at hk⟩
theorem OwnP.empty (w : World) (base : Nat) (h : base ≤ w.heap.size) : OwnP (w.alloc (.cells #[] 22)) base (.slice (some ⟨w.heap.size, 0, none⟩) 0 0) [] :=
  ⟨[], World.ownsRow_made w #[] 0 h (by decide) (by simp), rfl, List.nodup_nil, fun k b p hk _ => by simp at hk⟩
/-- the outer row's block is no pair's block -/
theorem own_ne_pair {v : Value} {bs : List Nat} {b : Nat} {p : Int × Int} (h : Own eB w base 22 v bs) (hp : PairAt w b p) : some b ≠ v.ownBlock := by
  rcases h.2 with ⟨rfl, _⟩ | ⟨g, cap, cur, rfl, _, hg, _⟩
  · simp [Value.ownBlock]
  · intro e
    simp only [Value.ownBlock, Option.some.injEq] at e
    subst e
    rw [PairAt, hg] at hp
    have hp2 := Option.some.inj hp
    injection hp2 with h1 h2
    exact absurd h2 (by decide)
/-- a pair more: the pair's block is laid, then the row's value is appended -/
theorem OwnP.app {bs : List Nat} {x y : Int} {v' : Value} (h1 : Own eB w base 22 v bs) (h2 : bs.length = ps.length) (h4 : bs.Nodup) (h3 : ∀ (k b : Nat) (p : Int × Int), bs[k]? = some b → ps[k]? = some p → base ≤ b ∧ PairAt w b p) (hbase : base ≤ w.heap.size)
    (ho : Own eB w' base 22 v' (bs ++ [w.heap.size])) (hg : (w.alloc (.cells #[.int .i64 x, .int .i64 y] 2)).grownBy w' v.ownBlock) : OwnP w' base v' (ps ++ [(x, y)]) := by
  have hn : PairAt (w.alloc (.cells #[.int .i64 x, .int .i64 y] 2)) w.heap.size (x, y) := by unfold PairAt World.alloc; simp
  have hold : ∀ (k b : Nat) (p : Int × Int), bs[k]? = some b → ps[k]? = some p → base ≤ b ∧ PairAt w' b p ∧ b < w.heap.size := fun k b p hk hp => by
    obtain ⟨q1, q2⟩ := h3 k b p hk hp
    have hl := q2.lt
    refine ⟨q1, q2.same ?_, hl⟩
    rw [hg.block b (by simp; omega) (own_ne_pair h1 q2)]
    exact Below.heap_alloc w _ b hl
  have hlt : ∀ b ∈ bs, b < w.heap.size := fun b hb => by
    obtain ⟨k, hk, rfl⟩ := List.getElem_of_mem hb
    exact (hold k bs[k] ps[k] (by simp [hk]) (by simp [show k < ps.length by omega])).2.2
  have hvne : some w.heap.size ≠ v.ownBlock := fun e => by
    have := (World.ownsRow.lt h1 w.heap.size e.symm).2
    omega
  refine ⟨bs ++ [w.heap.size], ho, by simp [h2], ?_, fun k b p hk hp => ?_⟩
  · rw [List.nodup_append]
    refine ⟨h4, by simp, fun a ha b hb e => ?_⟩
    simp at hb
    have := hlt a ha
    omega
  · rcases Nat.lt_or_ge k bs.length with h | h
    · rw [List.getElem?_append_left h] at hk
      rw [List.getElem?_append_left (by omega)] at hp
      exact ⟨(hold k b p hk hp).1, (hold k b p hk hp).2.1⟩
    · rw [List.getElem?_append_right h] at hk
      rw [List.getElem?_append_right (by omega)] at hp
      have hk0 : k - bs.length = 0 := by
        rcases Nat.eq_zero_or_pos (k - bs.length) with h0 | h0
        · exact h0
        · rw [List.getElem?_eq_none (by simp; omega)] at hk; cases hk
      rw [hk0] at hk
      rw [show k - ps.length = 0 by omega] at hp
      simp at hk hp
      subst hk hp
      exact ⟨hbase, hn.same (hg.block _ (by simp) hvne)⟩
/-- a pair overwritten -/
theorem OwnP.set {bs : List Nat} {k b : Nat} {x y : Int} (h1 : Own eB w base 22 v bs) (h2 : bs.length = ps.length) (h4 : bs.Nodup) (h3 : ∀ (k b : Nat) (p : Int × Int), bs[k]? = some b → ps[k]? = some p → base ≤ b ∧ PairAt w b p)
    (hk : k < ps.length) (hb : bs[k]? = some b) (hp : PairAt w' b (x, y)) (hg : w.grownBy w' (some b)) :
    Own eB w' base 22 v bs ∧ bs.length = (ps.set k (x, y)).length ∧ bs.Nodup ∧ ∀ (k' b : Nat) (p : Int × Int), bs[k']? = some b → (ps.set k (x, y))[k']? = some p → base ≤ b ∧ PairAt w' b p := by
  have hold := h3 k b ps[k] hb (by simp [hk])
  refine ⟨World.ownsRow.kept h1 hg ?_, by simp [h2], h4, fun k' b' p hk' hp' => ?_⟩
  · exact .inr (fun e => own_ne_pair h1 hold.2 e.symm)
  · by_cases e : k' = k
    · subst e
      rw [hb] at hk'
      cases hk'
      rw [List.getElem?_set_self hk] at hp'
      cases hp'
      exact ⟨hold.1, hp⟩
    · rw [List.getElem?_set_ne (Ne.symm e)] at hp'
      obtain ⟨q1, q2⟩ := h3 k' b' p hk' hp'
      refine ⟨q1, q2.same (hg.block b' q2.lt ?_)⟩
      intro e2
      cases e2
      have i1 := List.getElem?_eq_some_iff.1 hb
      have i2 := List.getElem?_eq_some_iff.1 hk'
      obtain ⟨j1, i1⟩ := i1
      obtain ⟨j2, i2⟩ := i2
      have hpw := List.pairwise_iff_getElem.1 h4
      rcases Nat.lt_or_gt_of_ne e with hlt | hlt
      · exact hpw _ _ j2 j1 hlt (i2.trans i1.symm)
      · exact hpw _ _ j1 j2 hlt (i1.trans i2.symm)
/-- the shape of rows that can be read -/
theorem RdP.shape (h : RdP w v ps) : ∃ A cap, v = .slice A ps.length cap ∧ ps.length ≤ cap ∧ ps.length ≤ 1099511627776 ∧
    (0 < ps.length → ∃ b off, A = some ⟨b, off, none⟩ ∧ b < w.heap.size ∧ ∀ (k : Nat) (hk : k < ps.length), ∃ q, w.cell? ⟨b, off + k, none⟩ = some (.slice (some ⟨q, 0, none⟩) 2 2) ∧ PairAt w q ps[k]) := by
  obtain ⟨bs, h1, h2, h3⟩ := h
  obtain ⟨A, cap, rfl, hc, hm, h4⟩ := h1.shape
  refine ⟨A, cap, by rw [h2], by omega, by omega, fun hp => ?_⟩
  obtain ⟨b, off, rfl, hb, h5⟩ := h4 (by omega)
  refine ⟨b, off, rfl, hb, fun k hk => ⟨bs[k], ?_, h3 k _ _ (by simp [show k < bs.length by omega]) (by simp [hk])⟩⟩
  have := h5 k (by omega) 0 _ (by decide) (by rfl)
  simpa [eB] using this
end
end Go.Proofs.Ytijmafppdbllfaa
