/- A whole slice appended to a row of the call's own, as a law for the walk. No statement of the seat is proved here. -/
import Derived.Test.YtblaojjpclipaaaM1
import Derived.Maps.AppendAt
import Derived.Laws.OwnMore
namespace Go.Proofs.Ytblaojjpclipaaa
open Go.RowKit

section
variable {α : Type} (E : Enc α) {P : Program} {w : World}
theorem run_app_all (t ty e : TypeId) (z : Value) (bytes : Nat) (ht : P.underlying t = some (.slice e)) (hinf : (P.info? e).map (fun i => (i.zero, i.size, i.bytes)) = some (some z, E.sz, bytes)) (hzs : z.cells.size = E.sz) (hsz : 0 < E.sz) (hby : bytes ≤ 100)
    (base : Nat) (v : Value) (xs : List α) (hown : Own E w base e v xs) (x : Value) (ys : List α) (hy : Sl E w x ys) (hn : xs.length + ys.length ≤ 1000000000) (hbase : base ≤ w.heap.size) :
    ∃ v' w', (Builtin.append_ #[t, t] ty #[v, x]).run P w = .ok v' w' ∧ Own E w' base e v' (xs ++ ys) ∧ w.grownBy w' v.ownBlock ∧ (v'.ownBlock = v.ownBlock ∨ v'.ownBlock = some w.heap.size) := by
  obtain ⟨i, hi, hz, hz1, hz2⟩ := info_parts hinf
  have hb : (xs.length + ys.length) * bytes ≤ 140737488355328 := by
    have : (xs.length + ys.length) * bytes ≤ (xs.length + ys.length) * 100 := Nat.mul_le_mul_left _ hby
    omega
  obtain ⟨hl, _, A, cap, rfl, hc, h3⟩ := hy
  have hown0 : w.ownsRow base e E.sz v xs.length (E.all xs) := hown
  have done : ∀ ad : Addr, A = some ad → (∀ j u, (E.all ys)[j]? = some u → w.cell? (ad.add j) = some u) →
      ∃ v' w', (Builtin.append_ #[t, t] ty #[v, .slice A ys.length cap]).run P w = .ok v' w' ∧ Own E w' base e v' (xs ++ ys) ∧ w.grownBy w' v.ownBlock ∧ (v'.ownBlock = v.ownBlock ∨ v'.ownBlock = some w.heap.size) := by
    intro ad hA hnews
    subst hA
    obtain ⟨v', w', hr, h1, h2, _, h4⟩ := run_append_own_at (P := P) w base t ty e i z E.sz bytes ht hi hz hz1 hz2 hzs hsz v xs.length (E.all xs) hown0 ad ys.length cap (E.all ys) hl hnews (fun u hu => by
      unfold Enc.all at hu
      obtain ⟨y, _, hy⟩ := List.mem_flatMap.1 hu
      exact E.one y u hy) (by unfold maxLen; omega) hb hbase
    refine ⟨v', w', hr, ?_, h2, h4⟩
    unfold Own
    rw [E.app, List.length_append]
    exact h1
  rcases Nat.eq_zero_or_pos ys.length with h0 | hp
  · have hy0 : ys = [] := List.eq_nil_of_length_eq_zero h0
    subst hy0
    cases A with
    | none =>
      refine ⟨v, w, ?_, by rw [List.append_nil]; exact hown, World.grownBy.refl _ _, .inl rfl⟩
      rcases hown0.2 with ⟨rfl, _⟩ | ⟨g, cap2, cur, rfl, _, _, hnc, _⟩
      · simp [Builtin.append_, run_underlying ht, sizeOf, typeInfo, hi, Builtin.lenOf, Builtin.firstCells]
      · simp [Builtin.append_, run_underlying ht, sizeOf, typeInfo, hi, Builtin.lenOf, Builtin.firstCells, hnc, storeCells]
    | some ad => exact done ad rfl (fun j u hu => by simp [Enc.all] at hu)
  · obtain ⟨b, off, hA, _, hx⟩ := h3 hp
    exact done _ hA (fun j u hu => by rw [add_none rfl]; exact hx j u hu)

variable {ops : Array Oper} {rest : List Oper} {o : Oper} {a : Act}
/-- at the operation -/
theorem wp_app_all {K : Act → World → Prop} {Q : Exit → Act → World → Prop} (s x : Operand) (t : TypeId)
    (ho : o.op = .call { callee := .builtin .append, args := #[s, x], argTypes := #[t, t] })
    (e : TypeId) (z : Value) (bytes : Nat) (ht : P.underlying t = some (.slice e)) (hinf : (P.info? e).map (fun i => (i.zero, i.size, i.bytes)) = some (some z, E.sz, bytes)) (hzs : z.cells.size = E.sz) (hsz : 0 < E.sz) (hby : bytes ≤ 100)
    (base : Nat) (v : Value) (xs : List α) (hs : a.eval s = v) (hown : Own E w base e v xs) (xv : Value) (ys : List α) (hx : a.eval x = xv) (hy : Sl E w xv ys) (hn : xs.length + ys.length ≤ 1000000000) (hbase : base ≤ w.heap.size)
    (h : ∀ v' w', Own E w' base e v' (xs ++ ys) → Below base w w' → w.grownBy w' v.ownBlock → (v'.ownBlock = v.ownBlock ∨ v'.ownBlock = some w.heap.size) → K (a.put o.dst v') w') : o.wp P a w K Q := by
  obtain ⟨v', w', hr, h2, h3, h4⟩ := run_app_all E (P := P) t o.type e z bytes ht hinf hzs hsz hby base v xs hown xv ys hy hn hbase
  unfold Oper.wp execOp
  simp only [ho, resolve, invoke, builtin, Sem.run_bind, Sem.run_pure, Result.andThen_ok, List.map_toArray, List.map_cons, List.map_nil, hs, hx, hr]
  exact h v' w' h2 ((Below.refl _ _).grown h3 hbase (fun k hk => (World.ownsRow.lt hown k hk).1)) h3 h4
/-- at the list of a plain region's operations -/
theorem wpList_app_all {Q : Exit → Act → World → Prop} (hgd : o.guard = none) (s x : Operand) (t : TypeId)
    (ho : o.op = .call { callee := .builtin .append, args := #[s, x], argTypes := #[t, t] })
    (e : TypeId) (z : Value) (bytes : Nat) (ht : P.underlying t = some (.slice e)) (hinf : (P.info? e).map (fun i => (i.zero, i.size, i.bytes)) = some (some z, E.sz, bytes)) (hzs : z.cells.size = E.sz) (hsz : 0 < E.sz) (hby : bytes ≤ 100)
    (base : Nat) (v : Value) (xs : List α) (hs : a.eval s = v) (hown : Own E w base e v xs) (xv : Value) (ys : List α) (hx : a.eval x = xv) (hy : Sl E w xv ys) (hn : xs.length + ys.length ≤ 1000000000) (hbase : base ≤ w.heap.size)
    (h : ∀ v' w', Own E w' base e v' (xs ++ ys) → Below base w w' → w.grownBy w' v.ownBlock → (v'.ownBlock = v.ownBlock ∨ v'.ownBlock = some w.heap.size) → wpList P ops Q rest (a.put o.dst v') w') : wpList P ops Q (o :: rest) a w :=
  wpList_plain hgd fun _ hK => wp_app_all E s x t ho e z bytes ht hinf hzs hsz hby base v xs hs hown xv ys hx hy hn hbase fun v' w' h2 hb h3 h4 => hK _ _ (h v' w' h2 hb h3 h4)
/-- at a step of a region that draws its order -/
theorem step_app_all {K : Act → World → Prop} {Q : Exit → Act → World → Prop} {G : Prop} (hgd : o.guard = none) (s x : Operand) (t : TypeId)
    (ho : o.op = .call { callee := .builtin .append, args := #[s, x], argTypes := #[t, t] })
    (e : TypeId) (z : Value) (bytes : Nat) (ht : P.underlying t = some (.slice e)) (hinf : (P.info? e).map (fun i => (i.zero, i.size, i.bytes)) = some (some z, E.sz, bytes)) (hzs : z.cells.size = E.sz) (hsz : 0 < E.sz) (hby : bytes ≤ 100)
    (base : Nat) (v : Value) (xs : List α) (hs : a.eval s = v) (hown : Own E w base e v xs) (xv : Value) (ys : List α) (hx : a.eval x = xv) (hy : Sl E w xv ys) (hn : xs.length + ys.length ≤ 1000000000) (hbase : base ≤ w.heap.size)
    (h : ∀ v' w', Own E w' base e v' (xs ++ ys) → Below base w w' → w.grownBy w' v.ownBlock → (v'.ownBlock = v.ownBlock ∨ v'.ownBlock = some w.heap.size) → K (a.put o.dst v') w') :
    if Region.wanted o (yielded ops a.tmps) = true then Oper.wp P o a w K Q else G := by
  have hw : Region.wanted o (yielded ops a.tmps) = true := by simp [Region.wanted, hgd]
  rw [if_pos hw]
  exact wp_app_all E s x t ho e z bytes ht hinf hzs hsz hby base v xs hs hown xv ys hx hy hn hbase h
end
theorem Sl.far {α : Type} {E : Enc α} {w w' : World} {b n cap : Nat} {ys : List α} {row : Option Nat} (h : Sl E w (.slice (some ⟨b, 0, none⟩) n cap) ys) (hg : w.grownBy w' row) (hne : some b ≠ row) : Sl E w' (.slice (some ⟨b, 0, none⟩) n cap) ys := by
  obtain ⟨h1, h2, A, cap2, e, hc, h3⟩ := h
  refine ⟨h1, h2, A, cap2, e, hc, fun hp => ?_⟩
  obtain ⟨b2, off, rfl, hb, hx⟩ := h3 hp
  obtain rfl : b = b2 := by cases e; rfl
  exact ⟨b, off, rfl, Nat.lt_of_lt_of_le hb hg.size, fun j u hu => (hg.cell_far ⟨b, off + j, none⟩ hb hne).trans (hx j u hu)⟩
/-- what was there before a block that is the call's own is still read -/
theorem Sl.keptOld {α : Type} {E : Enc α} {w0 w w' : World} {x : Value} {ys : List α} {row : Option Nat} (h0 : Sl E w0 x ys) (hb : Below w0.heap.size w0 w) (hg : w.grownBy w' row) (hrow : ∀ k, row = some k → w0.heap.size ≤ k) : Sl E w' x ys := by
  have hbb : Below w0.heap.size w0 w' := hb.grown hg hb.size hrow
  exact h0.below hbb
end Go.Proofs.Ytblaojjpclipaaa
