/- A statement whose order is drawn, by an invariant: one obligation for each operation in place of one for each order. No statement of the seat is proved here. -/
import Derived.Test.YtblaojjpclipaaaM2
import Derived.Deep.RegionLaw
namespace Go.Proofs.Ytblaojjpclipaaa
open Go.RowKit

/-- what operation i waits for -/
def needsOf (md : Region.Mode) (ops : Array Oper) (i : Nat) : List Nat :=
  ((ops[i]?).map fun o => (o.after.toList.filter fun e => Region.binds md e).map (·.on)).getD []
theorem ready_spec {md : Region.Mode} {ops : Array Oper} {L : Array Bool} {i : Nat} (h : i ∈ Region.ready md ops L) :
    i < ops.size ∧ L.getD i true = false ∧ ∀ j ∈ needsOf md ops i, L.getD j false = true := by
  unfold Region.ready at h
  obtain ⟨h1, h2⟩ := List.mem_filter.1 h
  have h1' := List.mem_range.1 h1
  refine ⟨h1', ?_, ?_⟩
  · simp only [Bool.and_eq_true, Bool.not_eq_true'] at h2
    exact h2.1
  · intro j hj
    simp only [Bool.and_eq_true] at h2
    have h3 := h2.2
    unfold needsOf at hj
    cases ho : ops[i]? with
    | none => rw [ho] at hj; simp at hj
    | some o =>
      rw [ho] at hj h3
      simp only [Option.map_some, Option.getD_some] at hj h3
      obtain ⟨e, he, rfl⟩ := List.mem_map.1 hj
      obtain ⟨he1, he2⟩ := List.mem_filter.1 he
      have := (Array.all_eq_true_iff_forall_mem.1 h3) e (by simpa using he1)
      simpa [he2] using this
theorem ready_none {md : Region.Mode} {ops : Array Oper} {L : Array Bool} (hL : L.size = ops.size) (h : Region.ready md ops L = []) (htop : ∀ i, i < ops.size → ∀ j ∈ needsOf md ops i, j < i) :
    ∀ n, ∀ i, i < n → i < ops.size → L.getD i false = true := by
  intro n
  induction n with
  | zero => intro i hi; omega
  | succ n ih =>
    intro i hi hs
    have hd : ∀ j ∈ needsOf md ops i, L.getD j false = true := fun j hj => ih j (by have := htop i hs j hj; omega) (by have := htop i hs j hj; omega)
    cases hl : L.getD i false with
    | true => rfl
    | false =>
      exfalso
      have hm : i ∈ Region.ready md ops L := by
        unfold Region.ready
        refine List.mem_filter.2 ⟨List.mem_range.2 hs, ?_⟩
        have hlt : L.getD i true = false := by
          rw [Array.getD_eq_getD_getElem?] at hl ⊢
          rw [Array.getElem?_eq_getElem (by omega)] at hl ⊢
          simpa using hl
        have ho : ops[i]? = some ops[i] := Array.getElem?_eq_getElem hs
        unfold needsOf at hd
        rw [ho] at hd ⊢
        simp only [Option.map_some, Option.getD_some] at hd ⊢
        rw [hlt]
        simp only [Bool.not_false, Bool.true_and]
        refine Array.all_eq_true_iff_forall_mem.2 fun e he => ?_
        cases hb : Region.binds md e with
        | false => rfl
        | true => simpa using hd e.on (List.mem_map.2 ⟨e, List.mem_filter.2 ⟨by simpa using he, hb⟩, rfl⟩)
      rw [h] at hm
      cases hm
theorem getD_set {L : Array Bool} {i : Nat} (h : i < L.size) : (fun j => (L.setIfInBounds i true).getD j false) = fun j => j == i || L.getD j false := by
  funext j
  by_cases hji : j = i
  · subst hji
    simp [Array.getD_eq_getD_getElem?, h]
  · have : i ≠ j := fun e => hji e.symm
    simp [Array.getD_eq_getD_getElem?, Array.getElem?_setIfInBounds_ne this, hji]
theorem wpAny_inv {P : Program} {ops : Array Oper} {Q : Exit → Act → World → Prop} {md : Region.Mode} (htop : ∀ i, i < ops.size → ∀ j ∈ needsOf md ops i, j < i)
    (I : (Nat → Bool) → Act → World → Prop)
    (hstep : ∀ i, i < ops.size → ∀ (f : Nat → Bool) a w, f i = false → (∀ j ∈ needsOf md ops i, f j = true) → I f a w → wpOp P ops Q i (I (fun j => j == i || f j)) a w)
    (hend : ∀ (f : Nat → Bool) a w, (∀ i, i < ops.size → f i = true) → I f a w → Q .normal a w) :
    ∀ (fuel : Nat) (L : Array Bool) (a : Act) (w : World), L.size = ops.size → L.toList.count false ≤ fuel → I (fun j => L.getD j false) a w → wpAny P md ops Q fuel L a w := by
  intro fuel
  induction fuel with
  | zero =>
    intro L a w hL hc hI
    have hr : Region.ready md ops L = [] := by
      rw [List.eq_nil_iff_forall_not_mem]
      intro i hi
      obtain ⟨h1, h2, _⟩ := ready_spec hi
      have : 0 < L.toList.count false := by
        refine List.count_pos_iff.2 ?_
        have hg : L[i]'(by omega) = false := by
          rw [Array.getD_eq_getD_getElem?, Array.getElem?_eq_getElem (by omega)] at h2
          simpa using h2
        rw [← hg]
        simp
      omega
    exact ⟨hr, hend _ a w (fun i hi => ready_none hL hr htop ops.size i hi hi) hI⟩
  | succ fuel ih =>
    intro L a w hL hc hI
    refine ⟨fun hr => hend _ a w (fun i hi => ready_none hL hr htop ops.size i hi hi) hI, fun i hi => ?_⟩
    obtain ⟨h1, h2, h3⟩ := ready_spec hi
    have h2' : L.getD i false = false := by
      rw [Array.getD_eq_getD_getElem?] at h2 ⊢
      rw [Array.getElem?_eq_getElem (by omega)] at h2 ⊢
      simpa using h2
    refine wpOp_mono (fun b u hb => ih (L.setIfInBounds i true) b u (by simpa using hL) ?_ ?_) (hstep i h1 _ a w h2' h3 hI)
    · have hlt : i < L.toList.length := by simp; omega
      have hg : L.toList[i] = false := by
        rw [Array.getD_eq_getD_getElem?, Array.getElem?_eq_getElem (by omega)] at h2
        simpa using h2
      have := List.count_set (b := false) (a := true) (l := L.toList) hlt
      rw [Array.toList_setIfInBounds, this]
      simp only [hg]
      simp
      have : 0 < L.toList.count false := by
        refine List.count_pos_iff.2 ?_
        rw [← hg]
        exact List.getElem_mem hlt
      simp only [Array.count_toList] at *
      omega
    · rw [getD_set (by omega)]
      exact hb
theorem wp_region_inv {P : Program} {ops : Array Oper} {Q : Exit → Act → World → Prop} {id : Nat} {a : Act} {w : World} (hm : P.follows .mixedOrders = true)
    (deps : List (List Nat)) (hdeps : (List.range ops.size).map (needsOf .any ops) = deps)
    (htop : (List.range deps.length).all (fun i => (deps.getD i []).all fun j => decide (j < i)) = true)
    (I : (Nat → Bool) → Act → World → Prop) (h0 : I (fun _ => false) a w.drew)
    (hstep : ∀ i, i < deps.length → ∀ (f : Nat → Bool) b u, f i = false → (∀ j ∈ deps.getD i [], f j = true) → (∀ k, k < deps.length → f k = true → ∀ j ∈ deps.getD k [], f j = true) → I f b u → wpOp P ops Q i (I (fun j => j == i || f j)) b u)
    (hend : ∀ (f : Nat → Bool) b u, (∀ i, i < deps.length → f i = true) → I f b u → Q .normal b u) : (Code.region id ops true).wp P Q a w := by
  have hlen : deps.length = ops.size := by rw [← hdeps]; simp
  have hget : ∀ i, i < ops.size → deps.getD i [] = needsOf .any ops i := by
    intro i hi
    rw [← hdeps, List.getD_eq_getElem?_getD, List.getElem?_map, List.getElem?_range hi]
    rfl
  refine wp_region_any hm ?_
  refine wpAny_inv (fun i hi j hj => ?_) (fun f b u => I f b u ∧ ∀ k, k < ops.size → f k = true → ∀ j ∈ needsOf .any ops k, f j = true) (fun i hi f b u hf hd hI => ?_) (fun f b u hall hI => hend f b u (fun i hi => hall i (hlen ▸ hi)) hI.1) ops.size _ a _ (by simp) ?_ ?_
  · have := (List.all_eq_true.1 htop) i (List.mem_range.2 (hlen ▸ hi))
    rw [hget i hi] at this
    simpa using (List.all_eq_true.1 this) j hj
  · refine wpOp_mono (fun b2 u2 h2 => ⟨h2, fun k hk hfk j hj => ?_⟩) (hstep i (hlen ▸ hi) f b u hf (by rw [hget i hi]; exact hd) (fun k hk => by rw [hget k (hlen ▸ hk)]; exact hI.2 k (hlen ▸ hk)) hI.1)
    by_cases hki : k = i
    · subst hki
      simp [hd j hj]
    · have : f k = true := by simpa [hki] using hfk
      simp [hI.2 k hk this j hj]
  · exact Nat.le_trans (List.count_le_length) (by simp)
  · have : (fun j => (Array.replicate ops.size false).getD j false) = fun _ => false := by
      funext j
      simp [Array.getD_eq_getD_getElem?, Array.getElem?_replicate]
      try split <;> rfl
    rw [this]
    exact ⟨h0, fun _ _ h => by cases h⟩
theorem below_zero {p : Nat → Prop} : ∀ i, i < 0 → p i := fun _ h => absurd h (Nat.not_lt_zero _)
theorem below_succ {p : Nat → Prop} {n : Nat} (h' : p n) (h : ∀ i, i < n → p i) : ∀ i, i < n + 1 → p i := fun i hi => by
  rcases Nat.lt_succ_iff_lt_or_eq.1 hi with h1 | rfl
  · exact h i h1
  · exact h'
/-- what leaves all blocks but p as they were, and makes new ones -/
structure Stay (p : Nat) (u u' : World) : Prop where
  sz : u.heap.size ≤ u'.heap.size
  ce : ∀ b o, b ≠ p → b < u.heap.size → u'.cell? ⟨b, o, none⟩ = u.cell? ⟨b, o, none⟩
  fr : ∀ b o, b ≠ p → b < u.heap.size → u'.frozen? ⟨b, o, none⟩ = u.frozen? ⟨b, o, none⟩
theorem Stay.refl (p : Nat) (u : World) : Stay p u u := ⟨Nat.le_refl _, fun _ _ _ _ => rfl, fun _ _ _ _ => rfl⟩
theorem Stay.grown {p : Nat} {u u' : World} (h : u.grownBy u' (some p)) (hs : u.heap.size ≤ u'.heap.size) : Stay p u u' :=
  ⟨hs, fun _ _ hb hlt => h.cell_far _ hlt (fun e => hb (Option.some.inj e)), fun _ _ hb hlt => h.frozen_far _ hlt (fun e => hb (Option.some.inj e))⟩
theorem Stay.alloc (p : Nat) (u : World) (cs : Array Value) (t : TypeId) : Stay p u (u.alloc (.cells cs t)) :=
  ⟨by simp, fun _ _ _ hlt => box_old _ _ _ hlt, fun _ _ _ _ => frozen?_alloc_cells _ _ _ _⟩
end Go.Proofs.Ytblaojjpclipaaa
