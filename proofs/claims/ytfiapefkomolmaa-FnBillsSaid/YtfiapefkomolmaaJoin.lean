/- The plain law of joining items (chapter 27). No statement of the seat is proved here. -/
import Derived.Test.YtfiapefkomolmaaItems
import Derived.Test.YtfiapefkomolmaaSums
import Derived.Test.YtfiapefkomolmaaFind
import Derived.Test.YtfiapefkomolmaaBox
import Derived.Test.YtfiapefkomolmaaOwn
namespace Go.Proofs.Ytfiapefkomolmaa
open Go.RowKit

def sameI (x y : Item) : Bool := (y.name.toList == x.name.toList) && (y.cents == x.cents) && (y.work == x.work)
def addP (y x : Item) : Item := ⟨y.name, y.pieces + x.pieces, y.cents, y.work⟩
theorem sameI_iff {x y : Item} : sameI x y = true ↔ y.name.toList = x.name.toList ∧ y.cents = x.cents ∧ y.work = x.work := by
  unfold sameI; simp only [Bool.and_eq_true, beq_iff_eq, and_assoc]
theorem sameI_symm {x y : Item} : sameI x y = sameI y x := by
  rw [Bool.eq_iff_iff, sameI_iff, sameI_iff]
  constructor <;> (rintro ⟨h1, h2, h3⟩; exact ⟨h1.symm, h2.symm, h3.symm⟩)
theorem sameI_trans {x y z : Item} (h : sameI x y = true) (h2 : sameI x z = true) : sameI y z = true := by
  rw [sameI_iff] at *
  exact ⟨h2.1.trans h.1.symm, h2.2.1.trans h.2.1.symm, h2.2.2.trans h.2.2.symm⟩
theorem sameI_addP (x y z : Item) : sameI x (addP y z) = sameI x y := rfl
theorem sameI_addP2 (x y z : Item) : sameI (addP x z) y = sameI x y := rfl
/-- one item more -/
def joinOne (out : List Item) (x : Item) : List Item :=
  if firstAt (sameI x) out < 0 then out ++ [x] else out.set (firstAt (sameI x) out).toNat (addP (out.getD (firstAt (sameI x) out).toNat zItem) x)
def joinL (xs : List Item) : Nat → List Item
  | 0 => []
  | k + 1 => joinOne (joinL xs k) (xs.getD k zItem)
theorem joinOne_new {out : List Item} {x : Item} (h : out.any (sameI x) = false) : joinOne out x = out ++ [x] := by unfold joinOne; rw [if_pos (firstAt_neg.2 h)]
theorem joinOne_at {out : List Item} {x : Item} {k : Nat} (hk : k < out.length) (h : (out.take k).any (sameI x) = false) (h2 : sameI x out[k] = true) : joinOne out x = out.set k (addP out[k] x) := by
  unfold joinOne
  rw [firstAt_at hk h h2, if_neg (by omega), Int.toNat_natCast, getD_at _ _ _ hk]
/-- what holds of the items joined so far -/
structure Joined (out : List Item) (k : Nat) (xs : List Item) : Prop where
  len : out.length ≤ k
  dist : ∀ (i j : Nat) (hi : i < out.length) (hj : j < out.length), i ≠ j → sameI out[i] out[j] = false
  ok : ∀ (i : Nat) (hi : i < out.length), isWord out[i].name = true ∧ 1 ≤ out[i].pieces ∧ out[i].pieces ≤ 1000 * k ∧ 0 ≤ out[i].cents ∧ out[i].cents ≤ 1000000
  nm : ∀ (i : Nat) (hi : i < out.length), ∃ y ∈ xs, out[i].name = y.name
theorem joined_all {xs : List Item} (h : areItems xs = true) : ∀ k, k ≤ xs.length → Joined (joinL xs k) k xs
  | 0, _ => ⟨Nat.le_refl _, fun i j hi => absurd hi (by simp [joinL]), fun i hi => absurd hi (by simp [joinL]), fun i hi => absurd hi (by simp [joinL])⟩
  | k + 1, hk => by
    have J := joined_all h k (by omega)
    have hkx : k < xs.length := by omega
    obtain ⟨w1, w2, w3, w4, w5⟩ := (areItems_at h).2 k hkx
    rw [joinL, getD_at _ _ _ hkx]
    generalize hout : joinL xs k = out at *
    generalize hx : xs[k] = x at *
    have hxm : x ∈ xs := by rw [← hx]; exact List.getElem_mem hkx
    by_cases hf : firstAt (sameI x) out < 0
    · have hno := firstAt_neg.1 hf
      rw [joinOne_new hno]
      have hno2 : ∀ (i : Nat) (hi : i < out.length), sameI x out[i] = false := fun i hi => by
        rw [List.any_eq_false] at hno
        have := hno _ (List.getElem_mem hi)
        simpa using this
      refine ⟨by simp; have := J.len; omega, ?_, ?_, ?_⟩
      · intro i j hi hj hij
        simp only [List.length_append, List.length_cons, List.length_nil] at hi hj
        rcases Nat.lt_or_ge i out.length with h1 | h1 <;> rcases Nat.lt_or_ge j out.length with h2 | h2
        · rw [List.getElem_append_left h1, List.getElem_append_left h2]; exact J.dist i j h1 h2 hij
        · rw [List.getElem_append_left h1, List.getElem_append_right h2, List.getElem_singleton, sameI_symm]; exact hno2 i h1
        · rw [List.getElem_append_right h1, List.getElem_append_left h2, List.getElem_singleton]; exact hno2 j h2
        · omega
      · intro i hi
        simp only [List.length_append, List.length_cons, List.length_nil] at hi
        rcases Nat.lt_or_ge i out.length with h1 | h1
        · rw [List.getElem_append_left h1]
          obtain ⟨a, b, c, d, e⟩ := J.ok i h1
          exact ⟨a, b, by omega, d, e⟩
        · rw [List.getElem_append_right h1, List.getElem_singleton]
          exact ⟨w1, w2, by omega, w4, w5⟩
      · intro i hi
        simp only [List.length_append, List.length_cons, List.length_nil] at hi
        rcases Nat.lt_or_ge i out.length with h1 | h1
        · rw [List.getElem_append_left h1]; exact J.nm i h1
        · rw [List.getElem_append_right h1, List.getElem_singleton]; exact ⟨x, hxm, rfl⟩
    · obtain ⟨f, hfl, hf1, hf2, hf3⟩ := firstAt_get hf
      rw [joinOne_at hfl hf3 hf2]
      refine ⟨by rw [List.length_set]; have := J.len; omega, ?_, ?_, ?_⟩
      · intro i j hi hj hij
        rw [List.length_set] at hi hj
        rw [List.getElem_set, List.getElem_set]
        by_cases e1 : f = i <;> by_cases e2 : f = j
        · omega
        · subst e1; rw [if_pos rfl, if_neg e2, sameI_addP2]; exact J.dist f j hi hj hij
        · subst e2; rw [if_neg e1, if_pos rfl, sameI_addP]; exact J.dist i f hi hj hij
        · rw [if_neg e1, if_neg e2]; exact J.dist i j hi hj hij
      · intro i hi
        rw [List.length_set] at hi
        rw [List.getElem_set]
        obtain ⟨a, b, c, d, e⟩ := J.ok i hi
        split
        · rename_i e1; subst e1
          exact ⟨a, by show 1 ≤ out[f].pieces + x.pieces; omega, by show out[f].pieces + x.pieces ≤ 1000 * ((k + 1 : Nat) : Int); omega, d, e⟩
        · exact ⟨a, b, by omega, d, e⟩
      · intro i hi
        rw [List.length_set] at hi
        rw [List.getElem_set]
        split
        · rename_i e1; subst e1; exact J.nm f hi
        · exact J.nm i hi
/-- the program's way: every item that is the same is changed -/
def jK (out : List Item) (x : Item) : Nat → List Item
  | 0 => out
  | k + 1 => if sameI x (out.getD k zItem) then (jK out x k).set k (addP (out.getD k zItem) x) else jK out x k
theorem jK_len (out : List Item) (x : Item) : ∀ k, (jK out x k).length = out.length
  | 0 => rfl
  | k + 1 => by
    rw [jK]
    split
    · rw [List.length_set]; exact jK_len out x k
    · exact jK_len out x k
theorem jK_yes {out : List Item} {x : Item} {k : Nat} (h : sameI x (out.getD k zItem) = true) : jK out x (k + 1) = (jK out x k).set k (addP (out.getD k zItem) x) := by rw [jK, if_pos h]
theorem jK_no {out : List Item} {x : Item} {k : Nat} (h : sameI x (out.getD k zItem) = false) : jK out x (k + 1) = jK out x k := by rw [jK, if_neg (by rw [h]; simp)]
theorem jK_at (out : List Item) (x : Item) : ∀ k j, k ≤ j → (jK out x k).getD j zItem = out.getD j zItem
  | 0, j, _ => rfl
  | k + 1, j, h => by
    have ih := jK_at out x k j (by omega)
    rw [jK]
    split
    · rw [List.getD_eq_getElem?_getD, List.getElem?_set_ne (by omega), ← List.getD_eq_getElem?_getD]; exact ih
    · exact ih
theorem jK_none {out : List Item} {x : Item} (h : out.any (sameI x) = false) : ∀ k, k ≤ out.length → jK out x k = out
  | 0, _ => rfl
  | k + 1, hk => by
    have ih := jK_none h k (by omega)
    rw [jK_no, ih]
    rw [getD_at _ _ _ (by omega)]
    rw [List.any_eq_false] at h
    have := h _ (List.getElem_mem (show k < out.length by omega))
    simpa using this
theorem jK_one {out : List Item} {x : Item} {f : Nat} (hf : f < out.length) (h2 : sameI x out[f] = true) (hd : ∀ (i j : Nat) (hi : i < out.length) (hj : j < out.length), i ≠ j → sameI out[i] out[j] = false) :
    ∀ k, k ≤ out.length → jK out x k = if f < k then out.set f (addP out[f] x) else out
  | 0, _ => by rw [if_neg (by omega)]; rfl
  | k + 1, hk => by
    have ih := jK_one hf h2 hd k (by omega)
    by_cases e : k = f
    · subst e
      rw [jK_yes (by rw [getD_at _ _ _ hf]; exact h2), ih, if_neg (by omega), if_pos (by omega), getD_at _ _ _ hf]
    · have hno : sameI x (out.getD k zItem) = false := by
        rw [getD_at _ _ _ (by omega)]
        rcases h5 : sameI x out[k]
        · rfl
        · have := hd f k hf (by omega) (fun e2 => e e2.symm)
          rw [sameI_trans h2 h5] at this
          cases this
      rw [jK_no hno, ih]
      by_cases h6 : f < k
      · rw [if_pos h6, if_pos (by omega)]
      · rw [if_neg h6, if_neg (by omega)]
theorem jK_end {out xs : List Item} {x : Item} {k : Nat} (J : Joined out k xs) (h : out.any (sameI x) = true) : jK out x out.length = joinOne out x := by
  have hf : ¬ firstAt (sameI x) out < 0 := by rw [firstAt_neg, h]; simp
  obtain ⟨f, hfl, hf1, hf2, hf3⟩ := firstAt_get hf
  rw [joinOne_at hfl hf3 hf2, jK_one hfl hf2 J.dist _ (Nat.le_refl _), if_pos hfl]
def JoinItems_r (xs : List Item) : List Item × Int := if areItems xs then (if areItems (joinL xs xs.length) then (joinL xs xs.length, 0) else ([], 3)) else ([], 1)
theorem JoinItems_bad {xs : List Item} (h : areItems xs = false) : JoinItems_r xs = ([], 1) := by unfold JoinItems_r; rw [h]; rfl
theorem JoinItems_many {xs : List Item} (h : areItems xs = true) (h2 : areItems (joinL xs xs.length) = false) : JoinItems_r xs = ([], 3) := by unfold JoinItems_r; rw [h, h2]; rfl
theorem JoinItems_ok {xs : List Item} (h : areItems xs = true) (h2 : areItems (joinL xs xs.length) = true) : JoinItems_r xs = (joinL xs xs.length, 0) := by unfold JoinItems_r; rw [h, h2]; rfl
theorem JoinItems_len (xs : List Item) : (JoinItems_r xs).1.length ≤ 1048576 := by
  unfold JoinItems_r
  split
  · split
    · rename_i h h2
      have := (areItems_at h2).1
      simp only []; omega
    · simp
  · simp
theorem joinL_okI {xs : List Item} (h : areItems xs = true) (hq : ∀ x ∈ xs, okItem x) : ∀ x ∈ joinL xs xs.length, okItem x := by
  intro x hx
  obtain ⟨i, hi, rfl⟩ := List.mem_iff_getElem.1 hx
  obtain ⟨y, hy, e⟩ := (joined_all h xs.length (Nat.le_refl _)).nm i hi
  have := hq y hy
  unfold okItem strItem at *
  rw [e]; exact this
end Go.Proofs.Ytfiapefkomolmaa
