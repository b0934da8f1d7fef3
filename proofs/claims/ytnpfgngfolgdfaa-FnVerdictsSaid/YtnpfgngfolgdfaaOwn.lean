/- Plain lemmas on slices of the call's own. No statement of the seat is proved here. -/
import Derived.Test.YtnpfgngfolgdfaaStructs
namespace Go.Proofs.Ytnpfgngfolgdfaa
open Go.RowKit

section
variable {α : Type} {E : Enc α} {w : World} {base : Nat} {t : TypeId} {v : Value} {xs : List α}
theorem Own.drewN (h : Own E w base t v xs) (k : Nat) : Own E (w.drewN k) base t v xs := h
theorem Own.drew (h : Own E w base t v xs) : Own E w.drew base t v xs := World.ownsRow.drew h
theorem Own.mono (h : Own E w base t v xs) {base' : Nat} (hb : base' ≤ base) : Own E w base' t v xs :=
  ⟨h.1, h.2.imp id fun ⟨g, cap, cur, h1, h2, h3⟩ => ⟨g, cap, cur, h1, Nat.le_trans hb h2, h3⟩⟩
theorem Own.alloc (h : Own E w base t v xs) (o : Obj) : Own E (w.alloc o) base t v xs := World.ownsRow.alloc h o
end
theorem Own.nil_ {α : Type} (E : Enc α) (w : World) (base : Nat) (t : TypeId) : Own E w base t (.slice none 0 0) [] := World.ownsRow_nil _ _ _ _
theorem Own.empty {α : Type} (E : Enc α) (w : World) (base : Nat) (t : TypeId) (h : base ≤ w.heap.size) : Own E (w.alloc (.cells #[] t)) base t (.slice (some ⟨w.heap.size, 0, none⟩) 0 0) [] :=
  World.ownsRow_made w #[] 0 h (by decide) (by simp)
theorem own_apart {w : World} {b2 : Nat} {t2 : TypeId} {s2 n2 : Nat} {v1 v2 : Value} {x2 : List Value} (h2 : w.ownsRow b2 t2 s2 v2 n2 x2) (h : ∀ k, v1.ownBlock = some k → k < b2) : v1.ownBlock = none ∨ v1.ownBlock ≠ v2.ownBlock := by
  cases hv : v1.ownBlock with
  | none => exact .inl rfl
  | some k =>
    refine .inr (fun e => ?_)
    have := h k hv
    have := (World.ownsRow.lt h2 k e.symm).1
    omega
theorem own_apart2 {w : World} {b2 : Nat} {t2 : TypeId} {s2 n2 g : Nat} {v2 : Value} {x2 : List Value} (h2 : w.ownsRow b2 t2 s2 v2 n2 x2) (h : g < b2) : v2.ownBlock = none ∨ v2.ownBlock ≠ some g := by
  refine .inr (fun e => ?_)
  have := (World.ownsRow.lt h2 g e).1
  omega
theorem own_of_ints {w : World} {base : Nat} {t : TypeId} {v : Value} {n : Nat} {xs : List Int} (h : w.ownsRow base t 1 v n (xs.map (Value.int .i64))) (hn : xs.length = n) : Own eI w base t v xs := by
  subst hn; unfold Own; rw [eI_all]; exact h
theorem Own.ints {w : World} {base : Nat} {t : TypeId} {v : Value} {xs : List Int} (h : Own eI w base t v xs) : w.ownsRow base t 1 v xs.length (xs.map (Value.int .i64)) := by
  unfold Own at h; rw [eI_all] at h; exact h

theorem Ints.shapeL {w : World} {v : Value} {xs : List Int} {n : Nat} (h : Ints w v xs) (hn : xs.length = n) : ∃ A cap, v = .slice A n cap ∧ n ≤ cap ∧ n ≤ 1099511627776 ∧
    (0 < n → ∃ b off, A = some ⟨b, off, none⟩ ∧ b < w.heap.size ∧ ∀ (k : Nat), k < n → w.cell? ⟨b, off + k, none⟩ = some (.int .i64 (xs.getD k 0))) := by
  subst hn
  obtain ⟨A, cap, e, h1, h2, h3⟩ := Ints.shape h
  refine ⟨A, cap, e, h1, h2, fun hp => ?_⟩
  obtain ⟨b, off, e2, hb, hc⟩ := h3 hp
  refine ⟨b, off, e2, hb, fun k hk => ?_⟩
  rw [hc k hk]
  simp [hk]
end Go.Proofs.Ytnpfgngfolgdfaa
