/- What a law of chapter 29 holds in its hands: rows of its own, each in a span of blocks. No statement of the seat is proved here. -/
import Derived.Test.YtklllcehndfcpaaVersM
namespace Go.Proofs.Ytklllcehndfcpaa
open Go.RowKit

def OwnB {α : Type} (E : Enc α) (w : World) (lo hi : Nat) (t : TypeId) (v : Value) (xs : List α) : Prop := Own E w lo t v xs ∧ (∀ k, v.ownBlock = some k → k < hi) ∧ hi ≤ w.heap.size
section
variable {α : Type} {E : Enc α} {w w' : World} {lo hi : Nat} {t : TypeId} {v : Value} {xs : List α}
theorem OwnB.of (h : Own E w' lo t v xs) : OwnB E w' lo w'.heap.size t v xs := ⟨h, fun k hk => (World.ownsRow.lt h k hk).2, Nat.le_refl _⟩
theorem OwnB.span {lo' hi' : Nat} (h : OwnB E w lo hi t v xs) (hs : Span lo' hi' w w') (hf : hi ≤ lo' ∨ hi' ≤ lo) : OwnB E w' lo hi t v xs :=
  ⟨h.1.span hs (fun k hk => by have := h.2.1 k hk; have := (World.ownsRow.lt h.1 k hk).1; omega), h.2.1, Nat.le_trans h.2.2 hs.size⟩
theorem OwnB.below (h : OwnB E w lo hi t v xs) (hb : Below w.heap.size w w') : OwnB E w' lo hi t v xs := ⟨h.1.below hb, h.2.1, Nat.le_trans h.2.2 hb.size⟩
theorem OwnB.sl (h : OwnB E w lo hi t v xs) (hn : xs.length ≤ 1048576) : Sl E w v xs := Sl.of_own h.1 (big_of hn)
theorem OwnB.mark {m : List α} (h : OwnB E w lo hi t v xs) (h1 : Own E w' lo t v m) (hg : w.grownBy w' v.ownBlock) (hlo : lo ≤ w.heap.size) : OwnB E w' lo hi t v m ∧ Span lo hi w w' :=
  ⟨⟨h1, h.2.1, Nat.le_trans h.2.2 hg.size⟩, Span.of_grown hg hlo (fun k hk => ⟨(World.ownsRow.lt h.1 k hk).1, h.2.1 k hk⟩)⟩
end
section
variable {w w' : World} {a : Option Addr} {ln cap : Nat} {vs : List Ver}
theorem RowV.below (h : RowV w a ln cap vs) (hb : Below w.heap.size w w') : RowV w' a ln cap vs := by
  obtain ⟨ss, ⟨g1, g2, g3, g4⟩, h2, h3⟩ := h
  refine ⟨ss, ⟨g1, g2, g3, fun hp => ?_⟩, h2, fun k s x hs hx => (h3 k s x hs hx).below hb⟩
  obtain ⟨b, off, e, hl, hc⟩ := g4 hp
  exact ⟨b, off, e, Nat.lt_of_lt_of_le hl hb.size, fun j u hu => (hb.cell (p := ⟨b, off + j, none⟩) hl).trans (hc j u hu)⟩
end
theorem OwnV.rd {w : World} {lo hi : Nat} {v : Value} {vs : List Ver} (h : OwnV w lo hi v vs) (hn : totV vs ≤ 4000000) : RdV w v vs :=
  RdV.of_own h (by have := totV_len vs; unfold big40; omega) (fun x hx => by have := totV_mem vs x hx; unfold big40; omega)
theorem OwnV.rdm {w : World} {lo hi : Nat} {v : Value} {vs : List Ver} {m : Int} (h : OwnV w lo hi v (mkVersionS vs m)) (hn : totV vs ≤ 4000000) : RdV w v (mkVersionS vs m) :=
  RdV.of_own h (by rw [mkVersionS_len]; have := totV_len vs; unfold big40; omega) (fun x hx => by have := mkV_lines vs m x hx; unfold big40; omega)
theorem lines_le {vs : List Ver} (h : totV vs ≤ 1048576) : ∀ x ∈ vs, x.lines.length ≤ 1048576 := fun x hx => Nat.le_trans (totV_mem vs x hx) h
theorem tot_big {n : Nat} (h : n ≤ 1048576) : n ≤ 4000000 := by omega
end Go.Proofs.Ytklllcehndfcpaa
