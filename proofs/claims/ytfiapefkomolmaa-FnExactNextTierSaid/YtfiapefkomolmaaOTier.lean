/- A struct of type Tier, and a list of them, that came in as an argument: its fields as numbers, texts and Bools. No statement of the seat is proved here. -/
import Derived.Test.YtfiapefkomolmaaSTier
import Derived.Test.YtfiapefkomolmaaLift
import Derived.Deep.Slices
namespace Go.Proofs.Ytfiapefkomolmaa
open Go.RowKit Go.ChangeShapes Go.WideShapes Go.Deep

section
variable {H : Type} {enc : TypeId × Value → H} {w : World} {base : Nat} {spare : Nat → Bool} {held : Bool}
set_option maxRecDepth 100000 in
theorem cellsTier {fuel : Nat} {cs : List Value} {y : DataW H × List MemPlace} (h : DataW.trod enc Try.prog w base spare held fuel 74 cs = some y) : ∃ x : Tier, cs = eTier.f x ∧ okTier x := by
  obtain ⟨ys, n, _, _, hlen, hyl, hf⟩ := DataW.trod_struct Try.underlying74 h
  have hC : Try.prog.cellsOf 74 = 2 := by kernel_rfl
  rw [hC] at hlen
  match cs, hlen with
  | [c0, c1], _ =>
    have g0 := hf 0 _ rfl
    have k0 : Try.prog.cellsOf 2 = 1 := by kernel_rfl
    have y0 : 0 < ys.length := by rw [hyl]; decide
    rw [List.getElem?_eq_getElem y0] at g0
    obtain ⟨a0, e0, _, _⟩ := DataW.trod_int Try.underlying2 g0
    simp [k0] at e0
    subst e0
    have g1 := hf 1 _ rfl
    have k1 : Try.prog.cellsOf 2 = 1 := by kernel_rfl
    have y1 : 1 < ys.length := by rw [hyl]; decide
    rw [List.getElem?_eq_getElem y1] at g1
    obtain ⟨a1, e1, _, _⟩ := DataW.trod_int Try.underlying2 g1
    simp [k1] at e1
    subst e1
    exact ⟨⟨a0, a1⟩, rfl, trivial⟩
set_option maxRecDepth 100000 in
theorem openTier {r : Reach} {b0 : Nat} {v : Value} {d : DataW H} {p : List MemPlace} (hv : Value.okWide Try.prog w r b0 74 v) (h : DataW.Trod enc Try.prog w base spare held 74 v d p) : ∃ x : Tier, v = .agg #[.int .i64 x.from_, .int .i64 x.percent] ∧ okTier x := by
  obtain ⟨cs, rfl, _⟩ := okWide_struct Try.underlying74 hv
  obtain ⟨fuel, hf⟩ := h
  obtain ⟨x, hx, hk⟩ := cellsTier hf
  refine ⟨x, ?_, hk⟩
  have : cs.toList = eTier.f x := by simpa [Value.cells] using hx
  obtain ⟨l⟩ := cs
  simp only at this
  rw [this]
  rfl
set_option maxRecDepth 100000 in
theorem openTierS {fuel : Nat} {a : Option Addr} {len cap : Nat} {y : DataW H × List MemPlace} (h : DataW.trod enc Try.prog w base spare held fuel 28 [.slice a len cap] = some y) :
    ∃ xs : List Tier, RowS eTier w a len cap xs ∧ ∀ x ∈ xs, okTier x := by
  rcases open_slice Try.underlying28 h with ⟨hcs, _⟩ | ⟨x, l, c, m, n, D, Pl, hcs, _, hl, hm, hmm, _, hi⟩
  · simp at hcs
    obtain ⟨rfl, rfl, rfl⟩ := hcs
    exact ⟨[], RowS.nil_ _ _, by simp⟩
  · simp at hcs
    obtain ⟨rfl, rfl, rfl⟩ := hcs
    have hC : Try.prog.cellsOf 74 = eTier.sz := by kernel_rfl
    rw [hC] at hi
    refine RowS.of (by decide) hl hm (fun i hlt => ?_)
    obtain ⟨cs, h1, h2⟩ := hi i (by rw [hmm]; split <;> omega)
    obtain ⟨z, hz, hk⟩ := cellsTier h2
    obtain ⟨_, _, h3⟩ := World.cells?_some h1
    refine ⟨z, hk, fun j hj => ?_⟩
    rw [h3 j hj, hz]
end
end Go.Proofs.Ytfiapefkomolmaa
