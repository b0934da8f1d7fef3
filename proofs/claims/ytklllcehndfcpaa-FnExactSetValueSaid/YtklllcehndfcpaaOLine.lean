/- A struct of type Line, and a list of them, that came in as an argument: its fields as numbers, texts and Bools. No statement of the seat is proved here. -/
import Derived.Test.YtklllcehndfcpaaSLine
import Derived.Test.YtklllcehndfcpaaLift
import Derived.Deep.Slices
namespace Go.Proofs.Ytklllcehndfcpaa
open Go.RowKit Go.ChangeShapes Go.WideShapes Go.Deep

section
variable {H : Type} {enc : TypeId × Value → H} {w : World} {base : Nat} {spare : Nat → Bool} {held : Bool}
set_option maxRecDepth 100000 in
theorem cellsLine {fuel : Nat} {cs : List Value} {y : DataW H × List MemPlace} (h : DataW.trod enc Try.prog w base spare held fuel 70 cs = some y) : ∃ x : Line, cs = eLine.f x ∧ okLine x := by
  obtain ⟨ys, n, _, _, hlen, hyl, hf⟩ := DataW.trod_struct Try.underlying70 h
  have hC : Try.prog.cellsOf 70 = 2 := by kernel_rfl
  rw [hC] at hlen
  match cs, hlen with
  | [c0, c1], _ =>
    have g0 := hf 0 _ rfl
    have k0 : Try.prog.cellsOf 9 = 1 := by kernel_rfl
    have y0 : 0 < ys.length := by rw [hyl]; decide
    rw [List.getElem?_eq_getElem y0] at g0
    obtain ⟨a0, e0, _, s0⟩ := DataW.trod_string Try.underlying9 g0
    simp [k0] at e0
    subst e0
    have g1 := hf 1 _ rfl
    have k1 : Try.prog.cellsOf 2 = 1 := by kernel_rfl
    have y1 : 1 < ys.length := by rw [hyl]; decide
    rw [List.getElem?_eq_getElem y1] at g1
    obtain ⟨a1, e1, _, _⟩ := DataW.trod_int Try.underlying2 g1
    simp [k1] at e1
    subst e1
    exact ⟨⟨a0, a1⟩, rfl, by unfold maxLen at s0; exact s0⟩
set_option maxRecDepth 100000 in
theorem openLine {r : Reach} {b0 : Nat} {v : Value} {d : DataW H} {p : List MemPlace} (hv : Value.okWide Try.prog w r b0 70 v) (h : DataW.Trod enc Try.prog w base spare held 70 v d p) : ∃ x : Line, v = .agg #[.string x.key, .int .i64 x.value] ∧ okLine x := by
  obtain ⟨cs, rfl, _⟩ := okWide_struct Try.underlying70 hv
  obtain ⟨fuel, hf⟩ := h
  obtain ⟨x, hx, hk⟩ := cellsLine hf
  refine ⟨x, ?_, hk⟩
  have : cs.toList = eLine.f x := by simpa [Value.cells] using hx
  obtain ⟨l⟩ := cs
  simp only at this
  rw [this]
  rfl
set_option maxRecDepth 100000 in
theorem openLineS {fuel : Nat} {a : Option Addr} {len cap : Nat} {y : DataW H × List MemPlace} (h : DataW.trod enc Try.prog w base spare held fuel 42 [.slice a len cap] = some y) :
    ∃ xs : List Line, RowS eLine w a len cap xs ∧ ∀ x ∈ xs, okLine x := by
  rcases open_slice Try.underlying42 h with ⟨hcs, _⟩ | ⟨x, l, c, m, n, D, Pl, hcs, _, hl, hm, hmm, _, hi⟩
  · simp at hcs
    obtain ⟨rfl, rfl, rfl⟩ := hcs
    exact ⟨[], RowS.nil_ _ _, by simp⟩
  · simp at hcs
    obtain ⟨rfl, rfl, rfl⟩ := hcs
    have hC : Try.prog.cellsOf 70 = eLine.sz := by kernel_rfl
    rw [hC] at hi
    refine RowS.of (by decide) hl hm (fun i hlt => ?_)
    obtain ⟨cs, h1, h2⟩ := hi i (by rw [hmm]; split <;> omega)
    obtain ⟨z, hz, hk⟩ := cellsLine h2
    obtain ⟨_, _, h3⟩ := World.cells?_some h1
    refine ⟨z, hk, fun j hj => ?_⟩
    rw [h3 j hj, hz]
end
end Go.Proofs.Ytklllcehndfcpaa
