/- A struct of type Wrench, and a list of them, that came in as an argument: its fields as numbers, texts and Bools. No statement of the seat is proved here. -/
import Derived.Test.YtijmafppdbllfaaSWrench
import Derived.Test.YtijmafppdbllfaaLift
import Derived.Deep.Slices
namespace Go.Proofs.Ytijmafppdbllfaa
open Go.RowKit Go.ChangeShapes Go.WideShapes Go.Deep

section
variable {H : Type} {enc : TypeId × Value → H} {w : World} {base : Nat} {spare : Nat → Bool} {held : Bool}
set_option maxRecDepth 100000 in
theorem cellsWrench {fuel : Nat} {cs : List Value} {y : DataW H × List MemPlace} (h : DataW.trod enc Try.prog w base spare held fuel 70 cs = some y) : ∃ x : Wrench, cs = eWrench.f x ∧ okWrench x := by
  obtain ⟨ys, n, _, _, hlen, hyl, hf⟩ := DataW.trod_struct Try.underlying70 h
  have hC : Try.prog.cellsOf 70 = 2 := by kernel_rfl
  rw [hC] at hlen
  match cs, hlen with
  | [c0, c1], _ =>
    have g0 := hf 0 _ rfl
    have k0 : Try.prog.cellsOf 2 = 1 := by kernel_rfl
    have y0 : 0 < ys.length := by rw [hyl]; decide
    rw [List.getElem?_eq_getElem y0] at g0
    obtain ⟨a0, e0, _, _⟩ := DataW.trod_int Try.underlying2 g0
    simp [k0] at e0
    subst e0
    have g1 := hf 1 _ rfl
    have k1 : Try.prog.cellsOf 2 = 1 := by kernel_rfl
    have y1 : 1 < ys.length := by rw [hyl]; decide
    rw [List.getElem?_eq_getElem y1] at g1
    obtain ⟨a1, e1, _, _⟩ := DataW.trod_int Try.underlying2 g1
    simp [k1] at e1
    subst e1
    exact ⟨⟨a0, a1⟩, rfl, trivial⟩
set_option maxRecDepth 100000 in
theorem openWrench {r : Reach} {b0 : Nat} {v : Value} {d : DataW H} {p : List MemPlace} (hv : Value.okWide Try.prog w r b0 70 v) (h : DataW.Trod enc Try.prog w base spare held 70 v d p) : ∃ x : Wrench, v = .agg #[.int .i64 x.least, .int .i64 x.most] ∧ okWrench x := by
  obtain ⟨cs, rfl, _⟩ := okWide_struct Try.underlying70 hv
  obtain ⟨fuel, hf⟩ := h
  obtain ⟨x, hx, hk⟩ := cellsWrench hf
  refine ⟨x, ?_, hk⟩
  have : cs.toList = eWrench.f x := by simpa [Value.cells] using hx
  obtain ⟨l⟩ := cs
  simp only at this
  rw [this]
  rfl
set_option maxRecDepth 100000 in
theorem openWrenchS {fuel : Nat} {a : Option Addr} {len cap : Nat} {y : DataW H × List MemPlace} (h : DataW.trod enc Try.prog w base spare held fuel 35 [.slice a len cap] = some y) :
    ∃ xs : List Wrench, RowS eWrench w a len cap xs ∧ ∀ x ∈ xs, okWrench x := by
  rcases open_slice Try.underlying35 h with ⟨hcs, _⟩ | ⟨x, l, c, m, n, D, Pl, hcs, _, hl, hm, hmm, _, hi⟩
  · simp at hcs
    obtain ⟨rfl, rfl, rfl⟩ := hcs
    exact ⟨[], RowS.nil_ _ _, by simp⟩
  · simp at hcs
    obtain ⟨rfl, rfl, rfl⟩ := hcs
    have hC : Try.prog.cellsOf 70 = eWrench.sz := by kernel_rfl
    rw [hC] at hi
    refine RowS.of (by decide) hl hm (fun i hlt => ?_)
    obtain ⟨cs, h1, h2⟩ := hi i (by rw [hmm]; split <;> omega)
    obtain ⟨z, hz, hk⟩ := cellsWrench h2
    obtain ⟨_, _, h3⟩ := World.cells?_some h1
    refine ⟨z, hk, fun j hj => ?_⟩
    rw [h3 j hj, hz]
end
end Go.Proofs.Ytijmafppdbllfaa
