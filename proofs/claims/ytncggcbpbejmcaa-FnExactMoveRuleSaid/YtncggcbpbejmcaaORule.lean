/- A struct of type Rule, and a list of them, that came in as an argument: its fields as numbers, texts and Bools. No statement of the seat is proved here. -/
import Derived.Test.YtncggcbpbejmcaaSRule
import Derived.Test.YtncggcbpbejmcaaLift
import Derived.Deep.Slices
namespace Go.Proofs.Ytncggcbpbejmcaa
open Go.RowKit Go.ChangeShapes Go.WideShapes Go.Deep

section
variable {H : Type} {enc : TypeId × Value → H} {w : World} {base : Nat} {spare : Nat → Bool} {held : Bool}
set_option maxRecDepth 100000 in
theorem cellsRule {fuel : Nat} {cs : List Value} {y : DataW H × List MemPlace} (h : DataW.trod enc Try.prog w base spare held fuel 90 cs = some y) : ∃ x : Rule, cs = eRule.f x ∧ okRule x := by
  obtain ⟨ys, n, _, _, hlen, hyl, hf⟩ := DataW.trod_struct Try.underlying90 h
  have hC : Try.prog.cellsOf 90 = 3 := by kernel_rfl
  rw [hC] at hlen
  match cs, hlen with
  | [c0, c1, c2], _ =>
    have g0 := hf 0 _ rfl
    have k0 : Try.prog.cellsOf 2 = 1 := by kernel_rfl
    have y0 : 0 < ys.length := by rw [hyl]; decide
    rw [List.getElem?_eq_getElem y0] at g0
    obtain ⟨a0, e0, _, _⟩ := DataW.trod_int Try.underlying2 g0
    simp [k0] at e0
    subst e0
    have g1 := hf 1 _ rfl
    have k1 : Try.prog.cellsOf 2 = 1 := by kernel_rfl
    have y1 : 1 < ys.length := by rw [hyl]; decide
    rw [List.getElem?_eq_getElem y1] at g1
    obtain ⟨a1, e1, _, _⟩ := DataW.trod_int Try.underlying2 g1
    simp [k1] at e1
    subst e1
    have g2 := hf 2 _ rfl
    have k2 : Try.prog.cellsOf 2 = 1 := by kernel_rfl
    have y2 : 2 < ys.length := by rw [hyl]; decide
    rw [List.getElem?_eq_getElem y2] at g2
    obtain ⟨a2, e2, _, _⟩ := DataW.trod_int Try.underlying2 g2
    simp [k2] at e2
    subst e2
    exact ⟨⟨a0, a1, a2⟩, rfl, trivial⟩
set_option maxRecDepth 100000 in
theorem openRule {r : Reach} {b0 : Nat} {v : Value} {d : DataW H} {p : List MemPlace} (hv : Value.okWide Try.prog w r b0 90 v) (h : DataW.Trod enc Try.prog w base spare held 90 v d p) : ∃ x : Rule, v = .agg #[.int .i64 x.field, .int .i64 x.least, .int .i64 x.grade] ∧ okRule x := by
  obtain ⟨cs, rfl, _⟩ := okWide_struct Try.underlying90 hv
  obtain ⟨fuel, hf⟩ := h
  obtain ⟨x, hx, hk⟩ := cellsRule hf
  refine ⟨x, ?_, hk⟩
  have : cs.toList = eRule.f x := by simpa [Value.cells] using hx
  obtain ⟨l⟩ := cs
  simp only at this
  rw [this]
  rfl
set_option maxRecDepth 100000 in
theorem openRuleS {fuel : Nat} {a : Option Addr} {len cap : Nat} {y : DataW H × List MemPlace} (h : DataW.trod enc Try.prog w base spare held fuel 22 [.slice a len cap] = some y) :
    ∃ xs : List Rule, RowS eRule w a len cap xs ∧ ∀ x ∈ xs, okRule x := by
  rcases open_slice Try.underlying22 h with ⟨hcs, _⟩ | ⟨x, l, c, m, n, D, Pl, hcs, _, hl, hm, hmm, _, hi⟩
  · simp at hcs
    obtain ⟨rfl, rfl, rfl⟩ := hcs
    exact ⟨[], RowS.nil_ _ _, by simp⟩
  · simp at hcs
    obtain ⟨rfl, rfl, rfl⟩ := hcs
    have hC : Try.prog.cellsOf 90 = eRule.sz := by kernel_rfl
    rw [hC] at hi
    refine RowS.of (by decide) hl hm (fun i hlt => ?_)
    obtain ⟨cs, h1, h2⟩ := hi i (by rw [hmm]; split <;> omega)
    obtain ⟨z, hz, hk⟩ := cellsRule h2
    obtain ⟨_, _, h3⟩ := World.cells?_some h1
    refine ⟨z, hk, fun j hj => ?_⟩
    rw [h3 j hj, hz]
end
end Go.Proofs.Ytncggcbpbejmcaa
