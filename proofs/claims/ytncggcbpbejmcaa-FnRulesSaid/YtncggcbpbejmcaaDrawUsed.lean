/- What the reference's draws of words and of used parts hand out (chapters 1, 16, 25). No statement of the seat is proved here. -/
import Derived.Test.YtncggcbpbejmcaaDrawWord
import Derived.Test.YtncggcbpbejmcaaSUsed
namespace Go.Proofs.Ytncggcbpbejmcaa
open Go.RowKit

theorem l16Names_any (w : World) : Calls Try.prog 90 #[] w fun e w' => e = .returned (.slice (some ⟨w.heap.size, 0, none⟩) 8 8) ∧ w.alloc (.cells #[.string ⟨#[97, 110, 99, 104, 111, 114]⟩, .string ⟨#[98, 111, 108, 116]⟩, .string ⟨#[99, 114, 97, 110, 107]⟩, .string ⟨#[102, 111, 114, 107]⟩, .string ⟨#[102, 114, 97, 109, 101]⟩, .string ⟨#[104, 101, 97, 100, 115, 101, 116]⟩, .string ⟨#[112, 111, 115, 116]⟩, .string ⟨#[115, 97, 100, 100, 108, 101]⟩] 9) = w' := by
  go_enter Try.func90, Try.ntmps90
  go_wp2
  go_ret
  exact ⟨rfl, rfl⟩
theorem litN_at (x : Nat) (h : x < 8) : ∃ s : ByteArray, s.size ≤ 20 ∧ ∀ (W : World), (W.alloc (.cells #[.string ⟨#[97, 110, 99, 104, 111, 114]⟩, .string ⟨#[98, 111, 108, 116]⟩, .string ⟨#[99, 114, 97, 110, 107]⟩, .string ⟨#[102, 111, 114, 107]⟩, .string ⟨#[102, 114, 97, 109, 101]⟩, .string ⟨#[104, 101, 97, 100, 115, 101, 116]⟩, .string ⟨#[112, 111, 115, 116]⟩, .string ⟨#[115, 97, 100, 100, 108, 101]⟩] 9)).cell? ⟨W.heap.size, x, none⟩ = some (.string s) := by
  match x, h with
  | 0, _ => exact ⟨⟨#[97, 110, 99, 104, 111, 114]⟩, by decide, fun W => (box_new _ _ _ 0).trans rfl⟩
  | 1, _ => exact ⟨⟨#[98, 111, 108, 116]⟩, by decide, fun W => (box_new _ _ _ 1).trans rfl⟩
  | 2, _ => exact ⟨⟨#[99, 114, 97, 110, 107]⟩, by decide, fun W => (box_new _ _ _ 2).trans rfl⟩
  | 3, _ => exact ⟨⟨#[102, 111, 114, 107]⟩, by decide, fun W => (box_new _ _ _ 3).trans rfl⟩
  | 4, _ => exact ⟨⟨#[102, 114, 97, 109, 101]⟩, by decide, fun W => (box_new _ _ _ 4).trans rfl⟩
  | 5, _ => exact ⟨⟨#[104, 101, 97, 100, 115, 101, 116]⟩, by decide, fun W => (box_new _ _ _ 5).trans rfl⟩
  | 6, _ => exact ⟨⟨#[112, 111, 115, 116]⟩, by decide, fun W => (box_new _ _ _ 6).trans rfl⟩
  | 7, _ => exact ⟨⟨#[115, 97, 100, 100, 108, 101]⟩, by decide, fun W => (box_new _ _ _ 7).trans rfl⟩
end Go.Proofs.Ytncggcbpbejmcaa
