/- What the reference's list of names hands out. No statement of the seat is proved here. -/
import Derived.Test.YtblaojjpclipaaaReg
namespace Go.Proofs.Ytblaojjpclipaaa
open Go.RowKit

theorem litNm_at (k : Nat) (h : k < 8) : ∃ s : ByteArray, s.size ≤ 20 ∧ (#[.string ⟨#[97, 110, 99, 104, 111, 114]⟩, .string ⟨#[98, 111, 108, 116]⟩, .string ⟨#[99, 114, 97, 110, 107]⟩, .string ⟨#[102, 111, 114, 107]⟩, .string ⟨#[102, 114, 97, 109, 101]⟩, .string ⟨#[104, 101, 97, 100, 115, 101, 116]⟩, .string ⟨#[112, 111, 115, 116]⟩, .string ⟨#[115, 97, 100, 100, 108, 101]⟩] : Array Value)[k]? = some (.string s) := by
  match k, h with
  | 0, _ => exact ⟨⟨#[97, 110, 99, 104, 111, 114]⟩, by decide, rfl⟩
  | 1, _ => exact ⟨⟨#[98, 111, 108, 116]⟩, by decide, rfl⟩
  | 2, _ => exact ⟨⟨#[99, 114, 97, 110, 107]⟩, by decide, rfl⟩
  | 3, _ => exact ⟨⟨#[102, 111, 114, 107]⟩, by decide, rfl⟩
  | 4, _ => exact ⟨⟨#[102, 114, 97, 109, 101]⟩, by decide, rfl⟩
  | 5, _ => exact ⟨⟨#[104, 101, 97, 100, 115, 101, 116]⟩, by decide, rfl⟩
  | 6, _ => exact ⟨⟨#[112, 111, 115, 116]⟩, by decide, rfl⟩
  | 7, _ => exact ⟨⟨#[115, 97, 100, 100, 108, 101]⟩, by decide, rfl⟩
theorem l16Names_ps (w0 : World) (p : Nat) (w : World) (hD : Dr w0 p w) : Calls Try.prog 81 #[] w fun e w' => ∃ N, e = .returned (.slice (some ⟨N, 0, none⟩) 8 8) ∧ PS p w' (.slice (some ⟨N, 0, none⟩) 8 8) 8 ∧ w.heap.size ≤ N ∧ Dr w0 p w' ∧ w.grownBy w' (some p) := by
  have HD := Lib.hid (hD.alloc (.cells #[.string ⟨#[97, 110, 99, 104, 111, 114]⟩, .string ⟨#[98, 111, 108, 116]⟩, .string ⟨#[99, 114, 97, 110, 107]⟩, .string ⟨#[102, 111, 114, 107]⟩, .string ⟨#[102, 114, 97, 109, 101]⟩, .string ⟨#[104, 101, 97, 100, 115, 101, 116]⟩, .string ⟨#[112, 111, 115, 116]⟩, .string ⟨#[115, 97, 100, 100, 108, 101]⟩] 9))
  have HP : Hid (PS p (w.alloc (.cells #[.string ⟨#[97, 110, 99, 104, 111, 114]⟩, .string ⟨#[98, 111, 108, 116]⟩, .string ⟨#[99, 114, 97, 110, 107]⟩, .string ⟨#[102, 111, 114, 107]⟩, .string ⟨#[102, 114, 97, 109, 101]⟩, .string ⟨#[104, 101, 97, 100, 115, 101, 116]⟩, .string ⟨#[112, 111, 115, 116]⟩, .string ⟨#[115, 97, 100, 100, 108, 101]⟩] 9)) (.slice (some ⟨w.heap.size, 0, none⟩) 8 8) 8) := Lib.hid (PS.new hD litNm_at)
  clear hD
  go_enter Try.func81, Try.ntmps81
  go_wp2
  go_ret
  exact ⟨_, rfl, HP.out, Nat.le_refl _, HD.out, World.grownBy_alloc _ _ _⟩
end Go.Proofs.Ytblaojjpclipaaa
