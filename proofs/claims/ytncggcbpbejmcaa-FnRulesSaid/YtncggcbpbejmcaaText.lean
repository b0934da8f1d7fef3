/- Contracts of the functions that write numbers as texts. No statement of the seat is proved here. -/
import Derived.Test.YtncggcbpbejmcaaBox
import Derived.Test.YtncggcbpbejmcaaWords
import Derived.Laws.IdiomStrings
import Derived.Deep.DrawnRows
namespace Go.Proofs.Ytncggcbpbejmcaa
open Go.RowKit

def dig (n : Nat) : ByteArray := ⟨#[UInt8.ofNat (48 + n % 10)]⟩
/-- the digits of a number ahead of a text; nothing for 0 -/
def dg (n : Nat) (acc : ByteArray) : ByteArray := if h : n = 0 then acc else dg (n / 10) (dig n ++ acc)
termination_by n
decreasing_by omega
theorem dg_zero (acc : ByteArray) : dg 0 acc = acc := by rw [dg]; simp
theorem dg_pos {n : Nat} (h : 0 < n) (acc : ByteArray) : dg n acc = dg (n / 10) (dig n ++ acc) := by rw [dg, dif_neg (by omega)]
theorem dig_size (n : Nat) : (dig n).size = 1 := rfl
theorem dig_conv_at (W : World) (g : Nat) (n : Nat) (hc : W.cell? ⟨g, 0, none⟩ = some (.int .u8 (48 + (n : Int) % 10))) :
    (convert 70 9 (.slice (some ⟨g, 0, none⟩) 1 1)).run Try.prog W = .ok (.string (dig n)) W := by
  refine run_convert_bytes_back _ _ _ 5 _ 1 [UInt8.ofNat (48 + n % 10)] Try.underlying70 Try.underlying5 Try.underlying9 (fun j hj => ?_)
  have : j = 0 := by simp at hj; omega
  subst this
  rw [add_none rfl, hc]
  simp
  omega
theorem dig_after {w w' : World} {n : Nat} {g : Nat} (hb : Below (w.alloc (.cells #[.int .u8 (48 + (n : Int) % 10)] 5)).heap.size (w.alloc (.cells #[.int .u8 (48 + (n : Int) % 10)] 5)) w') (hg : w.heap.size = g) :
    (convert 70 9 (.slice (some ⟨g, 0, none⟩) 1 1)).run Try.prog w' = .ok (.string (dig n)) w' := by
  subst hg
  exact dig_conv_at w' _ n (((box1 hb).1 0).trans rfl)
theorem dig_conv (w : World) (g : Nat) (hg : g = w.heap.size) (n : Nat) (t : Int) (ht : t = 48 + (n : Int) % 10) :
    (convert 70 9 (.slice (some ⟨g, 0, none⟩) 1 1)).run Try.prog (w.alloc (.cells #[.int .u8 t] 5)) = .ok (.string (dig n)) (w.alloc (.cells #[.int .u8 t] 5)) := by
  subst hg ht
  refine run_convert_bytes_back _ _ _ 5 _ 1 [UInt8.ofNat (48 + n % 10)] Try.underlying70 Try.underlying5 Try.underlying9 (fun j hj => ?_)
  have : j = 0 := by simp at hj; omega
  subst this
  rw [add_none rfl, World.cell?_alloc_new]
  simp
  omega
set_option maxRecDepth 10000 in
theorem markText_any (n : Nat) (w : World) (h0 : 0 < n) (h1 : n ≤ 10000000000000) :
    Calls Try.prog 82 #[.int .i64 n] w fun e w' => e = .returned (.string (⟨#[109]⟩ ++ dg n ByteArray.empty)) ∧ Below w.heap.size w w' := by
  go_enter Try.func82, Try.ntmps82
  go_wp2
  go_loopg [0, 3] n (fun gi i q wr => ∃ (k : Nat) (acc : ByteArray), k ≤ n ∧ gi = 0 + k ∧ i = .int .i64 k ∧ q = .string acc ∧ Hid (dg k acc = dg n ByteArray.empty) ∧ acc.size + k ≤ n ∧ Below w.heap.size w wr ∧ w.heap.size ≤ wr.heap.size)
  case atStart => exact ⟨n, _, Nat.le_refl _, by omega, rfl, rfl, Lib.hid rfl, by show 0 + n ≤ n; omega, Below.refl _ _, Nat.le_refl _⟩
  case round =>
    obtain ⟨k, acc, hk, hgk, rfl, rfl, HS, ha, hb, hs⟩ := hrel
    subst hgk
    by_cases hlt : 0 < k
    · have hd := dig_size k
      have hc := dig_conv wr _ rfl k _ rfl
      have HB := Lib.hid (hb.alloc hs (.cells #[.int .u8 (48 + (k : Int) % 10)] 5))
      go_wp2
      go_roundg (0 + k / 10)
      case measure => omega
      case rel => exact ⟨k / 10, _, by omega, rfl, val_int (by omega), rfl, Lib.hid (by rw [← dg_pos hlt]; exact HS.out), by rw [ByteArray.size_append, hd]; omega, HB.out, by simp; omega⟩
    · obtain rfl : k = 0 := by omega
      have hz := dg_zero acc
      have HZ := Lib.hid hz
      clear hz
      go_wp2
      go_ret
      exact ⟨by rw [← HS.out, HZ.out]; rfl, hb⟩
def dgw (n : Nat) (acc : ByteArray) : ByteArray := if n = 0 then dig 0 ++ acc else dg n acc
def dec (n : Nat) : ByteArray := dgw n ⟨#[]⟩
theorem dgw_last {n : Nat} (h : n / 10 = 0) (acc : ByteArray) : dgw n acc = dig n ++ acc := by
  unfold dgw
  split
  · rename_i h0; subst h0; rfl
  · rw [dg_pos (by omega), h, dg_zero]
theorem dgw_more {n : Nat} (h : n / 10 ≠ 0) (acc : ByteArray) : dgw n acc = dgw (n / 10) (dig n ++ acc) := by
  unfold dgw
  rw [if_neg (by omega), if_neg h, dg_pos (by omega)]
theorem dg_app (b : ByteArray) : ∀ (n : Nat) (a : ByteArray), dg n (a ++ b) = dg n a ++ b := by
  intro n
  induction n using Nat.strongRecOn with
  | _ n ih =>
    intro a
    by_cases h : n = 0
    · subst h; rw [dg_zero, dg_zero]
    · rw [dg_pos (by omega) (a ++ b), dg_pos (by omega) a, ← ByteArray.append_assoc, ih _ (by omega)]
theorem dec_small {n : Nat} (h : n < 10) : dec n = dig n := by
  unfold dec
  rw [dgw_last (by omega)]
  exact ByteArray.append_empty
theorem dec_big {n : Nat} (h : 10 ≤ n) : dec n = dec (n / 10) ++ dig n := by
  unfold dec
  rw [dgw_more (by omega)]
  unfold dgw
  rw [if_neg (by omega), if_neg (by omega)]
  have e : dig n ++ ⟨#[]⟩ = ⟨#[]⟩ ++ dig n := by
    rw [show (⟨#[]⟩ : ByteArray) = ByteArray.empty from rfl, ByteArray.append_empty, ByteArray.empty_append]
  rw [e, dg_app]
theorem dec_size : ∀ n, (dec n).size ≤ n + 1 := by
  intro n
  induction n using Nat.strongRecOn with
  | _ n ih =>
    by_cases h : n < 10
    · rw [dec_small h, dig_size]; omega
    · rw [dec_big (by omega), ByteArray.size_append, dig_size]
      have := ih (n / 10) (by omega)
      omega
end Go.Proofs.Ytncggcbpbejmcaa
