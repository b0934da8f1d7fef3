/- The contract of the function of the reference that writes a number as a text. No statement of the seat is proved here. -/
import Derived.Test.YtfiapefkomolmaaText
namespace Go.Proofs.Ytfiapefkomolmaa
open Go.RowKit
attribute [local go_sem ↓] Go.wp_at_zero Go.wp_at_succ

set_option maxRecDepth 10000 in
theorem l01Dec_any : ∀ (n : Nat) (w : World), n ≤ 1000000000000000000 →
    Calls Try.prog 81 #[.int .i64 n] w fun e w' => e = .returned (.string (dec n)) ∧ Below w.heap.size w w' := by
  intro n
  induction n using Nat.strongRecOn with
  | _ n ih =>
    intro w h1
    by_cases hlt : n < 10
    · have hd := dig_size n
      have hc := dig_conv w _ rfl n _ (show ((48 : Int) + n) = 48 + (n : Int) % 10 by omega)
      have HL := Lib.hid (dec_small hlt)
      have HB := Lib.hid ((Below.refl w.heap.size w).alloc (Nat.le_refl _) (.cells #[.int .u8 (48 + (n : Int))] 5))
      have hw : IntKind.u8.wrap (48 + (n : Int)) = 48 + n := IntWalk.u8_in _ (by omega)
      go_enter Try.func81, Try.ntmps81
      go_wp2
      go_ret
      exact ⟨by rw [HL.out]; rfl, HB.out⟩
    · have HI : Hid (∀ w : World, Calls Try.prog 81 #[.int .i64 ((n : Int) / 10)] w fun e w' => e = .returned (.string (dec (n / 10))) ∧ Below w.heap.size w w') := Lib.hid (fun w => by
        rw [show ((n : Int) / 10) = ((n / 10 : Nat) : Int) by omega]
        exact ih (n / 10) (by omega) w (by omega))
      have HL := Lib.hid (dec_big (show 10 ≤ n by omega))
      clear ih
      have q1 : (n : Int).tdiv 10 = (n : Int) / 10 := Int.tdiv_eq_ediv_of_nonneg (by omega)
      have q2 : (n : Int).tmod 10 = (n : Int) % 10 := Int.tmod_eq_emod_of_nonneg (by omega)
      have q3 : IntKind.i64.wrap ((n : Int) / 10) = (n : Int) / 10 := IntWalk.i64_in _ (by omega)
      have q4 : IntKind.i64.wrap ((n : Int) % 10) = (n : Int) % 10 := IntWalk.i64_in _ (by omega)
      have q5 : IntKind.i64.wrap (48 + (n : Int) % 10) = 48 + (n : Int) % 10 := IntWalk.i64_in _ (by omega)
      have q6 : IntKind.u8.wrap (48 + (n : Int) % 10) = 48 + (n : Int) % 10 := IntWalk.u8_in _ (by omega)
      have hd := dig_size n
      have hds : (dec (n / 10)).size ≤ n / 10 + 1 := dec_size _
      have hc : ∀ W : World, (convert 63 9 (.slice (some ⟨W.heap.size, 0, none⟩) 1 1)).run Try.prog (W.alloc (.cells #[.int .u8 (48 + (n : Int) % 10)] 5)) = .ok (.string (dig n)) (W.alloc (.cells #[.int .u8 (48 + (n : Int) % 10)] 5)) := fun W => dig_conv W _ rfl n _ rfl
      have hc2 : ∀ W : World, (convert 63 9 (.slice (some ⟨W.heap.size, 0, none⟩) 1 1)).run Try.prog (W.alloc (.cells #[.int .u8 (48 + (n : Int) % 10)] 5)).drew = .ok (.string (dig n)) (W.alloc (.cells #[.int .u8 (48 + (n : Int) % 10)] 5)).drew := fun W => dig_conv_at _ _ n (box_new W _ _ 0)
      go_enter Try.func81, Try.ntmps81
      go_wp2
      go_region_with ((go_at_call 81; refine (HI.out _).mono ?_; rintro e w' ⟨rfl, hb⟩; (try have hcv := dig_after (n := n) (w := w.drew) (w' := w') (g := w.heap.size) hb rfl)))
      all_goals
        go_wp2
        go_ret
        refine ⟨by rw [HL.out]; rfl, ?_⟩
        first
          | exact (show Below w.heap.size w w' from ⟨hb.os, hb.tape, hb.output, hb.size, hb.block⟩).alloc hb.size _
          | exact (((Below.refl w.heap.size w).alloc (Nat.le_refl _) (.cells #[.int .u8 (48 + (n : Int) % 10)] 5)).drew).trans (hb.mono (by simp))
end Go.Proofs.Ytfiapefkomolmaa
