/- What the reference's damaged text is: short. No statement of the seat is proved here. -/
import Derived.Test.YtfiapefkomolmaaItemText
import Derived.Test.YtfiapefkomolmaaFloat
import Derived.Deep.RegionLaw
namespace Go.Proofs.Ytfiapefkomolmaa
open Go.RowKit

theorem litX_at (x : Nat) (h : x < 8) : ∃ s : ByteArray, s.size = 1 ∧ ∀ h : x < ([.string ⟨#[48]⟩, .string ⟨#[35]⟩, .string ⟨#[46]⟩, .string ⟨#[47]⟩, .string ⟨#[32]⟩, .string ⟨#[97]⟩, .string ⟨#[45]⟩, .string ⟨#[10]⟩] : List Value).length, ([.string ⟨#[48]⟩, .string ⟨#[35]⟩, .string ⟨#[46]⟩, .string ⟨#[47]⟩, .string ⟨#[32]⟩, .string ⟨#[97]⟩, .string ⟨#[45]⟩, .string ⟨#[10]⟩] : List Value)[x]'h = .string s := by
  match x, h with
  | 0, _ => exact ⟨⟨#[48]⟩, rfl, fun _ => rfl⟩
  | 1, _ => exact ⟨⟨#[35]⟩, rfl, fun _ => rfl⟩
  | 2, _ => exact ⟨⟨#[46]⟩, rfl, fun _ => rfl⟩
  | 3, _ => exact ⟨⟨#[47]⟩, rfl, fun _ => rfl⟩
  | 4, _ => exact ⟨⟨#[32]⟩, rfl, fun _ => rfl⟩
  | 5, _ => exact ⟨⟨#[97]⟩, rfl, fun _ => rfl⟩
  | 6, _ => exact ⟨⟨#[45]⟩, rfl, fun _ => rfl⟩
  | 7, _ => exact ⟨⟨#[10]⟩, rfl, fun _ => rfl⟩
set_option maxHeartbeats 4000000 in
set_option maxRecDepth 20000 in
theorem l01Damage_dr (w0 : World) (p : Nat) (w : World) (t : ByteArray) (hD : Dr w0 p w) (ht : t.size ≤ 1000000) :
    Calls Try.prog 77 #[.pointer (some ⟨p, 0, none⟩), .string t] w fun e w' => ∃ s : ByteArray, e = .returned (.string s) ∧ s.size ≤ 1000010 ∧ Dr w0 p w' ∧ w.grownBy w' (some p) := by
  have HD := Lib.hid hD
  have hw1 : IntKind.i64.wrap ((t.size : Int) + 1) = (t.size : Int) + 1 := IntWalk.i64_in _ (by omega)
  have hw0 : IntKind.i64.wrap (t.size : Int) = (t.size : Int) := IntWalk.i64_in _ (by omega)
  clear hD
  go_enter Try.func77, Try.ntmps77
  go_wp2_with fail
  refine (next_dr ((t.size : Int) + 1) HD.out (by omega)).mono ?_
  rintro e w1 ⟨k, rfl, k0, k1, hd, hg⟩
  obtain ⟨k, rfl⟩ := Int.eq_ofNat_of_zero_le k0
  have hkl : k ≤ t.size := by omega
  have D1 := Lib.hid hd
  have G1 := Lib.hid hg
  clear hd hg HD
  go_wp2_with fail
  refine (next_dr 8 D1.out (by omega)).mono ?_
  rintro e w2 ⟨c, rfl, c0, c1, hd, hg⟩
  have D2 := Lib.hid hd
  have G2 := Lib.hid (grown_tr G1.out hg)
  clear hd hg D1 G1
  have hkI : (k : Int) ≤ (t.size : Int) := by omega
  have hk0 : (0 : Int) ≤ (k : Int) := by omega
  have he1 : (t.extract 0 k).size ≤ 1000000 := by rw [ByteArray.size_extract]; omega
  have he2 : (t.extract k t.size).size ≤ 1000000 := by rw [ByteArray.size_extract]; omega
  by_cases h0 : c = 0
  · subst h0
    go_wp2
    go_ret
    exact ⟨_, rfl, by omega, D2.out, G2.out⟩
  have h0b : (c == 0) = false := beq_eq_false_iff_ne.2 h0
  by_cases h1 : c = 1
  · subst h1
    clear h0 h0b
    have hlt := D2.out.1.lt
    have hD2d : Dr w2 p w2.drew := (Dr.refl D2.out.1).drew
    have hD2e : ∀ o, Dr w2 p (w2.alloc o).drew := fun o => ((Dr.refl D2.out.1).alloc o).drew
    obtain ⟨B, hB⟩ : ∃ B, w2.heap.size = B := ⟨_, rfl⟩
    have hs1 : w2.drew.heap.size = B := hB
    have nB : B ≠ p := by omega
    have hca := cell_alloc_any
    have g1 : ¬ (9223372036854775807 < k + 1) := by omega
    have g2 : ¬ (9223372036854775807 < k + 1 + (t.size - k)) := by omega
    go_wp2
    go_region_law (first
      | (go_simp; go_at_call 75; refine (next_fl 8 (w0 := w2) ?_ (by omega)).mono ?_; (first | assumption | exact hD2e _ | exact Dr.alloc (by assumption) _); rintro e wn ⟨x8, rfl, x80, x81, hd, ⟨hz, hce, hfe⟩⟩; obtain ⟨x8, rfl⟩ := Int.eq_ofNat_of_zero_le x80; have h8 : x8 < 8 := (by omega); have h8i : (x8 : Int) < 8 := (by omega); obtain ⟨s8, hs8, hlit⟩ := litX_at x8 h8))
    all_goals
      have hsz : (t.extract 0 k ++ s8 ++ t.extract k t.size).size ≤ 1000010 := by
        rw [ByteArray.size_append, ByteArray.size_append, ByteArray.size_extract, ByteArray.size_extract, hs8]; omega
      clear hca hz hce hfe
      go_wp2
      go_ret
      first
        | exact ⟨_, rfl, hsz, D2.out.trans hd, grown_tr G2.out hd.2.1⟩
        | exact ⟨_, rfl, hsz, D2.out.trans (hd.alloc _), grown_tr G2.out (hd.alloc _).2.1⟩
  have h1b : (c == 1) = false := beq_eq_false_iff_ne.2 h1
  by_cases h2 : c = 2
  · subst h2
    by_cases hk : k < t.size
    · have hkI2 : (k : Int) < (t.size : Int) := by omega
      have hw2 : IntKind.i64.wrap ((k : Int) + 1) = (k : Int) + 1 := IntWalk.i64_in _ (by omega)
      have hk1 : (k : Int) + 1 ≤ (t.size : Int) := by omega
      have hk2 : (0 : Int) ≤ (k : Int) + 1 := by omega
      have he3 : (t.extract (k + 1) t.size).size ≤ 1000000 := by rw [ByteArray.size_extract]; omega
      go_wp2
      go_quiet (fail)
      go_wp2
      go_ret
      exact ⟨_, rfl, by rw [ByteArray.size_append, ByteArray.size_extract, ByteArray.size_extract]; omega, D2.out.drewN _, grown_drewN G2.out _⟩
    · have hkI2 : ¬ ((k : Int) < (t.size : Int)) := by omega
      go_wp2
      go_ret
      exact ⟨_, rfl, by omega, D2.out, G2.out⟩
  have h2b : (c == 2) = false := beq_eq_false_iff_ne.2 h2
  go_wp2
  go_ret
  exact ⟨_, rfl, by omega, D2.out, G2.out⟩
end Go.Proofs.Ytfiapefkomolmaa
