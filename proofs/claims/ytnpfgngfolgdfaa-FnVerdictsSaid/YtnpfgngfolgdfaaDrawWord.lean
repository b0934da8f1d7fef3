/- What the reference's draws of words hand out (chapter 1). No statement of the seat is proved here. -/
import Derived.Test.YtnpfgngfolgdfaaDrawL
namespace Go.Proofs.Ytnpfgngfolgdfaa
open Go.RowKit

theorem litG_at (x : Nat) (h : x < 12) : ∃ s : ByteArray, s.size ≤ 20 ∧ ∀ (W : World), (W.alloc (.cells #[.string ⟨#[97, 100, 97]⟩, .string ⟨#[98, 114, 117, 110, 111]⟩, .string ⟨#[99, 108, 97, 114, 97]⟩, .string ⟨#[100, 111, 114, 97]⟩, .string ⟨#[101, 109, 105, 108]⟩, .string ⟨#[102, 114, 105, 100, 97]⟩, .string ⟨#[103, 117, 115, 116, 97, 118]⟩, .string ⟨#[104, 97, 110, 110, 97]⟩, .string ⟨#[105, 118, 97, 110]⟩, .string ⟨#[106, 97, 110, 97]⟩, .string ⟨#[107, 97, 114, 108]⟩, .string ⟨#[108, 101, 110, 97]⟩] 9)).cell? ⟨W.heap.size, x, none⟩ = some (.string s) := by
  match x, h with
  | 0, _ => exact ⟨⟨#[97, 100, 97]⟩, by decide, fun W => (box_new _ _ _ 0).trans rfl⟩
  | 1, _ => exact ⟨⟨#[98, 114, 117, 110, 111]⟩, by decide, fun W => (box_new _ _ _ 1).trans rfl⟩
  | 2, _ => exact ⟨⟨#[99, 108, 97, 114, 97]⟩, by decide, fun W => (box_new _ _ _ 2).trans rfl⟩
  | 3, _ => exact ⟨⟨#[100, 111, 114, 97]⟩, by decide, fun W => (box_new _ _ _ 3).trans rfl⟩
  | 4, _ => exact ⟨⟨#[101, 109, 105, 108]⟩, by decide, fun W => (box_new _ _ _ 4).trans rfl⟩
  | 5, _ => exact ⟨⟨#[102, 114, 105, 100, 97]⟩, by decide, fun W => (box_new _ _ _ 5).trans rfl⟩
  | 6, _ => exact ⟨⟨#[103, 117, 115, 116, 97, 118]⟩, by decide, fun W => (box_new _ _ _ 6).trans rfl⟩
  | 7, _ => exact ⟨⟨#[104, 97, 110, 110, 97]⟩, by decide, fun W => (box_new _ _ _ 7).trans rfl⟩
  | 8, _ => exact ⟨⟨#[105, 118, 97, 110]⟩, by decide, fun W => (box_new _ _ _ 8).trans rfl⟩
  | 9, _ => exact ⟨⟨#[106, 97, 110, 97]⟩, by decide, fun W => (box_new _ _ _ 9).trans rfl⟩
  | 10, _ => exact ⟨⟨#[107, 97, 114, 108]⟩, by decide, fun W => (box_new _ _ _ 10).trans rfl⟩
  | 11, _ => exact ⟨⟨#[108, 101, 110, 97]⟩, by decide, fun W => (box_new _ _ _ 11).trans rfl⟩
set_option maxHeartbeats 2000000 in
theorem l01Good_dr (w0 : World) (p : Nat) (w : World) (hD : Dr w0 p w) :
    Calls Try.prog 83 #[.pointer (some ⟨p, 0, none⟩)] w fun e w' => ∃ s : ByteArray, e = .returned (.string s) ∧ s.size ≤ 20 ∧ Dr w0 p w' ∧ w.grownBy w' (some p) := by
  have HD := Lib.hid hD
  have hlt := hD.1.lt
  clear hD
  go_enter Try.func83, Try.ntmps83
  go_wp2_with fail
  refine (next_dr 12 (HD.out.alloc _) (by omega)).mono ?_
  rintro e w1 ⟨x, rfl, x0, x1, hd, hg⟩
  obtain ⟨x, rfl⟩ := Int.eq_ofNat_of_zero_le x0
  have hx : x < 12 := by omega
  have hxi : (x : Int) < 12 := by omega
  obtain ⟨s, hs, hl⟩ := litG_at x hx
  have hc := hg.cell (hl w) (by simp; omega)
  have HG := Lib.hid (grown_tr (World.grownBy_alloc _ _ _) hg)
  have HD2 := Lib.hid hd
  clear hl hd hg
  go_wp2
  go_ret
  exact ⟨s, rfl, hs, HD2.out, HG.out⟩
theorem litD_at (x : Nat) (h : x < 6) : ∃ s : ByteArray, s.size ≤ 20 ∧ ∀ (W : World), (W.alloc (.cells #[.string ⟨#[]⟩, .string ⟨#[65, 100, 97]⟩, .string ⟨#[97, 49]⟩, .string ⟨#[97, 98, 99, 100, 101, 102, 103, 104, 105, 106, 107, 108, 109, 110, 111, 112]⟩, .string ⟨#[97, 98, 99, 100, 101, 102, 103, 104, 105, 106, 107, 108, 109, 110, 111, 112, 113]⟩, .string ⟨#[97, 32, 98]⟩] 9)).cell? ⟨W.heap.size, x, none⟩ = some (.string s) := by
  match x, h with
  | 0, _ => exact ⟨⟨#[]⟩, by decide, fun W => (box_new _ _ _ 0).trans rfl⟩
  | 1, _ => exact ⟨⟨#[65, 100, 97]⟩, by decide, fun W => (box_new _ _ _ 1).trans rfl⟩
  | 2, _ => exact ⟨⟨#[97, 49]⟩, by decide, fun W => (box_new _ _ _ 2).trans rfl⟩
  | 3, _ => exact ⟨⟨#[97, 98, 99, 100, 101, 102, 103, 104, 105, 106, 107, 108, 109, 110, 111, 112]⟩, by decide, fun W => (box_new _ _ _ 3).trans rfl⟩
  | 4, _ => exact ⟨⟨#[97, 98, 99, 100, 101, 102, 103, 104, 105, 106, 107, 108, 109, 110, 111, 112, 113]⟩, by decide, fun W => (box_new _ _ _ 4).trans rfl⟩
  | 5, _ => exact ⟨⟨#[97, 32, 98]⟩, by decide, fun W => (box_new _ _ _ 5).trans rfl⟩
set_option maxHeartbeats 2000000 in
theorem l01DrawWord_dr (w0 : World) (p : Nat) (w : World) (hD : Dr w0 p w) :
    Calls Try.prog 81 #[.pointer (some ⟨p, 0, none⟩)] w fun e w' => ∃ s : ByteArray, e = .returned (.string s) ∧ s.size ≤ 20 ∧ Dr w0 p w' ∧ w.grownBy w' (some p) := by
  have HD := Lib.hid hD
  clear hD
  go_enter Try.func81, Try.ntmps81
  go_wp2_with fail
  refine (next_dr 24 HD.out (by omega)).mono ?_
  rintro e w1 ⟨z, rfl, z0, z1, hd, hg⟩
  have D1 := Lib.hid hd
  have G1 := Lib.hid hg
  have hlt := hd.1.lt
  clear hd hg HD
  by_cases hz : z = 0
  · subst hz
    go_wp2_with fail
    refine (next_dr 6 (D1.out.alloc _) (by omega)).mono ?_
    rintro e w2 ⟨x, rfl, x0, x1, hd, hg⟩
    obtain ⟨x, rfl⟩ := Int.eq_ofNat_of_zero_le x0
    have hx : x < 6 := by omega
    have hxi : (x : Int) < 6 := by omega
    obtain ⟨s, hs, hl⟩ := litD_at x hx
    have hc := hg.cell (hl w1) (by simp; omega)
    have HG := Lib.hid (grown_tr G1.out (grown_tr (World.grownBy_alloc _ _ _) hg))
    have HD2 := Lib.hid hd
    clear hl hd hg
    go_wp2
    go_ret
    exact ⟨s, rfl, hs, HD2.out, HG.out⟩
  · have hzb : (z == 0) = false := beq_eq_false_iff_ne.2 hz
    go_wp2_with fail
    refine (l01Good_dr w0 p w1 D1.out).mono ?_
    rintro e w2 ⟨s, rfl, hs, hd, hg⟩
    have HG := Lib.hid (grown_tr G1.out hg)
    have HD2 := Lib.hid hd
    clear hd hg
    go_wp2
    go_ret
    exact ⟨s, rfl, hs, HD2.out, HG.out⟩
end Go.Proofs.Ytnpfgngfolgdfaa
