/- The walk of the statement on the texts of items (P1). No statement of the seat is proved here. -/
import Derived.Test.YtfiapefkomolmaaDrawItem
import Derived.Test.YtfiapefkomolmaaReadI
import Derived.Test.YtfiapefkomolmaaReadS
namespace Go.Proofs.Ytfiapefkomolmaa
open Go.RowKit

theorem box4 {W : World} {v0 v1 v2 v3 : Value} {t : TypeId} (W' : World) (hb : Below (W.alloc (.cells #[v0, v1, v2, v3] t)).heap.size (W.alloc (.cells #[v0, v1, v2, v3] t)) W') : W'.cell? ⟨W.heap.size, 0, none⟩ = some v0 ∧ W'.cell? ⟨W.heap.size, 1, none⟩ = some v1 ∧ W'.cell? ⟨W.heap.size, 2, none⟩ = some v2 ∧ W'.cell? ⟨W.heap.size, 3, none⟩ = some v3 := by
  have h : ∀ j, W'.cell? ⟨W.heap.size, j, none⟩ = #[v0, v1, v2, v3][j]? := fun j => (hb.cell (p := ⟨W.heap.size, j, none⟩) (by simp)).trans (box_new _ _ _ j)
  exact ⟨(h 0).trans rfl, (h 1).trans rfl, (h 2).trans rfl, (h 3).trans rfl⟩
set_option maxHeartbeats 16000000 in
set_option maxRecDepth 20000 in
theorem walk_FnItemTexts (a0 : Option Addr) (len0 cap0 : Nat) (z0 : List Int) (w : World) (p0 : IsRow .u8 w a0 len0 cap0 z0) :
    Calls Try.prog 13 #[.slice a0 len0 cap0] w fun e w' => e = .returned (.bool true) ∧ Below w.heap.size w w' := by
  obtain ⟨hcap, hby⟩ := p0.bytes
  have hmax := p0.max
  by_cases hbig : 4096 < len0
  · have HD : Hid (decide (4096 < len0) = true) := Lib.hid (decide_eq_true hbig)
    go_enter Try.func13, Try.ntmps13
    go_wp2_with fail
    refine (big_any a0 len0 cap0 w hmax).mono ?_
    rintro e w1 ⟨rfl, rfl⟩
    rw [HD.out]
    go_wp2
    go_ret
    exact ⟨rfl, Below.refl _ _⟩
  have HD : Hid (decide (4096 < len0) = false) := Lib.hid (decide_eq_false hbig)
  have hl4 : len0 ≤ 4096 := by omega
  have HBY := Lib.hid hby
  go_enter Try.func13, Try.ntmps13
  go_wp2_with fail
  refine (big_any a0 len0 cap0 w hmax).mono ?_
  rintro e w1 ⟨rfl, rfl⟩
  rw [HD.out]
  go_wp2_with fail
  refine (DrawItemText_any a0 len0 cap0 w hl4 hcap hby).mono ?_
  rintro e w2 ⟨x, rfl, hx, hb2⟩
  have HX := Lib.hid hx
  have KX : Hid (∀ W, Below (w2.alloc (.cells #[.string x.name, .int .i64 x.pieces, .int .i64 x.cents, .bool x.work] 40)).heap.size (w2.alloc (.cells #[.string x.name, .int .i64 x.pieces, .int .i64 x.cents, .bool x.work] 40)) W → W.cell? ⟨w2.heap.size, 0, none⟩ = some (.string x.name) ∧ W.cell? ⟨w2.heap.size, 1, none⟩ = some (.int .i64 x.pieces) ∧ W.cell? ⟨w2.heap.size, 2, none⟩ = some (.int .i64 x.cents) ∧ W.cell? ⟨w2.heap.size, 3, none⟩ = some (.bool x.work)) := Lib.hid (fun W h => box4 W h)
  have B3 : Hid (Below w.heap.size w (w2.alloc (.cells #[.string x.name, .int .i64 x.pieces, .int .i64 x.cents, .bool x.work] 40))) := Lib.hid (hb2.alloc hb2.size _)
  clear hby p0 hb2 hbig hmax hx
  obtain ⟨x0, x1, x2, x3⟩ := KX.out _ (Below.refl _ _)
  go_wp2_with fail
  generalize w2.alloc (.cells #[.string x.name, .int .i64 x.pieces, .int .i64 x.cents, .bool x.work] 40) = w3 at *
  generalize w2.heap.size = X at *
  obtain ⟨tx, tc, hT⟩ : ∃ tx tc, ItemText_r x = (tx, tc) := ⟨_, _, rfl⟩
  have HRT : Hid ((isItemB x = true ∧ tx = txtI x ∧ tc = 0) ∨ (tc == 0) = false) := Lib.hid (by
    cases h : isItemB x with
    | true => rw [ItemText_ok h] at hT; injection hT with h1 h2; exact .inl ⟨rfl, h1.symm, h2.symm⟩
    | false => rw [ItemText_bad h] at hT; injection hT with h1 h2; subst h2; exact .inr rfl)
  have TI : Hid (∀ w, Calls Try.prog 28 #[.agg #[.string x.name, .int .i64 x.pieces, .int .i64 x.cents, .bool x.work]] w fun e w' => e = .returned (.tuple #[.string tx, .int .i64 tc]) ∧ Below w.heap.size w w') := Lib.hid (fun w => by have h := iItemText_law x w HX.out; rw [hT] at h; exact h)
  have TS : Hid (∀ w, Calls Try.prog 26 #[.agg #[.string x.name, .int .i64 x.pieces, .int .i64 x.cents, .bool x.work]] w fun e w' => e = .returned (.tuple #[.string tx, .int .i64 tc]) ∧ Below w.heap.size w w') := Lib.hid (fun w => by have h := sItemText_law x w HX.out; rw [hT] at h; exact h)
  clear hT
  refine (TI.out w3).mono ?_
  rintro e w4 ⟨rfl, hb⟩
  have B4 := Lib.hid (Below.step B3.out hb)
  have E4 : Hid (Below w3.heap.size w3 w4) := Lib.hid hb
  clear hb x0 x1 x2 x3
  obtain ⟨x0, x1, x2, x3⟩ := KX.out _ E4.out
  go_wp2_with fail
  refine (TS.out w4).mono ?_
  rintro e w5 ⟨rfl, hb⟩
  have B5 := Lib.hid (Below.step B4.out hb)
  have E5 := Lib.hid (Below.step E4.out hb)
  clear hb x0 x1 x2 x3
  go_wp2_with fail
  refine (DrawReadItem_any a0 len0 cap0 w5 hl4 hcap (HBY.out.below B5.out)).mono ?_
  rintro e w6 ⟨s, rfl, hs, hb⟩
  have B6 := Lib.hid (Below.step B5.out hb)
  have E6 := Lib.hid (Below.step E5.out hb)
  have hs2 : s.size ≤ 1048576 := by omega
  clear hb HBY
  go_wp2_with fail
  have HRI : Hid ((∃ y, isItemB y = true ∧ txtI y = s ∧ ReadItem_r s = (y, 0)) ∨ ReadItem_r s = (zItem, 6)) := Lib.hid (by
    by_cases h : ∃ y, isItemB y = true ∧ txtI y = s
    · obtain ⟨y, h1, h2⟩ := h
      exact .inl ⟨y, h1, h2, ReadItem_ok h1 h2⟩
    · exact .inr (ReadItem_bad h))
  obtain ⟨y, rc, hR⟩ : ∃ y rc, ReadItem_r s = (y, rc) := ⟨_, _, rfl⟩
  have hE : ReadItem_e s = .returned (.tuple #[.agg #[.string y.name, .int .i64 y.pieces, .int .i64 y.cents, .bool y.work], .int .i64 rc]) := by unfold ReadItem_e; rw [hR]
  have HE := Lib.hid hE
  rw [hR] at HRI
  clear hE hR
  refine (iReadItem_law s w6 hs2).mono ?_
  rw [HE.out]
  rintro e w7 ⟨rfl, hb⟩
  have KY : Hid (∀ W, Below (w7.alloc (.cells #[.string y.name, .int .i64 y.pieces, .int .i64 y.cents, .bool y.work] 40)).heap.size (w7.alloc (.cells #[.string y.name, .int .i64 y.pieces, .int .i64 y.cents, .bool y.work] 40)) W → W.cell? ⟨w7.heap.size, 0, none⟩ = some (.string y.name) ∧ W.cell? ⟨w7.heap.size, 1, none⟩ = some (.int .i64 y.pieces) ∧ W.cell? ⟨w7.heap.size, 2, none⟩ = some (.int .i64 y.cents) ∧ W.cell? ⟨w7.heap.size, 3, none⟩ = some (.bool y.work)) := Lib.hid (fun W h => box4 W h)
  have B7a := Below.step B6.out hb
  have B7 : Hid (Below w.heap.size w (w7.alloc (.cells #[.string y.name, .int .i64 y.pieces, .int .i64 y.cents, .bool y.work] 40))) := Lib.hid (B7a.alloc B7a.size _)
  have E7a := Below.step E6.out hb
  have E7 : Hid (Below w3.heap.size w3 (w7.alloc (.cells #[.string y.name, .int .i64 y.pieces, .int .i64 y.cents, .bool y.work] 40))) := Lib.hid (E7a.alloc E7a.size _)
  clear hb B7a E7a
  go_wp2_with fail
  generalize w7.alloc (.cells #[.string y.name, .int .i64 y.pieces, .int .i64 y.cents, .bool y.work] 40) = w8 at *
  generalize w7.heap.size = Y at *
  refine (sReadItem_law s w8 hs2).mono ?_
  rw [HE.out]
  rintro e w9 ⟨rfl, hb⟩
  have F9 : Hid (Below w8.heap.size w8 (w9.alloc (.cells #[.string y.name, .int .i64 y.pieces, .int .i64 y.cents, .bool y.work] 40))) := Lib.hid (hb.alloc hb.size _)
  have B9 : Hid (Below w.heap.size w (w9.alloc (.cells #[.string y.name, .int .i64 y.pieces, .int .i64 y.cents, .bool y.work] 40))) := Lib.hid (Below.step B7.out F9.out)
  have E9 : Hid (Below w3.heap.size w3 (w9.alloc (.cells #[.string y.name, .int .i64 y.pieces, .int .i64 y.cents, .bool y.work] 40))) := Lib.hid (Below.step E7.out F9.out)
  have KZ := box4 (t := 40) _ (Below.refl (w9.alloc (.cells #[.string y.name, .int .i64 y.pieces, .int .i64 y.cents, .bool y.work] 40)).heap.size (w9.alloc (.cells #[.string y.name, .int .i64 y.pieces, .int .i64 y.cents, .bool y.work] 40)))
  clear hb
  obtain ⟨r0, r1, r2, r3⟩ := KZ
  obtain ⟨y0, y1, y2, y3⟩ := KY.out _ F9.out
  have HY9 := Lib.hid (And.intro y0 (And.intro y1 (And.intro y2 y3)))
  rcases HRI.out with ⟨y', hy1, hy2, hyr⟩ | hyr
  · obtain ⟨rfl, rfl⟩ := Prod.mk.inj hyr
    have hyo : okItem y := by have := (isItem_bd hy1).1.2; show y.name.size ≤ _; omega
    go_wp2_with fail
    refine (iItemText_law y _ hyo).mono ?_
    rw [ItemText_ok hy1]
    rintro e w10 ⟨rfl, hb⟩
    have B10 := Lib.hid (Below.step B9.out hb)
    have E10 := Lib.hid (Below.step E9.out hb)
    clear hb hyr
    simp only [hy2]
    rcases HRT.out with ⟨hx1, rfl, rfl⟩ | hne
    · go_wp2_with fail
      refine (iReadItem_law _ _ (Nat.le_trans (txtI_size hx1) (by omega))).mono ?_
      rw [show ReadItem_e (txtI x) = .returned (.tuple #[.agg #[.string x.name, .int .i64 x.pieces, .int .i64 x.cents, .bool x.work], .int .i64 0]) by unfold ReadItem_e; rw [ReadItem_ok hx1 rfl]]
      rintro e wz ⟨rfl, hb⟩
      have BZ := Below.step B10.out hb
      have HZ : Hid (Below w.heap.size w (wz.alloc (.cells #[.string x.name, .int .i64 x.pieces, .int .i64 x.cents, .bool x.work] 40))) := Lib.hid (BZ.alloc BZ.size _)
      have EZ := Below.step E10.out hb
      have EZ2 : Below w3.heap.size w3 (wz.alloc (.cells #[.string x.name, .int .i64 x.pieces, .int .i64 x.cents, .bool x.work] 40)) := EZ.alloc EZ.size _
      obtain ⟨u0, u1, u2, u3⟩ := KX.out _ EZ2
      obtain ⟨v0, v1, v2, v3⟩ := box4 (t := 40) _ (Below.refl (wz.alloc (.cells #[.string x.name, .int .i64 x.pieces, .int .i64 x.cents, .bool x.work] 40)).heap.size (wz.alloc (.cells #[.string x.name, .int .i64 x.pieces, .int .i64 x.cents, .bool x.work] 40)))
      clear hb BZ EZ EZ2
      go_wp2
      go_ret
      exact ⟨by simp, HZ.out⟩
    · go_wp2
      go_ret
      exact ⟨rfl, B10.out⟩
  · obtain ⟨rfl, rfl⟩ := Prod.mk.inj hyr
    rcases HRT.out with ⟨hx1, rfl, rfl⟩ | hne
    · go_wp2_with fail
      refine (iReadItem_law _ _ (Nat.le_trans (txtI_size hx1) (by omega))).mono ?_
      rw [show ReadItem_e (txtI x) = .returned (.tuple #[.agg #[.string x.name, .int .i64 x.pieces, .int .i64 x.cents, .bool x.work], .int .i64 0]) by unfold ReadItem_e; rw [ReadItem_ok hx1 rfl]]
      rintro e wz ⟨rfl, hb⟩
      have BZ := Below.step B9.out hb
      have HZ : Hid (Below w.heap.size w (wz.alloc (.cells #[.string x.name, .int .i64 x.pieces, .int .i64 x.cents, .bool x.work] 40))) := Lib.hid (BZ.alloc BZ.size _)
      have EZ := Below.step E9.out hb
      have EZ2 : Below w3.heap.size w3 (wz.alloc (.cells #[.string x.name, .int .i64 x.pieces, .int .i64 x.cents, .bool x.work] 40)) := EZ.alloc EZ.size _
      obtain ⟨u0, u1, u2, u3⟩ := KX.out _ EZ2
      obtain ⟨v0, v1, v2, v3⟩ := box4 (t := 40) _ (Below.refl (wz.alloc (.cells #[.string x.name, .int .i64 x.pieces, .int .i64 x.cents, .bool x.work] 40)).heap.size (wz.alloc (.cells #[.string x.name, .int .i64 x.pieces, .int .i64 x.cents, .bool x.work] 40)))
      clear hb BZ EZ EZ2
      go_wp2
      go_ret
      exact ⟨by simp, HZ.out⟩
    · go_wp2
      go_ret
      exact ⟨rfl, B9.out⟩
end Go.Proofs.Ytfiapefkomolmaa
