/- What the reference's draw of one item hands out. No statement of the seat is proved here. -/
import Derived.Test.YtfiapefkomolmaaItemText
import Derived.Test.YtfiapefkomolmaaFloat
import Derived.Deep.RegionLaw
namespace Go.Proofs.Ytfiapefkomolmaa
open Go.RowKit

theorem litI_at (x : Nat) (h : x < 4) : ∃ s, isWord s = true ∧ ∀ h : x < ([.string ⟨#[116, 117, 98, 101]⟩, .string ⟨#[99, 104, 97, 105, 110]⟩, .string ⟨#[108, 97, 98, 111, 117, 114]⟩, .string ⟨#[120, 121, 108, 111]⟩] : List Value).length, ([.string ⟨#[116, 117, 98, 101]⟩, .string ⟨#[99, 104, 97, 105, 110]⟩, .string ⟨#[108, 97, 98, 111, 117, 114]⟩, .string ⟨#[120, 121, 108, 111]⟩] : List Value)[x]'h = .string s := by
  match x, h with
  | 0, _ => exact ⟨⟨#[116, 117, 98, 101]⟩, by decide +kernel, fun _ => rfl⟩
  | 1, _ => exact ⟨⟨#[99, 104, 97, 105, 110]⟩, by decide +kernel, fun _ => rfl⟩
  | 2, _ => exact ⟨⟨#[108, 97, 98, 111, 117, 114]⟩, by decide +kernel, fun _ => rfl⟩
  | 3, _ => exact ⟨⟨#[120, 121, 108, 111]⟩, by decide +kernel, fun _ => rfl⟩
theorem item_box {w wA W : World} {p B : Nat} {v0 v1 v2 v3 o0 o1 o2 o3 : Value} (hw : Dr w p wA) (hdr : Dr wA p W) (hB : B < wA.heap.size) (hn : B ≠ p) (hwB : w.heap.size ≤ B) (z0 : wA.cell? ⟨B, 0, none⟩ = some o0) (z1 : wA.cell? ⟨B, 1, none⟩ = some o1) (z2 : wA.cell? ⟨B, 2, none⟩ = some o2) (z3 : wA.cell? ⟨B, 3, none⟩ = some o3) :
    ((((W.setCell ⟨B, 0, none⟩ v0).setCell ⟨B, 1, none⟩ v1).setCell ⟨B, 2, none⟩ v2).setCell ⟨B, 3, none⟩ v3).cell? ⟨B, 0, none⟩ = some v0 ∧ ((((W.setCell ⟨B, 0, none⟩ v0).setCell ⟨B, 1, none⟩ v1).setCell ⟨B, 2, none⟩ v2).setCell ⟨B, 3, none⟩ v3).cell? ⟨B, 1, none⟩ = some v1 ∧ ((((W.setCell ⟨B, 0, none⟩ v0).setCell ⟨B, 1, none⟩ v1).setCell ⟨B, 2, none⟩ v2).setCell ⟨B, 3, none⟩ v3).cell? ⟨B, 2, none⟩ = some v2 ∧ ((((W.setCell ⟨B, 0, none⟩ v0).setCell ⟨B, 1, none⟩ v1).setCell ⟨B, 2, none⟩ v2).setCell ⟨B, 3, none⟩ v3).cell? ⟨B, 3, none⟩ = some v3 ∧
    Dr w p ((((W.setCell ⟨B, 0, none⟩ v0).setCell ⟨B, 1, none⟩ v1).setCell ⟨B, 2, none⟩ v2).setCell ⟨B, 3, none⟩ v3) := by
  have hne : some B ≠ some p := fun e => hn (Option.some.inj e)
  have e0 := (hdr.2.1.cell_far ⟨B, 0, none⟩ hB hne).trans z0
  have e1 := (hdr.2.1.cell_far ⟨B, 1, none⟩ hB hne).trans z1
  have e2 := (hdr.2.1.cell_far ⟨B, 2, none⟩ hB hne).trans z2
  have e3 := (hdr.2.1.cell_far ⟨B, 3, none⟩ hB hne).trans z3
  have a0 := World.cell?_setCell_same W _ v0 e0
  have a1 := (World.cell?_setCell_other W ⟨B, 0, none⟩ ⟨B, 1, none⟩ v0 (by simp)).trans e1
  have a2 := (World.cell?_setCell_other W ⟨B, 0, none⟩ ⟨B, 2, none⟩ v0 (by simp)).trans e2
  have a3 := (World.cell?_setCell_other W ⟨B, 0, none⟩ ⟨B, 3, none⟩ v0 (by simp)).trans e3
  have d1 : Dr w p (W.setCell ⟨B, 0, none⟩ v0) := (hw.trans hdr).store hwB v0
  generalize W.setCell ⟨B, 0, none⟩ v0 = W1 at *
  have b1 := World.cell?_setCell_same W1 _ v1 a1
  have b0 := (World.cell?_setCell_other W1 ⟨B, 1, none⟩ ⟨B, 0, none⟩ v1 (by simp)).trans a0
  have b2 := (World.cell?_setCell_other W1 ⟨B, 1, none⟩ ⟨B, 2, none⟩ v1 (by simp)).trans a2
  have b3 := (World.cell?_setCell_other W1 ⟨B, 1, none⟩ ⟨B, 3, none⟩ v1 (by simp)).trans a3
  have d2 : Dr w p (W1.setCell ⟨B, 1, none⟩ v1) := d1.store hwB v1
  generalize W1.setCell ⟨B, 1, none⟩ v1 = W2 at *
  have c2 := World.cell?_setCell_same W2 _ v2 b2
  have c0 := (World.cell?_setCell_other W2 ⟨B, 2, none⟩ ⟨B, 0, none⟩ v2 (by simp)).trans b0
  have c1 := (World.cell?_setCell_other W2 ⟨B, 2, none⟩ ⟨B, 1, none⟩ v2 (by simp)).trans b1
  have c3 := (World.cell?_setCell_other W2 ⟨B, 2, none⟩ ⟨B, 3, none⟩ v2 (by simp)).trans b3
  have d3 : Dr w p (W2.setCell ⟨B, 2, none⟩ v2) := d2.store hwB v2
  generalize W2.setCell ⟨B, 2, none⟩ v2 = W3 at *
  exact ⟨(World.cell?_setCell_other W3 ⟨B, 3, none⟩ ⟨B, 0, none⟩ v3 (by simp)).trans c0, (World.cell?_setCell_other W3 ⟨B, 3, none⟩ ⟨B, 1, none⟩ v3 (by simp)).trans c1, (World.cell?_setCell_other W3 ⟨B, 3, none⟩ ⟨B, 2, none⟩ v3 (by simp)).trans c2, World.cell?_setCell_same W3 _ v3 c3, d3.store hwB v3⟩
theorem item_boxA {w W : World} {p B : Nat} {v0 v1 v2 v3 : Value} (o : Obj) (h : W.cell? ⟨B, 0, none⟩ = some v0 ∧ W.cell? ⟨B, 1, none⟩ = some v1 ∧ W.cell? ⟨B, 2, none⟩ = some v2 ∧ W.cell? ⟨B, 3, none⟩ = some v3 ∧ Dr w p W) :
    (W.alloc o).cell? ⟨B, 0, none⟩ = some v0 ∧ (W.alloc o).cell? ⟨B, 1, none⟩ = some v1 ∧ (W.alloc o).cell? ⟨B, 2, none⟩ = some v2 ∧ (W.alloc o).cell? ⟨B, 3, none⟩ = some v3 ∧ Dr w p (W.alloc o) := by
  obtain ⟨h0, h1, h2, h3, h4⟩ := h
  have hb : B < W.heap.size := World.block_lt_of_cell? _ _ h0
  exact ⟨(box_old _ _ _ hb).trans h0, (box_old _ _ _ hb).trans h1, (box_old _ _ _ hb).trans h2, (box_old _ _ _ hb).trans h3, h4.alloc _⟩
set_option maxHeartbeats 16000000 in
set_option maxRecDepth 20000 in
theorem l27Good_dr (w0 : World) (p : Nat) (w : World) (hD : Dr w0 p w) :
    Calls Try.prog 74 #[.pointer (some ⟨p, 0, none⟩)] w fun e w' => ∃ x : Item, e = .returned (.agg #[.string x.name, .int .i64 x.pieces, .int .i64 x.cents, .bool x.work]) ∧ isItemB x = true ∧ Dr w0 p w' ∧ w.grownBy w' (some p) := by
  have hpw : p < w.heap.size := hD.1.lt
  have HD0 := Lib.hid hD
  have DW : Dr w p (w.alloc (.cells #[.string ⟨#[]⟩, .int .i64 0, .int .i64 0, .bool false] 40)) := (Dr.refl hD.1).alloc _
  have DA : Dr (w.alloc (.cells #[.string ⟨#[]⟩, .int .i64 0, .int .i64 0, .bool false] 40)) p (w.alloc (.cells #[.string ⟨#[]⟩, .int .i64 0, .int .i64 0, .bool false] 40)) := Dr.refl (hD.1.alloc _)
  have hbox : ∀ j, (w.alloc (.cells #[.string ⟨#[]⟩, .int .i64 0, .int .i64 0, .bool false] 40)).cell? ⟨w.heap.size, j, none⟩ = #[Value.string ⟨#[]⟩, .int .i64 0, .int .i64 0, .bool false][j]? := fun j => box_new _ _ _ j
  have z0 := (hbox 0).trans (show _ = some (Value.string ⟨#[]⟩) from rfl)
  have z1 := (hbox 1).trans (show _ = some (Value.int .i64 0) from rfl)
  have z2 := (hbox 2).trans (show _ = some (Value.int .i64 0) from rfl)
  have z3 := (hbox 3).trans (show _ = some (Value.bool false) from rfl)
  have hfr : ∀ j, (w.alloc (.cells #[.string ⟨#[]⟩, .int .i64 0, .int .i64 0, .bool false] 40)).frozen? ⟨w.heap.size, j, none⟩ = false := fun j => frozen_box _ _ _ _ (frozen_out _ _ (Nat.le_refl _))
  have f0 := hfr 0
  have f1 := hfr 1
  have f2 := hfr 2
  have f3 := hfr 3
  have hszA : (w.alloc (.cells #[.string ⟨#[]⟩, .int .i64 0, .int .i64 0, .bool false] 40)).heap.size = w.heap.size + 1 := by simp
  clear hbox hfr hD
  go_enter Try.func74, Try.ntmps74
  go_wp2
  generalize w.alloc (.cells #[.string ⟨#[]⟩, .int .i64 0, .int .i64 0, .bool false] 40) = wA at *
  have DAd : Dr wA p wA.drew := DA.drew
  have DAe : ∀ o, Dr wA p (wA.alloc o).drew := fun o => (DA.alloc o).drew
  obtain ⟨B, hB⟩ : ∃ B, w.heap.size = B := ⟨_, rfl⟩
  have hBw : w.heap.size ≤ B := by omega
  rw [hB] at z0 z1 z2 z3 f0 f1 f2 f3 hszA hpw ⊢
  clear hB
  have hs1 : wA.drew.heap.size = B + 1 := hszA
  have hs2 : ∀ o, (wA.alloc o).drew.heap.size = B + 1 + 1 := fun o => (World.size_alloc wA o).trans (by rw [hszA])
  have nB : B ≠ p := by omega
  have HDW := Lib.hid DW
  have hBA : B < wA.heap.size := by omega
  clear DW
  have n1 : B + 1 ≠ p := by omega
  have n2 : B + 2 ≠ p := by omega
  have m1 : B ≠ B + 1 := by omega
  have m2 : B ≠ B + 2 := by omega
  have m3 : B + 1 ≠ B + 2 := by omega
  have q1 : (B + 1 + 1 = B + 1) = False := eq_false (by omega)
  have q2 : (B + 1 = B + 1 + 1) = False := eq_false (by omega)
  have q3 : (B = B + 1) = False := eq_false (by omega)
  have q4 : (B = B + 1 + 1) = False := eq_false (by omega)
  have hca := cell_alloc_any
  have hfa := frozen_alloc_any
  have TOK1 : True := trivial
  have TOK2 : True := trivial
  have TOK3 : True := trivial
  go_cut [] (fun wx => ∃ (s4 : ByteArray) (x6 xp x3 : Int), isItemB ⟨s4, 1 + x6, xp, x3 == 0⟩ = true ∧ wx.cell? ⟨B, 0, none⟩ = some (.string s4) ∧ wx.cell? ⟨B, 1, none⟩ = some (.int .i64 (1 + x6)) ∧ wx.cell? ⟨B, 2, none⟩ = some (.int .i64 xp) ∧ wx.cell? ⟨B, 3, none⟩ = some (.bool (x3 == 0)) ∧ Dr w p wx)
  case first =>
    go_region_law (first
      |      (go_simp; go_at_call 75; clear TOK1; refine (next_fl 4 (w0 := wA) ?_ (by omega)).mono ?_; (first | assumption | exact DAe _ | exact Dr.alloc (by assumption) _); rintro e wn ⟨x4, rfl, x40, x41, hd, ⟨hz, hce, hfe⟩⟩; obtain ⟨x4, rfl⟩ := Int.eq_ofNat_of_zero_le x40; have h4 : x4 < 4 := (by omega); have h4i : (x4 : Int) < 4 := (by omega); obtain ⟨s4, hs4, hlit⟩ := litI_at x4 h4)
      |      (go_simp; go_at_call 75; clear TOK2; refine (next_fl 6 (w0 := wA) ?_ (by omega)).mono ?_; (first | assumption | exact DAe _ | exact Dr.alloc (by assumption) _); rintro e wn ⟨x6, rfl, x60, x61, hd, ⟨hz, hce, hfe⟩⟩; have hw6 : IntKind.i64.wrap (1 + x6) = 1 + x6 := IntWalk.i64_in _ (by omega))
      |      (go_simp; go_at_call 75; clear TOK3; refine (next_fl 8000 (w0 := wA) ?_ (by omega)).mono ?_; (first | assumption | exact DAe _ | exact Dr.alloc (by assumption) _); rintro e wn ⟨x8, rfl, x80, x81, hd, ⟨hz, hce, hfe⟩⟩)
      |      (go_simp; go_at_call 75; refine (next_fl 3 (w0 := wA) ?_ (by omega)).mono ?_; (first | assumption | exact DAe _ | exact Dr.alloc (by assumption) _); rintro e wn ⟨x3, rfl, x30, x31, hd, ⟨hz, hce, hfe⟩⟩)
      |      (go_simp; go_at_call 76; refine (pick_fl (w0 := wA) [650, 2490, x8] 3 rfl ?_ ?_ ?_ ?_ ?_ ?_).mono ?_; simp; simp; (first | assumption | exact Dr.alloc (by assumption) _ | exact Dr.alloc (Dr.alloc (by assumption) _) _); (first | omega | (simp only [*] <;> omega)); (first | omega | (simp only [World.size_alloc, *] <;> omega)); (intro k x hk; simp only [cell_alloc_any, World.size_alloc, reduceIte, *]; exact lit3 hk); rintro e wn ⟨xp, rfl, hxp, hd, ⟨hz, hce, hfe⟩⟩))
    all_goals
      have hok : isItemB ⟨s4, 1 + x6, xp, x3 == 0⟩ = true := by
        unfold isItemB
        simp only [hs4, Bool.true_and, Bool.and_eq_true, inR_iff]
        simp at hxp
        omega
      clear hca hfa hz hce hfe
      go_wp2_with fail
      go_meet
      first
        | with_reducible exact ⟨s4, x6, xp, x3, hok, item_box (W := wn) HDW.out hd hBA nB hBw z0 z1 z2 z3⟩
        | with_reducible exact ⟨s4, x6, xp, x3, hok, item_boxA _ (item_box (W := wn) HDW.out hd hBA nB hBw z0 z1 z2 z3)⟩
  case rest =>
    obtain ⟨s4, x6, xp, x3, hok, y0, y1, y2, y3, yD⟩ := hcut
    have HYD := Lib.hid yD
    clear yD hca hfa
    go_wp2
    refine bodyPost_ret (v := .agg #[.string (⟨s4, 1 + x6, xp, x3 == 0⟩ : Item).name, .int .i64 (⟨s4, 1 + x6, xp, x3 == 0⟩ : Item).pieces, .int .i64 (⟨s4, 1 + x6, xp, x3 == 0⟩ : Item).cents, .bool (⟨s4, 1 + x6, xp, x3 == 0⟩ : Item).work]) (by simp [results, Try.results74, go_sem, y0, y1, y2, y3]) rfl ⟨⟨s4, 1 + x6, xp, x3 == 0⟩, rfl, hok, HD0.out.trans HYD.out, HYD.out.2.1⟩
end Go.Proofs.Ytfiapefkomolmaa
