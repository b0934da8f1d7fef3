/- What the reference's draws of a rebuild hand out (chapter 25). No statement of the seat is proved here. -/
import Derived.Test.YtncggcbpbejmcaaDrawM
import Derived.Test.YtncggcbpbejmcaaInv
namespace Go.Proofs.Ytncggcbpbejmcaa
open Go.RowKit

theorem belowStay {w u u' : World} {p n : Nat} (h : Below n w u) (hp : n ≤ p) (hd : u.grownBy u' (some p)) (hn : n ≤ u.heap.size) : Below n w u' := h.grown hd hn (fun k hk => by cases hk; exact hp)
/-- a slice of n numbers in a block that stands -/
def PK (p : Nat) (u : World) (x : Value) (n : Nat) : Prop := ∃ (N : Nat) (xs : List Int), x = .slice (some ⟨N, 0, none⟩) n n ∧ N ≠ p ∧ N < u.heap.size ∧ xs.length = n ∧ (∀ y ∈ xs, -10 ≤ y ∧ y ≤ 10000) ∧ ∀ (k : Nat) (y : Int), xs[k]? = some y → u.cell? ⟨N, k, none⟩ = some (.int .i64 y)
theorem PK.stay {p n : Nat} {u u' : World} {x : Value} : PK p u x n → Stay p u u' → PK p u' x n := fun ⟨N, xs, h1, h2, h3, h4, h5, h6⟩ h => ⟨N, xs, h1, h2, Nat.lt_of_lt_of_le h3 h.sz, h4, h5, fun k y hy => (h.ce _ _ h2 h3).trans (h6 k y hy)⟩
theorem PK.new {w0 u : World} {p : Nat} (xs : List Int) (cells : Array Value) (t : TypeId) (hc : cells.toList = xs.map (Value.int .i64)) (hD : Dr w0 p u) (hx : ∀ y ∈ xs, -10 ≤ y ∧ y ≤ 10000) : PK p (u.alloc (.cells cells t)) (.slice (some ⟨u.heap.size, 0, none⟩) xs.length xs.length) xs.length := by
  refine ⟨_, xs, rfl, by have := hD.1.lt; omega, by simp, rfl, hx, fun k y hy => ?_⟩
  rw [box_new, ← Array.getElem?_toList, hc, List.getElem?_map, hy]
  rfl
theorem Stay.trans {p : Nat} {u v w : World} (h : Stay p u v) (h2 : Stay p v w) : Stay p u w :=
  ⟨Nat.le_trans h.sz h2.sz, fun b o hb hl => (h2.ce b o hb (Nat.lt_of_lt_of_le hl h.sz)).trans (h.ce b o hb hl), fun b o hb hl => (h2.fr b o hb (Nat.lt_of_lt_of_le hl h.sz)).trans (h.fr b o hb hl)⟩
theorem Stay.only {p : Nat} {u v : World} (h : Only u v p) : Stay p u v := ⟨Nat.le_of_eq h.sz.symm, fun b o hb _ => h.ce b o hb, fun b o hb _ => h.fr b o hb⟩
/-- the result lies in block B, all that was is as it was -/
structure RF (w : World) (B : Nat) (v0 v1 v2 v3 v4 : Value) (u : World) : Prop where
  c0 : u.cell? ⟨B, 0, none⟩ = some v0
  c1 : u.cell? ⟨B, 1, none⟩ = some v1
  c2 : u.cell? ⟨B, 2, none⟩ = some v2
  c3 : u.cell? ⟨B, 3, none⟩ = some v3
  c4 : u.cell? ⟨B, 4, none⟩ = some v4
  be : Below B w u
set_option maxHeartbeats 16000000 in
set_option maxRecDepth 20000 in
theorem DrawRebuild_any (A : Option Addr) (n cap : Nat) (w : World) (hn : n ≤ 4096) (hc : n ≤ cap) (hb : Bytes w A n w.heap.size) :
    Calls Try.prog 61 #[.slice A n cap] w fun e w' => ∃ (x : Used) (a d : Int), e = .returned (.tuple #[.agg #[.string x.name, .int .i64 x.hours, .int .i64 x.play, .int .i64 x.rust, .int .i64 x.dents], .int .i64 a, .int .i64 d]) ∧ okUsed x ∧ (-10 ≤ a ∧ a ≤ 10000) ∧ (-10 ≤ d ∧ d ≤ 10000) ∧ Below w.heap.size w w' := by
  have hb0 : Below w.heap.size w (w.alloc (.cells #[.string ⟨#[]⟩, .int .i64 0, .int .i64 0, .int .i64 0, .int .i64 0] 33)) := (Below.refl _ _).alloc (Nat.le_refl _) _
  have hbA := Lib.hid (Bytes.below hb hb0)
  have HB0 := Lib.hid hb0
  have hzw : (w.alloc (.cells #[.string ⟨#[]⟩, .int .i64 0, .int .i64 0, .int .i64 0, .int .i64 0] 33)).heap.size = w.heap.size + 1 := by simp
  have hbx : ∀ j, (w.alloc (.cells #[.string ⟨#[]⟩, .int .i64 0, .int .i64 0, .int .i64 0, .int .i64 0] 33)).cell? ⟨w.heap.size, j, none⟩ = #[Value.string ⟨#[]⟩, Value.int .i64 0, Value.int .i64 0, Value.int .i64 0, Value.int .i64 0][j]? := fun j => box_new _ _ _ j
  have hfr : ∀ j, (w.alloc (.cells #[.string ⟨#[]⟩, .int .i64 0, .int .i64 0, .int .i64 0, .int .i64 0] 33)).frozen? ⟨w.heap.size, j, none⟩ = false := fun j => frozen_box _ _ _ _ (frozen_out _ _ (Nat.le_refl _))
  have HBX := Lib.hid hbx
  have HFR := Lib.hid hfr
  clear hb0 hbx hfr
  clear hb
  go_enter Try.func61, Try.ntmps61
  go_wp2_with fail
  generalize w.alloc (.cells #[.string ⟨#[]⟩, .int .i64 0, .int .i64 0, .int .i64 0, .int .i64 0] 33) = wA at *
  refine (l01From_any A n cap wA hn hc hbA.out).mono ?_
  rintro e w1 ⟨p, rfl, hp, hs1, hb1⟩
  have D1 := Lib.hid (Dr.refl hs1)
  have B1 := Lib.hid hb1
  have hz1 := hb1.size
  have hp1 : p < w1.heap.size := hs1.lt
  clear hs1 hb1
  go_wp2_with fail
  refine (l25Used_dr w1 p w1 D1.out).mono ?_
  rintro e w2 ⟨⟨nm, hr, pl, rs, dn⟩, rfl, hx, hd, hg⟩
  have HXO := Lib.hid hx
  have hz2 := hd.size
  have hpr : w.heap.size ≠ p := by omega
  have hpY : w2.heap.size ≠ p := by omega
  have hne : some w.heap.size ≠ some p := fun e => hpr (Option.some.inj e)
  have hr0 : w.heap.size < w1.heap.size := by omega
  have HBW : Hid (Below w.heap.size w (w2.alloc (.cells #[.string nm, .int .i64 hr, .int .i64 pl, .int .i64 rs, .int .i64 dn] 33))) := Lib.hid (((HB0.out.trans (B1.out.mono (by omega))).grown hd.2.1 (by omega) (fun k hk => by cases hk; omega)).alloc (by omega) _)
  have DA : Hid (Dr (w2.alloc (.cells #[.string nm, .int .i64 hr, .int .i64 pl, .int .i64 rs, .int .i64 dn] 33)) p (w2.alloc (.cells #[.string nm, .int .i64 hr, .int .i64 pl, .int .i64 rs, .int .i64 dn] 33))) := Lib.hid (Dr.refl (hd.1.alloc _))
  have hY : ∀ j, (w2.alloc (.cells #[.string nm, .int .i64 hr, .int .i64 pl, .int .i64 rs, .int .i64 dn] 33)).cell? ⟨w2.heap.size, j, none⟩ = #[Value.string nm, Value.int .i64 hr, Value.int .i64 pl, Value.int .i64 rs, Value.int .i64 dn][j]? := fun j => box_new _ _ _ j
  have hcx : ∀ j v, wA.cell? ⟨w.heap.size, j, none⟩ = some v → (w2.alloc (.cells #[.string nm, .int .i64 hr, .int .i64 pl, .int .i64 rs, .int .i64 dn] 33)).cell? ⟨w.heap.size, j, none⟩ = some v := fun j v hv => (box_old _ _ _ (by simp only []; omega)).trans ((hd.2.1.cell_far ⟨w.heap.size, j, none⟩ hr0 hne).trans ((B1.out.cell (p := ⟨w.heap.size, j, none⟩) (by simp only []; omega)).trans hv))
  have hff : ∀ j, (w2.alloc (.cells #[.string nm, .int .i64 hr, .int .i64 pl, .int .i64 rs, .int .i64 dn] 33)).frozen? ⟨w.heap.size, j, none⟩ = false := fun j => frozen_box _ _ _ _ ((hd.2.1.frozen_far _ hr0 hne).trans ((B1.out.frozen (by simp only []; omega)).trans (HFR.out j)))
  have y0 := (hY 0).trans (show _ = some (Value.string nm) from rfl)
  have y1 := (hY 1).trans (show _ = some (Value.int .i64 hr) from rfl)
  have y2 := (hY 2).trans (show _ = some (Value.int .i64 pl) from rfl)
  have y3 := (hY 3).trans (show _ = some (Value.int .i64 rs) from rfl)
  have y4 := (hY 4).trans (show _ = some (Value.int .i64 dn) from rfl)
  have r0 := hcx 0 _ ((HBX.out 0).trans (show _ = some (Value.string ⟨#[]⟩) from rfl))
  have r1 := hcx 1 _ ((HBX.out 1).trans (show _ = some (Value.int .i64 0) from rfl))
  have r2 := hcx 2 _ ((HBX.out 2).trans (show _ = some (Value.int .i64 0) from rfl))
  have r3 := hcx 3 _ ((HBX.out 3).trans (show _ = some (Value.int .i64 0) from rfl))
  have r4 := hcx 4 _ ((HBX.out 4).trans (show _ = some (Value.int .i64 0) from rfl))
  have rf0 := hff 0
  have rf1 := hff 1
  have rf2 := hff 2
  have rf3 := hff 3
  have rf4 := hff 4
  have hzY : (w2.alloc (.cells #[.string nm, .int .i64 hr, .int .i64 pl, .int .i64 rs, .int .i64 dn] 33)).heap.size = w2.heap.size + 1 := by simp
  clear hd hg hx hY hcx hff HBX HFR D1
  go_wp2
  generalize w2.alloc (.cells #[.string nm, .int .i64 hr, .int .i64 pl, .int .i64 rs, .int .i64 dn] 33) = wY at *
  obtain ⟨B, hB⟩ : ∃ B, w.heap.size = B := ⟨_, rfl⟩
  obtain ⟨Y, hYe⟩ : ∃ Y, w2.heap.size = Y := ⟨_, rfl⟩
  rw [hYe] at y0 y1 y2 y3 y4 hpY hzY hz2 ⊢
  rw [hB] at r0 r1 r2 r3 r4 rf0 rf1 rf2 rf3 rf4 hpr hr0 hne hzw HBW ⊢
  have hBp : B ≤ p := by omega
  have hBY : B < wY.heap.size := by omega
  have hYY : Y < wY.heap.size := by omega
  have HBs := Lib.hid hB
  clear hB hYe
  refine wp_region_inv (by kernel_rfl) ([[], [], [], [2], [3], [1, 4, 3], [], [], [7, 5], [8], [6, 9, 8], [0, 10, 0], [5, 11, 0, 1, 2, 3, 4, 5, 11], [10, 12, 0, 1, 2, 3, 4, 5, 6, 7, 8, 9, 10, 11, 12]] : List (List Nat)) (by kernel_rfl) (by kernel_rfl) (fun f b u => ∃ x3 x4 x11 x12 x13 x14 x15 x16 x17 x18 x19 x20 x21 : Value, b = (⟨#[.slice A n cap, undef, .pointer (some ⟨B, 0, none⟩), x3, x4, .pointer (some ⟨p, 0, none⟩), .pointer (some ⟨Y, 0, none⟩), .slice A n cap, .pointer (some ⟨p, 0, none⟩), .pointer (some ⟨p, 0, none⟩), .agg #[.string nm, .int .i64 hr, .int .i64 pl, .int .i64 rs, .int .i64 dn], x11, x12, x13, x14, x15, x16, x17, x18, x19, x20, x21], []⟩ : Act) ∧ (f 11 = false → Dr wY p u ∧ Stay p wY u) ∧ (f 0 = true → x11 = .agg #[.string nm, .int .i64 hr, .int .i64 pl, .int .i64 rs, .int .i64 dn]) ∧ (f 1 = true → x12 = .pointer (some ⟨p, 0, none⟩)) ∧ (f 2 = true → x13 = .pointer (some ⟨p, 0, none⟩)) ∧ (f 3 = true → ∃ h : Int, x14 = .int .i64 h ∧ -10 ≤ h ∧ h ≤ 10000) ∧ (f 4 = true → f 11 = false → PK p u x15 5) ∧ (f 5 = true → ∃ h : Int, x16 = .int .i64 h ∧ -10 ≤ h ∧ h ≤ 10000) ∧ (f 6 = true → x17 = .pointer (some ⟨p, 0, none⟩)) ∧ (f 7 = true → x18 = .pointer (some ⟨p, 0, none⟩)) ∧ (f 8 = true → ∃ h : Int, x19 = .int .i64 h ∧ -10 ≤ h ∧ h ≤ 10000) ∧ (f 9 = true → f 11 = false → PK p u x20 4) ∧ (f 10 = true → ∃ h : Int, x21 = .int .i64 h ∧ -10 ≤ h ∧ h ≤ 10000) ∧ (f 12 = true → ∃ h : Int, x3 = .int .i64 h ∧ -10 ≤ h ∧ h ≤ 10000) ∧ (f 13 = true → ∃ h : Int, x4 = .int .i64 h ∧ -10 ≤ h ∧ h ≤ 10000) ∧ (f 11 = true → RF w B (.string nm) (.int .i64 hr) (.int .i64 pl) (.int .i64 rs) (.int .i64 dn) u)) ?_ ?_ ?_
  · exact ⟨_, _, _, _, _, _, _, _, _, _, _, _, _, rfl, fun _ => ⟨DA.out.drew, ⟨Nat.le_refl _, fun _ _ _ _ => rfl, fun _ _ _ _ => rfl⟩⟩, fun h => (by cases h), fun h => (by cases h), fun h => (by cases h), fun h => (by cases h), fun h => (by cases h), fun h => (by cases h), fun h => (by cases h), fun h => (by cases h), fun h => (by cases h), fun h => (by cases h), fun h => (by cases h), fun h => (by cases h), fun h => (by cases h), fun h => (by cases h)⟩
  · show ∀ i, i < 14 → _
    refine below_succ ?_ ?_
    · intro f b u hf hd hcl hI
      obtain ⟨x3, x4, x11, x12, x13, x14, x15, x16, x17, x18, x19, x20, x21, rfl, gD, g0, g1, g2, g3, g4, g5, g6, g7, g8, g9, g10, g12, g13, gF⟩ := hI
      have hl : f 11 = true := hd 11 (by decide)
      have e10 := g10 (hd 10 (by decide))
      obtain ⟨h, rfl, hh0, hh1⟩ := e10
      refine wpOp_step rfl (fun K hK => ?_)
      go_simp
      refine hK _ _ ?_
      refine ⟨_, _, _, _, _, _, _, _, _, _, _, _, _, rfl, fun h => absurd h (by simp [hl]), fun h => g0 (by simpa using h), fun h => g1 (by simpa using h), fun h => g2 (by simpa using h), fun h => g3 (by simpa using h), fun h e => absurd e (by simp [hl]), fun h => g5 (by simpa using h), fun h => g6 (by simpa using h), fun h => g7 (by simpa using h), fun h => g8 (by simpa using h), fun h e => absurd e (by simp [hl]), fun h => g10 (by simpa using h), fun h => g12 (by simpa using h), fun _ => ⟨h, rfl, hh0, hh1⟩, fun _ => gF hl⟩
    refine below_succ ?_ ?_
    · intro f b u hf hd hcl hI
      obtain ⟨x3, x4, x11, x12, x13, x14, x15, x16, x17, x18, x19, x20, x21, rfl, gD, g0, g1, g2, g3, g4, g5, g6, g7, g8, g9, g10, g12, g13, gF⟩ := hI
      have hl : f 11 = true := hd 11 (by decide)
      have e5 := g5 (hd 5 (by decide))
      obtain ⟨h, rfl, hh0, hh1⟩ := e5
      refine wpOp_step rfl (fun K hK => ?_)
      go_simp
      refine hK _ _ ?_
      refine ⟨_, _, _, _, _, _, _, _, _, _, _, _, _, rfl, fun h => absurd h (by simp [hl]), fun h => g0 (by simpa using h), fun h => g1 (by simpa using h), fun h => g2 (by simpa using h), fun h => g3 (by simpa using h), fun h e => absurd e (by simp [hl]), fun h => g5 (by simpa using h), fun h => g6 (by simpa using h), fun h => g7 (by simpa using h), fun h => g8 (by simpa using h), fun h e => absurd e (by simp [hl]), fun h => g10 (by simpa using h), fun _ => ⟨h, rfl, hh0, hh1⟩, fun h => g13 (by simpa using h), fun _ => gF hl⟩
    refine below_succ ?_ ?_
    · intro f b u hf hd hcl hI
      obtain ⟨x3, x4, x11, x12, x13, x14, x15, x16, x17, x18, x19, x20, x21, rfl, gD, g0, g1, g2, g3, g4, g5, g6, g7, g8, g9, g10, g12, g13, gF⟩ := hI
      obtain ⟨gD, gS⟩ := gD hf
      have e0 := g0 (hd 0 (by decide))
      subst e0
      refine wpOp_step rfl (fun K hK => ?_)
      have z0 := (gS.ce B 0 hpr hBY).trans r0
      have zf0 := (gS.fr B 0 hpr hBY).trans rf0
      have z1 := (gS.ce B 1 hpr hBY).trans r1
      have zf1 := (gS.fr B 1 hpr hBY).trans rf1
      have z2 := (gS.ce B 2 hpr hBY).trans r2
      have zf2 := (gS.fr B 2 hpr hBY).trans rf2
      have z3 := (gS.ce B 3 hpr hBY).trans r3
      have zf3 := (gS.fr B 3 hpr hBY).trans rf3
      have z4 := (gS.ce B 4 hpr hBY).trans r4
      have zf4 := (gS.fr B 4 hpr hBY).trans rf4
      obtain ⟨s0, s1, s2, s3, s4⟩ := used_cells (v0 := (.string nm)) (v1 := (.int .i64 hr)) (v2 := (.int .i64 pl)) (v3 := (.int .i64 rs)) (v4 := (.int .i64 dn)) z0 z1 z2 z3 z4
      have HBE := Lib.hid ((((((belowStay HBW.out hBp gD.2.1 (by omega)).setCell (p := ⟨B, 0, none⟩) (Nat.le_refl _) (.string nm)).setCell (p := ⟨B, 1, none⟩) (Nat.le_refl _) (.int .i64 hr)).setCell (p := ⟨B, 2, none⟩) (Nat.le_refl _) (.int .i64 pl)).setCell (p := ⟨B, 3, none⟩) (Nat.le_refl _) (.int .i64 rs)).setCell (p := ⟨B, 4, none⟩) (Nat.le_refl _) (.int .i64 dn))
      have HRF : Hid (RF w B (.string nm) (.int .i64 hr) (.int .i64 pl) (.int .i64 rs) (.int .i64 dn) (((((u.setCell ⟨B, 0, none⟩ (.string nm)).setCell ⟨B, 1, none⟩ (.int .i64 hr)).setCell ⟨B, 2, none⟩ (.int .i64 pl)).setCell ⟨B, 3, none⟩ (.int .i64 rs)).setCell ⟨B, 4, none⟩ (.int .i64 dn))) := Lib.hid ⟨s0, s1, s2, s3, s4, HBE.out⟩
      clear s0 s1 s2 s3 s4
      go_simp
      refine hK _ _ ?_
      refine ⟨_, _, _, _, _, _, _, _, _, _, _, _, _, rfl, fun h => absurd h (by simp), fun h => g0 (by simpa using h), fun h => g1 (by simpa using h), fun h => g2 (by simpa using h), fun h => g3 (by simpa using h), fun h e => absurd e (by simp), fun h => g5 (by simpa using h), fun h => g6 (by simpa using h), fun h => g7 (by simpa using h), fun h => g8 (by simpa using h), fun h e => absurd e (by simp), fun h => g10 (by simpa using h), fun h => g12 (by simpa using h), fun h => g13 (by simpa using h), fun _ => HRF.out⟩
    refine below_succ ?_ ?_
    · intro f b u hf hd hcl hI
      obtain ⟨x3, x4, x11, x12, x13, x14, x15, x16, x17, x18, x19, x20, x21, rfl, gD, g0, g1, g2, g3, g4, g5, g6, g7, g8, g9, g10, g12, g13, gF⟩ := hI
      have hl : f 11 = false := by
        cases h15 : f 11 with
        | false => rfl
        | true => exact absurd (hcl 11 (by decide) h15 10 (by decide)) (by rw [hf]; decide)
      obtain ⟨gD, gS⟩ := gD hl
      have e6 := g6 (hd 6 (by decide))
      subst e6
      have e9 := g9 (hd 9 (by decide)) hl
      obtain ⟨N, xs, rfl, hNp, hNs, hxl, hxb, hNc⟩ := e9
      refine wpOp_step rfl (fun K hK => ?_)
      go_simp
      go_at_call 89
      refine (pick_fl (w0 := wY) xs 4 hxl.symm (by omega) (by omega) gD hNp hNs hNc).mono ?_
      rintro e wn ⟨v, rfl, hv, hd2, hon⟩
      have hst := Stay.only hon
      try go_simp
      refine hK _ _ ?_
      refine ⟨_, _, _, _, _, _, _, _, _, _, _, _, _, rfl, fun _ => ⟨hd2, gS.trans hst⟩, fun h => g0 (by simpa using h), fun h => g1 (by simpa using h), fun h => g2 (by simpa using h), fun h => g3 (by simpa using h), fun h e => (g4 (by simpa using h) hl).stay hst, fun h => g5 (by simpa using h), fun h => g6 (by simpa using h), fun h => g7 (by simpa using h), fun h => g8 (by simpa using h), fun h e => (g9 (by simpa using h) hl).stay hst, fun _ => ⟨v, rfl, hxb v hv⟩, fun h => g12 (by simpa using h), fun h => g13 (by simpa using h), fun h => absurd h (by simp [hl])⟩
    refine below_succ ?_ ?_
    · intro f b u hf hd hcl hI
      obtain ⟨x3, x4, x11, x12, x13, x14, x15, x16, x17, x18, x19, x20, x21, rfl, gD, g0, g1, g2, g3, g4, g5, g6, g7, g8, g9, g10, g12, g13, gF⟩ := hI
      have hl : f 11 = false := by
        cases h15 : f 11 with
        | false => rfl
        | true => exact absurd (hcl 10 (by decide) (hcl 11 (by decide) h15 10 (by decide)) 9 (by decide)) (by rw [hf]; decide)
      obtain ⟨gD, gS⟩ := gD hl
      have e8 := g8 (hd 8 (by decide))
      obtain ⟨h, rfl, hh0, hh1⟩ := e8
      refine wpOp_step rfl (fun K hK => ?_)
      go_simp
      refine hK _ _ ?_
      refine ⟨_, _, _, _, _, _, _, _, _, _, _, _, _, rfl, fun _ => ⟨gD.alloc _, gS.trans (Stay.alloc p u _ _)⟩, fun h => g0 (by simpa using h), fun h => g1 (by simpa using h), fun h => g2 (by simpa using h), fun h => g3 (by simpa using h), fun h e => (g4 (by simpa using h) hl).stay (Stay.alloc p u _ _), fun h => g5 (by simpa using h), fun h => g6 (by simpa using h), fun h => g7 (by simpa using h), fun h => g8 (by simpa using h), fun _ _ => PK.new [h, 0, 20, 21] _ _ rfl gD (by intro y hy; simp at hy; omega), fun h => g10 (by simpa using h), fun h => g12 (by simpa using h), fun h => g13 (by simpa using h), fun h => absurd h (by simp [hl])⟩
    refine below_succ ?_ ?_
    · intro f b u hf hd hcl hI
      obtain ⟨x3, x4, x11, x12, x13, x14, x15, x16, x17, x18, x19, x20, x21, rfl, gD, g0, g1, g2, g3, g4, g5, g6, g7, g8, g9, g10, g12, g13, gF⟩ := hI
      have hl : f 11 = false := by
        cases h15 : f 11 with
        | false => rfl
        | true => exact absurd (hcl 10 (by decide) (hcl 11 (by decide) h15 10 (by decide)) 8 (by decide)) (by rw [hf]; decide)
      obtain ⟨gD, gS⟩ := gD hl
      have e7 := g7 (hd 7 (by decide))
      subst e7
      refine wpOp_step rfl (fun K hK => ?_)
      go_simp
      go_at_call 87
      refine (next_fl 5 (w0 := wY) gD (by omega)).mono ?_
      rintro e wn ⟨v, rfl, v0, v1, hd2, hon⟩
      have hst := Stay.only hon
      try go_simp
      refine hK _ _ ?_
      refine ⟨_, _, _, _, _, _, _, _, _, _, _, _, _, rfl, fun _ => ⟨hd2, gS.trans hst⟩, fun h => g0 (by simpa using h), fun h => g1 (by simpa using h), fun h => g2 (by simpa using h), fun h => g3 (by simpa using h), fun h e => (g4 (by simpa using h) hl).stay hst, fun h => g5 (by simpa using h), fun h => g6 (by simpa using h), fun h => g7 (by simpa using h), fun _ => ⟨v, rfl, by omega, by omega⟩, fun h e => (g9 (by simpa using h) hl).stay hst, fun h => g10 (by simpa using h), fun h => g12 (by simpa using h), fun h => g13 (by simpa using h), fun h => absurd h (by simp [hl])⟩
    refine below_succ ?_ ?_
    · intro f b u hf hd hcl hI
      obtain ⟨x3, x4, x11, x12, x13, x14, x15, x16, x17, x18, x19, x20, x21, rfl, gD, g0, g1, g2, g3, g4, g5, g6, g7, g8, g9, g10, g12, g13, gF⟩ := hI
      have hl : f 11 = false := by
        cases h15 : f 11 with
        | false => rfl
        | true => exact absurd (hcl 8 (by decide) (hcl 10 (by decide) (hcl 11 (by decide) h15 10 (by decide)) 8 (by decide)) 7 (by decide)) (by rw [hf]; decide)
      obtain ⟨gD, gS⟩ := gD hl
      refine wpOp_step rfl (fun K hK => ?_)
      go_simp
      refine hK _ _ ?_
      refine ⟨_, _, _, _, _, _, _, _, _, _, _, _, _, rfl, fun _ => ⟨gD, gS⟩, fun h => g0 (by simpa using h), fun h => g1 (by simpa using h), fun h => g2 (by simpa using h), fun h => g3 (by simpa using h), fun h e => (g4 (by simpa using h) hl), fun h => g5 (by simpa using h), fun h => g6 (by simpa using h), fun _ => rfl, fun h => g8 (by simpa using h), fun h e => (g9 (by simpa using h) hl), fun h => g10 (by simpa using h), fun h => g12 (by simpa using h), fun h => g13 (by simpa using h), fun h => absurd h (by simp [hl])⟩
    refine below_succ ?_ ?_
    · intro f b u hf hd hcl hI
      obtain ⟨x3, x4, x11, x12, x13, x14, x15, x16, x17, x18, x19, x20, x21, rfl, gD, g0, g1, g2, g3, g4, g5, g6, g7, g8, g9, g10, g12, g13, gF⟩ := hI
      have hl : f 11 = false := by
        cases h15 : f 11 with
        | false => rfl
        | true => exact absurd (hcl 10 (by decide) (hcl 11 (by decide) h15 10 (by decide)) 6 (by decide)) (by rw [hf]; decide)
      obtain ⟨gD, gS⟩ := gD hl
      refine wpOp_step rfl (fun K hK => ?_)
      go_simp
      refine hK _ _ ?_
      refine ⟨_, _, _, _, _, _, _, _, _, _, _, _, _, rfl, fun _ => ⟨gD, gS⟩, fun h => g0 (by simpa using h), fun h => g1 (by simpa using h), fun h => g2 (by simpa using h), fun h => g3 (by simpa using h), fun h e => (g4 (by simpa using h) hl), fun h => g5 (by simpa using h), fun _ => rfl, fun h => g7 (by simpa using h), fun h => g8 (by simpa using h), fun h e => (g9 (by simpa using h) hl), fun h => g10 (by simpa using h), fun h => g12 (by simpa using h), fun h => g13 (by simpa using h), fun h => absurd h (by simp [hl])⟩
    refine below_succ ?_ ?_
    · intro f b u hf hd hcl hI
      obtain ⟨x3, x4, x11, x12, x13, x14, x15, x16, x17, x18, x19, x20, x21, rfl, gD, g0, g1, g2, g3, g4, g5, g6, g7, g8, g9, g10, g12, g13, gF⟩ := hI
      have hl : f 11 = false := by
        cases h15 : f 11 with
        | false => rfl
        | true => exact absurd (hcl 8 (by decide) (hcl 10 (by decide) (hcl 11 (by decide) h15 10 (by decide)) 8 (by decide)) 5 (by decide)) (by rw [hf]; decide)
      obtain ⟨gD, gS⟩ := gD hl
      have e1 := g1 (hd 1 (by decide))
      subst e1
      have e4 := g4 (hd 4 (by decide)) hl
      obtain ⟨N, xs, rfl, hNp, hNs, hxl, hxb, hNc⟩ := e4
      refine wpOp_step rfl (fun K hK => ?_)
      go_simp
      go_at_call 89
      refine (pick_fl (w0 := wY) xs 5 hxl.symm (by omega) (by omega) gD hNp hNs hNc).mono ?_
      rintro e wn ⟨v, rfl, hv, hd2, hon⟩
      have hst := Stay.only hon
      try go_simp
      refine hK _ _ ?_
      refine ⟨_, _, _, _, _, _, _, _, _, _, _, _, _, rfl, fun _ => ⟨hd2, gS.trans hst⟩, fun h => g0 (by simpa using h), fun h => g1 (by simpa using h), fun h => g2 (by simpa using h), fun h => g3 (by simpa using h), fun h e => (g4 (by simpa using h) hl).stay hst, fun _ => ⟨v, rfl, hxb v hv⟩, fun h => g6 (by simpa using h), fun h => g7 (by simpa using h), fun h => g8 (by simpa using h), fun h e => (g9 (by simpa using h) hl).stay hst, fun h => g10 (by simpa using h), fun h => g12 (by simpa using h), fun h => g13 (by simpa using h), fun h => absurd h (by simp [hl])⟩
    refine below_succ ?_ ?_
    · intro f b u hf hd hcl hI
      obtain ⟨x3, x4, x11, x12, x13, x14, x15, x16, x17, x18, x19, x20, x21, rfl, gD, g0, g1, g2, g3, g4, g5, g6, g7, g8, g9, g10, g12, g13, gF⟩ := hI
      have hl : f 11 = false := by
        cases h15 : f 11 with
        | false => rfl
        | true => exact absurd (hcl 5 (by decide) (hcl 8 (by decide) (hcl 10 (by decide) (hcl 11 (by decide) h15 10 (by decide)) 8 (by decide)) 5 (by decide)) 4 (by decide)) (by rw [hf]; decide)
      obtain ⟨gD, gS⟩ := gD hl
      have e3 := g3 (hd 3 (by decide))
      obtain ⟨h, rfl, hh0, hh1⟩ := e3
      refine wpOp_step rfl (fun K hK => ?_)
      go_simp
      refine hK _ _ ?_
      refine ⟨_, _, _, _, _, _, _, _, _, _, _, _, _, rfl, fun _ => ⟨gD.alloc _, gS.trans (Stay.alloc p u _ _)⟩, fun h => g0 (by simpa using h), fun h => g1 (by simpa using h), fun h => g2 (by simpa using h), fun h => g3 (by simpa using h), fun _ _ => PK.new [h, 0, 5000, 5001, -1] _ _ rfl gD (by intro y hy; simp at hy; omega), fun h => g5 (by simpa using h), fun h => g6 (by simpa using h), fun h => g7 (by simpa using h), fun h => g8 (by simpa using h), fun h e => (g9 (by simpa using h) hl).stay (Stay.alloc p u _ _), fun h => g10 (by simpa using h), fun h => g12 (by simpa using h), fun h => g13 (by simpa using h), fun h => absurd h (by simp [hl])⟩
    refine below_succ ?_ ?_
    · intro f b u hf hd hcl hI
      obtain ⟨x3, x4, x11, x12, x13, x14, x15, x16, x17, x18, x19, x20, x21, rfl, gD, g0, g1, g2, g3, g4, g5, g6, g7, g8, g9, g10, g12, g13, gF⟩ := hI
      have hl : f 11 = false := by
        cases h15 : f 11 with
        | false => rfl
        | true => exact absurd (hcl 5 (by decide) (hcl 8 (by decide) (hcl 10 (by decide) (hcl 11 (by decide) h15 10 (by decide)) 8 (by decide)) 5 (by decide)) 3 (by decide)) (by rw [hf]; decide)
      obtain ⟨gD, gS⟩ := gD hl
      have e2 := g2 (hd 2 (by decide))
      subst e2
      refine wpOp_step rfl (fun K hK => ?_)
      go_simp
      go_at_call 87
      refine (next_fl 300 (w0 := wY) gD (by omega)).mono ?_
      rintro e wn ⟨v, rfl, v0, v1, hd2, hon⟩
      have hst := Stay.only hon
      try go_simp
      refine hK _ _ ?_
      refine ⟨_, _, _, _, _, _, _, _, _, _, _, _, _, rfl, fun _ => ⟨hd2, gS.trans hst⟩, fun h => g0 (by simpa using h), fun h => g1 (by simpa using h), fun h => g2 (by simpa using h), fun _ => ⟨v, rfl, by omega, by omega⟩, fun h e => (g4 (by simpa using h) hl).stay hst, fun h => g5 (by simpa using h), fun h => g6 (by simpa using h), fun h => g7 (by simpa using h), fun h => g8 (by simpa using h), fun h e => (g9 (by simpa using h) hl).stay hst, fun h => g10 (by simpa using h), fun h => g12 (by simpa using h), fun h => g13 (by simpa using h), fun h => absurd h (by simp [hl])⟩
    refine below_succ ?_ ?_
    · intro f b u hf hd hcl hI
      obtain ⟨x3, x4, x11, x12, x13, x14, x15, x16, x17, x18, x19, x20, x21, rfl, gD, g0, g1, g2, g3, g4, g5, g6, g7, g8, g9, g10, g12, g13, gF⟩ := hI
      have hl : f 11 = false := by
        cases h15 : f 11 with
        | false => rfl
        | true => exact absurd (hcl 3 (by decide) (hcl 5 (by decide) (hcl 8 (by decide) (hcl 10 (by decide) (hcl 11 (by decide) h15 10 (by decide)) 8 (by decide)) 5 (by decide)) 3 (by decide)) 2 (by decide)) (by rw [hf]; decide)
      obtain ⟨gD, gS⟩ := gD hl
      refine wpOp_step rfl (fun K hK => ?_)
      go_simp
      refine hK _ _ ?_
      refine ⟨_, _, _, _, _, _, _, _, _, _, _, _, _, rfl, fun _ => ⟨gD, gS⟩, fun h => g0 (by simpa using h), fun h => g1 (by simpa using h), fun _ => rfl, fun h => g3 (by simpa using h), fun h e => (g4 (by simpa using h) hl), fun h => g5 (by simpa using h), fun h => g6 (by simpa using h), fun h => g7 (by simpa using h), fun h => g8 (by simpa using h), fun h e => (g9 (by simpa using h) hl), fun h => g10 (by simpa using h), fun h => g12 (by simpa using h), fun h => g13 (by simpa using h), fun h => absurd h (by simp [hl])⟩
    refine below_succ ?_ ?_
    · intro f b u hf hd hcl hI
      obtain ⟨x3, x4, x11, x12, x13, x14, x15, x16, x17, x18, x19, x20, x21, rfl, gD, g0, g1, g2, g3, g4, g5, g6, g7, g8, g9, g10, g12, g13, gF⟩ := hI
      have hl : f 11 = false := by
        cases h15 : f 11 with
        | false => rfl
        | true => exact absurd (hcl 5 (by decide) (hcl 8 (by decide) (hcl 10 (by decide) (hcl 11 (by decide) h15 10 (by decide)) 8 (by decide)) 5 (by decide)) 1 (by decide)) (by rw [hf]; decide)
      obtain ⟨gD, gS⟩ := gD hl
      refine wpOp_step rfl (fun K hK => ?_)
      go_simp
      refine hK _ _ ?_
      refine ⟨_, _, _, _, _, _, _, _, _, _, _, _, _, rfl, fun _ => ⟨gD, gS⟩, fun h => g0 (by simpa using h), fun _ => rfl, fun h => g2 (by simpa using h), fun h => g3 (by simpa using h), fun h e => (g4 (by simpa using h) hl), fun h => g5 (by simpa using h), fun h => g6 (by simpa using h), fun h => g7 (by simpa using h), fun h => g8 (by simpa using h), fun h e => (g9 (by simpa using h) hl), fun h => g10 (by simpa using h), fun h => g12 (by simpa using h), fun h => g13 (by simpa using h), fun h => absurd h (by simp [hl])⟩
    refine below_succ ?_ ?_
    · intro f b u hf hd hcl hI
      obtain ⟨x3, x4, x11, x12, x13, x14, x15, x16, x17, x18, x19, x20, x21, rfl, gD, g0, g1, g2, g3, g4, g5, g6, g7, g8, g9, g10, g12, g13, gF⟩ := hI
      have hl : f 11 = false := by
        cases h15 : f 11 with
        | false => rfl
        | true => exact absurd (hcl 11 (by decide) h15 0 (by decide)) (by rw [hf]; decide)
      obtain ⟨gD, gS⟩ := gD hl
      have z0 := (gS.ce Y 0 hpY hYY).trans y0
      have z1 := (gS.ce Y 1 hpY hYY).trans y1
      have z2 := (gS.ce Y 2 hpY hYY).trans y2
      have z3 := (gS.ce Y 3 hpY hYY).trans y3
      have z4 := (gS.ce Y 4 hpY hYY).trans y4
      refine wpOp_step rfl (fun K hK => ?_)
      go_simp
      refine hK _ _ ?_
      refine ⟨_, _, _, _, _, _, _, _, _, _, _, _, _, rfl, fun _ => ⟨gD, gS⟩, fun _ => rfl, fun h => g1 (by simpa using h), fun h => g2 (by simpa using h), fun h => g3 (by simpa using h), fun h e => (g4 (by simpa using h) hl), fun h => g5 (by simpa using h), fun h => g6 (by simpa using h), fun h => g7 (by simpa using h), fun h => g8 (by simpa using h), fun h e => (g9 (by simpa using h) hl), fun h => g10 (by simpa using h), fun h => g12 (by simpa using h), fun h => g13 (by simpa using h), fun h => absurd h (by simp [hl])⟩
    exact below_zero
  · intro f b u hf hI
    obtain ⟨x3, x4, x11, x12, x13, x14, x15, x16, x17, x18, x19, x20, x21, rfl, gD, g0, g1, g2, g3, g4, g5, g6, g7, g8, g9, g10, g12, g13, gF⟩ := hI
    have HF := gF (hf 11 (by decide))
    obtain ⟨a, rfl, a0, a1⟩ := g12 (hf 12 (by decide))
    obtain ⟨d, rfl, d0, d1⟩ := g13 (hf 13 (by decide))
    clear gD gF hf g0 g1 g2 g3 g4 g5 g6 g7 g8 g9 g10 g12 g13 y0 y1 y2 y3 y4 r0 r1 r2 r3 r4 rf0 rf1 rf2 rf3 rf4
    have HB2 := Lib.hid HF.be
    obtain ⟨u0, u1, u2, u3, u4, _⟩ := HF
    go_wp2
    refine bodyPost_ret (v := .tuple #[.agg #[.string (⟨nm, hr, pl, rs, dn⟩ : Used).name, .int .i64 (⟨nm, hr, pl, rs, dn⟩ : Used).hours, .int .i64 (⟨nm, hr, pl, rs, dn⟩ : Used).play, .int .i64 (⟨nm, hr, pl, rs, dn⟩ : Used).rust, .int .i64 (⟨nm, hr, pl, rs, dn⟩ : Used).dents], .int .i64 a, .int .i64 d]) (by simp [results, Try.results61, go_sem, u0, u1, u2, u3, u4]) rfl ⟨⟨nm, hr, pl, rs, dn⟩, a, d, rfl, HXO.out, ⟨a0, a1⟩, ⟨d0, d1⟩, by rw [HBs.out]; exact HB2.out⟩
set_option maxHeartbeats 16000000 in
set_option maxRecDepth 20000 in
theorem DrawCheapestRebuild_any (A : Option Addr) (n cap : Nat) (w : World) (hn : n ≤ 4096) (hc : n ≤ cap) (hb : Bytes w A n w.heap.size) :
    Calls Try.prog 62 #[.slice A n cap] w fun e w' => ∃ (v : Value) (R : List Rule) (x : Used) (g : Int), e = .returned (.tuple #[v, .agg #[.string x.name, .int .i64 x.hours, .int .i64 x.play, .int .i64 x.rust, .int .i64 x.dents], .int .i64 g]) ∧ Own eRule w' w.heap.size 78 v R ∧ R.length ≤ 1000 ∧ okUsed x ∧ (-10 ≤ g ∧ g ≤ 10000) ∧ Below w.heap.size w w' := by
  have hb0 : Below w.heap.size w (w.alloc (.cells #[.string ⟨#[]⟩, .int .i64 0, .int .i64 0, .int .i64 0, .int .i64 0] 33)) := (Below.refl _ _).alloc (Nat.le_refl _) _
  have hbA := Lib.hid (Bytes.below hb hb0)
  have HB0 := Lib.hid hb0
  have hzw : (w.alloc (.cells #[.string ⟨#[]⟩, .int .i64 0, .int .i64 0, .int .i64 0, .int .i64 0] 33)).heap.size = w.heap.size + 1 := by simp
  have hbx : ∀ j, (w.alloc (.cells #[.string ⟨#[]⟩, .int .i64 0, .int .i64 0, .int .i64 0, .int .i64 0] 33)).cell? ⟨w.heap.size, j, none⟩ = #[Value.string ⟨#[]⟩, Value.int .i64 0, Value.int .i64 0, Value.int .i64 0, Value.int .i64 0][j]? := fun j => box_new _ _ _ j
  have hfr : ∀ j, (w.alloc (.cells #[.string ⟨#[]⟩, .int .i64 0, .int .i64 0, .int .i64 0, .int .i64 0] 33)).frozen? ⟨w.heap.size, j, none⟩ = false := fun j => frozen_box _ _ _ _ (frozen_out _ _ (Nat.le_refl _))
  have HBX := Lib.hid hbx
  have HFR := Lib.hid hfr
  clear hb0 hbx hfr
  clear hb
  go_enter Try.func62, Try.ntmps62
  go_wp2_with fail
  generalize w.alloc (.cells #[.string ⟨#[]⟩, .int .i64 0, .int .i64 0, .int .i64 0, .int .i64 0] 33) = wA at *
  refine (l01From_any A n cap wA hn hc hbA.out).mono ?_
  rintro e w1 ⟨p, rfl, hp, hs1, hb1⟩
  have S1 : Hid (Src w1 p) := Lib.hid hs1
  have B1 := Lib.hid hb1
  have hz1 := hb1.size
  have hp1 : p < w1.heap.size := hs1.lt
  clear hs1 hb1
  go_wp2_with fail
  refine (DrawGradeOf_any A n cap w1 hn hc (Bytes.below hbA.out B1.out)).mono ?_
  rintro e w2 ⟨v, R, ⟨nm, hr, pl, rs, dn⟩, rfl, ho, hl, hx, hb2⟩
  have HXO := Lib.hid hx
  have hz2 := hb2.size
  have hpr : w.heap.size ≠ p := by omega
  have hpY : w2.heap.size ≠ p := by omega
  have hr0 : w.heap.size < w1.heap.size := by omega
  have HBW : Hid (Below w.heap.size w (w2.alloc (.cells #[.string nm, .int .i64 hr, .int .i64 pl, .int .i64 rs, .int .i64 dn] 33))) := Lib.hid ((Below.step (HB0.out.trans (B1.out.mono (by omega))) hb2).alloc (by omega) _)
  have DA : Hid (Dr (w2.alloc (.cells #[.string nm, .int .i64 hr, .int .i64 pl, .int .i64 rs, .int .i64 dn] 33)) p (w2.alloc (.cells #[.string nm, .int .i64 hr, .int .i64 pl, .int .i64 rs, .int .i64 dn] 33))) := Lib.hid (Dr.refl ((S1.out.under hp1 hb2).alloc _))
  have OO := Lib.hid (ho.alloc (.cells #[.string nm, .int .i64 hr, .int .i64 pl, .int .i64 rs, .int .i64 dn] 33))
  have hY : ∀ j, (w2.alloc (.cells #[.string nm, .int .i64 hr, .int .i64 pl, .int .i64 rs, .int .i64 dn] 33)).cell? ⟨w2.heap.size, j, none⟩ = #[Value.string nm, Value.int .i64 hr, Value.int .i64 pl, Value.int .i64 rs, Value.int .i64 dn][j]? := fun j => box_new _ _ _ j
  have hcx : ∀ j v, wA.cell? ⟨w.heap.size, j, none⟩ = some v → (w2.alloc (.cells #[.string nm, .int .i64 hr, .int .i64 pl, .int .i64 rs, .int .i64 dn] 33)).cell? ⟨w.heap.size, j, none⟩ = some v := fun j v hv => (box_old _ _ _ (by simp only []; omega)).trans ((hb2.cell (p := ⟨w.heap.size, j, none⟩) (by simp only []; omega)).trans ((B1.out.cell (p := ⟨w.heap.size, j, none⟩) (by simp only []; omega)).trans hv))
  have hff : ∀ j, (w2.alloc (.cells #[.string nm, .int .i64 hr, .int .i64 pl, .int .i64 rs, .int .i64 dn] 33)).frozen? ⟨w.heap.size, j, none⟩ = false := fun j => frozen_box _ _ _ _ ((hb2.frozen (by simp only []; omega)).trans ((B1.out.frozen (by simp only []; omega)).trans (HFR.out j)))
  have y0 := (hY 0).trans (show _ = some (Value.string nm) from rfl)
  have y1 := (hY 1).trans (show _ = some (Value.int .i64 hr) from rfl)
  have y2 := (hY 2).trans (show _ = some (Value.int .i64 pl) from rfl)
  have y3 := (hY 3).trans (show _ = some (Value.int .i64 rs) from rfl)
  have y4 := (hY 4).trans (show _ = some (Value.int .i64 dn) from rfl)
  have r0 := hcx 0 _ ((HBX.out 0).trans (show _ = some (Value.string ⟨#[]⟩) from rfl))
  have r1 := hcx 1 _ ((HBX.out 1).trans (show _ = some (Value.int .i64 0) from rfl))
  have r2 := hcx 2 _ ((HBX.out 2).trans (show _ = some (Value.int .i64 0) from rfl))
  have r3 := hcx 3 _ ((HBX.out 3).trans (show _ = some (Value.int .i64 0) from rfl))
  have r4 := hcx 4 _ ((HBX.out 4).trans (show _ = some (Value.int .i64 0) from rfl))
  have rf0 := hff 0
  have rf1 := hff 1
  have rf2 := hff 2
  have rf3 := hff 3
  have rf4 := hff 4
  have hzY : (w2.alloc (.cells #[.string nm, .int .i64 hr, .int .i64 pl, .int .i64 rs, .int .i64 dn] 33)).heap.size = w2.heap.size + 1 := by simp
  clear ho hb2 hx hY hcx hff HBX HFR S1
  go_wp2
  generalize w2.alloc (.cells #[.string nm, .int .i64 hr, .int .i64 pl, .int .i64 rs, .int .i64 dn] 33) = wY at *
  obtain ⟨B, hB⟩ : ∃ B, w.heap.size = B := ⟨_, rfl⟩
  obtain ⟨Y, hYe⟩ : ∃ Y, w2.heap.size = Y := ⟨_, rfl⟩
  rw [hYe] at y0 y1 y2 y3 y4 hpY hzY hz2 ⊢
  rw [hB] at r0 r1 r2 r3 r4 rf0 rf1 rf2 rf3 rf4 hpr hr0 hzw HBW ⊢
  have hBp : B ≤ p := by omega
  have hBY : B < wY.heap.size := by omega
  have hYY : Y < wY.heap.size := by omega
  have HBs := Lib.hid hB
  clear hB hYe
  refine wp_region_inv (by kernel_rfl) ([[], [], [], [], [2, 3], [0, 4, 0], [1, 5, 0, 1, 5], [4, 6, 0, 1, 2, 3, 4, 5, 6]] : List (List Nat)) (by kernel_rfl) (by kernel_rfl) (fun f b u => ∃ x2 x4 x15 x16 x17 x18 x19 : Value, b = (⟨#[.slice A n cap, undef, x2, .pointer (some ⟨B, 0, none⟩), x4, .pointer (some ⟨p, 0, none⟩), v, .pointer (some ⟨Y, 0, none⟩), .slice A n cap, .pointer (some ⟨p, 0, none⟩), .tuple #[v, .agg #[.string nm, .int .i64 hr, .int .i64 pl, .int .i64 rs, .int .i64 dn]], .slice A n cap, .tuple #[v, .agg #[.string nm, .int .i64 hr, .int .i64 pl, .int .i64 rs, .int .i64 dn]], v, .agg #[.string nm, .int .i64 hr, .int .i64 pl, .int .i64 rs, .int .i64 dn], x15, x16, x17, x18, x19], []⟩ : Act) ∧ (f 6 = false → Dr wY p u ∧ Stay p wY u) ∧ (f 0 = true → v = x15) ∧ (f 1 = true → x16 = .agg #[.string nm, .int .i64 hr, .int .i64 pl, .int .i64 rs, .int .i64 dn]) ∧ (f 2 = true → x17 = .pointer (some ⟨p, 0, none⟩)) ∧ (f 3 = true → f 6 = false → PK p u x18 7) ∧ (f 4 = true → ∃ h : Int, x19 = .int .i64 h ∧ -10 ≤ h ∧ h ≤ 10000) ∧ (f 5 = true → v = x2) ∧ (f 7 = true → ∃ h : Int, x4 = .int .i64 h ∧ -10 ≤ h ∧ h ≤ 10000) ∧ (f 6 = true → RF w B (.string nm) (.int .i64 hr) (.int .i64 pl) (.int .i64 rs) (.int .i64 dn) u ∧ Own eRule u w1.heap.size 78 v R)) ?_ ?_ ?_
  · exact ⟨_, _, _, _, _, _, _, rfl, fun _ => ⟨DA.out.drew, ⟨Nat.le_refl _, fun _ _ _ _ => rfl, fun _ _ _ _ => rfl⟩⟩, fun h => (by cases h), fun h => (by cases h), fun h => (by cases h), fun h => (by cases h), fun h => (by cases h), fun h => (by cases h), fun h => (by cases h), fun h => (by cases h)⟩
  · show ∀ i, i < 8 → _
    refine below_succ ?_ ?_
    · intro f b u hf hd hcl hI
      obtain ⟨x2, x4, x15, x16, x17, x18, x19, rfl, gD, g0, g1, g2, g3, g4, g5, g7, gF⟩ := hI
      have hl : f 6 = true := hd 6 (by decide)
      have e4 := g4 (hd 4 (by decide))
      obtain ⟨h, rfl, hh0, hh1⟩ := e4
      refine wpOp_step rfl (fun K hK => ?_)
      go_simp
      refine hK _ _ ?_
      refine ⟨_, _, _, _, _, _, _, rfl, fun h => absurd h (by simp [hl]), fun h => g0 (by simpa using h), fun h => g1 (by simpa using h), fun h => g2 (by simpa using h), fun h e => absurd e (by simp [hl]), fun h => g4 (by simpa using h), fun h => g5 (by simpa using h), fun _ => ⟨h, rfl, hh0, hh1⟩, fun _ => gF hl⟩
    refine below_succ ?_ ?_
    · intro f b u hf hd hcl hI
      obtain ⟨x2, x4, x15, x16, x17, x18, x19, rfl, gD, g0, g1, g2, g3, g4, g5, g7, gF⟩ := hI
      obtain ⟨gD, gS⟩ := gD hf
      have e1 := g1 (hd 1 (by decide))
      subst e1
      refine wpOp_step rfl (fun K hK => ?_)
      have z0 := (gS.ce B 0 hpr hBY).trans r0
      have zf0 := (gS.fr B 0 hpr hBY).trans rf0
      have z1 := (gS.ce B 1 hpr hBY).trans r1
      have zf1 := (gS.fr B 1 hpr hBY).trans rf1
      have z2 := (gS.ce B 2 hpr hBY).trans r2
      have zf2 := (gS.fr B 2 hpr hBY).trans rf2
      have z3 := (gS.ce B 3 hpr hBY).trans r3
      have zf3 := (gS.fr B 3 hpr hBY).trans rf3
      have z4 := (gS.ce B 4 hpr hBY).trans r4
      have zf4 := (gS.fr B 4 hpr hBY).trans rf4
      obtain ⟨s0, s1, s2, s3, s4⟩ := used_cells (v0 := (.string nm)) (v1 := (.int .i64 hr)) (v2 := (.int .i64 pl)) (v3 := (.int .i64 rs)) (v4 := (.int .i64 dn)) z0 z1 z2 z3 z4
      have HBE := Lib.hid ((((((belowStay HBW.out hBp gD.2.1 (by omega)).setCell (p := ⟨B, 0, none⟩) (Nat.le_refl _) (.string nm)).setCell (p := ⟨B, 1, none⟩) (Nat.le_refl _) (.int .i64 hr)).setCell (p := ⟨B, 2, none⟩) (Nat.le_refl _) (.int .i64 pl)).setCell (p := ⟨B, 3, none⟩) (Nat.le_refl _) (.int .i64 rs)).setCell (p := ⟨B, 4, none⟩) (Nat.le_refl _) (.int .i64 dn))
      have HRF : Hid (RF w B (.string nm) (.int .i64 hr) (.int .i64 pl) (.int .i64 rs) (.int .i64 dn) (((((u.setCell ⟨B, 0, none⟩ (.string nm)).setCell ⟨B, 1, none⟩ (.int .i64 hr)).setCell ⟨B, 2, none⟩ (.int .i64 pl)).setCell ⟨B, 3, none⟩ (.int .i64 rs)).setCell ⟨B, 4, none⟩ (.int .i64 dn))) := Lib.hid ⟨s0, s1, s2, s3, s4, HBE.out⟩
      clear s0 s1 s2 s3 s4
      have far : ∀ (W : World) (j : Nat) (uu : Value), Own eRule W w1.heap.size 78 v R → Own eRule (W.setCell ⟨B, j, none⟩ uu) w1.heap.size 78 v R := fun W j uu h => World.ownsRow.kept h (grown_set _ _ _ _) (own_apart2 h hr0)
      have HEX := Lib.hid (far _ 4 (.int .i64 dn) (far _ 3 (.int .i64 rs) (far _ 2 (.int .i64 pl) (far _ 1 (.int .i64 hr) (far _ 0 (.string nm) (OO.out.dr gD.2.1 hp1))))))
      clear far
      go_simp
      refine hK _ _ ?_
      refine ⟨_, _, _, _, _, _, _, rfl, fun h => absurd h (by simp), fun h => g0 (by simpa using h), fun h => g1 (by simpa using h), fun h => g2 (by simpa using h), fun h e => absurd e (by simp), fun h => g4 (by simpa using h), fun h => g5 (by simpa using h), fun h => g7 (by simpa using h), fun _ => ⟨HRF.out, HEX.out⟩⟩
    refine below_succ ?_ ?_
    · intro f b u hf hd hcl hI
      obtain ⟨x2, x4, x15, x16, x17, x18, x19, rfl, gD, g0, g1, g2, g3, g4, g5, g7, gF⟩ := hI
      have hl : f 6 = false := by
        cases h15 : f 6 with
        | false => rfl
        | true => exact absurd (hcl 6 (by decide) h15 5 (by decide)) (by rw [hf]; decide)
      obtain ⟨gD, gS⟩ := gD hl
      have e0 := g0 (hd 0 (by decide))
      subst e0
      refine wpOp_step rfl (fun K hK => ?_)
      go_simp
      refine hK _ _ ?_
      refine ⟨_, _, _, _, _, _, _, rfl, fun _ => ⟨gD, gS⟩, fun h => g0 (by simpa using h), fun h => g1 (by simpa using h), fun h => g2 (by simpa using h), fun h e => (g3 (by simpa using h) hl), fun h => g4 (by simpa using h), fun _ => rfl, fun h => g7 (by simpa using h), fun h => absurd h (by simp [hl])⟩
    refine below_succ ?_ ?_
    · intro f b u hf hd hcl hI
      obtain ⟨x2, x4, x15, x16, x17, x18, x19, rfl, gD, g0, g1, g2, g3, g4, g5, g7, gF⟩ := hI
      have hl : f 6 = false := by
        cases h15 : f 6 with
        | false => rfl
        | true => exact absurd (hcl 5 (by decide) (hcl 6 (by decide) h15 5 (by decide)) 4 (by decide)) (by rw [hf]; decide)
      obtain ⟨gD, gS⟩ := gD hl
      have e2 := g2 (hd 2 (by decide))
      subst e2
      have e3 := g3 (hd 3 (by decide)) hl
      obtain ⟨N, xs, rfl, hNp, hNs, hxl, hxb, hNc⟩ := e3
      refine wpOp_step rfl (fun K hK => ?_)
      go_simp
      go_at_call 89
      refine (pick_fl (w0 := wY) xs 7 hxl.symm (by omega) (by omega) gD hNp hNs hNc).mono ?_
      rintro e wn ⟨v, rfl, hv, hd2, hon⟩
      have hst := Stay.only hon
      try go_simp
      refine hK _ _ ?_
      refine ⟨_, _, _, _, _, _, _, rfl, fun _ => ⟨hd2, gS.trans hst⟩, fun h => g0 (by simpa using h), fun h => g1 (by simpa using h), fun h => g2 (by simpa using h), fun h e => (g3 (by simpa using h) hl).stay hst, fun _ => ⟨v, rfl, hxb v hv⟩, fun h => g5 (by simpa using h), fun h => g7 (by simpa using h), fun h => absurd h (by simp [hl])⟩
    refine below_succ ?_ ?_
    · intro f b u hf hd hcl hI
      obtain ⟨x2, x4, x15, x16, x17, x18, x19, rfl, gD, g0, g1, g2, g3, g4, g5, g7, gF⟩ := hI
      have hl : f 6 = false := by
        cases h15 : f 6 with
        | false => rfl
        | true => exact absurd (hcl 4 (by decide) (hcl 5 (by decide) (hcl 6 (by decide) h15 5 (by decide)) 4 (by decide)) 3 (by decide)) (by rw [hf]; decide)
      obtain ⟨gD, gS⟩ := gD hl
      refine wpOp_step rfl (fun K hK => ?_)
      go_simp
      refine hK _ _ ?_
      refine ⟨_, _, _, _, _, _, _, rfl, fun _ => ⟨gD.alloc _, gS.trans (Stay.alloc p u _ _)⟩, fun h => g0 (by simpa using h), fun h => g1 (by simpa using h), fun h => g2 (by simpa using h), fun _ _ => PK.new [0, 1, 2, 3, 4, 5, -1] _ _ rfl gD (by intro y hy; simp at hy; omega), fun h => g4 (by simpa using h), fun h => g5 (by simpa using h), fun h => g7 (by simpa using h), fun h => absurd h (by simp [hl])⟩
    refine below_succ ?_ ?_
    · intro f b u hf hd hcl hI
      obtain ⟨x2, x4, x15, x16, x17, x18, x19, rfl, gD, g0, g1, g2, g3, g4, g5, g7, gF⟩ := hI
      have hl : f 6 = false := by
        cases h15 : f 6 with
        | false => rfl
        | true => exact absurd (hcl 4 (by decide) (hcl 5 (by decide) (hcl 6 (by decide) h15 5 (by decide)) 4 (by decide)) 2 (by decide)) (by rw [hf]; decide)
      obtain ⟨gD, gS⟩ := gD hl
      refine wpOp_step rfl (fun K hK => ?_)
      go_simp
      refine hK _ _ ?_
      refine ⟨_, _, _, _, _, _, _, rfl, fun _ => ⟨gD, gS⟩, fun h => g0 (by simpa using h), fun h => g1 (by simpa using h), fun _ => rfl, fun h e => (g3 (by simpa using h) hl), fun h => g4 (by simpa using h), fun h => g5 (by simpa using h), fun h => g7 (by simpa using h), fun h => absurd h (by simp [hl])⟩
    refine below_succ ?_ ?_
    · intro f b u hf hd hcl hI
      obtain ⟨x2, x4, x15, x16, x17, x18, x19, rfl, gD, g0, g1, g2, g3, g4, g5, g7, gF⟩ := hI
      have hl : f 6 = false := by
        cases h15 : f 6 with
        | false => rfl
        | true => exact absurd (hcl 6 (by decide) h15 1 (by decide)) (by rw [hf]; decide)
      obtain ⟨gD, gS⟩ := gD hl
      have z0 := (gS.ce Y 0 hpY hYY).trans y0
      have z1 := (gS.ce Y 1 hpY hYY).trans y1
      have z2 := (gS.ce Y 2 hpY hYY).trans y2
      have z3 := (gS.ce Y 3 hpY hYY).trans y3
      have z4 := (gS.ce Y 4 hpY hYY).trans y4
      refine wpOp_step rfl (fun K hK => ?_)
      go_simp
      refine hK _ _ ?_
      refine ⟨_, _, _, _, _, _, _, rfl, fun _ => ⟨gD, gS⟩, fun h => g0 (by simpa using h), fun _ => rfl, fun h => g2 (by simpa using h), fun h e => (g3 (by simpa using h) hl), fun h => g4 (by simpa using h), fun h => g5 (by simpa using h), fun h => g7 (by simpa using h), fun h => absurd h (by simp [hl])⟩
    refine below_succ ?_ ?_
    · intro f b u hf hd hcl hI
      obtain ⟨x2, x4, x15, x16, x17, x18, x19, rfl, gD, g0, g1, g2, g3, g4, g5, g7, gF⟩ := hI
      have hl : f 6 = false := by
        cases h15 : f 6 with
        | false => rfl
        | true => exact absurd (hcl 6 (by decide) h15 0 (by decide)) (by rw [hf]; decide)
      obtain ⟨gD, gS⟩ := gD hl
      refine wpOp_step rfl (fun K hK => ?_)
      go_simp
      refine hK _ _ ?_
      refine ⟨_, _, _, _, _, _, _, rfl, fun _ => ⟨gD, gS⟩, fun _ => rfl, fun h => g1 (by simpa using h), fun h => g2 (by simpa using h), fun h e => (g3 (by simpa using h) hl), fun h => g4 (by simpa using h), fun h => g5 (by simpa using h), fun h => g7 (by simpa using h), fun h => absurd h (by simp [hl])⟩
    exact below_zero
  · intro f b u hf hI
    obtain ⟨x2, x4, x15, x16, x17, x18, x19, rfl, gD, g0, g1, g2, g3, g4, g5, g7, gF⟩ := hI
    have HF := gF (hf 6 (by decide))
    obtain ⟨HF, HO⟩ := HF
    have g5b := g5 (hf 5 (by decide))
    subst g5b
    obtain ⟨g, rfl, gg0, gg1⟩ := g7 (hf 7 (by decide))
    clear gD gF hf g0 g1 g2 g3 g4 g5 g7 y0 y1 y2 y3 y4 r0 r1 r2 r3 r4 rf0 rf1 rf2 rf3 rf4
    have HB2 := Lib.hid HF.be
    have HO2 := Lib.hid (HO.mono (base' := B) (by omega))
    obtain ⟨u0, u1, u2, u3, u4, _⟩ := HF
    clear HO
    go_wp2
    refine bodyPost_ret (v := .tuple #[v, .agg #[.string (⟨nm, hr, pl, rs, dn⟩ : Used).name, .int .i64 (⟨nm, hr, pl, rs, dn⟩ : Used).hours, .int .i64 (⟨nm, hr, pl, rs, dn⟩ : Used).play, .int .i64 (⟨nm, hr, pl, rs, dn⟩ : Used).rust, .int .i64 (⟨nm, hr, pl, rs, dn⟩ : Used).dents], .int .i64 g]) (by simp [results, Try.results62, go_sem, u0, u1, u2, u3, u4]) rfl ⟨v, R, ⟨nm, hr, pl, rs, dn⟩, g, rfl, by rw [HBs.out]; exact HO2.out, hl, HXO.out, ⟨gg0, gg1⟩, by rw [HBs.out]; exact HB2.out⟩
end Go.Proofs.Ytncggcbpbejmcaa
