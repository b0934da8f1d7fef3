/- What the reference's draw of a part hands out (chapter 16). No statement of the seat is proved here. -/
import Derived.Test.YtblaojjpclipaaaDrawStockL
import Derived.Test.YtblaojjpclipaaaRun
import Derived.Deep.RegionLaw
namespace Go.Proofs.Ytblaojjpclipaaa
open Go.RowKit

abbrev PBx (w : World) (base B : Nat) (c : PC) : Prop := Own eP w base 52 (.slice (some ⟨B, 0, none⟩) 1 1) [c]
theorem PBx.cell {w : World} {base B : Nat} {c : PC} (h : PBx w base B c) (j : Nat) (hj : j < 5) : w.cell? ⟨B, j, none⟩ = (eP.f c)[j]? ∧ w.frozen? ⟨B, j, none⟩ = false := by
  have h1 := Own.cellsAt h 0 (by simp) j hj
  rw [show 0 * eP.sz + j = j by omega] at h1
  exact ⟨h1, World.ownsRow.frozenAt h j⟩
theorem PBx.new {w : World} {base : Nat} (c : PC) (cells : Array Value) (hb : base ≤ w.heap.size) (hc : cells.toList = eP.f c) : PBx (w.alloc (.cells cells 52)) base w.heap.size c := by
  have h := World.ownsRow_lit (base := base) (size := 5) (e := 52) w cells 1 hb (by unfold maxLen; omega) (by rw [← Array.length_toList, hc]; rfl)
  unfold PBx Own
  rw [eP.one_, ← hc]
  exact h
set_option maxHeartbeats 16000000 in
set_option maxRecDepth 20000 in
theorem l16Good_dr (w0 : World) (p : Nat) (w : World) (cd : ByteArray) (hD : Dr w0 p w) :
    Calls Try.prog 82 #[.pointer (some ⟨p, 0, none⟩), .string cd] w fun e w' => ∃ (sl pr gr : Int) (ports : List Port) (a : Option Addr) (cap : Nat), e = .returned (.agg #[.string cd, .int .i64 sl, .slice a ports.length cap, .int .i64 pr, .int .i64 gr]) ∧ Own ePort w' w.heap.size 105 (.slice a ports.length cap) ports ∧ ports.length ≤ 3 ∧ Dr w0 p w' ∧ w.grownBy w' (some p) := by
  have hpw : p < w.heap.size := hD.1.lt
  have HD0 := Lib.hid hD
  have DA : Hid (Dr w p (w.alloc (.cells #[.string ⟨#[]⟩, .int .i64 0, .slice none 0 0, .int .i64 0, .int .i64 0] 52))) := Lib.hid ((Dr.refl hD.1).alloc _)
  have XA : Hid (PBx (w.alloc (.cells #[.string ⟨#[]⟩, .int .i64 0, .slice none 0 0, .int .i64 0, .int .i64 0] 52)) w.heap.size w.heap.size ⟨⟨#[]⟩, 0, none, 0, 0, 0, 0⟩) := Lib.hid (PBx.new _ _ (Nat.le_refl _) rfl)
  have hszA : (w.alloc (.cells #[.string ⟨#[]⟩, .int .i64 0, .slice none 0 0, .int .i64 0, .int .i64 0] 52)).heap.size = w.heap.size + 1 := by simp
  clear hD
  go_enter Try.func82, Try.ntmps82
  go_wp2_with fail
  generalize w.alloc (.cells #[.string ⟨#[]⟩, .int .i64 0, .slice none 0 0, .int .i64 0, .int .i64 0] 52) = wA at *
  obtain ⟨B, hB⟩ : ∃ B, B = w.heap.size := ⟨_, rfl⟩
  rw [show (⟨w.heap.size, 0, none⟩ : Addr) = ⟨B, 0, none⟩ by rw [hB]]
  have XA2 : Hid (PBx wA w.heap.size B ⟨⟨#[]⟩, 0, none, 0, 0, 0, 0⟩) := by rw [hB]; exact XA
  have HB := Lib.hid hB
  clear XA hB
  refine (next_dr 3 DA.out (by omega)).mono ?_
  rintro e w1 ⟨sl, rfl, s0, s1, hd, hg⟩
  have D1 := Lib.hid (hd.alloc (.cells #[] 105))
  have X1 := Lib.hid ((XA2.out.dr hg hpw).alloc (.cells #[] 105))
  have hsz1 : w.heap.size + 1 ≤ w1.heap.size := by have := hg.size; omega
  have P1 : Hid (Own ePort (w1.alloc (.cells #[] 105)) w.heap.size 105 (.slice (some ⟨w1.heap.size, 0, none⟩) 0 0) []) := Lib.hid (Own.empty ePort w1 _ _ (by omega))
  clear hd hg DA XA2 hszA
  go_wp2_with fail
  generalize w1.alloc (.cells #[] 105) = wP at *
  obtain ⟨P0, hP0⟩ : ∃ P0, P0 = w1.heap.size := ⟨_, rfl⟩
  rw [← hP0] at P1 ⊢
  clear hP0 hsz1
  refine (next_dr 60 D1.out (by omega)).mono ?_
  rintro e w2 ⟨q, rfl, q0, q1, hd, hg⟩
  have hq1 : IntKind.i64.wrap (1 + q) = 1 + q := IntWalk.i64_in _ (by omega)
  have hq2 : IntKind.i64.wrap (100 * (1 + q)) = 100 * (1 + q) := IntWalk.i64_in _ (by omega)
  have D2 := Lib.hid hd
  have X2 := Lib.hid (X1.out.dr hg hpw)
  have P2 := Lib.hid (P1.out.dr hg hpw)
  clear hd hg D1 X1 P1
  go_wp2_with fail
  refine (next_dr 900 D2.out (by omega)).mono ?_
  rintro e w3 ⟨gr, rfl, g0, g1, hd, hg⟩
  have hg1 : IntKind.i64.wrap (50 + gr) = 50 + gr := IntWalk.i64_in _ (by omega)
  have hw3 : w.heap.size ≤ w3.heap.size := hd.size
  have XB := X2.out.dr hg hpw
  have hBY : B < w3.heap.size := (World.ownsRow.lt XB B rfl).2
  have D3 := Lib.hid (hd.alloc (.cells #[.string cd, .int .i64 sl, .slice (some ⟨P0, 0, none⟩) 0 0, .int .i64 (100 * (1 + q)), .int .i64 (50 + gr)] 52))
  have X3 := Lib.hid (XB.alloc (.cells #[.string cd, .int .i64 sl, .slice (some ⟨P0, 0, none⟩) 0 0, .int .i64 (100 * (1 + q)), .int .i64 (50 + gr)] 52))
  have P3 := Lib.hid ((P2.out.dr hg hpw).alloc (.cells #[.string cd, .int .i64 sl, .slice (some ⟨P0, 0, none⟩) 0 0, .int .i64 (100 * (1 + q)), .int .i64 (50 + gr)] 52))
  have Y3 : Hid (PBx (w3.alloc (.cells #[.string cd, .int .i64 sl, .slice (some ⟨P0, 0, none⟩) 0 0, .int .i64 (100 * (1 + q)), .int .i64 (50 + gr)] 52)) w.heap.size w3.heap.size ⟨cd, sl, some ⟨P0, 0, none⟩, 0, 0, 100 * (1 + q), 50 + gr⟩) := Lib.hid (PBx.new _ _ hw3 rfl)
  clear hd hg D2 X2 P2 XB
  go_wp2
  generalize w3.alloc (.cells #[.string cd, .int .i64 sl, .slice (some ⟨P0, 0, none⟩) 0 0, .int .i64 (100 * (1 + q)), .int .i64 (50 + gr)] 52) = w4 at *
  obtain ⟨Y, hY⟩ : ∃ Y, Y = w3.heap.size := ⟨_, rfl⟩
  rw [← hY] at Y3 hBY ⊢
  clear hY hw3 hg1 hq1 hq2
  generalize 100 * (1 + q) = pr at *
  generalize 50 + gr = gm at *
  clear q0 q1 g0 g1
  go_loopg [6] 3 (fun gk kk wr => ∃ (k : Nat) (ports : List Port) (a : Option Addr) (cap : Nat), k ≤ 3 ∧ gk = 3 - k ∧ kk = .int .i64 k ∧ ports.length ≤ k ∧ Hid (Dr w p wr) ∧ Hid (PBx wr w.heap.size B ⟨⟨#[]⟩, 0, none, 0, 0, 0, 0⟩) ∧ Hid (PBx wr w.heap.size Y ⟨cd, sl, a, ports.length, cap, pr, gm⟩) ∧ Hid (Own ePort wr w.heap.size 105 (.slice a ports.length cap) ports))
  case atStart => exact ⟨0, [], some ⟨P0, 0, none⟩, 0, by omega, rfl, rfl, Nat.le_refl _, D3, X3, Y3, P3⟩
  case round =>
    obtain ⟨k, ports, a, cap, hk, rfl, rfl, hpl, HD, HX, HYY, HP⟩ := hrel
    clear D3 X3 Y3 P3
    have y0 := (HYY.out.cell 0 (by omega)).1
    have y1 := (HYY.out.cell 1 (by omega)).1
    have y2 := (HYY.out.cell 2 (by omega)).1
    have y3 := (HYY.out.cell 3 (by omega)).1
    have y4 := (HYY.out.cell 4 (by omega)).1
    simp only [eP, List.getElem?_cons_zero, List.getElem?_cons_succ] at y0 y1 y2 y3 y4
    by_cases hk3 : k < 3
    rotate_left
    · obtain rfl : k = 3 := by omega
      have x0 := HX.out.cell 0 (by omega)
      have x1 := HX.out.cell 1 (by omega)
      have x2 := HX.out.cell 2 (by omega)
      have x3 := HX.out.cell 3 (by omega)
      have x4 := HX.out.cell 4 (by omega)
      simp only [eP, List.getElem?_cons_zero, List.getElem?_cons_succ] at x0 x1 x2 x3 x4
      obtain ⟨x0, g0⟩ := x0
      obtain ⟨x1, g1⟩ := x1
      obtain ⟨x2, g2⟩ := x2
      obtain ⟨x3, g3⟩ := x3
      obtain ⟨x4, g4⟩ := x4
      have hwB : w.heap.size ≤ B := by have := HB.out; omega
      have hneB := own_ne_row HX.out HP.out (by decide)
      have D6 := Lib.hid (((((HD.out.store (g := B) (j := 0) hwB (.string cd)).store (g := B) (j := 1) hwB (.int .i64 sl)).store (g := B) (j := 2) hwB (.slice a ports.length cap)).store (g := B) (j := 3) hwB (.int .i64 pr)).store (g := B) (j := 4) hwB (.int .i64 gm))
      have PF := Lib.hid (Own.kept (Own.kept (Own.kept (Own.kept (Own.kept HP.out (grown_set wr B 0 (.string cd)) hneB) (grown_set _ B 1 (.int .i64 sl)) hneB) (grown_set _ B 2 (.slice a ports.length cap)) hneB) (grown_set _ B 3 (.int .i64 pr)) hneB) (grown_set _ B 4 (.int .i64 gm)) hneB)
      obtain ⟨u0, u1, u2, u3, u4⟩ := cells5 (v0 := .string cd) (v1 := .int .i64 sl) (v2 := .slice a ports.length cap) (v3 := .int .i64 pr) (v4 := .int .i64 gm) x0 x1 x2 x3 x4
      clear HD HX HYY HP hneB
      go_wp2
      refine bodyPost_ret (v := .agg #[.string cd, .int .i64 sl, .slice a ports.length cap, .int .i64 pr, .int .i64 gm]) (by simp [results, Try.results82, go_sem, u0, u1, u2, u3, u4]) rfl ⟨sl, pr, gm, ports, a, cap, rfl, PF.out, by omega, HD0.out.trans D6.out, D6.out.2.1⟩
    have hki : (k : Int) < 3 := by omega
    have hk0 : (0 : Int) ≤ (k : Int) := by omega
    have hkw : IntKind.i64.wrap ((k : Int) + 1) = (k : Int) + 1 := IntWalk.i64_in _ (by omega)
    go_wp2_with fail
    refine (next_dr 4 HD.out (by omega)).mono ?_
    rintro e w5 ⟨b, rfl, b0, b1, hd, hg⟩
    have D5 := Lib.hid hd
    have X5 := Lib.hid (HX.out.dr hg hpw)
    have Y5 := Lib.hid (HYY.out.dr hg hpw)
    have P5 := Lib.hid (HP.out.dr hg hpw)
    clear hd hg HD HX HYY HP y0 y1 y2 y3 y4
    by_cases hb : 0 < b
    rotate_left
    · obtain rfl : b = 0 := by omega
      go_wp2
      go_roundg (3 - (k + 1))
      case measure => omega
      case rel => exact ⟨k + 1, ports, a, cap, by omega, rfl, by go_num, by omega, D5, X5, Y5, P5⟩
    go_wp2
    have hpk := pick_dr [286, 318] #[.int .i64 286, .int .i64 318] 2 rfl rfl (by simp) (by simp) D5.out.drew
    rw [World.alloc_drew, show w5.drew.heap.size = w5.heap.size from rfl] at hpk
    have PK := Lib.hid hpk
    clear hpk
    have YC : Hid (∀ W, PBx W w.heap.size Y ⟨cd, sl, a, ports.length, cap, pr, gm⟩ → W.cell? ⟨Y, 2, none⟩ = some (.slice a ports.length cap) ∧ W.frozen? ⟨Y, 2, none⟩ = false) := Lib.hid (fun W h => h.cell 2 (by omega))
    have z0 := (YC.out _ Y5.out.drew).1
    have z1 : (w5.alloc (.cells #[.int .i64 286, .int .i64 318] 2)).drew.cell? ⟨Y, 2, none⟩ = some (.slice a ports.length cap) := (YC.out _ (Own.alloc Y5.out (.cells #[.int .i64 286, .int .i64 318] 2)).drew).1
    have ONE : Hid (∀ (W : World) (s : Port), Sl ePort (W.alloc (.cells #[.int .i64 s.kind, .int .i64 s.size, .bool s.plug] 105)) (.slice (some ⟨W.heap.size, 0, none⟩) 1 1) [s]) := Lib.hid (fun W s => Sl.one_new ePort W s _ _ rfl)
    have hp9 : ports.length + 1 ≤ 1000000000 := by omega
    go_region_law (first
      | (go_simp; go_at_call 24; refine PK.out.mono ?_; rintro e w6 ⟨x, rfl, hx, hd6, hg6⟩; have q6 := Own.dr Y5.out.drew hg6 hpw; have z2 := (YC.out _ q6).1)
      | (go_simp; go_at_call 23; refine (next_dr 2 hd6 (by omega)).mono ?_; rintro e w7 ⟨r, rfl, r0, r1, hd7, hg7⟩; have q7 := Own.dr q6 hg7 hpw; have z3 := (YC.out _ q7).1; have p7 := Own.dr (Own.dr P5.out.drew hg6 hpw) hg7 hpw; have z4 := (YC.out _ (Own.alloc q7 (.cells #[.int .i64 (k : Int), .int .i64 x, .bool (r == 0)] 105))).1)
      | (refine step_app_all ePort rfl _ _ 50 (by rfl) 105 (.agg #[.int .i64 0, .int .i64 0, .bool false]) 24 Try.underlying50 info_Port rfl (by decide) (by decide) w.heap.size _ ports (by rfl) (Own.alloc p7 _) _ [⟨(k : Int), x, r == 0⟩] (by rfl) (ONE.out w7 ⟨(k : Int), x, r == 0⟩) hp9 (by have := hd7.size; simp; omega) ?_; intro v8 w8 hown8 hb8 hg8 hor8; obtain ⟨a8, c8, rfl⟩ := slice_ofR hown8; have q8 := Own.kept (Own.alloc q7 (.cells #[.int .i64 (k : Int), .int .i64 x, .bool (r == 0)] 105)) hg8 (own_ne_row p7 q7 (by decide)); obtain ⟨z5, z6⟩ := YC.out _ q8))
    all_goals
      have hL : (ports ++ [(⟨(k : Int), x, r == 0⟩ : Port)]).length = ports.length + 1 := by simp
      rw [hL] at hown8
      obtain ⟨s8, t8⟩ := Own.store1 q8 0 (by simp) 2 (by decide) (.slice a8 (ports.length + 1) c8) ⟨cd, sl, a8, ports.length + 1, c8, pr, gm⟩ rfl
      rw [show 0 * eP.sz + 2 = 2 by omega] at s8 t8
      have x7 := Own.dr (Own.dr X5.out.drew hg6 hpw) hg7 hpw
      have x8 := Own.kept (Own.alloc x7 (.cells #[.int .i64 (k : Int), .int .i64 x, .bool (r == 0)] 105)) hg8 (own_ne_row p7 x7 (by decide))
      have X9 : Hid (PBx (w8.setCell ⟨Y, 2, none⟩ (.slice a8 (ports.length + 1) c8)) w.heap.size B ⟨⟨#[]⟩, 0, none, 0, 0, 0, 0⟩) := Lib.hid (Own.kept x8 t8 (.inr (by simp [Value.ownBlock]; omega)))
      have P9 : Hid (Own ePort (w8.setCell ⟨Y, 2, none⟩ (.slice a8 (ports.length + 1) c8)) w.heap.size 105 (.slice a8 (ports ++ [(⟨(k : Int), x, r == 0⟩ : Port)]).length c8) (ports ++ [(⟨(k : Int), x, r == 0⟩ : Port)])) := Lib.hid (by rw [hL]; exact Own.kept hown8 t8 (own_ne_row q8 hown8 (by decide)))
      have Y9 : Hid (PBx (w8.setCell ⟨Y, 2, none⟩ (.slice a8 (ports.length + 1) c8)) w.heap.size Y ⟨cd, sl, a8, (ports ++ [(⟨(k : Int), x, r == 0⟩ : Port)]).length, c8, pr, gm⟩) := Lib.hid (by rw [hL]; exact s8)
      have hYw : w.heap.size ≤ Y := by have := HB.out; omega
      have D9 := Lib.hid (((hd7.alloc _).below hb8).store (g := Y) (j := 2) hYw (.slice a8 (ports.length + 1) c8))
      have HL := Lib.hid hL
      clear hL hown8 s8 t8 x7 x8 hg6 hg7 hg8 q6 q7 p7 q8 hd6 hd7 hb8 hor8 z0 z1 z2 z3 z4 z5 z6 ONE YC PK D5 X5 Y5 P5
      go_wp2
      go_roundg (3 - (k + 1))
      case measure => omega
      case rel => exact ⟨k + 1, _, a8, c8, by omega, rfl, by go_num, by rw [HL.out]; omega, D9, X9, Y9, P9⟩
end Go.Proofs.Ytblaojjpclipaaa
