/- Contracts of FindPart, DoJoin, likeTexts and likeBins as the law needs them (chapters 16, 24). No statement of the seat is proved here. -/
import Derived.Test.YtblaojjpclipaaaBoth
import Derived.Test.YtblaojjpclipaaaM1
namespace Go.Proofs.Ytblaojjpclipaaa
open Go.RowKit

set_option maxHeartbeats 4000000 in
set_option maxRecDepth 20000 in
theorem iFindPart_yes (pv : Value) (ps : List Part) (s : ByteArray) (k : Nat) (w : World) (hp : RdP w pv ps) (hq : ∀ x ∈ ps, x.code.size ≤ 1048576) (hA : areParts ps = true) (hk : firstAt (isCode s) ps = (k : Int)) :
    Calls Try.prog 17 #[pv, .string s] w fun e w' => e = .returned (.tuple #[.int .i64 (k : Int), .int .i64 0]) ∧ Below w.heap.size w w' := by
  have HP := Lib.hid hp
  have HQ := Lib.hid hq
  have HA := Lib.hid hA
  have HK := Lib.hid hk
  have k0 : (0 : Int) ≤ (k : Int) := by omega
  clear hp hq hA hk
  go_enter Try.func17, Try.ntmps17
  go_wp2_with fail
  refine (iAreParts_any pv ps w HP.out HQ.out).mono ?_
  rw [HA.out]
  rintro e w1 ⟨rfl, hb⟩
  have B1 := Lib.hid hb
  clear hb
  go_wp2_with fail
  refine (findPart_any pv ps s w1 (HP.out.below B1.out)).mono ?_
  rw [HK.out]
  rintro e w2 ⟨rfl, hb⟩
  have B2 := Lib.hid (Below.step B1.out hb)
  clear hb
  go_wp2
  go_ret2
  exact ⟨rfl, B2.out⟩
set_option maxHeartbeats 4000000 in
set_option maxRecDepth 20000 in
theorem l16Code_yes (pv : Value) (ps : List Part) (s : ByteArray) (k : Nat) (w : World) (hp : RdP w pv ps) (hq : ∀ x ∈ ps, x.code.size ≤ 1048576) (hA : areParts ps = true) (hk : firstAt (isCode s) ps = (k : Int)) :
    Calls Try.prog 50 #[pv, .string s] w fun e w' => e = .returned (.int .i64 0) ∧ Below w.heap.size w w' := by
  have HP := Lib.hid hp
  have HQ := Lib.hid hq
  have HA := Lib.hid hA
  have HK := Lib.hid hk
  have k0 : (0 : Int) ≤ (k : Int) := by omega
  clear hp hq hA hk
  go_enter Try.func50, Try.ntmps50
  go_wp2_with fail
  refine (sAreParts_any pv ps w HP.out HQ.out).mono ?_
  rw [HA.out]
  rintro e w1 ⟨rfl, hb⟩
  have B1 := Lib.hid hb
  clear hb
  go_wp2_with fail
  refine (l16Find_any pv ps s w1 (HP.out.below B1.out)).mono ?_
  rw [HK.out]
  rintro e w2 ⟨rfl, rfl⟩
  go_wp2
  go_ret
  exact ⟨rfl, B1.out⟩
set_option maxHeartbeats 4000000 in
set_option maxRecDepth 20000 in
theorem sFindPart_yes (pv : Value) (ps : List Part) (s : ByteArray) (k : Nat) (w : World) (hp : RdP w pv ps) (hq : ∀ x ∈ ps, x.code.size ≤ 1048576) (hA : areParts ps = true) (hk : firstAt (isCode s) ps = (k : Int)) :
    Calls Try.prog 18 #[pv, .string s] w fun e w' => e = .returned (.tuple #[.int .i64 (k : Int), .int .i64 0]) ∧ Below w.heap.size w w' := by
  have HP := Lib.hid hp
  have HQ := Lib.hid hq
  have HA := Lib.hid hA
  have HK := Lib.hid hk
  clear hp hq hA hk
  go_enter Try.func18, Try.ntmps18
  go_wp2_with fail
  refine (l16Code_yes pv ps s k w HP.out HQ.out HA.out HK.out).mono ?_
  rintro e w1 ⟨rfl, hb⟩
  have B1 := Lib.hid hb
  clear hb
  go_wp2_with fail
  refine (l16Find_any pv ps s w1 (HP.out.below B1.out)).mono ?_
  rw [HK.out]
  rintro e w2 ⟨rfl, rfl⟩
  go_wp2
  go_ret2
  exact ⟨rfl, B1.out⟩
set_option maxHeartbeats 8000000 in
set_option maxRecDepth 20000 in
theorem DoJoin_yes (x y : Part) (a b : Option Addr) (ca cb : Nat) (kd : Int) (w : World) (ha : Sl ePort w (.slice a x.ports.length ca) x.ports) (hb : Sl ePort w (.slice b y.ports.length cb) y.ports) (hx : isPartB x = true) (hy : isPartB y = true) (hqx : x.code.size ≤ 1048576) (hqy : y.code.size ≤ 1048576) (h0 : 0 ≤ kd) (h9 : kd ≤ 9) :
    Calls Try.prog 19 #[.agg #[.string x.code, .int .i64 x.slot, .slice a x.ports.length ca, .int .i64 x.price, .int .i64 x.grams], .agg #[.string y.code, .int .i64 y.slot, .slice b y.ports.length cb, .int .i64 y.price, .int .i64 y.grams], .int .i64 kd] w fun e w' => e = .returned (.tuple #[.bool (jOut kd y.ports x.ports), .int .i64 0]) ∧ Below w.heap.size w w' := by
  have HX := Lib.hid hx
  have HY := Lib.hid hy
  have HA := Lib.hid ha
  have HB := Lib.hid hb
  have HK : Hid (inR kd 0 9 = true) := Lib.hid (inR_iff.2 ⟨h0, h9⟩)
  have CX := Lib.hid (fun (W : World) (h : Below w.heap.size w W) => iIsPart_any x a ca W (HA.out.below h) (by omega))
  have CY := Lib.hid (fun (W : World) (h : Below w.heap.size w W) => iIsPart_any y b cb W (HB.out.below h) (by omega))
  have CJ := Lib.hid (fun (W : World) (h : Below w.heap.size w W) => doJoin_any x y a b ca cb kd W (HA.out.below h) (HB.out.below h))
  rw [HX.out] at CX
  rw [HY.out] at CY
  clear hx hy ha hb h0 h9
  obtain ⟨cd, sl, ps, pr, gr⟩ := x
  obtain ⟨cd2, sl2, qs, pr2, gr2⟩ := y
  simp only at *
  have hA : Below w.heap.size w (w.alloc (.cells #[.string cd, .int .i64 sl, .slice a ps.length ca, .int .i64 pr, .int .i64 gr] 52)) := (Below.refl _ _).alloc (Nat.le_refl _) _
  have HB0 := Lib.hid (hA.alloc hA.size (.cells #[.string cd2, .int .i64 sl2, .slice b qs.length cb, .int .i64 pr2, .int .i64 gr2] 52))
  have hx0 : ∀ j, ((w.alloc (.cells #[.string cd, .int .i64 sl, .slice a ps.length ca, .int .i64 pr, .int .i64 gr] 52)).alloc (.cells #[.string cd2, .int .i64 sl2, .slice b qs.length cb, .int .i64 pr2, .int .i64 gr2] 52)).cell? ⟨w.heap.size, j, none⟩ = #[.string cd, .int .i64 sl, .slice a ps.length ca, .int .i64 pr, .int .i64 gr][j]? := fun j => (World.cell?_alloc_lt _ _ _ (by simp)).trans (box_new _ _ _ j)
  have hy0 : ∀ j, ((w.alloc (.cells #[.string cd, .int .i64 sl, .slice a ps.length ca, .int .i64 pr, .int .i64 gr] 52)).alloc (.cells #[.string cd2, .int .i64 sl2, .slice b qs.length cb, .int .i64 pr2, .int .i64 gr2] 52)).cell? ⟨w.heap.size + 1, j, none⟩ = #[.string cd2, .int .i64 sl2, .slice b qs.length cb, .int .i64 pr2, .int .i64 gr2][j]? := fun j => by
    have := box_new (w.alloc (.cells #[.string cd, .int .i64 sl, .slice a ps.length ca, .int .i64 pr, .int .i64 gr] 52)) #[.string cd2, .int .i64 sl2, .slice b qs.length cb, .int .i64 pr2, .int .i64 gr2] 52 j
    rw [World.size_alloc] at this
    exact this
  have hsz : ((w.alloc (.cells #[.string cd, .int .i64 sl, .slice a ps.length ca, .int .i64 pr, .int .i64 gr] 52)).alloc (.cells #[.string cd2, .int .i64 sl2, .slice b qs.length cb, .int .i64 pr2, .int .i64 gr2] 52)).heap.size = w.heap.size + 2 := by simp
  have KX : Hid (∀ W, Below ((w.alloc (.cells #[.string cd, .int .i64 sl, .slice a ps.length ca, .int .i64 pr, .int .i64 gr] 52)).alloc (.cells #[.string cd2, .int .i64 sl2, .slice b qs.length cb, .int .i64 pr2, .int .i64 gr2] 52)).heap.size ((w.alloc (.cells #[.string cd, .int .i64 sl, .slice a ps.length ca, .int .i64 pr, .int .i64 gr] 52)).alloc (.cells #[.string cd2, .int .i64 sl2, .slice b qs.length cb, .int .i64 pr2, .int .i64 gr2] 52)) W → (W.cell? ⟨w.heap.size, 0, none⟩ = some (.string cd) ∧ W.cell? ⟨w.heap.size, 1, none⟩ = some (.int .i64 sl) ∧ W.cell? ⟨w.heap.size, 2, none⟩ = some (.slice a ps.length ca) ∧ W.cell? ⟨w.heap.size, 3, none⟩ = some (.int .i64 pr) ∧ W.cell? ⟨w.heap.size, 4, none⟩ = some (.int .i64 gr)) ∧ (W.cell? ⟨w.heap.size + 1, 0, none⟩ = some (.string cd2) ∧ W.cell? ⟨w.heap.size + 1, 1, none⟩ = some (.int .i64 sl2) ∧ W.cell? ⟨w.heap.size + 1, 2, none⟩ = some (.slice b qs.length cb) ∧ W.cell? ⟨w.heap.size + 1, 3, none⟩ = some (.int .i64 pr2) ∧ W.cell? ⟨w.heap.size + 1, 4, none⟩ = some (.int .i64 gr2))) := Lib.hid (fun W h => ⟨⟨(h.cell (p := ⟨w.heap.size, 0, none⟩) (by simp only [World.size_alloc]; omega)).trans ((hx0 0).trans rfl), (h.cell (p := ⟨w.heap.size, 1, none⟩) (by simp only [World.size_alloc]; omega)).trans ((hx0 1).trans rfl), (h.cell (p := ⟨w.heap.size, 2, none⟩) (by simp only [World.size_alloc]; omega)).trans ((hx0 2).trans rfl), (h.cell (p := ⟨w.heap.size, 3, none⟩) (by simp only [World.size_alloc]; omega)).trans ((hx0 3).trans rfl), (h.cell (p := ⟨w.heap.size, 4, none⟩) (by simp only [World.size_alloc]; omega)).trans ((hx0 4).trans rfl)⟩, (h.cell (p := ⟨w.heap.size + 1, 0, none⟩) (by simp only [World.size_alloc]; omega)).trans ((hy0 0).trans rfl), (h.cell (p := ⟨w.heap.size + 1, 1, none⟩) (by simp only [World.size_alloc]; omega)).trans ((hy0 1).trans rfl), (h.cell (p := ⟨w.heap.size + 1, 2, none⟩) (by simp only [World.size_alloc]; omega)).trans ((hy0 2).trans rfl), (h.cell (p := ⟨w.heap.size + 1, 3, none⟩) (by simp only [World.size_alloc]; omega)).trans ((hy0 3).trans rfl), (h.cell (p := ⟨w.heap.size + 1, 4, none⟩) (by simp only [World.size_alloc]; omega)).trans ((hy0 4).trans rfl)⟩)
  obtain ⟨⟨x0, x1, x2, x3, x4⟩, y0, y1, y2, y3, y4⟩ := KX.out _ (Below.refl _ _)
  clear hA hx0 hy0
  go_enter Try.func19, Try.ntmps19
  go_wp2_with fail
  generalize (w.alloc (.cells #[.string cd, .int .i64 sl, .slice a ps.length ca, .int .i64 pr, .int .i64 gr] 52)).alloc (.cells #[.string cd2, .int .i64 sl2, .slice b qs.length cb, .int .i64 pr2, .int .i64 gr2] 52) = w1 at *
  clear x0 x1 x2 x3 x4 y0 y1 y2 y3 y4
  have FIN : Hid (∀ W, Below w1.heap.size w1 W → Below w.heap.size w W) := Lib.hid (fun W h => HB0.out.trans (h.mono (by omega)))
  generalize w.heap.size + 1 = X2 at *
  refine (CX.out w1 HB0.out).mono ?_
  rintro e w2 ⟨rfl, hb2⟩
  obtain ⟨⟨x0, x1, x2, x3, x4⟩, y0, y1, y2, y3, y4⟩ := KX.out _ hb2
  have B2 := Lib.hid hb2
  clear hb2
  go_wp2_with fail
  clear x0 x1 x2 x3 x4 y0 y1 y2 y3 y4
  refine (CY.out w2 (FIN.out _ B2.out)).mono ?_
  rintro e w3 ⟨rfl, hb3⟩
  have B3 := Lib.hid (Below.step B2.out hb3)
  obtain ⟨⟨x0, x1, x2, x3, x4⟩, y0, y1, y2, y3, y4⟩ := KX.out _ B3.out
  clear hb3
  go_wp2_with fail
  refine (within_eq HK.out _).mono ?_
  rintro e w4 ⟨rfl, rfl⟩
  go_wp2_with fail
  clear x0 x1 x2 x3 x4 y0 y1 y2 y3 y4
  refine (CJ.out _ (FIN.out _ B3.out)).mono ?_
  rintro e w5 ⟨rfl, hb5⟩
  have B5 := Lib.hid (Below.step (FIN.out _ B3.out) hb5)
  clear hb5
  go_wp2
  go_ret2
  exact ⟨rfl, B5.out⟩
set_option maxHeartbeats 2000000 in
set_option maxRecDepth 10000 in
theorem likeTexts_same (v u : Value) (xs : List ByteArray) (w : World) (hv : Sl eS w v xs) (hu : Sl eS w u xs) :
    Calls Try.prog 15 #[v, u] w fun e w' => e = .returned (.bool true) ∧ Below w.heap.size w w' := by
  obtain ⟨A, cap, rfl, _, hm, hc⟩ := Strs.shape hv
  obtain ⟨A2, cap2, rfl, _, _, hc2⟩ := Strs.shape hu
  clear hv hu
  go_enter Try.func15, Try.ntmps15
  go_wp2
  go_loopg [5] xs.length (fun gi i wr => ∃ k : Nat, k ≤ xs.length ∧ gi = xs.length - k ∧ i = .int .i64 k ∧ Hid (Below w.heap.size w wr) ∧ w.heap.size ≤ wr.heap.size)
  case atStart => exact ⟨0, Nat.zero_le _, rfl, rfl, Lib.hid (Below.refl _ _), Nat.le_refl _⟩
  case round =>
    obtain ⟨k, hk, rfl, rfl, HB, hs⟩ := hrel
    by_cases hlt : k < xs.length
    · obtain ⟨b, off, rfl, hbl, hcell⟩ := hc (by omega)
      obtain ⟨b2, off2, rfl, hbl2, hcell2⟩ := hc2 (by omega)
      have hb := HB.out
      have c0 : wr.cell? ⟨b, off + k, none⟩ = some (.string xs[k]) := (hb.cell (p := ⟨b, off + k, none⟩) hbl).trans (hcell k hlt)
      have d0 : wr.cell? ⟨b2, off2 + k, none⟩ = some (.string xs[k]) := (hb.cell (p := ⟨b2, off2 + k, none⟩) hbl2).trans (hcell2 k hlt)
      clear hc hcell hc2 hcell2 hb
      generalize xs[k] = x at *
      go_wp2
      go_quiet (fail)
      go_wp2
      go_roundg (xs.length - (k + 1))
      case measure => omega
      case rel => exact ⟨k + 1, by omega, rfl, by go_num, Lib.hid (below_drewN' HB.out _), hs⟩
    · go_wp2
      go_ret
      exact ⟨rfl, HB.out⟩
set_option maxHeartbeats 2000000 in
set_option maxRecDepth 10000 in
theorem likeBins_same (v u : Value) (xs : List Bin) (w : World) (hv : Sl eBin w v xs) (hu : Sl eBin w u xs) :
    Calls Try.prog 16 #[v, u] w fun e w' => e = .returned (.bool true) ∧ Below w.heap.size w w' := by
  obtain ⟨A, cap, rfl, _, hm, hc⟩ := hv.shape
  obtain ⟨A2, cap2, rfl, _, _, hc2⟩ := hu.shape
  clear hv hu
  go_enter Try.func16, Try.ntmps16
  go_wp2
  go_loopg [5] xs.length (fun gi i wr => ∃ k : Nat, k ≤ xs.length ∧ gi = xs.length - k ∧ i = .int .i64 k ∧ Hid (Below w.heap.size w wr) ∧ w.heap.size ≤ wr.heap.size)
  case atStart => exact ⟨0, Nat.zero_le _, rfl, rfl, Lib.hid (Below.refl _ _), Nat.le_refl _⟩
  case round =>
    obtain ⟨k, hk, rfl, rfl, HB, hs⟩ := hrel
    by_cases hlt : k < xs.length
    · obtain ⟨b, off, rfl, hbl, hcell⟩ := hc (by omega)
      obtain ⟨b2, off2, rfl, hbl2, hcell2⟩ := hc2 (by omega)
      have hb := HB.out
      have c0 : wr.cell? ⟨b, off + k * 5, none⟩ = some (.string xs[k].code) := (hb.cell (p := ⟨b, off + k * 5, none⟩) hbl).trans (by simpa [eBin, Nat.add_assoc] using hcell k hlt 0 _ (by decide) rfl)
      have c1 : wr.cell? ⟨b, off + k * 5 + 1, none⟩ = some (.int .i64 xs[k].amount) := (hb.cell (p := ⟨b, off + k * 5 + 1, none⟩) hbl).trans (by simpa [eBin, Nat.add_assoc] using hcell k hlt 1 _ (by decide) rfl)
      have c2 : wr.cell? ⟨b, off + k * 5 + 2, none⟩ = some (.int .i64 xs[k].reserved) := (hb.cell (p := ⟨b, off + k * 5 + 2, none⟩) hbl).trans (by simpa [eBin, Nat.add_assoc] using hcell k hlt 2 _ (by decide) rfl)
      have c3 : wr.cell? ⟨b, off + k * 5 + 3, none⟩ = some (.int .i64 xs[k].point) := (hb.cell (p := ⟨b, off + k * 5 + 3, none⟩) hbl).trans (by simpa [eBin, Nat.add_assoc] using hcell k hlt 3 _ (by decide) rfl)
      have c4 : wr.cell? ⟨b, off + k * 5 + 4, none⟩ = some (.int .i64 xs[k].lot) := (hb.cell (p := ⟨b, off + k * 5 + 4, none⟩) hbl).trans (by simpa [eBin, Nat.add_assoc] using hcell k hlt 4 _ (by decide) rfl)
      have d0 : wr.cell? ⟨b2, off2 + k * 5, none⟩ = some (.string xs[k].code) := (hb.cell (p := ⟨b2, off2 + k * 5, none⟩) hbl2).trans (by simpa [eBin, Nat.add_assoc] using hcell2 k hlt 0 _ (by decide) rfl)
      have d1 : wr.cell? ⟨b2, off2 + k * 5 + 1, none⟩ = some (.int .i64 xs[k].amount) := (hb.cell (p := ⟨b2, off2 + k * 5 + 1, none⟩) hbl2).trans (by simpa [eBin, Nat.add_assoc] using hcell2 k hlt 1 _ (by decide) rfl)
      have d2 : wr.cell? ⟨b2, off2 + k * 5 + 2, none⟩ = some (.int .i64 xs[k].reserved) := (hb.cell (p := ⟨b2, off2 + k * 5 + 2, none⟩) hbl2).trans (by simpa [eBin, Nat.add_assoc] using hcell2 k hlt 2 _ (by decide) rfl)
      have d3 : wr.cell? ⟨b2, off2 + k * 5 + 3, none⟩ = some (.int .i64 xs[k].point) := (hb.cell (p := ⟨b2, off2 + k * 5 + 3, none⟩) hbl2).trans (by simpa [eBin, Nat.add_assoc] using hcell2 k hlt 3 _ (by decide) rfl)
      have d4 : wr.cell? ⟨b2, off2 + k * 5 + 4, none⟩ = some (.int .i64 xs[k].lot) := (hb.cell (p := ⟨b2, off2 + k * 5 + 4, none⟩) hbl2).trans (by simpa [eBin, Nat.add_assoc] using hcell2 k hlt 4 _ (by decide) rfl)
      clear hc hcell hc2 hcell2 hb
      generalize xs[k] = x at *
      obtain ⟨cd, am, re, po, lo⟩ := x
      simp only at *
      go_wp2
      go_quiet (fail)
      go_wp2
      go_roundg (xs.length - (k + 1))
      case measure => omega
      case rel => exact ⟨k + 1, by omega, rfl, by go_num, Lib.hid (below_drewN' HB.out _), hs⟩
    · go_wp2
      go_ret
      exact ⟨rfl, HB.out⟩
end Go.Proofs.Ytblaojjpclipaaa
