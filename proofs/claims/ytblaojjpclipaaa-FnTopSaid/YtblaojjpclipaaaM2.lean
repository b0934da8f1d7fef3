/- Contracts of the draws that all others use. No statement of the seat is proved here. -/
import Derived.Test.YtblaojjpclipaaaM1
import Derived.Test.YtblaojjpclipaaaM0
import Derived.Deep.RegionHeld3
namespace Go.Proofs.Ytblaojjpclipaaa
open Go.RowKit

theorem grown_set (w : World) (p o : Nat) (u : Value) : w.grownBy (w.setCell ⟨p, o, none⟩ u) (some p) := by
  refine ⟨rfl, rfl, rfl, by simp [World.setCell], fun i hi hne => ?_⟩
  simp only [World.setCell, Array.getElem?_modify]
  split
  · rename_i h; subst h; exact absurd rfl hne
  · rfl
theorem grown_drewN {w w' : World} {row : Option Nat} (h : w.grownBy w' row) (n : Nat) : w.grownBy (w'.drewN n) row := ⟨h.os, h.tape, h.output, h.size, h.block⟩
theorem grown_tr {a b c : World} {row : Option Nat} (h : a.grownBy b row) (k : b.grownBy c row) : a.grownBy c row :=
  ⟨k.os.trans h.os, k.tape.trans h.tape, k.output.trans h.output, Nat.le_trans h.size k.size, fun i hi hne => (k.block i (Nat.lt_of_lt_of_le hi h.size) hne).trans (h.block i hi hne)⟩
/-- the code that the draws follow: bytes below block p -/
def Bytes (w : World) (A : Option Addr) (n p : Nat) : Prop := 0 < n → ∃ b off, A = some ⟨b, off, none⟩ ∧ b < p ∧ ∀ j, j < n → ∃ x : Nat, x ≤ 255 ∧ w.cell? ⟨b, off + j, none⟩ = some (.int .u8 x)
/-- block p holds a source of numbers -/
def Src (w : World) (p : Nat) : Prop := ∃ (A : Option Addr) (n cap at_ : Nat) (seed : Int), n ≤ 4096 ∧ n ≤ cap ∧ at_ ≤ n ∧ 0 ≤ seed ∧ seed < 2147483647 ∧ p < w.heap.size ∧
  w.cell? ⟨p, 0, none⟩ = some (.slice A n cap) ∧ w.cell? ⟨p, 1, none⟩ = some (.int .i64 at_) ∧ w.cell? ⟨p, 2, none⟩ = some (.int .i64 seed) ∧ (∀ j, w.frozen? ⟨p, j, none⟩ = false) ∧ Bytes w A n p
theorem Bytes.grown {w w' : World} {A : Option Addr} {n p : Nat} {row : Option Nat} (h : Bytes w A n p) (hp : p ≤ w.heap.size) (hg : w.grownBy w' row) (hr : ∀ k, row = some k → p ≤ k) : Bytes w' A n p := fun hn => by
  obtain ⟨b, off, e, hb, hx⟩ := h hn
  refine ⟨b, off, e, hb, fun j hj => ?_⟩
  obtain ⟨x, hx1, hx2⟩ := hx j hj
  exact ⟨x, hx1, (hg.cell_far ⟨b, off + j, none⟩ (by simp only []; omega) (fun e2 => by have := hr b e2.symm; omega)).trans hx2⟩
theorem Src.grown {w w' : World} {p : Nat} {row : Option Nat} (h : Src w p) (hg : w.grownBy w' row) (hr : ∀ k, row = some k → p < k) : Src w' p := by
  obtain ⟨A, n, cap, at_, seed, h1, h2, h3, h4, h5, h6, c0, c1, c2, hf, hb⟩ := h
  have hne : some p ≠ row := fun e => by have := hr p e.symm; omega
  exact ⟨A, n, cap, at_, seed, h1, h2, h3, h4, h5, Nat.lt_of_lt_of_le h6 hg.size, (hg.cell_far _ h6 hne).trans c0, (hg.cell_far _ h6 hne).trans c1, (hg.cell_far _ h6 hne).trans c2, fun j => (hg.frozen_far _ h6 hne).trans (hf j), hb.grown (Nat.le_of_lt h6) hg (fun k hk => Nat.le_of_lt (hr k hk))⟩
theorem Src.below {w w' : World} {p : Nat} (h : Src w p) (hb : Below w.heap.size w w') : Src w' p :=
  h.grown (row := none) ⟨hb.os, hb.tape, hb.output, hb.size, fun k hk _ => hb.block k hk⟩ (fun k hk => by cases hk)
theorem Src.alloc {w : World} {p : Nat} (h : Src w p) (o : Obj) : Src (w.alloc o) p := h.grown (World.grownBy_alloc w o none) (fun k hk => by cases hk)
theorem Src.drewN {w : World} {p : Nat} (h : Src w p) (n : Nat) : Src (w.drewN n) p := h
theorem Src.drew {w : World} {p : Nat} (h : Src w p) : Src w.drew p := h
theorem Src.lt {w : World} {p : Nat} (h : Src w p) : p < w.heap.size := by obtain ⟨_, _, _, _, _, _, _, _, _, _, h6, _⟩ := h; exact h6
set_option maxHeartbeats 4000000 in
theorem l01Next_all (p : Nat) (n : Int) (w : World) (hs : Src w p) (hn : n ≤ 9223372036854775807) :
    Calls Try.prog 23 #[.pointer (some ⟨p, 0, none⟩), .int .i64 n] w fun e w' => ∃ x, e = .returned (.int .i64 x) ∧ 0 ≤ x ∧ (x < n ∨ x = 0) ∧ Src w' p ∧ w.grownBy w' (some p) ∧ w'.heap.size = w.heap.size := by
  by_cases h1 : n ≤ 1
  · have HS := Lib.hid hs
    clear hs
    go_enter Try.func23, Try.ntmps23
    go_wp2
    go_ret
    exact ⟨0, rfl, Int.le_refl _, .inr rfl, HS.out, World.grownBy.refl _ _, rfl⟩
  obtain ⟨A, m, cap, at_, seed, m1, m2, m3, s0, s1, hp, c0, c1, c2, hf, hby⟩ := hs
  obtain ⟨s2, hs2⟩ : ∃ s2, (seed * 48271 + 29) % 2147483647 = s2 := ⟨_, rfl⟩
  have s20 : 0 ≤ s2 := by omega
  have s21 : s2 < 2147483647 := by omega
  have w1 : IntKind.i64.wrap (seed * 48271) = seed * 48271 := IntWalk.i64_in _ (by omega)
  have w2 : IntKind.i64.wrap (seed * 48271 + 29) = seed * 48271 + 29 := IntWalk.i64_in _ (by omega)
  have w3 : (seed * 48271 + 29).tmod 2147483647 = s2 := by rw [Int.tmod_eq_emod_of_nonneg (by omega)]; exact hs2
  obtain ⟨x0, hx0⟩ : ∃ x0, s2 / 31 = x0 := ⟨_, rfl⟩
  have x00 : 0 ≤ x0 := by omega
  have x01 : x0 ≤ 2147483647 := by omega
  have w4 : s2.tdiv 31 = x0 := by rw [Int.tdiv_eq_ediv_of_nonneg (by omega)]; exact hx0
  have w6 : IntKind.i64.wrap x0 = x0 := IntWalk.i64_in _ (by omega)
  have f1 := hf 1
  have f2 := hf 2
  have tz : (n == 0) = false := by simp; omega
  have hgA : w.grownBy (w.setCell ⟨p, 2, none⟩ (.int .i64 s2)) (some p) := grown_set _ _ _ _
  have a0 : (w.setCell ⟨p, 2, none⟩ (.int .i64 s2)).cell? ⟨p, 0, none⟩ = some (.slice A m cap) := (World.cell?_setCell_other _ _ _ _ (by simp)).trans c0
  have a1 : (w.setCell ⟨p, 2, none⟩ (.int .i64 s2)).cell? ⟨p, 1, none⟩ = some (.int .i64 at_) := (World.cell?_setCell_other _ _ _ _ (by simp)).trans c1
  have a2 : (w.setCell ⟨p, 2, none⟩ (.int .i64 s2)).cell? ⟨p, 2, none⟩ = some (.int .i64 s2) := World.cell?_setCell_same _ _ _ c2
  have af : ∀ j, (w.setCell ⟨p, 2, none⟩ (.int .i64 s2)).frozen? ⟨p, j, none⟩ = false := fun j => by simp [hf j]
  have HBY := Lib.hid (hby.grown (Nat.le_of_lt hp) hgA (fun k hk => by cases hk; exact Nat.le_refl _))
  have hpA : p < (w.setCell ⟨p, 2, none⟩ (.int .i64 s2)).heap.size := Nat.lt_of_lt_of_le hp hgA.size
  have HGA := Lib.hid hgA
  have HSZ : Hid ((w.setCell ⟨p, 2, none⟩ (.int .i64 s2)).heap.size = w.heap.size) := Lib.hid (by simp [World.setCell])
  have af1 := af 1
  have HF := Lib.hid af
  clear hby hgA af
  by_cases hlt : at_ < m
  · have hltI : (at_ : Int) < (m : Int) := by omega
    have hatI : (0 : Int) ≤ (at_ : Int) := by omega
    go_enter Try.func23, Try.ntmps23
    go_wp2
    clear c0 c1 c2 hf f1 f2 w1 w2 w3 hs2
    generalize w.setCell ⟨p, 2, none⟩ (.int .i64 s2) = wA at *
    obtain ⟨b, off, rfl, hbp, hx⟩ := HBY.out (by omega)
    obtain ⟨y, hy, cy⟩ := hx at_ hlt
    have w7 : IntKind.i64.wrap (x0 + y) = x0 + y := IntWalk.i64_in _ (by omega)
    have w8 : IntKind.i64.wrap ((at_ : Int) + 1) = (at_ : Int) + 1 := IntWalk.i64_in _ (by omega)
    have w9 : IntKind.i64.wrap ((at_ : Int) + 1 - 1) = at_ := by rw [show (at_ : Int) + 1 - 1 = at_ by omega]; exact IntWalk.i64_in _ (by omega)
    have b0 : (wA.setCell ⟨p, 1, none⟩ (.int .i64 (at_ + 1))).cell? ⟨p, 0, none⟩ = some (.slice (some ⟨b, off, none⟩) m cap) := (World.cell?_setCell_other _ _ _ _ (by simp)).trans a0
    have b1 : (wA.setCell ⟨p, 1, none⟩ (.int .i64 (at_ + 1))).cell? ⟨p, 1, none⟩ = some (.int .i64 (at_ + 1)) := World.cell?_setCell_same _ _ _ a1
    have b2 : (wA.setCell ⟨p, 1, none⟩ (.int .i64 (at_ + 1))).cell? ⟨p, 2, none⟩ = some (.int .i64 s2) := (World.cell?_setCell_other _ _ _ _ (by simp)).trans a2
    have by_ : (wA.setCell ⟨p, 1, none⟩ (.int .i64 (at_ + 1))).cell? ⟨b, off + at_, none⟩ = some (.int .u8 y) := (World.cell?_setCell_other _ _ _ _ (by simp; try omega)).trans cy
    have hgB : wA.grownBy (wA.setCell ⟨p, 1, none⟩ (.int .i64 (at_ + 1))) (some p) := grown_set _ _ _ _
    have HSRC : Hid (Src (wA.setCell ⟨p, 1, none⟩ (.int .i64 (at_ + 1))) p) := Lib.hid ⟨some ⟨b, off, none⟩, m, cap, at_ + 1, s2, m1, m2, hlt, s20, s21, Nat.lt_of_lt_of_le hpA hgB.size, b0, b1.trans (by simp), b2, fun j => by simp [HF.out j], HBY.out.grown (Nat.le_of_lt hpA) hgB (fun k hk => by cases hk; exact Nat.le_refl _)⟩
    have HGB := Lib.hid (grown_tr HGA.out hgB)
    have HSB : Hid ((wA.setCell ⟨p, 1, none⟩ (.int .i64 (at_ + 1))).heap.size = w.heap.size) := Lib.hid ((by simp [World.setCell] : (wA.setCell ⟨p, 1, none⟩ (.int .i64 (at_ + 1))).heap.size = wA.heap.size).trans HSZ.out)
    clear hgB hx
    by_cases h256 : n ≤ 256
    · by_cases hev : ((at_ : Int) + 1) % 2 = 0
      · have e1 : (((at_ : Int) + 1) % 2 == 0) = true := beq_iff_eq.2 hev
        have e2 : (((at_ : Int) + 1).tmod 2) = 0 := by rw [Int.tmod_eq_emod_of_nonneg (by omega)]; exact hev
        go_quiet (fail)
        go_wp2
        go_quiet (fail)
        go_wp2
        go_quiet (fail)
        go_wp2
        go_ret
        have r1 := Int.emod_nonneg (y : Int) (show n ≠ 0 by omega)
        have r2 := Int.emod_lt_of_pos (y : Int) (show 0 < n by omega)
        have r3 : ((y : Int).tmod n) = (y : Int) % n := Int.tmod_eq_emod_of_nonneg (by omega)
        exact ⟨(y : Int) % n, by first | rfl | rw [r3], r1, .inl r2, HSRC.out, ⟨HGB.out.os, HGB.out.tape, HGB.out.output, HGB.out.size, HGB.out.block⟩, HSB.out⟩
      · have e1 : (((at_ : Int) + 1) % 2 == 0) = false := beq_eq_false_iff_ne.2 hev
        go_quiet (fail)
        go_wp2
        go_quiet (fail)
        go_wp2
        go_ret
        have r1 := Int.emod_nonneg (x0 + y : Int) (show n ≠ 0 by omega)
        have r2 := Int.emod_lt_of_pos (x0 + y : Int) (show 0 < n by omega)
        have r3 : ((x0 + y : Int).tmod n) = (x0 + y : Int) % n := Int.tmod_eq_emod_of_nonneg (by omega)
        exact ⟨(x0 + y : Int) % n, by first | rfl | rw [r3], r1, .inl r2, HSRC.out, ⟨HGB.out.os, HGB.out.tape, HGB.out.output, HGB.out.size, HGB.out.block⟩, HSB.out⟩
    · go_quiet (fail)
      go_wp2
      go_quiet (fail)
      go_wp2
      go_ret
      have r1 := Int.emod_nonneg (x0 + y : Int) (show n ≠ 0 by omega)
      have r2 := Int.emod_lt_of_pos (x0 + y : Int) (show 0 < n by omega)
      have r3 : ((x0 + y : Int).tmod n) = (x0 + y : Int) % n := Int.tmod_eq_emod_of_nonneg (by omega)
      exact ⟨(x0 + y : Int) % n, by first | rfl | rw [r3], r1, .inl r2, HSRC.out, ⟨HGB.out.os, HGB.out.tape, HGB.out.output, HGB.out.size, HGB.out.block⟩, HSB.out⟩
  · have hltI : ¬ ((at_ : Int) < (m : Int)) := by omega
    have hdf : decide ((at_ : Int) < (m : Int)) = false := decide_eq_false hltI
    go_enter Try.func23, Try.ntmps23
    go_wp2
    clear c0 c1 c2 hf f1 f2 w1 w2 w3 hs2
    generalize w.setCell ⟨p, 2, none⟩ (.int .i64 s2) = wA at *
    have HSRC : Hid (Src wA p) := Lib.hid ⟨A, m, cap, at_, s2, m1, m2, m3, s20, s21, hpA, a0, a1, a2, HF.out, HBY.out⟩
    go_quiet (fail)
    go_wp2
    go_ret
    have r1 := Int.emod_nonneg x0 (show n ≠ 0 by omega)
    have r2 := Int.emod_lt_of_pos x0 (show 0 < n by omega)
    have r3 : x0.tmod n = x0 % n := Int.tmod_eq_emod_of_nonneg (by omega)
    exact ⟨x0 % n, by first | rfl | rw [r3], r1, .inl r2, HSRC.out, ⟨HGA.out.os, HGA.out.tape, HGA.out.output, HGA.out.size, HGA.out.block⟩, HSZ.out⟩
theorem l01Next_any (p : Nat) (n : Int) (w : World) (hs : Src w p) (hn : n ≤ 9223372036854775807) :
    Calls Try.prog 23 #[.pointer (some ⟨p, 0, none⟩), .int .i64 n] w fun e w' => ∃ x, e = .returned (.int .i64 x) ∧ 0 ≤ x ∧ (x < n ∨ x = 0) ∧ Src w' p ∧ w.grownBy w' (some p) :=
  (l01Next_all p n w hs hn).mono fun _ _ ⟨x, h1, h2, h3, h4, h5, _⟩ => ⟨x, h1, h2, h3, h4, h5⟩
set_option maxHeartbeats 1000000 in
theorem l01Pick_all (p : Nat) (v : Value) (xs : List Int) (w : World) (hs : Src w p) (hv : Ints w v xs) (hx : 0 < xs.length) (hb : ∀ b off n cap, v = .slice (some ⟨b, off, none⟩) n cap → b ≠ p) :
    Calls Try.prog 24 #[.pointer (some ⟨p, 0, none⟩), v] w fun e w' => ∃ x, e = .returned (.int .i64 x) ∧ x ∈ xs ∧ Src w' p ∧ w.grownBy w' (some p) ∧ w'.heap.size = w.heap.size := by
  obtain ⟨A, cap, rfl, _, hm, hc⟩ := Ints.shape hv
  go_enter Try.func24, Try.ntmps24
  go_wp2_with fail
  refine (l01Next_all p _ w hs (by omega)).mono ?_
  rintro e w1 ⟨x, rfl, x0, x1, hs1, hg, hsz⟩
  have HSZ := Lib.hid hsz
  obtain ⟨q, rfl⟩ := Int.eq_ofNat_of_zero_le x0
  have hq : q < xs.length := by omega
  obtain ⟨b, off, rfl, hbl, hcell⟩ := hc hx
  have hne := hb b off _ _ rfl
  have cx : w1.cell? ⟨b, off + q, none⟩ = some (.int .i64 xs[q]) := (hg.cell_far ⟨b, off + q, none⟩ hbl (fun e => hne (by cases e; rfl))).trans (hcell q hq)
  have HS := Lib.hid hs1
  have HG := Lib.hid hg
  have HM := Lib.hid (List.getElem_mem hq)
  clear hs1 hg hcell hc hs hv hb hsz
  go_wp2
  go_ret
  exact ⟨_, rfl, HM.out, HS.out, HG.out, HSZ.out⟩
theorem l01Pick_any (p : Nat) (v : Value) (xs : List Int) (w : World) (hs : Src w p) (hv : Ints w v xs) (hx : 0 < xs.length) (hb : ∀ b off n cap, v = .slice (some ⟨b, off, none⟩) n cap → b ≠ p) :
    Calls Try.prog 24 #[.pointer (some ⟨p, 0, none⟩), v] w fun e w' => ∃ x, e = .returned (.int .i64 x) ∧ x ∈ xs ∧ Src w' p ∧ w.grownBy w' (some p) :=
  (l01Pick_all p v xs w hs hv hx hb).mono fun _ _ ⟨x, h1, h2, h3, h4, _⟩ => ⟨x, h1, h2, h3, h4⟩
set_option maxHeartbeats 4000000 in
set_option maxRecDepth 10000 in
theorem l01From_any (A : Option Addr) (n cap : Nat) (w : World) (hn : n ≤ 4096) (hc : n ≤ cap) (hb : Bytes w A n w.heap.size) :
    Calls Try.prog 20 #[.slice A n cap] w fun e w' => ∃ p, e = .returned (.pointer (some ⟨p, 0, none⟩)) ∧ w.heap.size ≤ p ∧ Src w' p ∧ Below w.heap.size w w' := by
  have hbox : ∀ j, (w.alloc (.cells #[.slice A n cap, .int .i64 0, .int .i64 61043] 83)).cell? ⟨w.heap.size, j, none⟩ = #[Value.slice A n cap, .int .i64 0, .int .i64 61043][j]? := fun j => box_new _ _ _ j
  have k0 := (hbox 0).trans (show _ = some (Value.slice A n cap) from rfl)
  have k1 := (hbox 1).trans (show _ = some (Value.int .i64 0) from rfl)
  have k2 := (hbox 2).trans (show _ = some (Value.int .i64 61043) from rfl)
  have KF : Hid (∀ j, (w.alloc (.cells #[.slice A n cap, .int .i64 0, .int .i64 61043] 83)).frozen? ⟨w.heap.size, j, none⟩ = false) := Lib.hid (fun j => frozen_box _ _ _ _ (frozen_out _ _ (Nat.le_refl _)))
  have KB : Hid (Below w.heap.size w (w.alloc (.cells #[.slice A n cap, .int .i64 0, .int .i64 61043] 83))) := Lib.hid ((Below.refl _ _).alloc (Nat.le_refl _) _)
  have ks : w.heap.size < (w.alloc (.cells #[.slice A n cap, .int .i64 0, .int .i64 61043] 83)).heap.size := by simp
  have END : Hid (∀ (wr : World) (sd : Int), 0 ≤ sd → sd < 2147483647 → wr.cell? ⟨w.heap.size, 0, none⟩ = some (.slice A n cap) → wr.cell? ⟨w.heap.size, 1, none⟩ = some (.int .i64 0) → wr.cell? ⟨w.heap.size, 2, none⟩ = some (.int .i64 sd) → (∀ j, wr.frozen? ⟨w.heap.size, j, none⟩ = false) → Below w.heap.size w wr → w.heap.size < wr.heap.size → Src wr w.heap.size) := Lib.hid (fun wr sd s0 s1 c0 c1 c2 hf hB hs =>
    ⟨A, n, cap, 0, sd, hn, hc, Nat.zero_le _, s0, s1, hs, c0, c1, c2, hf, fun h0 => by
      obtain ⟨b, off, e, hbb, hx⟩ := hb h0
      refine ⟨b, off, e, hbb, fun j hj => ?_⟩
      obtain ⟨x, hx1, hx2⟩ := hx j hj
      exact ⟨x, hx1, (hB.cell (p := ⟨b, off + j, none⟩) hbb).trans hx2⟩⟩)
  clear hbox
  go_enter Try.func20, Try.ntmps20
  go_wp2
  go_loopg [4] n (fun gi i wr => ∃ (k : Nat) (sd : Int), k ≤ n ∧ gi = n - k ∧ i = .int .i64 k ∧ 0 ≤ sd ∧ sd < 2147483647 ∧ wr.cell? ⟨w.heap.size, 0, none⟩ = some (.slice A n cap) ∧ wr.cell? ⟨w.heap.size, 1, none⟩ = some (.int .i64 0) ∧ wr.cell? ⟨w.heap.size, 2, none⟩ = some (.int .i64 sd) ∧ Hid (∀ j, wr.frozen? ⟨w.heap.size, j, none⟩ = false) ∧ Hid (Below w.heap.size w wr) ∧ w.heap.size < wr.heap.size)
  case atStart => exact ⟨0, 61043, Nat.zero_le _, rfl, rfl, by omega, by omega, k0, k1, k2, KF, KB, ks⟩
  case round =>
    obtain ⟨k, sd, hk, rfl, rfl, d0, d1, c0, c1, c2, HF, HB, hs⟩ := hrel
    clear k0 k1 k2 KF KB ks
    by_cases hlt : k < n
    · by_cases h64 : k < 64
      · obtain ⟨b, off, rfl, hbb, hx⟩ := hb (by omega)
        obtain ⟨y, hy, cy0⟩ := hx k hlt
        have cy : wr.cell? ⟨b, off + k, none⟩ = some (.int .u8 y) := (HB.out.cell (p := ⟨b, off + k, none⟩) hbb).trans cy0
        obtain ⟨s2, hs2⟩ : ∃ s2, (sd * 83 + y) % 2147483647 = s2 := ⟨_, rfl⟩
        have s20 : 0 ≤ s2 := by omega
        have s21 : s2 < 2147483647 := by omega
        have w1 : IntKind.i64.wrap (sd * 83) = sd * 83 := IntWalk.i64_in _ (by omega)
        have w2 : IntKind.i64.wrap (sd * 83 + y) = sd * 83 + y := IntWalk.i64_in _ (by omega)
        have w3 : (sd * 83 + y).tmod 2147483647 = s2 := by rw [Int.tmod_eq_emod_of_nonneg (by omega)]; exact hs2
        have hkI : (k : Int) < (n : Int) := by omega
        have hk0 : (0 : Int) ≤ (k : Int) := by omega
        have e0 : wr.drew.cell? ⟨w.heap.size, 0, none⟩ = some (.slice (some ⟨b, off, none⟩) n cap) := c0
        have e1 : wr.drew.cell? ⟨w.heap.size, 1, none⟩ = some (.int .i64 0) := c1
        have e2 : wr.drew.cell? ⟨w.heap.size, 2, none⟩ = some (.int .i64 sd) := c2
        have ef : wr.drew.frozen? ⟨w.heap.size, 2, none⟩ = false := HF.out 2
        have HF2 : Hid (∀ j, wr.drew.frozen? ⟨w.heap.size, j, none⟩ = false) := Lib.hid HF.out
        have HB2 : Hid (Below w.heap.size w wr.drew) := Lib.hid HB.out.drew
        have hs' : w.heap.size < wr.drew.heap.size := hs
        clear cy0 hx hb
        go_wp2
        go_still_tail 15, (by kernel_rfl)
        change wpList _ _ _ _ _ wr.drew
        generalize wr.drew = w2 at *
        have g0 := (World.cell?_setCell_other w2 ⟨w.heap.size, 2, none⟩ ⟨w.heap.size, 0, none⟩ (.int .i64 s2) (by simp)).trans e0
        have g1 := (World.cell?_setCell_other w2 ⟨w.heap.size, 2, none⟩ ⟨w.heap.size, 1, none⟩ (.int .i64 s2) (by simp)).trans e1
        have g2 := World.cell?_setCell_same w2 _ (.int .i64 s2) e2
        go_wp2
        go_roundg (n - (k + 1))
        case measure => omega
        case rel => exact ⟨k + 1, s2, by omega, rfl, by go_num, s20, s21, g0, g1, g2, Lib.hid (fun j => by simp [HF2.out j]), Lib.hid (HB2.out.setCell (by simp) _), by simpa using hs'⟩
      · have HE := Lib.hid (END.out wr sd d0 d1 c0 c1 c2 HF.out HB.out hs)
        clear hb
        go_wp2
        go_ret
        exact ⟨_, rfl, Nat.le_refl _, HE.out, HB.out⟩
    · have HE := Lib.hid (END.out wr sd d0 d1 c0 c1 c2 HF.out HB.out hs)
      have hdf : decide ((k : Int) < (n : Int)) = false := decide_eq_false (by omega)
      clear hb
      go_wp2
      go_ret
      exact ⟨_, rfl, Nat.le_refl _, HE.out, HB.out⟩
end Go.Proofs.Ytblaojjpclipaaa
namespace Go.Proofs.Ytblaojjpclipaaa
open Go.RowKit

theorem IsRow.bytes {w : World} {a : Option Addr} {len cap : Nat} {zs : List Int} (h : IsRow .u8 w a len cap zs) : len ≤ cap ∧ Bytes w a len w.heap.size := by
  rcases h with ⟨rfl, rfl, rfl, rfl⟩ | ⟨x, rfl, h1, h2, h3, h4, h5⟩
  · exact ⟨Nat.le_refl _, fun h => absurd h (by omega)⟩
  · refine ⟨h1, fun hp => ?_⟩
    have h0 := h4 0 (by omega)
    have hs : x.spot = none := by
      have := World.cell?_spot h0
      obtain ⟨b, o, s⟩ := x
      simpa [Addr.add] using this
    have hb := World.block_lt_of_cell? _ _ h0
    rw [add_none hs] at hb
    refine ⟨x.block, x.off, by obtain ⟨b, o, s⟩ := x; simp at hs; subst hs; rfl, hb, fun j hj => ?_⟩
    have hc := h4 j (by omega)
    rw [add_none hs] at hc
    have hw := h5 (zs.getD j 0) (by rw [List.getD_eq_getElem?_getD, List.getElem?_eq_getElem (by omega)]; exact List.getElem_mem _)
    have hbd := bounds_u8 hw
    obtain ⟨q, hq⟩ := Int.eq_ofNat_of_zero_le hbd.1
    exact ⟨q, by omega, by rw [hc, hq]⟩
theorem Ints.lit (w : World) (xs : List Int) (cells : Array Value) (t : TypeId) (h : cells.toList = xs.map (Value.int .i64)) (hl : xs.length ≤ 1000) : Ints (w.alloc (.cells cells t)) (.slice (some ⟨w.heap.size, 0, none⟩) xs.length xs.length) xs := by
  refine ⟨by rw [eI_all]; simp [eI], by unfold big40; omega, _, _, rfl, Nat.le_refl _, fun _ => ⟨w.heap.size, 0, rfl, by simp, fun j u hu => ?_⟩⟩
  rw [Nat.zero_add, World.cell?_alloc_new, ← hu, eI_all, ← h]
  simp
theorem big_any (A : Option Addr) (n cap : Nat) (w : World) (hn : n ≤ 9223372036854775807) :
    Calls Try.prog 4 #[.slice A n cap] w fun e w' => e = .returned (.bool (decide (4096 < n))) ∧ w = w' := by
  by_cases h : 4096 < n
  · have e1 : decide (4096 < n) = true := decide_eq_true h
    rw [e1]
    go_enter Try.func4, Try.ntmps4
    go_wp2
    go_ret
    exact ⟨ret_bool (by simp; omega), rfl⟩
  · have e1 : decide (4096 < n) = false := decide_eq_false h
    rw [e1]
    go_enter Try.func4, Try.ntmps4
    go_wp2
    go_ret
    exact ⟨ret_bool (by simp; omega), rfl⟩
set_option maxHeartbeats 400000 in
theorem likeInts_same (v u : Value) (xs : List Int) (w : World) (hv : Ints w v xs) (hu : Ints w u xs) :
    Calls Try.prog 14 #[v, u] w fun e w' => e = .returned (.bool true) ∧ ∃ m, w' = w.drewN m := by
  obtain ⟨A, cap, rfl, _, hm, hc⟩ := Ints.shape hv
  obtain ⟨A', cap', rfl, _, hm', hc'⟩ := Ints.shape hu
  go_enter Try.func14, Try.ntmps14
  go_wp2
  go_loopw [5] (fun i wr => ∃ k : Nat, k ≤ xs.length ∧ i = .int .i64 k ∧ Hid (∃ m, wr = w.drewN m)) (fun i _ => xs.length - (intOf i).toNat)
  case atStart => exact ⟨0, Nat.zero_le _, rfl, Lib.hid ⟨0, rfl⟩⟩
  case round =>
    obtain ⟨k, hk, rfl, HW⟩ := hrel
    obtain ⟨m, rfl⟩ := HW.out
    by_cases hlt : k < xs.length
    · obtain ⟨b, off, rfl, _, hcell⟩ := hc (by omega)
      obtain ⟨b', off', rfl, _, hcell'⟩ := hc' (by omega)
      have hck := hcell k hlt
      have hck' := hcell' k hlt
      clear hcell hcell' hc hc'
      go_wp2
      go_quiet (fail)
      go_wp2
      go_roundw
      case rel => exact ⟨k + 1, by omega, by go_num, Lib.hid ⟨_, rfl⟩⟩
      case measure => simp [intOf]; omega
    · go_wp2
      go_ret
      exact ⟨rfl, _, rfl⟩
end Go.Proofs.Ytblaojjpclipaaa
namespace Go.Proofs.Ytblaojjpclipaaa
open Go.RowKit

theorem Src.under {w w' : World} {p B : Nat} (h : Src w p) (hp : p < B) (hb : Below B w w') : Src w' p := by
  obtain ⟨A, n, cap, at_, seed, h1, h2, h3, h4, h5, h6, c0, c1, c2, hf, hby⟩ := h
  refine ⟨A, n, cap, at_, seed, h1, h2, h3, h4, h5, Nat.lt_of_lt_of_le h6 hb.size, (hb.cell hp).trans c0, (hb.cell hp).trans c1, (hb.cell hp).trans c2, fun j => (hb.frozen hp).trans (hf j), fun hn => ?_⟩
  obtain ⟨b, off, e, hbp, hx⟩ := hby hn
  refine ⟨b, off, e, hbp, fun j hj => ?_⟩
  obtain ⟨x, hx1, hx2⟩ := hx j hj
  exact ⟨x, hx1, (hb.cell (p := ⟨b, off + j, none⟩) (by simp only []; omega)).trans hx2⟩
/-- behind some draws: the source in block p stands, nothing else that was there in w0 has turned -/
def Dr (w0 : World) (p : Nat) (w : World) : Prop := Src w p ∧ w0.grownBy w (some p) ∧ p < w0.heap.size
section
variable {w0 w w' : World} {p : Nat}
theorem Dr.refl (h : Src w p) : Dr w p w := ⟨h, World.grownBy.refl _ _, h.lt⟩
theorem Dr.size (h : Dr w0 p w) : w0.heap.size ≤ w.heap.size := h.2.1.size
theorem Dr.lt (h : Dr w0 p w) : p < w0.heap.size := h.2.2
theorem Dr.step (h : Dr w0 p w) (h1 : Src w' p) (h2 : w.grownBy w' (some p)) : Dr w0 p w' := ⟨h1, grown_tr h.2.1 h2, h.2.2⟩
theorem Dr.alloc (h : Dr w0 p w) (o : Obj) : Dr w0 p (w.alloc o) := ⟨h.1.alloc o, grown_tr h.2.1 (World.grownBy_alloc _ _ _), h.2.2⟩
theorem Dr.drew (h : Dr w0 p w) : Dr w0 p w.drew := ⟨h.1, grown_drewN h.2.1 1, h.2.2⟩
theorem Dr.drewN (h : Dr w0 p w) (n : Nat) : Dr w0 p (w.drewN n) := ⟨h.1, grown_drewN h.2.1 n, h.2.2⟩
theorem Dr.below (h : Dr w0 p w) (hb : Below w0.heap.size w w') : Dr w0 p w' :=
  ⟨h.1.under h.2.2 hb, ⟨hb.os.trans h.2.1.os, hb.tape.trans h.2.1.tape, hb.output.trans h.2.1.output, Nat.le_trans h.2.1.size hb.size, fun i hi hne => (hb.block i hi).trans (h.2.1.block i hi hne)⟩, h.2.2⟩
theorem Dr.trans {w1 : World} (h : Dr w0 p w) (h2 : Dr w p w1) : Dr w0 p w1 := ⟨h2.1, grown_tr h.2.1 h2.2.1, h.2.2⟩
theorem Dr.to_below {W : World} (h : Dr w0 p w) (hb : Below W.heap.size W w0) (hp : W.heap.size ≤ p) : Below W.heap.size W w := hb.grown h.2.1 hb.size (fun k hk => by cases hk; exact hp)
theorem Own.dr {α : Type} {E : Enc α} {base : Nat} {t : TypeId} {v : Value} {xs : List α} (h : Own E w base t v xs) (hg : w.grownBy w' (some p)) (hp : p < base) : Own E w' base t v xs :=
  h.kept hg (own_apart2 h hp)
end
/-- a store into a row of the call's own, beside a source -/
theorem Dr.store {w0 w : World} {p g j : Nat} (h : Dr w0 p w) (hg : w0.heap.size ≤ g) (u : Value) : Dr w0 p (w.setCell ⟨g, j, none⟩ u) :=
  h.below (Below.setCell (Below.refl _ _) hg u)
theorem next_dr {w0 : World} {p : Nat} {w : World} (n : Int) (h : Dr w0 p w) (hn : n ≤ 9223372036854775807) :
    Calls Try.prog 23 #[.pointer (some ⟨p, 0, none⟩), .int .i64 n] w fun e w' => ∃ x, e = .returned (.int .i64 x) ∧ 0 ≤ x ∧ (x < n ∨ x = 0) ∧ Dr w0 p w' ∧ w.grownBy w' (some p) :=
  (l01Next_any p n w h.1 hn).mono fun _ _ ⟨x, h1, h2, h3, h4, h5⟩ => ⟨x, h1, h2, h3, h.step h4 h5, h5⟩
theorem pick_dr {w0 : World} {p : Nat} {w : World} (xs : List Int) (cells : Array Value) (n : Nat) (hc : cells.toList = xs.map (Value.int .i64)) (hn : n = xs.length) (hx : 0 < xs.length) (hl : xs.length ≤ 1000) (h : Dr w0 p w) :
    Calls Try.prog 24 #[.pointer (some ⟨p, 0, none⟩), .slice (some ⟨w.heap.size, 0, none⟩) n n] (w.alloc (.cells cells 2)) fun e w' => ∃ x, e = .returned (.int .i64 x) ∧ x ∈ xs ∧ Dr w0 p w' ∧ w.grownBy w' (some p) := by
  subst hn
  refine (l01Pick_any p _ xs _ (h.alloc _).1 (Ints.lit w xs cells 2 hc hl) hx (fun b off n cap e => by cases e; have := h.1.lt; omega)).mono ?_
  rintro e w' ⟨x, h1, h2, h3, h4⟩
  exact ⟨x, h1, h2, (h.alloc _).step h3 h4, grown_tr (World.grownBy_alloc _ _ _) h4⟩
end Go.Proofs.Ytblaojjpclipaaa
namespace Go.Proofs.Ytblaojjpclipaaa
open Go.RowKit

theorem cell_out (W : World) (b o : Nat) (h : W.heap.size ≤ b) : W.cell? ⟨b, o, none⟩ = none := by
  rcases hc : W.cell? ⟨b, o, none⟩ with _ | v
  · rfl
  · have : b < W.heap.size := World.block_lt_of_cell? _ _ hc
    omega
theorem cell_alloc_any (W : World) (cs : Array Value) (t : TypeId) (b o : Nat) : (W.alloc (.cells cs t)).cell? ⟨b, o, none⟩ = if b = W.heap.size then cs[o]? else W.cell? ⟨b, o, none⟩ := by
  by_cases h : b = W.heap.size
  · subst h
    rw [if_pos rfl, World.cell?_alloc_new]
  · rw [if_neg h]
    by_cases h2 : b < W.heap.size
    · exact World.cell?_alloc_lt W _ _ h2
    · rw [cell_out W b o (by omega), cell_out _ b o (by simp; omega)]
theorem frozen_alloc_any (W : World) (cs : Array Value) (t : TypeId) (b o : Nat) : (W.alloc (.cells cs t)).frozen? ⟨b, o, none⟩ = W.frozen? ⟨b, o, none⟩ := frozen?_alloc_cells _ _ _ _
theorem lit_cell {W : World} {cs : Array Value} {t : TypeId} {b k : Nat} {v : Value} (hb : b = W.heap.size) (h : cs[k]? = some v) : (W.alloc (.cells cs t)).cell? ⟨b, k, none⟩ = some v := by
  rw [cell_alloc_any, if_pos hb]; exact h
theorem lit_cell2 {W : World} {cs cs2 : Array Value} {t t2 : TypeId} {b k : Nat} {v : Value} (hb : b = W.heap.size) (h : cs[k]? = some v) : ((W.alloc (.cells cs t)).alloc (.cells cs2 t2)).cell? ⟨b, k, none⟩ = some v := by
  rw [cell_alloc_any, if_neg (by simp; omega)]; exact lit_cell hb h
theorem lit3 {a b c x : Int} {k : Nat} (h : [a, b, c][k]? = some x) : (#[.int .i64 a, .int .i64 b, .int .i64 c] : Array Value)[k]? = some (.int .i64 x) := by
  rcases k with _ | _ | _ | k
  · simp at h; subst h; rfl
  · simp at h; subst h; rfl
  · simp at h; subst h; rfl
  · simp at h
theorem lit4 {a b c d x : Int} {k : Nat} (h : [a, b, c, d][k]? = some x) : (#[.int .i64 a, .int .i64 b, .int .i64 c, .int .i64 d] : Array Value)[k]? = some (.int .i64 x) := by
  rcases k with _ | _ | _ | _ | k
  · simp at h; subst h; rfl
  · simp at h; subst h; rfl
  · simp at h; subst h; rfl
  · simp at h; subst h; rfl
  · simp at h
/-- all but block p is as it was -/
structure Only (w w' : World) (p : Nat) : Prop where
  sz : w'.heap.size = w.heap.size
  ce : ∀ b o, b ≠ p → w'.cell? ⟨b, o, none⟩ = w.cell? ⟨b, o, none⟩
  fr : ∀ b o, b ≠ p → w'.frozen? ⟨b, o, none⟩ = w.frozen? ⟨b, o, none⟩
theorem Only.of {w w' : World} {p : Nat} (hg : w.grownBy w' (some p)) (hs : w'.heap.size = w.heap.size) : Only w w' p := by
  refine ⟨hs, fun b o hb => ?_, fun b o hb => ?_⟩
  · by_cases h : b < w.heap.size
    · exact hg.cell_far _ h (fun e => hb (Option.some.inj e))
    · rw [cell_out _ b o (by omega), cell_out _ b o (by omega)]
  · by_cases h : b < w.heap.size
    · exact hg.frozen_far _ h (fun e => hb (Option.some.inj e))
    · rw [frozen_out _ _ (by simp only []; omega), frozen_out _ _ (by simp only []; omega)]
theorem next_fl {w0 : World} {p : Nat} {w : World} (n : Int) (h : Dr w0 p w) (hn : n ≤ 9223372036854775807) :
    Calls Try.prog 23 #[.pointer (some ⟨p, 0, none⟩), .int .i64 n] w fun e w' => ∃ x, e = .returned (.int .i64 x) ∧ 0 ≤ x ∧ (x < n ∨ x = 0) ∧ Dr w0 p w' ∧ Only w w' p :=
  (l01Next_all p n w h.1 hn).mono fun _ _ ⟨x, h1, h2, h3, h4, h5, h6⟩ => ⟨x, h1, h2, h3, h.step h4 h5, Only.of h5 h6⟩
/-- a pick out of a literal that lies in block b -/
theorem pick_fl {w0 : World} {p b : Nat} {w : World} (xs : List Int) (n : Nat) (hn : n = xs.length) (hx : 0 < xs.length) (hl : xs.length ≤ 1000) (h : Dr w0 p w) (hb : b ≠ p) (hbs : b < w.heap.size) (hc : ∀ (k : Nat) (x : Int), xs[k]? = some x → w.cell? ⟨b, k, none⟩ = some (.int .i64 x)) :
    Calls Try.prog 24 #[.pointer (some ⟨p, 0, none⟩), .slice (some ⟨b, 0, none⟩) n n] w fun e w' => ∃ x, e = .returned (.int .i64 x) ∧ x ∈ xs ∧ Dr w0 p w' ∧ Only w w' p := by
  subst hn
  refine (l01Pick_all p _ xs w h.1 ⟨by rw [eI_all]; simp [eI], by unfold big40; omega, _, _, rfl, Nat.le_refl _, fun _ => ⟨b, 0, rfl, hbs, fun j u hu => ?_⟩⟩ hx (fun b2 off n cap e => by cases e; exact hb)).mono fun _ _ ⟨x, h1, h2, h3, h4, h5⟩ => ⟨x, h1, h2, h.step h3 h4, Only.of h4 h5⟩
  rw [eI_all, List.getElem?_map] at hu
  rcases hj : xs[j]? with _ | x
  · rw [hj] at hu; cases hu
  · rw [hj] at hu
    cases hu
    rw [Nat.zero_add]
    exact hc j x hj
end Go.Proofs.Ytblaojjpclipaaa
