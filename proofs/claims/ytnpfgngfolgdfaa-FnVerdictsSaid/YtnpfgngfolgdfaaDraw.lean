/- Contracts of the functions of the reference that hand out drawn numbers. No statement of the seat is proved here. -/
import Derived.Test.YtnpfgngfolgdfaaOwn
import Derived.Test.YtnpfgngfolgdfaaBox
namespace Go.Proofs.Ytnpfgngfolgdfaa
open Go.RowKit

theorem grown_set (w : World) (p o : Nat) (u : Value) : w.grownBy (w.setCell ⟨p, o, none⟩ u) (some p) := by
  refine ⟨rfl, rfl, rfl, by simp [World.setCell], fun i hi hne => ?_⟩
  simp only [World.setCell, Array.getElem?_modify]
  split
  · rename_i h; subst h; exact absurd rfl hne
  · rfl
theorem grown_drewN {w w' : World} {row : Option Nat} (h : w.grownBy w' row) (n : Nat) : w.grownBy (w'.drewN n) row := ⟨h.os, h.tape, h.output, h.size, h.block⟩
theorem grown_tr {a b c : World} {row : Option Nat} (h : a.grownBy b row) (k : b.grownBy c row) : a.grownBy c row :=
  ⟨k.os.trans h.os, k.tape.trans h.tape, k.output.trans h.output, Nat.le_trans h.size k.size, fun i hi hne => (k.block i (Nat.lt_of_lt_of_le hi h.size) hne).trans (h.block i hi hne)⟩
/-- the code that the draws follow: bytes below block p -/
def Bytes (w : World) (A : Option Addr) (n p : Nat) : Prop := 0 < n → ∃ b off, A = some ⟨b, off, none⟩ ∧ b < p ∧ ∀ j, j < n → ∃ x : Nat, x ≤ 255 ∧ w.cell? ⟨b, off + j, none⟩ = some (.int .u8 x)
/-- block p holds a source of numbers -/
def Src (w : World) (p : Nat) : Prop := ∃ (A : Option Addr) (n cap at_ : Nat) (seed : Int), n ≤ 4096 ∧ n ≤ cap ∧ at_ ≤ n ∧ 0 ≤ seed ∧ seed < 2147483647 ∧ p < w.heap.size ∧
  w.cell? ⟨p, 0, none⟩ = some (.slice A n cap) ∧ w.cell? ⟨p, 1, none⟩ = some (.int .i64 at_) ∧ w.cell? ⟨p, 2, none⟩ = some (.int .i64 seed) ∧ (∀ j, w.frozen? ⟨p, j, none⟩ = false) ∧ Bytes w A n p
theorem Bytes.grown {w w' : World} {A : Option Addr} {n p : Nat} {row : Option Nat} (h : Bytes w A n p) (hp : p ≤ w.heap.size) (hg : w.grownBy w' row) (hr : ∀ k, row = some k → p ≤ k) : Bytes w' A n p := fun hn => by
  obtain ⟨b, off, e, hb, hx⟩ := h hn
  refine ⟨b, off, e, hb, fun j hj => ?_⟩
  obtain ⟨x, hx1, hx2⟩ := hx j hj
  exact ⟨x, hx1, (hg.cell_far ⟨b, off + j, none⟩ (by simp only []; omega) (fun e2 => by have := hr b e2.symm; omega)).trans hx2⟩
theorem Src.grown {w w' : World} {p : Nat} {row : Option Nat} (h : Src w p) (hg : w.grownBy w' row) (hr : ∀ k, row = some k → p < k) : Src w' p := by
  obtain ⟨A, n, cap, at_, seed, h1, h2, h3, h4, h5, h6, c0, c1, c2, hf, hb⟩ := h
  have hne : some p ≠ row := fun e => by have := hr p e.symm; omega
  exact ⟨A, n, cap, at_, seed, h1, h2, h3, h4, h5, Nat.lt_of_lt_of_le h6 hg.size, (hg.cell_far _ h6 hne).trans c0, (hg.cell_far _ h6 hne).trans c1, (hg.cell_far _ h6 hne).trans c2, fun j => (hg.frozen_far _ h6 hne).trans (hf j), hb.grown (Nat.le_of_lt h6) hg (fun k hk => Nat.le_of_lt (hr k hk))⟩
theorem Src.below {w w' : World} {p : Nat} (h : Src w p) (hb : Below w.heap.size w w') : Src w' p :=
  h.grown (row := none) ⟨hb.os, hb.tape, hb.output, hb.size, fun k hk _ => hb.block k hk⟩ (fun k hk => by cases hk)
theorem Src.alloc {w : World} {p : Nat} (h : Src w p) (o : Obj) : Src (w.alloc o) p := h.grown (World.grownBy_alloc w o none) (fun k hk => by cases hk)
theorem Src.drewN {w : World} {p : Nat} (h : Src w p) (n : Nat) : Src (w.drewN n) p := h
theorem Src.drew {w : World} {p : Nat} (h : Src w p) : Src w.drew p := h
theorem Src.lt {w : World} {p : Nat} (h : Src w p) : p < w.heap.size := by obtain ⟨_, _, _, _, _, _, _, _, _, _, h6, _⟩ := h; exact h6
set_option maxHeartbeats 4000000 in
theorem l01Next_all (p : Nat) (n : Int) (w : World) (hs : Src w p) (hn : n ≤ 9223372036854775807) :
    Calls Try.prog 77 #[.pointer (some ⟨p, 0, none⟩), .int .i64 n] w fun e w' => ∃ x, e = .returned (.int .i64 x) ∧ 0 ≤ x ∧ (x < n ∨ x = 0) ∧ Src w' p ∧ w.grownBy w' (some p) ∧ w'.heap.size = w.heap.size := by
  by_cases h1 : n ≤ 1
  · have HS := Lib.hid hs
    clear hs
    go_enter Try.func77, Try.ntmps77
    go_wp2
    go_ret
    exact ⟨0, rfl, Int.le_refl _, .inr rfl, HS.out, World.grownBy.refl _ _, rfl⟩
  obtain ⟨A, m, cap, at_, seed, m1, m2, m3, s0, s1, hp, c0, c1, c2, hf, hby⟩ := hs
  obtain ⟨s2, hs2⟩ : ∃ s2, (seed * 48271 + 29) % 2147483647 = s2 := ⟨_, rfl⟩
  have s20 : 0 ≤ s2 := by omega
  have s21 : s2 < 2147483647 := by omega
  have w1 : IntKind.i64.wrap (seed * 48271) = seed * 48271 := IntWalk.i64_in _ (by omega)
  have w2 : IntKind.i64.wrap (seed * 48271 + 29) = seed * 48271 + 29 := IntWalk.i64_in _ (by omega)
  have w3 : (seed * 48271 + 29).tmod 2147483647 = s2 := by rw [Int.tmod_eq_emod_of_nonneg (by omega)]; exact hs2
  obtain ⟨x0, hx0⟩ : ∃ x0, s2 / 31 = x0 := ⟨_, rfl⟩
  have x00 : 0 ≤ x0 := by omega
  have x01 : x0 ≤ 2147483647 := by omega
  have w4 : s2.tdiv 31 = x0 := by rw [Int.tdiv_eq_ediv_of_nonneg (by omega)]; exact hx0
  have w6 : IntKind.i64.wrap x0 = x0 := IntWalk.i64_in _ (by omega)
  have f1 := hf 1
  have f2 := hf 2
  have tz : (n == 0) = false := by simp; omega
  have hgA : w.grownBy (w.setCell ⟨p, 2, none⟩ (.int .i64 s2)) (some p) := grown_set _ _ _ _
  have a0 : (w.setCell ⟨p, 2, none⟩ (.int .i64 s2)).cell? ⟨p, 0, none⟩ = some (.slice A m cap) := (World.cell?_setCell_other _ _ _ _ (by simp)).trans c0
  have a1 : (w.setCell ⟨p, 2, none⟩ (.int .i64 s2)).cell? ⟨p, 1, none⟩ = some (.int .i64 at_) := (World.cell?_setCell_other _ _ _ _ (by simp)).trans c1
  have a2 : (w.setCell ⟨p, 2, none⟩ (.int .i64 s2)).cell? ⟨p, 2, none⟩ = some (.int .i64 s2) := World.cell?_setCell_same _ _ _ c2
  have af : ∀ j, (w.setCell ⟨p, 2, none⟩ (.int .i64 s2)).frozen? ⟨p, j, none⟩ = false := fun j => by simp [hf j]
  have HBY := Lib.hid (hby.grown (Nat.le_of_lt hp) hgA (fun k hk => by cases hk; exact Nat.le_refl _))
  have hpA : p < (w.setCell ⟨p, 2, none⟩ (.int .i64 s2)).heap.size := Nat.lt_of_lt_of_le hp hgA.size
  have HGA := Lib.hid hgA
  have HSZ : Hid ((w.setCell ⟨p, 2, none⟩ (.int .i64 s2)).heap.size = w.heap.size) := Lib.hid (by simp [World.setCell])
  have af1 := af 1
  have HF := Lib.hid af
  clear hby hgA af
  by_cases hlt : at_ < m
  · have hltI : (at_ : Int) < (m : Int) := by omega
    have hatI : (0 : Int) ≤ (at_ : Int) := by omega
    go_enter Try.func77, Try.ntmps77
    go_wp2
    clear c0 c1 c2 hf f1 f2 w1 w2 w3 hs2
    generalize w.setCell ⟨p, 2, none⟩ (.int .i64 s2) = wA at *
    obtain ⟨b, off, rfl, hbp, hx⟩ := HBY.out (by omega)
    obtain ⟨y, hy, cy⟩ := hx at_ hlt
    have w7 : IntKind.i64.wrap (x0 + y) = x0 + y := IntWalk.i64_in _ (by omega)
    have w8 : IntKind.i64.wrap ((at_ : Int) + 1) = (at_ : Int) + 1 := IntWalk.i64_in _ (by omega)
    have w9 : IntKind.i64.wrap ((at_ : Int) + 1 - 1) = at_ := by rw [show (at_ : Int) + 1 - 1 = at_ by omega]; exact IntWalk.i64_in _ (by omega)
    have b0 : (wA.setCell ⟨p, 1, none⟩ (.int .i64 (at_ + 1))).cell? ⟨p, 0, none⟩ = some (.slice (some ⟨b, off, none⟩) m cap) := (World.cell?_setCell_other _ _ _ _ (by simp)).trans a0
    have b1 : (wA.setCell ⟨p, 1, none⟩ (.int .i64 (at_ + 1))).cell? ⟨p, 1, none⟩ = some (.int .i64 (at_ + 1)) := World.cell?_setCell_same _ _ _ a1
    have b2 : (wA.setCell ⟨p, 1, none⟩ (.int .i64 (at_ + 1))).cell? ⟨p, 2, none⟩ = some (.int .i64 s2) := (World.cell?_setCell_other _ _ _ _ (by simp)).trans a2
    have by_ : (wA.setCell ⟨p, 1, none⟩ (.int .i64 (at_ + 1))).cell? ⟨b, off + at_, none⟩ = some (.int .u8 y) := (World.cell?_setCell_other _ _ _ _ (by simp; try omega)).trans cy
    have hgB : wA.grownBy (wA.setCell ⟨p, 1, none⟩ (.int .i64 (at_ + 1))) (some p) := grown_set _ _ _ _
    have HSRC : Hid (Src (wA.setCell ⟨p, 1, none⟩ (.int .i64 (at_ + 1))) p) := Lib.hid ⟨some ⟨b, off, none⟩, m, cap, at_ + 1, s2, m1, m2, hlt, s20, s21, Nat.lt_of_lt_of_le hpA hgB.size, b0, b1.trans (by simp), b2, fun j => by simp [HF.out j], HBY.out.grown (Nat.le_of_lt hpA) hgB (fun k hk => by cases hk; exact Nat.le_refl _)⟩
    have HGB := Lib.hid (grown_tr HGA.out hgB)
    have HSB : Hid ((wA.setCell ⟨p, 1, none⟩ (.int .i64 (at_ + 1))).heap.size = w.heap.size) := Lib.hid ((by simp [World.setCell] : (wA.setCell ⟨p, 1, none⟩ (.int .i64 (at_ + 1))).heap.size = wA.heap.size).trans HSZ.out)
    clear hgB hx
    by_cases h256 : n ≤ 256
    · by_cases hev : ((at_ : Int) + 1) % 2 = 0
      · have e1 : (((at_ : Int) + 1) % 2 == 0) = true := beq_iff_eq.2 hev
        have e2 : (((at_ : Int) + 1).tmod 2) = 0 := by rw [Int.tmod_eq_emod_of_nonneg (by omega)]; exact hev
        go_quiet (fail)
        go_wp2
        go_quiet (fail)
        go_wp2
        go_quiet (fail)
        go_wp2
        go_ret
        have r1 := Int.emod_nonneg (y : Int) (show n ≠ 0 by omega)
        have r2 := Int.emod_lt_of_pos (y : Int) (show 0 < n by omega)
        have r3 : ((y : Int).tmod n) = (y : Int) % n := Int.tmod_eq_emod_of_nonneg (by omega)
        exact ⟨(y : Int) % n, by first | rfl | rw [r3], r1, .inl r2, HSRC.out, ⟨HGB.out.os, HGB.out.tape, HGB.out.output, HGB.out.size, HGB.out.block⟩, HSB.out⟩
      · have e1 : (((at_ : Int) + 1) % 2 == 0) = false := beq_eq_false_iff_ne.2 hev
        go_quiet (fail)
        go_wp2
        go_quiet (fail)
        go_wp2
        go_ret
        have r1 := Int.emod_nonneg (x0 + y : Int) (show n ≠ 0 by omega)
        have r2 := Int.emod_lt_of_pos (x0 + y : Int) (show 0 < n by omega)
        have r3 : ((x0 + y : Int).tmod n) = (x0 + y : Int) % n := Int.tmod_eq_emod_of_nonneg (by omega)
        exact ⟨(x0 + y : Int) % n, by first | rfl | rw [r3], r1, .inl r2, HSRC.out, ⟨HGB.out.os, HGB.out.tape, HGB.out.output, HGB.out.size, HGB.out.block⟩, HSB.out⟩
    · go_quiet (fail)
      go_wp2
      go_quiet (fail)
      go_wp2
      go_ret
      have r1 := Int.emod_nonneg (x0 + y : Int) (show n ≠ 0 by omega)
      have r2 := Int.emod_lt_of_pos (x0 + y : Int) (show 0 < n by omega)
      have r3 : ((x0 + y : Int).tmod n) = (x0 + y : Int) % n := Int.tmod_eq_emod_of_nonneg (by omega)
      exact ⟨(x0 + y : Int) % n, by first | rfl | rw [r3], r1, .inl r2, HSRC.out, ⟨HGB.out.os, HGB.out.tape, HGB.out.output, HGB.out.size, HGB.out.block⟩, HSB.out⟩
  · have hltI : ¬ ((at_ : Int) < (m : Int)) := by omega
    have hdf : decide ((at_ : Int) < (m : Int)) = false := decide_eq_false hltI
    go_enter Try.func77, Try.ntmps77
    go_wp2
    clear c0 c1 c2 hf f1 f2 w1 w2 w3 hs2
    generalize w.setCell ⟨p, 2, none⟩ (.int .i64 s2) = wA at *
    have HSRC : Hid (Src wA p) := Lib.hid ⟨A, m, cap, at_, s2, m1, m2, m3, s20, s21, hpA, a0, a1, a2, HF.out, HBY.out⟩
    go_quiet (fail)
    go_wp2
    go_ret
    have r1 := Int.emod_nonneg x0 (show n ≠ 0 by omega)
    have r2 := Int.emod_lt_of_pos x0 (show 0 < n by omega)
    have r3 : x0.tmod n = x0 % n := Int.tmod_eq_emod_of_nonneg (by omega)
    exact ⟨x0 % n, by first | rfl | rw [r3], r1, .inl r2, HSRC.out, ⟨HGA.out.os, HGA.out.tape, HGA.out.output, HGA.out.size, HGA.out.block⟩, HSZ.out⟩
theorem l01Next_any (p : Nat) (n : Int) (w : World) (hs : Src w p) (hn : n ≤ 9223372036854775807) :
    Calls Try.prog 77 #[.pointer (some ⟨p, 0, none⟩), .int .i64 n] w fun e w' => ∃ x, e = .returned (.int .i64 x) ∧ 0 ≤ x ∧ (x < n ∨ x = 0) ∧ Src w' p ∧ w.grownBy w' (some p) :=
  (l01Next_all p n w hs hn).mono fun _ _ ⟨x, h1, h2, h3, h4, h5, _⟩ => ⟨x, h1, h2, h3, h4, h5⟩
set_option maxHeartbeats 1000000 in
theorem l01Pick_all (p : Nat) (v : Value) (xs : List Int) (w : World) (hs : Src w p) (hv : Ints w v xs) (hx : 0 < xs.length) (hb : ∀ b off n cap, v = .slice (some ⟨b, off, none⟩) n cap → b ≠ p) :
    Calls Try.prog 76 #[.pointer (some ⟨p, 0, none⟩), v] w fun e w' => ∃ x, e = .returned (.int .i64 x) ∧ x ∈ xs ∧ Src w' p ∧ w.grownBy w' (some p) ∧ w'.heap.size = w.heap.size := by
  obtain ⟨A, cap, rfl, _, hm, hc⟩ := Ints.shape hv
  go_enter Try.func76, Try.ntmps76
  go_wp2_with fail
  refine (l01Next_all p _ w hs (by omega)).mono ?_
  rintro e w1 ⟨x, rfl, x0, x1, hs1, hg, hsz⟩
  have HSZ := Lib.hid hsz
  obtain ⟨q, rfl⟩ := Int.eq_ofNat_of_zero_le x0
  have hq : q < xs.length := by omega
  obtain ⟨b, off, rfl, hbl, hcell⟩ := hc hx
  have hne := hb b off _ _ rfl
  have cx : w1.cell? ⟨b, off + q, none⟩ = some (.int .i64 xs[q]) := (hg.cell_far ⟨b, off + q, none⟩ hbl (fun e => hne (by cases e; rfl))).trans (hcell q hq)
  have HS := Lib.hid hs1
  have HG := Lib.hid hg
  have HM := Lib.hid (List.getElem_mem hq)
  clear hs1 hg hcell hc hs hv hb hsz
  go_wp2
  go_ret
  exact ⟨_, rfl, HM.out, HS.out, HG.out, HSZ.out⟩
theorem l01Pick_any (p : Nat) (v : Value) (xs : List Int) (w : World) (hs : Src w p) (hv : Ints w v xs) (hx : 0 < xs.length) (hb : ∀ b off n cap, v = .slice (some ⟨b, off, none⟩) n cap → b ≠ p) :
    Calls Try.prog 76 #[.pointer (some ⟨p, 0, none⟩), v] w fun e w' => ∃ x, e = .returned (.int .i64 x) ∧ x ∈ xs ∧ Src w' p ∧ w.grownBy w' (some p) :=
  (l01Pick_all p v xs w hs hv hx hb).mono fun _ _ ⟨x, h1, h2, h3, h4, _⟩ => ⟨x, h1, h2, h3, h4⟩
set_option maxHeartbeats 4000000 in
set_option maxRecDepth 10000 in
theorem l01From_any (A : Option Addr) (n cap : Nat) (w : World) (hn : n ≤ 4096) (hc : n ≤ cap) (hb : Bytes w A n w.heap.size) :
    Calls Try.prog 75 #[.slice A n cap] w fun e w' => ∃ p, e = .returned (.pointer (some ⟨p, 0, none⟩)) ∧ w.heap.size ≤ p ∧ Src w' p ∧ Below w.heap.size w w' := by
  have hbox : ∀ j, (w.alloc (.cells #[.slice A n cap, .int .i64 0, .int .i64 61043] 99)).cell? ⟨w.heap.size, j, none⟩ = #[Value.slice A n cap, .int .i64 0, .int .i64 61043][j]? := fun j => box_new _ _ _ j
  have k0 := (hbox 0).trans (show _ = some (Value.slice A n cap) from rfl)
  have k1 := (hbox 1).trans (show _ = some (Value.int .i64 0) from rfl)
  have k2 := (hbox 2).trans (show _ = some (Value.int .i64 61043) from rfl)
  have KF : Hid (∀ j, (w.alloc (.cells #[.slice A n cap, .int .i64 0, .int .i64 61043] 99)).frozen? ⟨w.heap.size, j, none⟩ = false) := Lib.hid (fun j => frozen_box _ _ _ _ (frozen_out _ _ (Nat.le_refl _)))
  have KB : Hid (Below w.heap.size w (w.alloc (.cells #[.slice A n cap, .int .i64 0, .int .i64 61043] 99))) := Lib.hid ((Below.refl _ _).alloc (Nat.le_refl _) _)
  have ks : w.heap.size < (w.alloc (.cells #[.slice A n cap, .int .i64 0, .int .i64 61043] 99)).heap.size := by simp
  have END : Hid (∀ (wr : World) (sd : Int), 0 ≤ sd → sd < 2147483647 → wr.cell? ⟨w.heap.size, 0, none⟩ = some (.slice A n cap) → wr.cell? ⟨w.heap.size, 1, none⟩ = some (.int .i64 0) → wr.cell? ⟨w.heap.size, 2, none⟩ = some (.int .i64 sd) → (∀ j, wr.frozen? ⟨w.heap.size, j, none⟩ = false) → Below w.heap.size w wr → w.heap.size < wr.heap.size → Src wr w.heap.size) := Lib.hid (fun wr sd s0 s1 c0 c1 c2 hf hB hs =>
    ⟨A, n, cap, 0, sd, hn, hc, Nat.zero_le _, s0, s1, hs, c0, c1, c2, hf, fun h0 => by
      obtain ⟨b, off, e, hbb, hx⟩ := hb h0
      refine ⟨b, off, e, hbb, fun j hj => ?_⟩
      obtain ⟨x, hx1, hx2⟩ := hx j hj
      exact ⟨x, hx1, (hB.cell (p := ⟨b, off + j, none⟩) hbb).trans hx2⟩⟩)
  clear hbox
  go_enter Try.func75, Try.ntmps75
  go_wp2
  go_loopg [4] n (fun gi i wr => ∃ (k : Nat) (sd : Int), k ≤ n ∧ gi = n - k ∧ i = .int .i64 k ∧ 0 ≤ sd ∧ sd < 2147483647 ∧ wr.cell? ⟨w.heap.size, 0, none⟩ = some (.slice A n cap) ∧ wr.cell? ⟨w.heap.size, 1, none⟩ = some (.int .i64 0) ∧ wr.cell? ⟨w.heap.size, 2, none⟩ = some (.int .i64 sd) ∧ Hid (∀ j, wr.frozen? ⟨w.heap.size, j, none⟩ = false) ∧ Hid (Below w.heap.size w wr) ∧ w.heap.size < wr.heap.size)
  case atStart => exact ⟨0, 61043, Nat.zero_le _, rfl, rfl, by omega, by omega, k0, k1, k2, KF, KB, ks⟩
  case round =>
    obtain ⟨k, sd, hk, rfl, rfl, d0, d1, c0, c1, c2, HF, HB, hs⟩ := hrel
    clear k0 k1 k2 KF KB ks
    by_cases hlt : k < n
    · by_cases h64 : k < 64
      · obtain ⟨b, off, rfl, hbb, hx⟩ := hb (by omega)
        obtain ⟨y, hy, cy0⟩ := hx k hlt
        have cy : wr.cell? ⟨b, off + k, none⟩ = some (.int .u8 y) := (HB.out.cell (p := ⟨b, off + k, none⟩) hbb).trans cy0
        obtain ⟨s2, hs2⟩ : ∃ s2, (sd * 83 + y) % 2147483647 = s2 := ⟨_, rfl⟩
        have s20 : 0 ≤ s2 := by omega
        have s21 : s2 < 2147483647 := by omega
        have w1 : IntKind.i64.wrap (sd * 83) = sd * 83 := IntWalk.i64_in _ (by omega)
        have w2 : IntKind.i64.wrap (sd * 83 + y) = sd * 83 + y := IntWalk.i64_in _ (by omega)
        have w3 : (sd * 83 + y).tmod 2147483647 = s2 := by rw [Int.tmod_eq_emod_of_nonneg (by omega)]; exact hs2
        have hkI : (k : Int) < (n : Int) := by omega
        have hk0 : (0 : Int) ≤ (k : Int) := by omega
        have e0 : wr.drew.cell? ⟨w.heap.size, 0, none⟩ = some (.slice (some ⟨b, off, none⟩) n cap) := c0
        have e1 : wr.drew.cell? ⟨w.heap.size, 1, none⟩ = some (.int .i64 0) := c1
        have e2 : wr.drew.cell? ⟨w.heap.size, 2, none⟩ = some (.int .i64 sd) := c2
        have ef : wr.drew.frozen? ⟨w.heap.size, 2, none⟩ = false := HF.out 2
        have HF2 : Hid (∀ j, wr.drew.frozen? ⟨w.heap.size, j, none⟩ = false) := Lib.hid HF.out
        have HB2 : Hid (Below w.heap.size w wr.drew) := Lib.hid HB.out.drew
        have hs' : w.heap.size < wr.drew.heap.size := hs
        clear cy0 hx hb
        go_wp2
        go_still_tail 15, (by kernel_rfl)
        change wpList _ _ _ _ _ wr.drew
        generalize wr.drew = w2 at *
        have g0 := (World.cell?_setCell_other w2 ⟨w.heap.size, 2, none⟩ ⟨w.heap.size, 0, none⟩ (.int .i64 s2) (by simp)).trans e0
        have g1 := (World.cell?_setCell_other w2 ⟨w.heap.size, 2, none⟩ ⟨w.heap.size, 1, none⟩ (.int .i64 s2) (by simp)).trans e1
        have g2 := World.cell?_setCell_same w2 _ (.int .i64 s2) e2
        go_wp2
        go_roundg (n - (k + 1))
        case measure => omega
        case rel => exact ⟨k + 1, s2, by omega, rfl, by go_num, s20, s21, g0, g1, g2, Lib.hid (fun j => by simp [HF2.out j]), Lib.hid (HB2.out.setCell (by simp) _), by simpa using hs'⟩
      · have HE := Lib.hid (END.out wr sd d0 d1 c0 c1 c2 HF.out HB.out hs)
        clear hb
        go_wp2
        go_ret
        exact ⟨_, rfl, Nat.le_refl _, HE.out, HB.out⟩
    · have HE := Lib.hid (END.out wr sd d0 d1 c0 c1 c2 HF.out HB.out hs)
      have hdf : decide ((k : Int) < (n : Int)) = false := decide_eq_false (by omega)
      clear hb
      go_wp2
      go_ret
      exact ⟨_, rfl, Nat.le_refl _, HE.out, HB.out⟩
end Go.Proofs.Ytnpfgngfolgdfaa
