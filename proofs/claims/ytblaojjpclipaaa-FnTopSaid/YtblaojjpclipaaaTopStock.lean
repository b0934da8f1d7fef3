/- The last part of the statement on nipples, bicycles and stock: pieces that are used were reserved (P24). No statement of the seat is proved here. -/
import Derived.Test.YtblaojjpclipaaaStockS
import Derived.Test.YtblaojjpclipaaaStockLaw
import Derived.StillTailTactics
namespace Go.Proofs.Ytblaojjpclipaaa
open Go.RowKit

/-- the region that a code begins with -/
def headR : Code → Option Nat
  | .seq x _ => headR x
  | .region i _ _ => some i
  | _ => none
/-- what is left of a code from a region on -/
def restOf (i : Nat) : Code → Option Code
  | .seq x y => if headR y = some i then some y else match restOf i y with
    | some c => some c
    | none => restOf i x
  | _ => none
abbrev topPost (w0 : World) : Exit → Act → World → Prop := bodyPost Try.prog Try.f3 (fun e w' => e = .returned (.bool true) ∧ Below w0.heap.size w0 w')
/-- wpStill behind a wall: the unifier does not look inside -/
structure Stl (P : Program) (ops : Array Oper) (w : World) (Q : Act → Prop) (l : List Oper) (a : Act) : Prop where
  out : wpStill P ops w Q l a
theorem stl_nil {P : Program} {ops : Array Oper} {w : World} {Q : Act → Prop} {a : Act} (h : Q a) : Stl P ops w Q [] a := ⟨h⟩
theorem stl_free {P : Program} {ops : Array Oper} {w : World} {Q : Act → Prop} {a : Act} {o : Oper} {rest : List Oper} (hg : o.guard = none)
    (h : ∀ K : Act → Prop, (∀ a, Stl P ops w Q rest a → K a) → o.still P a w K) : Stl P ops w Q (o :: rest) a := by
  refine ⟨?_⟩
  unfold wpStill
  have hw : Region.wanted o (yielded ops a.tmps) = true := by simp [Region.wanted, hg]
  rw [if_pos hw]
  exact h _ (fun _ h => h.out)
theorem stl_on {P : Program} {ops : Array Oper} {w : World} {Q : Act → Prop} {a : Act} {o : Oper} {rest : List Oper} {j : Nat} {b : Bool} (hg : o.guard = some (j, b)) (hy : yielded ops a.tmps j = some b)
    (h : ∀ K : Act → Prop, (∀ a, Stl P ops w Q rest a → K a) → o.still P a w K) : Stl P ops w Q (o :: rest) a := by
  refine ⟨?_⟩
  unfold wpStill
  have hw : Region.wanted o (yielded ops a.tmps) = true := by simp [Region.wanted, hg, hy]
  rw [if_pos hw]
  exact h _ (fun _ h => h.out)
theorem stl_off {P : Program} {ops : Array Oper} {w : World} {Q : Act → Prop} {a : Act} {o : Oper} {rest : List Oper} {j : Nat} {b : Bool} (hg : o.guard = some (j, b)) (hy : yielded ops a.tmps j = some (!b))
    (h : Stl P ops w Q rest (a.put o.dst undef)) : Stl P ops w Q (o :: rest) a := by
  refine ⟨?_⟩
  unfold wpStill
  have hw : Region.wanted o (yielded ops a.tmps) = false := by cases b <;> simp [Region.wanted, hg, hy]
  rw [if_neg (by rw [hw]; decide)]
  exact h.out
set_option maxRecDepth 100000 in
/-- the frame there: of most variables nothing is known -/
def mkTop (sv : Value) (nm : ByteArray) (m : Int) (uu : Value) (c3 : Int) (x : Nat → Value) : Act := ⟨#[x 0, x 1, x 2, x 3, x 4, x 5, x 6, x 7, x 8, x 9, x 10, x 11, x 12, x 13, x 14, x 15, x 16, x 17, x 18, sv, .string nm, .int .i64 m, uu, .int .i64 c3, x 24, x 25, x 26, x 27, x 28, x 29, x 30, x 31, x 32, x 33, x 34, x 35, x 36, x 37, x 38, x 39, x 40, x 41, x 42, x 43, x 44, x 45, x 46, x 47, x 48, x 49, x 50, x 51, x 52, x 53, x 54, x 55, x 56, x 57, x 58, x 59, x 60, x 61, x 62, x 63, x 64, x 65, x 66, x 67, x 68, x 69, x 70, x 71, x 72, x 73, x 74, x 75, x 76, x 77, x 78, x 79, x 80, x 81, x 82, x 83, x 84, x 85, x 86, x 87, x 88, x 89, x 90, x 91, x 92, x 93, x 94, x 95, x 96, x 97, x 98, x 99, x 100, x 101, x 102, x 103, x 104, x 105, x 106, x 107, x 108, x 109, x 110, x 111, x 112, x 113, x 114, x 115, x 116, x 117, x 118, x 119, x 120, x 121, x 122, x 123, x 124, x 125, x 126, x 127, x 128, x 129, x 130, x 131, x 132, x 133, x 134, x 135, x 136, x 137, x 138, x 139, x 140, x 141, x 142, x 143, x 144, x 145, x 146, x 147, x 148, x 149, x 150, x 151, x 152, x 153, x 154, x 155, x 156, x 157, x 158, x 159, x 160, x 161, x 162, x 163, x 164, x 165, x 166, x 167, x 168, x 169, x 170, x 171, x 172, x 173, x 174, x 175, x 176, x 177, x 178, x 179, x 180, x 181, x 182, x 183, x 184, x 185, x 186, x 187, x 188, x 189, x 190, x 191, x 192, x 193, x 194, x 195, x 196, x 197, x 198, x 199, x 200, x 201, x 202, x 203, x 204, x 205, x 206, x 207, x 208, x 209, x 210, x 211, x 212, x 213, x 214, x 215, x 216, x 217, x 218, x 219, x 220, x 221, x 222, x 223, x 224, x 225, x 226, x 227, x 228, x 229, x 230, x 231, x 232, x 233, x 234, x 235, x 236, x 237, x 238, x 239, x 240, x 241, x 242, x 243, x 244, x 245, x 246, x 247, x 248, x 249, x 250, x 251, x 252, x 253, x 254, x 255, x 256, x 257, x 258, x 259, x 260, x 261, x 262, x 263, x 264, x 265, x 266, x 267, x 268, x 269, x 270, x 271, x 272, x 273, x 274, x 275, x 276, x 277, x 278, x 279, x 280, x 281, x 282, x 283, x 284, x 285, x 286, x 287, x 288, x 289, x 290, x 291, x 292, x 293, x 294, x 295, x 296, x 297, x 298, x 299, x 300, x 301, x 302, x 303, x 304, x 305, x 306, x 307, x 308, x 309, x 310, x 311, x 312, x 313, x 314, x 315, x 316, x 317, x 318, x 319, x 320, x 321, x 322, x 323, x 324, x 325, x 326, x 327, x 328, x 329, x 330, x 331, x 332, x 333, x 334, x 335, x 336, x 337, x 338, x 339, x 340, x 341, x 342], []⟩
/-- what is known where the stock's loop begins -/
def RTop (w0 : World) (a : Act) (w : World) : Prop := ∃ (xs us : List Bin) (nm : ByteArray) (m c3 : Int) (sv uu : Value) (x : Nat → Value), a = mkTop sv nm m uu c3 x ∧ UsePieces_r xs nm m = (us, c3) ∧ Sl eBin w sv xs ∧ Sl eBin w uu us ∧ Below w0.heap.size w0 w
theorem rtop_of {w0 w : World} {a : Act} (xs us : List Bin) (nm : ByteArray) (m c3 : Int) (sv uu : Value) (h : a = mkTop sv nm m uu c3 (fun k => a.tmps.getD k undef)) (h1 : UsePieces_r xs nm m = (us, c3)) (h2 : Sl eBin w sv xs) (h3 : Sl eBin w uu us) (h4 : Below w0.heap.size w0 w) : RTop w0 a w := ⟨xs, us, nm, m, c3, sv, uu, _, h, h1, h2, h3, h4⟩
set_option maxHeartbeats 64000000 in
set_option maxRecDepth 100000 in
theorem top_rest_ex (w0 : World) : ∃ c, Try.f3.body.bind (restOf 34) = some c ∧ ∀ a w, RTop w0 a w → Code.wp Try.prog c (topPost w0) a w := by
  refine ⟨_, rfl, fun a we h => ?_⟩
  obtain ⟨xs, us, nm, m, c3, sv, uu, x, rfl, hur, hrs, hru, hbw⟩ := h
  have HUR := Lib.hid hur
  have RS := Lib.hid hrs
  have RUU := Lib.hid hru
  have BW := Lib.hid hbw
  clear hur hrs hru hbw
  unfold mkTop
  go_wp2
  rcases Decidable.em (c3 = 0) with hU | hU
  rotate_left
  · have gU : (c3 == 0) = false := by simp [hU]
    clear hU
    refine wp_loop_rounds 1 ?_
    rw [rounds_succ]
    go_wp2
    go_ret
    exact ⟨rfl, BW.out⟩
  · obtain ⟨u1x, u2x, m2, m3, uat⟩ := used_at HUR.out hU
    subst hU
    obtain ⟨AS, caps, rfl, _, hms, hcs⟩ := RS.out.shape
    obtain ⟨AU, capu, rfl, _, hmu, hcu⟩ := RUU.out.shape
    have HCS := Lib.hid hcs
    have HCU := Lib.hid hcu
    have HUAT := Lib.hid uat
    have HUX := Lib.hid u1x
    clear hcs hcu uat u1x
    go_loopg [39] xs.length (fun gi i wr => ∃ k : Nat, k ≤ xs.length ∧ gi = xs.length - k ∧ i = .int .i64 k ∧ Hid (Below we.heap.size we wr))
    case atStart => exact ⟨0, Nat.zero_le _, rfl, rfl, Lib.hid (Below.refl _ _)⟩
    case round =>
      obtain ⟨k, hk, rfl, rfl, HB2⟩ := hrel
      by_cases hlt : k < xs.length
      rotate_left
      · obtain rfl : k = xs.length := by omega
        have hki : ¬ ((xs.length : Int) < (xs.length : Int)) := by omega
        have BE := Lib.hid (Below.step BW.out HB2.out)
        go_wp2
        go_ret
        exact ⟨rfl, BE.out⟩
      have hku : k < us.length := by rw [HUX.out]; exact hlt
      obtain ⟨gs, offs, rfl, hbs, hcells⟩ := HCS.out (by omega)
      obtain ⟨gu, offu, rfl, hbu, hcellu⟩ := HCU.out (by omega)
      have hbw := HB2.out
      have c0 : wr.cell? ⟨gs, offs + k * 5, none⟩ = some (.string xs[k].code) := (hbw.cell (p := ⟨gs, offs + k * 5, none⟩) hbs).trans (by simpa [eBin, Nat.add_assoc] using hcells k hlt 0 _ (by decide) rfl)
      have c1 : wr.cell? ⟨gs, offs + k * 5 + 1, none⟩ = some (.int .i64 xs[k].amount) := (hbw.cell (p := ⟨gs, offs + k * 5 + 1, none⟩) hbs).trans (by simpa [eBin, Nat.add_assoc] using hcells k hlt 1 _ (by decide) rfl)
      have c2 : wr.cell? ⟨gs, offs + k * 5 + 2, none⟩ = some (.int .i64 xs[k].reserved) := (hbw.cell (p := ⟨gs, offs + k * 5 + 2, none⟩) hbs).trans (by simpa [eBin, Nat.add_assoc] using hcells k hlt 2 _ (by decide) rfl)
      have c3 : wr.cell? ⟨gs, offs + k * 5 + 3, none⟩ = some (.int .i64 xs[k].point) := (hbw.cell (p := ⟨gs, offs + k * 5 + 3, none⟩) hbs).trans (by simpa [eBin, Nat.add_assoc] using hcells k hlt 3 _ (by decide) rfl)
      have c4 : wr.cell? ⟨gs, offs + k * 5 + 4, none⟩ = some (.int .i64 xs[k].lot) := (hbw.cell (p := ⟨gs, offs + k * 5 + 4, none⟩) hbs).trans (by simpa [eBin, Nat.add_assoc] using hcells k hlt 4 _ (by decide) rfl)
      have d0 : wr.cell? ⟨gu, offu + k * 5, none⟩ = some (.string us[k].code) := (hbw.cell (p := ⟨gu, offu + k * 5, none⟩) hbu).trans (by simpa [eBin, Nat.add_assoc] using hcellu k hku 0 _ (by decide) rfl)
      have d1 : wr.cell? ⟨gu, offu + k * 5 + 1, none⟩ = some (.int .i64 us[k].amount) := (hbw.cell (p := ⟨gu, offu + k * 5 + 1, none⟩) hbu).trans (by simpa [eBin, Nat.add_assoc] using hcellu k hku 1 _ (by decide) rfl)
      have d2 : wr.cell? ⟨gu, offu + k * 5 + 2, none⟩ = some (.int .i64 us[k].reserved) := (hbw.cell (p := ⟨gu, offu + k * 5 + 2, none⟩) hbu).trans (by simpa [eBin, Nat.add_assoc] using hcellu k hku 2 _ (by decide) rfl)
      have d3 : wr.cell? ⟨gu, offu + k * 5 + 3, none⟩ = some (.int .i64 us[k].point) := (hbw.cell (p := ⟨gu, offu + k * 5 + 3, none⟩) hbu).trans (by simpa [eBin, Nat.add_assoc] using hcellu k hku 3 _ (by decide) rfl)
      have d4 : wr.cell? ⟨gu, offu + k * 5 + 4, none⟩ = some (.int .i64 us[k].lot) := (hbw.cell (p := ⟨gu, offu + k * 5 + 4, none⟩) hbu).trans (by simpa [eBin, Nat.add_assoc] using hcellu k hku 4 _ (by decide) rfl)
      obtain ⟨a0x, a1x, r0x, r1x, y1, y2⟩ := HUAT.out k hlt hku
      have i3 : (k : Int) < (xs.length : Int) := by omega
      have i4 : (0 : Int) ≤ (k : Int) := by omega
      have i5 : (k : Int) < (us.length : Int) := by omega
      have hkw : IntKind.i64.wrap ((k : Int) + 1) = (k : Int) + 1 := IntWalk.i64_in _ (by omega)
      clear hcells hcellu hbw
      rcases hcd : (xs[k].code.toList == nm.toList)
      · have y := y2 hcd
        rw [y] at d0 d1 d2 d3 d4
        clear y y1 y2
        generalize xs[k] = x at *
        obtain ⟨cd, am, re, po, lo⟩ := x
        simp only at *
        go_wp2
        refine wp_region_still_lit (by kernel_rfl) (by kernel_rfl) (Stl.out ?_)
        iterate 24 (refine stl_free rfl (fun K hK => ?_); go_simp; refine hK _ ?_; clear hK K)
        iterate 8 (refine stl_on rfl (by kernel_rfl) (fun K hK => ?_); go_simp; refine hK _ ?_; clear hK K)
        iterate 9 (refine stl_on rfl (by kernel_rfl) (fun K hK => ?_); go_simp; refine hK _ ?_; clear hK K)
        iterate 1 (refine stl_on rfl (by kernel_rfl) (fun K hK => ?_); go_simp; refine hK _ ?_; clear hK K)
        iterate 2 (refine stl_free rfl (fun K hK => ?_); go_simp; refine hK _ ?_; clear hK K)
        iterate 8 (refine stl_on rfl (by kernel_rfl) (fun K hK => ?_); go_simp; refine hK _ ?_; clear hK K)
        iterate 13 (refine stl_off rfl (by kernel_rfl) ?_)
        iterate 1 (refine stl_on rfl (by kernel_rfl) (fun K hK => ?_); go_simp; refine hK _ ?_; clear hK K)
        iterate 1 (refine stl_free rfl (fun K hK => ?_); go_simp; refine hK _ ?_; clear hK K)
        refine stl_nil ?_
        have MK1 : True := trivial
        go_wp2
        go_roundg (xs.length - (k + 1))
        case measure => omega
        case rel => exact ⟨k + 1, by omega, rfl, by go_num, Lib.hid (below_drewN' HB2.out _)⟩
      · have y := y1 hcd
        rw [y] at d0 d1 d2 d3 d4
        unfold usedB at d0 d1 d2 d3 d4
        clear y y1 y2
        generalize xs[k] = x at *
        obtain ⟨cd, am, re, po, lo⟩ := x
        simp only at *
        have w1x : IntKind.i64.wrap (am - m) = am - m := IntWalk.i64_in _ (by omega)
        have w2x : IntKind.i64.wrap (am - (am - m)) = m := by rw [IntWalk.i64_in _ (by omega)]; omega
        have w3x : IntKind.i64.wrap (re - (re - m)) = m := by rw [IntWalk.i64_in _ (by omega)]; omega
        have w4x : IntKind.i64.wrap (am - m + m) = am := by rw [IntWalk.i64_in _ (by omega)]; omega
        have w5x : IntKind.i64.wrap m = m := IntWalk.i64_in _ (by omega)
        have w6x : IntKind.i64.wrap am = am := IntWalk.i64_in _ (by omega)
        go_wp2
        refine wp_region_still_lit (by kernel_rfl) (by kernel_rfl) (Stl.out ?_)
        iterate 24 (refine stl_free rfl (fun K hK => ?_); go_simp; refine hK _ ?_; clear hK K)
        iterate 8 (refine stl_on rfl (by kernel_rfl) (fun K hK => ?_); go_simp; refine hK _ ?_; clear hK K)
        iterate 9 (refine stl_off rfl (by kernel_rfl) ?_)
        iterate 1 (refine stl_on rfl (by kernel_rfl) (fun K hK => ?_); go_simp; refine hK _ ?_; clear hK K)
        iterate 2 (refine stl_free rfl (fun K hK => ?_); go_simp; refine hK _ ?_; clear hK K)
        iterate 8 (refine stl_on rfl (by kernel_rfl) (fun K hK => ?_); go_simp; refine hK _ ?_; clear hK K)
        iterate 13 (refine stl_on rfl (by kernel_rfl) (fun K hK => ?_); go_simp; refine hK _ ?_; clear hK K)
        iterate 1 (refine stl_on rfl (by kernel_rfl) (fun K hK => ?_); go_simp; refine hK _ ?_; clear hK K)
        iterate 1 (refine stl_free rfl (fun K hK => ?_); go_simp; refine hK _ ?_; clear hK K)
        refine stl_nil ?_
        have MK1 : True := trivial
        go_wp2
        go_roundg (xs.length - (k + 1))
        case measure => omega
        case rel => exact ⟨k + 1, by omega, rfl, by go_num, Lib.hid (below_drewN' HB2.out _)⟩
theorem top_rest (w0 : World) (c : Code) (hc : Try.f3.body.bind (restOf 34) = some c) (a : Act) (w : World) (h : RTop w0 a w) : Code.wp Try.prog c (topPost w0) a w := by
  obtain ⟨c', hc', h'⟩ := top_rest_ex w0
  rw [hc] at hc'
  cases hc'
  exact h' a w h
end Go.Proofs.Ytblaojjpclipaaa
