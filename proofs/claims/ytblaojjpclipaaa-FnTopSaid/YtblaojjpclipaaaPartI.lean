/- The contract of the program's IsPart (chapter 16). No statement of the seat is proved here. -/
import Derived.Test.YtblaojjpclipaaaM3
import Derived.Test.YtblaojjpclipaaaReg
import Derived.Deep.RegionHeld3
namespace Go.Proofs.Ytblaojjpclipaaa
open Go.RowKit

theorem isSlot_eq {n : Int} {b : Bool} (h : inR n 0 7 = b) (w : World) : Calls Try.prog 76 #[.int .i64 n] w fun e w' => e = .returned (.bool b) ∧ w = w' := by
  rw [← h]
  exact isSlot_any n w
set_option maxHeartbeats 16000000 in
set_option maxRecDepth 20000 in
theorem iIsPart_any (x : Part) (a : Option Addr) (cap : Nat) (w : World) (hp : Sl ePort w (.slice a x.ports.length cap) x.ports) (hq : x.code.size ≤ 9223372036854775807) :
    Calls Try.prog 52 #[.agg #[Value.string x.code, .int .i64 x.slot, .slice a x.ports.length cap, .int .i64 x.price, .int .i64 x.grams]] w fun e w' => e = .returned (.bool (isPartB x)) ∧ Below w.heap.size w w' := by
  have HB0 := Lib.hid ((Below.refl w.heap.size w).alloc (Nat.le_refl _) (.cells #[.string x.code, .int .i64 x.slot, .slice a x.ports.length cap, .int .i64 x.price, .int .i64 x.grams] 52))
  have hbx : ∀ j, (w.alloc (.cells #[.string x.code, .int .i64 x.slot, .slice a x.ports.length cap, .int .i64 x.price, .int .i64 x.grams] 52)).cell? ⟨w.heap.size, j, none⟩ = #[Value.string x.code, .int .i64 x.slot, .slice a x.ports.length cap, .int .i64 x.price, .int .i64 x.grams][j]? := fun j => box_new _ _ _ j
  have KX : Hid (∀ W, Below (w.alloc (.cells #[.string x.code, .int .i64 x.slot, .slice a x.ports.length cap, .int .i64 x.price, .int .i64 x.grams] 52)).heap.size (w.alloc (.cells #[.string x.code, .int .i64 x.slot, .slice a x.ports.length cap, .int .i64 x.price, .int .i64 x.grams] 52)) W → W.cell? ⟨w.heap.size, 0, none⟩ = some (.string x.code) ∧ W.cell? ⟨w.heap.size, 1, none⟩ = some (.int .i64 x.slot) ∧ W.cell? ⟨w.heap.size, 2, none⟩ = some (.slice a x.ports.length cap) ∧ W.cell? ⟨w.heap.size, 3, none⟩ = some (.int .i64 x.price) ∧ W.cell? ⟨w.heap.size, 4, none⟩ = some (.int .i64 x.grams)) := Lib.hid (fun W h => ⟨(h.cell (p := ⟨w.heap.size, 0, none⟩) (by simp)).trans ((hbx 0).trans rfl), (h.cell (p := ⟨w.heap.size, 1, none⟩) (by simp)).trans ((hbx 1).trans rfl), (h.cell (p := ⟨w.heap.size, 2, none⟩) (by simp)).trans ((hbx 2).trans rfl), (h.cell (p := ⟨w.heap.size, 3, none⟩) (by simp)).trans ((hbx 3).trans rfl), (h.cell (p := ⟨w.heap.size, 4, none⟩) (by simp)).trans ((hbx 4).trans rfl)⟩)
  have EX : Hid (Below (w.alloc (.cells #[.string x.code, .int .i64 x.slot, .slice a x.ports.length cap, .int .i64 x.price, .int .i64 x.grams] 52)).heap.size (w.alloc (.cells #[.string x.code, .int .i64 x.slot, .slice a x.ports.length cap, .int .i64 x.price, .int .i64 x.grams] 52)) (w.alloc (.cells #[.string x.code, .int .i64 x.slot, .slice a x.ports.length cap, .int .i64 x.price, .int .i64 x.grams] 52))) := Lib.hid (Below.refl _ _)
  have HP := Lib.hid (hp.alloc (.cells #[.string x.code, .int .i64 x.slot, .slice a x.ports.length cap, .int .i64 x.price, .int .i64 x.grams] 52))
  have hpc := hp.len
  have hsz : (w.alloc (.cells #[.string x.code, .int .i64 x.slot, .slice a x.ports.length cap, .int .i64 x.price, .int .i64 x.grams] 52)).heap.size = w.heap.size + 1 := by simp
  clear hp hbx
  unfold big40 at hpc
  obtain ⟨cd, sl, ps, pr, gr⟩ := x
  simp only at *
  rcases h1 : isWord cd
  · have H1 := Lib.hid h1
    clear h1
    go_enter Try.func52, Try.ntmps52
    go_wp2_with fail
    refine (iIsWord_eq hq H1.out _).mono ?_
    rintro e w' ⟨rfl, rfl⟩
    go_wp2
    go_ret
    exact ⟨ret_bool (by unfold isPartB; rw [H1.out]; simp), HB0.out⟩
  have H1 := Lib.hid h1
  clear h1
  rcases h2 : inR sl 0 7
  · have H2 := Lib.hid h2
    clear h2
    go_enter Try.func52, Try.ntmps52
    go_wp2_with fail
    refine (iIsWord_eq hq H1.out _).mono ?_
    rintro e w' ⟨rfl, rfl⟩
    go_wp2_with fail
    refine (isSlot_eq H2.out _).mono ?_
    rintro e w' ⟨rfl, rfl⟩
    go_wp2
    go_ret
    exact ⟨ret_bool (by unfold isPartB; rw [H1.out, H2.out]; simp), HB0.out⟩
  have H2 := Lib.hid h2
  clear h2
  by_cases h3 : ps.length ≤ 6
  rotate_left
  · have H3 : Hid (decide (ps.length ≤ 6) = false) := Lib.hid (decide_eq_false h3)
    have h3i : (6 : Int) < (ps.length : Int) := by omega
    go_enter Try.func52, Try.ntmps52
    go_wp2_with fail
    refine (iIsWord_eq hq H1.out _).mono ?_
    rintro e w' ⟨rfl, rfl⟩
    go_wp2_with fail
    refine (isSlot_eq H2.out _).mono ?_
    rintro e w' ⟨rfl, rfl⟩
    go_wp2
    go_ret
    exact ⟨ret_bool (by unfold isPartB; rw [H1.out, H2.out, H3.out]; simp), HB0.out⟩
  have H3 : Hid (decide (ps.length ≤ 6) = true) := Lib.hid (decide_eq_true h3)
  have h3i : ¬ (6 : Int) < (ps.length : Int) := by omega
  rcases h4 : inR pr 0 10000000
  · have H4 := Lib.hid h4
    clear h4
    go_enter Try.func52, Try.ntmps52
    go_wp2_with fail
    refine (iIsWord_eq hq H1.out _).mono ?_
    rintro e w' ⟨rfl, rfl⟩
    go_wp2_with fail
    refine (isSlot_eq H2.out _).mono ?_
    rintro e w' ⟨rfl, rfl⟩
    go_wp2_with fail
    refine (within_eq H4.out _).mono ?_
    rintro e w' ⟨rfl, rfl⟩
    go_wp2
    go_ret
    exact ⟨ret_bool (by unfold isPartB; rw [H1.out, H2.out, H3.out, H4.out]; simp), HB0.out⟩
  have H4 := Lib.hid h4
  clear h4
  rcases h5 : inR gr 0 100000
  · have H5 := Lib.hid h5
    clear h5
    go_enter Try.func52, Try.ntmps52
    go_wp2_with fail
    refine (iIsWord_eq hq H1.out _).mono ?_
    rintro e w' ⟨rfl, rfl⟩
    go_wp2_with fail
    refine (isSlot_eq H2.out _).mono ?_
    rintro e w' ⟨rfl, rfl⟩
    go_wp2_with fail
    refine (within_eq H4.out _).mono ?_
    rintro e w' ⟨rfl, rfl⟩
    go_wp2_with fail
    refine (within_eq H5.out _).mono ?_
    rintro e w' ⟨rfl, rfl⟩
    go_wp2
    go_ret
    exact ⟨ret_bool (by unfold isPartB; rw [H1.out, H2.out, H3.out, H4.out, H5.out]; simp), HB0.out⟩
  have H5 := Lib.hid h5
  clear h5
  go_enter Try.func52, Try.ntmps52
  go_wp2_with fail
  refine (iIsWord_eq hq H1.out _).mono ?_
  rintro e w' ⟨rfl, rfl⟩
  go_wp2_with fail
  refine (isSlot_eq H2.out _).mono ?_
  rintro e w' ⟨rfl, rfl⟩
  go_wp2_with fail
  refine (within_eq H4.out _).mono ?_
  rintro e w' ⟨rfl, rfl⟩
  go_wp2_with fail
  refine (within_eq H5.out _).mono ?_
  rintro e w' ⟨rfl, rfl⟩
  generalize w.alloc (.cells #[.string cd, .int .i64 sl, .slice a ps.length cap, .int .i64 pr, .int .i64 gr] 52) = wb at *
  obtain ⟨X, hX⟩ : ∃ X, w.heap.size = X := ⟨_, rfl⟩
  rw [hX] at KX hsz HB0 ⊢
  obtain ⟨x0, x1, x2, x3, x4⟩ := KX.out _ EX.out
  obtain ⟨A', cap', eA, _, hm, hc⟩ := HP.out.shape
  injection eA with eA1 _ eA3
  subst eA1
  subst eA3
  go_wp2
  go_loopg [36] ps.length (fun gi i wr => ∃ k : Nat, k ≤ ps.length ∧ gi = ps.length - k ∧ i = .int .i64 k ∧ Hid ((List.range k).all (portOk ps) = true) ∧ Hid (Below wb.heap.size wb wr))
  case atStart => exact ⟨0, Nat.zero_le _, rfl, rfl, Lib.hid rfl, EX⟩
  case round =>
    obtain ⟨k, hk, rfl, rfl, HA, HB⟩ := hrel
    clear x0 x1 x2 x3 x4
    by_cases hlt : k < ps.length
    rotate_left
    · obtain rfl : k = ps.length := by omega
      have HF := Lib.hid (HB0.out.trans (HB.out.mono (by omega)))
      go_wp2
      go_ret
      exact ⟨ret_bool (by unfold isPartB; simp only []; rw [H1.out, H2.out, H3.out, H4.out, H5.out, HA.out]; rfl), by rw [hX]; exact HF.out⟩
    obtain ⟨b, off, rfl, hbl, hcell⟩ := hc (by omega)
    have hb := HB.out
    have c0 : wr.cell? ⟨b, off + k * 3, none⟩ = some (.int .i64 ps[k].kind) := (hb.cell (p := ⟨b, off + k * 3, none⟩) hbl).trans (by simpa [ePort, Nat.add_assoc] using hcell k hlt 0 _ (by decide) rfl)
    have c1 : wr.cell? ⟨b, off + k * 3 + 1, none⟩ = some (.int .i64 ps[k].size) := (hb.cell (p := ⟨b, off + k * 3 + 1, none⟩) hbl).trans (by simpa [ePort, Nat.add_assoc] using hcell k hlt 1 _ (by decide) rfl)
    have c2 : wr.cell? ⟨b, off + k * 3 + 2, none⟩ = some (.bool ps[k].plug) := (hb.cell (p := ⟨b, off + k * 3 + 2, none⟩) hbl).trans (by simpa [ePort, Nat.add_assoc] using hcell k hlt 2 _ (by decide) rfl)
    have hdef : portOk ps k = (portB ps[k] && (k == 0 || decide ((ps.getD (k - 1) zPort).kind < ps[k].kind))) := by unfold portOk; rw [getD_at _ _ k hlt]
    have p0 : 0 < k → ∀ W, Below wb.heap.size wb W → W.cell? ⟨b, off + (k - 1) * 3, none⟩ = some (.int .i64 (ps.getD (k - 1) zPort).kind) := fun hp W hW => (hW.cell (p := ⟨b, off + (k - 1) * 3, none⟩) hbl).trans (by rw [getD_at _ _ _ (by omega)]; simpa [ePort] using hcell (k - 1) (by omega) 0 _ (by decide) rfl)
    have hsr := hb.size
    clear hc hcell
    generalize (ps.getD (k - 1) zPort).kind = pk at *
    generalize ps[k] = q at *
    obtain ⟨kd, sz, pl⟩ := q
    simp only at *
    have HD := Lib.hid hdef
    have P0 := Lib.hid p0
    clear hdef p0
    have hbw : Below wb.heap.size wb (wr.alloc (.cells #[.int .i64 kd, .int .i64 sz, .bool pl] 105)) := hb.alloc hsr _
    have hby : ∀ j, (wr.alloc (.cells #[.int .i64 kd, .int .i64 sz, .bool pl] 105)).cell? ⟨wr.heap.size, j, none⟩ = #[Value.int .i64 kd, .int .i64 sz, .bool pl][j]? := fun j => box_new _ _ _ j
    have KY : Hid (∀ W, Below (wr.alloc (.cells #[.int .i64 kd, .int .i64 sz, .bool pl] 105)).heap.size (wr.alloc (.cells #[.int .i64 kd, .int .i64 sz, .bool pl] 105)) W → W.cell? ⟨wr.heap.size, 0, none⟩ = some (.int .i64 kd) ∧ W.cell? ⟨wr.heap.size, 1, none⟩ = some (.int .i64 sz) ∧ W.cell? ⟨wr.heap.size, 2, none⟩ = some (.bool pl)) := Lib.hid (fun W h => ⟨(h.cell (p := ⟨wr.heap.size, 0, none⟩) (by simp)).trans ((hby 0).trans rfl), (h.cell (p := ⟨wr.heap.size, 1, none⟩) (by simp)).trans ((hby 1).trans rfl), (h.cell (p := ⟨wr.heap.size, 2, none⟩) (by simp)).trans ((hby 2).trans rfl)⟩)
    have BWY := Lib.hid hbw
    have hszY : wb.heap.size ≤ (wr.alloc (.cells #[.int .i64 kd, .int .i64 sz, .bool pl] 105)).heap.size := hbw.size
    clear hby hbw hb
    go_wp2
    generalize wr.alloc (.cells #[.int .i64 kd, .int .i64 sz, .bool pl] 105) = wy at *
    obtain ⟨Y, hY⟩ : ∃ Y, wr.heap.size = Y := ⟨_, rfl⟩
    rw [hY] at KY ⊢
    clear hY c0 c1 c2
    have hBP : Hid (∀ W, Below wy.heap.size wy W → Below wb.heap.size wb W) := Lib.hid (fun W h => Below.step BWY.out h)
    have BR : Below wy.heap.size wy wy.drew := (Below.refl _ _).drew
    have FIN : Hid (∀ W, Below wy.heap.size wy W → Below w.heap.size w W) := Lib.hid (fun W h => by rw [hX]; exact HB0.out.trans ((hBP.out W h).mono (by omega)))
    have KEEP : Hid (∀ W, Below wy.heap.size wy W → (W.cell? ⟨X, 0, none⟩ = some (.string cd) ∧ W.cell? ⟨X, 1, none⟩ = some (.int .i64 sl) ∧ W.cell? ⟨X, 2, none⟩ = some (.slice (some ⟨b, off, none⟩) ps.length cap) ∧ W.cell? ⟨X, 3, none⟩ = some (.int .i64 pr) ∧ W.cell? ⟨X, 4, none⟩ = some (.int .i64 gr)) ∧ (W.cell? ⟨Y, 0, none⟩ = some (.int .i64 kd) ∧ W.cell? ⟨Y, 1, none⟩ = some (.int .i64 sz) ∧ W.cell? ⟨Y, 2, none⟩ = some (.bool pl))) := Lib.hid (fun W h => ⟨KX.out W (hBP.out W h), KY.out W h⟩)
    have hm6 : ps.length ≤ 6 := h3
    rcases hB : portB ⟨kd, sz, pl⟩
    · have CP : Hid (∀ W, Below wy.heap.size wy W → Calls Try.prog 77 #[.agg #[.int .i64 kd, .int .i64 sz, .bool pl]] W fun e w' => e = .returned (.bool false) ∧ Below wy.heap.size wy w') := Lib.hid (fun W h => (isPort_any ⟨kd, sz, pl⟩ W).mono fun _ _ hh => ⟨by rw [hh.1, hB], Below.step h hh.2⟩)
      have HBB := Lib.hid hB
      clear hB P0
      have DA : Hid (Below wy.heap.size wy wy) := Lib.hid (Below.refl _ _)
      obtain ⟨mk, hmk⟩ : ∃ mk : Value → Value → Value → Value → Value → Value → Value → Value → Value → Value → Value → Value → Value → Value → Value → Value → Value → Value → Value → Act, mk = (fun x41 x42 x43 x44 x45 x46 x47 x48 x49 x50 x51 x52 x53 x54 x55 x56 x57 x58 x59 => (⟨#[Value.agg #[Value.string cd, Value.int .i64 sl, Value.slice (some ⟨b, off, none⟩) ps.length cap, Value.int .i64 pr, Value.int .i64 gr], Value.pointer (some ⟨X, 0, none⟩), u2, Value.int .i64 ((k : Nat) : Int), Value.pointer (some ⟨Y, 0, none⟩), Value.pointer (some ⟨X, 0, none⟩), Value.string cd, Value.bool true, Value.bool false, Value.bool false, Value.pointer (some ⟨X, 1, none⟩), Value.int .i64 sl, Value.bool true, Value.bool false, Value.bool false, Value.bool false, Value.pointer (some ⟨X, 2, none⟩), Value.slice (some ⟨b, off, none⟩) ps.length cap, Value.int .i64 ((ps.length : Nat) : Int), Value.bool (decide (6 < ((ps.length : Nat) : Int))), Value.bool (decide (6 < ((ps.length : Nat) : Int))), Value.bool (decide (6 < ((ps.length : Nat) : Int))), Value.pointer (some ⟨X, 3, none⟩), Value.int .i64 pr, Value.bool true, Value.bool false, Value.bool (decide (6 < ((ps.length : Nat) : Int))), Value.bool (decide (6 < ((ps.length : Nat) : Int))), Value.pointer (some ⟨X, 4, none⟩), Value.int .i64 gr, Value.bool true, Value.bool false, Value.bool (decide (6 < ((ps.length : Nat) : Int))), Value.pointer (some ⟨X, 2, none⟩), Value.slice (some ⟨b, off, none⟩) ps.length cap, Value.int .i64 ((ps.length : Nat) : Int), Value.int .i64 ((k : Nat) : Int), Value.bool true, Value.int .i64 ((k : Nat) : Int), Value.pointer (some ⟨b, off + k * 3, none⟩), Value.agg #[Value.int .i64 kd, Value.int .i64 sz, Value.bool pl], x41, x42, x43, x44, x45, x46, x47, x48, x49, x50, x51, x52, x53, x54, x55, x56, x57, x58, x59, u60], []⟩ : Act)) := ⟨_, rfl⟩
      refine wp_region_inv (by kernel_rfl) ([[], [0], [1], [2, 1], [3], [4, 3], [5, 3, 3], [6], [7, 6], [6], [9, 6], [8, 10, 6], [11, 6], [12, 6], [6], [14, 6], [13, 15, 6], [6, 16, 3], [3, 17]] : List (List Nat)) (by kernel_rfl) (by kernel_rfl) (fun f az u => ∃ x41 x42 x43 x44 x45 x46 x47 x48 x49 x50 x51 x52 x53 x54 x55 x56 x57 x58 x59 : Value, az = mk x41 x42 x43 x44 x45 x46 x47 x48 x49 x50 x51 x52 x53 x54 x55 x56 x57 x58 x59 ∧ (Below wy.heap.size wy u) ∧ (f 0 = true → x41 = .agg #[.int .i64 kd, .int .i64 sz, .bool pl]) ∧ (f 1 = true → x42 = .bool false) ∧ (f 2 = true → x43 = .bool true) ∧ (f 3 = true → x44 = .bool true) ∧ (f 4 = true → x45 = undef) ∧ (f 5 = true → x46 = undef) ∧ (f 6 = true → x47 = undef) ∧ (f 7 = true → x48 = undef) ∧ (f 8 = true → x49 = undef) ∧ (f 9 = true → x50 = undef) ∧ (f 10 = true → x51 = undef) ∧ (f 11 = true → x52 = undef) ∧ (f 12 = true → x53 = undef) ∧ (f 13 = true → x54 = undef) ∧ (f 14 = true → x55 = undef) ∧ (f 15 = true → x56 = undef) ∧ (f 16 = true → x57 = undef) ∧ (f 17 = true → x58 = undef) ∧ (f 18 = true → x59 = .bool true)) ?_ ?_ ?_
      · subst hmk
        exact ⟨_, _, _, _, _, _, _, _, _, _, _, _, _, _, _, _, _, _, _, rfl, DA.out.drew, fun h => (by cases h), fun h => (by cases h), fun h => (by cases h), fun h => (by cases h), fun h => (by cases h), fun h => (by cases h), fun h => (by cases h), fun h => (by cases h), fun h => (by cases h), fun h => (by cases h), fun h => (by cases h), fun h => (by cases h), fun h => (by cases h), fun h => (by cases h), fun h => (by cases h), fun h => (by cases h), fun h => (by cases h), fun h => (by cases h), fun h => (by cases h)⟩
      · show ∀ i, i < 19 → _
        refine below_succ ?_ ?_
        · intro f az u hf hd hcl hI
          obtain ⟨x41, x42, x43, x44, x45, x46, x47, x48, x49, x50, x51, x52, x53, x54, x55, x56, x57, x58, x59, rfl, gD, gG⟩ := hI
          subst hmk
          have e3 := gG.2.2.2.1 (hd 3 (by decide))
          subst e3
          have e17 := gG.2.2.2.2.2.2.2.2.2.2.2.2.2.2.2.2.2.1 (hd 17 (by decide))
          subst e17
          refine wpOp_step rfl (fun K hK => ?_)
          go_simp
          refine hK _ _ ?_
          refine ⟨_, _, _, _, _, _, _, _, _, _, _, _, _, _, _, _, _, _, _, rfl, gD, fun h => gG.1 h, fun h => gG.2.1 h, fun h => gG.2.2.1 h, fun h => gG.2.2.2.1 h, fun h => gG.2.2.2.2.1 h, fun h => gG.2.2.2.2.2.1 h, fun h => gG.2.2.2.2.2.2.1 h, fun h => gG.2.2.2.2.2.2.2.1 h, fun h => gG.2.2.2.2.2.2.2.2.1 h, fun h => gG.2.2.2.2.2.2.2.2.2.1 h, fun h => gG.2.2.2.2.2.2.2.2.2.2.1 h, fun h => gG.2.2.2.2.2.2.2.2.2.2.2.1 h, fun h => gG.2.2.2.2.2.2.2.2.2.2.2.2.1 h, fun h => gG.2.2.2.2.2.2.2.2.2.2.2.2.2.1 h, fun h => gG.2.2.2.2.2.2.2.2.2.2.2.2.2.2.1 h, fun h => gG.2.2.2.2.2.2.2.2.2.2.2.2.2.2.2.1 h, fun h => gG.2.2.2.2.2.2.2.2.2.2.2.2.2.2.2.2.1 h, fun h => gG.2.2.2.2.2.2.2.2.2.2.2.2.2.2.2.2.2.1 h, fun _ => (by first | rfl | simp)⟩
        refine below_succ ?_ ?_
        · intro f az u hf hd hcl hI
          obtain ⟨x41, x42, x43, x44, x45, x46, x47, x48, x49, x50, x51, x52, x53, x54, x55, x56, x57, x58, x59, rfl, gD, gG⟩ := hI
          subst hmk
          have e3 := gG.2.2.2.1 (hd 3 (by decide))
          subst e3
          refine wpOp_step rfl (fun K hK => ?_)
          refine skip_op rfl ?_
          try go_simp
          refine hK _ _ ?_
          refine ⟨_, _, _, _, _, _, _, _, _, _, _, _, _, _, _, _, _, _, _, rfl, gD, fun h => gG.1 h, fun h => gG.2.1 h, fun h => gG.2.2.1 h, fun h => gG.2.2.2.1 h, fun h => gG.2.2.2.2.1 h, fun h => gG.2.2.2.2.2.1 h, fun h => gG.2.2.2.2.2.2.1 h, fun h => gG.2.2.2.2.2.2.2.1 h, fun h => gG.2.2.2.2.2.2.2.2.1 h, fun h => gG.2.2.2.2.2.2.2.2.2.1 h, fun h => gG.2.2.2.2.2.2.2.2.2.2.1 h, fun h => gG.2.2.2.2.2.2.2.2.2.2.2.1 h, fun h => gG.2.2.2.2.2.2.2.2.2.2.2.2.1 h, fun h => gG.2.2.2.2.2.2.2.2.2.2.2.2.2.1 h, fun h => gG.2.2.2.2.2.2.2.2.2.2.2.2.2.2.1 h, fun h => gG.2.2.2.2.2.2.2.2.2.2.2.2.2.2.2.1 h, fun h => gG.2.2.2.2.2.2.2.2.2.2.2.2.2.2.2.2.1 h, fun _ => rfl, fun h => gG.2.2.2.2.2.2.2.2.2.2.2.2.2.2.2.2.2.2 h⟩
        refine below_succ ?_ ?_
        · intro f az u hf hd hcl hI
          obtain ⟨x41, x42, x43, x44, x45, x46, x47, x48, x49, x50, x51, x52, x53, x54, x55, x56, x57, x58, x59, rfl, gD, gG⟩ := hI
          subst hmk
          have e6 := gG.2.2.2.2.2.2.1 (hd 6 (by decide))
          subst e6
          refine wpOp_step rfl (fun K hK => ?_)
          refine skip_op rfl ?_
          try go_simp
          refine hK _ _ ?_
          refine ⟨_, _, _, _, _, _, _, _, _, _, _, _, _, _, _, _, _, _, _, rfl, gD, fun h => gG.1 h, fun h => gG.2.1 h, fun h => gG.2.2.1 h, fun h => gG.2.2.2.1 h, fun h => gG.2.2.2.2.1 h, fun h => gG.2.2.2.2.2.1 h, fun h => gG.2.2.2.2.2.2.1 h, fun h => gG.2.2.2.2.2.2.2.1 h, fun h => gG.2.2.2.2.2.2.2.2.1 h, fun h => gG.2.2.2.2.2.2.2.2.2.1 h, fun h => gG.2.2.2.2.2.2.2.2.2.2.1 h, fun h => gG.2.2.2.2.2.2.2.2.2.2.2.1 h, fun h => gG.2.2.2.2.2.2.2.2.2.2.2.2.1 h, fun h => gG.2.2.2.2.2.2.2.2.2.2.2.2.2.1 h, fun h => gG.2.2.2.2.2.2.2.2.2.2.2.2.2.2.1 h, fun h => gG.2.2.2.2.2.2.2.2.2.2.2.2.2.2.2.1 h, fun _ => rfl, fun h => gG.2.2.2.2.2.2.2.2.2.2.2.2.2.2.2.2.2.1 h, fun h => gG.2.2.2.2.2.2.2.2.2.2.2.2.2.2.2.2.2.2 h⟩
        refine below_succ ?_ ?_
        · intro f az u hf hd hcl hI
          obtain ⟨x41, x42, x43, x44, x45, x46, x47, x48, x49, x50, x51, x52, x53, x54, x55, x56, x57, x58, x59, rfl, gD, gG⟩ := hI
          subst hmk
          have e6 := gG.2.2.2.2.2.2.1 (hd 6 (by decide))
          subst e6
          refine wpOp_step rfl (fun K hK => ?_)
          refine skip_op rfl ?_
          try go_simp
          refine hK _ _ ?_
          refine ⟨_, _, _, _, _, _, _, _, _, _, _, _, _, _, _, _, _, _, _, rfl, gD, fun h => gG.1 h, fun h => gG.2.1 h, fun h => gG.2.2.1 h, fun h => gG.2.2.2.1 h, fun h => gG.2.2.2.2.1 h, fun h => gG.2.2.2.2.2.1 h, fun h => gG.2.2.2.2.2.2.1 h, fun h => gG.2.2.2.2.2.2.2.1 h, fun h => gG.2.2.2.2.2.2.2.2.1 h, fun h => gG.2.2.2.2.2.2.2.2.2.1 h, fun h => gG.2.2.2.2.2.2.2.2.2.2.1 h, fun h => gG.2.2.2.2.2.2.2.2.2.2.2.1 h, fun h => gG.2.2.2.2.2.2.2.2.2.2.2.2.1 h, fun h => gG.2.2.2.2.2.2.2.2.2.2.2.2.2.1 h, fun h => gG.2.2.2.2.2.2.2.2.2.2.2.2.2.2.1 h, fun _ => rfl, fun h => gG.2.2.2.2.2.2.2.2.2.2.2.2.2.2.2.2.1 h, fun h => gG.2.2.2.2.2.2.2.2.2.2.2.2.2.2.2.2.2.1 h, fun h => gG.2.2.2.2.2.2.2.2.2.2.2.2.2.2.2.2.2.2 h⟩
        refine below_succ ?_ ?_
        · intro f az u hf hd hcl hI
          obtain ⟨x41, x42, x43, x44, x45, x46, x47, x48, x49, x50, x51, x52, x53, x54, x55, x56, x57, x58, x59, rfl, gD, gG⟩ := hI
          subst hmk
          have e6 := gG.2.2.2.2.2.2.1 (hd 6 (by decide))
          subst e6
          refine wpOp_step rfl (fun K hK => ?_)
          refine skip_op rfl ?_
          try go_simp
          refine hK _ _ ?_
          refine ⟨_, _, _, _, _, _, _, _, _, _, _, _, _, _, _, _, _, _, _, rfl, gD, fun h => gG.1 h, fun h => gG.2.1 h, fun h => gG.2.2.1 h, fun h => gG.2.2.2.1 h, fun h => gG.2.2.2.2.1 h, fun h => gG.2.2.2.2.2.1 h, fun h => gG.2.2.2.2.2.2.1 h, fun h => gG.2.2.2.2.2.2.2.1 h, fun h => gG.2.2.2.2.2.2.2.2.1 h, fun h => gG.2.2.2.2.2.2.2.2.2.1 h, fun h => gG.2.2.2.2.2.2.2.2.2.2.1 h, fun h => gG.2.2.2.2.2.2.2.2.2.2.2.1 h, fun h => gG.2.2.2.2.2.2.2.2.2.2.2.2.1 h, fun h => gG.2.2.2.2.2.2.2.2.2.2.2.2.2.1 h, fun _ => rfl, fun h => gG.2.2.2.2.2.2.2.2.2.2.2.2.2.2.2.1 h, fun h => gG.2.2.2.2.2.2.2.2.2.2.2.2.2.2.2.2.1 h, fun h => gG.2.2.2.2.2.2.2.2.2.2.2.2.2.2.2.2.2.1 h, fun h => gG.2.2.2.2.2.2.2.2.2.2.2.2.2.2.2.2.2.2 h⟩
        refine below_succ ?_ ?_
        · intro f az u hf hd hcl hI
          obtain ⟨x41, x42, x43, x44, x45, x46, x47, x48, x49, x50, x51, x52, x53, x54, x55, x56, x57, x58, x59, rfl, gD, gG⟩ := hI
          subst hmk
          have e6 := gG.2.2.2.2.2.2.1 (hd 6 (by decide))
          subst e6
          refine wpOp_step rfl (fun K hK => ?_)
          refine skip_op rfl ?_
          try go_simp
          refine hK _ _ ?_
          refine ⟨_, _, _, _, _, _, _, _, _, _, _, _, _, _, _, _, _, _, _, rfl, gD, fun h => gG.1 h, fun h => gG.2.1 h, fun h => gG.2.2.1 h, fun h => gG.2.2.2.1 h, fun h => gG.2.2.2.2.1 h, fun h => gG.2.2.2.2.2.1 h, fun h => gG.2.2.2.2.2.2.1 h, fun h => gG.2.2.2.2.2.2.2.1 h, fun h => gG.2.2.2.2.2.2.2.2.1 h, fun h => gG.2.2.2.2.2.2.2.2.2.1 h, fun h => gG.2.2.2.2.2.2.2.2.2.2.1 h, fun h => gG.2.2.2.2.2.2.2.2.2.2.2.1 h, fun h => gG.2.2.2.2.2.2.2.2.2.2.2.2.1 h, fun _ => rfl, fun h => gG.2.2.2.2.2.2.2.2.2.2.2.2.2.2.1 h, fun h => gG.2.2.2.2.2.2.2.2.2.2.2.2.2.2.2.1 h, fun h => gG.2.2.2.2.2.2.2.2.2.2.2.2.2.2.2.2.1 h, fun h => gG.2.2.2.2.2.2.2.2.2.2.2.2.2.2.2.2.2.1 h, fun h => gG.2.2.2.2.2.2.2.2.2.2.2.2.2.2.2.2.2.2 h⟩
        refine below_succ ?_ ?_
        · intro f az u hf hd hcl hI
          obtain ⟨x41, x42, x43, x44, x45, x46, x47, x48, x49, x50, x51, x52, x53, x54, x55, x56, x57, x58, x59, rfl, gD, gG⟩ := hI
          subst hmk
          have e6 := gG.2.2.2.2.2.2.1 (hd 6 (by decide))
          subst e6
          refine wpOp_step rfl (fun K hK => ?_)
          refine skip_op rfl ?_
          try go_simp
          refine hK _ _ ?_
          refine ⟨_, _, _, _, _, _, _, _, _, _, _, _, _, _, _, _, _, _, _, rfl, gD, fun h => gG.1 h, fun h => gG.2.1 h, fun h => gG.2.2.1 h, fun h => gG.2.2.2.1 h, fun h => gG.2.2.2.2.1 h, fun h => gG.2.2.2.2.2.1 h, fun h => gG.2.2.2.2.2.2.1 h, fun h => gG.2.2.2.2.2.2.2.1 h, fun h => gG.2.2.2.2.2.2.2.2.1 h, fun h => gG.2.2.2.2.2.2.2.2.2.1 h, fun h => gG.2.2.2.2.2.2.2.2.2.2.1 h, fun h => gG.2.2.2.2.2.2.2.2.2.2.2.1 h, fun _ => rfl, fun h => gG.2.2.2.2.2.2.2.2.2.2.2.2.2.1 h, fun h => gG.2.2.2.2.2.2.2.2.2.2.2.2.2.2.1 h, fun h => gG.2.2.2.2.2.2.2.2.2.2.2.2.2.2.2.1 h, fun h => gG.2.2.2.2.2.2.2.2.2.2.2.2.2.2.2.2.1 h, fun h => gG.2.2.2.2.2.2.2.2.2.2.2.2.2.2.2.2.2.1 h, fun h => gG.2.2.2.2.2.2.2.2.2.2.2.2.2.2.2.2.2.2 h⟩
        refine below_succ ?_ ?_
        · intro f az u hf hd hcl hI
          obtain ⟨x41, x42, x43, x44, x45, x46, x47, x48, x49, x50, x51, x52, x53, x54, x55, x56, x57, x58, x59, rfl, gD, gG⟩ := hI
          subst hmk
          have e6 := gG.2.2.2.2.2.2.1 (hd 6 (by decide))
          subst e6
          refine wpOp_step rfl (fun K hK => ?_)
          refine skip_op rfl ?_
          try go_simp
          refine hK _ _ ?_
          refine ⟨_, _, _, _, _, _, _, _, _, _, _, _, _, _, _, _, _, _, _, rfl, gD, fun h => gG.1 h, fun h => gG.2.1 h, fun h => gG.2.2.1 h, fun h => gG.2.2.2.1 h, fun h => gG.2.2.2.2.1 h, fun h => gG.2.2.2.2.2.1 h, fun h => gG.2.2.2.2.2.2.1 h, fun h => gG.2.2.2.2.2.2.2.1 h, fun h => gG.2.2.2.2.2.2.2.2.1 h, fun h => gG.2.2.2.2.2.2.2.2.2.1 h, fun h => gG.2.2.2.2.2.2.2.2.2.2.1 h, fun _ => rfl, fun h => gG.2.2.2.2.2.2.2.2.2.2.2.2.1 h, fun h => gG.2.2.2.2.2.2.2.2.2.2.2.2.2.1 h, fun h => gG.2.2.2.2.2.2.2.2.2.2.2.2.2.2.1 h, fun h => gG.2.2.2.2.2.2.2.2.2.2.2.2.2.2.2.1 h, fun h => gG.2.2.2.2.2.2.2.2.2.2.2.2.2.2.2.2.1 h, fun h => gG.2.2.2.2.2.2.2.2.2.2.2.2.2.2.2.2.2.1 h, fun h => gG.2.2.2.2.2.2.2.2.2.2.2.2.2.2.2.2.2.2 h⟩
        refine below_succ ?_ ?_
        · intro f az u hf hd hcl hI
          obtain ⟨x41, x42, x43, x44, x45, x46, x47, x48, x49, x50, x51, x52, x53, x54, x55, x56, x57, x58, x59, rfl, gD, gG⟩ := hI
          subst hmk
          have e6 := gG.2.2.2.2.2.2.1 (hd 6 (by decide))
          subst e6
          refine wpOp_step rfl (fun K hK => ?_)
          refine skip_op rfl ?_
          try go_simp
          refine hK _ _ ?_
          refine ⟨_, _, _, _, _, _, _, _, _, _, _, _, _, _, _, _, _, _, _, rfl, gD, fun h => gG.1 h, fun h => gG.2.1 h, fun h => gG.2.2.1 h, fun h => gG.2.2.2.1 h, fun h => gG.2.2.2.2.1 h, fun h => gG.2.2.2.2.2.1 h, fun h => gG.2.2.2.2.2.2.1 h, fun h => gG.2.2.2.2.2.2.2.1 h, fun h => gG.2.2.2.2.2.2.2.2.1 h, fun h => gG.2.2.2.2.2.2.2.2.2.1 h, fun _ => rfl, fun h => gG.2.2.2.2.2.2.2.2.2.2.2.1 h, fun h => gG.2.2.2.2.2.2.2.2.2.2.2.2.1 h, fun h => gG.2.2.2.2.2.2.2.2.2.2.2.2.2.1 h, fun h => gG.2.2.2.2.2.2.2.2.2.2.2.2.2.2.1 h, fun h => gG.2.2.2.2.2.2.2.2.2.2.2.2.2.2.2.1 h, fun h => gG.2.2.2.2.2.2.2.2.2.2.2.2.2.2.2.2.1 h, fun h => gG.2.2.2.2.2.2.2.2.2.2.2.2.2.2.2.2.2.1 h, fun h => gG.2.2.2.2.2.2.2.2.2.2.2.2.2.2.2.2.2.2 h⟩
        refine below_succ ?_ ?_
        · intro f az u hf hd hcl hI
          obtain ⟨x41, x42, x43, x44, x45, x46, x47, x48, x49, x50, x51, x52, x53, x54, x55, x56, x57, x58, x59, rfl, gD, gG⟩ := hI
          subst hmk
          have e6 := gG.2.2.2.2.2.2.1 (hd 6 (by decide))
          subst e6
          refine wpOp_step rfl (fun K hK => ?_)
          refine skip_op rfl ?_
          try go_simp
          refine hK _ _ ?_
          refine ⟨_, _, _, _, _, _, _, _, _, _, _, _, _, _, _, _, _, _, _, rfl, gD, fun h => gG.1 h, fun h => gG.2.1 h, fun h => gG.2.2.1 h, fun h => gG.2.2.2.1 h, fun h => gG.2.2.2.2.1 h, fun h => gG.2.2.2.2.2.1 h, fun h => gG.2.2.2.2.2.2.1 h, fun h => gG.2.2.2.2.2.2.2.1 h, fun h => gG.2.2.2.2.2.2.2.2.1 h, fun _ => rfl, fun h => gG.2.2.2.2.2.2.2.2.2.2.1 h, fun h => gG.2.2.2.2.2.2.2.2.2.2.2.1 h, fun h => gG.2.2.2.2.2.2.2.2.2.2.2.2.1 h, fun h => gG.2.2.2.2.2.2.2.2.2.2.2.2.2.1 h, fun h => gG.2.2.2.2.2.2.2.2.2.2.2.2.2.2.1 h, fun h => gG.2.2.2.2.2.2.2.2.2.2.2.2.2.2.2.1 h, fun h => gG.2.2.2.2.2.2.2.2.2.2.2.2.2.2.2.2.1 h, fun h => gG.2.2.2.2.2.2.2.2.2.2.2.2.2.2.2.2.2.1 h, fun h => gG.2.2.2.2.2.2.2.2.2.2.2.2.2.2.2.2.2.2 h⟩
        refine below_succ ?_ ?_
        · intro f az u hf hd hcl hI
          obtain ⟨x41, x42, x43, x44, x45, x46, x47, x48, x49, x50, x51, x52, x53, x54, x55, x56, x57, x58, x59, rfl, gD, gG⟩ := hI
          subst hmk
          have e6 := gG.2.2.2.2.2.2.1 (hd 6 (by decide))
          subst e6
          refine wpOp_step rfl (fun K hK => ?_)
          refine skip_op rfl ?_
          try go_simp
          refine hK _ _ ?_
          refine ⟨_, _, _, _, _, _, _, _, _, _, _, _, _, _, _, _, _, _, _, rfl, gD, fun h => gG.1 h, fun h => gG.2.1 h, fun h => gG.2.2.1 h, fun h => gG.2.2.2.1 h, fun h => gG.2.2.2.2.1 h, fun h => gG.2.2.2.2.2.1 h, fun h => gG.2.2.2.2.2.2.1 h, fun h => gG.2.2.2.2.2.2.2.1 h, fun _ => rfl, fun h => gG.2.2.2.2.2.2.2.2.2.1 h, fun h => gG.2.2.2.2.2.2.2.2.2.2.1 h, fun h => gG.2.2.2.2.2.2.2.2.2.2.2.1 h, fun h => gG.2.2.2.2.2.2.2.2.2.2.2.2.1 h, fun h => gG.2.2.2.2.2.2.2.2.2.2.2.2.2.1 h, fun h => gG.2.2.2.2.2.2.2.2.2.2.2.2.2.2.1 h, fun h => gG.2.2.2.2.2.2.2.2.2.2.2.2.2.2.2.1 h, fun h => gG.2.2.2.2.2.2.2.2.2.2.2.2.2.2.2.2.1 h, fun h => gG.2.2.2.2.2.2.2.2.2.2.2.2.2.2.2.2.2.1 h, fun h => gG.2.2.2.2.2.2.2.2.2.2.2.2.2.2.2.2.2.2 h⟩
        refine below_succ ?_ ?_
        · intro f az u hf hd hcl hI
          obtain ⟨x41, x42, x43, x44, x45, x46, x47, x48, x49, x50, x51, x52, x53, x54, x55, x56, x57, x58, x59, rfl, gD, gG⟩ := hI
          subst hmk
          have e6 := gG.2.2.2.2.2.2.1 (hd 6 (by decide))
          subst e6
          refine wpOp_step rfl (fun K hK => ?_)
          refine skip_op rfl ?_
          try go_simp
          refine hK _ _ ?_
          refine ⟨_, _, _, _, _, _, _, _, _, _, _, _, _, _, _, _, _, _, _, rfl, gD, fun h => gG.1 h, fun h => gG.2.1 h, fun h => gG.2.2.1 h, fun h => gG.2.2.2.1 h, fun h => gG.2.2.2.2.1 h, fun h => gG.2.2.2.2.2.1 h, fun h => gG.2.2.2.2.2.2.1 h, fun _ => rfl, fun h => gG.2.2.2.2.2.2.2.2.1 h, fun h => gG.2.2.2.2.2.2.2.2.2.1 h, fun h => gG.2.2.2.2.2.2.2.2.2.2.1 h, fun h => gG.2.2.2.2.2.2.2.2.2.2.2.1 h, fun h => gG.2.2.2.2.2.2.2.2.2.2.2.2.1 h, fun h => gG.2.2.2.2.2.2.2.2.2.2.2.2.2.1 h, fun h => gG.2.2.2.2.2.2.2.2.2.2.2.2.2.2.1 h, fun h => gG.2.2.2.2.2.2.2.2.2.2.2.2.2.2.2.1 h, fun h => gG.2.2.2.2.2.2.2.2.2.2.2.2.2.2.2.2.1 h, fun h => gG.2.2.2.2.2.2.2.2.2.2.2.2.2.2.2.2.2.1 h, fun h => gG.2.2.2.2.2.2.2.2.2.2.2.2.2.2.2.2.2.2 h⟩
        refine below_succ ?_ ?_
        · intro f az u hf hd hcl hI
          obtain ⟨x41, x42, x43, x44, x45, x46, x47, x48, x49, x50, x51, x52, x53, x54, x55, x56, x57, x58, x59, rfl, gD, gG⟩ := hI
          subst hmk
          have e3 := gG.2.2.2.1 (hd 3 (by decide))
          subst e3
          refine wpOp_step rfl (fun K hK => ?_)
          refine skip_op rfl ?_
          try go_simp
          refine hK _ _ ?_
          refine ⟨_, _, _, _, _, _, _, _, _, _, _, _, _, _, _, _, _, _, _, rfl, gD, fun h => gG.1 h, fun h => gG.2.1 h, fun h => gG.2.2.1 h, fun h => gG.2.2.2.1 h, fun h => gG.2.2.2.2.1 h, fun h => gG.2.2.2.2.2.1 h, fun _ => rfl, fun h => gG.2.2.2.2.2.2.2.1 h, fun h => gG.2.2.2.2.2.2.2.2.1 h, fun h => gG.2.2.2.2.2.2.2.2.2.1 h, fun h => gG.2.2.2.2.2.2.2.2.2.2.1 h, fun h => gG.2.2.2.2.2.2.2.2.2.2.2.1 h, fun h => gG.2.2.2.2.2.2.2.2.2.2.2.2.1 h, fun h => gG.2.2.2.2.2.2.2.2.2.2.2.2.2.1 h, fun h => gG.2.2.2.2.2.2.2.2.2.2.2.2.2.2.1 h, fun h => gG.2.2.2.2.2.2.2.2.2.2.2.2.2.2.2.1 h, fun h => gG.2.2.2.2.2.2.2.2.2.2.2.2.2.2.2.2.1 h, fun h => gG.2.2.2.2.2.2.2.2.2.2.2.2.2.2.2.2.2.1 h, fun h => gG.2.2.2.2.2.2.2.2.2.2.2.2.2.2.2.2.2.2 h⟩
        refine below_succ ?_ ?_
        · intro f az u hf hd hcl hI
          obtain ⟨x41, x42, x43, x44, x45, x46, x47, x48, x49, x50, x51, x52, x53, x54, x55, x56, x57, x58, x59, rfl, gD, gG⟩ := hI
          subst hmk
          have e3 := gG.2.2.2.1 (hd 3 (by decide))
          subst e3
          refine wpOp_step rfl (fun K hK => ?_)
          refine skip_op rfl ?_
          try go_simp
          refine hK _ _ ?_
          refine ⟨_, _, _, _, _, _, _, _, _, _, _, _, _, _, _, _, _, _, _, rfl, gD, fun h => gG.1 h, fun h => gG.2.1 h, fun h => gG.2.2.1 h, fun h => gG.2.2.2.1 h, fun h => gG.2.2.2.2.1 h, fun _ => rfl, fun h => gG.2.2.2.2.2.2.1 h, fun h => gG.2.2.2.2.2.2.2.1 h, fun h => gG.2.2.2.2.2.2.2.2.1 h, fun h => gG.2.2.2.2.2.2.2.2.2.1 h, fun h => gG.2.2.2.2.2.2.2.2.2.2.1 h, fun h => gG.2.2.2.2.2.2.2.2.2.2.2.1 h, fun h => gG.2.2.2.2.2.2.2.2.2.2.2.2.1 h, fun h => gG.2.2.2.2.2.2.2.2.2.2.2.2.2.1 h, fun h => gG.2.2.2.2.2.2.2.2.2.2.2.2.2.2.1 h, fun h => gG.2.2.2.2.2.2.2.2.2.2.2.2.2.2.2.1 h, fun h => gG.2.2.2.2.2.2.2.2.2.2.2.2.2.2.2.2.1 h, fun h => gG.2.2.2.2.2.2.2.2.2.2.2.2.2.2.2.2.2.1 h, fun h => gG.2.2.2.2.2.2.2.2.2.2.2.2.2.2.2.2.2.2 h⟩
        refine below_succ ?_ ?_
        · intro f az u hf hd hcl hI
          obtain ⟨x41, x42, x43, x44, x45, x46, x47, x48, x49, x50, x51, x52, x53, x54, x55, x56, x57, x58, x59, rfl, gD, gG⟩ := hI
          subst hmk
          have e3 := gG.2.2.2.1 (hd 3 (by decide))
          subst e3
          refine wpOp_step rfl (fun K hK => ?_)
          refine skip_op rfl ?_
          try go_simp
          refine hK _ _ ?_
          refine ⟨_, _, _, _, _, _, _, _, _, _, _, _, _, _, _, _, _, _, _, rfl, gD, fun h => gG.1 h, fun h => gG.2.1 h, fun h => gG.2.2.1 h, fun h => gG.2.2.2.1 h, fun _ => rfl, fun h => gG.2.2.2.2.2.1 h, fun h => gG.2.2.2.2.2.2.1 h, fun h => gG.2.2.2.2.2.2.2.1 h, fun h => gG.2.2.2.2.2.2.2.2.1 h, fun h => gG.2.2.2.2.2.2.2.2.2.1 h, fun h => gG.2.2.2.2.2.2.2.2.2.2.1 h, fun h => gG.2.2.2.2.2.2.2.2.2.2.2.1 h, fun h => gG.2.2.2.2.2.2.2.2.2.2.2.2.1 h, fun h => gG.2.2.2.2.2.2.2.2.2.2.2.2.2.1 h, fun h => gG.2.2.2.2.2.2.2.2.2.2.2.2.2.2.1 h, fun h => gG.2.2.2.2.2.2.2.2.2.2.2.2.2.2.2.1 h, fun h => gG.2.2.2.2.2.2.2.2.2.2.2.2.2.2.2.2.1 h, fun h => gG.2.2.2.2.2.2.2.2.2.2.2.2.2.2.2.2.2.1 h, fun h => gG.2.2.2.2.2.2.2.2.2.2.2.2.2.2.2.2.2.2 h⟩
        refine below_succ ?_ ?_
        · intro f az u hf hd hcl hI
          obtain ⟨x41, x42, x43, x44, x45, x46, x47, x48, x49, x50, x51, x52, x53, x54, x55, x56, x57, x58, x59, rfl, gD, gG⟩ := hI
          subst hmk
          have ef := gG.2.2.1 (hd 2 (by decide))
          subst ef
          refine wpOp_step rfl (fun K hK => ?_)
          go_simp
          refine hK _ _ ?_
          refine ⟨_, _, _, _, _, _, _, _, _, _, _, _, _, _, _, _, _, _, _, rfl, gD, fun h => gG.1 h, fun h => gG.2.1 h, fun h => gG.2.2.1 h, fun _ => rfl, fun h => gG.2.2.2.2.1 h, fun h => gG.2.2.2.2.2.1 h, fun h => gG.2.2.2.2.2.2.1 h, fun h => gG.2.2.2.2.2.2.2.1 h, fun h => gG.2.2.2.2.2.2.2.2.1 h, fun h => gG.2.2.2.2.2.2.2.2.2.1 h, fun h => gG.2.2.2.2.2.2.2.2.2.2.1 h, fun h => gG.2.2.2.2.2.2.2.2.2.2.2.1 h, fun h => gG.2.2.2.2.2.2.2.2.2.2.2.2.1 h, fun h => gG.2.2.2.2.2.2.2.2.2.2.2.2.2.1 h, fun h => gG.2.2.2.2.2.2.2.2.2.2.2.2.2.2.1 h, fun h => gG.2.2.2.2.2.2.2.2.2.2.2.2.2.2.2.1 h, fun h => gG.2.2.2.2.2.2.2.2.2.2.2.2.2.2.2.2.1 h, fun h => gG.2.2.2.2.2.2.2.2.2.2.2.2.2.2.2.2.2.1 h, fun h => gG.2.2.2.2.2.2.2.2.2.2.2.2.2.2.2.2.2.2 h⟩
        refine below_succ ?_ ?_
        · intro f az u hf hd hcl hI
          obtain ⟨x41, x42, x43, x44, x45, x46, x47, x48, x49, x50, x51, x52, x53, x54, x55, x56, x57, x58, x59, rfl, gD, gG⟩ := hI
          subst hmk
          have e1 := gG.2.1 (hd 1 (by decide))
          subst e1
          refine wpOp_step rfl (fun K hK => ?_)
          go_simp
          refine hK _ _ ?_
          refine ⟨_, _, _, _, _, _, _, _, _, _, _, _, _, _, _, _, _, _, _, rfl, gD, fun h => gG.1 h, fun h => gG.2.1 h, fun _ => (by first | rfl | simp), fun h => gG.2.2.2.1 h, fun h => gG.2.2.2.2.1 h, fun h => gG.2.2.2.2.2.1 h, fun h => gG.2.2.2.2.2.2.1 h, fun h => gG.2.2.2.2.2.2.2.1 h, fun h => gG.2.2.2.2.2.2.2.2.1 h, fun h => gG.2.2.2.2.2.2.2.2.2.1 h, fun h => gG.2.2.2.2.2.2.2.2.2.2.1 h, fun h => gG.2.2.2.2.2.2.2.2.2.2.2.1 h, fun h => gG.2.2.2.2.2.2.2.2.2.2.2.2.1 h, fun h => gG.2.2.2.2.2.2.2.2.2.2.2.2.2.1 h, fun h => gG.2.2.2.2.2.2.2.2.2.2.2.2.2.2.1 h, fun h => gG.2.2.2.2.2.2.2.2.2.2.2.2.2.2.2.1 h, fun h => gG.2.2.2.2.2.2.2.2.2.2.2.2.2.2.2.2.1 h, fun h => gG.2.2.2.2.2.2.2.2.2.2.2.2.2.2.2.2.2.1 h, fun h => gG.2.2.2.2.2.2.2.2.2.2.2.2.2.2.2.2.2.2 h⟩
        refine below_succ ?_ ?_
        · intro f az u hf hd hcl hI
          obtain ⟨x41, x42, x43, x44, x45, x46, x47, x48, x49, x50, x51, x52, x53, x54, x55, x56, x57, x58, x59, rfl, gD, gG⟩ := hI
          subst hmk
          have e0 := gG.1 (hd 0 (by decide))
          subst e0
          refine wpOp_step rfl (fun K hK => ?_)
          go_simp
          go_at_call 77
          refine (CP.out _ gD).mono ?_
          rintro e wn ⟨rfl, hb⟩
          try go_simp
          refine hK _ _ ?_
          refine ⟨_, _, _, _, _, _, _, _, _, _, _, _, _, _, _, _, _, _, _, rfl, hb, fun h => gG.1 h, fun _ => rfl, fun h => gG.2.2.1 h, fun h => gG.2.2.2.1 h, fun h => gG.2.2.2.2.1 h, fun h => gG.2.2.2.2.2.1 h, fun h => gG.2.2.2.2.2.2.1 h, fun h => gG.2.2.2.2.2.2.2.1 h, fun h => gG.2.2.2.2.2.2.2.2.1 h, fun h => gG.2.2.2.2.2.2.2.2.2.1 h, fun h => gG.2.2.2.2.2.2.2.2.2.2.1 h, fun h => gG.2.2.2.2.2.2.2.2.2.2.2.1 h, fun h => gG.2.2.2.2.2.2.2.2.2.2.2.2.1 h, fun h => gG.2.2.2.2.2.2.2.2.2.2.2.2.2.1 h, fun h => gG.2.2.2.2.2.2.2.2.2.2.2.2.2.2.1 h, fun h => gG.2.2.2.2.2.2.2.2.2.2.2.2.2.2.2.1 h, fun h => gG.2.2.2.2.2.2.2.2.2.2.2.2.2.2.2.2.1 h, fun h => gG.2.2.2.2.2.2.2.2.2.2.2.2.2.2.2.2.2.1 h, fun h => gG.2.2.2.2.2.2.2.2.2.2.2.2.2.2.2.2.2.2 h⟩
        refine below_succ ?_ ?_
        · intro f az u hf hd hcl hI
          obtain ⟨x41, x42, x43, x44, x45, x46, x47, x48, x49, x50, x51, x52, x53, x54, x55, x56, x57, x58, x59, rfl, gD, gG⟩ := hI
          subst hmk
          obtain ⟨⟨x0, x1, x2, x3, x4⟩, y0, y1, y2⟩ := KEEP.out u gD
          refine wpOp_step rfl (fun K hK => ?_)
          go_simp
          refine hK _ _ ?_
          refine ⟨_, _, _, _, _, _, _, _, _, _, _, _, _, _, _, _, _, _, _, rfl, gD, fun _ => (by first | rfl | simp), fun h => gG.2.1 h, fun h => gG.2.2.1 h, fun h => gG.2.2.2.1 h, fun h => gG.2.2.2.2.1 h, fun h => gG.2.2.2.2.2.1 h, fun h => gG.2.2.2.2.2.2.1 h, fun h => gG.2.2.2.2.2.2.2.1 h, fun h => gG.2.2.2.2.2.2.2.2.1 h, fun h => gG.2.2.2.2.2.2.2.2.2.1 h, fun h => gG.2.2.2.2.2.2.2.2.2.2.1 h, fun h => gG.2.2.2.2.2.2.2.2.2.2.2.1 h, fun h => gG.2.2.2.2.2.2.2.2.2.2.2.2.1 h, fun h => gG.2.2.2.2.2.2.2.2.2.2.2.2.2.1 h, fun h => gG.2.2.2.2.2.2.2.2.2.2.2.2.2.2.1 h, fun h => gG.2.2.2.2.2.2.2.2.2.2.2.2.2.2.2.1 h, fun h => gG.2.2.2.2.2.2.2.2.2.2.2.2.2.2.2.2.1 h, fun h => gG.2.2.2.2.2.2.2.2.2.2.2.2.2.2.2.2.2.1 h, fun h => gG.2.2.2.2.2.2.2.2.2.2.2.2.2.2.2.2.2.2 h⟩
        exact below_zero
      · intro f az u hf hI
        obtain ⟨x41, x42, x43, x44, x45, x46, x47, x48, x49, x50, x51, x52, x53, x54, x55, x56, x57, x58, x59, rfl, gD, g0, g1, g2, g3, g4, g5, g6, g7, g8, g9, g10, g11, g12, g13, g14, g15, g16, g17, g18⟩ := hI
        subst hmk
        have et := g18 (hf 18 (by decide))
        subst et
        have hb := gD
        clear hf gD g0 g1 g2 g3 g4 g5 g6 g7 g8 g9 g10 g11 g12 g13 g14 g15 g16 g17 g18
        have HF := Lib.hid (FIN.out _ hb)
        go_wp2
        go_ret
        exact ⟨ret_bool (by unfold isPartB; simp only []; rw [range_all_false hlt (by rw [HD.out, HBB.out]; rfl)]; simp), HF.out⟩
    have CP : Hid (∀ W, Below wy.heap.size wy W → Calls Try.prog 77 #[.agg #[.int .i64 kd, .int .i64 sz, .bool pl]] W fun e w' => e = .returned (.bool true) ∧ Below wy.heap.size wy w') := Lib.hid (fun W h => (isPort_any ⟨kd, sz, pl⟩ W).mono fun _ _ hh => ⟨by rw [hh.1, hB], Below.step h hh.2⟩)
    have HBB := Lib.hid hB
    clear hB
    by_cases h0 : k = 0
    · have hpos : decide (0 < k) = false := decide_eq_false (by omega)
      have hposI : decide ((0 : Int) < (k : Int)) = false := decide_eq_false (by omega)
      have H0 := Lib.hid h0
      clear P0 h0
      have DA : Hid (Below wy.heap.size wy wy) := Lib.hid (Below.refl _ _)
      obtain ⟨mk, hmk⟩ : ∃ mk : Value → Value → Value → Value → Value → Value → Value → Value → Value → Value → Value → Value → Value → Value → Value → Value → Value → Value → Value → Act, mk = (fun x41 x42 x43 x44 x45 x46 x47 x48 x49 x50 x51 x52 x53 x54 x55 x56 x57 x58 x59 => (⟨#[Value.agg #[Value.string cd, Value.int .i64 sl, Value.slice (some ⟨b, off, none⟩) ps.length cap, Value.int .i64 pr, Value.int .i64 gr], Value.pointer (some ⟨X, 0, none⟩), u2, Value.int .i64 ((k : Nat) : Int), Value.pointer (some ⟨Y, 0, none⟩), Value.pointer (some ⟨X, 0, none⟩), Value.string cd, Value.bool true, Value.bool false, Value.bool false, Value.pointer (some ⟨X, 1, none⟩), Value.int .i64 sl, Value.bool true, Value.bool false, Value.bool false, Value.bool false, Value.pointer (some ⟨X, 2, none⟩), Value.slice (some ⟨b, off, none⟩) ps.length cap, Value.int .i64 ((ps.length : Nat) : Int), Value.bool (decide (6 < ((ps.length : Nat) : Int))), Value.bool (decide (6 < ((ps.length : Nat) : Int))), Value.bool (decide (6 < ((ps.length : Nat) : Int))), Value.pointer (some ⟨X, 3, none⟩), Value.int .i64 pr, Value.bool true, Value.bool false, Value.bool (decide (6 < ((ps.length : Nat) : Int))), Value.bool (decide (6 < ((ps.length : Nat) : Int))), Value.pointer (some ⟨X, 4, none⟩), Value.int .i64 gr, Value.bool true, Value.bool false, Value.bool (decide (6 < ((ps.length : Nat) : Int))), Value.pointer (some ⟨X, 2, none⟩), Value.slice (some ⟨b, off, none⟩) ps.length cap, Value.int .i64 ((ps.length : Nat) : Int), Value.int .i64 ((k : Nat) : Int), Value.bool true, Value.int .i64 ((k : Nat) : Int), Value.pointer (some ⟨b, off + k * 3, none⟩), Value.agg #[Value.int .i64 kd, Value.int .i64 sz, Value.bool pl], x41, x42, x43, x44, x45, x46, x47, x48, x49, x50, x51, x52, x53, x54, x55, x56, x57, x58, x59, u60], []⟩ : Act)) := ⟨_, rfl⟩
      refine wp_region_inv (by kernel_rfl) ([[], [0], [1], [2, 1], [3], [4, 3], [5, 3, 3], [6], [7, 6], [6], [9, 6], [8, 10, 6], [11, 6], [12, 6], [6], [14, 6], [13, 15, 6], [6, 16, 3], [3, 17]] : List (List Nat)) (by kernel_rfl) (by kernel_rfl) (fun f az u => ∃ x41 x42 x43 x44 x45 x46 x47 x48 x49 x50 x51 x52 x53 x54 x55 x56 x57 x58 x59 : Value, az = mk x41 x42 x43 x44 x45 x46 x47 x48 x49 x50 x51 x52 x53 x54 x55 x56 x57 x58 x59 ∧ (Below wy.heap.size wy u) ∧ (f 0 = true → x41 = .agg #[.int .i64 kd, .int .i64 sz, .bool pl]) ∧ (f 1 = true → x42 = .bool true) ∧ (f 2 = true → x43 = .bool false) ∧ (f 3 = true → x44 = .bool false) ∧ (f 4 = true → x45 = .int .i64 (k : Int)) ∧ (f 5 = true → x46 = .bool false) ∧ (f 6 = true → x47 = .bool false) ∧ (f 7 = true → x48 = undef) ∧ (f 8 = true → x49 = undef) ∧ (f 9 = true → x50 = undef) ∧ (f 10 = true → x51 = undef) ∧ (f 11 = true → x52 = undef) ∧ (f 12 = true → x53 = undef) ∧ (f 13 = true → x54 = undef) ∧ (f 14 = true → x55 = undef) ∧ (f 15 = true → x56 = undef) ∧ (f 16 = true → x57 = undef) ∧ (f 17 = true → x58 = .bool false) ∧ (f 18 = true → x59 = .bool false)) ?_ ?_ ?_
      · subst hmk
        exact ⟨_, _, _, _, _, _, _, _, _, _, _, _, _, _, _, _, _, _, _, rfl, DA.out.drew, fun h => (by cases h), fun h => (by cases h), fun h => (by cases h), fun h => (by cases h), fun h => (by cases h), fun h => (by cases h), fun h => (by cases h), fun h => (by cases h), fun h => (by cases h), fun h => (by cases h), fun h => (by cases h), fun h => (by cases h), fun h => (by cases h), fun h => (by cases h), fun h => (by cases h), fun h => (by cases h), fun h => (by cases h), fun h => (by cases h), fun h => (by cases h)⟩
      · show ∀ i, i < 19 → _
        refine below_succ ?_ ?_
        · intro f az u hf hd hcl hI
          obtain ⟨x41, x42, x43, x44, x45, x46, x47, x48, x49, x50, x51, x52, x53, x54, x55, x56, x57, x58, x59, rfl, gD, gG⟩ := hI
          subst hmk
          have e3 := gG.2.2.2.1 (hd 3 (by decide))
          subst e3
          have e17 := gG.2.2.2.2.2.2.2.2.2.2.2.2.2.2.2.2.2.1 (hd 17 (by decide))
          subst e17
          refine wpOp_step rfl (fun K hK => ?_)
          go_simp
          refine hK _ _ ?_
          refine ⟨_, _, _, _, _, _, _, _, _, _, _, _, _, _, _, _, _, _, _, rfl, gD, fun h => gG.1 h, fun h => gG.2.1 h, fun h => gG.2.2.1 h, fun h => gG.2.2.2.1 h, fun h => gG.2.2.2.2.1 h, fun h => gG.2.2.2.2.2.1 h, fun h => gG.2.2.2.2.2.2.1 h, fun h => gG.2.2.2.2.2.2.2.1 h, fun h => gG.2.2.2.2.2.2.2.2.1 h, fun h => gG.2.2.2.2.2.2.2.2.2.1 h, fun h => gG.2.2.2.2.2.2.2.2.2.2.1 h, fun h => gG.2.2.2.2.2.2.2.2.2.2.2.1 h, fun h => gG.2.2.2.2.2.2.2.2.2.2.2.2.1 h, fun h => gG.2.2.2.2.2.2.2.2.2.2.2.2.2.1 h, fun h => gG.2.2.2.2.2.2.2.2.2.2.2.2.2.2.1 h, fun h => gG.2.2.2.2.2.2.2.2.2.2.2.2.2.2.2.1 h, fun h => gG.2.2.2.2.2.2.2.2.2.2.2.2.2.2.2.2.1 h, fun h => gG.2.2.2.2.2.2.2.2.2.2.2.2.2.2.2.2.2.1 h, fun _ => (by first | rfl | simp)⟩
        refine below_succ ?_ ?_
        · intro f az u hf hd hcl hI
          obtain ⟨x41, x42, x43, x44, x45, x46, x47, x48, x49, x50, x51, x52, x53, x54, x55, x56, x57, x58, x59, rfl, gD, gG⟩ := hI
          subst hmk
          have e6 := gG.2.2.2.2.2.2.1 (hd 6 (by decide))
          subst e6
          have e16 := gG.2.2.2.2.2.2.2.2.2.2.2.2.2.2.2.2.1 (hd 16 (by decide))
          subst e16
          have eg := gG.2.2.2.1 (hd 3 (by decide))
          subst eg
          refine wpOp_step rfl (fun K hK => ?_)
          go_simp
          refine hK _ _ ?_
          refine ⟨_, _, _, _, _, _, _, _, _, _, _, _, _, _, _, _, _, _, _, rfl, gD, fun h => gG.1 h, fun h => gG.2.1 h, fun h => gG.2.2.1 h, fun h => gG.2.2.2.1 h, fun h => gG.2.2.2.2.1 h, fun h => gG.2.2.2.2.2.1 h, fun h => gG.2.2.2.2.2.2.1 h, fun h => gG.2.2.2.2.2.2.2.1 h, fun h => gG.2.2.2.2.2.2.2.2.1 h, fun h => gG.2.2.2.2.2.2.2.2.2.1 h, fun h => gG.2.2.2.2.2.2.2.2.2.2.1 h, fun h => gG.2.2.2.2.2.2.2.2.2.2.2.1 h, fun h => gG.2.2.2.2.2.2.2.2.2.2.2.2.1 h, fun h => gG.2.2.2.2.2.2.2.2.2.2.2.2.2.1 h, fun h => gG.2.2.2.2.2.2.2.2.2.2.2.2.2.2.1 h, fun h => gG.2.2.2.2.2.2.2.2.2.2.2.2.2.2.2.1 h, fun h => gG.2.2.2.2.2.2.2.2.2.2.2.2.2.2.2.2.1 h, fun _ => (by first | rfl | simp), fun h => gG.2.2.2.2.2.2.2.2.2.2.2.2.2.2.2.2.2.2 h⟩
        refine below_succ ?_ ?_
        · intro f az u hf hd hcl hI
          obtain ⟨x41, x42, x43, x44, x45, x46, x47, x48, x49, x50, x51, x52, x53, x54, x55, x56, x57, x58, x59, rfl, gD, gG⟩ := hI
          subst hmk
          have e6 := gG.2.2.2.2.2.2.1 (hd 6 (by decide))
          subst e6
          refine wpOp_step rfl (fun K hK => ?_)
          refine skip_op rfl ?_
          try go_simp
          refine hK _ _ ?_
          refine ⟨_, _, _, _, _, _, _, _, _, _, _, _, _, _, _, _, _, _, _, rfl, gD, fun h => gG.1 h, fun h => gG.2.1 h, fun h => gG.2.2.1 h, fun h => gG.2.2.2.1 h, fun h => gG.2.2.2.2.1 h, fun h => gG.2.2.2.2.2.1 h, fun h => gG.2.2.2.2.2.2.1 h, fun h => gG.2.2.2.2.2.2.2.1 h, fun h => gG.2.2.2.2.2.2.2.2.1 h, fun h => gG.2.2.2.2.2.2.2.2.2.1 h, fun h => gG.2.2.2.2.2.2.2.2.2.2.1 h, fun h => gG.2.2.2.2.2.2.2.2.2.2.2.1 h, fun h => gG.2.2.2.2.2.2.2.2.2.2.2.2.1 h, fun h => gG.2.2.2.2.2.2.2.2.2.2.2.2.2.1 h, fun h => gG.2.2.2.2.2.2.2.2.2.2.2.2.2.2.1 h, fun h => gG.2.2.2.2.2.2.2.2.2.2.2.2.2.2.2.1 h, fun _ => rfl, fun h => gG.2.2.2.2.2.2.2.2.2.2.2.2.2.2.2.2.2.1 h, fun h => gG.2.2.2.2.2.2.2.2.2.2.2.2.2.2.2.2.2.2 h⟩
        refine below_succ ?_ ?_
        · intro f az u hf hd hcl hI
          obtain ⟨x41, x42, x43, x44, x45, x46, x47, x48, x49, x50, x51, x52, x53, x54, x55, x56, x57, x58, x59, rfl, gD, gG⟩ := hI
          subst hmk
          have e6 := gG.2.2.2.2.2.2.1 (hd 6 (by decide))
          subst e6
          refine wpOp_step rfl (fun K hK => ?_)
          refine skip_op rfl ?_
          try go_simp
          refine hK _ _ ?_
          refine ⟨_, _, _, _, _, _, _, _, _, _, _, _, _, _, _, _, _, _, _, rfl, gD, fun h => gG.1 h, fun h => gG.2.1 h, fun h => gG.2.2.1 h, fun h => gG.2.2.2.1 h, fun h => gG.2.2.2.2.1 h, fun h => gG.2.2.2.2.2.1 h, fun h => gG.2.2.2.2.2.2.1 h, fun h => gG.2.2.2.2.2.2.2.1 h, fun h => gG.2.2.2.2.2.2.2.2.1 h, fun h => gG.2.2.2.2.2.2.2.2.2.1 h, fun h => gG.2.2.2.2.2.2.2.2.2.2.1 h, fun h => gG.2.2.2.2.2.2.2.2.2.2.2.1 h, fun h => gG.2.2.2.2.2.2.2.2.2.2.2.2.1 h, fun h => gG.2.2.2.2.2.2.2.2.2.2.2.2.2.1 h, fun h => gG.2.2.2.2.2.2.2.2.2.2.2.2.2.2.1 h, fun _ => rfl, fun h => gG.2.2.2.2.2.2.2.2.2.2.2.2.2.2.2.2.1 h, fun h => gG.2.2.2.2.2.2.2.2.2.2.2.2.2.2.2.2.2.1 h, fun h => gG.2.2.2.2.2.2.2.2.2.2.2.2.2.2.2.2.2.2 h⟩
        refine below_succ ?_ ?_
        · intro f az u hf hd hcl hI
          obtain ⟨x41, x42, x43, x44, x45, x46, x47, x48, x49, x50, x51, x52, x53, x54, x55, x56, x57, x58, x59, rfl, gD, gG⟩ := hI
          subst hmk
          have e6 := gG.2.2.2.2.2.2.1 (hd 6 (by decide))
          subst e6
          refine wpOp_step rfl (fun K hK => ?_)
          refine skip_op rfl ?_
          try go_simp
          refine hK _ _ ?_
          refine ⟨_, _, _, _, _, _, _, _, _, _, _, _, _, _, _, _, _, _, _, rfl, gD, fun h => gG.1 h, fun h => gG.2.1 h, fun h => gG.2.2.1 h, fun h => gG.2.2.2.1 h, fun h => gG.2.2.2.2.1 h, fun h => gG.2.2.2.2.2.1 h, fun h => gG.2.2.2.2.2.2.1 h, fun h => gG.2.2.2.2.2.2.2.1 h, fun h => gG.2.2.2.2.2.2.2.2.1 h, fun h => gG.2.2.2.2.2.2.2.2.2.1 h, fun h => gG.2.2.2.2.2.2.2.2.2.2.1 h, fun h => gG.2.2.2.2.2.2.2.2.2.2.2.1 h, fun h => gG.2.2.2.2.2.2.2.2.2.2.2.2.1 h, fun h => gG.2.2.2.2.2.2.2.2.2.2.2.2.2.1 h, fun _ => rfl, fun h => gG.2.2.2.2.2.2.2.2.2.2.2.2.2.2.2.1 h, fun h => gG.2.2.2.2.2.2.2.2.2.2.2.2.2.2.2.2.1 h, fun h => gG.2.2.2.2.2.2.2.2.2.2.2.2.2.2.2.2.2.1 h, fun h => gG.2.2.2.2.2.2.2.2.2.2.2.2.2.2.2.2.2.2 h⟩
        refine below_succ ?_ ?_
        · intro f az u hf hd hcl hI
          obtain ⟨x41, x42, x43, x44, x45, x46, x47, x48, x49, x50, x51, x52, x53, x54, x55, x56, x57, x58, x59, rfl, gD, gG⟩ := hI
          subst hmk
          have e6 := gG.2.2.2.2.2.2.1 (hd 6 (by decide))
          subst e6
          refine wpOp_step rfl (fun K hK => ?_)
          refine skip_op rfl ?_
          try go_simp
          refine hK _ _ ?_
          refine ⟨_, _, _, _, _, _, _, _, _, _, _, _, _, _, _, _, _, _, _, rfl, gD, fun h => gG.1 h, fun h => gG.2.1 h, fun h => gG.2.2.1 h, fun h => gG.2.2.2.1 h, fun h => gG.2.2.2.2.1 h, fun h => gG.2.2.2.2.2.1 h, fun h => gG.2.2.2.2.2.2.1 h, fun h => gG.2.2.2.2.2.2.2.1 h, fun h => gG.2.2.2.2.2.2.2.2.1 h, fun h => gG.2.2.2.2.2.2.2.2.2.1 h, fun h => gG.2.2.2.2.2.2.2.2.2.2.1 h, fun h => gG.2.2.2.2.2.2.2.2.2.2.2.1 h, fun h => gG.2.2.2.2.2.2.2.2.2.2.2.2.1 h, fun _ => rfl, fun h => gG.2.2.2.2.2.2.2.2.2.2.2.2.2.2.1 h, fun h => gG.2.2.2.2.2.2.2.2.2.2.2.2.2.2.2.1 h, fun h => gG.2.2.2.2.2.2.2.2.2.2.2.2.2.2.2.2.1 h, fun h => gG.2.2.2.2.2.2.2.2.2.2.2.2.2.2.2.2.2.1 h, fun h => gG.2.2.2.2.2.2.2.2.2.2.2.2.2.2.2.2.2.2 h⟩
        refine below_succ ?_ ?_
        · intro f az u hf hd hcl hI
          obtain ⟨x41, x42, x43, x44, x45, x46, x47, x48, x49, x50, x51, x52, x53, x54, x55, x56, x57, x58, x59, rfl, gD, gG⟩ := hI
          subst hmk
          have e6 := gG.2.2.2.2.2.2.1 (hd 6 (by decide))
          subst e6
          refine wpOp_step rfl (fun K hK => ?_)
          refine skip_op rfl ?_
          try go_simp
          refine hK _ _ ?_
          refine ⟨_, _, _, _, _, _, _, _, _, _, _, _, _, _, _, _, _, _, _, rfl, gD, fun h => gG.1 h, fun h => gG.2.1 h, fun h => gG.2.2.1 h, fun h => gG.2.2.2.1 h, fun h => gG.2.2.2.2.1 h, fun h => gG.2.2.2.2.2.1 h, fun h => gG.2.2.2.2.2.2.1 h, fun h => gG.2.2.2.2.2.2.2.1 h, fun h => gG.2.2.2.2.2.2.2.2.1 h, fun h => gG.2.2.2.2.2.2.2.2.2.1 h, fun h => gG.2.2.2.2.2.2.2.2.2.2.1 h, fun h => gG.2.2.2.2.2.2.2.2.2.2.2.1 h, fun _ => rfl, fun h => gG.2.2.2.2.2.2.2.2.2.2.2.2.2.1 h, fun h => gG.2.2.2.2.2.2.2.2.2.2.2.2.2.2.1 h, fun h => gG.2.2.2.2.2.2.2.2.2.2.2.2.2.2.2.1 h, fun h => gG.2.2.2.2.2.2.2.2.2.2.2.2.2.2.2.2.1 h, fun h => gG.2.2.2.2.2.2.2.2.2.2.2.2.2.2.2.2.2.1 h, fun h => gG.2.2.2.2.2.2.2.2.2.2.2.2.2.2.2.2.2.2 h⟩
        refine below_succ ?_ ?_
        · intro f az u hf hd hcl hI
          obtain ⟨x41, x42, x43, x44, x45, x46, x47, x48, x49, x50, x51, x52, x53, x54, x55, x56, x57, x58, x59, rfl, gD, gG⟩ := hI
          subst hmk
          have e6 := gG.2.2.2.2.2.2.1 (hd 6 (by decide))
          subst e6
          refine wpOp_step rfl (fun K hK => ?_)
          refine skip_op rfl ?_
          try go_simp
          refine hK _ _ ?_
          refine ⟨_, _, _, _, _, _, _, _, _, _, _, _, _, _, _, _, _, _, _, rfl, gD, fun h => gG.1 h, fun h => gG.2.1 h, fun h => gG.2.2.1 h, fun h => gG.2.2.2.1 h, fun h => gG.2.2.2.2.1 h, fun h => gG.2.2.2.2.2.1 h, fun h => gG.2.2.2.2.2.2.1 h, fun h => gG.2.2.2.2.2.2.2.1 h, fun h => gG.2.2.2.2.2.2.2.2.1 h, fun h => gG.2.2.2.2.2.2.2.2.2.1 h, fun h => gG.2.2.2.2.2.2.2.2.2.2.1 h, fun _ => rfl, fun h => gG.2.2.2.2.2.2.2.2.2.2.2.2.1 h, fun h => gG.2.2.2.2.2.2.2.2.2.2.2.2.2.1 h, fun h => gG.2.2.2.2.2.2.2.2.2.2.2.2.2.2.1 h, fun h => gG.2.2.2.2.2.2.2.2.2.2.2.2.2.2.2.1 h, fun h => gG.2.2.2.2.2.2.2.2.2.2.2.2.2.2.2.2.1 h, fun h => gG.2.2.2.2.2.2.2.2.2.2.2.2.2.2.2.2.2.1 h, fun h => gG.2.2.2.2.2.2.2.2.2.2.2.2.2.2.2.2.2.2 h⟩
        refine below_succ ?_ ?_
        · intro f az u hf hd hcl hI
          obtain ⟨x41, x42, x43, x44, x45, x46, x47, x48, x49, x50, x51, x52, x53, x54, x55, x56, x57, x58, x59, rfl, gD, gG⟩ := hI
          subst hmk
          have e6 := gG.2.2.2.2.2.2.1 (hd 6 (by decide))
          subst e6
          refine wpOp_step rfl (fun K hK => ?_)
          refine skip_op rfl ?_
          try go_simp
          refine hK _ _ ?_
          refine ⟨_, _, _, _, _, _, _, _, _, _, _, _, _, _, _, _, _, _, _, rfl, gD, fun h => gG.1 h, fun h => gG.2.1 h, fun h => gG.2.2.1 h, fun h => gG.2.2.2.1 h, fun h => gG.2.2.2.2.1 h, fun h => gG.2.2.2.2.2.1 h, fun h => gG.2.2.2.2.2.2.1 h, fun h => gG.2.2.2.2.2.2.2.1 h, fun h => gG.2.2.2.2.2.2.2.2.1 h, fun h => gG.2.2.2.2.2.2.2.2.2.1 h, fun _ => rfl, fun h => gG.2.2.2.2.2.2.2.2.2.2.2.1 h, fun h => gG.2.2.2.2.2.2.2.2.2.2.2.2.1 h, fun h => gG.2.2.2.2.2.2.2.2.2.2.2.2.2.1 h, fun h => gG.2.2.2.2.2.2.2.2.2.2.2.2.2.2.1 h, fun h => gG.2.2.2.2.2.2.2.2.2.2.2.2.2.2.2.1 h, fun h => gG.2.2.2.2.2.2.2.2.2.2.2.2.2.2.2.2.1 h, fun h => gG.2.2.2.2.2.2.2.2.2.2.2.2.2.2.2.2.2.1 h, fun h => gG.2.2.2.2.2.2.2.2.2.2.2.2.2.2.2.2.2.2 h⟩
        refine below_succ ?_ ?_
        · intro f az u hf hd hcl hI
          obtain ⟨x41, x42, x43, x44, x45, x46, x47, x48, x49, x50, x51, x52, x53, x54, x55, x56, x57, x58, x59, rfl, gD, gG⟩ := hI
          subst hmk
          have e6 := gG.2.2.2.2.2.2.1 (hd 6 (by decide))
          subst e6
          refine wpOp_step rfl (fun K hK => ?_)
          refine skip_op rfl ?_
          try go_simp
          refine hK _ _ ?_
          refine ⟨_, _, _, _, _, _, _, _, _, _, _, _, _, _, _, _, _, _, _, rfl, gD, fun h => gG.1 h, fun h => gG.2.1 h, fun h => gG.2.2.1 h, fun h => gG.2.2.2.1 h, fun h => gG.2.2.2.2.1 h, fun h => gG.2.2.2.2.2.1 h, fun h => gG.2.2.2.2.2.2.1 h, fun h => gG.2.2.2.2.2.2.2.1 h, fun h => gG.2.2.2.2.2.2.2.2.1 h, fun _ => rfl, fun h => gG.2.2.2.2.2.2.2.2.2.2.1 h, fun h => gG.2.2.2.2.2.2.2.2.2.2.2.1 h, fun h => gG.2.2.2.2.2.2.2.2.2.2.2.2.1 h, fun h => gG.2.2.2.2.2.2.2.2.2.2.2.2.2.1 h, fun h => gG.2.2.2.2.2.2.2.2.2.2.2.2.2.2.1 h, fun h => gG.2.2.2.2.2.2.2.2.2.2.2.2.2.2.2.1 h, fun h => gG.2.2.2.2.2.2.2.2.2.2.2.2.2.2.2.2.1 h, fun h => gG.2.2.2.2.2.2.2.2.2.2.2.2.2.2.2.2.2.1 h, fun h => gG.2.2.2.2.2.2.2.2.2.2.2.2.2.2.2.2.2.2 h⟩
        refine below_succ ?_ ?_
        · intro f az u hf hd hcl hI
          obtain ⟨x41, x42, x43, x44, x45, x46, x47, x48, x49, x50, x51, x52, x53, x54, x55, x56, x57, x58, x59, rfl, gD, gG⟩ := hI
          subst hmk
          have e6 := gG.2.2.2.2.2.2.1 (hd 6 (by decide))
          subst e6
          refine wpOp_step rfl (fun K hK => ?_)
          refine skip_op rfl ?_
          try go_simp
          refine hK _ _ ?_
          refine ⟨_, _, _, _, _, _, _, _, _, _, _, _, _, _, _, _, _, _, _, rfl, gD, fun h => gG.1 h, fun h => gG.2.1 h, fun h => gG.2.2.1 h, fun h => gG.2.2.2.1 h, fun h => gG.2.2.2.2.1 h, fun h => gG.2.2.2.2.2.1 h, fun h => gG.2.2.2.2.2.2.1 h, fun h => gG.2.2.2.2.2.2.2.1 h, fun _ => rfl, fun h => gG.2.2.2.2.2.2.2.2.2.1 h, fun h => gG.2.2.2.2.2.2.2.2.2.2.1 h, fun h => gG.2.2.2.2.2.2.2.2.2.2.2.1 h, fun h => gG.2.2.2.2.2.2.2.2.2.2.2.2.1 h, fun h => gG.2.2.2.2.2.2.2.2.2.2.2.2.2.1 h, fun h => gG.2.2.2.2.2.2.2.2.2.2.2.2.2.2.1 h, fun h => gG.2.2.2.2.2.2.2.2.2.2.2.2.2.2.2.1 h, fun h => gG.2.2.2.2.2.2.2.2.2.2.2.2.2.2.2.2.1 h, fun h => gG.2.2.2.2.2.2.2.2.2.2.2.2.2.2.2.2.2.1 h, fun h => gG.2.2.2.2.2.2.2.2.2.2.2.2.2.2.2.2.2.2 h⟩
        refine below_succ ?_ ?_
        · intro f az u hf hd hcl hI
          obtain ⟨x41, x42, x43, x44, x45, x46, x47, x48, x49, x50, x51, x52, x53, x54, x55, x56, x57, x58, x59, rfl, gD, gG⟩ := hI
          subst hmk
          have e6 := gG.2.2.2.2.2.2.1 (hd 6 (by decide))
          subst e6
          refine wpOp_step rfl (fun K hK => ?_)
          refine skip_op rfl ?_
          try go_simp
          refine hK _ _ ?_
          refine ⟨_, _, _, _, _, _, _, _, _, _, _, _, _, _, _, _, _, _, _, rfl, gD, fun h => gG.1 h, fun h => gG.2.1 h, fun h => gG.2.2.1 h, fun h => gG.2.2.2.1 h, fun h => gG.2.2.2.2.1 h, fun h => gG.2.2.2.2.2.1 h, fun h => gG.2.2.2.2.2.2.1 h, fun _ => rfl, fun h => gG.2.2.2.2.2.2.2.2.1 h, fun h => gG.2.2.2.2.2.2.2.2.2.1 h, fun h => gG.2.2.2.2.2.2.2.2.2.2.1 h, fun h => gG.2.2.2.2.2.2.2.2.2.2.2.1 h, fun h => gG.2.2.2.2.2.2.2.2.2.2.2.2.1 h, fun h => gG.2.2.2.2.2.2.2.2.2.2.2.2.2.1 h, fun h => gG.2.2.2.2.2.2.2.2.2.2.2.2.2.2.1 h, fun h => gG.2.2.2.2.2.2.2.2.2.2.2.2.2.2.2.1 h, fun h => gG.2.2.2.2.2.2.2.2.2.2.2.2.2.2.2.2.1 h, fun h => gG.2.2.2.2.2.2.2.2.2.2.2.2.2.2.2.2.2.1 h, fun h => gG.2.2.2.2.2.2.2.2.2.2.2.2.2.2.2.2.2.2 h⟩
        refine below_succ ?_ ?_
        · intro f az u hf hd hcl hI
          obtain ⟨x41, x42, x43, x44, x45, x46, x47, x48, x49, x50, x51, x52, x53, x54, x55, x56, x57, x58, x59, rfl, gD, gG⟩ := hI
          subst hmk
          have eg := gG.2.2.2.1 (hd 3 (by decide))
          subst eg
          have ef := gG.2.2.2.2.2.1 (hd 5 (by decide))
          subst ef
          refine wpOp_step rfl (fun K hK => ?_)
          go_simp
          refine hK _ _ ?_
          refine ⟨_, _, _, _, _, _, _, _, _, _, _, _, _, _, _, _, _, _, _, rfl, gD, fun h => gG.1 h, fun h => gG.2.1 h, fun h => gG.2.2.1 h, fun h => gG.2.2.2.1 h, fun h => gG.2.2.2.2.1 h, fun h => gG.2.2.2.2.2.1 h, fun _ => rfl, fun h => gG.2.2.2.2.2.2.2.1 h, fun h => gG.2.2.2.2.2.2.2.2.1 h, fun h => gG.2.2.2.2.2.2.2.2.2.1 h, fun h => gG.2.2.2.2.2.2.2.2.2.2.1 h, fun h => gG.2.2.2.2.2.2.2.2.2.2.2.1 h, fun h => gG.2.2.2.2.2.2.2.2.2.2.2.2.1 h, fun h => gG.2.2.2.2.2.2.2.2.2.2.2.2.2.1 h, fun h => gG.2.2.2.2.2.2.2.2.2.2.2.2.2.2.1 h, fun h => gG.2.2.2.2.2.2.2.2.2.2.2.2.2.2.2.1 h, fun h => gG.2.2.2.2.2.2.2.2.2.2.2.2.2.2.2.2.1 h, fun h => gG.2.2.2.2.2.2.2.2.2.2.2.2.2.2.2.2.2.1 h, fun h => gG.2.2.2.2.2.2.2.2.2.2.2.2.2.2.2.2.2.2 h⟩
        refine below_succ ?_ ?_
        · intro f az u hf hd hcl hI
          obtain ⟨x41, x42, x43, x44, x45, x46, x47, x48, x49, x50, x51, x52, x53, x54, x55, x56, x57, x58, x59, rfl, gD, gG⟩ := hI
          subst hmk
          have e4 := gG.2.2.2.2.1 (hd 4 (by decide))
          subst e4
          have eg := gG.2.2.2.1 (hd 3 (by decide))
          subst eg
          refine wpOp_step rfl (fun K hK => ?_)
          go_simp
          refine hK _ _ ?_
          refine ⟨_, _, _, _, _, _, _, _, _, _, _, _, _, _, _, _, _, _, _, rfl, gD, fun h => gG.1 h, fun h => gG.2.1 h, fun h => gG.2.2.1 h, fun h => gG.2.2.2.1 h, fun h => gG.2.2.2.2.1 h, fun _ => (by first | rfl | simp), fun h => gG.2.2.2.2.2.2.1 h, fun h => gG.2.2.2.2.2.2.2.1 h, fun h => gG.2.2.2.2.2.2.2.2.1 h, fun h => gG.2.2.2.2.2.2.2.2.2.1 h, fun h => gG.2.2.2.2.2.2.2.2.2.2.1 h, fun h => gG.2.2.2.2.2.2.2.2.2.2.2.1 h, fun h => gG.2.2.2.2.2.2.2.2.2.2.2.2.1 h, fun h => gG.2.2.2.2.2.2.2.2.2.2.2.2.2.1 h, fun h => gG.2.2.2.2.2.2.2.2.2.2.2.2.2.2.1 h, fun h => gG.2.2.2.2.2.2.2.2.2.2.2.2.2.2.2.1 h, fun h => gG.2.2.2.2.2.2.2.2.2.2.2.2.2.2.2.2.1 h, fun h => gG.2.2.2.2.2.2.2.2.2.2.2.2.2.2.2.2.2.1 h, fun h => gG.2.2.2.2.2.2.2.2.2.2.2.2.2.2.2.2.2.2 h⟩
        refine below_succ ?_ ?_
        · intro f az u hf hd hcl hI
          obtain ⟨x41, x42, x43, x44, x45, x46, x47, x48, x49, x50, x51, x52, x53, x54, x55, x56, x57, x58, x59, rfl, gD, gG⟩ := hI
          subst hmk
          have eg := gG.2.2.2.1 (hd 3 (by decide))
          subst eg
          refine wpOp_step rfl (fun K hK => ?_)
          go_simp
          refine hK _ _ ?_
          refine ⟨_, _, _, _, _, _, _, _, _, _, _, _, _, _, _, _, _, _, _, rfl, gD, fun h => gG.1 h, fun h => gG.2.1 h, fun h => gG.2.2.1 h, fun h => gG.2.2.2.1 h, fun _ => rfl, fun h => gG.2.2.2.2.2.1 h, fun h => gG.2.2.2.2.2.2.1 h, fun h => gG.2.2.2.2.2.2.2.1 h, fun h => gG.2.2.2.2.2.2.2.2.1 h, fun h => gG.2.2.2.2.2.2.2.2.2.1 h, fun h => gG.2.2.2.2.2.2.2.2.2.2.1 h, fun h => gG.2.2.2.2.2.2.2.2.2.2.2.1 h, fun h => gG.2.2.2.2.2.2.2.2.2.2.2.2.1 h, fun h => gG.2.2.2.2.2.2.2.2.2.2.2.2.2.1 h, fun h => gG.2.2.2.2.2.2.2.2.2.2.2.2.2.2.1 h, fun h => gG.2.2.2.2.2.2.2.2.2.2.2.2.2.2.2.1 h, fun h => gG.2.2.2.2.2.2.2.2.2.2.2.2.2.2.2.2.1 h, fun h => gG.2.2.2.2.2.2.2.2.2.2.2.2.2.2.2.2.2.1 h, fun h => gG.2.2.2.2.2.2.2.2.2.2.2.2.2.2.2.2.2.2 h⟩
        refine below_succ ?_ ?_
        · intro f az u hf hd hcl hI
          obtain ⟨x41, x42, x43, x44, x45, x46, x47, x48, x49, x50, x51, x52, x53, x54, x55, x56, x57, x58, x59, rfl, gD, gG⟩ := hI
          subst hmk
          have ef := gG.2.2.1 (hd 2 (by decide))
          subst ef
          refine wpOp_step rfl (fun K hK => ?_)
          go_simp
          refine hK _ _ ?_
          refine ⟨_, _, _, _, _, _, _, _, _, _, _, _, _, _, _, _, _, _, _, rfl, gD, fun h => gG.1 h, fun h => gG.2.1 h, fun h => gG.2.2.1 h, fun _ => rfl, fun h => gG.2.2.2.2.1 h, fun h => gG.2.2.2.2.2.1 h, fun h => gG.2.2.2.2.2.2.1 h, fun h => gG.2.2.2.2.2.2.2.1 h, fun h => gG.2.2.2.2.2.2.2.2.1 h, fun h => gG.2.2.2.2.2.2.2.2.2.1 h, fun h => gG.2.2.2.2.2.2.2.2.2.2.1 h, fun h => gG.2.2.2.2.2.2.2.2.2.2.2.1 h, fun h => gG.2.2.2.2.2.2.2.2.2.2.2.2.1 h, fun h => gG.2.2.2.2.2.2.2.2.2.2.2.2.2.1 h, fun h => gG.2.2.2.2.2.2.2.2.2.2.2.2.2.2.1 h, fun h => gG.2.2.2.2.2.2.2.2.2.2.2.2.2.2.2.1 h, fun h => gG.2.2.2.2.2.2.2.2.2.2.2.2.2.2.2.2.1 h, fun h => gG.2.2.2.2.2.2.2.2.2.2.2.2.2.2.2.2.2.1 h, fun h => gG.2.2.2.2.2.2.2.2.2.2.2.2.2.2.2.2.2.2 h⟩
        refine below_succ ?_ ?_
        · intro f az u hf hd hcl hI
          obtain ⟨x41, x42, x43, x44, x45, x46, x47, x48, x49, x50, x51, x52, x53, x54, x55, x56, x57, x58, x59, rfl, gD, gG⟩ := hI
          subst hmk
          have e1 := gG.2.1 (hd 1 (by decide))
          subst e1
          refine wpOp_step rfl (fun K hK => ?_)
          go_simp
          refine hK _ _ ?_
          refine ⟨_, _, _, _, _, _, _, _, _, _, _, _, _, _, _, _, _, _, _, rfl, gD, fun h => gG.1 h, fun h => gG.2.1 h, fun _ => (by first | rfl | simp), fun h => gG.2.2.2.1 h, fun h => gG.2.2.2.2.1 h, fun h => gG.2.2.2.2.2.1 h, fun h => gG.2.2.2.2.2.2.1 h, fun h => gG.2.2.2.2.2.2.2.1 h, fun h => gG.2.2.2.2.2.2.2.2.1 h, fun h => gG.2.2.2.2.2.2.2.2.2.1 h, fun h => gG.2.2.2.2.2.2.2.2.2.2.1 h, fun h => gG.2.2.2.2.2.2.2.2.2.2.2.1 h, fun h => gG.2.2.2.2.2.2.2.2.2.2.2.2.1 h, fun h => gG.2.2.2.2.2.2.2.2.2.2.2.2.2.1 h, fun h => gG.2.2.2.2.2.2.2.2.2.2.2.2.2.2.1 h, fun h => gG.2.2.2.2.2.2.2.2.2.2.2.2.2.2.2.1 h, fun h => gG.2.2.2.2.2.2.2.2.2.2.2.2.2.2.2.2.1 h, fun h => gG.2.2.2.2.2.2.2.2.2.2.2.2.2.2.2.2.2.1 h, fun h => gG.2.2.2.2.2.2.2.2.2.2.2.2.2.2.2.2.2.2 h⟩
        refine below_succ ?_ ?_
        · intro f az u hf hd hcl hI
          obtain ⟨x41, x42, x43, x44, x45, x46, x47, x48, x49, x50, x51, x52, x53, x54, x55, x56, x57, x58, x59, rfl, gD, gG⟩ := hI
          subst hmk
          have e0 := gG.1 (hd 0 (by decide))
          subst e0
          refine wpOp_step rfl (fun K hK => ?_)
          go_simp
          go_at_call 77
          refine (CP.out _ gD).mono ?_
          rintro e wn ⟨rfl, hb⟩
          try go_simp
          refine hK _ _ ?_
          refine ⟨_, _, _, _, _, _, _, _, _, _, _, _, _, _, _, _, _, _, _, rfl, hb, fun h => gG.1 h, fun _ => rfl, fun h => gG.2.2.1 h, fun h => gG.2.2.2.1 h, fun h => gG.2.2.2.2.1 h, fun h => gG.2.2.2.2.2.1 h, fun h => gG.2.2.2.2.2.2.1 h, fun h => gG.2.2.2.2.2.2.2.1 h, fun h => gG.2.2.2.2.2.2.2.2.1 h, fun h => gG.2.2.2.2.2.2.2.2.2.1 h, fun h => gG.2.2.2.2.2.2.2.2.2.2.1 h, fun h => gG.2.2.2.2.2.2.2.2.2.2.2.1 h, fun h => gG.2.2.2.2.2.2.2.2.2.2.2.2.1 h, fun h => gG.2.2.2.2.2.2.2.2.2.2.2.2.2.1 h, fun h => gG.2.2.2.2.2.2.2.2.2.2.2.2.2.2.1 h, fun h => gG.2.2.2.2.2.2.2.2.2.2.2.2.2.2.2.1 h, fun h => gG.2.2.2.2.2.2.2.2.2.2.2.2.2.2.2.2.1 h, fun h => gG.2.2.2.2.2.2.2.2.2.2.2.2.2.2.2.2.2.1 h, fun h => gG.2.2.2.2.2.2.2.2.2.2.2.2.2.2.2.2.2.2 h⟩
        refine below_succ ?_ ?_
        · intro f az u hf hd hcl hI
          obtain ⟨x41, x42, x43, x44, x45, x46, x47, x48, x49, x50, x51, x52, x53, x54, x55, x56, x57, x58, x59, rfl, gD, gG⟩ := hI
          subst hmk
          obtain ⟨⟨x0, x1, x2, x3, x4⟩, y0, y1, y2⟩ := KEEP.out u gD
          refine wpOp_step rfl (fun K hK => ?_)
          go_simp
          refine hK _ _ ?_
          refine ⟨_, _, _, _, _, _, _, _, _, _, _, _, _, _, _, _, _, _, _, rfl, gD, fun _ => (by first | rfl | simp), fun h => gG.2.1 h, fun h => gG.2.2.1 h, fun h => gG.2.2.2.1 h, fun h => gG.2.2.2.2.1 h, fun h => gG.2.2.2.2.2.1 h, fun h => gG.2.2.2.2.2.2.1 h, fun h => gG.2.2.2.2.2.2.2.1 h, fun h => gG.2.2.2.2.2.2.2.2.1 h, fun h => gG.2.2.2.2.2.2.2.2.2.1 h, fun h => gG.2.2.2.2.2.2.2.2.2.2.1 h, fun h => gG.2.2.2.2.2.2.2.2.2.2.2.1 h, fun h => gG.2.2.2.2.2.2.2.2.2.2.2.2.1 h, fun h => gG.2.2.2.2.2.2.2.2.2.2.2.2.2.1 h, fun h => gG.2.2.2.2.2.2.2.2.2.2.2.2.2.2.1 h, fun h => gG.2.2.2.2.2.2.2.2.2.2.2.2.2.2.2.1 h, fun h => gG.2.2.2.2.2.2.2.2.2.2.2.2.2.2.2.2.1 h, fun h => gG.2.2.2.2.2.2.2.2.2.2.2.2.2.2.2.2.2.1 h, fun h => gG.2.2.2.2.2.2.2.2.2.2.2.2.2.2.2.2.2.2 h⟩
        exact below_zero
      · intro f az u hf hI
        obtain ⟨x41, x42, x43, x44, x45, x46, x47, x48, x49, x50, x51, x52, x53, x54, x55, x56, x57, x58, x59, rfl, gD, g0, g1, g2, g3, g4, g5, g6, g7, g8, g9, g10, g11, g12, g13, g14, g15, g16, g17, g18⟩ := hI
        subst hmk
        have et := g18 (hf 18 (by decide))
        subst et
        have hb := gD
        clear hf gD g0 g1 g2 g3 g4 g5 g6 g7 g8 g9 g10 g11 g12 g13 g14 g15 g16 g17 g18
        have HN := Lib.hid (hBP.out _ hb)
        go_wp2
        go_roundg (ps.length - (k + 1))
        case measure => omega
        case rel => exact ⟨k + 1, by omega, rfl, by go_num, Lib.hid (range_all_succ HA.out (by rw [HD.out, HBB.out]; simp [H0.out])), HN⟩
    have hw1 : IntKind.i64.wrap ((k : Int) - 1) = ((k - 1 : Nat) : Int) := by rw [IntWalk.i64_in _ (by omega)]; omega
    have hpos : decide (0 < k) = true := decide_eq_true (by omega)
    have hposI : decide ((0 : Int) < (k : Int)) = true := decide_eq_true (by omega)
    have hlt1 : ((k - 1 : Nat) : Int) < (ps.length : Int) := by omega
    have hlt0 : (0 : Int) ≤ ((k - 1 : Nat) : Int) := by omega
    have KEEP2 : Hid (∀ W, Below wy.heap.size wy W → ((W.cell? ⟨X, 0, none⟩ = some (.string cd) ∧ W.cell? ⟨X, 1, none⟩ = some (.int .i64 sl) ∧ W.cell? ⟨X, 2, none⟩ = some (.slice (some ⟨b, off, none⟩) ps.length cap) ∧ W.cell? ⟨X, 3, none⟩ = some (.int .i64 pr) ∧ W.cell? ⟨X, 4, none⟩ = some (.int .i64 gr)) ∧ (W.cell? ⟨Y, 0, none⟩ = some (.int .i64 kd) ∧ W.cell? ⟨Y, 1, none⟩ = some (.int .i64 sz) ∧ W.cell? ⟨Y, 2, none⟩ = some (.bool pl))) ∧ W.cell? ⟨b, off + (k - 1) * 3, none⟩ = some (.int .i64 pk)) := Lib.hid (fun W h => ⟨KEEP.out W h, P0.out (by omega) W (hBP.out W h)⟩)
    clear P0 KEEP
    by_cases hge : pk < kd
    · have hd : decide (kd ≤ pk) = false := decide_eq_false (by omega)
      have HG := Lib.hid hge
      go_region_held3 (fun W => ((W.cell? ⟨X, 0, none⟩ = some (.string cd) ∧ W.cell? ⟨X, 1, none⟩ = some (.int .i64 sl) ∧ W.cell? ⟨X, 2, none⟩ = some (.slice (some ⟨b, off, none⟩) ps.length cap) ∧ W.cell? ⟨X, 3, none⟩ = some (.int .i64 pr) ∧ W.cell? ⟨X, 4, none⟩ = some (.int .i64 gr)) ∧ (W.cell? ⟨Y, 0, none⟩ = some (.int .i64 kd) ∧ W.cell? ⟨Y, 1, none⟩ = some (.int .i64 sz) ∧ W.cell? ⟨Y, 2, none⟩ = some (.bool pl))) ∧ W.cell? ⟨b, off + (k - 1) * 3, none⟩ = some (.int .i64 pk)) (first | exact KEEP2.out _ BR | exact KEEP2.out _ hb) (first | (go_at_call 77; refine (CP.out _ ?_).mono ?_; (first | assumption); rintro e wn ⟨rfl, hb⟩))
      all_goals
        have HN := Lib.hid (hBP.out _ hb)
        clear hw1 hpos hposI hlt1 hlt0
        go_wp2
        go_roundg (ps.length - (k + 1))
        case measure => omega
        case rel => exact ⟨k + 1, by omega, rfl, by go_num, Lib.hid (range_all_succ HA.out (by rw [HD.out, HBB.out, decide_eq_true HG.out]; simp)), HN⟩
    · have hd : decide (kd ≤ pk) = true := decide_eq_true (by omega)
      have HG := Lib.hid hge
      go_region_held3 (fun W => ((W.cell? ⟨X, 0, none⟩ = some (.string cd) ∧ W.cell? ⟨X, 1, none⟩ = some (.int .i64 sl) ∧ W.cell? ⟨X, 2, none⟩ = some (.slice (some ⟨b, off, none⟩) ps.length cap) ∧ W.cell? ⟨X, 3, none⟩ = some (.int .i64 pr) ∧ W.cell? ⟨X, 4, none⟩ = some (.int .i64 gr)) ∧ (W.cell? ⟨Y, 0, none⟩ = some (.int .i64 kd) ∧ W.cell? ⟨Y, 1, none⟩ = some (.int .i64 sz) ∧ W.cell? ⟨Y, 2, none⟩ = some (.bool pl))) ∧ W.cell? ⟨b, off + (k - 1) * 3, none⟩ = some (.int .i64 pk)) (first | exact KEEP2.out _ BR | exact KEEP2.out _ hb) (first | (go_at_call 77; refine (CP.out _ ?_).mono ?_; (first | assumption); rintro e wn ⟨rfl, hb⟩))
      all_goals
        have HF := Lib.hid (FIN.out _ hb)
        clear hw1 hpos hposI hlt1 hlt0
        go_wp2
        go_ret
        exact ⟨ret_bool (by unfold isPartB; simp only []; rw [range_all_false hlt (by rw [HD.out, HBB.out, decide_eq_false (Int.not_lt.2 HG.out)]; simp [h0])]; simp), HF.out⟩
end Go.Proofs.Ytblaojjpclipaaa
