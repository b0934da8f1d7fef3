/- The walk of the statement on rules (P25). No statement of the seat is proved here. -/
import Derived.Test.YtncggcbpbejmcaaRuleLaw
import Derived.Test.YtncggcbpbejmcaaDrawB
import Derived.Test.YtncggcbpbejmcaaLikes25
import Derived.Test.YtncggcbpbejmcaaMoveI
import Derived.Test.YtncggcbpbejmcaaMoveS
import Derived.Deep.RegionHeld3
namespace Go.Proofs.Ytncggcbpbejmcaa
open Go.RowKit

set_option maxHeartbeats 32000000 in
set_option maxRecDepth 20000 in
theorem walk_FnRules (a0 : Option Addr) (len0 cap0 : Nat) (z0 : List Int) (w : World) (p0 : IsRow .u8 w a0 len0 cap0 z0) :
    Calls Try.prog 14 #[.slice a0 len0 cap0] w fun e w' => e = .returned (.bool true) ∧ Below w.heap.size w w' := by
  obtain ⟨hcap, hby⟩ := p0.bytes
  have hmax := p0.max
  by_cases hbig : 4096 < len0
  · have HD : Hid (decide (4096 < len0) = true) := Lib.hid (decide_eq_true hbig)
    go_enter Try.func14, Try.ntmps14
    go_wp2_with fail
    refine (big_any a0 len0 cap0 w hmax).mono ?_
    rintro e w1 ⟨rfl, rfl⟩
    rw [HD.out]
    go_wp2
    go_ret
    exact ⟨rfl, Below.refl _ _⟩
  have HD : Hid (decide (4096 < len0) = false) := Lib.hid (decide_eq_false hbig)
  have hl4 : len0 ≤ 4096 := by omega
  have HBY := Lib.hid hby
  go_enter Try.func14, Try.ntmps14
  go_wp2_with fail
  refine (big_any a0 len0 cap0 w hmax).mono ?_
  rintro e w1 ⟨rfl, rfl⟩
  rw [HD.out]
  clear p0 hbig hmax hby
  have BW : Hid (Below w.heap.size w w) := Lib.hid (Below.refl _ _)
  go_wp2_with fail
  refine (DrawMoveRule_any a0 len0 cap0 w hl4 hcap (Bytes.below HBY.out BW.out)).mono ?_
  rintro e w2 ⟨v, R, i, t, rfl, ho, hrl, i0, i1, t0, t1, hb⟩
  replace BW := Lib.hid (Below.step BW.out hb)
  have V := Lib.hid (Sl.of_own ho (by unfold big40; omega))
  have hrl2 : R.length ≤ 1048576 := by omega
  have wi : Hid ((Lit.int .i64 i).wf = true) := Lib.hid (wf_in (by omega) (by omega))
  have wt : Hid ((Lit.int .i64 t).wf = true) := Lib.hid (wf_in (by omega) (by omega))
  obtain ⟨M, mc, hM⟩ : ∃ a c, MoveRule_r R i t = (a, c) := ⟨_, _, rfl⟩
  have HM := Lib.hid hM
  have hMl : M.length ≤ 1048576 := by have h := MoveRule_len R i t; rw [hM] at h; exact h
  clear ho hM i0 i1 t0 t1
  clear hb
  go_wp2_with fail
  refine (iMoveRule_law v R i t w2 V.out hrl2 wi.out wt.out).mono ?_
  rw [HM.out]
  rintro e w3 ⟨m0, rfl, ho, hb⟩
  replace V := Lib.hid (V.out.below hb)
  replace BW := Lib.hid (Below.step BW.out hb)
  have M0 := Lib.hid (Sl.of_own ho (big_of hMl))
  clear ho
  clear hb
  go_wp2_with fail
  refine (sMoveRule_law v R i t w3 V.out hrl2 wi.out wt.out).mono ?_
  rw [HM.out]
  rintro e w4 ⟨m1, rfl, ho, hb⟩
  replace V := Lib.hid (V.out.below hb)
  replace M0 := Lib.hid (M0.out.below hb)
  replace BW := Lib.hid (Below.step BW.out hb)
  have M1 := Lib.hid (Sl.of_own ho (big_of hMl))
  clear ho
  clear hb
  go_wp2_with fail
  refine (DrawChangedParts_any a0 len0 cap0 w4 hl4 hcap (Bytes.below HBY.out BW.out)).mono ?_
  rintro e w5 ⟨va, RA, vb, RB, u, L, rfl, hoa, hla, hob, hlb, hou, hlu, hk, hb⟩
  replace V := Lib.hid (V.out.below hb)
  replace M0 := Lib.hid (M0.out.below hb)
  replace M1 := Lib.hid (M1.out.below hb)
  replace BW := Lib.hid (Below.step BW.out hb)
  have VA := Lib.hid (Sl.of_own hoa (by unfold big40; omega))
  have VB := Lib.hid (Sl.of_own hob (by unfold big40; omega))
  have U := Lib.hid (Sl.of_own hou (by unfold big40; omega))
  have HK := Lib.hid hk
  have hla2 : RA.length ≤ 1048576 := by omega
  have hlb2 : RB.length ≤ 1048576 := by omega
  have hlu2 : L.length ≤ 1048576 := by omega
  obtain ⟨C, cc, hC⟩ : ∃ a c, ChangedParts_r RA RB L = (a, c) := ⟨_, _, rfl⟩
  have HC := Lib.hid hC
  have hCl : C.length ≤ 1048576 := by have h := ChangedParts_len RA RB L; rw [hC] at h; exact h
  clear hoa hob hou hk hC
  clear hb
  go_wp2_with fail
  refine (iChangedParts_law va RA vb RB u L w5 VA.out hla2 VB.out hlb2 U.out hlu2 HK.out).mono ?_
  rw [HC.out]
  rintro e w6 ⟨c0, rfl, ho, hb⟩
  replace V := Lib.hid (V.out.below hb)
  replace M0 := Lib.hid (M0.out.below hb)
  replace M1 := Lib.hid (M1.out.below hb)
  replace VA := Lib.hid (VA.out.below hb)
  replace VB := Lib.hid (VB.out.below hb)
  replace U := Lib.hid (U.out.below hb)
  replace BW := Lib.hid (Below.step BW.out hb)
  have C0 := Lib.hid (Sl.of_own ho (big_of hCl))
  clear ho
  clear hb
  go_wp2_with fail
  refine (sChangedParts_law va RA vb RB u L w6 VA.out hla2 VB.out hlb2 U.out hlu2 HK.out).mono ?_
  rw [HC.out]
  rintro e w7 ⟨c1, rfl, ho, hb⟩
  replace V := Lib.hid (V.out.below hb)
  replace M0 := Lib.hid (M0.out.below hb)
  replace M1 := Lib.hid (M1.out.below hb)
  replace VA := Lib.hid (VA.out.below hb)
  replace VB := Lib.hid (VB.out.below hb)
  replace U := Lib.hid (U.out.below hb)
  replace C0 := Lib.hid (C0.out.below hb)
  replace BW := Lib.hid (Below.step BW.out hb)
  have C1 := Lib.hid (Sl.of_own ho (big_of hCl))
  clear ho
  clear hb
  go_wp2_with fail
  refine (DrawRebuild_any a0 len0 cap0 w7 hl4 hcap (Bytes.below HBY.out BW.out)).mono ?_
  rintro e w8 ⟨x, pl, de, rfl, hx, hpl, hde, hb⟩
  replace V := Lib.hid (V.out.below hb)
  replace M0 := Lib.hid (M0.out.below hb)
  replace M1 := Lib.hid (M1.out.below hb)
  replace VA := Lib.hid (VA.out.below hb)
  replace VB := Lib.hid (VB.out.below hb)
  replace U := Lib.hid (U.out.below hb)
  replace C0 := Lib.hid (C0.out.below hb)
  replace C1 := Lib.hid (C1.out.below hb)
  replace BW := Lib.hid (Below.step BW.out hb)
  have HX := Lib.hid hx
  have wp : Hid ((Lit.int .i64 pl).wf = true) := Lib.hid (wf_in (by omega) (by omega))
  have wd : Hid ((Lit.int .i64 de).wf = true) := Lib.hid (wf_in (by omega) (by omega))
  obtain ⟨q, qc, hQ⟩ : ∃ a c, Rebuild_r x pl de = (a, c) := ⟨_, _, rfl⟩
  have HQ := Lib.hid hQ
  clear hx hpl hde hQ
  clear hb
  have hbx : ∀ j, (w8.alloc (.cells #[.string x.name, .int .i64 x.hours, .int .i64 x.play, .int .i64 x.rust, .int .i64 x.dents] 33)).cell? ⟨w8.heap.size, j, none⟩ = #[Value.string x.name, .int .i64 x.hours, .int .i64 x.play, .int .i64 x.rust, .int .i64 x.dents][j]? := fun j => box_new _ _ _ j
  have hb : Below w8.heap.size w8 (w8.alloc (.cells #[.string x.name, .int .i64 x.hours, .int .i64 x.play, .int .i64 x.rust, .int .i64 x.dents] 33)) := (Below.refl _ _).alloc (Nat.le_refl _) _
  have KP : Hid (∀ W, Below (w8.alloc (.cells #[.string x.name, .int .i64 x.hours, .int .i64 x.play, .int .i64 x.rust, .int .i64 x.dents] 33)).heap.size (w8.alloc (.cells #[.string x.name, .int .i64 x.hours, .int .i64 x.play, .int .i64 x.rust, .int .i64 x.dents] 33)) W → W.cell? ⟨w8.heap.size, 0, none⟩ = some (.string x.name) ∧ W.cell? ⟨w8.heap.size, 1, none⟩ = some (.int .i64 x.hours) ∧ W.cell? ⟨w8.heap.size, 2, none⟩ = some (.int .i64 x.play) ∧ W.cell? ⟨w8.heap.size, 3, none⟩ = some (.int .i64 x.rust) ∧ W.cell? ⟨w8.heap.size, 4, none⟩ = some (.int .i64 x.dents)) := Lib.hid (fun W h => ⟨(h.cell (p := ⟨w8.heap.size, 0, none⟩) (by simp)).trans ((hbx 0).trans rfl), (h.cell (p := ⟨w8.heap.size, 1, none⟩) (by simp)).trans ((hbx 1).trans rfl), (h.cell (p := ⟨w8.heap.size, 2, none⟩) (by simp)).trans ((hbx 2).trans rfl), (h.cell (p := ⟨w8.heap.size, 3, none⟩) (by simp)).trans ((hbx 3).trans rfl), (h.cell (p := ⟨w8.heap.size, 4, none⟩) (by simp)).trans ((hbx 4).trans rfl)⟩)
  replace V := Lib.hid (V.out.below hb)
  replace M0 := Lib.hid (M0.out.below hb)
  replace M1 := Lib.hid (M1.out.below hb)
  replace VA := Lib.hid (VA.out.below hb)
  replace VB := Lib.hid (VB.out.below hb)
  replace U := Lib.hid (U.out.below hb)
  replace C0 := Lib.hid (C0.out.below hb)
  replace C1 := Lib.hid (C1.out.below hb)
  replace BW := Lib.hid (Below.step BW.out hb)
  clear hb hbx
  obtain ⟨k00, k01, k02, k03, k04⟩ := KP.out _ (Below.refl _ _)
  go_wp2_with fail
  generalize (w8.alloc (.cells #[.string x.name, .int .i64 x.hours, .int .i64 x.play, .int .i64 x.rust, .int .i64 x.dents] 33)) = w9 at *
  generalize hXeX : w8.heap.size = X at *
  clear hXeX
  refine (iRebuild_law x pl de w9 HX.out wp.out wd.out).mono ?_
  rw [show Rebuild_e x pl de = .returned (.tuple #[.agg #[.string q.name, .int .i64 q.hours, .int .i64 q.play, .int .i64 q.rust, .int .i64 q.dents], .int .i64 qc]) from by show Ending.returned _ = _; rw [HQ.out]]
  rintro e w10 ⟨rfl, hb⟩
  clear k00 k01 k02 k03 k04
  replace V := Lib.hid (V.out.below hb)
  replace M0 := Lib.hid (M0.out.below hb)
  replace M1 := Lib.hid (M1.out.below hb)
  replace VA := Lib.hid (VA.out.below hb)
  replace VB := Lib.hid (VB.out.below hb)
  replace U := Lib.hid (U.out.below hb)
  replace C0 := Lib.hid (C0.out.below hb)
  replace C1 := Lib.hid (C1.out.below hb)
  replace BW := Lib.hid (Below.step BW.out hb)
  replace KP := Lib.hid (fun W h => KP.out W (Below.step hb h))
  clear hb
  have hbx : ∀ j, (w10.alloc (.cells #[.string q.name, .int .i64 q.hours, .int .i64 q.play, .int .i64 q.rust, .int .i64 q.dents] 33)).cell? ⟨w10.heap.size, j, none⟩ = #[Value.string q.name, .int .i64 q.hours, .int .i64 q.play, .int .i64 q.rust, .int .i64 q.dents][j]? := fun j => box_new _ _ _ j
  have hb : Below w10.heap.size w10 (w10.alloc (.cells #[.string q.name, .int .i64 q.hours, .int .i64 q.play, .int .i64 q.rust, .int .i64 q.dents] 33)) := (Below.refl _ _).alloc (Nat.le_refl _) _
  have KP2 : Hid (∀ W, Below (w10.alloc (.cells #[.string q.name, .int .i64 q.hours, .int .i64 q.play, .int .i64 q.rust, .int .i64 q.dents] 33)).heap.size (w10.alloc (.cells #[.string q.name, .int .i64 q.hours, .int .i64 q.play, .int .i64 q.rust, .int .i64 q.dents] 33)) W → W.cell? ⟨X, 0, none⟩ = some (.string x.name) ∧ W.cell? ⟨X, 1, none⟩ = some (.int .i64 x.hours) ∧ W.cell? ⟨X, 2, none⟩ = some (.int .i64 x.play) ∧ W.cell? ⟨X, 3, none⟩ = some (.int .i64 x.rust) ∧ W.cell? ⟨X, 4, none⟩ = some (.int .i64 x.dents) ∧ W.cell? ⟨w10.heap.size, 0, none⟩ = some (.string q.name) ∧ W.cell? ⟨w10.heap.size, 1, none⟩ = some (.int .i64 q.hours) ∧ W.cell? ⟨w10.heap.size, 2, none⟩ = some (.int .i64 q.play) ∧ W.cell? ⟨w10.heap.size, 3, none⟩ = some (.int .i64 q.rust) ∧ W.cell? ⟨w10.heap.size, 4, none⟩ = some (.int .i64 q.dents)) := Lib.hid (fun W h => by
    obtain ⟨q0, q1, q2, q3, q4⟩ := KP.out W (Below.step hb h)
    exact ⟨q0, q1, q2, q3, q4, (h.cell (p := ⟨w10.heap.size, 0, none⟩) (by simp)).trans ((hbx 0).trans rfl), (h.cell (p := ⟨w10.heap.size, 1, none⟩) (by simp)).trans ((hbx 1).trans rfl), (h.cell (p := ⟨w10.heap.size, 2, none⟩) (by simp)).trans ((hbx 2).trans rfl), (h.cell (p := ⟨w10.heap.size, 3, none⟩) (by simp)).trans ((hbx 3).trans rfl), (h.cell (p := ⟨w10.heap.size, 4, none⟩) (by simp)).trans ((hbx 4).trans rfl)⟩)
  clear KP
  have KP := KP2
  clear KP2
  replace V := Lib.hid (V.out.below hb)
  replace M0 := Lib.hid (M0.out.below hb)
  replace M1 := Lib.hid (M1.out.below hb)
  replace VA := Lib.hid (VA.out.below hb)
  replace VB := Lib.hid (VB.out.below hb)
  replace U := Lib.hid (U.out.below hb)
  replace C0 := Lib.hid (C0.out.below hb)
  replace C1 := Lib.hid (C1.out.below hb)
  replace BW := Lib.hid (Below.step BW.out hb)
  clear hb hbx
  obtain ⟨k00, k01, k02, k03, k04, k10, k11, k12, k13, k14⟩ := KP.out _ (Below.refl _ _)
  go_wp2_with fail
  generalize (w10.alloc (.cells #[.string q.name, .int .i64 q.hours, .int .i64 q.play, .int .i64 q.rust, .int .i64 q.dents] 33)) = w11 at *
  generalize hXeY1 : w10.heap.size = Y1 at *
  clear hXeY1
  refine (sRebuild_law x pl de w11 HX.out wp.out wd.out).mono ?_
  rw [show Rebuild_e x pl de = .returned (.tuple #[.agg #[.string q.name, .int .i64 q.hours, .int .i64 q.play, .int .i64 q.rust, .int .i64 q.dents], .int .i64 qc]) from by show Ending.returned _ = _; rw [HQ.out]]
  rintro e w12 ⟨rfl, hb⟩
  clear k00 k01 k02 k03 k04 k10 k11 k12 k13 k14
  replace V := Lib.hid (V.out.below hb)
  replace M0 := Lib.hid (M0.out.below hb)
  replace M1 := Lib.hid (M1.out.below hb)
  replace VA := Lib.hid (VA.out.below hb)
  replace VB := Lib.hid (VB.out.below hb)
  replace U := Lib.hid (U.out.below hb)
  replace C0 := Lib.hid (C0.out.below hb)
  replace C1 := Lib.hid (C1.out.below hb)
  replace BW := Lib.hid (Below.step BW.out hb)
  replace KP := Lib.hid (fun W h => KP.out W (Below.step hb h))
  clear hb
  have hbx : ∀ j, (w12.alloc (.cells #[.string q.name, .int .i64 q.hours, .int .i64 q.play, .int .i64 q.rust, .int .i64 q.dents] 33)).cell? ⟨w12.heap.size, j, none⟩ = #[Value.string q.name, .int .i64 q.hours, .int .i64 q.play, .int .i64 q.rust, .int .i64 q.dents][j]? := fun j => box_new _ _ _ j
  have hb : Below w12.heap.size w12 (w12.alloc (.cells #[.string q.name, .int .i64 q.hours, .int .i64 q.play, .int .i64 q.rust, .int .i64 q.dents] 33)) := (Below.refl _ _).alloc (Nat.le_refl _) _
  have KP2 : Hid (∀ W, Below (w12.alloc (.cells #[.string q.name, .int .i64 q.hours, .int .i64 q.play, .int .i64 q.rust, .int .i64 q.dents] 33)).heap.size (w12.alloc (.cells #[.string q.name, .int .i64 q.hours, .int .i64 q.play, .int .i64 q.rust, .int .i64 q.dents] 33)) W → W.cell? ⟨X, 0, none⟩ = some (.string x.name) ∧ W.cell? ⟨X, 1, none⟩ = some (.int .i64 x.hours) ∧ W.cell? ⟨X, 2, none⟩ = some (.int .i64 x.play) ∧ W.cell? ⟨X, 3, none⟩ = some (.int .i64 x.rust) ∧ W.cell? ⟨X, 4, none⟩ = some (.int .i64 x.dents) ∧ W.cell? ⟨Y1, 0, none⟩ = some (.string q.name) ∧ W.cell? ⟨Y1, 1, none⟩ = some (.int .i64 q.hours) ∧ W.cell? ⟨Y1, 2, none⟩ = some (.int .i64 q.play) ∧ W.cell? ⟨Y1, 3, none⟩ = some (.int .i64 q.rust) ∧ W.cell? ⟨Y1, 4, none⟩ = some (.int .i64 q.dents) ∧ W.cell? ⟨w12.heap.size, 0, none⟩ = some (.string q.name) ∧ W.cell? ⟨w12.heap.size, 1, none⟩ = some (.int .i64 q.hours) ∧ W.cell? ⟨w12.heap.size, 2, none⟩ = some (.int .i64 q.play) ∧ W.cell? ⟨w12.heap.size, 3, none⟩ = some (.int .i64 q.rust) ∧ W.cell? ⟨w12.heap.size, 4, none⟩ = some (.int .i64 q.dents)) := Lib.hid (fun W h => by
    obtain ⟨q0, q1, q2, q3, q4, q5, q6, q7, q8, q9⟩ := KP.out W (Below.step hb h)
    exact ⟨q0, q1, q2, q3, q4, q5, q6, q7, q8, q9, (h.cell (p := ⟨w12.heap.size, 0, none⟩) (by simp)).trans ((hbx 0).trans rfl), (h.cell (p := ⟨w12.heap.size, 1, none⟩) (by simp)).trans ((hbx 1).trans rfl), (h.cell (p := ⟨w12.heap.size, 2, none⟩) (by simp)).trans ((hbx 2).trans rfl), (h.cell (p := ⟨w12.heap.size, 3, none⟩) (by simp)).trans ((hbx 3).trans rfl), (h.cell (p := ⟨w12.heap.size, 4, none⟩) (by simp)).trans ((hbx 4).trans rfl)⟩)
  clear KP
  have KP := KP2
  clear KP2
  replace V := Lib.hid (V.out.below hb)
  replace M0 := Lib.hid (M0.out.below hb)
  replace M1 := Lib.hid (M1.out.below hb)
  replace VA := Lib.hid (VA.out.below hb)
  replace VB := Lib.hid (VB.out.below hb)
  replace U := Lib.hid (U.out.below hb)
  replace C0 := Lib.hid (C0.out.below hb)
  replace C1 := Lib.hid (C1.out.below hb)
  replace BW := Lib.hid (Below.step BW.out hb)
  clear hb hbx
  obtain ⟨k00, k01, k02, k03, k04, k10, k11, k12, k13, k14, k20, k21, k22, k23, k24⟩ := KP.out _ (Below.refl _ _)
  go_wp2_with fail
  generalize (w12.alloc (.cells #[.string q.name, .int .i64 q.hours, .int .i64 q.play, .int .i64 q.rust, .int .i64 q.dents] 33)) = w13 at *
  generalize hXeY2 : w12.heap.size = Y2 at *
  clear hXeY2
  refine (DrawCheapestRebuild_any a0 len0 cap0 w13 hl4 hcap (Bytes.below HBY.out BW.out)).mono ?_
  rintro e w14 ⟨vy, RY, z, g, rfl, ho, hly, hz, hg, hb⟩
  clear k00 k01 k02 k03 k04 k10 k11 k12 k13 k14 k20 k21 k22 k23 k24
  replace V := Lib.hid (V.out.below hb)
  replace M0 := Lib.hid (M0.out.below hb)
  replace M1 := Lib.hid (M1.out.below hb)
  replace VA := Lib.hid (VA.out.below hb)
  replace VB := Lib.hid (VB.out.below hb)
  replace U := Lib.hid (U.out.below hb)
  replace C0 := Lib.hid (C0.out.below hb)
  replace C1 := Lib.hid (C1.out.below hb)
  replace BW := Lib.hid (Below.step BW.out hb)
  replace KP := Lib.hid (fun W h => KP.out W (Below.step hb h))
  have VY := Lib.hid (Sl.of_own ho (by unfold big40; omega))
  have HZ := Lib.hid hz
  have hly2 : RY.length ≤ 1048576 := by omega
  have wg : Hid ((Lit.int .i64 g).wf = true) := Lib.hid (wf_in (by omega) (by omega))
  obtain ⟨k, kc, hCH⟩ : ∃ a c, CheapestRebuild_r RY z g = (a, c) := ⟨_, _, rfl⟩
  have HCH := Lib.hid hCH
  have HCE := Lib.hid (Cheap_e_of hCH)
  clear ho hz hg hCH
  clear hb
  have hbx : ∀ j, (w14.alloc (.cells #[.string z.name, .int .i64 z.hours, .int .i64 z.play, .int .i64 z.rust, .int .i64 z.dents] 33)).cell? ⟨w14.heap.size, j, none⟩ = #[Value.string z.name, .int .i64 z.hours, .int .i64 z.play, .int .i64 z.rust, .int .i64 z.dents][j]? := fun j => box_new _ _ _ j
  have hb : Below w14.heap.size w14 (w14.alloc (.cells #[.string z.name, .int .i64 z.hours, .int .i64 z.play, .int .i64 z.rust, .int .i64 z.dents] 33)) := (Below.refl _ _).alloc (Nat.le_refl _) _
  have KP2 : Hid (∀ W, Below (w14.alloc (.cells #[.string z.name, .int .i64 z.hours, .int .i64 z.play, .int .i64 z.rust, .int .i64 z.dents] 33)).heap.size (w14.alloc (.cells #[.string z.name, .int .i64 z.hours, .int .i64 z.play, .int .i64 z.rust, .int .i64 z.dents] 33)) W → W.cell? ⟨X, 0, none⟩ = some (.string x.name) ∧ W.cell? ⟨X, 1, none⟩ = some (.int .i64 x.hours) ∧ W.cell? ⟨X, 2, none⟩ = some (.int .i64 x.play) ∧ W.cell? ⟨X, 3, none⟩ = some (.int .i64 x.rust) ∧ W.cell? ⟨X, 4, none⟩ = some (.int .i64 x.dents) ∧ W.cell? ⟨Y1, 0, none⟩ = some (.string q.name) ∧ W.cell? ⟨Y1, 1, none⟩ = some (.int .i64 q.hours) ∧ W.cell? ⟨Y1, 2, none⟩ = some (.int .i64 q.play) ∧ W.cell? ⟨Y1, 3, none⟩ = some (.int .i64 q.rust) ∧ W.cell? ⟨Y1, 4, none⟩ = some (.int .i64 q.dents) ∧ W.cell? ⟨Y2, 0, none⟩ = some (.string q.name) ∧ W.cell? ⟨Y2, 1, none⟩ = some (.int .i64 q.hours) ∧ W.cell? ⟨Y2, 2, none⟩ = some (.int .i64 q.play) ∧ W.cell? ⟨Y2, 3, none⟩ = some (.int .i64 q.rust) ∧ W.cell? ⟨Y2, 4, none⟩ = some (.int .i64 q.dents) ∧ W.cell? ⟨w14.heap.size, 0, none⟩ = some (.string z.name) ∧ W.cell? ⟨w14.heap.size, 1, none⟩ = some (.int .i64 z.hours) ∧ W.cell? ⟨w14.heap.size, 2, none⟩ = some (.int .i64 z.play) ∧ W.cell? ⟨w14.heap.size, 3, none⟩ = some (.int .i64 z.rust) ∧ W.cell? ⟨w14.heap.size, 4, none⟩ = some (.int .i64 z.dents)) := Lib.hid (fun W h => by
    obtain ⟨q0, q1, q2, q3, q4, q5, q6, q7, q8, q9, q10, q11, q12, q13, q14⟩ := KP.out W (Below.step hb h)
    exact ⟨q0, q1, q2, q3, q4, q5, q6, q7, q8, q9, q10, q11, q12, q13, q14, (h.cell (p := ⟨w14.heap.size, 0, none⟩) (by simp)).trans ((hbx 0).trans rfl), (h.cell (p := ⟨w14.heap.size, 1, none⟩) (by simp)).trans ((hbx 1).trans rfl), (h.cell (p := ⟨w14.heap.size, 2, none⟩) (by simp)).trans ((hbx 2).trans rfl), (h.cell (p := ⟨w14.heap.size, 3, none⟩) (by simp)).trans ((hbx 3).trans rfl), (h.cell (p := ⟨w14.heap.size, 4, none⟩) (by simp)).trans ((hbx 4).trans rfl)⟩)
  clear KP
  have KP := KP2
  clear KP2
  replace V := Lib.hid (V.out.below hb)
  replace M0 := Lib.hid (M0.out.below hb)
  replace M1 := Lib.hid (M1.out.below hb)
  replace VA := Lib.hid (VA.out.below hb)
  replace VB := Lib.hid (VB.out.below hb)
  replace U := Lib.hid (U.out.below hb)
  replace C0 := Lib.hid (C0.out.below hb)
  replace C1 := Lib.hid (C1.out.below hb)
  replace VY := Lib.hid (VY.out.below hb)
  replace BW := Lib.hid (Below.step BW.out hb)
  clear hb hbx
  obtain ⟨k00, k01, k02, k03, k04, k10, k11, k12, k13, k14, k20, k21, k22, k23, k24, k30, k31, k32, k33, k34⟩ := KP.out _ (Below.refl _ _)
  go_wp2_with fail
  generalize (w14.alloc (.cells #[.string z.name, .int .i64 z.hours, .int .i64 z.play, .int .i64 z.rust, .int .i64 z.dents] 33)) = w15 at *
  generalize hXeZ : w14.heap.size = Z at *
  clear hXeZ
  refine (iCheapestRebuild_law vy RY z g w15 VY.out hly2 HZ.out wg.out).mono ?_
  rw [← HCE.out]
  rintro e w16 ⟨rfl, hb⟩
  clear k00 k01 k02 k03 k04 k10 k11 k12 k13 k14 k20 k21 k22 k23 k24 k30 k31 k32 k33 k34
  replace V := Lib.hid (V.out.below hb)
  replace M0 := Lib.hid (M0.out.below hb)
  replace M1 := Lib.hid (M1.out.below hb)
  replace VA := Lib.hid (VA.out.below hb)
  replace VB := Lib.hid (VB.out.below hb)
  replace U := Lib.hid (U.out.below hb)
  replace C0 := Lib.hid (C0.out.below hb)
  replace C1 := Lib.hid (C1.out.below hb)
  replace VY := Lib.hid (VY.out.below hb)
  replace BW := Lib.hid (Below.step BW.out hb)
  replace KP := Lib.hid (fun W h => KP.out W (Below.step hb h))
  clear hb
  obtain ⟨k00, k01, k02, k03, k04, k10, k11, k12, k13, k14, k20, k21, k22, k23, k24, k30, k31, k32, k33, k34⟩ := KP.out _ (Below.refl _ _)
  go_wp2_with fail
  refine (sCheapestRebuild_law vy RY z g w16 VY.out hly2 HZ.out wg.out).mono ?_
  rw [← HCE.out]
  rintro e w17 ⟨rfl, hb⟩
  clear k00 k01 k02 k03 k04 k10 k11 k12 k13 k14 k20 k21 k22 k23 k24 k30 k31 k32 k33 k34
  replace V := Lib.hid (V.out.below hb)
  replace M0 := Lib.hid (M0.out.below hb)
  replace M1 := Lib.hid (M1.out.below hb)
  replace VA := Lib.hid (VA.out.below hb)
  replace VB := Lib.hid (VB.out.below hb)
  replace U := Lib.hid (U.out.below hb)
  replace C0 := Lib.hid (C0.out.below hb)
  replace C1 := Lib.hid (C1.out.below hb)
  replace VY := Lib.hid (VY.out.below hb)
  replace BW := Lib.hid (Below.step BW.out hb)
  replace KP := Lib.hid (fun W h => KP.out W (Below.step hb h))
  clear hb
  go_wp2_with fail
  refine (likeRules_same m0 m1 M w17 M0.out M1.out).mono ?_
  rintro e w18 ⟨rfl, hb⟩
  replace V := Lib.hid (V.out.below hb)
  replace M0 := Lib.hid (M0.out.below hb)
  replace M1 := Lib.hid (M1.out.below hb)
  replace VA := Lib.hid (VA.out.below hb)
  replace VB := Lib.hid (VB.out.below hb)
  replace U := Lib.hid (U.out.below hb)
  replace C0 := Lib.hid (C0.out.below hb)
  replace C1 := Lib.hid (C1.out.below hb)
  replace VY := Lib.hid (VY.out.below hb)
  replace BW := Lib.hid (Below.step BW.out hb)
  replace KP := Lib.hid (fun W h => KP.out W (Below.step hb h))
  clear hb
  go_wp2_with fail
  refine (likeTexts_same c0 c1 C w18 C0.out C1.out).mono ?_
  rintro e w19 ⟨rfl, hb⟩
  replace V := Lib.hid (V.out.below hb)
  replace M0 := Lib.hid (M0.out.below hb)
  replace M1 := Lib.hid (M1.out.below hb)
  replace VA := Lib.hid (VA.out.below hb)
  replace VB := Lib.hid (VB.out.below hb)
  replace U := Lib.hid (U.out.below hb)
  replace C0 := Lib.hid (C0.out.below hb)
  replace C1 := Lib.hid (C1.out.below hb)
  replace VY := Lib.hid (VY.out.below hb)
  replace BW := Lib.hid (Below.step BW.out hb)
  replace KP := Lib.hid (fun W h => KP.out W (Below.step hb h))
  clear hb
  -- REGION15 w19
  -- TAIL
  have BN : Hid (Below w19.heap.size w19 w19) := Lib.hid (Below.refl _ _)
  clear M1 C1 HBY
  obtain ⟨k00, k01, k02, k03, k04, k10, k11, k12, k13, k14, k20, k21, k22, k23, k24, k30, k31, k32, k33, k34⟩ := KP.out _ BN.out
  by_cases hq0 : qc = 0
  · subst hq0
    obtain ⟨-, -, f1, f2, f3, f4, f5, f6, f7⟩ := rebuild_at HQ.out rfl
    have d1 : decide (x.play < q.play) = false := decide_eq_false (by omega)
    have d2 : decide (pl < q.play) = false := decide_eq_false (by omega)
    have d4 : decide (x.dents < q.dents) = false := decide_eq_false (by omega)
    have d5 : decide (q.dents < 0) = false := decide_eq_false (by omega)
    rw [f7] at k10 k20
    rw [f6] at k11 k21
    rw [f3] at k13 k23
    clear f1 f2 f3 f4 f5 f6 f7
    by_cases hc0 : cc = 0
    · subst hc0
      go_wp2_with fail
      refine (iChangedParts_law vb RB va RA u L w19 (VB.out.below BN.out) hlb2 (VA.out.below BN.out) hla2 (U.out.below BN.out) hlu2 HK.out).mono ?_
      rw [changed_swap HC.out rfl]
      rintro e wS ⟨cs, rfl, ho, hb⟩
      have SC := Lib.hid (Sl.of_own ho (big_of hCl))
      have BS := Lib.hid (Below.step BN.out hb)
      have SC0 := Lib.hid (C0.out.below BS.out)
      clear ho hb
      go_wp2_with fail
      refine (likeTexts_same cs c0 C wS SC.out SC0.out).mono ?_
      rintro e wS2 ⟨rfl, hb⟩
      have BS2 := Lib.hid (Below.step BS.out hb)
      clear hb
      by_cases hk0 : kc = 0
      · subst hk0
        obtain ⟨kk0, kk1, hRz, hGz, hle⟩ := cheap_at HCH.out rfl
        have HA : Hid (okUsed (rebuiltF z 0 k)) := Lib.hid HZ.out
        generalize rebuiltF z 0 k = a at *
        have HRZ := Lib.hid hRz
        have HGZ := Lib.hid hGz
        have hdg : decide (g < gradeF RY a) = false := decide_eq_false (by omega)
        have wk : Hid ((Lit.int .i64 k).wf = true) := Lib.hid (wf_in (by omega) (by omega))
        have w00 : Hid ((Lit.int .i64 0).wf = true) := Lib.hid (wf_in (by omega) (by omega))
        clear k00 k01 k02 k03 k04 k10 k11 k12 k13 k14 k20 k21 k22 k23 k24 k30 k31 k32 k33 k34
        obtain ⟨k00, k01, k02, k03, k04, k10, k11, k12, k13, k14, k20, k21, k22, k23, k24, k30, k31, k32, k33, k34⟩ := KP.out _ BS2.out
        clear hRz hGz hle
        go_wp2_with fail
        refine (iRebuild_law z 0 k wS2 HZ.out w00.out wk.out).mono ?_
        rw [show Rebuild_e z 0 k = .returned (.tuple #[.agg #[.string a.name, .int .i64 a.hours, .int .i64 a.play, .int .i64 a.rust, .int .i64 a.dents], .int .i64 0]) from by show Ending.returned _ = _; rw [HRZ.out]]
        rintro e wR ⟨rfl, hb⟩
        have BRr := Lib.hid ((Below.step BS2.out hb).alloc (Nat.le_trans BS2.out.size hb.size) (.cells #[.string a.name, .int .i64 a.hours, .int .i64 a.play, .int .i64 a.rust, .int .i64 a.dents] 33))
        have hbx : ∀ j, (wR.alloc (.cells #[.string a.name, .int .i64 a.hours, .int .i64 a.play, .int .i64 a.rust, .int .i64 a.dents] 33)).cell? ⟨wR.heap.size, j, none⟩ = #[Value.string a.name, .int .i64 a.hours, .int .i64 a.play, .int .i64 a.rust, .int .i64 a.dents][j]? := fun j => box_new _ _ _ j
        have a0c := (hbx 0).trans (show _ = some (Value.string a.name) from rfl)
        have a1c := (hbx 1).trans (show _ = some (Value.int .i64 a.hours) from rfl)
        have a2c := (hbx 2).trans (show _ = some (Value.int .i64 a.play) from rfl)
        have a3c := (hbx 3).trans (show _ = some (Value.int .i64 a.rust) from rfl)
        have a4c := (hbx 4).trans (show _ = some (Value.int .i64 a.dents) from rfl)
        clear hb hbx k00 k01 k02 k03 k04 k10 k11 k12 k13 k14 k20 k21 k22 k23 k24 k30 k31 k32 k33 k34
        go_wp2_with fail
        refine (iGradeOf_law vy RY a (wR.alloc (.cells #[.string a.name, .int .i64 a.hours, .int .i64 a.play, .int .i64 a.rust, .int .i64 a.dents] 33)) (VY.out.below BRr.out) hly2 HA.out).mono ?_
        rw [HGZ.out]
        rintro e wG ⟨rfl, hb⟩
        have BG := Lib.hid (Below.step BRr.out hb)
        clear hb a0c a1c a2c a3c a4c
        by_cases hm0 : mc = 0
        · subst hm0
          obtain ⟨ai, bi, rfl, rfl, hai, hbi, hmb, heq⟩ := move_back HM.out rfl
          have HMB := Lib.hid hmb
          have HEQ := Lib.hid heq
          clear hmb heq
          go_wp2_with fail
          refine (iMoveRule_law m0 M (bi : Int) (ai : Int) wG (M0.out.below BG.out) hMl wt.out wi.out).mono ?_
          rw [HMB.out]
          rintro e wB ⟨mb, rfl, ho, hb⟩
          have SB := Lib.hid (Sl.of_own ho (big_of hrl2))
          have BB := Lib.hid (Below.step BG.out hb)
          clear ho hb
          obtain ⟨A1, cap1, rfl, _, _, hs1⟩ := M0.out.shape
          obtain ⟨A2, cap2, rfl, _, _, hs2⟩ := V.out.shape
          obtain ⟨b1, o1, rfl, hl1, hcell1⟩ := hs1 (by omega)
          obtain ⟨b2, o2, rfl, hl2, hcell2⟩ := hs2 (by omega)
          have CM : Hid (∀ W, Below w19.heap.size w19 W → W.cell? ⟨b1, o1 + bi * 3, none⟩ = some (.int .i64 R[ai].field) ∧ W.cell? ⟨b1, o1 + bi * 3 + 1, none⟩ = some (.int .i64 R[ai].least) ∧ W.cell? ⟨b1, o1 + bi * 3 + 2, none⟩ = some (.int .i64 R[ai].grade) ∧ W.cell? ⟨b2, o2 + ai * 3, none⟩ = some (.int .i64 R[ai].field) ∧ W.cell? ⟨b2, o2 + ai * 3 + 1, none⟩ = some (.int .i64 R[ai].least) ∧ W.cell? ⟨b2, o2 + ai * 3 + 2, none⟩ = some (.int .i64 R[ai].grade)) := Lib.hid (fun W hbt => by
            have heq := HEQ.out
            have c0 : W.cell? ⟨b1, o1 + bi * 3, none⟩ = some (.int .i64 M[bi].field) := (hbt.cell (p := ⟨b1, o1 + bi * 3, none⟩) hl1).trans (by simpa [eRule, Nat.add_assoc] using hcell1 bi hbi 0 _ (by decide) rfl)
            have c1 : W.cell? ⟨b1, o1 + bi * 3 + 1, none⟩ = some (.int .i64 M[bi].least) := (hbt.cell (p := ⟨b1, o1 + bi * 3 + 1, none⟩) hl1).trans (by simpa [eRule, Nat.add_assoc] using hcell1 bi hbi 1 _ (by decide) rfl)
            have c2 : W.cell? ⟨b1, o1 + bi * 3 + 2, none⟩ = some (.int .i64 M[bi].grade) := (hbt.cell (p := ⟨b1, o1 + bi * 3 + 2, none⟩) hl1).trans (by simpa [eRule, Nat.add_assoc] using hcell1 bi hbi 2 _ (by decide) rfl)
            have d0 : W.cell? ⟨b2, o2 + ai * 3, none⟩ = some (.int .i64 R[ai].field) := (hbt.cell (p := ⟨b2, o2 + ai * 3, none⟩) hl2).trans (by simpa [eRule, Nat.add_assoc] using hcell2 ai hai 0 _ (by decide) rfl)
            have d1 : W.cell? ⟨b2, o2 + ai * 3 + 1, none⟩ = some (.int .i64 R[ai].least) := (hbt.cell (p := ⟨b2, o2 + ai * 3 + 1, none⟩) hl2).trans (by simpa [eRule, Nat.add_assoc] using hcell2 ai hai 1 _ (by decide) rfl)
            have d2 : W.cell? ⟨b2, o2 + ai * 3 + 2, none⟩ = some (.int .i64 R[ai].grade) := (hbt.cell (p := ⟨b2, o2 + ai * 3 + 2, none⟩) hl2).trans (by simpa [eRule, Nat.add_assoc] using hcell2 ai hai 2 _ (by decide) rfl)
            rw [heq] at c0 c1 c2
            exact ⟨c0, c1, c2, d0, d1, d2⟩)
          clear HEQ
          generalize R[ai] = ra at *
          have LB : Hid (∀ W, Below wB.heap.size wB W → Calls Try.prog 63 #[mb, .slice (some ⟨b2, o2, none⟩) R.length cap2] W fun e w' => e = .returned (.bool true) ∧ Below wB.heap.size wB w') := Lib.hid (fun W h => (likeRules_same mb _ R W (SB.out.below h) ((V.out.below BB.out).below h)).mono fun _ _ hh => ⟨hh.1, Below.step h hh.2⟩)
          have KB : Hid (∀ W, Below wB.heap.size wB W → W.cell? ⟨b1, o1 + bi * 3, none⟩ = some (.int .i64 ra.field) ∧ W.cell? ⟨b1, o1 + bi * 3 + 1, none⟩ = some (.int .i64 ra.least) ∧ W.cell? ⟨b1, o1 + bi * 3 + 2, none⟩ = some (.int .i64 ra.grade) ∧ W.cell? ⟨b2, o2 + ai * 3, none⟩ = some (.int .i64 ra.field) ∧ W.cell? ⟨b2, o2 + ai * 3 + 1, none⟩ = some (.int .i64 ra.least) ∧ W.cell? ⟨b2, o2 + ai * 3 + 2, none⟩ = some (.int .i64 ra.grade)) := Lib.hid (fun W h => CM.out W (Below.step BB.out h))
          have BR1 : Below wB.heap.size wB wB.drew := (Below.refl _ _).drew
          have i0 : (0 : Int) ≤ (ai : Int) := by omega
          have i1 : (ai : Int) < (R.length : Int) := by omega
          have i2 : (0 : Int) ≤ (bi : Int) := by omega
          have i3 : (bi : Int) < (M.length : Int) := by omega
          clear hs1 hs2 hcell1 hcell2
          go_wp2
          go_region_held3 (fun W => W.cell? ⟨b1, o1 + bi * 3, none⟩ = some (.int .i64 ra.field) ∧ W.cell? ⟨b1, o1 + bi * 3 + 1, none⟩ = some (.int .i64 ra.least) ∧ W.cell? ⟨b1, o1 + bi * 3 + 2, none⟩ = some (.int .i64 ra.grade) ∧ W.cell? ⟨b2, o2 + ai * 3, none⟩ = some (.int .i64 ra.field) ∧ W.cell? ⟨b2, o2 + ai * 3 + 1, none⟩ = some (.int .i64 ra.least) ∧ W.cell? ⟨b2, o2 + ai * 3 + 2, none⟩ = some (.int .i64 ra.grade)) (first | exact KB.out _ BR1 | exact KB.out _ hb)
            (first
              | (go_at_call 63; refine (LB.out _ ?_).mono ?_; (first | assumption); rintro e wn ⟨rfl, hb⟩))
          all_goals
            go_wp2
            go_ret
            exact ⟨rfl, Below.step BW.out (Below.step BB.out hb)⟩
        · have hmb : (mc == 0) = false := beq_eq_false_iff_ne.2 hm0
          have HF := Lib.hid (Below.step BW.out BG.out)
          go_wp2
          go_ret
          exact ⟨rfl, HF.out⟩
      · have hkb : (kc == 0) = false := beq_eq_false_iff_ne.2 hk0
        by_cases hm0 : mc = 0
        · subst hm0
          obtain ⟨ai, bi, rfl, rfl, hai, hbi, hmb, heq⟩ := move_back HM.out rfl
          have HMB := Lib.hid hmb
          have HEQ := Lib.hid heq
          clear hmb heq
          go_wp2_with fail
          refine (iMoveRule_law m0 M (bi : Int) (ai : Int) wS2 (M0.out.below BS2.out) hMl wt.out wi.out).mono ?_
          rw [HMB.out]
          rintro e wB ⟨mb, rfl, ho, hb⟩
          have SB := Lib.hid (Sl.of_own ho (big_of hrl2))
          have BB := Lib.hid (Below.step BS2.out hb)
          clear ho hb
          obtain ⟨A1, cap1, rfl, _, _, hs1⟩ := M0.out.shape
          obtain ⟨A2, cap2, rfl, _, _, hs2⟩ := V.out.shape
          obtain ⟨b1, o1, rfl, hl1, hcell1⟩ := hs1 (by omega)
          obtain ⟨b2, o2, rfl, hl2, hcell2⟩ := hs2 (by omega)
          have CM : Hid (∀ W, Below w19.heap.size w19 W → W.cell? ⟨b1, o1 + bi * 3, none⟩ = some (.int .i64 R[ai].field) ∧ W.cell? ⟨b1, o1 + bi * 3 + 1, none⟩ = some (.int .i64 R[ai].least) ∧ W.cell? ⟨b1, o1 + bi * 3 + 2, none⟩ = some (.int .i64 R[ai].grade) ∧ W.cell? ⟨b2, o2 + ai * 3, none⟩ = some (.int .i64 R[ai].field) ∧ W.cell? ⟨b2, o2 + ai * 3 + 1, none⟩ = some (.int .i64 R[ai].least) ∧ W.cell? ⟨b2, o2 + ai * 3 + 2, none⟩ = some (.int .i64 R[ai].grade)) := Lib.hid (fun W hbt => by
            have heq := HEQ.out
            have c0 : W.cell? ⟨b1, o1 + bi * 3, none⟩ = some (.int .i64 M[bi].field) := (hbt.cell (p := ⟨b1, o1 + bi * 3, none⟩) hl1).trans (by simpa [eRule, Nat.add_assoc] using hcell1 bi hbi 0 _ (by decide) rfl)
            have c1 : W.cell? ⟨b1, o1 + bi * 3 + 1, none⟩ = some (.int .i64 M[bi].least) := (hbt.cell (p := ⟨b1, o1 + bi * 3 + 1, none⟩) hl1).trans (by simpa [eRule, Nat.add_assoc] using hcell1 bi hbi 1 _ (by decide) rfl)
            have c2 : W.cell? ⟨b1, o1 + bi * 3 + 2, none⟩ = some (.int .i64 M[bi].grade) := (hbt.cell (p := ⟨b1, o1 + bi * 3 + 2, none⟩) hl1).trans (by simpa [eRule, Nat.add_assoc] using hcell1 bi hbi 2 _ (by decide) rfl)
            have d0 : W.cell? ⟨b2, o2 + ai * 3, none⟩ = some (.int .i64 R[ai].field) := (hbt.cell (p := ⟨b2, o2 + ai * 3, none⟩) hl2).trans (by simpa [eRule, Nat.add_assoc] using hcell2 ai hai 0 _ (by decide) rfl)
            have d1 : W.cell? ⟨b2, o2 + ai * 3 + 1, none⟩ = some (.int .i64 R[ai].least) := (hbt.cell (p := ⟨b2, o2 + ai * 3 + 1, none⟩) hl2).trans (by simpa [eRule, Nat.add_assoc] using hcell2 ai hai 1 _ (by decide) rfl)
            have d2 : W.cell? ⟨b2, o2 + ai * 3 + 2, none⟩ = some (.int .i64 R[ai].grade) := (hbt.cell (p := ⟨b2, o2 + ai * 3 + 2, none⟩) hl2).trans (by simpa [eRule, Nat.add_assoc] using hcell2 ai hai 2 _ (by decide) rfl)
            rw [heq] at c0 c1 c2
            exact ⟨c0, c1, c2, d0, d1, d2⟩)
          clear HEQ
          generalize R[ai] = ra at *
          have LB : Hid (∀ W, Below wB.heap.size wB W → Calls Try.prog 63 #[mb, .slice (some ⟨b2, o2, none⟩) R.length cap2] W fun e w' => e = .returned (.bool true) ∧ Below wB.heap.size wB w') := Lib.hid (fun W h => (likeRules_same mb _ R W (SB.out.below h) ((V.out.below BB.out).below h)).mono fun _ _ hh => ⟨hh.1, Below.step h hh.2⟩)
          have KB : Hid (∀ W, Below wB.heap.size wB W → W.cell? ⟨b1, o1 + bi * 3, none⟩ = some (.int .i64 ra.field) ∧ W.cell? ⟨b1, o1 + bi * 3 + 1, none⟩ = some (.int .i64 ra.least) ∧ W.cell? ⟨b1, o1 + bi * 3 + 2, none⟩ = some (.int .i64 ra.grade) ∧ W.cell? ⟨b2, o2 + ai * 3, none⟩ = some (.int .i64 ra.field) ∧ W.cell? ⟨b2, o2 + ai * 3 + 1, none⟩ = some (.int .i64 ra.least) ∧ W.cell? ⟨b2, o2 + ai * 3 + 2, none⟩ = some (.int .i64 ra.grade)) := Lib.hid (fun W h => CM.out W (Below.step BB.out h))
          have BR1 : Below wB.heap.size wB wB.drew := (Below.refl _ _).drew
          have i0 : (0 : Int) ≤ (ai : Int) := by omega
          have i1 : (ai : Int) < (R.length : Int) := by omega
          have i2 : (0 : Int) ≤ (bi : Int) := by omega
          have i3 : (bi : Int) < (M.length : Int) := by omega
          clear hs1 hs2 hcell1 hcell2
          go_wp2
          go_region_held3 (fun W => W.cell? ⟨b1, o1 + bi * 3, none⟩ = some (.int .i64 ra.field) ∧ W.cell? ⟨b1, o1 + bi * 3 + 1, none⟩ = some (.int .i64 ra.least) ∧ W.cell? ⟨b1, o1 + bi * 3 + 2, none⟩ = some (.int .i64 ra.grade) ∧ W.cell? ⟨b2, o2 + ai * 3, none⟩ = some (.int .i64 ra.field) ∧ W.cell? ⟨b2, o2 + ai * 3 + 1, none⟩ = some (.int .i64 ra.least) ∧ W.cell? ⟨b2, o2 + ai * 3 + 2, none⟩ = some (.int .i64 ra.grade)) (first | exact KB.out _ BR1 | exact KB.out _ hb)
            (first
              | (go_at_call 63; refine (LB.out _ ?_).mono ?_; (first | assumption); rintro e wn ⟨rfl, hb⟩))
          all_goals
            go_wp2
            go_ret
            exact ⟨rfl, Below.step BW.out (Below.step BB.out hb)⟩
        · have hmb : (mc == 0) = false := beq_eq_false_iff_ne.2 hm0
          have HF := Lib.hid (Below.step BW.out BS2.out)
          go_wp2
          go_ret
          exact ⟨rfl, HF.out⟩
    · have hcb : (cc == 0) = false := beq_eq_false_iff_ne.2 hc0
      by_cases hk0 : kc = 0
      · subst hk0
        obtain ⟨kk0, kk1, hRz, hGz, hle⟩ := cheap_at HCH.out rfl
        have HA : Hid (okUsed (rebuiltF z 0 k)) := Lib.hid HZ.out
        generalize rebuiltF z 0 k = a at *
        have HRZ := Lib.hid hRz
        have HGZ := Lib.hid hGz
        have hdg : decide (g < gradeF RY a) = false := decide_eq_false (by omega)
        have wk : Hid ((Lit.int .i64 k).wf = true) := Lib.hid (wf_in (by omega) (by omega))
        have w00 : Hid ((Lit.int .i64 0).wf = true) := Lib.hid (wf_in (by omega) (by omega))
        clear hRz hGz hle
        go_wp2_with fail
        refine (iRebuild_law z 0 k w19 HZ.out w00.out wk.out).mono ?_
        rw [show Rebuild_e z 0 k = .returned (.tuple #[.agg #[.string a.name, .int .i64 a.hours, .int .i64 a.play, .int .i64 a.rust, .int .i64 a.dents], .int .i64 0]) from by show Ending.returned _ = _; rw [HRZ.out]]
        rintro e wR ⟨rfl, hb⟩
        have BRr := Lib.hid ((Below.step BN.out hb).alloc (Nat.le_trans BN.out.size hb.size) (.cells #[.string a.name, .int .i64 a.hours, .int .i64 a.play, .int .i64 a.rust, .int .i64 a.dents] 33))
        have hbx : ∀ j, (wR.alloc (.cells #[.string a.name, .int .i64 a.hours, .int .i64 a.play, .int .i64 a.rust, .int .i64 a.dents] 33)).cell? ⟨wR.heap.size, j, none⟩ = #[Value.string a.name, .int .i64 a.hours, .int .i64 a.play, .int .i64 a.rust, .int .i64 a.dents][j]? := fun j => box_new _ _ _ j
        have a0c := (hbx 0).trans (show _ = some (Value.string a.name) from rfl)
        have a1c := (hbx 1).trans (show _ = some (Value.int .i64 a.hours) from rfl)
        have a2c := (hbx 2).trans (show _ = some (Value.int .i64 a.play) from rfl)
        have a3c := (hbx 3).trans (show _ = some (Value.int .i64 a.rust) from rfl)
        have a4c := (hbx 4).trans (show _ = some (Value.int .i64 a.dents) from rfl)
        clear hb hbx k00 k01 k02 k03 k04 k10 k11 k12 k13 k14 k20 k21 k22 k23 k24 k30 k31 k32 k33 k34
        go_wp2_with fail
        refine (iGradeOf_law vy RY a (wR.alloc (.cells #[.string a.name, .int .i64 a.hours, .int .i64 a.play, .int .i64 a.rust, .int .i64 a.dents] 33)) (VY.out.below BRr.out) hly2 HA.out).mono ?_
        rw [HGZ.out]
        rintro e wG ⟨rfl, hb⟩
        have BG := Lib.hid (Below.step BRr.out hb)
        clear hb a0c a1c a2c a3c a4c
        by_cases hm0 : mc = 0
        · subst hm0
          obtain ⟨ai, bi, rfl, rfl, hai, hbi, hmb, heq⟩ := move_back HM.out rfl
          have HMB := Lib.hid hmb
          have HEQ := Lib.hid heq
          clear hmb heq
          go_wp2_with fail
          refine (iMoveRule_law m0 M (bi : Int) (ai : Int) wG (M0.out.below BG.out) hMl wt.out wi.out).mono ?_
          rw [HMB.out]
          rintro e wB ⟨mb, rfl, ho, hb⟩
          have SB := Lib.hid (Sl.of_own ho (big_of hrl2))
          have BB := Lib.hid (Below.step BG.out hb)
          clear ho hb
          obtain ⟨A1, cap1, rfl, _, _, hs1⟩ := M0.out.shape
          obtain ⟨A2, cap2, rfl, _, _, hs2⟩ := V.out.shape
          obtain ⟨b1, o1, rfl, hl1, hcell1⟩ := hs1 (by omega)
          obtain ⟨b2, o2, rfl, hl2, hcell2⟩ := hs2 (by omega)
          have CM : Hid (∀ W, Below w19.heap.size w19 W → W.cell? ⟨b1, o1 + bi * 3, none⟩ = some (.int .i64 R[ai].field) ∧ W.cell? ⟨b1, o1 + bi * 3 + 1, none⟩ = some (.int .i64 R[ai].least) ∧ W.cell? ⟨b1, o1 + bi * 3 + 2, none⟩ = some (.int .i64 R[ai].grade) ∧ W.cell? ⟨b2, o2 + ai * 3, none⟩ = some (.int .i64 R[ai].field) ∧ W.cell? ⟨b2, o2 + ai * 3 + 1, none⟩ = some (.int .i64 R[ai].least) ∧ W.cell? ⟨b2, o2 + ai * 3 + 2, none⟩ = some (.int .i64 R[ai].grade)) := Lib.hid (fun W hbt => by
            have heq := HEQ.out
            have c0 : W.cell? ⟨b1, o1 + bi * 3, none⟩ = some (.int .i64 M[bi].field) := (hbt.cell (p := ⟨b1, o1 + bi * 3, none⟩) hl1).trans (by simpa [eRule, Nat.add_assoc] using hcell1 bi hbi 0 _ (by decide) rfl)
            have c1 : W.cell? ⟨b1, o1 + bi * 3 + 1, none⟩ = some (.int .i64 M[bi].least) := (hbt.cell (p := ⟨b1, o1 + bi * 3 + 1, none⟩) hl1).trans (by simpa [eRule, Nat.add_assoc] using hcell1 bi hbi 1 _ (by decide) rfl)
            have c2 : W.cell? ⟨b1, o1 + bi * 3 + 2, none⟩ = some (.int .i64 M[bi].grade) := (hbt.cell (p := ⟨b1, o1 + bi * 3 + 2, none⟩) hl1).trans (by simpa [eRule, Nat.add_assoc] using hcell1 bi hbi 2 _ (by decide) rfl)
            have d0 : W.cell? ⟨b2, o2 + ai * 3, none⟩ = some (.int .i64 R[ai].field) := (hbt.cell (p := ⟨b2, o2 + ai * 3, none⟩) hl2).trans (by simpa [eRule, Nat.add_assoc] using hcell2 ai hai 0 _ (by decide) rfl)
            have d1 : W.cell? ⟨b2, o2 + ai * 3 + 1, none⟩ = some (.int .i64 R[ai].least) := (hbt.cell (p := ⟨b2, o2 + ai * 3 + 1, none⟩) hl2).trans (by simpa [eRule, Nat.add_assoc] using hcell2 ai hai 1 _ (by decide) rfl)
            have d2 : W.cell? ⟨b2, o2 + ai * 3 + 2, none⟩ = some (.int .i64 R[ai].grade) := (hbt.cell (p := ⟨b2, o2 + ai * 3 + 2, none⟩) hl2).trans (by simpa [eRule, Nat.add_assoc] using hcell2 ai hai 2 _ (by decide) rfl)
            rw [heq] at c0 c1 c2
            exact ⟨c0, c1, c2, d0, d1, d2⟩)
          clear HEQ
          generalize R[ai] = ra at *
          have LB : Hid (∀ W, Below wB.heap.size wB W → Calls Try.prog 63 #[mb, .slice (some ⟨b2, o2, none⟩) R.length cap2] W fun e w' => e = .returned (.bool true) ∧ Below wB.heap.size wB w') := Lib.hid (fun W h => (likeRules_same mb _ R W (SB.out.below h) ((V.out.below BB.out).below h)).mono fun _ _ hh => ⟨hh.1, Below.step h hh.2⟩)
          have KB : Hid (∀ W, Below wB.heap.size wB W → W.cell? ⟨b1, o1 + bi * 3, none⟩ = some (.int .i64 ra.field) ∧ W.cell? ⟨b1, o1 + bi * 3 + 1, none⟩ = some (.int .i64 ra.least) ∧ W.cell? ⟨b1, o1 + bi * 3 + 2, none⟩ = some (.int .i64 ra.grade) ∧ W.cell? ⟨b2, o2 + ai * 3, none⟩ = some (.int .i64 ra.field) ∧ W.cell? ⟨b2, o2 + ai * 3 + 1, none⟩ = some (.int .i64 ra.least) ∧ W.cell? ⟨b2, o2 + ai * 3 + 2, none⟩ = some (.int .i64 ra.grade)) := Lib.hid (fun W h => CM.out W (Below.step BB.out h))
          have BR1 : Below wB.heap.size wB wB.drew := (Below.refl _ _).drew
          have i0 : (0 : Int) ≤ (ai : Int) := by omega
          have i1 : (ai : Int) < (R.length : Int) := by omega
          have i2 : (0 : Int) ≤ (bi : Int) := by omega
          have i3 : (bi : Int) < (M.length : Int) := by omega
          clear hs1 hs2 hcell1 hcell2
          go_wp2
          go_region_held3 (fun W => W.cell? ⟨b1, o1 + bi * 3, none⟩ = some (.int .i64 ra.field) ∧ W.cell? ⟨b1, o1 + bi * 3 + 1, none⟩ = some (.int .i64 ra.least) ∧ W.cell? ⟨b1, o1 + bi * 3 + 2, none⟩ = some (.int .i64 ra.grade) ∧ W.cell? ⟨b2, o2 + ai * 3, none⟩ = some (.int .i64 ra.field) ∧ W.cell? ⟨b2, o2 + ai * 3 + 1, none⟩ = some (.int .i64 ra.least) ∧ W.cell? ⟨b2, o2 + ai * 3 + 2, none⟩ = some (.int .i64 ra.grade)) (first | exact KB.out _ BR1 | exact KB.out _ hb)
            (first
              | (go_at_call 63; refine (LB.out _ ?_).mono ?_; (first | assumption); rintro e wn ⟨rfl, hb⟩))
          all_goals
            go_wp2
            go_ret
            exact ⟨rfl, Below.step BW.out (Below.step BB.out hb)⟩
        · have hmb : (mc == 0) = false := beq_eq_false_iff_ne.2 hm0
          have HF := Lib.hid (Below.step BW.out BG.out)
          go_wp2
          go_ret
          exact ⟨rfl, HF.out⟩
      · have hkb : (kc == 0) = false := beq_eq_false_iff_ne.2 hk0
        by_cases hm0 : mc = 0
        · subst hm0
          obtain ⟨ai, bi, rfl, rfl, hai, hbi, hmb, heq⟩ := move_back HM.out rfl
          have HMB := Lib.hid hmb
          have HEQ := Lib.hid heq
          clear hmb heq
          go_wp2_with fail
          refine (iMoveRule_law m0 M (bi : Int) (ai : Int) w19 (M0.out.below BN.out) hMl wt.out wi.out).mono ?_
          rw [HMB.out]
          rintro e wB ⟨mb, rfl, ho, hb⟩
          have SB := Lib.hid (Sl.of_own ho (big_of hrl2))
          have BB := Lib.hid (Below.step BN.out hb)
          clear ho hb
          obtain ⟨A1, cap1, rfl, _, _, hs1⟩ := M0.out.shape
          obtain ⟨A2, cap2, rfl, _, _, hs2⟩ := V.out.shape
          obtain ⟨b1, o1, rfl, hl1, hcell1⟩ := hs1 (by omega)
          obtain ⟨b2, o2, rfl, hl2, hcell2⟩ := hs2 (by omega)
          have CM : Hid (∀ W, Below w19.heap.size w19 W → W.cell? ⟨b1, o1 + bi * 3, none⟩ = some (.int .i64 R[ai].field) ∧ W.cell? ⟨b1, o1 + bi * 3 + 1, none⟩ = some (.int .i64 R[ai].least) ∧ W.cell? ⟨b1, o1 + bi * 3 + 2, none⟩ = some (.int .i64 R[ai].grade) ∧ W.cell? ⟨b2, o2 + ai * 3, none⟩ = some (.int .i64 R[ai].field) ∧ W.cell? ⟨b2, o2 + ai * 3 + 1, none⟩ = some (.int .i64 R[ai].least) ∧ W.cell? ⟨b2, o2 + ai * 3 + 2, none⟩ = some (.int .i64 R[ai].grade)) := Lib.hid (fun W hbt => by
            have heq := HEQ.out
            have c0 : W.cell? ⟨b1, o1 + bi * 3, none⟩ = some (.int .i64 M[bi].field) := (hbt.cell (p := ⟨b1, o1 + bi * 3, none⟩) hl1).trans (by simpa [eRule, Nat.add_assoc] using hcell1 bi hbi 0 _ (by decide) rfl)
            have c1 : W.cell? ⟨b1, o1 + bi * 3 + 1, none⟩ = some (.int .i64 M[bi].least) := (hbt.cell (p := ⟨b1, o1 + bi * 3 + 1, none⟩) hl1).trans (by simpa [eRule, Nat.add_assoc] using hcell1 bi hbi 1 _ (by decide) rfl)
            have c2 : W.cell? ⟨b1, o1 + bi * 3 + 2, none⟩ = some (.int .i64 M[bi].grade) := (hbt.cell (p := ⟨b1, o1 + bi * 3 + 2, none⟩) hl1).trans (by simpa [eRule, Nat.add_assoc] using hcell1 bi hbi 2 _ (by decide) rfl)
            have d0 : W.cell? ⟨b2, o2 + ai * 3, none⟩ = some (.int .i64 R[ai].field) := (hbt.cell (p := ⟨b2, o2 + ai * 3, none⟩) hl2).trans (by simpa [eRule, Nat.add_assoc] using hcell2 ai hai 0 _ (by decide) rfl)
            have d1 : W.cell? ⟨b2, o2 + ai * 3 + 1, none⟩ = some (.int .i64 R[ai].least) := (hbt.cell (p := ⟨b2, o2 + ai * 3 + 1, none⟩) hl2).trans (by simpa [eRule, Nat.add_assoc] using hcell2 ai hai 1 _ (by decide) rfl)
            have d2 : W.cell? ⟨b2, o2 + ai * 3 + 2, none⟩ = some (.int .i64 R[ai].grade) := (hbt.cell (p := ⟨b2, o2 + ai * 3 + 2, none⟩) hl2).trans (by simpa [eRule, Nat.add_assoc] using hcell2 ai hai 2 _ (by decide) rfl)
            rw [heq] at c0 c1 c2
            exact ⟨c0, c1, c2, d0, d1, d2⟩)
          clear HEQ
          generalize R[ai] = ra at *
          have LB : Hid (∀ W, Below wB.heap.size wB W → Calls Try.prog 63 #[mb, .slice (some ⟨b2, o2, none⟩) R.length cap2] W fun e w' => e = .returned (.bool true) ∧ Below wB.heap.size wB w') := Lib.hid (fun W h => (likeRules_same mb _ R W (SB.out.below h) ((V.out.below BB.out).below h)).mono fun _ _ hh => ⟨hh.1, Below.step h hh.2⟩)
          have KB : Hid (∀ W, Below wB.heap.size wB W → W.cell? ⟨b1, o1 + bi * 3, none⟩ = some (.int .i64 ra.field) ∧ W.cell? ⟨b1, o1 + bi * 3 + 1, none⟩ = some (.int .i64 ra.least) ∧ W.cell? ⟨b1, o1 + bi * 3 + 2, none⟩ = some (.int .i64 ra.grade) ∧ W.cell? ⟨b2, o2 + ai * 3, none⟩ = some (.int .i64 ra.field) ∧ W.cell? ⟨b2, o2 + ai * 3 + 1, none⟩ = some (.int .i64 ra.least) ∧ W.cell? ⟨b2, o2 + ai * 3 + 2, none⟩ = some (.int .i64 ra.grade)) := Lib.hid (fun W h => CM.out W (Below.step BB.out h))
          have BR1 : Below wB.heap.size wB wB.drew := (Below.refl _ _).drew
          have i0 : (0 : Int) ≤ (ai : Int) := by omega
          have i1 : (ai : Int) < (R.length : Int) := by omega
          have i2 : (0 : Int) ≤ (bi : Int) := by omega
          have i3 : (bi : Int) < (M.length : Int) := by omega
          clear hs1 hs2 hcell1 hcell2
          go_wp2
          go_region_held3 (fun W => W.cell? ⟨b1, o1 + bi * 3, none⟩ = some (.int .i64 ra.field) ∧ W.cell? ⟨b1, o1 + bi * 3 + 1, none⟩ = some (.int .i64 ra.least) ∧ W.cell? ⟨b1, o1 + bi * 3 + 2, none⟩ = some (.int .i64 ra.grade) ∧ W.cell? ⟨b2, o2 + ai * 3, none⟩ = some (.int .i64 ra.field) ∧ W.cell? ⟨b2, o2 + ai * 3 + 1, none⟩ = some (.int .i64 ra.least) ∧ W.cell? ⟨b2, o2 + ai * 3 + 2, none⟩ = some (.int .i64 ra.grade)) (first | exact KB.out _ BR1 | exact KB.out _ hb)
            (first
              | (go_at_call 63; refine (LB.out _ ?_).mono ?_; (first | assumption); rintro e wn ⟨rfl, hb⟩))
          all_goals
            go_wp2
            go_ret
            exact ⟨rfl, Below.step BW.out (Below.step BB.out hb)⟩
        · have hmb : (mc == 0) = false := beq_eq_false_iff_ne.2 hm0
          have HF := Lib.hid (Below.step BW.out BN.out)
          go_wp2
          go_ret
          exact ⟨rfl, HF.out⟩
  · have hqb : (qc == 0) = false := beq_eq_false_iff_ne.2 hq0
    by_cases hc0 : cc = 0
    · subst hc0
      go_wp2_with fail
      refine (iChangedParts_law vb RB va RA u L w19 (VB.out.below BN.out) hlb2 (VA.out.below BN.out) hla2 (U.out.below BN.out) hlu2 HK.out).mono ?_
      rw [changed_swap HC.out rfl]
      rintro e wS ⟨cs, rfl, ho, hb⟩
      have SC := Lib.hid (Sl.of_own ho (big_of hCl))
      have BS := Lib.hid (Below.step BN.out hb)
      have SC0 := Lib.hid (C0.out.below BS.out)
      clear ho hb
      go_wp2_with fail
      refine (likeTexts_same cs c0 C wS SC.out SC0.out).mono ?_
      rintro e wS2 ⟨rfl, hb⟩
      have BS2 := Lib.hid (Below.step BS.out hb)
      clear hb
      by_cases hk0 : kc = 0
      · subst hk0
        obtain ⟨kk0, kk1, hRz, hGz, hle⟩ := cheap_at HCH.out rfl
        have HA : Hid (okUsed (rebuiltF z 0 k)) := Lib.hid HZ.out
        generalize rebuiltF z 0 k = a at *
        have HRZ := Lib.hid hRz
        have HGZ := Lib.hid hGz
        have hdg : decide (g < gradeF RY a) = false := decide_eq_false (by omega)
        have wk : Hid ((Lit.int .i64 k).wf = true) := Lib.hid (wf_in (by omega) (by omega))
        have w00 : Hid ((Lit.int .i64 0).wf = true) := Lib.hid (wf_in (by omega) (by omega))
        clear k00 k01 k02 k03 k04 k10 k11 k12 k13 k14 k20 k21 k22 k23 k24 k30 k31 k32 k33 k34
        obtain ⟨k00, k01, k02, k03, k04, k10, k11, k12, k13, k14, k20, k21, k22, k23, k24, k30, k31, k32, k33, k34⟩ := KP.out _ BS2.out
        clear hRz hGz hle
        go_wp2_with fail
        refine (iRebuild_law z 0 k wS2 HZ.out w00.out wk.out).mono ?_
        rw [show Rebuild_e z 0 k = .returned (.tuple #[.agg #[.string a.name, .int .i64 a.hours, .int .i64 a.play, .int .i64 a.rust, .int .i64 a.dents], .int .i64 0]) from by show Ending.returned _ = _; rw [HRZ.out]]
        rintro e wR ⟨rfl, hb⟩
        have BRr := Lib.hid ((Below.step BS2.out hb).alloc (Nat.le_trans BS2.out.size hb.size) (.cells #[.string a.name, .int .i64 a.hours, .int .i64 a.play, .int .i64 a.rust, .int .i64 a.dents] 33))
        have hbx : ∀ j, (wR.alloc (.cells #[.string a.name, .int .i64 a.hours, .int .i64 a.play, .int .i64 a.rust, .int .i64 a.dents] 33)).cell? ⟨wR.heap.size, j, none⟩ = #[Value.string a.name, .int .i64 a.hours, .int .i64 a.play, .int .i64 a.rust, .int .i64 a.dents][j]? := fun j => box_new _ _ _ j
        have a0c := (hbx 0).trans (show _ = some (Value.string a.name) from rfl)
        have a1c := (hbx 1).trans (show _ = some (Value.int .i64 a.hours) from rfl)
        have a2c := (hbx 2).trans (show _ = some (Value.int .i64 a.play) from rfl)
        have a3c := (hbx 3).trans (show _ = some (Value.int .i64 a.rust) from rfl)
        have a4c := (hbx 4).trans (show _ = some (Value.int .i64 a.dents) from rfl)
        clear hb hbx k00 k01 k02 k03 k04 k10 k11 k12 k13 k14 k20 k21 k22 k23 k24 k30 k31 k32 k33 k34
        go_wp2_with fail
        refine (iGradeOf_law vy RY a (wR.alloc (.cells #[.string a.name, .int .i64 a.hours, .int .i64 a.play, .int .i64 a.rust, .int .i64 a.dents] 33)) (VY.out.below BRr.out) hly2 HA.out).mono ?_
        rw [HGZ.out]
        rintro e wG ⟨rfl, hb⟩
        have BG := Lib.hid (Below.step BRr.out hb)
        clear hb a0c a1c a2c a3c a4c
        by_cases hm0 : mc = 0
        · subst hm0
          obtain ⟨ai, bi, rfl, rfl, hai, hbi, hmb, heq⟩ := move_back HM.out rfl
          have HMB := Lib.hid hmb
          have HEQ := Lib.hid heq
          clear hmb heq
          go_wp2_with fail
          refine (iMoveRule_law m0 M (bi : Int) (ai : Int) wG (M0.out.below BG.out) hMl wt.out wi.out).mono ?_
          rw [HMB.out]
          rintro e wB ⟨mb, rfl, ho, hb⟩
          have SB := Lib.hid (Sl.of_own ho (big_of hrl2))
          have BB := Lib.hid (Below.step BG.out hb)
          clear ho hb
          obtain ⟨A1, cap1, rfl, _, _, hs1⟩ := M0.out.shape
          obtain ⟨A2, cap2, rfl, _, _, hs2⟩ := V.out.shape
          obtain ⟨b1, o1, rfl, hl1, hcell1⟩ := hs1 (by omega)
          obtain ⟨b2, o2, rfl, hl2, hcell2⟩ := hs2 (by omega)
          have CM : Hid (∀ W, Below w19.heap.size w19 W → W.cell? ⟨b1, o1 + bi * 3, none⟩ = some (.int .i64 R[ai].field) ∧ W.cell? ⟨b1, o1 + bi * 3 + 1, none⟩ = some (.int .i64 R[ai].least) ∧ W.cell? ⟨b1, o1 + bi * 3 + 2, none⟩ = some (.int .i64 R[ai].grade) ∧ W.cell? ⟨b2, o2 + ai * 3, none⟩ = some (.int .i64 R[ai].field) ∧ W.cell? ⟨b2, o2 + ai * 3 + 1, none⟩ = some (.int .i64 R[ai].least) ∧ W.cell? ⟨b2, o2 + ai * 3 + 2, none⟩ = some (.int .i64 R[ai].grade)) := Lib.hid (fun W hbt => by
            have heq := HEQ.out
            have c0 : W.cell? ⟨b1, o1 + bi * 3, none⟩ = some (.int .i64 M[bi].field) := (hbt.cell (p := ⟨b1, o1 + bi * 3, none⟩) hl1).trans (by simpa [eRule, Nat.add_assoc] using hcell1 bi hbi 0 _ (by decide) rfl)
            have c1 : W.cell? ⟨b1, o1 + bi * 3 + 1, none⟩ = some (.int .i64 M[bi].least) := (hbt.cell (p := ⟨b1, o1 + bi * 3 + 1, none⟩) hl1).trans (by simpa [eRule, Nat.add_assoc] using hcell1 bi hbi 1 _ (by decide) rfl)
            have c2 : W.cell? ⟨b1, o1 + bi * 3 + 2, none⟩ = some (.int .i64 M[bi].grade) := (hbt.cell (p := ⟨b1, o1 + bi * 3 + 2, none⟩) hl1).trans (by simpa [eRule, Nat.add_assoc] using hcell1 bi hbi 2 _ (by decide) rfl)
            have d0 : W.cell? ⟨b2, o2 + ai * 3, none⟩ = some (.int .i64 R[ai].field) := (hbt.cell (p := ⟨b2, o2 + ai * 3, none⟩) hl2).trans (by simpa [eRule, Nat.add_assoc] using hcell2 ai hai 0 _ (by decide) rfl)
            have d1 : W.cell? ⟨b2, o2 + ai * 3 + 1, none⟩ = some (.int .i64 R[ai].least) := (hbt.cell (p := ⟨b2, o2 + ai * 3 + 1, none⟩) hl2).trans (by simpa [eRule, Nat.add_assoc] using hcell2 ai hai 1 _ (by decide) rfl)
            have d2 : W.cell? ⟨b2, o2 + ai * 3 + 2, none⟩ = some (.int .i64 R[ai].grade) := (hbt.cell (p := ⟨b2, o2 + ai * 3 + 2, none⟩) hl2).trans (by simpa [eRule, Nat.add_assoc] using hcell2 ai hai 2 _ (by decide) rfl)
            rw [heq] at c0 c1 c2
            exact ⟨c0, c1, c2, d0, d1, d2⟩)
          clear HEQ
          generalize R[ai] = ra at *
          have LB : Hid (∀ W, Below wB.heap.size wB W → Calls Try.prog 63 #[mb, .slice (some ⟨b2, o2, none⟩) R.length cap2] W fun e w' => e = .returned (.bool true) ∧ Below wB.heap.size wB w') := Lib.hid (fun W h => (likeRules_same mb _ R W (SB.out.below h) ((V.out.below BB.out).below h)).mono fun _ _ hh => ⟨hh.1, Below.step h hh.2⟩)
          have KB : Hid (∀ W, Below wB.heap.size wB W → W.cell? ⟨b1, o1 + bi * 3, none⟩ = some (.int .i64 ra.field) ∧ W.cell? ⟨b1, o1 + bi * 3 + 1, none⟩ = some (.int .i64 ra.least) ∧ W.cell? ⟨b1, o1 + bi * 3 + 2, none⟩ = some (.int .i64 ra.grade) ∧ W.cell? ⟨b2, o2 + ai * 3, none⟩ = some (.int .i64 ra.field) ∧ W.cell? ⟨b2, o2 + ai * 3 + 1, none⟩ = some (.int .i64 ra.least) ∧ W.cell? ⟨b2, o2 + ai * 3 + 2, none⟩ = some (.int .i64 ra.grade)) := Lib.hid (fun W h => CM.out W (Below.step BB.out h))
          have BR1 : Below wB.heap.size wB wB.drew := (Below.refl _ _).drew
          have i0 : (0 : Int) ≤ (ai : Int) := by omega
          have i1 : (ai : Int) < (R.length : Int) := by omega
          have i2 : (0 : Int) ≤ (bi : Int) := by omega
          have i3 : (bi : Int) < (M.length : Int) := by omega
          clear hs1 hs2 hcell1 hcell2
          go_wp2
          go_region_held3 (fun W => W.cell? ⟨b1, o1 + bi * 3, none⟩ = some (.int .i64 ra.field) ∧ W.cell? ⟨b1, o1 + bi * 3 + 1, none⟩ = some (.int .i64 ra.least) ∧ W.cell? ⟨b1, o1 + bi * 3 + 2, none⟩ = some (.int .i64 ra.grade) ∧ W.cell? ⟨b2, o2 + ai * 3, none⟩ = some (.int .i64 ra.field) ∧ W.cell? ⟨b2, o2 + ai * 3 + 1, none⟩ = some (.int .i64 ra.least) ∧ W.cell? ⟨b2, o2 + ai * 3 + 2, none⟩ = some (.int .i64 ra.grade)) (first | exact KB.out _ BR1 | exact KB.out _ hb)
            (first
              | (go_at_call 63; refine (LB.out _ ?_).mono ?_; (first | assumption); rintro e wn ⟨rfl, hb⟩))
          all_goals
            go_wp2
            go_ret
            exact ⟨rfl, Below.step BW.out (Below.step BB.out hb)⟩
        · have hmb : (mc == 0) = false := beq_eq_false_iff_ne.2 hm0
          have HF := Lib.hid (Below.step BW.out BG.out)
          go_wp2
          go_ret
          exact ⟨rfl, HF.out⟩
      · have hkb : (kc == 0) = false := beq_eq_false_iff_ne.2 hk0
        by_cases hm0 : mc = 0
        · subst hm0
          obtain ⟨ai, bi, rfl, rfl, hai, hbi, hmb, heq⟩ := move_back HM.out rfl
          have HMB := Lib.hid hmb
          have HEQ := Lib.hid heq
          clear hmb heq
          go_wp2_with fail
          refine (iMoveRule_law m0 M (bi : Int) (ai : Int) wS2 (M0.out.below BS2.out) hMl wt.out wi.out).mono ?_
          rw [HMB.out]
          rintro e wB ⟨mb, rfl, ho, hb⟩
          have SB := Lib.hid (Sl.of_own ho (big_of hrl2))
          have BB := Lib.hid (Below.step BS2.out hb)
          clear ho hb
          obtain ⟨A1, cap1, rfl, _, _, hs1⟩ := M0.out.shape
          obtain ⟨A2, cap2, rfl, _, _, hs2⟩ := V.out.shape
          obtain ⟨b1, o1, rfl, hl1, hcell1⟩ := hs1 (by omega)
          obtain ⟨b2, o2, rfl, hl2, hcell2⟩ := hs2 (by omega)
          have CM : Hid (∀ W, Below w19.heap.size w19 W → W.cell? ⟨b1, o1 + bi * 3, none⟩ = some (.int .i64 R[ai].field) ∧ W.cell? ⟨b1, o1 + bi * 3 + 1, none⟩ = some (.int .i64 R[ai].least) ∧ W.cell? ⟨b1, o1 + bi * 3 + 2, none⟩ = some (.int .i64 R[ai].grade) ∧ W.cell? ⟨b2, o2 + ai * 3, none⟩ = some (.int .i64 R[ai].field) ∧ W.cell? ⟨b2, o2 + ai * 3 + 1, none⟩ = some (.int .i64 R[ai].least) ∧ W.cell? ⟨b2, o2 + ai * 3 + 2, none⟩ = some (.int .i64 R[ai].grade)) := Lib.hid (fun W hbt => by
            have heq := HEQ.out
            have c0 : W.cell? ⟨b1, o1 + bi * 3, none⟩ = some (.int .i64 M[bi].field) := (hbt.cell (p := ⟨b1, o1 + bi * 3, none⟩) hl1).trans (by simpa [eRule, Nat.add_assoc] using hcell1 bi hbi 0 _ (by decide) rfl)
            have c1 : W.cell? ⟨b1, o1 + bi * 3 + 1, none⟩ = some (.int .i64 M[bi].least) := (hbt.cell (p := ⟨b1, o1 + bi * 3 + 1, none⟩) hl1).trans (by simpa [eRule, Nat.add_assoc] using hcell1 bi hbi 1 _ (by decide) rfl)
            have c2 : W.cell? ⟨b1, o1 + bi * 3 + 2, none⟩ = some (.int .i64 M[bi].grade) := (hbt.cell (p := ⟨b1, o1 + bi * 3 + 2, none⟩) hl1).trans (by simpa [eRule, Nat.add_assoc] using hcell1 bi hbi 2 _ (by decide) rfl)
            have d0 : W.cell? ⟨b2, o2 + ai * 3, none⟩ = some (.int .i64 R[ai].field) := (hbt.cell (p := ⟨b2, o2 + ai * 3, none⟩) hl2).trans (by simpa [eRule, Nat.add_assoc] using hcell2 ai hai 0 _ (by decide) rfl)
            have d1 : W.cell? ⟨b2, o2 + ai * 3 + 1, none⟩ = some (.int .i64 R[ai].least) := (hbt.cell (p := ⟨b2, o2 + ai * 3 + 1, none⟩) hl2).trans (by simpa [eRule, Nat.add_assoc] using hcell2 ai hai 1 _ (by decide) rfl)
            have d2 : W.cell? ⟨b2, o2 + ai * 3 + 2, none⟩ = some (.int .i64 R[ai].grade) := (hbt.cell (p := ⟨b2, o2 + ai * 3 + 2, none⟩) hl2).trans (by simpa [eRule, Nat.add_assoc] using hcell2 ai hai 2 _ (by decide) rfl)
            rw [heq] at c0 c1 c2
            exact ⟨c0, c1, c2, d0, d1, d2⟩)
          clear HEQ
          generalize R[ai] = ra at *
          have LB : Hid (∀ W, Below wB.heap.size wB W → Calls Try.prog 63 #[mb, .slice (some ⟨b2, o2, none⟩) R.length cap2] W fun e w' => e = .returned (.bool true) ∧ Below wB.heap.size wB w') := Lib.hid (fun W h => (likeRules_same mb _ R W (SB.out.below h) ((V.out.below BB.out).below h)).mono fun _ _ hh => ⟨hh.1, Below.step h hh.2⟩)
          have KB : Hid (∀ W, Below wB.heap.size wB W → W.cell? ⟨b1, o1 + bi * 3, none⟩ = some (.int .i64 ra.field) ∧ W.cell? ⟨b1, o1 + bi * 3 + 1, none⟩ = some (.int .i64 ra.least) ∧ W.cell? ⟨b1, o1 + bi * 3 + 2, none⟩ = some (.int .i64 ra.grade) ∧ W.cell? ⟨b2, o2 + ai * 3, none⟩ = some (.int .i64 ra.field) ∧ W.cell? ⟨b2, o2 + ai * 3 + 1, none⟩ = some (.int .i64 ra.least) ∧ W.cell? ⟨b2, o2 + ai * 3 + 2, none⟩ = some (.int .i64 ra.grade)) := Lib.hid (fun W h => CM.out W (Below.step BB.out h))
          have BR1 : Below wB.heap.size wB wB.drew := (Below.refl _ _).drew
          have i0 : (0 : Int) ≤ (ai : Int) := by omega
          have i1 : (ai : Int) < (R.length : Int) := by omega
          have i2 : (0 : Int) ≤ (bi : Int) := by omega
          have i3 : (bi : Int) < (M.length : Int) := by omega
          clear hs1 hs2 hcell1 hcell2
          go_wp2
          go_region_held3 (fun W => W.cell? ⟨b1, o1 + bi * 3, none⟩ = some (.int .i64 ra.field) ∧ W.cell? ⟨b1, o1 + bi * 3 + 1, none⟩ = some (.int .i64 ra.least) ∧ W.cell? ⟨b1, o1 + bi * 3 + 2, none⟩ = some (.int .i64 ra.grade) ∧ W.cell? ⟨b2, o2 + ai * 3, none⟩ = some (.int .i64 ra.field) ∧ W.cell? ⟨b2, o2 + ai * 3 + 1, none⟩ = some (.int .i64 ra.least) ∧ W.cell? ⟨b2, o2 + ai * 3 + 2, none⟩ = some (.int .i64 ra.grade)) (first | exact KB.out _ BR1 | exact KB.out _ hb)
            (first
              | (go_at_call 63; refine (LB.out _ ?_).mono ?_; (first | assumption); rintro e wn ⟨rfl, hb⟩))
          all_goals
            go_wp2
            go_ret
            exact ⟨rfl, Below.step BW.out (Below.step BB.out hb)⟩
        · have hmb : (mc == 0) = false := beq_eq_false_iff_ne.2 hm0
          have HF := Lib.hid (Below.step BW.out BS2.out)
          go_wp2
          go_ret
          exact ⟨rfl, HF.out⟩
    · have hcb : (cc == 0) = false := beq_eq_false_iff_ne.2 hc0
      by_cases hk0 : kc = 0
      · subst hk0
        obtain ⟨kk0, kk1, hRz, hGz, hle⟩ := cheap_at HCH.out rfl
        have HA : Hid (okUsed (rebuiltF z 0 k)) := Lib.hid HZ.out
        generalize rebuiltF z 0 k = a at *
        have HRZ := Lib.hid hRz
        have HGZ := Lib.hid hGz
        have hdg : decide (g < gradeF RY a) = false := decide_eq_false (by omega)
        have wk : Hid ((Lit.int .i64 k).wf = true) := Lib.hid (wf_in (by omega) (by omega))
        have w00 : Hid ((Lit.int .i64 0).wf = true) := Lib.hid (wf_in (by omega) (by omega))
        clear hRz hGz hle
        go_wp2_with fail
        refine (iRebuild_law z 0 k w19 HZ.out w00.out wk.out).mono ?_
        rw [show Rebuild_e z 0 k = .returned (.tuple #[.agg #[.string a.name, .int .i64 a.hours, .int .i64 a.play, .int .i64 a.rust, .int .i64 a.dents], .int .i64 0]) from by show Ending.returned _ = _; rw [HRZ.out]]
        rintro e wR ⟨rfl, hb⟩
        have BRr := Lib.hid ((Below.step BN.out hb).alloc (Nat.le_trans BN.out.size hb.size) (.cells #[.string a.name, .int .i64 a.hours, .int .i64 a.play, .int .i64 a.rust, .int .i64 a.dents] 33))
        have hbx : ∀ j, (wR.alloc (.cells #[.string a.name, .int .i64 a.hours, .int .i64 a.play, .int .i64 a.rust, .int .i64 a.dents] 33)).cell? ⟨wR.heap.size, j, none⟩ = #[Value.string a.name, .int .i64 a.hours, .int .i64 a.play, .int .i64 a.rust, .int .i64 a.dents][j]? := fun j => box_new _ _ _ j
        have a0c := (hbx 0).trans (show _ = some (Value.string a.name) from rfl)
        have a1c := (hbx 1).trans (show _ = some (Value.int .i64 a.hours) from rfl)
        have a2c := (hbx 2).trans (show _ = some (Value.int .i64 a.play) from rfl)
        have a3c := (hbx 3).trans (show _ = some (Value.int .i64 a.rust) from rfl)
        have a4c := (hbx 4).trans (show _ = some (Value.int .i64 a.dents) from rfl)
        clear hb hbx k00 k01 k02 k03 k04 k10 k11 k12 k13 k14 k20 k21 k22 k23 k24 k30 k31 k32 k33 k34
        go_wp2_with fail
        refine (iGradeOf_law vy RY a (wR.alloc (.cells #[.string a.name, .int .i64 a.hours, .int .i64 a.play, .int .i64 a.rust, .int .i64 a.dents] 33)) (VY.out.below BRr.out) hly2 HA.out).mono ?_
        rw [HGZ.out]
        rintro e wG ⟨rfl, hb⟩
        have BG := Lib.hid (Below.step BRr.out hb)
        clear hb a0c a1c a2c a3c a4c
        by_cases hm0 : mc = 0
        · subst hm0
          obtain ⟨ai, bi, rfl, rfl, hai, hbi, hmb, heq⟩ := move_back HM.out rfl
          have HMB := Lib.hid hmb
          have HEQ := Lib.hid heq
          clear hmb heq
          go_wp2_with fail
          refine (iMoveRule_law m0 M (bi : Int) (ai : Int) wG (M0.out.below BG.out) hMl wt.out wi.out).mono ?_
          rw [HMB.out]
          rintro e wB ⟨mb, rfl, ho, hb⟩
          have SB := Lib.hid (Sl.of_own ho (big_of hrl2))
          have BB := Lib.hid (Below.step BG.out hb)
          clear ho hb
          obtain ⟨A1, cap1, rfl, _, _, hs1⟩ := M0.out.shape
          obtain ⟨A2, cap2, rfl, _, _, hs2⟩ := V.out.shape
          obtain ⟨b1, o1, rfl, hl1, hcell1⟩ := hs1 (by omega)
          obtain ⟨b2, o2, rfl, hl2, hcell2⟩ := hs2 (by omega)
          have CM : Hid (∀ W, Below w19.heap.size w19 W → W.cell? ⟨b1, o1 + bi * 3, none⟩ = some (.int .i64 R[ai].field) ∧ W.cell? ⟨b1, o1 + bi * 3 + 1, none⟩ = some (.int .i64 R[ai].least) ∧ W.cell? ⟨b1, o1 + bi * 3 + 2, none⟩ = some (.int .i64 R[ai].grade) ∧ W.cell? ⟨b2, o2 + ai * 3, none⟩ = some (.int .i64 R[ai].field) ∧ W.cell? ⟨b2, o2 + ai * 3 + 1, none⟩ = some (.int .i64 R[ai].least) ∧ W.cell? ⟨b2, o2 + ai * 3 + 2, none⟩ = some (.int .i64 R[ai].grade)) := Lib.hid (fun W hbt => by
            have heq := HEQ.out
            have c0 : W.cell? ⟨b1, o1 + bi * 3, none⟩ = some (.int .i64 M[bi].field) := (hbt.cell (p := ⟨b1, o1 + bi * 3, none⟩) hl1).trans (by simpa [eRule, Nat.add_assoc] using hcell1 bi hbi 0 _ (by decide) rfl)
            have c1 : W.cell? ⟨b1, o1 + bi * 3 + 1, none⟩ = some (.int .i64 M[bi].least) := (hbt.cell (p := ⟨b1, o1 + bi * 3 + 1, none⟩) hl1).trans (by simpa [eRule, Nat.add_assoc] using hcell1 bi hbi 1 _ (by decide) rfl)
            have c2 : W.cell? ⟨b1, o1 + bi * 3 + 2, none⟩ = some (.int .i64 M[bi].grade) := (hbt.cell (p := ⟨b1, o1 + bi * 3 + 2, none⟩) hl1).trans (by simpa [eRule, Nat.add_assoc] using hcell1 bi hbi 2 _ (by decide) rfl)
            have d0 : W.cell? ⟨b2, o2 + ai * 3, none⟩ = some (.int .i64 R[ai].field) := (hbt.cell (p := ⟨b2, o2 + ai * 3, none⟩) hl2).trans (by simpa [eRule, Nat.add_assoc] using hcell2 ai hai 0 _ (by decide) rfl)
            have d1 : W.cell? ⟨b2, o2 + ai * 3 + 1, none⟩ = some (.int .i64 R[ai].least) := (hbt.cell (p := ⟨b2, o2 + ai * 3 + 1, none⟩) hl2).trans (by simpa [eRule, Nat.add_assoc] using hcell2 ai hai 1 _ (by decide) rfl)
            have d2 : W.cell? ⟨b2, o2 + ai * 3 + 2, none⟩ = some (.int .i64 R[ai].grade) := (hbt.cell (p := ⟨b2, o2 + ai * 3 + 2, none⟩) hl2).trans (by simpa [eRule, Nat.add_assoc] using hcell2 ai hai 2 _ (by decide) rfl)
            rw [heq] at c0 c1 c2
            exact ⟨c0, c1, c2, d0, d1, d2⟩)
          clear HEQ
          generalize R[ai] = ra at *
          have LB : Hid (∀ W, Below wB.heap.size wB W → Calls Try.prog 63 #[mb, .slice (some ⟨b2, o2, none⟩) R.length cap2] W fun e w' => e = .returned (.bool true) ∧ Below wB.heap.size wB w') := Lib.hid (fun W h => (likeRules_same mb _ R W (SB.out.below h) ((V.out.below BB.out).below h)).mono fun _ _ hh => ⟨hh.1, Below.step h hh.2⟩)
          have KB : Hid (∀ W, Below wB.heap.size wB W → W.cell? ⟨b1, o1 + bi * 3, none⟩ = some (.int .i64 ra.field) ∧ W.cell? ⟨b1, o1 + bi * 3 + 1, none⟩ = some (.int .i64 ra.least) ∧ W.cell? ⟨b1, o1 + bi * 3 + 2, none⟩ = some (.int .i64 ra.grade) ∧ W.cell? ⟨b2, o2 + ai * 3, none⟩ = some (.int .i64 ra.field) ∧ W.cell? ⟨b2, o2 + ai * 3 + 1, none⟩ = some (.int .i64 ra.least) ∧ W.cell? ⟨b2, o2 + ai * 3 + 2, none⟩ = some (.int .i64 ra.grade)) := Lib.hid (fun W h => CM.out W (Below.step BB.out h))
          have BR1 : Below wB.heap.size wB wB.drew := (Below.refl _ _).drew
          have i0 : (0 : Int) ≤ (ai : Int) := by omega
          have i1 : (ai : Int) < (R.length : Int) := by omega
          have i2 : (0 : Int) ≤ (bi : Int) := by omega
          have i3 : (bi : Int) < (M.length : Int) := by omega
          clear hs1 hs2 hcell1 hcell2
          go_wp2
          go_region_held3 (fun W => W.cell? ⟨b1, o1 + bi * 3, none⟩ = some (.int .i64 ra.field) ∧ W.cell? ⟨b1, o1 + bi * 3 + 1, none⟩ = some (.int .i64 ra.least) ∧ W.cell? ⟨b1, o1 + bi * 3 + 2, none⟩ = some (.int .i64 ra.grade) ∧ W.cell? ⟨b2, o2 + ai * 3, none⟩ = some (.int .i64 ra.field) ∧ W.cell? ⟨b2, o2 + ai * 3 + 1, none⟩ = some (.int .i64 ra.least) ∧ W.cell? ⟨b2, o2 + ai * 3 + 2, none⟩ = some (.int .i64 ra.grade)) (first | exact KB.out _ BR1 | exact KB.out _ hb)
            (first
              | (go_at_call 63; refine (LB.out _ ?_).mono ?_; (first | assumption); rintro e wn ⟨rfl, hb⟩))
          all_goals
            go_wp2
            go_ret
            exact ⟨rfl, Below.step BW.out (Below.step BB.out hb)⟩
        · have hmb : (mc == 0) = false := beq_eq_false_iff_ne.2 hm0
          have HF := Lib.hid (Below.step BW.out BG.out)
          go_wp2
          go_ret
          exact ⟨rfl, HF.out⟩
      · have hkb : (kc == 0) = false := beq_eq_false_iff_ne.2 hk0
        by_cases hm0 : mc = 0
        · subst hm0
          obtain ⟨ai, bi, rfl, rfl, hai, hbi, hmb, heq⟩ := move_back HM.out rfl
          have HMB := Lib.hid hmb
          have HEQ := Lib.hid heq
          clear hmb heq
          go_wp2_with fail
          refine (iMoveRule_law m0 M (bi : Int) (ai : Int) w19 (M0.out.below BN.out) hMl wt.out wi.out).mono ?_
          rw [HMB.out]
          rintro e wB ⟨mb, rfl, ho, hb⟩
          have SB := Lib.hid (Sl.of_own ho (big_of hrl2))
          have BB := Lib.hid (Below.step BN.out hb)
          clear ho hb
          obtain ⟨A1, cap1, rfl, _, _, hs1⟩ := M0.out.shape
          obtain ⟨A2, cap2, rfl, _, _, hs2⟩ := V.out.shape
          obtain ⟨b1, o1, rfl, hl1, hcell1⟩ := hs1 (by omega)
          obtain ⟨b2, o2, rfl, hl2, hcell2⟩ := hs2 (by omega)
          have CM : Hid (∀ W, Below w19.heap.size w19 W → W.cell? ⟨b1, o1 + bi * 3, none⟩ = some (.int .i64 R[ai].field) ∧ W.cell? ⟨b1, o1 + bi * 3 + 1, none⟩ = some (.int .i64 R[ai].least) ∧ W.cell? ⟨b1, o1 + bi * 3 + 2, none⟩ = some (.int .i64 R[ai].grade) ∧ W.cell? ⟨b2, o2 + ai * 3, none⟩ = some (.int .i64 R[ai].field) ∧ W.cell? ⟨b2, o2 + ai * 3 + 1, none⟩ = some (.int .i64 R[ai].least) ∧ W.cell? ⟨b2, o2 + ai * 3 + 2, none⟩ = some (.int .i64 R[ai].grade)) := Lib.hid (fun W hbt => by
            have heq := HEQ.out
            have c0 : W.cell? ⟨b1, o1 + bi * 3, none⟩ = some (.int .i64 M[bi].field) := (hbt.cell (p := ⟨b1, o1 + bi * 3, none⟩) hl1).trans (by simpa [eRule, Nat.add_assoc] using hcell1 bi hbi 0 _ (by decide) rfl)
            have c1 : W.cell? ⟨b1, o1 + bi * 3 + 1, none⟩ = some (.int .i64 M[bi].least) := (hbt.cell (p := ⟨b1, o1 + bi * 3 + 1, none⟩) hl1).trans (by simpa [eRule, Nat.add_assoc] using hcell1 bi hbi 1 _ (by decide) rfl)
            have c2 : W.cell? ⟨b1, o1 + bi * 3 + 2, none⟩ = some (.int .i64 M[bi].grade) := (hbt.cell (p := ⟨b1, o1 + bi * 3 + 2, none⟩) hl1).trans (by simpa [eRule, Nat.add_assoc] using hcell1 bi hbi 2 _ (by decide) rfl)
            have d0 : W.cell? ⟨b2, o2 + ai * 3, none⟩ = some (.int .i64 R[ai].field) := (hbt.cell (p := ⟨b2, o2 + ai * 3, none⟩) hl2).trans (by simpa [eRule, Nat.add_assoc] using hcell2 ai hai 0 _ (by decide) rfl)
            have d1 : W.cell? ⟨b2, o2 + ai * 3 + 1, none⟩ = some (.int .i64 R[ai].least) := (hbt.cell (p := ⟨b2, o2 + ai * 3 + 1, none⟩) hl2).trans (by simpa [eRule, Nat.add_assoc] using hcell2 ai hai 1 _ (by decide) rfl)
            have d2 : W.cell? ⟨b2, o2 + ai * 3 + 2, none⟩ = some (.int .i64 R[ai].grade) := (hbt.cell (p := ⟨b2, o2 + ai * 3 + 2, none⟩) hl2).trans (by simpa [eRule, Nat.add_assoc] using hcell2 ai hai 2 _ (by decide) rfl)
            rw [heq] at c0 c1 c2
            exact ⟨c0, c1, c2, d0, d1, d2⟩)
          clear HEQ
          generalize R[ai] = ra at *
          have LB : Hid (∀ W, Below wB.heap.size wB W → Calls Try.prog 63 #[mb, .slice (some ⟨b2, o2, none⟩) R.length cap2] W fun e w' => e = .returned (.bool true) ∧ Below wB.heap.size wB w') := Lib.hid (fun W h => (likeRules_same mb _ R W (SB.out.below h) ((V.out.below BB.out).below h)).mono fun _ _ hh => ⟨hh.1, Below.step h hh.2⟩)
          have KB : Hid (∀ W, Below wB.heap.size wB W → W.cell? ⟨b1, o1 + bi * 3, none⟩ = some (.int .i64 ra.field) ∧ W.cell? ⟨b1, o1 + bi * 3 + 1, none⟩ = some (.int .i64 ra.least) ∧ W.cell? ⟨b1, o1 + bi * 3 + 2, none⟩ = some (.int .i64 ra.grade) ∧ W.cell? ⟨b2, o2 + ai * 3, none⟩ = some (.int .i64 ra.field) ∧ W.cell? ⟨b2, o2 + ai * 3 + 1, none⟩ = some (.int .i64 ra.least) ∧ W.cell? ⟨b2, o2 + ai * 3 + 2, none⟩ = some (.int .i64 ra.grade)) := Lib.hid (fun W h => CM.out W (Below.step BB.out h))
          have BR1 : Below wB.heap.size wB wB.drew := (Below.refl _ _).drew
          have i0 : (0 : Int) ≤ (ai : Int) := by omega
          have i1 : (ai : Int) < (R.length : Int) := by omega
          have i2 : (0 : Int) ≤ (bi : Int) := by omega
          have i3 : (bi : Int) < (M.length : Int) := by omega
          clear hs1 hs2 hcell1 hcell2
          go_wp2
          go_region_held3 (fun W => W.cell? ⟨b1, o1 + bi * 3, none⟩ = some (.int .i64 ra.field) ∧ W.cell? ⟨b1, o1 + bi * 3 + 1, none⟩ = some (.int .i64 ra.least) ∧ W.cell? ⟨b1, o1 + bi * 3 + 2, none⟩ = some (.int .i64 ra.grade) ∧ W.cell? ⟨b2, o2 + ai * 3, none⟩ = some (.int .i64 ra.field) ∧ W.cell? ⟨b2, o2 + ai * 3 + 1, none⟩ = some (.int .i64 ra.least) ∧ W.cell? ⟨b2, o2 + ai * 3 + 2, none⟩ = some (.int .i64 ra.grade)) (first | exact KB.out _ BR1 | exact KB.out _ hb)
            (first
              | (go_at_call 63; refine (LB.out _ ?_).mono ?_; (first | assumption); rintro e wn ⟨rfl, hb⟩))
          all_goals
            go_wp2
            go_ret
            exact ⟨rfl, Below.step BW.out (Below.step BB.out hb)⟩
        · have hmb : (mc == 0) = false := beq_eq_false_iff_ne.2 hm0
          have HF := Lib.hid (Below.step BW.out BN.out)
          go_wp2
          go_ret
          exact ⟨rfl, HF.out⟩
end Go.Proofs.Ytncggcbpbejmcaa
