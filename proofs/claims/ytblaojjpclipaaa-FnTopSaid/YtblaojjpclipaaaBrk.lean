/- The contract of search.broken (chapter 18). No statement of the seat is proved here. -/
import Derived.Test.YtblaojjpclipaaaSearch
namespace Go.Proofs.Ytblaojjpclipaaa
open Go.RowKit

set_option maxHeartbeats 16000000 in
set_option maxRecDepth 20000 in
theorem broken_any (ps : List Part) (js : List Joint) (b : List ByteArray) (bs : List (List ByteArray)) (sl : List Int) (base S : Nat) (st : SR) (w : World) (hS : St w base S st b bs sl) (hp : RdP w st.pv.v ps) (hj : Sl eJoint w st.jv.v js) (hf : Fit ps b) (hjs : ∀ j ∈ js, okJ j) (h12 : js.length ≤ 12) :
    Calls Try.prog 93 #[.pointer (some ⟨S, 0, none⟩)] w fun e w' => e = .returned (.bool (anyBr ps b js)) ∧ Below w.heap.size w w' := by
  have h8 := hf.1
  have hsl : Sl eS w st.bv.v b := Sl.of_own hS.bld (by rw [h8]; unfold big40; omega)
  have hlt := hS.lt.2
  have CB := Lib.hid (fun (W : World) (h : Below w.heap.size w W) (j : Joint) (hj : okJ j) => isBroken_any st.pv.v st.bv.v ps b j W (hp.below h) (hsl.below h) hf hj)
  have CX := Lib.hid (fun (W : World) (h : Below w.heap.size w W) => (hS.below h).cells)
  have HJS := Lib.hid hjs
  clear hp hjs hf hsl
  obtain ⟨⟨pa, pn, pc⟩, ⟨ja, jn, jc⟩, ⟨sa, sn, sc⟩, ⟨ba, bn, bc⟩, nd, mo, fu, si, ⟨fa, fn, fc⟩⟩ := st
  simp only [Tri.v] at *
  obtain ⟨A, cap, e, _, hm, hc⟩ := hj.shape
  injection e with e1 e2 e3
  subst e1 e2 e3
  clear hj hS
  obtain ⟨x0, x1, x2, x3, x4, x5, x6, x7, x8⟩ := CX.out w (Below.refl _ _)
  go_enter Try.func93, Try.ntmps93
  go_wp2
  clear x0 x1 x2 x3 x4 x5 x6 x7 x8
  go_loopg [10] js.length (fun gi i wr => ∃ k : Nat, k ≤ js.length ∧ gi = js.length - k ∧ i = .int .i64 k ∧ Hid ((js.take k).any (brokenB ps b) = false) ∧ Hid (Below w.heap.size w wr))
  case atStart => exact ⟨0, Nat.zero_le _, rfl, rfl, Lib.hid rfl, Lib.hid (Below.refl _ _)⟩
  case round =>
    obtain ⟨k, hk, rfl, rfl, HA, HB⟩ := hrel
    by_cases hlt2 : k < js.length
    rotate_left
    · obtain rfl : k = js.length := by omega
      go_wp2
      go_ret
      exact ⟨ret_bool (by have := HA.out; rw [List.take_of_length_le (Nat.le_refl _)] at this; exact this.symm), HB.out⟩
    obtain ⟨gj, off, rfl, hbl, hcell⟩ := hc (by omega)
    have hb := HB.out
    have c0 : wr.cell? ⟨gj, off + k * 3, none⟩ = some (.int .i64 js[k].a) := (hb.cell (p := ⟨gj, off + k * 3, none⟩) hbl).trans (by simpa [eJoint, Nat.add_assoc] using hcell k hlt2 0 _ (by decide) rfl)
    have c1 : wr.cell? ⟨gj, off + k * 3 + 1, none⟩ = some (.int .i64 js[k].b) := (hb.cell (p := ⟨gj, off + k * 3 + 1, none⟩) hbl).trans (by simpa [eJoint, Nat.add_assoc] using hcell k hlt2 1 _ (by decide) rfl)
    have c2 : wr.cell? ⟨gj, off + k * 3 + 2, none⟩ = some (.int .i64 js[k].kind) := (hb.cell (p := ⟨gj, off + k * 3 + 2, none⟩) hbl).trans (by simpa [eJoint, Nat.add_assoc] using hcell k hlt2 2 _ (by decide) rfl)
    have hbw : Below w.heap.size w (wr.alloc (.cells #[.int .i64 js[k].a, .int .i64 js[k].b, .int .i64 js[k].kind] 47)) := hb.alloc hb.size _
    have hbx : ∀ j, (wr.alloc (.cells #[.int .i64 js[k].a, .int .i64 js[k].b, .int .i64 js[k].kind] 47)).cell? ⟨wr.heap.size, j, none⟩ = #[Value.int .i64 js[k].a, .int .i64 js[k].b, .int .i64 js[k].kind][j]? := fun j => box_new _ _ _ j
    have KY : Hid (∀ W, Below (wr.alloc (.cells #[.int .i64 js[k].a, .int .i64 js[k].b, .int .i64 js[k].kind] 47)).heap.size (wr.alloc (.cells #[.int .i64 js[k].a, .int .i64 js[k].b, .int .i64 js[k].kind] 47)) W → W.cell? ⟨wr.heap.size, 0, none⟩ = some (.int .i64 js[k].a) ∧ W.cell? ⟨wr.heap.size, 1, none⟩ = some (.int .i64 js[k].b) ∧ W.cell? ⟨wr.heap.size, 2, none⟩ = some (.int .i64 js[k].kind)) := Lib.hid (fun W h => ⟨(h.cell (p := ⟨wr.heap.size, 0, none⟩) (by simp)).trans ((hbx 0).trans rfl), (h.cell (p := ⟨wr.heap.size, 1, none⟩) (by simp)).trans ((hbx 1).trans rfl), (h.cell (p := ⟨wr.heap.size, 2, none⟩) (by simp)).trans ((hbx 2).trans rfl)⟩)
    have HBW := Lib.hid hbw
    have hok := HJS.out js[k] (List.getElem_mem hlt2)
    have HYES : Hid (brokenB ps b js[k] = true → anyBr ps b js = true) := Lib.hid (fun h => List.any_eq_true.2 ⟨js[k], List.getElem_mem hlt2, h⟩)
    have HNO : Hid (brokenB ps b js[k] = false → (js.take (k + 1)).any (brokenB ps b) = false) := Lib.hid (fun h => any_take_succ k hlt2 HA.out h)
    have HCC := Lib.hid (fun (W : World) (h : Below w.heap.size w W) => CB.out W h js[k] hok)
    have hkI : (k : Int) < (js.length : Int) := by omega
    have hk0 : (0 : Int) ≤ (k : Int) := by omega
    have hkw : IntKind.i64.wrap ((k : Int) + 1) = (k : Int) + 1 := IntWalk.i64_in _ (by omega)
    clear hcell hok hb hbw hbx
    generalize js[k] = j at *
    obtain ⟨jx, jy, kd⟩ := j
    simp only at *
    go_wp2
    clear c0 c1 c2
    generalize wr.alloc (.cells #[.int .i64 jx, .int .i64 jy, .int .i64 kd] 47) = wy at *
    obtain ⟨Y, hY⟩ : ∃ Y, wr.heap.size = Y := ⟨_, rfl⟩
    rw [hY] at KY ⊢
    have HY := Lib.hid hY
    clear hY
    have FIN : Hid (∀ W, Below wy.heap.size wy W → Below w.heap.size w W) := Lib.hid (fun W h => Below.step HBW.out h)
    have KEEP : Hid (∀ W, Below wy.heap.size wy W → (W.cell? ⟨Y, 0, none⟩ = some (.int .i64 jx) ∧ W.cell? ⟨Y, 1, none⟩ = some (.int .i64 jy) ∧ W.cell? ⟨Y, 2, none⟩ = some (.int .i64 kd)) ∧ W.cell? ⟨S, 0, none⟩ = some (.slice pa pn pc) ∧ W.cell? ⟨S, 3, none⟩ = some (.slice ba bn bc)) := Lib.hid (fun W h => by
      obtain ⟨x0, x1, x2, x3, _⟩ := CX.out W (FIN.out W h)
      exact ⟨KY.out W h, x0, x3⟩)
    have hBR : Below wy.heap.size wy wy.drew := (Below.refl _ _).drew
    rcases hbr : brokenB ps b ⟨jx, jy, kd⟩
    all_goals
      have CC : Hid (∀ W, Below wy.heap.size wy W → Calls Try.prog 97 #[.slice pa pn pc, .slice ba bn bc, .agg #[.int .i64 jx, .int .i64 jy, .int .i64 kd]] W fun e w' => e = .returned (.bool (brokenB ps b ⟨jx, jy, kd⟩)) ∧ Below wy.heap.size wy w') := Lib.hid (fun W h => (HCC.out W (FIN.out W h)).mono fun _ _ hh => ⟨hh.1, Below.step h hh.2⟩)
      rw [hbr] at CC HNO HYES
      clear hbr
      go_region_held3 (fun W => (W.cell? ⟨Y, 0, none⟩ = some (.int .i64 jx) ∧ W.cell? ⟨Y, 1, none⟩ = some (.int .i64 jy) ∧ W.cell? ⟨Y, 2, none⟩ = some (.int .i64 kd)) ∧ W.cell? ⟨S, 0, none⟩ = some (.slice pa pn pc) ∧ W.cell? ⟨S, 3, none⟩ = some (.slice ba bn bc)) (exact KEEP.out _ (by assumption))
        (first | (go_at_call 97; refine (CC.out _ ?_).mono ?_; (first | assumption); rintro e wn ⟨rfl, hb⟩))
    · have HN := Lib.hid (FIN.out _ hb)
      go_wp2
      go_roundg (js.length - (k + 1))
      case measure => omega
      case rel => exact ⟨k + 1, by omega, rfl, by go_num, Lib.hid (HNO.out (by simp)), HN⟩
    · have HN := Lib.hid (FIN.out _ hb)
      go_wp2
      go_ret
      exact ⟨ret_bool (HYES.out (by simp)).symm, HN.out⟩
end Go.Proofs.Ytblaojjpclipaaa
