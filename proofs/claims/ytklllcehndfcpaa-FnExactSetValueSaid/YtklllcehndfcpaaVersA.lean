/- Contracts of the functions that copy versions and lay a further one behind them (chapter 29). No statement of the seat is proved here. -/
import Derived.Test.YtklllcehndfcpaaWayL
import Derived.Test.YtklllcehndfcpaaVersM
import Derived.Test.YtklllcehndfcpaaAppAll
import Derived.Test.YtklllcehndfcpaaSpans
namespace Go.Proofs.Ytklllcehndfcpaa
open Go.RowKit

theorem grown_tr2 {a b c : World} {r : Option Nat} (h : a.grownBy b none) (k : b.grownBy c r) : a.grownBy c r :=
  ⟨k.os.trans h.os, k.tape.trans h.tape, k.output.trans h.output, Nat.le_trans h.size k.size, fun i hi hne => (k.block i (Nat.lt_of_lt_of_le hi h.size) hne).trans (h.block i hi (by simp))⟩
section
variable {w2 w' : World} {lo hi : Nat} {v v' : Value} {ss : List VC} {vs : List Ver} {s : VC} {x : Ver}
theorem vall_app (h1 : Own eV w2 lo 58 v ss) (h4 : ss.length = vs.length) (h5 : VAll w2 lo hi ss vs) (hlo : lo ≤ hi) (hx : s.p = x.parent) (ho : Own eLine w2 hi 72 s.sl x.lines) (hg : w2.grownBy w' v.ownBlock) : VAll w' lo w'.heap.size (ss ++ [s]) (vs ++ [x]) := by
  have hs := hg.size
  have low : ∀ (i : Nat) (t : VC), ss[i]? = some t → ∀ j, t.sl.ownBlock = some j → j < hi := fun i t e j hj => by
    have hi' : i < ss.length := (List.getElem?_eq_some_iff.1 e).1
    exact (h5.1 i t vs[i] e (by simp [show i < vs.length by omega])).2.2 j hj
  refine ⟨fun k t y e1 e2 => ?_, fun i j t u hij e1 e2 => ?_⟩
  · rcases Nat.lt_or_ge k ss.length with hk | hk
    · rw [List.getElem?_append_left hk] at e1
      rw [List.getElem?_append_left (by omega)] at e2
      obtain ⟨r1, r2, r3⟩ := h5.1 k t y e1 e2
      exact ⟨r1, Own.kept r2 hg (own_ne_cells h1 r2 ne_ver_line), fun j hj => Nat.lt_of_lt_of_le (World.ownsRow.lt r2 j hj).2 hs⟩
    · rw [List.getElem?_append_right hk] at e1
      rw [List.getElem?_append_right (by omega)] at e2
      have hk0 : k - ss.length = 0 := by
        rcases Nat.eq_zero_or_pos (k - ss.length) with h0 | h0
        · exact h0
        · rw [List.getElem?_eq_none (by simp; omega)] at e1; cases e1
      rw [hk0] at e1
      rw [show k - vs.length = 0 by omega] at e2
      simp at e1 e2
      subst e1 e2
      exact ⟨hx, Own.kept (ho.mono hlo) hg (own_ne_cells h1 ho ne_ver_line), fun j hj => Nat.lt_of_lt_of_le (World.ownsRow.lt ho j hj).2 hs⟩
  · rcases Nat.lt_or_ge j ss.length with hj | hj
    · rw [List.getElem?_append_left hj] at e2
      rw [List.getElem?_append_left (by omega)] at e1
      exact h5.2 i j t u hij e1 e2
    · rw [List.getElem?_append_right hj] at e2
      have hj0 : j - ss.length = 0 := by
        rcases Nat.eq_zero_or_pos (j - ss.length) with h0 | h0
        · exact h0
        · rw [List.getElem?_eq_none (by simp; omega)] at e2; cases e2
      rw [hj0] at e2
      simp at e2
      subst e2
      rw [List.getElem?_append_left (by omega)] at e1
      cases hb1 : t.sl.ownBlock with
      | none => exact .inl rfl
      | some b =>
        refine .inr (fun e => ?_)
        have := low i t e1 b hb1
        have := (World.ownsRow.lt ho b e.symm).1
        omega
/-- a version more: its sheet is new, its box is laid, then it is appended -/
theorem OwnV.app {o : Obj} (h1 : Own eV w2 lo 58 v ss) (h4 : ss.length = vs.length) (h5 : VAll w2 lo hi ss vs) (hlo : lo ≤ hi) (hx : s.p = x.parent) (ho : Own eLine w2 hi 72 s.sl x.lines) (hn : Own eV w' lo 58 v' (ss ++ [s])) (hg : (w2.alloc o).grownBy w' v.ownBlock) : OwnV w' lo w'.heap.size v' (vs ++ [x]) := by
  obtain ⟨g1, g2⟩ := vall_app h1 h4 h5 hlo hx ho (grown_tr2 (World.grownBy_alloc _ _ _) hg)
  exact ⟨ss ++ [s], hn, fun k hk => (World.ownsRow.lt hn k hk).2, Nat.le_refl _, by simp [h4], g1, g2⟩
theorem OwnV.app2 (h1 : Own eV w2 lo 58 v ss) (h4 : ss.length = vs.length) (h5 : VAll w2 lo hi ss vs) (hlo : lo ≤ hi) (hx : s.p = x.parent) (ho : Own eLine w2 hi 72 s.sl x.lines) (hn : Own eV w' lo 58 v' (ss ++ [s])) (hg : w2.grownBy w' v.ownBlock) : OwnV w' lo w'.heap.size v' (vs ++ [x]) := by
  obtain ⟨g1, g2⟩ := vall_app h1 h4 h5 hlo hx ho hg
  exact ⟨ss ++ [s], hn, fun k hk => (World.ownsRow.lt hn k hk).2, Nat.le_refl _, by simp [h4], g1, g2⟩
/-- the parts of versions of the call's own -/
theorem OwnV.parts (h : OwnV w2 lo hi v vs) : ∃ ss : List VC, Own eV w2 lo 58 v ss ∧ ss.length = vs.length ∧ VAll w2 lo hi ss vs := by
  obtain ⟨ss, h1, _, _, h4, h5⟩ := h
  exact ⟨ss, h1, h4, h5⟩
theorem VAll.below (h : VAll w2 lo hi ss vs) (hb : Below w2.heap.size w2 w') : VAll w' lo hi ss vs :=
  ⟨fun k s x e1 e2 => ⟨(h.1 k s x e1 e2).1, (h.1 k s x e1 e2).2.1.below hb, (h.1 k s x e1 e2).2.2⟩, h.2⟩
end
theorem OwnV.empty (w : World) (lo : Nat) (h : lo ≤ w.heap.size) : OwnV (w.alloc (.cells #[] 58)) lo (w.alloc (.cells #[] 58)).heap.size (.slice (some ⟨w.heap.size, 0, none⟩) 0 0) [] :=
  ⟨[], Own.empty eV w lo _ h, fun k hk => by cases hk; simp, Nat.le_refl _, rfl, fun k s x e _ => by simp at e, fun i j s u _ e _ => by simp at e⟩
theorem below_of_sub {wB W : World} {o : Obj} (h : Below wB.heap.size (wB.alloc o).drew W) : Below wB.heap.size wB W := ((Below.refl _ _).alloc (Nat.le_refl _) o).drew.trans h
set_option maxHeartbeats 8000000 in
set_option maxRecDepth 20000 in
theorem copyVersions_any (v : Value) (vs : List Ver) (w : World) (hv : RdV w v vs) (hn : vs.length ≤ 20) (hl : ∀ x ∈ vs, x.lines.length ≤ 1048576) :
    Calls Try.prog 57 #[v] w fun e w' => ∃ u, e = .returned u ∧ OwnV w' w.heap.size w'.heap.size u vs ∧ Below w.heap.size w w' := by
  obtain ⟨A, cap, rfl, _, hm, hc⟩ := hv.shape
  have HCELL := Lib.hid hc
  have HL := Lib.hid hl
  have HO0 : Hid (OwnV w w.heap.size w.heap.size (.slice none 0 0) (vs.take 0)) := Lib.hid (by rw [List.take_zero]; exact OwnV.nil_ w _ _ (Nat.le_refl _))
  have HB0 : Hid (Below w.heap.size w w) := Lib.hid (Below.refl _ _)
  clear hv hc hl
  go_enter Try.func57, Try.ntmps57
  go_wp2
  go_loopg [3, 8] vs.length (fun gi u i wr => ∃ k : Nat, k ≤ vs.length ∧ gi = vs.length - k ∧ i = .int .i64 k ∧ Hid (OwnV wr w.heap.size wr.heap.size u (vs.take k)) ∧ Hid (Below w.heap.size w wr) ∧ w.heap.size ≤ wr.heap.size)
  case atStart => exact ⟨0, Nat.zero_le _, rfl, rfl, HO0, HB0, Nat.le_refl _⟩
  case round =>
    obtain ⟨k, hk, rfl, rfl, HO, HB, hs⟩ := hrel
    clear HO0 HB0
    by_cases hlt : k < vs.length
    · obtain ⟨b, off, rfl, hbl, hcell⟩ := HCELL.out (by omega)
      obtain ⟨a, c, hd0, hd1, hsl⟩ := hcell k hlt
      have d0 := (HB.out.cell (p := ⟨b, off + k * 2, none⟩) hbl).trans hd0
      have d1 := (HB.out.cell (p := ⟨b, off + k * 2 + 1, none⟩) hbl).trans hd1
      have HSL := Lib.hid (hsl.below HB.out)
      have HLK := Lib.hid (HL.out _ (List.getElem_mem hlt))
      have HTK := Lib.hid (List.take_succ_eq_append_getElem hlt)
      clear hd0 hd1 hsl hcell
      generalize vs[k] = x at *
      obtain ⟨p, ls⟩ := x
      simp only at *
      have hbB : Below wr.heap.size wr (wr.alloc (.cells #[.int .i64 p, .slice a ls.length c] 58)) := (Below.refl _ _).alloc (Nat.le_refl _) _
      have HO2 := Lib.hid (HO.out.below hbB)
      have HB2 := Lib.hid (Below.step HB.out hbB)
      have HSL2 := Lib.hid (HSL.out.below hbB)
      have e0 : (wr.alloc (.cells #[.int .i64 p, .slice a ls.length c] 58)).cell? ⟨wr.heap.size, 0, none⟩ = some (.int .i64 p) := (box_new _ _ _ 0).trans rfl
      have e1 : (wr.alloc (.cells #[.int .i64 p, .slice a ls.length c] 58)).cell? ⟨wr.heap.size, 1, none⟩ = some (.slice a ls.length c) := (box_new _ _ _ 1).trans rfl
      have hsz : wr.heap.size < (wr.alloc (.cells #[.int .i64 p, .slice a ls.length c] 58)).heap.size := by simp
      have NE : Hid (some wr.heap.size ≠ u3.ownBlock) := Lib.hid (fun e => by
        obtain ⟨ss, g1, _⟩ := HO.out
        have := (World.ownsRow.lt g1 _ e.symm).2
        omega)
      clear hbB HO HB HSL
      go_wp2
      clear d0 d1
      generalize wr.alloc (.cells #[.int .i64 p, .slice a ls.length c] 58) = wB at *
      obtain ⟨ss, g1, g4, g5⟩ := HO2.out.parts
      have G1 := Lib.hid g1
      have G4 := Lib.hid g4
      have G5 := Lib.hid g5
      have HSS : Hid (ss.length ≤ 20) := Lib.hid (by rw [g4, List.length_take]; omega)
      clear g1 g4 g5 HO2
      have hwB : w.heap.size ≤ wB.heap.size := by omega
      have KEEP : Hid (∀ W, Below wB.heap.size wB W → W.cell? ⟨wr.heap.size, 0, none⟩ = some (.int .i64 p) ∧ W.cell? ⟨wr.heap.size, 1, none⟩ = some (.slice a ls.length c)) := Lib.hid (fun W h => ⟨(h.cell (p := ⟨wr.heap.size, 0, none⟩) hsz).trans e0, (h.cell (p := ⟨wr.heap.size, 1, none⟩) hsz).trans e1⟩)
      have OWN1 : Hid (Own eLine (wB.alloc (.cells #[] 72)).drew wB.heap.size 72 (.slice (some ⟨wB.heap.size, 0, none⟩) 0 0) []) := Lib.hid (Own.drew (Own.empty eLine wB wB.heap.size 72 (Nat.le_refl _)))
      have LST1 : Hid (Sl eLine (wB.alloc (.cells #[] 72)).drew (.slice a ls.length c) ls) := Lib.hid (Sl.drew (HSL2.out.alloc _))
      have SZ1 : Hid (wB.heap.size ≤ (wB.alloc (.cells #[] 72)).drew.heap.size) := Lib.hid (by simp)
      have L1 : Hid (([] : List Line).length + ls.length ≤ 1000000000) := Lib.hid (by have := HLK.out; simp; omega)
      have L2 : Hid (∀ s : VC, ss.length + [s].length ≤ 1000000000) := Lib.hid (fun s => by have := HSS.out; simp; omega)
      have KB : Hid (∀ W, Below wB.heap.size (wB.alloc (.cells #[] 72)).drew W → Below wB.heap.size wB W) := Lib.hid (fun W h => below_of_sub h)
      have SZA : Hid (∀ (W : World) (o : Obj), (wB.alloc (.cells #[] 72)).drew.heap.size ≤ W.heap.size → w.heap.size ≤ (W.alloc o).heap.size) := Lib.hid (fun W o h => by have := SZ1.out; simp; omega)
      have OWA : Hid (∀ (W : World) (o : Obj), Below wB.heap.size (wB.alloc (.cells #[] 72)).drew W → Own eV (W.alloc o) w.heap.size 58 u3 ss) := Lib.hid (fun W o h => (G1.out.below (KB.out W h)).alloc o)
      have ONE : Hid (∀ (W : World) (s : VC), Sl eV (W.alloc (.cells #[.int .i64 s.p, .slice s.a s.n s.cap] 58)) (.slice (some ⟨W.heap.size, 0, none⟩) 1 1) [s]) := Lib.hid (fun W s => Sl.one_new eV W s _ _ rfl)
      have KEEP2 : Hid (∀ (W1 W : World) (o : Obj), Below wB.heap.size (wB.alloc (.cells #[] 72)).drew W1 → (W1.alloc o).grownBy W u3.ownBlock → W.cell? ⟨wr.heap.size, 0, none⟩ = some (.int .i64 p) ∧ W.cell? ⟨wr.heap.size, 1, none⟩ = some (.slice a ls.length c)) := Lib.hid (fun W1 W o h hg => by
        have h1 := KEEP.out W1 (KB.out W1 h)
        have hz : wr.heap.size < W1.heap.size := by have := h.size; have := SZ1.out; omega
        have hg1 := grown_tr2 (World.grownBy_alloc W1 o none) hg
        exact ⟨(hg1.cell_far ⟨wr.heap.size, 0, none⟩ hz NE.out).trans h1.1, (hg1.cell_far ⟨wr.heap.size, 1, none⟩ hz NE.out).trans h1.2⟩)
      have hwr := Nat.le_of_lt hsz
      clear hsz e0 e1
      go_region_held3 (fun W => W.cell? ⟨wr.heap.size, 0, none⟩ = some (.int .i64 p) ∧ W.cell? ⟨wr.heap.size, 1, none⟩ = some (.slice a ls.length c)) (first | exact KEEP.out _ ((Below.refl _ _).drew) | exact KEEP.out _ ((Below.refl _ _).alloc (Nat.le_refl _) _).drew | exact KEEP.out _ (KB.out _ hbl) | exact KEEP.out _ ((KB.out _ hbl).alloc (KB.out _ hbl).size _) | exact KEEP2.out _ _ _ hbl hg2) (first
        | (refine step_app_all eLine rfl _ _ 46 (by rfl) 72 (.agg #[.string ⟨#[]⟩, .int .i64 0]) 24 Try.underlying46 info_Line rfl (by decide) (by decide) wB.heap.size _ [] (by rfl) OWN1.out _ ls (by rfl) LST1.out L1.out SZ1.out ?_; intro v1 wv1 hown1 hbl hg1 hor1; rw [List.nil_append] at hown1; obtain ⟨a1, c1, rfl⟩ := slice_of hown1)
        | (refine step_app_all eV rfl _ _ 25 (by rfl) 58 (.agg #[.int .i64 0, .slice none 0 0]) 32 Try.underlying25 info_Version rfl (by decide) (by decide) w.heap.size _ ss (by rfl) (OWA.out wv1 _ hbl) _ [⟨p, a1, ls.length, c1⟩] (by rfl) (ONE.out wv1 ⟨p, a1, ls.length, c1⟩) (L2.out _) (SZA.out _ _ hbl.size) ?_; intro v2 wv2 hown2 hbl2 hg2 hor2))
      have HV1 := Lib.hid (G5.out.below (KB.out _ hbl))
      have HW1 := Lib.hid (G1.out.below (KB.out _ hbl))
      have hs1 : wB.heap.size ≤ wv1.heap.size := (KB.out _ hbl).size
      have HON : Hid (OwnV wv2 w.heap.size wv2.heap.size v2 (vs.take (k + 1))) := Lib.hid (by
        rw [HTK.out]
        exact OwnV.app (s := ⟨p, a1, ls.length, c1⟩) HW1.out G4.out HV1.out hs rfl (hown1.mono hwr) hown2 hg2)
      have HBN : Hid (Below w.heap.size w wv2) := Lib.hid (((HB2.out.trans ((KB.out _ hbl).mono hwB)).alloc (by omega) _).trans hbl2)
      have hsN := HBN.out.size
      clear hbl hg1 hown1 hor1 hown2 hbl2 hg2 hor2 HV1 HW1 G1 G4 G5 KEEP KEEP2 OWN1 LST1 SZ1 L1 L2 KB SZA OWA ONE NE
      go_wp2
      go_roundg (vs.length - (k + 1))
      case measure => omega
      case rel => exact ⟨k + 1, by omega, rfl, by go_num, HON, HBN, hsN⟩
    · obtain rfl : k = vs.length := by omega
      have H := HO.out
      rw [List.take_of_length_le (Nat.le_refl _)] at H
      have HX := Lib.hid H
      clear H
      go_wp2
      go_ret
      exact ⟨_, rfl, HX.out, HB.out⟩
set_option maxHeartbeats 8000000 in
set_option maxRecDepth 20000 in
theorem l29With_any (v : Value) (vs : List Ver) (pn : Int) (lv : Value) (ln : List Line) (w : World) (hv : RdV w v vs) (hn : vs.length ≤ 20) (hl : ∀ x ∈ vs, x.lines.length ≤ 1048576) (hln : Sl eLine w lv ln) (hll : ln.length ≤ 1048576) :
    Calls Try.prog 55 #[v, .int .i64 pn, lv] w fun e w' => ∃ u, e = .returned u ∧ OwnV w' w.heap.size w'.heap.size u (vs ++ [⟨pn, ln⟩]) ∧ Below w.heap.size w w' := by
  obtain ⟨A, cap, rfl, _, hm, hc⟩ := hv.shape
  have HCELL := Lib.hid hc
  have HL := Lib.hid hl
  have HO0 : Hid (OwnV (w.alloc (.cells #[] 58)) w.heap.size (w.alloc (.cells #[] 58)).heap.size (.slice (some ⟨w.heap.size, 0, none⟩) 0 0) (vs.take 0)) := Lib.hid (by rw [List.take_zero]; exact OwnV.empty w _ (Nat.le_refl _))
  have HB0 : Hid (Below w.heap.size w (w.alloc (.cells #[] 58))) := Lib.hid ((Below.refl _ _).alloc (Nat.le_refl _) _)
  have HS0 : Hid (w.heap.size ≤ (w.alloc (.cells #[] 58)).heap.size) := Lib.hid (by simp)
  have HLN := Lib.hid hln
  clear hv hc hl hln
  go_enter Try.func55, Try.ntmps55
  go_wp2
  go_loopg [7, 8] vs.length (fun gi u i wr => ∃ k : Nat, k ≤ vs.length ∧ gi = vs.length - k ∧ i = .int .i64 k ∧ Hid (OwnV wr w.heap.size wr.heap.size u (vs.take k)) ∧ Hid (Below w.heap.size w wr) ∧ w.heap.size ≤ wr.heap.size)
  case atStart => exact ⟨0, Nat.zero_le _, rfl, rfl, HO0, HB0, HS0.out⟩
  case round =>
    obtain ⟨k, hk, rfl, rfl, HO, HB, hs⟩ := hrel
    clear HO0 HB0 HS0
    by_cases hlt : k < vs.length
    · obtain ⟨b, off, rfl, hbl, hcell⟩ := HCELL.out (by omega)
      obtain ⟨a, c, hd0, hd1, hsl⟩ := hcell k hlt
      have d0 := (HB.out.cell (p := ⟨b, off + k * 2, none⟩) hbl).trans hd0
      have d1 := (HB.out.cell (p := ⟨b, off + k * 2 + 1, none⟩) hbl).trans hd1
      have HSL := Lib.hid (hsl.below HB.out)
      have HLK := Lib.hid (HL.out _ (List.getElem_mem hlt))
      have HTK := Lib.hid (List.take_succ_eq_append_getElem hlt)
      clear hd0 hd1 hsl hcell
      generalize vs[k] = x at *
      obtain ⟨p, ls⟩ := x
      simp only at *
      have HO2 : Hid (OwnV wr w.heap.size wr.heap.size u7 (vs.take k)) := HO
      have HB2 : Hid (Below w.heap.size w wr) := HB
      have HSL2 := HSL
      have e0 := d0
      have e1 := d1
      have hbw : b < wr.heap.size := by omega
      have NE : Hid (∀ ss : List VC, Own eV wr w.heap.size 58 u7 ss → some b ≠ u7.ownBlock) := Lib.hid (fun ss g1 e => by
        have := (World.ownsRow.lt g1 _ e.symm).1
        omega)
      have hwr0 : wr.heap.size ≤ wr.heap.size := Nat.le_refl _
      obtain ⟨wB, hwB0⟩ : ∃ x, x = wr := ⟨_, rfl⟩
      subst hwB0
      clear HO HB HSL
      go_wp2
      clear d0 d1
      obtain ⟨ss, g1, g4, g5⟩ := HO2.out.parts
      have G1 := Lib.hid g1
      have G4 := Lib.hid g4
      have G5 := Lib.hid g5
      have HSS : Hid (ss.length ≤ 20) := Lib.hid (by rw [g4, List.length_take]; omega)
      clear g1 g4 g5 HO2
      have hwB : w.heap.size ≤ wB.heap.size := hs
      have KEEP : Hid (∀ W, Below wB.heap.size wB W → W.cell? ⟨b, off + k * 2, none⟩ = some (.int .i64 p) ∧ W.cell? ⟨b, off + k * 2 + 1, none⟩ = some (.slice a ls.length c)) := Lib.hid (fun W h => ⟨(h.cell (p := ⟨b, off + k * 2, none⟩) hbw).trans e0, (h.cell (p := ⟨b, off + k * 2 + 1, none⟩) hbw).trans e1⟩)
      have OWN1 : Hid (Own eLine (wB.alloc (.cells #[] 72)).drew wB.heap.size 72 (.slice (some ⟨wB.heap.size, 0, none⟩) 0 0) []) := Lib.hid (Own.drew (Own.empty eLine wB wB.heap.size 72 (Nat.le_refl _)))
      have LST1 : Hid (Sl eLine (wB.alloc (.cells #[] 72)).drew (.slice a ls.length c) ls) := Lib.hid (Sl.drew (HSL2.out.alloc _))
      have SZ1 : Hid (wB.heap.size ≤ (wB.alloc (.cells #[] 72)).drew.heap.size) := Lib.hid (by simp)
      have L1 : Hid (([] : List Line).length + ls.length ≤ 1000000000) := Lib.hid (by have := HLK.out; simp; omega)
      have L2 : Hid (∀ s : VC, ss.length + [s].length ≤ 1000000000) := Lib.hid (fun s => by have := HSS.out; simp; omega)
      have KB : Hid (∀ W, Below wB.heap.size (wB.alloc (.cells #[] 72)).drew W → Below wB.heap.size wB W) := Lib.hid (fun W h => below_of_sub h)
      have SZA : Hid (∀ (W : World) (o : Obj), (wB.alloc (.cells #[] 72)).drew.heap.size ≤ W.heap.size → w.heap.size ≤ (W.alloc o).heap.size) := Lib.hid (fun W o h => by have := SZ1.out; simp; omega)
      have OWA : Hid (∀ (W : World) (o : Obj), Below wB.heap.size (wB.alloc (.cells #[] 72)).drew W → Own eV (W.alloc o) w.heap.size 58 u7 ss) := Lib.hid (fun W o h => (G1.out.below (KB.out W h)).alloc o)
      have ONE : Hid (∀ (W : World) (s : VC), Sl eV (W.alloc (.cells #[.int .i64 s.p, .slice s.a s.n s.cap] 58)) (.slice (some ⟨W.heap.size, 0, none⟩) 1 1) [s]) := Lib.hid (fun W s => Sl.one_new eV W s _ _ rfl)
      have KEEP2 : Hid (∀ (W1 W : World) (o : Obj), Below wB.heap.size (wB.alloc (.cells #[] 72)).drew W1 → (W1.alloc o).grownBy W u7.ownBlock → W.cell? ⟨b, off + k * 2, none⟩ = some (.int .i64 p) ∧ W.cell? ⟨b, off + k * 2 + 1, none⟩ = some (.slice a ls.length c)) := Lib.hid (fun W1 W o h hg => by
        have h1 := KEEP.out W1 (KB.out W1 h)
        have hz : b < W1.heap.size := by have := h.size; have := SZ1.out; omega
        have hg1 := grown_tr2 (World.grownBy_alloc W1 o none) hg
        exact ⟨(hg1.cell_far ⟨b, off + k * 2, none⟩ hz (NE.out _ G1.out)).trans h1.1, (hg1.cell_far ⟨b, off + k * 2 + 1, none⟩ hz (NE.out _ G1.out)).trans h1.2⟩)
      clear e0 e1
      go_region_held3 (fun W => W.cell? ⟨b, off + k * 2, none⟩ = some (.int .i64 p) ∧ W.cell? ⟨b, off + k * 2 + 1, none⟩ = some (.slice a ls.length c)) (first | exact KEEP.out _ ((Below.refl _ _).drew) | exact KEEP.out _ ((Below.refl _ _).alloc (Nat.le_refl _) _).drew | exact KEEP.out _ (KB.out _ hbl) | exact KEEP.out _ ((KB.out _ hbl).alloc (KB.out _ hbl).size _) | exact KEEP2.out _ _ _ hbl hg2) (first
        | (refine step_app_all eLine rfl _ _ 46 (by rfl) 72 (.agg #[.string ⟨#[]⟩, .int .i64 0]) 24 Try.underlying46 info_Line rfl (by decide) (by decide) wB.heap.size _ [] (by rfl) OWN1.out _ ls (by rfl) LST1.out L1.out SZ1.out ?_; intro v1 wv1 hown1 hbl hg1 hor1; rw [List.nil_append] at hown1; obtain ⟨a1, c1, rfl⟩ := slice_of hown1)
        | (refine step_app_all eV rfl _ _ 25 (by rfl) 58 (.agg #[.int .i64 0, .slice none 0 0]) 32 Try.underlying25 info_Version rfl (by decide) (by decide) w.heap.size _ ss (by rfl) (OWA.out wv1 _ hbl) _ [⟨p, a1, ls.length, c1⟩] (by rfl) (ONE.out wv1 ⟨p, a1, ls.length, c1⟩) (L2.out _) (SZA.out _ _ hbl.size) ?_; intro v2 wv2 hown2 hbl2 hg2 hor2))
      have HV1 := Lib.hid (G5.out.below (KB.out _ hbl))
      have HW1 := Lib.hid (G1.out.below (KB.out _ hbl))
      have hs1 : wB.heap.size ≤ wv1.heap.size := (KB.out _ hbl).size
      have HON : Hid (OwnV wv2 w.heap.size wv2.heap.size v2 (vs.take (k + 1))) := Lib.hid (by
        rw [HTK.out]
        exact OwnV.app (s := ⟨p, a1, ls.length, c1⟩) HW1.out G4.out HV1.out hs rfl (hown1.mono hwr0) hown2 hg2)
      have HBN : Hid (Below w.heap.size w wv2) := Lib.hid (((HB2.out.trans ((KB.out _ hbl).mono hwB)).alloc (by omega) _).trans hbl2)
      have hsN := HBN.out.size
      clear hbl hg1 hown1 hor1 hown2 hbl2 hg2 hor2 HV1 HW1 G1 G4 G5 KEEP KEEP2 OWN1 LST1 SZ1 L1 L2 KB SZA OWA ONE NE
      go_wp2
      go_roundg (vs.length - (k + 1))
      case measure => omega
      case rel => exact ⟨k + 1, by omega, rfl, by go_num, HON, HBN, hsN⟩
    · obtain rfl : k = vs.length := by omega
      have H := HO.out
      rw [List.take_of_length_le (Nat.le_refl _)] at H
      obtain ⟨ss, g1, g4, g5⟩ := H.parts
      have G1 := Lib.hid g1
      have G4 := Lib.hid g4
      have G5 := Lib.hid g5
      have HSS : Hid (ss.length ≤ 20) := Lib.hid (by rw [g4]; exact hn)
      have LST : Hid (Sl eLine (wr.alloc (.cells #[] 72)) lv ln) := Lib.hid ((HLN.out.below HB.out).alloc _)
      have OWN1 : Hid (Own eLine (wr.alloc (.cells #[] 72)) wr.heap.size 72 (.slice (some ⟨wr.heap.size, 0, none⟩) 0 0) []) := Lib.hid (Own.empty eLine wr wr.heap.size 72 (Nat.le_refl _))
      have SZ1 : Hid (wr.heap.size ≤ (wr.alloc (.cells #[] 72)).heap.size) := Lib.hid (by simp)
      clear g1 g4 g5 H HO HCELL
      go_wp2_with (at_builtin; refine wpList_app_all eLine rfl _ _ 46 (by rfl) 72 (.agg #[.string ⟨#[]⟩, .int .i64 0]) 24 Try.underlying46 info_Line rfl (by decide) (by decide) wr.heap.size _ [] (by rfl) OWN1.out _ ln (by rfl) LST.out (by simp; omega) SZ1.out ?_)
      intro v1 wv1 hown0 hbl hg1 hor1
      have hown1 : Own eLine wv1 wr.heap.size 72 v1 ln := hown0
      clear hown0
      obtain ⟨a1, c1, rfl⟩ := slice_of hown1
      have hbb : Below wr.heap.size wr wv1 := ((Below.refl _ _).alloc (Nat.le_refl _) _).trans hbl
      have HV1 := Lib.hid (G5.out.below hbb)
      have HW1 := Lib.hid (G1.out.below hbb)
      have HON1 := Lib.hid hown1
      have HB1 := Lib.hid (HB.out.trans (hbb.mono hs))
      have hs1 : w.heap.size ≤ wv1.heap.size := HB1.out.size
      have hsl : ss.length ≤ 1000000000 := by have := HSS.out; omega
      clear hown1 hbl hg1 hor1 hbb G1 G5 OWN1 SZ1 LST
      go_wp2_with (at_builtin; refine wpList_app eV rfl _ _ 25 (by rfl) 58 (.agg #[.int .i64 0, .slice none 0 0]) 32 Try.underlying25 info_Version rfl (by decide) (by decide) w.heap.size _ ss (by rfl) (by exact HW1.out) (by exact hsl) (by exact hs1) ⟨pn, a1, ln.length, c1⟩ _ (by rfl) _ (by rfl) (by rfl) ?_)
      intro v2 wv2 hown2 hbl2 hg2 hor2 hs2
      have HON : Hid (OwnV wv2 w.heap.size wv2.heap.size v2 (vs ++ [⟨pn, ln⟩])) := Lib.hid (OwnV.app2 (s := ⟨pn, a1, ln.length, c1⟩) HW1.out G4.out HV1.out hs rfl HON1.out hown2 hg2)
      have HBN : Hid (Below w.heap.size w wv2) := Lib.hid (HB1.out.trans hbl2)
      clear hown2 hbl2 hg2 hor2 hs2 HW1 HV1 HON1 HB1
      go_wp2
      go_ret
      exact ⟨_, rfl, HON.out, HBN.out⟩
end Go.Proofs.Ytklllcehndfcpaa
