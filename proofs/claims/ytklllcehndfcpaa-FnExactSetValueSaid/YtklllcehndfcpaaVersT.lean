/- Contracts of the functions that copy and compare versions. No statement of the seat is proved here. -/
import Derived.Test.YtklllcehndfcpaaOVers
namespace Go.Proofs.Ytklllcehndfcpaa
open Go.RowKit

theorem getElem?_set_cases {α : Type} {l : List α} {k i : Nat} {a b : α} (h : (l.set k a)[i]? = some b) : (i = k ∧ b = a ∧ k < l.length) ∨ (i ≠ k ∧ l[i]? = some b) := by
  by_cases e : i = k
  · subst e
    rw [List.getElem?_set] at h
    simp only [if_true] at h
    split at h
    · rename_i hl
      cases h
      exact .inl ⟨rfl, rfl, hl⟩
    · cases h
  · rw [List.getElem?_set_ne (Ne.symm e)] at h
    exact .inr ⟨e, h⟩
section
variable {w w' : World} {lo hi hi2 g n cap : Nat} {v : Value} {vs : List Ver}
/-- one version overwritten by a version whose sheet is new -/
theorem OwnV.put (h : OwnV w lo hi (.slice (some ⟨g, 0, none⟩) n cap) vs) (k : Nat) (hk : k < vs.length) (s : VC) (x : Ver) (hx : s.p = x.parent) (ho : Own eLine w hi 72 s.sl x.lines) (hb : ∀ j, s.sl.ownBlock = some j → j < hi2) (h2 : hi ≤ hi2) (hs : hi2 ≤ w.heap.size) (hlo : lo ≤ hi) :
    OwnV (setCellsW w g (k * 2) (eV.f s)) lo hi2 (.slice (some ⟨g, 0, none⟩) n cap) (vs.set k x) ∧ w.grownBy (setCellsW w g (k * 2) (eV.f s)) (some g) := by
  obtain ⟨ss, h1, g2, g3, g4, g5, g6⟩ := h
  obtain ⟨q1, q2⟩ := h1.store k (by omega) s
  refine ⟨⟨ss.set k s, q1, fun j hj => Nat.lt_of_lt_of_le (g2 j hj) h2, Nat.le_trans hs q2.size, by simp [g4], fun i t y e1 e2 => ?_, fun i j t u hij e1 e2 => ?_⟩, q2⟩
  · rcases getElem?_set_cases e1 with ⟨rfl, rfl, _⟩ | ⟨hne, e1'⟩
    · rw [List.getElem?_set_self hk] at e2
      cases e2
      exact ⟨hx, Own.kept (ho.mono hlo) q2 (own_ne_cells h1 ho ne_ver_line), hb⟩
    · rw [List.getElem?_set_ne (Ne.symm hne)] at e2
      obtain ⟨r1, r2, r3⟩ := g5 i t y e1' e2
      exact ⟨r1, Own.kept r2 q2 (own_ne_cells h1 r2 ne_ver_line), fun j hj => Nat.lt_of_lt_of_le (r3 j hj) h2⟩
  · have low : ∀ (i : Nat) (t : VC), ss[i]? = some t → ∀ j, t.sl.ownBlock = some j → j < hi := fun i t e j hj => by
      have hi' : i < ss.length := (List.getElem?_eq_some_iff.1 e).1
      exact (g5 i t vs[i] e (by simp [show i < vs.length by omega])).2.2 j hj
    rcases getElem?_set_cases e1 with ⟨rfl, rfl, _⟩ | ⟨hne, e1'⟩
    · rcases getElem?_set_cases e2 with ⟨rfl, _⟩ | ⟨_, e2'⟩
      · omega
      · cases hb1 : t.sl.ownBlock with
        | none => exact .inl rfl
        | some b =>
          refine .inr (fun e => ?_)
          have := low j u e2' b e.symm
          have := (World.ownsRow.lt ho b hb1).1
          omega
    · rcases getElem?_set_cases e2 with ⟨rfl, rfl, _⟩ | ⟨_, e2'⟩
      · cases hb1 : t.sl.ownBlock with
        | none => exact .inl rfl
        | some b =>
          refine .inr (fun e => ?_)
          have := low i t e1' b hb1
          have := (World.ownsRow.lt ho b e.symm).1
          omega
      · exact g6 i j t u hij e1' e2'
end
theorem Own.far {α : Type} {E : Enc α} {w : World} {base : Nat} {t : TypeId} {v : Value} {xs : List α} (h : Own E w base t v xs) {p : Addr} (hp : p.block < base) (u : Value) : Own E (w.setCell p u) base t v xs :=
  h.block fun k hk => Below.heap_setCell _ _ _ _ (by have := (World.ownsRow.lt h k hk).1; omega)
theorem slice_of {α : Type} {E : Enc α} {w : World} {base : Nat} {t : TypeId} {v : Value} {xs : List α} (h : Own E w base t v xs) : ∃ a c, v = .slice a xs.length c := by
  rcases h.2 with ⟨rfl, e⟩ | ⟨g, cap, cur, rfl, _⟩
  · rw [e]; exact ⟨_, _, rfl⟩
  · exact ⟨_, _, rfl⟩
/-- three boxes on a world, seen from a world above them -/
theorem box3 {w w1 : World} {c c2 c3 : Array Value} {t t2 t3 : TypeId} (hb : Below (((w.alloc (.cells c t)).alloc (.cells c2 t2)).alloc (.cells c3 t3)).heap.size (((w.alloc (.cells c t)).alloc (.cells c2 t2)).alloc (.cells c3 t3)) w1) :
    (∀ j, w1.cell? ⟨w.heap.size + 1, j, none⟩ = c2[j]?) ∧ (∀ j, w1.frozen? ⟨w.heap.size + 1, j, none⟩ = false) ∧ (∀ j, w1.cell? ⟨w.heap.size + 1 + 1, j, none⟩ = c3[j]?) ∧ (∀ j, w1.frozen? ⟨w.heap.size + 1 + 1, j, none⟩ = false) ∧ Below w.heap.size w w1 ∧ w.heap.size + 3 ≤ w1.heap.size := by
  have hs := hb.size
  simp only [World.size_alloc] at hs
  have e : (w.alloc (.cells c t)).heap.size = w.heap.size + 1 := World.size_alloc _ _
  have e2 : ((w.alloc (.cells c t)).alloc (.cells c2 t2)).heap.size = w.heap.size + 1 + 1 := by rw [World.size_alloc, e]
  refine ⟨fun j => ?_, fun j => ?_, fun j => ?_, fun j => ?_, ((((Below.refl _ _).alloc (Nat.le_refl _) _).alloc (by simp) _).alloc (by simp; omega) _).trans (hb.mono (by simp; omega)), hs⟩
  · rw [hb.cell (by simp; try omega), box_old _ _ _ (by simp; try omega), ← e, box_new]
  · rw [hb.frozen (by simp; try omega)]; exact frozen_box _ _ _ _ (frozen_box _ _ _ _ (frozen_box _ _ _ _ (frozen_out _ _ (by simp))))
  · rw [hb.cell (by simp; try omega), ← e2, box_new]
  · rw [hb.frozen (by simp; try omega)]; exact frozen_box _ _ _ _ (frozen_box _ _ _ _ (frozen_box _ _ _ _ (frozen_out _ _ (by simp; omega))))
set_option maxHeartbeats 1000000 in
set_option maxRecDepth 10000 in
theorem toVersion_any (p : Int) (a : Option Addr) (n c : Nat) (ls : List Line) (w : World) (h : Sl eLine w (.slice a n c) ls) (hn : ls.length ≤ 1048576) :
    Calls Try.prog 39 #[.agg #[.int .i64 p, .slice a n c]] w fun e w' => ∃ a' c', e = .returned (.agg #[.int .i64 p, .slice a' ls.length c']) ∧ Own eLine w' w.heap.size 72 (.slice a' ls.length c') ls ∧ Below w.heap.size w w' := by
  have hb0 : Below w.heap.size w (((w.alloc (.cells #[.int .i64 p, .slice a n c] 55)).alloc (.cells #[.int .i64 0, .slice none 0 0] 58)).alloc (.cells #[.int .i64 p, .slice none 0 0] 58)) := (((Below.refl _ _).alloc (Nat.le_refl _) _).alloc (by simp) _).alloc (by simp; omega) _
  have HS := Lib.hid (h.below hb0)
  clear h hb0
  go_enter Try.func39, Try.ntmps39
  go_wp2_with fail
  refine (toLineS_any _ ls _ HS.out hn).mono ?_
  rintro e w2 ⟨u, rfl, ho, hb⟩
  obtain ⟨k1, f1, k2, f2, hB, hs⟩ := box3 hb
  have c0 := (k1 0).trans (show _ = some (Value.int .i64 0) from rfl)
  have c1 := (k1 1).trans (show _ = some (Value.slice none 0 0) from rfl)
  have d0 := (k2 0).trans (show _ = some (Value.int .i64 p) from rfl)
  have d1 := (k2 1).trans (show _ = some (Value.slice none 0 0) from rfl)
  have f10 := f1 0
  have f11 := f1 1
  have f20 := f2 0
  have f21 := f2 1
  obtain ⟨a', c', rfl⟩ := slice_of ho
  have HO := Lib.hid ho
  have HB := Lib.hid hB
  clear k1 k2 f1 f2 ho hb hB HS
  go_wp2
  have HO2 := Lib.hid (((HO.out.far (p := ⟨w.heap.size + 1 + 1, 1, none⟩) (by simp) (.slice a' ls.length c')).far (p := ⟨w.heap.size + 1, 0, none⟩) (by simp) (.int .i64 p)).far (p := ⟨w.heap.size + 1, 1, none⟩) (by simp) (.slice a' ls.length c'))
  refine bodyPost_ret (v := .agg #[.int .i64 p, .slice a' ls.length c']) (by simp [results, Try.results39, go_sem, c0, c1]) rfl ⟨a', c', rfl, Own.mono HO2.out (by simp; omega), ((HB.out.setCell (by simp; omega) _).setCell (by simp) _).setCell (by simp) _⟩
set_option maxHeartbeats 2000000 in
set_option maxRecDepth 10000 in
theorem toVersionS_any (v : Value) (vs : List Ver) (w : World) (hv : RdV w v vs) (hn : totV vs ≤ 1048576) :
    Calls Try.prog 12 #[v] w fun e w' => ∃ u, e = .returned u ∧ OwnV w' w.heap.size w'.heap.size u vs ∧ Below w.heap.size w w' := by
  have hnl := totV_len vs
  have HT := Lib.hid (fun x hx => Nat.le_trans (totV_mem vs x hx) hn)
  obtain ⟨A, cap, rfl, _, hm, hc⟩ := hv.shape
  obtain ⟨i0, hi, hz0, hz1, hz2⟩ := info_parts info_Version
  go_enter Try.func12, Try.ntmps12
  go_wp2_with (at_make; refine wpList_make_full _ rfl _ _ 25 rfl w.heap.size 58 i0 (.agg #[.int .i64 0, .slice none 0 0]) 2 Try.underlying25 hi hz0 hz1 .i64 .i64 _ _ vs.length rfl rfl rfl rfl ?c1 ?c2 (Nat.le_refl _) ?_)
  case c1 => rw [hz2]; omega
  case c2 => unfold maxLen; omega
  intro w1 hown hgrow
  have hb1 : Below w.heap.size w w1 := (Below.refl _ _).grown hgrow (Nat.le_refl _) (by simp)
  have hs1 : w.heap.size < w1.heap.size := (hown.lt _ rfl).2
  have HO0 : Hid (OwnV w1 w.heap.size w1.heap.size (.slice (some ⟨w.heap.size, 0, none⟩) vs.length vs.length) (copG zVer vs 0)) := Lib.hid (by
    rw [copG_zero]
    have h := Own.made eV zVC (by decide) hown
    refine ⟨_, h, fun k hk => by cases hk; exact hs1, Nat.le_refl _, by simp, fun k s x e1 e2 => ?_, fun i j s u _ e1 e2 => ?_⟩
    · obtain ⟨g1, rfl⟩ := List.getElem?_eq_some_iff.1 e1
      obtain ⟨g2, rfl⟩ := List.getElem?_eq_some_iff.1 e2
      simp only [List.getElem_replicate]
      exact ⟨rfl, World.ownsRow_nil _ _ _ _, fun k hk => by simp [VC.sl, zVC, Value.ownBlock] at hk⟩
    · obtain ⟨g1, rfl⟩ := List.getElem?_eq_some_iff.1 e1
      simp only [List.getElem_replicate]
      exact .inl rfl)
  clear hown hgrow hv
  go_wp2
  go_loopg [4] vs.length (fun gi i wr => ∃ k : Nat, k ≤ vs.length ∧ gi = vs.length - k ∧ i = .int .i64 k ∧ Hid (OwnV wr w.heap.size wr.heap.size (.slice (some ⟨w.heap.size, 0, none⟩) vs.length vs.length) (copG zVer vs k)) ∧ Below w.heap.size w wr ∧ w.heap.size < wr.heap.size)
  case atStart => exact ⟨0, Nat.zero_le _, rfl, rfl, HO0, hb1, hs1⟩
  case round =>
    obtain ⟨k, hk, rfl, rfl, HO, hb, hs⟩ := hrel
    clear HO0 hb1 hs1
    by_cases hlt : k < vs.length
    · obtain ⟨b, off, rfl, hbl, hcell⟩ := hc (by omega)
      obtain ⟨a, c, hc0, hc1, hsl⟩ := hcell k hlt
      have c0 := (hb.cell (p := ⟨b, off + k * 2, none⟩) hbl).trans hc0
      have c1 := (hb.cell (p := ⟨b, off + k * 2 + 1, none⟩) hbl).trans hc1
      have HSL := Lib.hid (hsl.below hb)
      have HB := Lib.hid hb
      have HTK := Lib.hid (HT.out _ (List.getElem_mem hlt))
      have HCS := Lib.hid (copG_succ zVer vs k hlt)
      clear hc hcell hc0 hc1 hsl hb
      go_wp2_with fail
      refine (toVersion_any vs[k].parent a vs[k].lines.length c vs[k].lines wr HSL.out HTK.out).mono ?_
      rintro e w2 ⟨a', c', rfl, ho2, hb2⟩
      have hkn : k < (copG zVer vs k).length := by rw [copG_len _ _ _ hk]; exact hlt
      have hO2 := HO.out.below hb2
      obtain ⟨o0, hd0⟩ : ∃ u, w2.cell? ⟨w.heap.size, k * 2, none⟩ = some u := by
        obtain ⟨ss, g1, _, _, g4, _⟩ := hO2
        exact Own.old g1 k (by omega) 0 (by decide)
      obtain ⟨o1, hd1⟩ : ∃ u, w2.cell? ⟨w.heap.size, k * 2 + 1, none⟩ = some u := by
        obtain ⟨ss, g1, _, _, g4, _⟩ := hO2
        exact Own.old g1 k (by omega) 1 (by decide)
      have hf0 : w2.frozen? ⟨w.heap.size, k * 2, none⟩ = false := by
        obtain ⟨ss, g1, _⟩ := hO2
        exact Own.free g1 _
      have hf1 : w2.frozen? ⟨w.heap.size, k * 2 + 1, none⟩ = false := by
        obtain ⟨ss, g1, _⟩ := hO2
        exact Own.free g1 _
      have hsz2 := hb2.size
      have HP := Lib.hid (hO2.put k hkn ⟨vs[k].parent, a', vs[k].lines.length, c'⟩ vs[k] rfl ho2 (fun j hj => (World.ownsRow.lt ho2 j hj).2) hsz2 (Nat.le_refl _) (by omega))
      have HB2 := Lib.hid (below_step2 HB.out hb2 (by omega))
      clear hO2 ho2 hb2 HO HB HSL
      go_wp2
      have HF := Lib.hid (HB2.out.grown HP.out.2 (by omega) (by intro q hq; cases hq; exact Nat.le_refl _))
      have hsF := HP.out.2.size
      go_roundg (vs.length - (k + 1))
      case measure => omega
      case rel =>
        refine ⟨k + 1, by omega, rfl, by go_num, Lib.hid ?_, HF.out, Nat.lt_of_lt_of_le (by omega) hsF⟩
        rw [← HCS.out]
        exact HP.out.1.mono (Nat.le_refl _) hsF (Nat.le_refl _)
    · obtain rfl : k = vs.length := by omega
      have H := HO.out
      rw [copG_all] at H
      have HO2 := Lib.hid H
      clear H HO
      go_wp2
      go_ret
      exact ⟨_, rfl, HO2.out, hb⟩
set_option maxHeartbeats 1000000 in
set_option maxRecDepth 10000 in
theorem eqVersion_same (p : Int) (a1 : Option Addr) (c1 : Nat) (a2 : Option Addr) (c2 : Nat) (ls : List Line) (w : World) (h1 : Sl eLine w (.slice a1 ls.length c1) ls) (h2 : Sl eLine w (.slice a2 ls.length c2) ls) :
    Calls Try.prog 42 #[.agg #[.int .i64 p, .slice a1 ls.length c1], .agg #[.int .i64 p, .slice a2 ls.length c2]] w fun e w' => e = .returned (.bool true) ∧ Below w.heap.size w w' := by
  have hb0 : Below w.heap.size w ((w.alloc (.cells #[.int .i64 p, .slice a1 ls.length c1] 58)).alloc (.cells #[.int .i64 p, .slice a2 ls.length c2] 58)) := ((Below.refl _ _).alloc (Nat.le_refl _) _).alloc (by simp) _
  have H1 := Lib.hid (h1.below hb0)
  have H2 := Lib.hid (h2.below hb0)
  have HS : Hid (w.heap.size ≤ ((w.alloc (.cells #[.int .i64 p, .slice a1 ls.length c1] 58)).alloc (.cells #[.int .i64 p, .slice a2 ls.length c2] 58)).heap.size) := Lib.hid (by simp; omega)
  have HB := Lib.hid hb0
  clear h1 h2 hb0
  go_enter Try.func42, Try.ntmps42
  go_wp2_with fail
  refine (eqLineS_same _ _ ls _ H1.out H2.out).mono ?_
  rintro e w2 ⟨rfl, hb⟩
  have HB2 := Lib.hid (below_step2 HB.out hb HS.out)
  clear hb
  go_wp2
  go_ret
  exact ⟨rfl, HB2.out⟩
set_option maxHeartbeats 1000000 in
set_option maxRecDepth 10000 in
theorem eqVersionS_same (v u : Value) (vs : List Ver) (w : World) (hv : RdV w v vs) (hu : RdV w u vs) :
    Calls Try.prog 14 #[v, u] w fun e w' => e = .returned (.bool true) ∧ Below w.heap.size w w' := by
  obtain ⟨A, cap, rfl, _, hm, hc⟩ := hv.shape
  obtain ⟨A2, cap2, rfl, _, _, hc2⟩ := hu.shape
  clear hv hu
  go_enter Try.func14, Try.ntmps14
  go_wp2
  go_loopg [5] vs.length (fun gi i wr => ∃ k : Nat, k ≤ vs.length ∧ gi = vs.length - k ∧ i = .int .i64 k ∧ Below w.heap.size w wr ∧ w.heap.size ≤ wr.heap.size)
  case atStart => exact ⟨0, Nat.zero_le _, rfl, rfl, Below.refl _ _, Nat.le_refl _⟩
  case round =>
    obtain ⟨k, hk, rfl, rfl, hb, hs⟩ := hrel
    by_cases hlt : k < vs.length
    · obtain ⟨b, off, rfl, hbl, hcell⟩ := hc (by omega)
      obtain ⟨b2, off2, rfl, hbl2, hcell2⟩ := hc2 (by omega)
      obtain ⟨a, c, hc0, hc1, hsl⟩ := hcell k hlt
      obtain ⟨a2, c2, hd0, hd1, hsl2⟩ := hcell2 k hlt
      have e0 := (hb.cell (p := ⟨b, off + k * 2, none⟩) hbl).trans hc0
      have e1 := (hb.cell (p := ⟨b, off + k * 2 + 1, none⟩) hbl).trans hc1
      have g0 := (hb.cell (p := ⟨b2, off2 + k * 2, none⟩) hbl2).trans hd0
      have g1 := (hb.cell (p := ⟨b2, off2 + k * 2 + 1, none⟩) hbl2).trans hd1
      have S1 := Lib.hid (hsl.below hb).drew
      have S2 := Lib.hid (hsl2.below hb).drew
      have HBD : Hid (Below w.heap.size w wr.drew) := Lib.hid hb.drew
      have hsd : w.heap.size ≤ wr.drew.heap.size := hs
      clear hc hcell hc2 hcell2 hb hc0 hc1 hd0 hd1 hsl hsl2
      go_wp2
      go_still_tail 8, (by kernel_rfl)
      change wpList _ _ _ _ _ wr.drew
      generalize wr.drew = w2 at *
      go_wp2_with fail
      refine (eqVersion_same vs[k].parent a c a2 c2 vs[k].lines w2 S1.out S2.out).mono ?_
      rintro e w3 ⟨rfl, hb3⟩
      have hb4 := below_step2 HBD.out hb3 hsd
      have hs4 := hb4.size
      clear HBD hb3 S1 S2
      go_wp2
      go_roundg (vs.length - (k + 1))
      case measure => omega
      case rel => exact ⟨k + 1, by omega, rfl, by go_num, hb4, hs4⟩
    · go_wp2
      go_ret
      exact ⟨rfl, hb⟩
end Go.Proofs.Ytklllcehndfcpaa
