/- Contracts of the functions that overwrite versions by marks and look whether they stand. No statement of the seat is proved here. -/
import Derived.Test.YtklllcehndfcpaaVersT
namespace Go.Proofs.Ytklllcehndfcpaa
open Go.RowKit

def cntV1 (x : Ver) : Nat := 1 + 2 * x.lines.length
def cntVersionS (vs : List Ver) : Nat := (vs.map cntV1).sum
/-- where the marks of element i begin -/
def mvAt (vs : List Ver) (m : Int) (i : Nat) : Int := m + (cntVersionS (vs.take i) : Nat)
def mvF (vs : List Ver) (m : Int) (i : Nat) : Ver := ⟨mvAt vs m i, mkLineS (vs.getD i zVer).lines (mvAt vs m i + 1)⟩
def mkVersionS (vs : List Ver) (m : Int) : List Ver := (List.range vs.length).map (mvF vs m)
theorem mkVersionS_len (vs : List Ver) (m : Int) : (mkVersionS vs m).length = vs.length := mkA_len _ _
theorem cntVersionS_tot : ∀ vs : List Ver, cntVersionS vs ≤ 2 * totV vs
  | [] => by simp [cntVersionS]
  | x :: vs => by have := cntVersionS_tot vs; simp only [cntVersionS, totV, List.map_cons, List.sum_cons, cntV1, weighV] at *; omega
theorem cntVersionS_le (vs : List Ver) (h : totV vs ≤ 4000000) : cntVersionS vs ≤ 10000000 := by have := cntVersionS_tot vs; omega
theorem cnt_take_succ (vs : List Ver) (k : Nat) (h : k < vs.length) : cntVersionS (vs.take (k + 1)) = cntVersionS (vs.take k) + cntV1 vs[k] := sum_take_succ cntV1 vs k h
theorem cnt_take_le (vs : List Ver) (k : Nat) : cntVersionS (vs.take k) ≤ cntVersionS vs := sum_take_le cntV1 vs k
theorem mvF_at (vs : List Ver) (m : Int) (k : Nat) (h : k < vs.length) : mvF vs m k = ⟨mvAt vs m k, mkLineS vs[k].lines (mvAt vs m k + 1)⟩ := by unfold mvF; rw [getD_at _ _ k h]
theorem mkV_at (vs : List Ver) (m : Int) (k : Nat) (h : k < vs.length) : (mkd (mvF vs m) vs k)[k]? = some vs[k] := by
  unfold mkd
  rw [List.getElem?_append_right (by simp)]
  simp [h]
theorem mkV_lines (vs : List Ver) (m : Int) : ∀ x ∈ mkVersionS vs m, x.lines.length ≤ totV vs := by
  intro x hx
  unfold mkVersionS at hx
  obtain ⟨i, hi, rfl⟩ := List.mem_map.1 hx
  have hi' : i < vs.length := List.mem_range.1 hi
  rw [mvF_at _ _ _ hi']
  simp only
  rw [mkLineS_len]
  exact totV_mem vs _ (List.getElem_mem _)
section
variable {w w' : World} {lo hi g n cap : Nat} {v : Value} {vs : List Ver} {ss : List VC}
/-- what 'OwnV' says of a list of cells -/
def VAll (w : World) (lo hi : Nat) (ss : List VC) (vs : List Ver) : Prop := (∀ (k : Nat) (s : VC) (x : Ver), ss[k]? = some s → vs[k]? = some x → VOwn w lo hi s x) ∧
  ∀ (i j : Nat) (s u : VC), i < j → ss[i]? = some s → ss[j]? = some u → s.sl.ownBlock = none ∨ s.sl.ownBlock ≠ u.sl.ownBlock
/-- a parent's number overwritten -/
theorem parent_set (h1 : Own eV w lo 58 (.slice (some ⟨g, 0, none⟩) n cap) ss) (h4 : ss.length = vs.length) (h5 : VAll w lo hi ss vs) (k : Nat) (hk : k < ss.length) (p : Int) (x : Ver) (hx : vs[k]? = some x) :
    Own eV (w.setCell ⟨g, k * 2, none⟩ (.int .i64 p)) lo 58 (.slice (some ⟨g, 0, none⟩) n cap) (ss.set k ⟨p, ss[k].a, ss[k].n, ss[k].cap⟩) ∧ VAll (w.setCell ⟨g, k * 2, none⟩ (.int .i64 p)) lo hi (ss.set k ⟨p, ss[k].a, ss[k].n, ss[k].cap⟩) (vs.set k ⟨p, x.lines⟩) ∧ w.grownBy (w.setCell ⟨g, k * 2, none⟩ (.int .i64 p)) (some g) := by
  obtain ⟨q1, q2⟩ := h1.store1 k hk 0 (by decide) (.int .i64 p) ⟨p, ss[k].a, ss[k].n, ss[k].cap⟩ rfl
  refine ⟨q1, ⟨fun i t y e1 e2 => ?_, fun i j t u hij e1 e2 => ?_⟩, q2⟩
  · rcases getElem?_set_cases e1 with ⟨rfl, rfl, _⟩ | ⟨hne, e1'⟩
    · rw [List.getElem?_set_self (by omega)] at e2
      cases e2
      obtain ⟨r1, r2, r3⟩ := h5.1 i ss[i] x (by simp [hk]) hx
      exact ⟨rfl, Own.kept r2 q2 (own_ne_cells h1 r2 ne_ver_line), r3⟩
    · rw [List.getElem?_set_ne (Ne.symm hne)] at e2
      obtain ⟨r1, r2, r3⟩ := h5.1 i t y e1' e2
      exact ⟨r1, Own.kept r2 q2 (own_ne_cells h1 r2 ne_ver_line), r3⟩
  · rcases getElem?_set_cases e1 with ⟨rfl, rfl, _⟩ | ⟨hne, e1'⟩
    · rcases getElem?_set_cases e2 with ⟨rfl, _⟩ | ⟨_, e2'⟩
      · omega
      · exact h5.2 i j ss[i] u hij (by simp [hk]) e2'
    · rcases getElem?_set_cases e2 with ⟨rfl, rfl, _⟩ | ⟨_, e2'⟩
      · exact h5.2 i j t ss[j] hij e1' (by simp [hk])
      · exact h5.2 i j t u hij e1' e2'
/-- a sheet overwritten in its place -/
theorem sheet_set (h1 : Own eV w lo 58 v ss) (h5 : VAll w lo hi ss vs) (k : Nat) (s : VC) (x : Ver) (hs : ss[k]? = some s) (hx : vs[k]? = some x) (ls : List Line) (ho : Own eLine w' lo 72 s.sl ls) (hg : w.grownBy w' s.sl.ownBlock) :
    Own eV w' lo 58 v ss ∧ VAll w' lo hi ss (vs.set k ⟨x.parent, ls⟩) := by
  have h0 := h5.1 k s x hs hx
  refine ⟨Own.kept h1 hg ?_, fun i t y e1 e2 => ?_, h5.2⟩
  · rcases own_ne_cells h0.2.1 h1 (Ne.symm ne_ver_line) with h | h
    · exact .inl h
    · exact .inr h
  · by_cases e : i = k
    · subst e
      rw [hs] at e1
      cases e1
      have hk : i < vs.length := (List.getElem?_eq_some_iff.1 hx).1
      rw [List.getElem?_set_self hk] at e2
      cases e2
      exact ⟨h0.1, ho, h0.2.2⟩
    · rw [List.getElem?_set_ne (Ne.symm e)] at e2
      obtain ⟨r1, r2, r3⟩ := h5.1 i t y e1 e2
      refine ⟨r1, Own.kept r2 hg ?_, r3⟩
      rcases Nat.lt_or_gt_of_ne e with hlt | hlt
      · exact h5.2 i k t s hlt e1 hs
      · rcases h5.2 k i s t hlt hs e1 with h | h
        · rw [h]
          cases t.sl.ownBlock with
          | none => exact .inl rfl
          | some _ => exact .inr (by simp)
        · exact .inr (Ne.symm h)
end
theorem mvAt_succ (vs : List Ver) (m : Int) (k : Nat) (h : k < vs.length) : mvAt vs m (k + 1) = mvAt vs m k + 1 + 2 * vs[k].lines.length := by
  unfold mvAt
  rw [cnt_take_succ vs k h]
  unfold cntV1
  omega
theorem mvAt_all (vs : List Ver) (m : Int) : mvAt vs m vs.length = m + (cntVersionS vs : Nat) := by unfold mvAt; rw [List.take_of_length_le (Nat.le_refl _)]
set_option maxHeartbeats 2000000 in
set_option maxRecDepth 10000 in
theorem markVersionS_law (v : Value) (vs : List Ver) (m : Int) (lo hi : Nat) (w : World) (hv : OwnV w lo hi v vs) (hn : totV vs ≤ 4000000) (hnl : ∀ x ∈ vs, x.lines.length ≤ 1048576) (hm0 : 1 ≤ m) (hm1 : m ≤ 100000000000) (hlo : lo ≤ hi) :
    Calls Try.prog 22 #[v, .int .i64 m] w fun e w' => e = .returned (.int .i64 (m + (cntVersionS vs : Nat))) ∧ OwnV w' lo hi v (mkVersionS vs m) ∧ Span lo hi w w' := by
  have htl := totV_len vs
  have HNL := Lib.hid hnl
  clear hnl
  by_cases hz : vs.length = 0
  · have hx : vs = [] := List.eq_nil_of_length_eq_zero hz
    subst hx
    obtain ⟨A, cap, rfl, _, _, _⟩ := (RdV.of_own hv (by simp) (by simp)).shape
    have HV := Lib.hid hv
    clear hv hz
    go_enter Try.func22, Try.ntmps22
    go_wp2
    refine wp_loop_rounds 1 ?_
    rw [rounds_succ]
    go_wp2
    go_ret
    exact ⟨ret_int (by simp [cntVersionS]), HV.out, Span.refl _ _ _⟩
  obtain ⟨ss, h1, h2, h3, h4, h5⟩ := hv
  obtain ⟨g, cap, rfl, hbg, hgl⟩ := World.ownsRow.form h1 (by omega)
  rw [h4] at h1 h2 ⊢
  have hgh := h2 g rfl
  have hlw : lo ≤ w.heap.size := by omega
  have HV0 : Hid (VAll w lo hi ss (mkd (mvF vs m) vs 0)) := Lib.hid (by rw [mkd_zero]; exact h5)
  have H1 := Lib.hid h1
  have H2 := Lib.hid h2
  have H4 := Lib.hid h4
  have HCL : Hid (∀ k, cntVersionS (vs.take k) ≤ 8000000) := Lib.hid (fun k => by have := cnt_take_le vs k; have := cntVersionS_tot vs; omega)
  clear h1 h2 h4 h5 hz
  go_enter Try.func22, Try.ntmps22
  go_wp2
  go_loopg [5, 1] vs.length (fun gi i q wr => ∃ (k : Nat) (l : Int) (sk : List VC), k ≤ vs.length ∧ gi = vs.length - k ∧ i = .int .i64 k ∧ q = .int .i64 l ∧ Hid (l = mvAt vs m k) ∧ Hid (Own eV wr lo 58 (.slice (some ⟨g, 0, none⟩) vs.length cap) sk) ∧ Hid (sk.length = vs.length) ∧ Hid (VAll wr lo hi sk (mkd (mvF vs m) vs k)) ∧ Hid (Span lo hi w wr))
  case atStart => exact ⟨0, m, ss, Nat.zero_le _, rfl, rfl, rfl, Lib.hid (by simp [mvAt, cntVersionS]), H1, H4, HV0, Lib.hid (Span.refl _ _ _)⟩
  case round =>
    obtain ⟨k, l, sk, hk, rfl, rfl, rfl, HL, HO, HN, HV, HSP⟩ := hrel
    clear HV0 H1 H4
    have hl := HL.out
    have hcl := HCL.out k
    have hl1 : 1 ≤ l := by unfold mvAt at hl; omega
    have hl2 : l ≤ 200000000000 := by unfold mvAt at hl; omega
    clear hl hcl
    by_cases hlt : k < vs.length
    · have hks : k < sk.length := by rw [HN.out]; exact hlt
      have hx : (mkd (mvF vs m) vs k)[k]? = some vs[k] := mkV_at vs m k hlt
      obtain ⟨o0, hd0⟩ : ∃ u, wr.cell? ⟨g, k * 2, none⟩ = some u := Own.old HO.out k hks 0 (by decide)
      have hf0 : wr.frozen? ⟨g, k * 2, none⟩ = false := Own.free HO.out _
      have hc1 : wr.cell? ⟨g, k * 2 + 1, none⟩ = some (.slice sk[k].a sk[k].n sk[k].cap) := (HO.out.cellsAt k hks 1 (by decide)).trans rfl
      obtain ⟨p1, p2, p3⟩ := parent_set HO.out (by rw [HN.out, mkd_len _ _ _ hk]) HV.out k hks l vs[k] hx
      have hlenk : (mkd (mvF vs m) vs k).length = vs.length := mkd_len _ _ _ hk
      have hsk' : (sk.set k ⟨l, sk[k].a, sk[k].n, sk[k].cap⟩)[k]? = some ⟨l, sk[k].a, sk[k].n, sk[k].cap⟩ := by rw [List.getElem?_set_self hks]
      have hvk' : ((mkd (mvF vs m) vs k).set k ⟨l, vs[k].lines⟩)[k]? = some ⟨l, vs[k].lines⟩ := by rw [List.getElem?_set_self (by omega)]
      have hvo := p2.1 k _ _ hsk' hvk'
      have HVO := Lib.hid hvo
      have P1 := Lib.hid p1
      have P2 := Lib.hid p2
      have P3 := Lib.hid p3
      have HSK := Lib.hid hsk'
      have HVK := Lib.hid hvk'
      have HLN : Hid ((sk.set k ⟨l, sk[k].a, sk[k].n, sk[k].cap⟩).length = vs.length) := Lib.hid (by rw [List.length_set]; exact HN.out)
      have HLK := Lib.hid hlenk
      clear p1 p2 p3 hvo hx hsk' hvk' HO HV hlenk
      generalize sk.set k ⟨l, sk[k].a, sk[k].n, sk[k].cap⟩ = sk2 at *
      generalize sk[k] = s at *
      have htm : vs[k].lines.length ≤ 1048576 := HNL.out _ (List.getElem_mem hlt)
      have HTM := Lib.hid htm
      clear hks htm
      go_wp2_with fail
      refine (markLineS_law (.slice s.a s.n s.cap) vs[k].lines (l + 1) lo _ HVO.out.2.1 HTM.out (by omega) (by omega)).mono ?_
      rintro e w2 ⟨rfl, ho2, hg2⟩
      obtain ⟨r1, r2⟩ := sheet_set P1.out P2.out k _ _ HSK.out HVK.out (mkLineS vs[k].lines (l + 1)) ho2 hg2
      have HR1 := Lib.hid r1
      have HR2 : Hid (VAll w2 lo hi sk2 (mkd (mvF vs m) vs (k + 1))) := Lib.hid (by
        rw [List.set_set] at r2
        have e : (⟨l, mkLineS vs[k].lines (l + 1)⟩ : Ver) = mvF vs m k := by rw [mvF_at vs m k hlt, HL.out]
        rw [show (⟨(⟨l, vs[k].lines⟩ : Ver).parent, mkLineS vs[k].lines (l + 1)⟩ : Ver) = mvF vs m k from e, mkd_succ (mvF vs m) vs k hlt] at r2
        exact r2)
      have hsz := HSP.out.size
      have HS2 : Hid (Span lo hi w w2) := Lib.hid ((HSP.out.trans (Span.of_grown P3.out (by omega) (by intro j hj; cases hj; exact ⟨hbg, hgh⟩))).trans (Span.of_grown hg2 (by have := P3.out.size; omega) (by intro j hj; exact ⟨(World.ownsRow.lt HVO.out.2.1 j hj).1, HVO.out.2.2 j hj⟩)))
      have HLL := Lib.hid (mvAt_succ vs m k hlt)
      clear r1 r2 ho2 hg2 HVO P1 P2 P3 HSK HVK HSP
      go_wp2
      go_roundg (vs.length - (k + 1))
      case measure => omega
      case rel => exact ⟨k + 1, _, sk2, by omega, rfl, by go_num, rfl, Lib.hid (by rw [HLL.out, HL.out]; simp only [cntLineS]; omega), HR1, HLN, HR2, HS2⟩
    · obtain rfl : k = vs.length := by omega
      have HVF := HV.out
      rw [mkd_all] at HVF
      have HV2 := Lib.hid HVF
      clear HVF HV
      go_wp2
      go_ret
      refine ⟨ret_int (by rw [HL.out, mvAt_all]), ⟨sk, ?_, H2.out, Nat.le_trans h3 HSP.out.size, by rw [HN.out, mkVersionS_len], HV2.out⟩, HSP.out⟩
      have h := HO.out
      exact h
set_option maxHeartbeats 2000000 in
set_option maxRecDepth 10000 in
theorem heldVersionS_law (v : Value) (vs : List Ver) (m : Int) (w : World) (hv : RdV w v (mkVersionS vs m)) (hn : totV vs ≤ 4000000) (hnl : ∀ x ∈ vs, x.lines.length ≤ 1048576) (hm0 : 1 ≤ m) (hm1 : m ≤ 100000000000) :
    Calls Try.prog 33 #[v, .int .i64 m] w fun e w' => e = .returned (.int .i64 (m + (cntVersionS vs : Nat))) ∧ Below w.heap.size w w' := by
  have htl := totV_len vs
  have HNL := Lib.hid hnl
  have HCL : Hid (∀ k, cntVersionS (vs.take k) ≤ 8000000) := Lib.hid (fun k => by have := cnt_take_le vs k; have := cntVersionS_tot vs; omega)
  obtain ⟨A, cap, e0, _, _, hc⟩ := hv.shape
  rw [mkVersionS_len] at e0
  subst e0
  clear hv hnl
  go_enter Try.func33, Try.ntmps33
  go_wp2
  go_loopg [5, 1] vs.length (fun gi i q wr => ∃ (k : Nat) (l : Int), k ≤ vs.length ∧ gi = vs.length - k ∧ i = .int .i64 k ∧ q = .int .i64 l ∧ Hid (l = mvAt vs m k) ∧ Below w.heap.size w wr ∧ w.heap.size ≤ wr.heap.size)
  case atStart => exact ⟨0, m, Nat.zero_le _, rfl, rfl, rfl, Lib.hid (by simp [mvAt, cntVersionS]), Below.refl _ _, Nat.le_refl _⟩
  case round =>
    obtain ⟨k, l, hk, rfl, rfl, rfl, HL, hb, hs⟩ := hrel
    have hl := HL.out
    have hcl := HCL.out k
    have hl1 : 1 ≤ l := by unfold mvAt at hl; omega
    have hl2 : l ≤ 200000000000 := by unfold mvAt at hl; omega
    clear hl hcl
    by_cases hlt : k < vs.length
    · have hlt2 : k < (mkVersionS vs m).length := by rw [mkVersionS_len]; exact hlt
      obtain ⟨b, off, rfl, hbl, hcell⟩ := hc (by omega)
      obtain ⟨a, c, hc0, hc1, hsl⟩ := hcell k hlt2
      have hat : (mkVersionS vs m)[k] = ⟨l, mkLineS vs[k].lines (l + 1)⟩ := by rw [HL.out, ← mvF_at vs m k hlt]; exact mkA_at _ _ k hlt2
      rw [hat] at hc0 hc1 hsl
      simp only [mkLineS_len] at hc0 hc1 hsl
      have c0 := (hb.cell (p := ⟨b, off + k * 2, none⟩) hbl).trans hc0
      have c1 := (hb.cell (p := ⟨b, off + k * 2 + 1, none⟩) hbl).trans hc1
      have HSL := Lib.hid (hsl.below hb)
      have HB := Lib.hid hb
      have HTM := Lib.hid (HNL.out _ (List.getElem_mem hlt))
      clear hc hcell hat hlt2 hc0 hc1 hsl hb
      go_wp2_with fail
      refine (heldLineS_law (.slice a vs[k].lines.length c) vs[k].lines (l + 1) wr HSL.out HTM.out (by omega) (by omega)).mono ?_
      rintro e w2 ⟨rfl, hb2⟩
      have hb3 := below_step2 HB.out hb2 hs
      have hs3 := hb3.size
      have HLL := Lib.hid (mvAt_succ vs m k hlt)
      have hnn : ¬ (l + 1 + ((cntLineS vs[k].lines : Nat) : Int) < 0) := by omega
      clear hb2
      go_wp2
      go_roundg (vs.length - (k + 1))
      case measure => omega
      case rel => exact ⟨k + 1, _, by omega, rfl, by go_num, rfl, Lib.hid (by rw [HLL.out, HL.out]; simp only [cntLineS]; omega), hb3, hs3⟩
    · obtain rfl : k = vs.length := by omega
      have HB := Lib.hid hb
      clear hb
      go_wp2
      go_ret
      exact ⟨ret_int (by rw [HL.out, mvAt_all]), HB.out⟩
end Go.Proofs.Ytklllcehndfcpaa
