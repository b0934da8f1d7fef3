/- Contracts of HeadsOf (chapter 29). No statement of the seat is proved here. -/
import Derived.Test.YtklllcehndfcpaaWay
namespace Go.Proofs.Ytklllcehndfcpaa
open Go.RowKit

/-- no version has this one as its parent -/
def headB (vs : List Ver) (v : Nat) : Bool := vs.all (fun x => x.parent != (v : Int))
def headsL (vs : List Ver) (k : Nat) : List Int := ((List.range k).filter (headB vs)).map (fun (i : Nat) => (i : Int))
theorem headsL_len (vs : List Ver) (k : Nat) : (headsL vs k).length ≤ k := by
  unfold headsL
  rw [List.length_map]
  have := List.length_filter_le (headB vs) (List.range k)
  simpa using this
theorem headsL_yes {vs : List Ver} {k : Nat} (h : headB vs k = true) : headsL vs (k + 1) = headsL vs k ++ [(k : Int)] := by
  unfold headsL
  rw [List.range_succ, List.filter_append]
  simp [h]
theorem headsL_no {vs : List Ver} {k : Nat} (h : headB vs k = false) : headsL vs (k + 1) = headsL vs k := by
  unfold headsL
  rw [List.range_succ, List.filter_append]
  simp [h]
def HeadsOf_r (vs : List Ver) : List Int × Int := if versB vs then (headsL vs vs.length, 0) else ([], 1)
theorem Heads_1 {vs : List Ver} (h : versB vs = false) : HeadsOf_r vs = ([], 1) := by unfold HeadsOf_r; rw [h]; rfl
theorem Heads_0 {vs : List Ver} (h : versB vs = true) : HeadsOf_r vs = (headsL vs vs.length, 0) := by unfold HeadsOf_r; rw [h]; rfl
theorem HeadsOf_tot (vs : List Ver) (_ : totV vs ≤ 1048576) : (HeadsOf_r vs).1.length ≤ 1048576 := by
  rcases h : versB vs
  · rw [Heads_1 h]; simp
  · rw [Heads_0 h]
    have := versB_n h
    have := headsL_len vs vs.length
    simp only
    omega
set_option maxHeartbeats 4000000 in
set_option maxRecDepth 10000 in
theorem sHeadsOf_law (v : Value) (vs : List Ver) (w : World) (hv : RdV w v vs) (_ : totV vs ≤ 1048576) (hq : ∀ x ∈ vs, okVer x) :
    Calls Try.prog 19 #[v] w fun e w' => ∃ u, e = .returned (.tuple #[u, .int .i64 (HeadsOf_r vs).2]) ∧ Own eI w' w.heap.size 2 u (HeadsOf_r vs).1 ∧ Below w.heap.size w w' := by
  have HR := Lib.hid hv
  obtain ⟨A, cap, rfl, _, hm, _⟩ := hv.shape
  clear hv
  go_enter Try.func19, Try.ntmps19
  go_wp2_with fail
  refine (code_any _ vs 0 0 w HR.out hq).mono ?_
  rintro e w2 ⟨rfl, hb⟩
  have HB := Lib.hid hb
  clear hb
  rcases h1 : versB vs
  · have HX := Lib.hid (Heads_1 h1)
    rw [code1 h1]
    clear h1
    go_wp2
    go_ret2
    rw [HX.out]
    exact ⟨_, rfl, Own.nil_ _ _ _ _, HB.out⟩
  obtain ⟨l1, l20⟩ := versB_n h1
  have HX := Lib.hid (Heads_0 h1)
  rw [code0 h1 (code_same (isVerF_iff.2 ⟨by omega, by omega⟩))]
  clear h1
  obtain ⟨A', cap', e, _, _, hc⟩ := HR.out.shape
  cases e
  obtain ⟨b, off, rfl, hbl, hcell⟩ := hc (by omega)
  have HC := Lib.hid hcell
  have hsw := HB.out.size
  have HO0 : Hid (Own eI (w2.alloc (.cells #[] 2)) w.heap.size 2 (.slice (some ⟨w2.heap.size, 0, none⟩) 0 0) (headsL vs 0)) := Lib.hid (Own.empty _ _ _ _ hsw)
  have HB0 : Hid (Below w.heap.size w (w2.alloc (.cells #[] 2))) := Lib.hid (HB.out.alloc hsw _)
  have hs0 : w.heap.size ≤ (w2.alloc (.cells #[] 2)).heap.size := by simp; omega
  have HS0 := Lib.hid hs0
  clear hc hcell HR hs0 HB
  go_wp2
  go_loopg [5, 6] vs.length (fun gi u i wr => ∃ k : Nat, k ≤ vs.length ∧ gi = vs.length - k ∧ i = .int .i64 k ∧ Hid (Own eI wr w.heap.size 2 u (headsL vs k)) ∧ Hid (Below w.heap.size w wr) ∧ w.heap.size ≤ wr.heap.size)
  case atStart => exact ⟨0, Nat.zero_le _, rfl, rfl, HO0, HB0, HS0.out⟩
  case round =>
    obtain ⟨k, hk, rfl, rfl, HO, HBB, hs⟩ := hrel
    clear HO0 HB0 HS0
    by_cases hlt : k < vs.length
    · go_wp2
      go_loop [8, 7] (fun i h => ∃ j : Nat, j ≤ vs.length ∧ i = .int .i64 j ∧ h = .bool ((vs.take j).all (fun x => x.parent != (k : Int)))) (fun i _ => vs.length - (intOf i).toNat)
      case atStart => exact ⟨0, Nat.zero_le _, rfl, rfl⟩
      case round =>
        obtain ⟨j, hj, rfl, rfl⟩ := hrel
        by_cases hjl : j < vs.length
        · obtain ⟨a, c, hd0, _, _⟩ := HC.out j hjl
          have d0 := (HBB.out.cell (p := ⟨b, off + j * 2, none⟩) hbl).trans hd0
          have HS : Hid ((vs.take (j + 1)).all (fun x => x.parent != (k : Int)) = ((vs.take j).all (fun x => x.parent != (k : Int)) && (vs[j].parent != (k : Int)))) := Lib.hid (by rw [List.take_succ_eq_append_getElem hjl, List.all_append]; simp)
          clear hd0
          generalize (vs.take j).all (fun x => x.parent != (k : Int)) = bO at *
          generalize vs[j].parent = p at *
          rcases bO
          · go_wp2
            go_round
            case rel => exact ⟨j + 1, by omega, by go_num, val_bool (by rw [HS.out, Bool.false_and])⟩
            case measure => simp [intOf]; omega
          · go_wp2
            go_round
            case rel => exact ⟨j + 1, by omega, by go_num, val_bool (by rw [HS.out, Bool.true_and])⟩
            case measure => simp [intOf]; omega
        · obtain rfl : j = vs.length := by omega
          have HE : Hid ((vs.take vs.length).all (fun x => x.parent != (k : Int)) = headB vs k) := Lib.hid (by rw [List.take_of_length_le (Nat.le_refl _)]; rfl)
          generalize (vs.take vs.length).all (fun x => x.parent != (k : Int)) = bb at *
          rcases bb
          · have HL := Lib.hid (headsL_no HE.out.symm)
            go_wp2
            go_roundg (vs.length - (k + 1))
            case measure => omega
            case rel => exact ⟨k + 1, by omega, rfl, by go_num, (by rw [HL.out]; exact HO), HBB, hs⟩
          · have HL := Lib.hid (headsL_yes HE.out.symm)
            have hxl : (headsL vs k).length ≤ 1000000000 := by have := headsL_len vs k; omega
            go_wp2_with (at_builtin; refine wpList_app eI rfl _ _ 34 (by rfl) 2 (.int .i64 0) 8 Try.underlying34 info_i64 rfl (by decide) (by decide) w.heap.size _ (headsL vs k) (by rfl) (by exact HO.out) (by exact hxl) (by exact hs) (k : Int) _ (by rfl) _ (by rfl) (by rfl) ?_)
            intro v' w' hown' hbw' hg' hor' hs'
            have HBK : Hid (Below w.heap.size w w') := Lib.hid (HBB.out.trans hbw')
            have hsN : w.heap.size ≤ w'.heap.size := Nat.le_trans hs (Nat.le_of_lt hs')
            have HO2 : Hid (Own eI w' w.heap.size 2 v' (headsL vs (k + 1))) := Lib.hid (by rw [HL.out]; exact hown')
            clear hown' hbw' hg' hor' hs' HO HBB
            go_wp2
            go_roundg (vs.length - (k + 1))
            case measure => omega
            case rel => exact ⟨k + 1, by omega, rfl, by go_num, HO2, HBK, hsN⟩
    · obtain rfl : k = vs.length := by omega
      go_wp2
      go_ret2
      rw [HX.out]
      exact ⟨_, rfl, HO.out, HBB.out⟩
def eBo : Enc Bool := ⟨fun x => [.bool x], 1, fun _ => rfl, fun x u hu => by simp at hu; subst hu; rfl⟩
theorem eBo_all (xs : List Bool) : eBo.all xs = xs.map Value.bool := by
  induction xs with
  | nil => rfl
  | cons x xs ih => simp only [Enc.all, eBo, List.flatMap_cons, List.map_cons] at *; rw [ih]; rfl
theorem info_bo : (Try.prog.info? 4).map (fun i => (i.zero, i.size, i.bytes)) = some (some (.bool false), 1, 1) := by kernel_rfl
theorem Own.setB {w : World} {base g n cap : Nat} {xs : List Bool} (h : Own eBo w base 4 (.slice (some ⟨g, 0, none⟩) n cap) xs) (k : Nat) (x : Bool) :
    Own eBo (w.setCell ⟨g, k, none⟩ (.bool x)) base 4 (.slice (some ⟨g, 0, none⟩) n cap) (xs.set k x) ∧ w.grownBy (w.setCell ⟨g, k, none⟩ (.bool x)) (some g) := by
  obtain rfl := h.row
  have h0 : w.ownsRow base 4 1 (.slice (some ⟨g, 0, none⟩) xs.length cap) xs.length (xs.map Value.bool) := by have h := h; unfold Own at h; rw [eBo_all] at h; exact h
  obtain ⟨h1, h2⟩ := h0.stored k (.bool x)
  refine ⟨?_, h2⟩
  unfold Own
  rw [eBo_all, List.length_set, List.map_set]
  exact h1
theorem Own.cellB {w : World} {base g n cap : Nat} {xs : List Bool} (h : Own eBo w base 4 (.slice (some ⟨g, 0, none⟩) n cap) xs) (k : Nat) (hk : k < xs.length) : w.cell? ⟨g, k, none⟩ = some (.bool xs[k]) ∧ w.frozen? ⟨g, k, none⟩ = false := by
  obtain rfl := h.row
  have h0 : w.ownsRow base 4 1 (.slice (some ⟨g, 0, none⟩) xs.length cap) xs.length (xs.map Value.bool) := by have h := h; unfold Own at h; rw [eBo_all] at h; exact h
  refine ⟨?_, h0.frozenAt k⟩
  rw [h0.cellAt k (by omega)]
  simp [List.getElem?_eq_getElem hk]
def rowP (vs : List Ver) (k : Nat) : List Bool := (List.range vs.length).map (fun (i : Nat) => ((vs.drop 1).take k).any (fun x => x.parent == (i : Int)))
theorem rowP_len (vs : List Ver) (k : Nat) : (rowP vs k).length = vs.length := by simp [rowP]
theorem rowP_zero (vs : List Ver) : rowP vs 0 = List.replicate vs.length false := by
  unfold rowP
  apply List.ext_getElem
  · simp
  · intro i h1 h2; simp
theorem rowP_succ (vs : List Ver) (k r : Nat) (hk : k + 1 < vs.length) (hp : vs[k + 1].parent = (r : Int)) : (rowP vs k).set r true = rowP vs (k + 1) := by
  apply List.ext_getElem
  · simp [rowP]
  · intro i h1 h2
    have hi : i < vs.length := by simpa [rowP] using h2
    rw [List.getElem_set]
    simp only [rowP, List.getElem_map, List.getElem_range]
    have hd : k < (vs.drop 1).length := by simp; omega
    rw [List.take_succ_eq_append_getElem hd, List.any_append]
    have e : (vs.drop 1)[k] = vs[k + 1] := by rw [List.getElem_drop]; congr 1; omega
    rw [e]
    simp only [List.any_cons, List.any_nil, Bool.or_false, hp]
    by_cases h : r = i
    · subst h; simp
    · rw [if_neg h]
      have : ((r : Int) == (i : Int)) = false := by rw [beq_eq_false_iff_ne]; omega
      rw [this, Bool.or_false]
theorem rowP_head {vs : List Ver} (h : versB vs = true) {i : Nat} (hi : i < (rowP vs (vs.length - 1)).length) : (rowP vs (vs.length - 1))[i] = !headB vs i := by
  obtain ⟨l1, _⟩ := versB_n h
  simp only [rowP, List.getElem_map, List.getElem_range]
  rw [List.take_of_length_le (by simp)]
  unfold headB
  match vs, l1, h with
  | x :: xs, _, h =>
    have hp := (versB_par h (k := 0) (by simp)).2.2.2 rfl
    simp only [List.getElem_cons_zero] at hp
    simp only [List.drop_succ_cons, List.drop_zero, List.all_cons, hp]
    have e : ((-1 : Int) != (i : Int)) = true := by rw [bne_iff_ne]; omega
    rw [e, Bool.true_and]
    rw [← Bool.not_not (b := xs.any _), List.not_any_eq_all_not]
    rfl
set_option maxHeartbeats 4000000 in
set_option maxRecDepth 10000 in
theorem iHeadsOf_law (v : Value) (vs : List Ver) (w : World) (hv : RdV w v vs) (_ : totV vs ≤ 1048576) (hq : ∀ x ∈ vs, okVer x) :
    Calls Try.prog 20 #[v] w fun e w' => ∃ u, e = .returned (.tuple #[u, .int .i64 (HeadsOf_r vs).2]) ∧ Own eI w' w.heap.size 2 u (HeadsOf_r vs).1 ∧ Below w.heap.size w w' := by
  have HR := Lib.hid hv
  obtain ⟨A, cap, rfl, hcap, hm, _⟩ := hv.shape
  obtain ⟨i0, hi, hz0, hz1, hz2⟩ := info_parts info_bo
  clear hv
  go_enter Try.func20, Try.ntmps20
  go_wp2_with fail
  refine (iAreVersions_any _ vs w HR.out hq).mono ?_
  rintro e w2 ⟨rfl, hb⟩
  have HB := Lib.hid hb
  clear hb
  rcases h1 : versB vs
  · have HX := Lib.hid (Heads_1 h1)
    clear h1
    go_wp2
    go_ret2
    rw [HX.out]
    exact ⟨_, rfl, Own.nil_ _ _ _ _, HB.out⟩
  obtain ⟨l1, l20⟩ := versB_n h1
  have HX := Lib.hid (Heads_0 h1)
  have HV := Lib.hid h1
  clear h1
  obtain ⟨A', cap', e, _, _, hc⟩ := HR.out.shape
  cases e
  obtain ⟨b, off, rfl, hbl, hcell⟩ := hc (by omega)
  have HC := Lib.hid hcell
  have hsw := HB.out.size
  have HCAP := Lib.hid hcap
  clear hc hcell HR hcap
  go_wp2_with (at_make; refine wpList_make_full _ rfl _ _ 66 rfl w2.heap.size 4 i0 (.bool false) 1 Try.underlying66 hi hz0 hz1 .i64 .i64 _ _ vs.length rfl rfl rfl rfl ?c1 ?c2 (Nat.le_refl _) ?_)
  case c1 => rw [hz2]; omega
  case c2 => unfold maxLen; omega
  intro w3 hown hgrow
  have hb3 : Below w2.heap.size w2 w3 := (Below.refl _ _).grown hgrow (Nat.le_refl _) (by simp)
  have hs3 : w2.heap.size < w3.heap.size := (hown.lt _ rfl).2
  have HB3 := Lib.hid (below_step2 HB.out hb3 hsw)
  have HO0 : Hid (Own eBo w3 w2.heap.size 4 (.slice (some ⟨w2.heap.size, 0, none⟩) vs.length vs.length) (rowP vs 0)) := Lib.hid (by
    rw [rowP_zero]
    exact Own.made eBo false (by decide) (by simpa [eBo, Value.cells] using hown))
  have hcap1 : 1 ≤ cap := by have := HCAP.out; omega
  clear hown hgrow hb3 HB
  go_wp2
  · go_loopg [19] (vs.length - 1) (fun gi i wr => ∃ k : Nat, k ≤ vs.length - 1 ∧ gi = vs.length - 1 - k ∧ i = .int .i64 k ∧ Hid (Own eBo wr w2.heap.size 4 (.slice (some ⟨w2.heap.size, 0, none⟩) vs.length vs.length) (rowP vs k)) ∧ Hid (Below w.heap.size w wr) ∧ w2.heap.size < wr.heap.size)
    case atStart => exact ⟨0, Nat.zero_le _, rfl, rfl, HO0, HB3, hs3⟩
    case round =>
      obtain ⟨k, hk, rfl, rfl, HO, HB2, hs⟩ := hrel
      clear HO0 HB3 hs3
      obtain rfl : k = vs.length - 1 := by omega
      have HOF : Hid (Own eBo wr w2.heap.size 4 (.slice (some ⟨w2.heap.size, 0, none⟩) vs.length vs.length) (rowP vs (vs.length - 1))) := HO
      have HRH : Hid (∀ i (hi : i < (rowP vs (vs.length - 1)).length), (rowP vs (vs.length - 1))[i] = !headB vs i) := Lib.hid (fun i hi => rowP_head HV.out hi)
      have HLEN := Lib.hid (rowP_len vs (vs.length - 1))
      clear HO
      obtain ⟨wA, hwA⟩ : ∃ x, x = wr := ⟨_, rfl⟩
      subst hwA
      have hsA : w.heap.size ≤ wA.heap.size := by omega
      have HO1 : Hid (Own eI wA wA.heap.size 2 (.slice none 0 0) (headsL vs 0)) := Lib.hid (Own.nil_ _ _ _ _)
      have HBA : Hid (Below wA.heap.size wA wA) := Lib.hid (Below.refl _ _)
      generalize rowP vs (vs.length - 1) = R at *
      go_wp2
      go_loopg [7, 30] vs.length (fun gi u i wr => ∃ k : Nat, k ≤ vs.length ∧ gi = vs.length - k ∧ i = .int .i64 k ∧ Hid (Own eI wr wA.heap.size 2 u (headsL vs k)) ∧ Hid (Below wA.heap.size wA wr) ∧ wA.heap.size ≤ wr.heap.size)
      case atStart => exact ⟨0, Nat.zero_le _, rfl, rfl, HO1, HBA, Nat.le_refl _⟩
      case round =>
        obtain ⟨k, hk, rfl, rfl, HO, HBQ, hsq⟩ := hrel
        clear HO1 HBA
        by_cases hlt : k < vs.length
        · have hkR : k < R.length := by rw [HLEN.out]; exact hlt
          have hck : wr.cell? ⟨w2.heap.size, k, none⟩ = some (.bool R[k]) := (HBQ.out.cell (p := ⟨w2.heap.size, k, none⟩) (by simp; omega)).trans (HOF.out.cellB k hkR).1
          rw [HRH.out k hkR] at hck
          clear hkR
          rcases hh : headB vs k
          · have HL := Lib.hid (headsL_no hh)
            rw [hh] at hck
            clear hh
            go_wp2
            go_roundg (vs.length - (k + 1))
            case measure => omega
            case rel => exact ⟨k + 1, by omega, rfl, by go_num, (by rw [HL.out]; exact HO), HBQ, hsq⟩
          · have HL := Lib.hid (headsL_yes hh)
            rw [hh] at hck
            clear hh
            have hxl : (headsL vs k).length ≤ 1000000000 := by have := headsL_len vs k; omega
            go_wp2_with (at_builtin; refine wpList_app eI rfl _ _ 34 (by rfl) 2 (.int .i64 0) 8 Try.underlying34 info_i64 rfl (by decide) (by decide) wA.heap.size _ (headsL vs k) (by rfl) (by exact HO.out) (by exact hxl) (by exact hsq) (k : Int) _ (by rfl) _ (by rfl) (by rfl) ?_)
            intro v' w' hown' hbw' hg' hor' hs'
            have HBK : Hid (Below wA.heap.size wA w') := Lib.hid (HBQ.out.trans hbw')
            have hsN : wA.heap.size ≤ w'.heap.size := Nat.le_trans hsq (Nat.le_of_lt hs')
            have HO2 : Hid (Own eI w' wA.heap.size 2 v' (headsL vs (k + 1))) := Lib.hid (by rw [HL.out]; exact hown')
            clear hown' hbw' hg' hor' hs' HO HBQ hck
            go_wp2
            go_roundg (vs.length - (k + 1))
            case measure => omega
            case rel => exact ⟨k + 1, by omega, rfl, by go_num, HO2, HBK, hsN⟩
        · obtain rfl : k = vs.length := by omega
          go_wp2
          go_ret2
          rw [HX.out]
          exact ⟨_, rfl, HO.out.mono hsA, HB2.out.trans (HBQ.out.mono hsA)⟩
  · go_loopg [19] (vs.length - 1) (fun gi i wr => ∃ k : Nat, k ≤ vs.length - 1 ∧ gi = vs.length - 1 - k ∧ i = .int .i64 k ∧ Hid (Own eBo wr w2.heap.size 4 (.slice (some ⟨w2.heap.size, 0, none⟩) vs.length vs.length) (rowP vs k)) ∧ Hid (Below w.heap.size w wr) ∧ w2.heap.size < wr.heap.size)
    case atStart => exact ⟨0, Nat.zero_le _, rfl, rfl, HO0, HB3, hs3⟩
    case round =>
      obtain ⟨k, hk, rfl, rfl, HO, HB2, hs⟩ := hrel
      clear HO0 HB3 hs3
      by_cases hlt : k < vs.length - 1
      · have hk1 : k + 1 < vs.length := by omega
        obtain ⟨a, c, hd0, hd1, _⟩ := HC.out (k + 1) hk1
        have e2 : off + (k + 1) * 2 = off + 2 + k * 2 := by omega
        rw [e2] at hd0 hd1
        have d0 := (HB2.out.cell (p := ⟨b, off + 2 + k * 2, none⟩) hbl).trans hd0
        have d1 := (HB2.out.cell (p := ⟨b, off + 2 + k * 2 + 1, none⟩) hbl).trans hd1
        have hpr := versB_par HV.out hk1
        obtain ⟨r, hr⟩ := Int.eq_ofNat_of_zero_le (hpr.2.2.1 (by omega))
        have HRS := Lib.hid (rowP_succ vs k r hk1 hr)
        have hrl : r < vs.length := by omega
        rw [hr] at d0
        obtain ⟨hcr, hfr⟩ := HO.out.cellB r (by rw [rowP_len]; exact hrl)
        have HST := Lib.hid ((HO.out.setB r true).1.alloc (.cells #[.int .i64 (r : Int), .slice a vs[k + 1].lines.length c] 58))
        have HBN := Lib.hid ((HB2.out.setCell (p := ⟨w2.heap.size, r, none⟩) hsw (.bool true)).alloc (by simp; omega) (.cells #[.int .i64 (r : Int), .slice a vs[k + 1].lines.length c] 58))
        clear hd0 hd1 hpr hr HO HB2 e2
        go_wp2
        go_roundg (vs.length - 1 - (k + 1))
        case measure => omega
        case rel => exact ⟨k + 1, by omega, rfl, by go_num, Lib.hid (by rw [← HRS.out]; exact HST.out), HBN, by simp; omega⟩
      obtain rfl : k = vs.length - 1 := by omega
      have HOF : Hid (Own eBo wr w2.heap.size 4 (.slice (some ⟨w2.heap.size, 0, none⟩) vs.length vs.length) (rowP vs (vs.length - 1))) := HO
      have HRH : Hid (∀ i (hi : i < (rowP vs (vs.length - 1)).length), (rowP vs (vs.length - 1))[i] = !headB vs i) := Lib.hid (fun i hi => rowP_head HV.out hi)
      have HLEN := Lib.hid (rowP_len vs (vs.length - 1))
      clear HO
      obtain ⟨wA, hwA⟩ : ∃ x, x = wr := ⟨_, rfl⟩
      subst hwA
      have hsA : w.heap.size ≤ wA.heap.size := by omega
      have HO1 : Hid (Own eI wA wA.heap.size 2 (.slice none 0 0) (headsL vs 0)) := Lib.hid (Own.nil_ _ _ _ _)
      have HBA : Hid (Below wA.heap.size wA wA) := Lib.hid (Below.refl _ _)
      generalize rowP vs (vs.length - 1) = R at *
      go_wp2
      go_loopg [7, 30] vs.length (fun gi u i wr => ∃ k : Nat, k ≤ vs.length ∧ gi = vs.length - k ∧ i = .int .i64 k ∧ Hid (Own eI wr wA.heap.size 2 u (headsL vs k)) ∧ Hid (Below wA.heap.size wA wr) ∧ wA.heap.size ≤ wr.heap.size)
      case atStart => exact ⟨0, Nat.zero_le _, rfl, rfl, HO1, HBA, Nat.le_refl _⟩
      case round =>
        obtain ⟨k, hk, rfl, rfl, HO, HBQ, hsq⟩ := hrel
        clear HO1 HBA
        by_cases hlt : k < vs.length
        · have hkR : k < R.length := by rw [HLEN.out]; exact hlt
          have hck : wr.cell? ⟨w2.heap.size, k, none⟩ = some (.bool R[k]) := (HBQ.out.cell (p := ⟨w2.heap.size, k, none⟩) (by simp; omega)).trans (HOF.out.cellB k hkR).1
          rw [HRH.out k hkR] at hck
          clear hkR
          rcases hh : headB vs k
          · have HL := Lib.hid (headsL_no hh)
            rw [hh] at hck
            clear hh
            go_wp2
            go_roundg (vs.length - (k + 1))
            case measure => omega
            case rel => exact ⟨k + 1, by omega, rfl, by go_num, (by rw [HL.out]; exact HO), HBQ, hsq⟩
          · have HL := Lib.hid (headsL_yes hh)
            rw [hh] at hck
            clear hh
            have hxl : (headsL vs k).length ≤ 1000000000 := by have := headsL_len vs k; omega
            go_wp2_with (at_builtin; refine wpList_app eI rfl _ _ 34 (by rfl) 2 (.int .i64 0) 8 Try.underlying34 info_i64 rfl (by decide) (by decide) wA.heap.size _ (headsL vs k) (by rfl) (by exact HO.out) (by exact hxl) (by exact hsq) (k : Int) _ (by rfl) _ (by rfl) (by rfl) ?_)
            intro v' w' hown' hbw' hg' hor' hs'
            have HBK : Hid (Below wA.heap.size wA w') := Lib.hid (HBQ.out.trans hbw')
            have hsN : wA.heap.size ≤ w'.heap.size := Nat.le_trans hsq (Nat.le_of_lt hs')
            have HO2 : Hid (Own eI w' wA.heap.size 2 v' (headsL vs (k + 1))) := Lib.hid (by rw [HL.out]; exact hown')
            clear hown' hbw' hg' hor' hs' HO HBQ hck
            go_wp2
            go_roundg (vs.length - (k + 1))
            case measure => omega
            case rel => exact ⟨k + 1, by omega, rfl, by go_num, HO2, HBK, hsN⟩
        · obtain rfl : k = vs.length := by omega
          go_wp2
          go_ret2
          rw [HX.out]
          exact ⟨_, rfl, HO.out.mono hsA, HB2.out.trans (HBQ.out.mono hsA)⟩
end Go.Proofs.Ytklllcehndfcpaa
