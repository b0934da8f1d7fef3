/- The contract of the program's SetValue (chapter 29). No statement of the seat is proved here. -/
import Derived.Test.YtklllcehndfcpaaSetP
namespace Go.Proofs.Ytklllcehndfcpaa
open Go.RowKit
section
variable {w2 w' : World} {lo lo2 hi : Nat} {v v' : Value} {ss : List VC} {vs : List Ver} {s : VC} {x : Ver}
/-- a version more whose sheet was laid ahead of the others -/
theorem OwnV.app3 (h1 : Own eV w2 lo2 58 v ss) (h4 : ss.length = vs.length) (h5 : VAll w2 lo2 hi ss vs) (hlo : lo ≤ lo2) (hx : s.p = x.parent) (ho : Own eLine w2 lo 72 s.sl x.lines) (hfar : ∀ j, s.sl.ownBlock = some j → j < lo2) (hn : Own eV w' lo2 58 v' (ss ++ [s])) (hg : w2.grownBy w' v.ownBlock) : OwnV w' lo w'.heap.size v' (vs ++ [x]) := by
  have hs := hg.size
  have high : ∀ (i : Nat) (t : VC), ss[i]? = some t → ∀ j, t.sl.ownBlock = some j → lo2 ≤ j := fun i t e j hj => by
    have hi' : i < ss.length := (List.getElem?_eq_some_iff.1 e).1
    exact (World.ownsRow.lt (h5.1 i t vs[i] e (by simp [show i < vs.length by omega])).2.1 j hj).1
  refine ⟨ss ++ [s], hn.mono hlo, fun k hk => (World.ownsRow.lt hn k hk).2, Nat.le_refl _, by simp [h4], fun k t y e1 e2 => ?_, fun i j t u hij e1 e2 => ?_⟩
  · rcases Nat.lt_or_ge k ss.length with hk | hk
    · rw [List.getElem?_append_left hk] at e1
      rw [List.getElem?_append_left (by omega)] at e2
      obtain ⟨r1, r2, r3⟩ := h5.1 k t y e1 e2
      exact ⟨r1, Own.kept (r2.mono hlo) hg (own_ne_cells h1 r2 ne_ver_line), fun j hj => Nat.lt_of_lt_of_le (World.ownsRow.lt r2 j hj).2 hs⟩
    · rw [List.getElem?_append_right hk] at e1
      rw [List.getElem?_append_right (by omega)] at e2
      have hk0 : k - ss.length = 0 := by
        rcases Nat.eq_zero_or_pos (k - ss.length) with h0 | h0
        · exact h0
        · rw [List.getElem?_eq_none (by simp; omega)] at e1; cases e1
      rw [hk0] at e1
      rw [show k - vs.length = 0 by omega] at e2
      simp at e1 e2
      subst e1 e2
      exact ⟨hx, Own.kept ho hg (own_ne_cells h1 ho ne_ver_line), fun j hj => Nat.lt_of_lt_of_le (World.ownsRow.lt ho j hj).2 hs⟩
  · rcases Nat.lt_or_ge j ss.length with hj | hj
    · rw [List.getElem?_append_left hj] at e2
      rw [List.getElem?_append_left (by omega)] at e1
      exact h5.2 i j t u hij e1 e2
    · rw [List.getElem?_append_right hj] at e2
      have hj0 : j - ss.length = 0 := by
        rcases Nat.eq_zero_or_pos (j - ss.length) with h0 | h0
        · exact h0
        · rw [List.getElem?_eq_none (by simp; omega)] at e2; cases e2
      rw [hj0] at e2
      simp at e2
      subst e2
      rw [List.getElem?_append_left (by omega)] at e1
      cases hb1 : t.sl.ownBlock with
      | none => exact .inl rfl
      | some b =>
        refine .inr (fun e => ?_)
        have := high i t e1 b hb1
        have := hfar b e.symm
        omega
end
set_option maxHeartbeats 8000000 in
set_option maxRecDepth 20000 in
theorem iSetValue_law (v : Value) (vs : List Ver) (n : Int) (key : ByteArray) (value : Int) (w : World) (hv : RdV w v vs) (ht : totV vs ≤ 1048576) (hq : ∀ x ∈ vs, okVer x) (_ : (Lit.int .i64 n).wf = true) (hs : key.size ≤ 1048576) (_ : (Lit.int .i64 value).wf = true) :
    Calls Try.prog 35 #[v, .int .i64 n, .string key, .int .i64 value] w fun e w' => ∃ u, e = .returned (.tuple #[u, .int .i64 (SetValue_r vs n key value).2]) ∧ OwnV w' w.heap.size w'.heap.size u (SetValue_r vs n key value).1 ∧ Below w.heap.size w w' := by
  have HR := Lib.hid hv
  have HLL := Lib.hid (lines_le ht)
  obtain ⟨A, cap, rfl, _, hm, _⟩ := hv.shape
  clear hv
  go_enter Try.func35, Try.ntmps35
  go_wp2_with fail
  refine (iAreVersions_any _ vs w HR.out hq).mono ?_
  rintro e w2 ⟨rfl, hb⟩
  have HR2 := Lib.hid (HR.out.below hb)
  have HB0W := Lib.hid hb
  clear HR hb
  have HN := Lib.hid (OwnV.nil_ w2 w.heap.size w2.heap.size (Nat.le_refl _))
  rcases h1 : versB vs
  · have HX := Lib.hid (SetV_1 (n := n) (value := value) (show (versB vs && isWord key) = false by rw [h1]; rfl))
    clear h1
    go_wp2
    go_ret2
    rw [HX.out]
    exact ⟨_, rfl, HN.out, HB0W.out⟩
  rcases h2 : isWord key
  · have HX := Lib.hid (SetV_1 (vs := vs) (n := n) (value := value) (show (versB vs && isWord key) = false by rw [h2]; simp))
    have H2 := Lib.hid h2
    clear h1 h2
    go_wp2_with (go_at_call 46; refine (iIsWord_eq (by omega) H2.out _).mono ?_; rintro e w' ⟨rfl, rfl⟩)
    go_ret2
    rw [HX.out]
    exact ⟨_, rfl, HN.out, HB0W.out⟩
  have h12 : (versB vs && isWord key) = true := by rw [h1, h2]; rfl
  have H2 := Lib.hid h2
  rcases h3 : isVerF vs n
  · have HX := Lib.hid (SetV_2 (value := value) h12 (show (isVerF vs n && inR value (-1) 1000000) = false by rw [h3]; rfl))
    have H3 := Lib.hid h3
    clear h1 h2 h3 h12
    go_wp2_with (first | (go_at_call 46; refine (iIsWord_eq (by omega) H2.out _).mono ?_; rintro e w' ⟨rfl, rfl⟩) | (go_at_call 47; refine (isVersion_eq H3.out _ _ _ hm).mono ?_; rintro e w' ⟨rfl, rfl⟩))
    go_ret2
    rw [HX.out]
    exact ⟨_, rfl, HN.out, HB0W.out⟩
  have H3 := Lib.hid h3
  by_cases hvb : value ≠ -1 ∧ inR value 0 1000000 = false
  · have h4 : inR value (-1) 1000000 = false := by have := hvb.2; rw [inR_false] at *; omega
    have HX := Lib.hid (SetV_2 h12 (show (isVerF vs n && inR value (-1) 1000000) = false by rw [h3, h4]; rfl))
    have hne : (value != -1) = true := by rw [bne_iff_ne]; exact hvb.1
    have H4 := Lib.hid hvb.2
    clear h1 h2 h3 h12 h4 hvb
    go_wp2_with (first | (go_at_call 46; refine (iIsWord_eq (by omega) H2.out _).mono ?_; rintro e w' ⟨rfl, rfl⟩) | (go_at_call 47; refine (isVersion_eq H3.out _ _ _ hm).mono ?_; rintro e w' ⟨rfl, rfl⟩) | (go_at_call 62; refine (isSheetValue_eq H4.out _).mono ?_; rintro e w' ⟨rfl, rfl⟩))
    go_ret2
    rw [HX.out]
    exact ⟨_, rfl, HN.out, HB0W.out⟩
  have h4 : inR value (-1) 1000000 = true := by
    rw [inR_iff]
    by_cases he : value = -1
    · omega
    · rcases hr : inR value 0 1000000
      · exact absurd ⟨he, hr⟩ hvb
      · rw [inR_iff] at hr; omega
  have HVB : Hid ((value != -1) = false ∨ ((value != -1) = true ∧ inR value 0 1000000 = true)) := Lib.hid (by
    by_cases he : value = -1
    · left; rw [bne_eq_false_iff_eq]; exact he
    · right; refine ⟨by rw [bne_iff_ne]; exact he, ?_⟩
      rcases hr : inR value 0 1000000
      · exact absurd ⟨he, hr⟩ hvb
      · rfl)
  obtain ⟨l1, l20⟩ := versB_n h1
  obtain ⟨n0, n1⟩ := isVerF_iff.1 h3
  obtain ⟨k, rfl⟩ := Int.eq_ofNat_of_zero_le n0
  have hlt0 : k < vs.length := by omega
  have h34 : (isVerF vs (k : Int) && inR value (-1) 1000000) = true := by rw [h3, h4]; rfl
  have hgd : (vs.getD (k : Int).toNat zVer).lines = vs[k].lines := by rw [Int.toNat_natCast, getD_at vs zVer k hlt0]
  have HX3 := Lib.hid (SetV_3 (vs := vs) (n := (k : Int)) (key := key) (value := value) h12 h34 hgd)
  have HX0 := Lib.hid (SetV_0 (vs := vs) (n := (k : Int)) (key := key) (value := value) h12 h34 hgd)
  have hls0 := HLL.out _ (List.getElem_mem hlt0)
  obtain ⟨A', cap', e, _, _, hc⟩ := HR2.out.shape
  cases e
  obtain ⟨b, off, rfl, hbl, hcell⟩ := hc (by omega)
  obtain ⟨a, c, c0, c1, hsl⟩ := hcell k hlt0
  clear h1 h2 h3 h12 h4 h34 hgd hcell hc c0 n0 hvb
  generalize vs[k].lines = ls at *
  obtain ⟨A9, cap9, e9, _, hm9, hc9⟩ := hsl.shape
  cases e9
  have HLC := Lib.hid hc9
  have HLS := Lib.hid hls0
  have HO0 : Hid (Own eLine w2 w2.heap.size 72 (.slice none 0 0) []) := Lib.hid (Own.nil_ _ _ _ _)
  have HB0 : Hid (Below w2.heap.size w2 w2) := Lib.hid (Below.refl _ _)
  have HE0 : Hid ([] ++ setG key value (ls.drop 0) (value == -1) = setF ls key value) := Lib.hid rfl
  clear hsl hls0 hc9
  rcases HVB.out with hne | ⟨hne, h4'⟩
  · clear HVB
    go_wp2_with (first | (go_at_call 46; refine (iIsWord_eq (by omega) H2.out _).mono ?_; rintro e w' ⟨rfl, rfl⟩) | (go_at_call 47; refine (isVersion_eq H3.out _ _ _ hm).mono ?_; rintro e w' ⟨rfl, rfl⟩))
    clear c1 hne
    go_loopg [10, 11, 43] ls.length (fun gi u pl i wr => ∃ (k : Nat) (p : Bool) (out : List Line), k ≤ ls.length ∧ gi = ls.length - k ∧ pl = .bool p ∧ i = .int .i64 k ∧ Hid (out ++ setG key value (ls.drop k) p = setF ls key value) ∧ Hid (out.length ≤ 2 * k) ∧ Hid (Own eLine wr w2.heap.size 72 u out) ∧ Hid (Below w2.heap.size w2 wr) ∧ w2.heap.size ≤ wr.heap.size)
    case atStart => exact ⟨0, (value == -1), [], Nat.zero_le _, rfl, rfl, rfl, HE0, Lib.hid (by simp), HO0, HB0, Nat.le_refl _⟩
    case round =>
      obtain ⟨k, p, out, hk, rfl, rfl, rfl, HE, HLN, HO, HB, hs⟩ := hrel
      clear HO0 HB0 HE0
      by_cases hlt : k < ls.length
      · obtain ⟨lb, loff, rfl, hlb, hlcell⟩ := HLC.out (by omega)
        have c0 : wr.cell? ⟨lb, loff + k * 2, none⟩ = some (.string ls[k].key) := (HB.out.cell (p := ⟨lb, loff + k * 2, none⟩) hlb).trans (by simpa [eLine, Nat.add_assoc] using hlcell k hlt 0 _ (by decide) rfl)
        have c1 : wr.cell? ⟨lb, loff + k * 2 + 1, none⟩ = some (.int .i64 ls[k].value) := (HB.out.cell (p := ⟨lb, loff + k * 2 + 1, none⟩) hlb).trans (by simpa [eLine, Nat.add_assoc] using hlcell k hlt 1 _ (by decide) rfl)
        have HST := Lib.hid (setG_step hlt HE.out)
        have HKB : Hid (k ≤ 1048576) := Lib.hid (by have := HLS.out; omega)
        clear hlcell
        generalize ls[k] = x at *
        obtain ⟨lk, lv⟩ := x
        simp only at *
        have C0 := Lib.hid c0
        have C1 := Lib.hid c1
        have GP : Hid True := Lib.hid trivial
        have HO1 := Lib.hid (HO.out.alloc (.cells #[.string lk, .int .i64 lv] 72))
        have HB1 := Lib.hid (HB.out.alloc hs (.cells #[.string lk, .int .i64 lv] 72))
        have hs1 := HB1.out.size
        have NE : Hid (some wr.heap.size ≠ u10.ownBlock) := Lib.hid (fun e => by
          have := (World.ownsRow.lt HO.out _ e.symm).2
          omega)
        have BX0 : Hid ((wr.alloc (.cells #[.string lk, .int .i64 lv] 72)).cell? ⟨wr.heap.size, 0, none⟩ = some (.string lk)) := Lib.hid ((box_new _ _ _ 0).trans rfl)
        have BX1 : Hid ((wr.alloc (.cells #[.string lk, .int .i64 lv] 72)).cell? ⟨wr.heap.size, 1, none⟩ = some (.int .i64 lv)) := Lib.hid ((box_new _ _ _ 1).trans rfl)
        rcases p
        · have g1 := GP.out
          rcases hq : Op.bytesLess key.toList lk.toList
          · rcases hr : (key.toList == lk.toList)
            · have KLE : Hid (keyLe key lk = false) := Lib.hid (by rw [keyLe_eq, hq, hr]; rfl)
              rcases he : (lk.toList == key.toList)
              · have KP : Hid (isKeyP key ⟨lk, lv⟩ = false) := Lib.hid he
                go_wp2_with (at_builtin; refine wpList_app eLine rfl _ _ 46 (by rfl) 72 (.agg #[.string ⟨#[]⟩, .int .i64 0]) 24 Try.underlying46 info_Line rfl (by decide) (by decide) w2.heap.size _ out (by rfl) (by exact HO1.out) (by exact (by have := HLN.out; have := HKB.out; omega)) (by exact hs1) ⟨lk, lv⟩ _ (by rfl) _ (by rfl) (by first | rfl | simp) ?_)
                intro v2 w2x hown2 hbw2 hg2 hor2 hs2
                have hsz := HB1.out.size
                have HE2 : Hid (out ++ [(⟨lk, lv⟩ : Line)] ++ setG key value (ls.drop (k + 1)) false = setF ls key value) := Lib.hid (by have h := HST.out; rw [KLE.out, KP.out] at h; simpa using h)
                have HL2 : Hid ((out ++ [(⟨lk, lv⟩ : Line)]).length ≤ 2 * (k + 1)) := Lib.hid (by have := HLN.out; first | omega | (simp only [List.length_append, List.length_cons, List.length_nil]; omega))
                have HON : Hid (Own eLine _ w2.heap.size 72 _ (out ++ [(⟨lk, lv⟩ : Line)])) := Lib.hid (hown2)
                have HBN := Lib.hid (HB1.out.trans hbw2)
                have hsN := HBN.out.size
                clear HE HST HLN hown2 hbw2 hg2 hor2 hs2 hsz HO HB HO1 HB1
                go_wp2
                go_roundg (ls.length - (k + 1))
                case measure => omega
                case rel => exact ⟨k + 1, false, _, by omega, rfl, rfl, by go_num, HE2, HL2, HON, HBN, hsN⟩
              · have KP : Hid (isKeyP key ⟨lk, lv⟩ = true) := Lib.hid he
                have HE2 : Hid (out ++ setG key value (ls.drop (k + 1)) false = setF ls key value) := Lib.hid (by have h := HST.out; rw [KLE.out, KP.out] at h; simpa using h)
                have HL2 : Hid ((out).length ≤ 2 * (k + 1)) := Lib.hid (by have := HLN.out; first | omega | (simp only [List.length_append, List.length_cons, List.length_nil]; omega))
                have HON : Hid (Own eLine _ w2.heap.size 72 _ (out)) := Lib.hid (HO1.out)
                have HBN := Lib.hid (HB1.out)
                have hsN := HBN.out.size
                clear HE HST HLN HO HB HO1 HB1
                go_wp2
                go_roundg (ls.length - (k + 1))
                case measure => omega
                case rel => exact ⟨k + 1, false, _, by omega, rfl, rfl, by go_num, HE2, HL2, HON, HBN, hsN⟩
            · have KLE : Hid (keyLe key lk = true) := Lib.hid (by rw [keyLe_eq, hq, hr]; rfl)
              go_wp2_with (at_builtin; refine wpList_app eLine rfl _ _ 46 (by rfl) 72 (.agg #[.string ⟨#[]⟩, .int .i64 0]) 24 Try.underlying46 info_Line rfl (by decide) (by decide) w2.heap.size _ out (by rfl) (by exact HO1.out) (by exact (by have := HLN.out; have := HKB.out; omega)) (by exact hs1) ⟨key, value⟩ _ (by rfl) _ (by rfl) (by first | rfl | simp) ?_)
              intro v1 w1x hown1 hbw1 hg1 hor1 hs1
              have z0 : w1x.cell? ⟨wr.heap.size, 0, none⟩ = some (.string lk) := (hg1.cell_far ⟨wr.heap.size, 0, none⟩ (by simp) NE.out).trans BX0.out
              have z1 : w1x.cell? ⟨wr.heap.size, 1, none⟩ = some (.int .i64 lv) := (hg1.cell_far ⟨wr.heap.size, 1, none⟩ (by simp) NE.out).trans BX1.out
              have HOA := Lib.hid hown1
              have HBA := Lib.hid (HB1.out.trans hbw1)
              have hsA := HBA.out.size
              clear hown1 hbw1 hg1 hor1 hs1
              rcases he : (lk.toList == key.toList)
              · have KP : Hid (isKeyP key ⟨lk, lv⟩ = false) := Lib.hid he
                go_wp2_with (at_builtin; refine wpList_app eLine rfl _ _ 46 (by rfl) 72 (.agg #[.string ⟨#[]⟩, .int .i64 0]) 24 Try.underlying46 info_Line rfl (by decide) (by decide) w2.heap.size _ (out ++ [(⟨key, value⟩ : Line)]) (by rfl) (by exact HOA.out) (by exact (by have := HLN.out; have := HKB.out; simp only [List.length_append, List.length_cons, List.length_nil]; omega)) (by exact hsA) ⟨lk, lv⟩ _ (by rfl) _ (by rfl) (by first | rfl | simp) ?_)
                intro v2 w2x hown2 hbw2 hg2 hor2 hs2
                have HE2 : Hid (out ++ [(⟨key, value⟩ : Line), ⟨lk, lv⟩] ++ setG key value (ls.drop (k + 1)) true = setF ls key value) := Lib.hid (by have h := HST.out; rw [KLE.out, KP.out] at h; simpa using h)
                have HL2 : Hid ((out ++ [(⟨key, value⟩ : Line), ⟨lk, lv⟩]).length ≤ 2 * (k + 1)) := Lib.hid (by have := HLN.out; first | omega | (simp only [List.length_append, List.length_cons, List.length_nil]; omega))
                have HON : Hid (Own eLine _ w2.heap.size 72 _ (out ++ [(⟨key, value⟩ : Line), ⟨lk, lv⟩])) := Lib.hid (by simpa using hown2)
                have HBN := Lib.hid (HBA.out.trans hbw2)
                have hsN := HBN.out.size
                clear HE HST HLN hown2 hbw2 hg2 hor2 hs2 HOA HBA HO HB HO1 HB1
                go_wp2
                go_roundg (ls.length - (k + 1))
                case measure => omega
                case rel => exact ⟨k + 1, true, _, by omega, rfl, rfl, by go_num, HE2, HL2, HON, HBN, hsN⟩
              · have KP : Hid (isKeyP key ⟨lk, lv⟩ = true) := Lib.hid he
                have HE2 : Hid (out ++ [(⟨key, value⟩ : Line)] ++ setG key value (ls.drop (k + 1)) true = setF ls key value) := Lib.hid (by have h := HST.out; rw [KLE.out, KP.out] at h; simpa using h)
                have HL2 : Hid ((out ++ [(⟨key, value⟩ : Line)]).length ≤ 2 * (k + 1)) := Lib.hid (by have := HLN.out; first | omega | (simp only [List.length_append, List.length_cons, List.length_nil]; omega))
                have HON : Hid (Own eLine _ w2.heap.size 72 _ (out ++ [(⟨key, value⟩ : Line)])) := Lib.hid (HOA.out)
                have HBN := Lib.hid (HBA.out)
                have hsN := HBN.out.size
                clear HE HST HLN HOA HBA HO HB HO1 HB1
                go_wp2
                go_roundg (ls.length - (k + 1))
                case measure => omega
                case rel => exact ⟨k + 1, true, _, by omega, rfl, rfl, by go_num, HE2, HL2, HON, HBN, hsN⟩
          · rcases hr : (key.toList == lk.toList)
            · have KLE : Hid (keyLe key lk = true) := Lib.hid (by rw [keyLe_eq, hq, hr]; rfl)
              go_wp2_with (at_builtin; refine wpList_app eLine rfl _ _ 46 (by rfl) 72 (.agg #[.string ⟨#[]⟩, .int .i64 0]) 24 Try.underlying46 info_Line rfl (by decide) (by decide) w2.heap.size _ out (by rfl) (by exact HO1.out) (by exact (by have := HLN.out; have := HKB.out; omega)) (by exact hs1) ⟨key, value⟩ _ (by rfl) _ (by rfl) (by first | rfl | simp) ?_)
              intro v1 w1x hown1 hbw1 hg1 hor1 hs1
              have z0 : w1x.cell? ⟨wr.heap.size, 0, none⟩ = some (.string lk) := (hg1.cell_far ⟨wr.heap.size, 0, none⟩ (by simp) NE.out).trans BX0.out
              have z1 : w1x.cell? ⟨wr.heap.size, 1, none⟩ = some (.int .i64 lv) := (hg1.cell_far ⟨wr.heap.size, 1, none⟩ (by simp) NE.out).trans BX1.out
              have HOA := Lib.hid hown1
              have HBA := Lib.hid (HB1.out.trans hbw1)
              have hsA := HBA.out.size
              clear hown1 hbw1 hg1 hor1 hs1
              rcases he : (lk.toList == key.toList)
              · have KP : Hid (isKeyP key ⟨lk, lv⟩ = false) := Lib.hid he
                go_wp2_with (at_builtin; refine wpList_app eLine rfl _ _ 46 (by rfl) 72 (.agg #[.string ⟨#[]⟩, .int .i64 0]) 24 Try.underlying46 info_Line rfl (by decide) (by decide) w2.heap.size _ (out ++ [(⟨key, value⟩ : Line)]) (by rfl) (by exact HOA.out) (by exact (by have := HLN.out; have := HKB.out; simp only [List.length_append, List.length_cons, List.length_nil]; omega)) (by exact hsA) ⟨lk, lv⟩ _ (by rfl) _ (by rfl) (by first | rfl | simp) ?_)
                intro v2 w2x hown2 hbw2 hg2 hor2 hs2
                have HE2 : Hid (out ++ [(⟨key, value⟩ : Line), ⟨lk, lv⟩] ++ setG key value (ls.drop (k + 1)) true = setF ls key value) := Lib.hid (by have h := HST.out; rw [KLE.out, KP.out] at h; simpa using h)
                have HL2 : Hid ((out ++ [(⟨key, value⟩ : Line), ⟨lk, lv⟩]).length ≤ 2 * (k + 1)) := Lib.hid (by have := HLN.out; first | omega | (simp only [List.length_append, List.length_cons, List.length_nil]; omega))
                have HON : Hid (Own eLine _ w2.heap.size 72 _ (out ++ [(⟨key, value⟩ : Line), ⟨lk, lv⟩])) := Lib.hid (by simpa using hown2)
                have HBN := Lib.hid (HBA.out.trans hbw2)
                have hsN := HBN.out.size
                clear HE HST HLN hown2 hbw2 hg2 hor2 hs2 HOA HBA HO HB HO1 HB1
                go_wp2
                go_roundg (ls.length - (k + 1))
                case measure => omega
                case rel => exact ⟨k + 1, true, _, by omega, rfl, rfl, by go_num, HE2, HL2, HON, HBN, hsN⟩
              · have KP : Hid (isKeyP key ⟨lk, lv⟩ = true) := Lib.hid he
                have HE2 : Hid (out ++ [(⟨key, value⟩ : Line)] ++ setG key value (ls.drop (k + 1)) true = setF ls key value) := Lib.hid (by have h := HST.out; rw [KLE.out, KP.out] at h; simpa using h)
                have HL2 : Hid ((out ++ [(⟨key, value⟩ : Line)]).length ≤ 2 * (k + 1)) := Lib.hid (by have := HLN.out; first | omega | (simp only [List.length_append, List.length_cons, List.length_nil]; omega))
                have HON : Hid (Own eLine _ w2.heap.size 72 _ (out ++ [(⟨key, value⟩ : Line)])) := Lib.hid (HOA.out)
                have HBN := Lib.hid (HBA.out)
                have hsN := HBN.out.size
                clear HE HST HLN HOA HBA HO HB HO1 HB1
                go_wp2
                go_roundg (ls.length - (k + 1))
                case measure => omega
                case rel => exact ⟨k + 1, true, _, by omega, rfl, rfl, by go_num, HE2, HL2, HON, HBN, hsN⟩
            · have KLE : Hid (keyLe key lk = true) := Lib.hid (by rw [keyLe_eq, hq, hr]; rfl)
              go_wp2_with (at_builtin; refine wpList_app eLine rfl _ _ 46 (by rfl) 72 (.agg #[.string ⟨#[]⟩, .int .i64 0]) 24 Try.underlying46 info_Line rfl (by decide) (by decide) w2.heap.size _ out (by rfl) (by exact HO1.out) (by exact (by have := HLN.out; have := HKB.out; omega)) (by exact hs1) ⟨key, value⟩ _ (by rfl) _ (by rfl) (by first | rfl | simp) ?_)
              intro v1 w1x hown1 hbw1 hg1 hor1 hs1
              have z0 : w1x.cell? ⟨wr.heap.size, 0, none⟩ = some (.string lk) := (hg1.cell_far ⟨wr.heap.size, 0, none⟩ (by simp) NE.out).trans BX0.out
              have z1 : w1x.cell? ⟨wr.heap.size, 1, none⟩ = some (.int .i64 lv) := (hg1.cell_far ⟨wr.heap.size, 1, none⟩ (by simp) NE.out).trans BX1.out
              have HOA := Lib.hid hown1
              have HBA := Lib.hid (HB1.out.trans hbw1)
              have hsA := HBA.out.size
              clear hown1 hbw1 hg1 hor1 hs1
              rcases he : (lk.toList == key.toList)
              · have KP : Hid (isKeyP key ⟨lk, lv⟩ = false) := Lib.hid he
                go_wp2_with (at_builtin; refine wpList_app eLine rfl _ _ 46 (by rfl) 72 (.agg #[.string ⟨#[]⟩, .int .i64 0]) 24 Try.underlying46 info_Line rfl (by decide) (by decide) w2.heap.size _ (out ++ [(⟨key, value⟩ : Line)]) (by rfl) (by exact HOA.out) (by exact (by have := HLN.out; have := HKB.out; simp only [List.length_append, List.length_cons, List.length_nil]; omega)) (by exact hsA) ⟨lk, lv⟩ _ (by rfl) _ (by rfl) (by first | rfl | simp) ?_)
                intro v2 w2x hown2 hbw2 hg2 hor2 hs2
                have HE2 : Hid (out ++ [(⟨key, value⟩ : Line), ⟨lk, lv⟩] ++ setG key value (ls.drop (k + 1)) true = setF ls key value) := Lib.hid (by have h := HST.out; rw [KLE.out, KP.out] at h; simpa using h)
                have HL2 : Hid ((out ++ [(⟨key, value⟩ : Line), ⟨lk, lv⟩]).length ≤ 2 * (k + 1)) := Lib.hid (by have := HLN.out; first | omega | (simp only [List.length_append, List.length_cons, List.length_nil]; omega))
                have HON : Hid (Own eLine _ w2.heap.size 72 _ (out ++ [(⟨key, value⟩ : Line), ⟨lk, lv⟩])) := Lib.hid (by simpa using hown2)
                have HBN := Lib.hid (HBA.out.trans hbw2)
                have hsN := HBN.out.size
                clear HE HST HLN hown2 hbw2 hg2 hor2 hs2 HOA HBA HO HB HO1 HB1
                go_wp2
                go_roundg (ls.length - (k + 1))
                case measure => omega
                case rel => exact ⟨k + 1, true, _, by omega, rfl, rfl, by go_num, HE2, HL2, HON, HBN, hsN⟩
              · have KP : Hid (isKeyP key ⟨lk, lv⟩ = true) := Lib.hid he
                have HE2 : Hid (out ++ [(⟨key, value⟩ : Line)] ++ setG key value (ls.drop (k + 1)) true = setF ls key value) := Lib.hid (by have h := HST.out; rw [KLE.out, KP.out] at h; simpa using h)
                have HL2 : Hid ((out ++ [(⟨key, value⟩ : Line)]).length ≤ 2 * (k + 1)) := Lib.hid (by have := HLN.out; first | omega | (simp only [List.length_append, List.length_cons, List.length_nil]; omega))
                have HON : Hid (Own eLine _ w2.heap.size 72 _ (out ++ [(⟨key, value⟩ : Line)])) := Lib.hid (HOA.out)
                have HBN := Lib.hid (HBA.out)
                have hsN := HBN.out.size
                clear HE HST HLN HOA HBA HO HB HO1 HB1
                go_wp2
                go_roundg (ls.length - (k + 1))
                case measure => omega
                case rel => exact ⟨k + 1, true, _, by omega, rfl, rfl, by go_num, HE2, HL2, HON, HBN, hsN⟩
        · have g1 := GP.out
          rcases he : (lk.toList == key.toList)
          · have KP : Hid (isKeyP key ⟨lk, lv⟩ = false) := Lib.hid he
            go_wp2_with (at_builtin; refine wpList_app eLine rfl _ _ 46 (by rfl) 72 (.agg #[.string ⟨#[]⟩, .int .i64 0]) 24 Try.underlying46 info_Line rfl (by decide) (by decide) w2.heap.size _ out (by rfl) (by exact HO1.out) (by exact (by have := HLN.out; have := HKB.out; omega)) (by exact hs1) ⟨lk, lv⟩ _ (by rfl) _ (by rfl) (by first | rfl | simp) ?_)
            intro v2 w2x hown2 hbw2 hg2 hor2 hs2
            have hsz := HB1.out.size
            have HE2 : Hid (out ++ [(⟨lk, lv⟩ : Line)] ++ setG key value (ls.drop (k + 1)) true = setF ls key value) := Lib.hid (by have h := HST.out; rw [KP.out] at h; simpa using h)
            have HL2 : Hid ((out ++ [(⟨lk, lv⟩ : Line)]).length ≤ 2 * (k + 1)) := Lib.hid (by have := HLN.out; first | omega | (simp only [List.length_append, List.length_cons, List.length_nil]; omega))
            have HON : Hid (Own eLine _ w2.heap.size 72 _ (out ++ [(⟨lk, lv⟩ : Line)])) := Lib.hid (hown2)
            have HBN := Lib.hid (HB1.out.trans hbw2)
            have hsN := HBN.out.size
            clear HE HST HLN hown2 hbw2 hg2 hor2 hs2 hsz HO HB HO1 HB1
            go_wp2
            go_roundg (ls.length - (k + 1))
            case measure => omega
            case rel => exact ⟨k + 1, true, _, by omega, rfl, rfl, by go_num, HE2, HL2, HON, HBN, hsN⟩
          · have KP : Hid (isKeyP key ⟨lk, lv⟩ = true) := Lib.hid he
            have HE2 : Hid (out ++ setG key value (ls.drop (k + 1)) true = setF ls key value) := Lib.hid (by have h := HST.out; rw [KP.out] at h; simpa using h)
            have HL2 : Hid ((out).length ≤ 2 * (k + 1)) := Lib.hid (by have := HLN.out; first | omega | (simp only [List.length_append, List.length_cons, List.length_nil]; omega))
            have HON : Hid (Own eLine _ w2.heap.size 72 _ (out)) := Lib.hid (HO1.out)
            have HBN := Lib.hid (HB1.out)
            have hsN := HBN.out.size
            clear HE HST HLN HO HB HO1 HB1
            go_wp2
            go_roundg (ls.length - (k + 1))
            case measure => omega
            case rel => exact ⟨k + 1, true, _, by omega, rfl, rfl, by go_num, HE2, HL2, HON, HBN, hsN⟩
      · obtain rfl : k = ls.length := by omega
        have HE1 := HE.out
        rw [List.drop_eq_nil_of_le (Nat.le_refl _)] at HE1
        have HE2 := Lib.hid HE1
        clear HE HE1
        rcases p
        · have HF : Hid (out ++ [(⟨key, value⟩ : Line)] = setF ls key value) := Lib.hid HE2.out
          have hln : out.length ≤ 1000000000 := by have := HLN.out; have := HLS.out; omega
          go_wp2_with (at_builtin; refine wpList_app eLine rfl _ _ 46 (by rfl) 72 (.agg #[.string ⟨#[]⟩, .int .i64 0]) 24 Try.underlying46 info_Line rfl (by decide) (by decide) w2.heap.size _ out (by rfl) (by exact HO.out) (by exact hln) (by exact hs) ⟨key, value⟩ _ (by rfl) _ (by rfl) (by first | rfl | simp) ?_)
          intro v2 w2x hown2 hbw2 hg2 hor2 hs2
          have HOF : Hid (Own eLine w2x w2.heap.size 72 v2 (setF ls key value)) := Lib.hid (by rw [← HF.out]; exact hown2)
          have HBF := Lib.hid (HB.out.trans hbw2)
          have hsF := HBF.out.size
          clear hown2 hbw2 hg2 hor2 hs2 HO HB HE2 HF HLN
          obtain ⟨a1, c1, rfl⟩ := slice_of HOF.out
          have HSZW := Lib.hid hsF
          have HNF := Lib.hid (OwnV.nil_ w2x w.heap.size w2x.heap.size (Nat.le_refl _))
          have HBW := Lib.hid (Below.step HB0W.out HBF.out)
          generalize setF ls key value = L at *
          by_cases h20 : vs.length = 20
          · have HX := Lib.hid (HX3.out (.inl h20))
            have hg : ((vs.length : Int) == 20) = true := by rw [beq_iff_eq]; omega
            clear h20
            go_wp2
            go_ret2
            rw [HX.out]
            exact ⟨_, rfl, HNF.out, HBW.out⟩
          have hg : ((vs.length : Int) == 20) = false := by rw [beq_eq_false_iff_ne]; omega
          by_cases h8 : 8 < L.length
          · have HX := Lib.hid (HX3.out (.inr h8))
            have h8i : (8 : Int) < (L.length : Int) := by omega
            clear h20
            go_wp2
            go_ret2
            rw [HX.out]
            exact ⟨_, rfl, HNF.out, HBW.out⟩
          have HX := Lib.hid (HX0.out (by omega))
          have h8i : ¬ (8 : Int) < (L.length : Int) := by omega
          have HRF := Lib.hid (HR2.out.below HBF.out)
          clear h20
          go_wp2_with fail
          refine (copyVersions_any _ vs w2x HRF.out l20 HLL.out).mono ?_
          rintro e w4 ⟨u, rfl, ho, hb⟩
          obtain ⟨ss, g1, g4, g5⟩ := ho.parts
          have HSS : Hid (ss.length ≤ 20) := Lib.hid (by rw [g4]; exact l20)
          have G4 := Lib.hid g4
          have G1 := Lib.hid g1
          have G5 := Lib.hid g5
          have HFAR : Hid (∀ j, (Value.slice a1 L.length c1).ownBlock = some j → j < w2x.heap.size) := Lib.hid (fun j hj => (World.ownsRow.lt HOF.out j hj).2)
          have HOF4 := Lib.hid (HOF.out.below hb)
          have HB4 := Lib.hid (Below.step HBW.out hb)
          have hs1 := hb.size
          have hsl : ss.length ≤ 1000000000 := by have := HSS.out; omega
          clear g1 g4 g5 ho hb HOF
          go_wp2_with (at_builtin; refine wpList_app eV rfl _ _ 25 (by rfl) 58 (.agg #[.int .i64 0, .slice none 0 0]) 32 Try.underlying25 info_Version rfl (by decide) (by decide) w2x.heap.size _ ss (by rfl) (by exact G1.out) (by exact hsl) (by exact hs1) ⟨(k : Int), a1, L.length, c1⟩ _ (by rfl) _ (by rfl) (by rfl) ?_)
          intro v9 w9 hown9 hbl9 hg9 hor9 hs9
          have HON : Hid (OwnV w9 w.heap.size w9.heap.size v9 (vs ++ [⟨(k : Int), L⟩])) := Lib.hid (OwnV.app3 (s := ⟨(k : Int), a1, L.length, c1⟩) (x := ⟨(k : Int), L⟩) G1.out G4.out G5.out HBW.out.size rfl (HOF4.out.mono HB0W.out.size) HFAR.out hown9 hg9)
          have HBN : Hid (Below w.heap.size w w9) := Lib.hid (HB4.out.trans (hbl9.mono HBW.out.size))
          clear hown9 hbl9 hg9 hor9 hs9
          go_wp2
          go_ret2
          rw [HX.out]
          exact ⟨_, rfl, HON.out, HBN.out⟩
        · have HF : Hid (out = setF ls key value) := Lib.hid (by have h := HE2.out; simpa [setG] using h)
          have HOF : Hid (Own eLine wr w2.heap.size 72 u10 (setF ls key value)) := Lib.hid (by rw [← HF.out]; exact HO.out)
          have HBF := HB
          have hsF := HBF.out.size
          clear HO HB HE2 HF HLN
          obtain ⟨a1, c1, rfl⟩ := slice_of HOF.out
          have HSZW := Lib.hid hsF
          have HNF := Lib.hid (OwnV.nil_ wr w.heap.size wr.heap.size (Nat.le_refl _))
          have HBW := Lib.hid (Below.step HB0W.out HBF.out)
          generalize setF ls key value = L at *
          by_cases h20 : vs.length = 20
          · have HX := Lib.hid (HX3.out (.inl h20))
            have hg : ((vs.length : Int) == 20) = true := by rw [beq_iff_eq]; omega
            clear h20
            go_wp2
            go_ret2
            rw [HX.out]
            exact ⟨_, rfl, HNF.out, HBW.out⟩
          have hg : ((vs.length : Int) == 20) = false := by rw [beq_eq_false_iff_ne]; omega
          by_cases h8 : 8 < L.length
          · have HX := Lib.hid (HX3.out (.inr h8))
            have h8i : (8 : Int) < (L.length : Int) := by omega
            clear h20
            go_wp2
            go_ret2
            rw [HX.out]
            exact ⟨_, rfl, HNF.out, HBW.out⟩
          have HX := Lib.hid (HX0.out (by omega))
          have h8i : ¬ (8 : Int) < (L.length : Int) := by omega
          have HRF := Lib.hid (HR2.out.below HBF.out)
          clear h20
          go_wp2_with fail
          refine (copyVersions_any _ vs wr HRF.out l20 HLL.out).mono ?_
          rintro e w4 ⟨u, rfl, ho, hb⟩
          obtain ⟨ss, g1, g4, g5⟩ := ho.parts
          have HSS : Hid (ss.length ≤ 20) := Lib.hid (by rw [g4]; exact l20)
          have G4 := Lib.hid g4
          have G1 := Lib.hid g1
          have G5 := Lib.hid g5
          have HFAR : Hid (∀ j, (Value.slice a1 L.length c1).ownBlock = some j → j < wr.heap.size) := Lib.hid (fun j hj => (World.ownsRow.lt HOF.out j hj).2)
          have HOF4 := Lib.hid (HOF.out.below hb)
          have HB4 := Lib.hid (Below.step HBW.out hb)
          have hs1 := hb.size
          have hsl : ss.length ≤ 1000000000 := by have := HSS.out; omega
          clear g1 g4 g5 ho hb HOF
          go_wp2_with (at_builtin; refine wpList_app eV rfl _ _ 25 (by rfl) 58 (.agg #[.int .i64 0, .slice none 0 0]) 32 Try.underlying25 info_Version rfl (by decide) (by decide) wr.heap.size _ ss (by rfl) (by exact G1.out) (by exact hsl) (by exact hs1) ⟨(k : Int), a1, L.length, c1⟩ _ (by rfl) _ (by rfl) (by rfl) ?_)
          intro v9 w9 hown9 hbl9 hg9 hor9 hs9
          have HON : Hid (OwnV w9 w.heap.size w9.heap.size v9 (vs ++ [⟨(k : Int), L⟩])) := Lib.hid (OwnV.app3 (s := ⟨(k : Int), a1, L.length, c1⟩) (x := ⟨(k : Int), L⟩) G1.out G4.out G5.out HBW.out.size rfl (HOF4.out.mono HB0W.out.size) HFAR.out hown9 hg9)
          have HBN : Hid (Below w.heap.size w w9) := Lib.hid (HB4.out.trans (hbl9.mono HBW.out.size))
          clear hown9 hbl9 hg9 hor9 hs9
          go_wp2
          go_ret2
          rw [HX.out]
          exact ⟨_, rfl, HON.out, HBN.out⟩
  · have H4 := Lib.hid h4'
    clear HVB h4'
    go_wp2_with (first | (go_at_call 46; refine (iIsWord_eq (by omega) H2.out _).mono ?_; rintro e w' ⟨rfl, rfl⟩) | (go_at_call 47; refine (isVersion_eq H3.out _ _ _ hm).mono ?_; rintro e w' ⟨rfl, rfl⟩) | (go_at_call 62; refine (isSheetValue_eq H4.out _).mono ?_; rintro e w' ⟨rfl, rfl⟩))
    clear c1 hne
    go_loopg [10, 11, 43] ls.length (fun gi u pl i wr => ∃ (k : Nat) (p : Bool) (out : List Line), k ≤ ls.length ∧ gi = ls.length - k ∧ pl = .bool p ∧ i = .int .i64 k ∧ Hid (out ++ setG key value (ls.drop k) p = setF ls key value) ∧ Hid (out.length ≤ 2 * k) ∧ Hid (Own eLine wr w2.heap.size 72 u out) ∧ Hid (Below w2.heap.size w2 wr) ∧ w2.heap.size ≤ wr.heap.size)
    case atStart => exact ⟨0, (value == -1), [], Nat.zero_le _, rfl, rfl, rfl, HE0, Lib.hid (by simp), HO0, HB0, Nat.le_refl _⟩
    case round =>
      obtain ⟨k, p, out, hk, rfl, rfl, rfl, HE, HLN, HO, HB, hs⟩ := hrel
      clear HO0 HB0 HE0
      by_cases hlt : k < ls.length
      · obtain ⟨lb, loff, rfl, hlb, hlcell⟩ := HLC.out (by omega)
        have c0 : wr.cell? ⟨lb, loff + k * 2, none⟩ = some (.string ls[k].key) := (HB.out.cell (p := ⟨lb, loff + k * 2, none⟩) hlb).trans (by simpa [eLine, Nat.add_assoc] using hlcell k hlt 0 _ (by decide) rfl)
        have c1 : wr.cell? ⟨lb, loff + k * 2 + 1, none⟩ = some (.int .i64 ls[k].value) := (HB.out.cell (p := ⟨lb, loff + k * 2 + 1, none⟩) hlb).trans (by simpa [eLine, Nat.add_assoc] using hlcell k hlt 1 _ (by decide) rfl)
        have HST := Lib.hid (setG_step hlt HE.out)
        have HKB : Hid (k ≤ 1048576) := Lib.hid (by have := HLS.out; omega)
        clear hlcell
        generalize ls[k] = x at *
        obtain ⟨lk, lv⟩ := x
        simp only at *
        have C0 := Lib.hid c0
        have C1 := Lib.hid c1
        have GP : Hid True := Lib.hid trivial
        have HO1 := Lib.hid (HO.out.alloc (.cells #[.string lk, .int .i64 lv] 72))
        have HB1 := Lib.hid (HB.out.alloc hs (.cells #[.string lk, .int .i64 lv] 72))
        have hs1 := HB1.out.size
        have NE : Hid (some wr.heap.size ≠ u10.ownBlock) := Lib.hid (fun e => by
          have := (World.ownsRow.lt HO.out _ e.symm).2
          omega)
        have BX0 : Hid ((wr.alloc (.cells #[.string lk, .int .i64 lv] 72)).cell? ⟨wr.heap.size, 0, none⟩ = some (.string lk)) := Lib.hid ((box_new _ _ _ 0).trans rfl)
        have BX1 : Hid ((wr.alloc (.cells #[.string lk, .int .i64 lv] 72)).cell? ⟨wr.heap.size, 1, none⟩ = some (.int .i64 lv)) := Lib.hid ((box_new _ _ _ 1).trans rfl)
        rcases p
        · have g1 := GP.out
          rcases hq : Op.bytesLess key.toList lk.toList
          · rcases hr : (key.toList == lk.toList)
            · have KLE : Hid (keyLe key lk = false) := Lib.hid (by rw [keyLe_eq, hq, hr]; rfl)
              rcases he : (lk.toList == key.toList)
              · have KP : Hid (isKeyP key ⟨lk, lv⟩ = false) := Lib.hid he
                go_wp2_with (at_builtin; refine wpList_app eLine rfl _ _ 46 (by rfl) 72 (.agg #[.string ⟨#[]⟩, .int .i64 0]) 24 Try.underlying46 info_Line rfl (by decide) (by decide) w2.heap.size _ out (by rfl) (by exact HO1.out) (by exact (by have := HLN.out; have := HKB.out; omega)) (by exact hs1) ⟨lk, lv⟩ _ (by rfl) _ (by rfl) (by first | rfl | simp) ?_)
                intro v2 w2x hown2 hbw2 hg2 hor2 hs2
                have hsz := HB1.out.size
                have HE2 : Hid (out ++ [(⟨lk, lv⟩ : Line)] ++ setG key value (ls.drop (k + 1)) false = setF ls key value) := Lib.hid (by have h := HST.out; rw [KLE.out, KP.out] at h; simpa using h)
                have HL2 : Hid ((out ++ [(⟨lk, lv⟩ : Line)]).length ≤ 2 * (k + 1)) := Lib.hid (by have := HLN.out; first | omega | (simp only [List.length_append, List.length_cons, List.length_nil]; omega))
                have HON : Hid (Own eLine _ w2.heap.size 72 _ (out ++ [(⟨lk, lv⟩ : Line)])) := Lib.hid (hown2)
                have HBN := Lib.hid (HB1.out.trans hbw2)
                have hsN := HBN.out.size
                clear HE HST HLN hown2 hbw2 hg2 hor2 hs2 hsz HO HB HO1 HB1
                go_wp2
                go_roundg (ls.length - (k + 1))
                case measure => omega
                case rel => exact ⟨k + 1, false, _, by omega, rfl, rfl, by go_num, HE2, HL2, HON, HBN, hsN⟩
              · have KP : Hid (isKeyP key ⟨lk, lv⟩ = true) := Lib.hid he
                have HE2 : Hid (out ++ setG key value (ls.drop (k + 1)) false = setF ls key value) := Lib.hid (by have h := HST.out; rw [KLE.out, KP.out] at h; simpa using h)
                have HL2 : Hid ((out).length ≤ 2 * (k + 1)) := Lib.hid (by have := HLN.out; first | omega | (simp only [List.length_append, List.length_cons, List.length_nil]; omega))
                have HON : Hid (Own eLine _ w2.heap.size 72 _ (out)) := Lib.hid (HO1.out)
                have HBN := Lib.hid (HB1.out)
                have hsN := HBN.out.size
                clear HE HST HLN HO HB HO1 HB1
                go_wp2
                go_roundg (ls.length - (k + 1))
                case measure => omega
                case rel => exact ⟨k + 1, false, _, by omega, rfl, rfl, by go_num, HE2, HL2, HON, HBN, hsN⟩
            · have KLE : Hid (keyLe key lk = true) := Lib.hid (by rw [keyLe_eq, hq, hr]; rfl)
              go_wp2_with (at_builtin; refine wpList_app eLine rfl _ _ 46 (by rfl) 72 (.agg #[.string ⟨#[]⟩, .int .i64 0]) 24 Try.underlying46 info_Line rfl (by decide) (by decide) w2.heap.size _ out (by rfl) (by exact HO1.out) (by exact (by have := HLN.out; have := HKB.out; omega)) (by exact hs1) ⟨key, value⟩ _ (by rfl) _ (by rfl) (by first | rfl | simp) ?_)
              intro v1 w1x hown1 hbw1 hg1 hor1 hs1
              have z0 : w1x.cell? ⟨wr.heap.size, 0, none⟩ = some (.string lk) := (hg1.cell_far ⟨wr.heap.size, 0, none⟩ (by simp) NE.out).trans BX0.out
              have z1 : w1x.cell? ⟨wr.heap.size, 1, none⟩ = some (.int .i64 lv) := (hg1.cell_far ⟨wr.heap.size, 1, none⟩ (by simp) NE.out).trans BX1.out
              have HOA := Lib.hid hown1
              have HBA := Lib.hid (HB1.out.trans hbw1)
              have hsA := HBA.out.size
              clear hown1 hbw1 hg1 hor1 hs1
              rcases he : (lk.toList == key.toList)
              · have KP : Hid (isKeyP key ⟨lk, lv⟩ = false) := Lib.hid he
                go_wp2_with (at_builtin; refine wpList_app eLine rfl _ _ 46 (by rfl) 72 (.agg #[.string ⟨#[]⟩, .int .i64 0]) 24 Try.underlying46 info_Line rfl (by decide) (by decide) w2.heap.size _ (out ++ [(⟨key, value⟩ : Line)]) (by rfl) (by exact HOA.out) (by exact (by have := HLN.out; have := HKB.out; simp only [List.length_append, List.length_cons, List.length_nil]; omega)) (by exact hsA) ⟨lk, lv⟩ _ (by rfl) _ (by rfl) (by first | rfl | simp) ?_)
                intro v2 w2x hown2 hbw2 hg2 hor2 hs2
                have HE2 : Hid (out ++ [(⟨key, value⟩ : Line), ⟨lk, lv⟩] ++ setG key value (ls.drop (k + 1)) true = setF ls key value) := Lib.hid (by have h := HST.out; rw [KLE.out, KP.out] at h; simpa using h)
                have HL2 : Hid ((out ++ [(⟨key, value⟩ : Line), ⟨lk, lv⟩]).length ≤ 2 * (k + 1)) := Lib.hid (by have := HLN.out; first | omega | (simp only [List.length_append, List.length_cons, List.length_nil]; omega))
                have HON : Hid (Own eLine _ w2.heap.size 72 _ (out ++ [(⟨key, value⟩ : Line), ⟨lk, lv⟩])) := Lib.hid (by simpa using hown2)
                have HBN := Lib.hid (HBA.out.trans hbw2)
                have hsN := HBN.out.size
                clear HE HST HLN hown2 hbw2 hg2 hor2 hs2 HOA HBA HO HB HO1 HB1
                go_wp2
                go_roundg (ls.length - (k + 1))
                case measure => omega
                case rel => exact ⟨k + 1, true, _, by omega, rfl, rfl, by go_num, HE2, HL2, HON, HBN, hsN⟩
              · have KP : Hid (isKeyP key ⟨lk, lv⟩ = true) := Lib.hid he
                have HE2 : Hid (out ++ [(⟨key, value⟩ : Line)] ++ setG key value (ls.drop (k + 1)) true = setF ls key value) := Lib.hid (by have h := HST.out; rw [KLE.out, KP.out] at h; simpa using h)
                have HL2 : Hid ((out ++ [(⟨key, value⟩ : Line)]).length ≤ 2 * (k + 1)) := Lib.hid (by have := HLN.out; first | omega | (simp only [List.length_append, List.length_cons, List.length_nil]; omega))
                have HON : Hid (Own eLine _ w2.heap.size 72 _ (out ++ [(⟨key, value⟩ : Line)])) := Lib.hid (HOA.out)
                have HBN := Lib.hid (HBA.out)
                have hsN := HBN.out.size
                clear HE HST HLN HOA HBA HO HB HO1 HB1
                go_wp2
                go_roundg (ls.length - (k + 1))
                case measure => omega
                case rel => exact ⟨k + 1, true, _, by omega, rfl, rfl, by go_num, HE2, HL2, HON, HBN, hsN⟩
          · rcases hr : (key.toList == lk.toList)
            · have KLE : Hid (keyLe key lk = true) := Lib.hid (by rw [keyLe_eq, hq, hr]; rfl)
              go_wp2_with (at_builtin; refine wpList_app eLine rfl _ _ 46 (by rfl) 72 (.agg #[.string ⟨#[]⟩, .int .i64 0]) 24 Try.underlying46 info_Line rfl (by decide) (by decide) w2.heap.size _ out (by rfl) (by exact HO1.out) (by exact (by have := HLN.out; have := HKB.out; omega)) (by exact hs1) ⟨key, value⟩ _ (by rfl) _ (by rfl) (by first | rfl | simp) ?_)
              intro v1 w1x hown1 hbw1 hg1 hor1 hs1
              have z0 : w1x.cell? ⟨wr.heap.size, 0, none⟩ = some (.string lk) := (hg1.cell_far ⟨wr.heap.size, 0, none⟩ (by simp) NE.out).trans BX0.out
              have z1 : w1x.cell? ⟨wr.heap.size, 1, none⟩ = some (.int .i64 lv) := (hg1.cell_far ⟨wr.heap.size, 1, none⟩ (by simp) NE.out).trans BX1.out
              have HOA := Lib.hid hown1
              have HBA := Lib.hid (HB1.out.trans hbw1)
              have hsA := HBA.out.size
              clear hown1 hbw1 hg1 hor1 hs1
              rcases he : (lk.toList == key.toList)
              · have KP : Hid (isKeyP key ⟨lk, lv⟩ = false) := Lib.hid he
                go_wp2_with (at_builtin; refine wpList_app eLine rfl _ _ 46 (by rfl) 72 (.agg #[.string ⟨#[]⟩, .int .i64 0]) 24 Try.underlying46 info_Line rfl (by decide) (by decide) w2.heap.size _ (out ++ [(⟨key, value⟩ : Line)]) (by rfl) (by exact HOA.out) (by exact (by have := HLN.out; have := HKB.out; simp only [List.length_append, List.length_cons, List.length_nil]; omega)) (by exact hsA) ⟨lk, lv⟩ _ (by rfl) _ (by rfl) (by first | rfl | simp) ?_)
                intro v2 w2x hown2 hbw2 hg2 hor2 hs2
                have HE2 : Hid (out ++ [(⟨key, value⟩ : Line), ⟨lk, lv⟩] ++ setG key value (ls.drop (k + 1)) true = setF ls key value) := Lib.hid (by have h := HST.out; rw [KLE.out, KP.out] at h; simpa using h)
                have HL2 : Hid ((out ++ [(⟨key, value⟩ : Line), ⟨lk, lv⟩]).length ≤ 2 * (k + 1)) := Lib.hid (by have := HLN.out; first | omega | (simp only [List.length_append, List.length_cons, List.length_nil]; omega))
                have HON : Hid (Own eLine _ w2.heap.size 72 _ (out ++ [(⟨key, value⟩ : Line), ⟨lk, lv⟩])) := Lib.hid (by simpa using hown2)
                have HBN := Lib.hid (HBA.out.trans hbw2)
                have hsN := HBN.out.size
                clear HE HST HLN hown2 hbw2 hg2 hor2 hs2 HOA HBA HO HB HO1 HB1
                go_wp2
                go_roundg (ls.length - (k + 1))
                case measure => omega
                case rel => exact ⟨k + 1, true, _, by omega, rfl, rfl, by go_num, HE2, HL2, HON, HBN, hsN⟩
              · have KP : Hid (isKeyP key ⟨lk, lv⟩ = true) := Lib.hid he
                have HE2 : Hid (out ++ [(⟨key, value⟩ : Line)] ++ setG key value (ls.drop (k + 1)) true = setF ls key value) := Lib.hid (by have h := HST.out; rw [KLE.out, KP.out] at h; simpa using h)
                have HL2 : Hid ((out ++ [(⟨key, value⟩ : Line)]).length ≤ 2 * (k + 1)) := Lib.hid (by have := HLN.out; first | omega | (simp only [List.length_append, List.length_cons, List.length_nil]; omega))
                have HON : Hid (Own eLine _ w2.heap.size 72 _ (out ++ [(⟨key, value⟩ : Line)])) := Lib.hid (HOA.out)
                have HBN := Lib.hid (HBA.out)
                have hsN := HBN.out.size
                clear HE HST HLN HOA HBA HO HB HO1 HB1
                go_wp2
                go_roundg (ls.length - (k + 1))
                case measure => omega
                case rel => exact ⟨k + 1, true, _, by omega, rfl, rfl, by go_num, HE2, HL2, HON, HBN, hsN⟩
            · have KLE : Hid (keyLe key lk = true) := Lib.hid (by rw [keyLe_eq, hq, hr]; rfl)
              go_wp2_with (at_builtin; refine wpList_app eLine rfl _ _ 46 (by rfl) 72 (.agg #[.string ⟨#[]⟩, .int .i64 0]) 24 Try.underlying46 info_Line rfl (by decide) (by decide) w2.heap.size _ out (by rfl) (by exact HO1.out) (by exact (by have := HLN.out; have := HKB.out; omega)) (by exact hs1) ⟨key, value⟩ _ (by rfl) _ (by rfl) (by first | rfl | simp) ?_)
              intro v1 w1x hown1 hbw1 hg1 hor1 hs1
              have z0 : w1x.cell? ⟨wr.heap.size, 0, none⟩ = some (.string lk) := (hg1.cell_far ⟨wr.heap.size, 0, none⟩ (by simp) NE.out).trans BX0.out
              have z1 : w1x.cell? ⟨wr.heap.size, 1, none⟩ = some (.int .i64 lv) := (hg1.cell_far ⟨wr.heap.size, 1, none⟩ (by simp) NE.out).trans BX1.out
              have HOA := Lib.hid hown1
              have HBA := Lib.hid (HB1.out.trans hbw1)
              have hsA := HBA.out.size
              clear hown1 hbw1 hg1 hor1 hs1
              rcases he : (lk.toList == key.toList)
              · have KP : Hid (isKeyP key ⟨lk, lv⟩ = false) := Lib.hid he
                go_wp2_with (at_builtin; refine wpList_app eLine rfl _ _ 46 (by rfl) 72 (.agg #[.string ⟨#[]⟩, .int .i64 0]) 24 Try.underlying46 info_Line rfl (by decide) (by decide) w2.heap.size _ (out ++ [(⟨key, value⟩ : Line)]) (by rfl) (by exact HOA.out) (by exact (by have := HLN.out; have := HKB.out; simp only [List.length_append, List.length_cons, List.length_nil]; omega)) (by exact hsA) ⟨lk, lv⟩ _ (by rfl) _ (by rfl) (by first | rfl | simp) ?_)
                intro v2 w2x hown2 hbw2 hg2 hor2 hs2
                have HE2 : Hid (out ++ [(⟨key, value⟩ : Line), ⟨lk, lv⟩] ++ setG key value (ls.drop (k + 1)) true = setF ls key value) := Lib.hid (by have h := HST.out; rw [KLE.out, KP.out] at h; simpa using h)
                have HL2 : Hid ((out ++ [(⟨key, value⟩ : Line), ⟨lk, lv⟩]).length ≤ 2 * (k + 1)) := Lib.hid (by have := HLN.out; first | omega | (simp only [List.length_append, List.length_cons, List.length_nil]; omega))
                have HON : Hid (Own eLine _ w2.heap.size 72 _ (out ++ [(⟨key, value⟩ : Line), ⟨lk, lv⟩])) := Lib.hid (by simpa using hown2)
                have HBN := Lib.hid (HBA.out.trans hbw2)
                have hsN := HBN.out.size
                clear HE HST HLN hown2 hbw2 hg2 hor2 hs2 HOA HBA HO HB HO1 HB1
                go_wp2
                go_roundg (ls.length - (k + 1))
                case measure => omega
                case rel => exact ⟨k + 1, true, _, by omega, rfl, rfl, by go_num, HE2, HL2, HON, HBN, hsN⟩
              · have KP : Hid (isKeyP key ⟨lk, lv⟩ = true) := Lib.hid he
                have HE2 : Hid (out ++ [(⟨key, value⟩ : Line)] ++ setG key value (ls.drop (k + 1)) true = setF ls key value) := Lib.hid (by have h := HST.out; rw [KLE.out, KP.out] at h; simpa using h)
                have HL2 : Hid ((out ++ [(⟨key, value⟩ : Line)]).length ≤ 2 * (k + 1)) := Lib.hid (by have := HLN.out; first | omega | (simp only [List.length_append, List.length_cons, List.length_nil]; omega))
                have HON : Hid (Own eLine _ w2.heap.size 72 _ (out ++ [(⟨key, value⟩ : Line)])) := Lib.hid (HOA.out)
                have HBN := Lib.hid (HBA.out)
                have hsN := HBN.out.size
                clear HE HST HLN HOA HBA HO HB HO1 HB1
                go_wp2
                go_roundg (ls.length - (k + 1))
                case measure => omega
                case rel => exact ⟨k + 1, true, _, by omega, rfl, rfl, by go_num, HE2, HL2, HON, HBN, hsN⟩
        · have g1 := GP.out
          rcases he : (lk.toList == key.toList)
          · have KP : Hid (isKeyP key ⟨lk, lv⟩ = false) := Lib.hid he
            go_wp2_with (at_builtin; refine wpList_app eLine rfl _ _ 46 (by rfl) 72 (.agg #[.string ⟨#[]⟩, .int .i64 0]) 24 Try.underlying46 info_Line rfl (by decide) (by decide) w2.heap.size _ out (by rfl) (by exact HO1.out) (by exact (by have := HLN.out; have := HKB.out; omega)) (by exact hs1) ⟨lk, lv⟩ _ (by rfl) _ (by rfl) (by first | rfl | simp) ?_)
            intro v2 w2x hown2 hbw2 hg2 hor2 hs2
            have hsz := HB1.out.size
            have HE2 : Hid (out ++ [(⟨lk, lv⟩ : Line)] ++ setG key value (ls.drop (k + 1)) true = setF ls key value) := Lib.hid (by have h := HST.out; rw [KP.out] at h; simpa using h)
            have HL2 : Hid ((out ++ [(⟨lk, lv⟩ : Line)]).length ≤ 2 * (k + 1)) := Lib.hid (by have := HLN.out; first | omega | (simp only [List.length_append, List.length_cons, List.length_nil]; omega))
            have HON : Hid (Own eLine _ w2.heap.size 72 _ (out ++ [(⟨lk, lv⟩ : Line)])) := Lib.hid (hown2)
            have HBN := Lib.hid (HB1.out.trans hbw2)
            have hsN := HBN.out.size
            clear HE HST HLN hown2 hbw2 hg2 hor2 hs2 hsz HO HB HO1 HB1
            go_wp2
            go_roundg (ls.length - (k + 1))
            case measure => omega
            case rel => exact ⟨k + 1, true, _, by omega, rfl, rfl, by go_num, HE2, HL2, HON, HBN, hsN⟩
          · have KP : Hid (isKeyP key ⟨lk, lv⟩ = true) := Lib.hid he
            have HE2 : Hid (out ++ setG key value (ls.drop (k + 1)) true = setF ls key value) := Lib.hid (by have h := HST.out; rw [KP.out] at h; simpa using h)
            have HL2 : Hid ((out).length ≤ 2 * (k + 1)) := Lib.hid (by have := HLN.out; first | omega | (simp only [List.length_append, List.length_cons, List.length_nil]; omega))
            have HON : Hid (Own eLine _ w2.heap.size 72 _ (out)) := Lib.hid (HO1.out)
            have HBN := Lib.hid (HB1.out)
            have hsN := HBN.out.size
            clear HE HST HLN HO HB HO1 HB1
            go_wp2
            go_roundg (ls.length - (k + 1))
            case measure => omega
            case rel => exact ⟨k + 1, true, _, by omega, rfl, rfl, by go_num, HE2, HL2, HON, HBN, hsN⟩
      · obtain rfl : k = ls.length := by omega
        have HE1 := HE.out
        rw [List.drop_eq_nil_of_le (Nat.le_refl _)] at HE1
        have HE2 := Lib.hid HE1
        clear HE HE1
        rcases p
        · have HF : Hid (out ++ [(⟨key, value⟩ : Line)] = setF ls key value) := Lib.hid HE2.out
          have hln : out.length ≤ 1000000000 := by have := HLN.out; have := HLS.out; omega
          go_wp2_with (at_builtin; refine wpList_app eLine rfl _ _ 46 (by rfl) 72 (.agg #[.string ⟨#[]⟩, .int .i64 0]) 24 Try.underlying46 info_Line rfl (by decide) (by decide) w2.heap.size _ out (by rfl) (by exact HO.out) (by exact hln) (by exact hs) ⟨key, value⟩ _ (by rfl) _ (by rfl) (by first | rfl | simp) ?_)
          intro v2 w2x hown2 hbw2 hg2 hor2 hs2
          have HOF : Hid (Own eLine w2x w2.heap.size 72 v2 (setF ls key value)) := Lib.hid (by rw [← HF.out]; exact hown2)
          have HBF := Lib.hid (HB.out.trans hbw2)
          have hsF := HBF.out.size
          clear hown2 hbw2 hg2 hor2 hs2 HO HB HE2 HF HLN
          obtain ⟨a1, c1, rfl⟩ := slice_of HOF.out
          have HSZW := Lib.hid hsF
          have HNF := Lib.hid (OwnV.nil_ w2x w.heap.size w2x.heap.size (Nat.le_refl _))
          have HBW := Lib.hid (Below.step HB0W.out HBF.out)
          generalize setF ls key value = L at *
          by_cases h20 : vs.length = 20
          · have HX := Lib.hid (HX3.out (.inl h20))
            have hg : ((vs.length : Int) == 20) = true := by rw [beq_iff_eq]; omega
            clear h20
            go_wp2
            go_ret2
            rw [HX.out]
            exact ⟨_, rfl, HNF.out, HBW.out⟩
          have hg : ((vs.length : Int) == 20) = false := by rw [beq_eq_false_iff_ne]; omega
          by_cases h8 : 8 < L.length
          · have HX := Lib.hid (HX3.out (.inr h8))
            have h8i : (8 : Int) < (L.length : Int) := by omega
            clear h20
            go_wp2
            go_ret2
            rw [HX.out]
            exact ⟨_, rfl, HNF.out, HBW.out⟩
          have HX := Lib.hid (HX0.out (by omega))
          have h8i : ¬ (8 : Int) < (L.length : Int) := by omega
          have HRF := Lib.hid (HR2.out.below HBF.out)
          clear h20
          go_wp2_with fail
          refine (copyVersions_any _ vs w2x HRF.out l20 HLL.out).mono ?_
          rintro e w4 ⟨u, rfl, ho, hb⟩
          obtain ⟨ss, g1, g4, g5⟩ := ho.parts
          have HSS : Hid (ss.length ≤ 20) := Lib.hid (by rw [g4]; exact l20)
          have G4 := Lib.hid g4
          have G1 := Lib.hid g1
          have G5 := Lib.hid g5
          have HFAR : Hid (∀ j, (Value.slice a1 L.length c1).ownBlock = some j → j < w2x.heap.size) := Lib.hid (fun j hj => (World.ownsRow.lt HOF.out j hj).2)
          have HOF4 := Lib.hid (HOF.out.below hb)
          have HB4 := Lib.hid (Below.step HBW.out hb)
          have hs1 := hb.size
          have hsl : ss.length ≤ 1000000000 := by have := HSS.out; omega
          clear g1 g4 g5 ho hb HOF
          go_wp2_with (at_builtin; refine wpList_app eV rfl _ _ 25 (by rfl) 58 (.agg #[.int .i64 0, .slice none 0 0]) 32 Try.underlying25 info_Version rfl (by decide) (by decide) w2x.heap.size _ ss (by rfl) (by exact G1.out) (by exact hsl) (by exact hs1) ⟨(k : Int), a1, L.length, c1⟩ _ (by rfl) _ (by rfl) (by rfl) ?_)
          intro v9 w9 hown9 hbl9 hg9 hor9 hs9
          have HON : Hid (OwnV w9 w.heap.size w9.heap.size v9 (vs ++ [⟨(k : Int), L⟩])) := Lib.hid (OwnV.app3 (s := ⟨(k : Int), a1, L.length, c1⟩) (x := ⟨(k : Int), L⟩) G1.out G4.out G5.out HBW.out.size rfl (HOF4.out.mono HB0W.out.size) HFAR.out hown9 hg9)
          have HBN : Hid (Below w.heap.size w w9) := Lib.hid (HB4.out.trans (hbl9.mono HBW.out.size))
          clear hown9 hbl9 hg9 hor9 hs9
          go_wp2
          go_ret2
          rw [HX.out]
          exact ⟨_, rfl, HON.out, HBN.out⟩
        · have HF : Hid (out = setF ls key value) := Lib.hid (by have h := HE2.out; simpa [setG] using h)
          have HOF : Hid (Own eLine wr w2.heap.size 72 u10 (setF ls key value)) := Lib.hid (by rw [← HF.out]; exact HO.out)
          have HBF := HB
          have hsF := HBF.out.size
          clear HO HB HE2 HF HLN
          obtain ⟨a1, c1, rfl⟩ := slice_of HOF.out
          have HSZW := Lib.hid hsF
          have HNF := Lib.hid (OwnV.nil_ wr w.heap.size wr.heap.size (Nat.le_refl _))
          have HBW := Lib.hid (Below.step HB0W.out HBF.out)
          generalize setF ls key value = L at *
          by_cases h20 : vs.length = 20
          · have HX := Lib.hid (HX3.out (.inl h20))
            have hg : ((vs.length : Int) == 20) = true := by rw [beq_iff_eq]; omega
            clear h20
            go_wp2
            go_ret2
            rw [HX.out]
            exact ⟨_, rfl, HNF.out, HBW.out⟩
          have hg : ((vs.length : Int) == 20) = false := by rw [beq_eq_false_iff_ne]; omega
          by_cases h8 : 8 < L.length
          · have HX := Lib.hid (HX3.out (.inr h8))
            have h8i : (8 : Int) < (L.length : Int) := by omega
            clear h20
            go_wp2
            go_ret2
            rw [HX.out]
            exact ⟨_, rfl, HNF.out, HBW.out⟩
          have HX := Lib.hid (HX0.out (by omega))
          have h8i : ¬ (8 : Int) < (L.length : Int) := by omega
          have HRF := Lib.hid (HR2.out.below HBF.out)
          clear h20
          go_wp2_with fail
          refine (copyVersions_any _ vs wr HRF.out l20 HLL.out).mono ?_
          rintro e w4 ⟨u, rfl, ho, hb⟩
          obtain ⟨ss, g1, g4, g5⟩ := ho.parts
          have HSS : Hid (ss.length ≤ 20) := Lib.hid (by rw [g4]; exact l20)
          have G4 := Lib.hid g4
          have G1 := Lib.hid g1
          have G5 := Lib.hid g5
          have HFAR : Hid (∀ j, (Value.slice a1 L.length c1).ownBlock = some j → j < wr.heap.size) := Lib.hid (fun j hj => (World.ownsRow.lt HOF.out j hj).2)
          have HOF4 := Lib.hid (HOF.out.below hb)
          have HB4 := Lib.hid (Below.step HBW.out hb)
          have hs1 := hb.size
          have hsl : ss.length ≤ 1000000000 := by have := HSS.out; omega
          clear g1 g4 g5 ho hb HOF
          go_wp2_with (at_builtin; refine wpList_app eV rfl _ _ 25 (by rfl) 58 (.agg #[.int .i64 0, .slice none 0 0]) 32 Try.underlying25 info_Version rfl (by decide) (by decide) wr.heap.size _ ss (by rfl) (by exact G1.out) (by exact hsl) (by exact hs1) ⟨(k : Int), a1, L.length, c1⟩ _ (by rfl) _ (by rfl) (by rfl) ?_)
          intro v9 w9 hown9 hbl9 hg9 hor9 hs9
          have HON : Hid (OwnV w9 w.heap.size w9.heap.size v9 (vs ++ [⟨(k : Int), L⟩])) := Lib.hid (OwnV.app3 (s := ⟨(k : Int), a1, L.length, c1⟩) (x := ⟨(k : Int), L⟩) G1.out G4.out G5.out HBW.out.size rfl (HOF4.out.mono HB0W.out.size) HFAR.out hown9 hg9)
          have HBN : Hid (Below w.heap.size w w9) := Lib.hid (HB4.out.trans (hbl9.mono HBW.out.size))
          clear hown9 hbl9 hg9 hor9 hs9
          go_wp2
          go_ret2
          rw [HX.out]
          exact ⟨_, rfl, HON.out, HBN.out⟩
end Go.Proofs.Ytklllcehndfcpaa
