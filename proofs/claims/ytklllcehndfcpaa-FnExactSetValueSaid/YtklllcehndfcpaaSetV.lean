/- The contract of the reference's SetValue (chapter 29). No statement of the seat is proved here. -/
import Derived.Test.YtklllcehndfcpaaSetS
namespace Go.Proofs.Ytklllcehndfcpaa
open Go.RowKit
theorem setF_ok {ls : List Line} {key : ByteArray} {value : Int} (h : ∀ x ∈ ls, okLine x) (hk : key.size ≤ 1048576) : ∀ x ∈ setF ls key value, okLine x := by
  intro x hx
  rcases setG_mem key value ls _ x hx with h1 | ⟨_, rfl⟩
  · exact h x h1
  · unfold okLine strLine; simp only; omega
theorem SetV_arg {vs : List Ver} {n : Int} {key : ByteArray} {value : Int} (h1 : versB vs = true) (h2 : isWord key = true) : (versB vs && isWord key) = true := by rw [h1, h2]; rfl
set_option maxHeartbeats 4000000 in
set_option maxRecDepth 20000 in
theorem sSetValue_law (v : Value) (vs : List Ver) (n : Int) (key : ByteArray) (value : Int) (w : World) (hv : RdV w v vs) (ht : totV vs ≤ 1048576) (hq : ∀ x ∈ vs, okVer x) (_ : (Lit.int .i64 n).wf = true) (hs : key.size ≤ 1048576) (_ : (Lit.int .i64 value).wf = true) :
    Calls Try.prog 34 #[v, .int .i64 n, .string key, .int .i64 value] w fun e w' => ∃ u, e = .returned (.tuple #[u, .int .i64 (SetValue_r vs n key value).2]) ∧ OwnV w' w.heap.size w'.heap.size u (SetValue_r vs n key value).1 ∧ Below w.heap.size w w' := by
  have HR := Lib.hid hv
  have HLL := Lib.hid (lines_le ht)
  obtain ⟨A, cap, rfl, _, hm, _⟩ := hv.shape
  clear hv
  go_enter Try.func34, Try.ntmps34
  go_wp2_with fail
  refine (sIsWord_any key w (by omega)).mono ?_
  rintro e _ ⟨rfl, rfl⟩
  rcases h2 : isWord key
  · have HX := Lib.hid (SetV_1 (vs := vs) (n := n) (value := value) (show (versB vs && isWord key) = false by rw [h2]; simp))
    have HN := Lib.hid (OwnV.nil_ w w.heap.size w.heap.size (Nat.le_refl _))
    clear h2
    go_wp2
    go_ret2
    rw [HX.out]
    exact ⟨_, rfl, HN.out, Below.refl _ _⟩
  have H2 := Lib.hid h2
  clear h2
  go_wp2_with fail
  refine (code_any _ vs n n w HR.out hq).mono ?_
  rintro e w2 ⟨rfl, hb⟩
  have HR2 := Lib.hid (HR.out.below hb)
  have HB := Lib.hid hb
  clear HR hb
  have HN := Lib.hid (OwnV.nil_ w2 w.heap.size w2.heap.size (Nat.le_refl _))
  rcases h1 : versB vs
  · have HX := Lib.hid (SetV_1 (n := n) (value := value) (show (versB vs && isWord key) = false by rw [h1]; rfl))
    rw [code1 h1]
    clear h1
    go_wp2
    go_ret2
    rw [HX.out]
    exact ⟨_, rfl, HN.out, HB.out⟩
  have h12 : (versB vs && isWord key) = true := by rw [h1, H2.out]; rfl
  rcases h3 : isVerF vs n
  · have HX := Lib.hid (SetV_2 (value := value) h12 (show (isVerF vs n && inR value (-1) 1000000) = false by rw [h3]; rfl))
    rw [code2 h1 (code_same h3)]
    clear h1 h3 h12
    go_wp2
    go_ret2
    rw [HX.out]
    exact ⟨_, rfl, HN.out, HB.out⟩
  rw [code0 h1 (code_same h3)]
  rcases h4 : inR value (-1) 1000000
  · have HX := Lib.hid (SetV_2 h12 (show (isVerF vs n && inR value (-1) 1000000) = false by rw [h3, h4]; rfl))
    have H4 := Lib.hid h4
    clear h1 h3 h12 h4
    go_wp2_with (go_at_call 38; refine (l01In_eq H4.out _).mono ?_; rintro e w' ⟨rfl, rfl⟩)
    go_ret2
    rw [HX.out]
    exact ⟨_, rfl, HN.out, HB.out⟩
  have H4 := Lib.hid h4
  obtain ⟨l1, l20⟩ := versB_n h1
  obtain ⟨n0, n1⟩ := isVerF_iff.1 h3
  obtain ⟨k, rfl⟩ := Int.eq_ofNat_of_zero_le n0
  have hlt : k < vs.length := by omega
  have h34 : (isVerF vs (k : Int) && inR value (-1) 1000000) = true := by rw [h3, h4]; rfl
  have hgd : (vs.getD (k : Int).toNat zVer).lines = vs[k].lines := by rw [Int.toNat_natCast, getD_at vs zVer k hlt]
  have HX3 := Lib.hid (SetV_3 (vs := vs) (n := (k : Int)) (key := key) (value := value) h12 h34 hgd)
  have HX0 := Lib.hid (SetV_0 (vs := vs) (n := (k : Int)) (key := key) (value := value) h12 h34 hgd)
  have HSB := Lib.hid (setF_sheet (key := key) (value := value) (versB_sheet h1 hlt) H2.out h4)
  have HOK : Hid (∀ x ∈ setF vs[k].lines key value, okLine x) := Lib.hid (setF_ok (hq _ (List.getElem_mem hlt)) hs)
  have HLK := Lib.hid (HLL.out _ (List.getElem_mem hlt))
  obtain ⟨A', cap', e, _, _, hc⟩ := HR2.out.shape
  cases e
  obtain ⟨b, off, rfl, hbl, hcell⟩ := hc (by omega)
  obtain ⟨a, c, c0, c1, hsl⟩ := hcell k hlt
  have HSL := Lib.hid hsl
  clear h1 h3 h12 h4 h34 hgd hcell hc hsl c0 n0
  generalize vs[k].lines = ls at *
  go_wp2_with (go_at_call 38; refine (l01In_eq H4.out _).mono ?_; rintro e w' ⟨rfl, rfl⟩)
  refine (l29Set_any _ ls key value w2 HSL.out HLK.out).mono ?_
  rintro e w3 ⟨u, rfl, ho, hb⟩
  have hsf := setF_len ls key value
  have HSF : Hid ((setF ls key value).length ≤ 2097153) := Lib.hid (by have := HLK.out; omega)
  have HSS := Lib.hid (Sl.of_own ho (by have := HSF.out; unfold big40; omega))
  have HR3 := Lib.hid (HR2.out.below hb)
  have HB3 := Lib.hid (Below.step HB.out hb)
  have HN3 := Lib.hid (OwnV.nil_ w3 w.heap.size w3.heap.size (Nat.le_refl _))
  clear ho hb hsf HR2 HB HSL
  generalize setF ls key value = L at *
  by_cases h20 : vs.length = 20
  · have HX := Lib.hid (HX3.out (.inl h20))
    have hg : ((vs.length : Int) == 20) = true := by rw [beq_iff_eq]; omega
    clear h20
    go_wp2
    go_ret2
    rw [HX.out]
    exact ⟨_, rfl, HN3.out, HB3.out⟩
  have hg : ((vs.length : Int) == 20) = false := by rw [beq_eq_false_iff_ne]; omega
  by_cases h8 : L.length ≤ 8
  rotate_left
  · have HX := Lib.hid (HX3.out (.inr (by omega)))
    have HF : Hid (sheetB L = false) := Lib.hid (by rw [HSB.out]; exact decide_eq_false h8)
    clear h20 h8
    go_wp2_with fail
    refine (l29Sheet_any u L w3 HSS.out HOK.out).mono ?_
    rintro e w4 ⟨rfl, hb⟩
    rw [HF.out]
    have HN4 := Lib.hid (OwnV.nil_ w4 w.heap.size w4.heap.size (Nat.le_refl _))
    have HB4 := Lib.hid (Below.step HB3.out hb)
    clear hb
    go_wp2
    go_ret2
    rw [HX.out]
    exact ⟨_, rfl, HN4.out, HB4.out⟩
  have HX := Lib.hid (HX0.out (by omega))
  have HF : Hid (sheetB L = true) := Lib.hid (by rw [HSB.out]; exact decide_eq_true h8)
  have hL1 : L.length ≤ 1048576 := by omega
  clear h20 h8
  go_wp2_with fail
  refine (l29Sheet_any u L w3 HSS.out HOK.out).mono ?_
  rintro e w4 ⟨rfl, hb⟩
  rw [HF.out]
  have HR4 := Lib.hid (HR3.out.below hb)
  have HSS4 := Lib.hid (HSS.out.below hb)
  have HB4 := Lib.hid (Below.step HB3.out hb)
  clear hb
  go_wp2_with fail
  refine (l29With_any _ vs (k : Int) u L w4 HR4.out l20 HLL.out HSS4.out hL1).mono ?_
  rintro e w5 ⟨u5, rfl, ho, hb⟩
  have HO := Lib.hid (ho.mono HB4.out.size (Nat.le_refl _) (Nat.le_refl _))
  have HB5 := Lib.hid (Below.step HB4.out hb)
  clear ho hb
  go_wp2
  go_ret2
  rw [HX.out]
  exact ⟨_, rfl, HO.out, HB5.out⟩
end Go.Proofs.Ytklllcehndfcpaa
