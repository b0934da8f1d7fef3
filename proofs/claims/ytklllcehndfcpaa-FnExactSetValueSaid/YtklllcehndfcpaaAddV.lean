/- The contracts of AddVersion on both sides (chapter 29). No statement of the seat is proved here. -/
import Derived.Test.YtklllcehndfcpaaVersA
namespace Go.Proofs.Ytklllcehndfcpaa
open Go.RowKit

def AddVersion_r (vs : List Ver) (p : Int) (ls : List Line) : List Ver × Int := if versB vs && sheetB ls then (if isVerF vs p then (if vs.length = 20 then ([], 3) else (vs ++ [⟨p, ls⟩], 0)) else ([], 2)) else ([], 1)
theorem AddV_1 {vs : List Ver} {p : Int} {ls : List Line} (h : (versB vs && sheetB ls) = false) : AddVersion_r vs p ls = ([], 1) := by unfold AddVersion_r; rw [h]; rfl
theorem AddV_2 {vs : List Ver} {p : Int} {ls : List Line} (h : (versB vs && sheetB ls) = true) (h2 : isVerF vs p = false) : AddVersion_r vs p ls = ([], 2) := by unfold AddVersion_r; rw [h, h2]; rfl
theorem AddV_3 {vs : List Ver} {p : Int} {ls : List Line} (h : (versB vs && sheetB ls) = true) (h2 : isVerF vs p = true) (h3 : vs.length = 20) : AddVersion_r vs p ls = ([], 3) := by unfold AddVersion_r; rw [h, h2]; simp [h3]
theorem AddV_0 {vs : List Ver} {p : Int} {ls : List Line} (h : (versB vs && sheetB ls) = true) (h2 : isVerF vs p = true) (h3 : ¬ vs.length = 20) : AddVersion_r vs p ls = (vs ++ [⟨p, ls⟩], 0) := by unfold AddVersion_r; rw [h, h2]; simp [h3]
theorem AddV_cases (vs : List Ver) (p : Int) (ls : List Line) : (AddVersion_r vs p ls).1 = [] ∨ (AddVersion_r vs p ls).1 = vs ++ [⟨p, ls⟩] := by
  rcases h : (versB vs && sheetB ls)
  · rw [AddV_1 h]; exact .inl rfl
  · rcases h2 : isVerF vs p
    · rw [AddV_2 h h2]; exact .inl rfl
    · by_cases h3 : vs.length = 20
      · rw [AddV_3 h h2 h3]; exact .inl rfl
      · rw [AddV_0 h h2 h3]; exact .inr rfl
theorem totV_app (vs : List Ver) (x : Ver) : totV (vs ++ [x]) = totV vs + 1 + x.lines.length := by
  unfold totV
  rw [List.map_append, List.sum_append]
  simp [weighV]; omega
theorem AddVersion_tot (vs : List Ver) (p : Int) (ls : List Line) (h : totV vs ≤ 1048576) (hl : ls.length ≤ 1048576) : totV (AddVersion_r vs p ls).1 ≤ 4000000 := by
  rcases AddV_cases vs p ls with e | e
  · rw [e]; simp [totV]
  · rw [e, totV_app]; simp only; omega
theorem AddVersion_lines (vs : List Ver) (p : Int) (ls : List Line) (h : totV vs ≤ 1048576) (hl : ls.length ≤ 1048576) : ∀ x ∈ (AddVersion_r vs p ls).1, x.lines.length ≤ 1048576 := by
  intro x hx
  rcases AddV_cases vs p ls with e | e
  · rw [e] at hx; simp at hx
  · rw [e] at hx
    rcases List.mem_append.1 hx with hx | hx
    · exact Nat.le_trans (totV_mem vs x hx) h
    · rw [List.mem_singleton.1 hx]; exact hl
set_option maxHeartbeats 2000000 in
set_option maxRecDepth 10000 in
theorem iAddVersion_law (v : Value) (vs : List Ver) (p : Int) (lv : Value) (ls : List Line) (w : World) (hv : RdV w v vs) (ht : totV vs ≤ 1048576) (hq : ∀ x ∈ vs, okVer x) (_ : (Lit.int .i64 p).wf = true) (hl : Sl eLine w lv ls) (hll : ls.length ≤ 1048576) (hql : ∀ x ∈ ls, okLine x) :
    Calls Try.prog 30 #[v, .int .i64 p, lv] w fun e w' => ∃ u, e = .returned (.tuple #[u, .int .i64 (AddVersion_r vs p ls).2]) ∧ OwnV w' w.heap.size w'.heap.size u (AddVersion_r vs p ls).1 ∧ Below w.heap.size w w' := by
  have HR := Lib.hid hv
  have HL := Lib.hid hl
  have HLL := Lib.hid (lines_le ht)
  have HQL := Lib.hid hql
  obtain ⟨A, cap, rfl, _, hm, _⟩ := hv.shape
  clear hv hl hql
  go_enter Try.func30, Try.ntmps30
  go_wp2_with fail
  refine (iAreVersions_any _ vs w HR.out hq).mono ?_
  rintro e w2 ⟨rfl, hb⟩
  have HR2 := Lib.hid (HR.out.below hb)
  have HL2 := Lib.hid (HL.out.below hb)
  have HB := Lib.hid hb
  clear HR HL hb
  rcases h1 : versB vs
  · have HX := Lib.hid (AddV_1 (p := p) (show (versB vs && sheetB ls) = false by rw [h1]; rfl))
    have HN := Lib.hid (OwnV.nil_ w2 w.heap.size w2.heap.size (Nat.le_refl _))
    clear h1
    go_wp2
    go_ret2
    rw [HX.out]
    exact ⟨_, rfl, HN.out, HB.out⟩
  go_wp2_with fail
  refine (isSheet_any lv ls w2 HL2.out HQL.out).mono ?_
  rintro e w3 ⟨rfl, hb⟩
  have HR3 := Lib.hid (HR2.out.below hb)
  have HL3 := Lib.hid (HL2.out.below hb)
  have HB3 := Lib.hid (Below.step HB.out hb)
  clear HR2 HL2 hb HB
  have HN := Lib.hid (OwnV.nil_ w3 w.heap.size w3.heap.size (Nat.le_refl _))
  rcases h2 : sheetB ls
  · have HX := Lib.hid (AddV_1 (p := p) (show (versB vs && sheetB ls) = false by rw [h2]; simp))
    clear h1 h2
    go_wp2
    go_ret2
    rw [HX.out]
    exact ⟨_, rfl, HN.out, HB3.out⟩
  have h12 : (versB vs && sheetB ls) = true := by rw [h1, h2]; rfl
  rcases h3 : isVerF vs p
  · have HX := Lib.hid (AddV_2 h12 h3)
    have H3 := Lib.hid h3
    clear h1 h2 h3 h12
    go_wp2_with (go_at_call 47; refine (isVersion_eq H3.out _ _ _ hm).mono ?_; rintro e w' ⟨rfl, rfl⟩)
    go_ret2
    rw [HX.out]
    exact ⟨_, rfl, HN.out, HB3.out⟩
  have H3 := Lib.hid h3
  obtain ⟨l1, l20⟩ := versB_n h1
  by_cases h4 : vs.length = 20
  · have HX := Lib.hid (AddV_3 h12 h3 h4)
    have hg : ((vs.length : Int) == 20) = true := by rw [beq_iff_eq]; omega
    clear h1 h2 h3 h12 h4
    go_wp2_with (go_at_call 47; refine (isVersion_eq H3.out _ _ _ hm).mono ?_; rintro e w' ⟨rfl, rfl⟩)
    go_ret2
    rw [HX.out]
    exact ⟨_, rfl, HN.out, HB3.out⟩
  have HX := Lib.hid (AddV_0 h12 h3 h4)
  have hg : ((vs.length : Int) == 20) = false := by rw [beq_eq_false_iff_ne]; omega
  clear h1 h2 h3 h12 h4 HN
  go_wp2_with (go_at_call 47; refine (isVersion_eq H3.out _ _ _ hm).mono ?_; rintro e w' ⟨rfl, rfl⟩)
  refine (copyVersions_any _ vs w3 HR3.out l20 HLL.out).mono ?_
  rintro e w4 ⟨u, rfl, ho, hb⟩
  obtain ⟨ss, g1, g4, g5⟩ := ho.parts
  have HSS : Hid (ss.length ≤ 20) := Lib.hid (by rw [g4]; exact l20)
  have G4 := Lib.hid g4
  have LST : Hid (Sl eLine (w4.alloc (.cells #[] 72)) lv ls) := Lib.hid ((HL3.out.below hb).alloc _)
  have OWN1 : Hid (Own eLine (w4.alloc (.cells #[] 72)) w4.heap.size 72 (.slice (some ⟨w4.heap.size, 0, none⟩) 0 0) []) := Lib.hid (Own.empty eLine w4 w4.heap.size 72 (Nat.le_refl _))
  have SZ1 : Hid (w4.heap.size ≤ (w4.alloc (.cells #[] 72)).heap.size) := Lib.hid (by simp)
  have HB4 := Lib.hid (Below.step HB3.out hb)
  have SZ3 := Lib.hid HB3.out.size
  have SZ34 := Lib.hid hb.size
  have G1 := Lib.hid g1
  have G5 := Lib.hid g5
  clear g1 g4 g5 ho hb HB3 HL3 HR3
  go_wp2_with (at_builtin; refine wpList_app_all eLine rfl _ _ 46 (by rfl) 72 (.agg #[.string ⟨#[]⟩, .int .i64 0]) 24 Try.underlying46 info_Line rfl (by decide) (by decide) w4.heap.size _ [] (by rfl) OWN1.out _ ls (by rfl) LST.out (by simp; omega) SZ1.out ?_)
  intro v1 wv1 hown0 hbl hg1 hor1
  have hown1 : Own eLine wv1 w4.heap.size 72 v1 ls := hown0
  clear hown0
  obtain ⟨a1, c1, rfl⟩ := slice_of hown1
  have hbb : Below w4.heap.size w4 wv1 := ((Below.refl _ _).alloc (Nat.le_refl _) _).trans hbl
  have HV1 := Lib.hid (G5.out.below hbb)
  have HW1 := Lib.hid (G1.out.below hbb)
  have HON1 := Lib.hid hown1
  have HB1 := Lib.hid (Below.step HB4.out hbb)
  have hs1 : w3.heap.size ≤ wv1.heap.size := by have := SZ34.out; have := hbb.size; omega
  have hsl : ss.length ≤ 1000000000 := by have := HSS.out; omega
  clear hown1 hbl hg1 hor1 hbb G1 G5 OWN1 SZ1 LST
  go_wp2_with (at_builtin; refine wpList_app eV rfl _ _ 25 (by rfl) 58 (.agg #[.int .i64 0, .slice none 0 0]) 32 Try.underlying25 info_Version rfl (by decide) (by decide) w3.heap.size _ ss (by rfl) (by exact HW1.out) (by exact hsl) (by exact hs1) ⟨p, a1, ls.length, c1⟩ _ (by rfl) _ (by rfl) (by rfl) ?_)
  intro v2 wv2 hown2 hbl2 hg2 hor2 hs2
  have HON : Hid (OwnV wv2 w.heap.size wv2.heap.size v2 (vs ++ [⟨p, ls⟩])) := Lib.hid ((OwnV.app2 (s := ⟨p, a1, ls.length, c1⟩) (x := ⟨p, ls⟩) HW1.out G4.out HV1.out SZ34.out rfl HON1.out hown2 hg2).mono SZ3.out (Nat.le_refl _) (Nat.le_refl _))
  have HBN : Hid (Below w.heap.size w wv2) := Lib.hid (HB1.out.trans (hbl2.mono SZ3.out))
  clear hown2 hbl2 hg2 hor2 hs2 HW1 HV1 HON1 HB1
  go_wp2
  go_ret2
  rw [HX.out]
  exact ⟨_, rfl, HON.out, HBN.out⟩
set_option maxHeartbeats 2000000 in
set_option maxRecDepth 10000 in
theorem sAddVersion_law (v : Value) (vs : List Ver) (p : Int) (lv : Value) (ls : List Line) (w : World) (hv : RdV w v vs) (ht : totV vs ≤ 1048576) (hq : ∀ x ∈ vs, okVer x) (_ : (Lit.int .i64 p).wf = true) (hl : Sl eLine w lv ls) (hll : ls.length ≤ 1048576) (hql : ∀ x ∈ ls, okLine x) :
    Calls Try.prog 28 #[v, .int .i64 p, lv] w fun e w' => ∃ u, e = .returned (.tuple #[u, .int .i64 (AddVersion_r vs p ls).2]) ∧ OwnV w' w.heap.size w'.heap.size u (AddVersion_r vs p ls).1 ∧ Below w.heap.size w w' := by
  have HR := Lib.hid hv
  have HL := Lib.hid hl
  have HLL := Lib.hid (lines_le ht)
  have HQL := Lib.hid hql
  obtain ⟨A, cap, rfl, _, hm, _⟩ := hv.shape
  clear hv hl hql
  go_enter Try.func28, Try.ntmps28
  go_wp2_with fail
  refine (l29Sheet_any lv ls w HL.out HQL.out).mono ?_
  rintro e w2 ⟨rfl, hb⟩
  have HR2 := Lib.hid (HR.out.below hb)
  have HL2 := Lib.hid (HL.out.below hb)
  have HB := Lib.hid hb
  clear HR HL hb
  rcases h2 : sheetB ls
  · have HX := Lib.hid (AddV_1 (vs := vs) (p := p) (show (versB vs && sheetB ls) = false by rw [h2]; simp))
    have HN := Lib.hid (OwnV.nil_ w2 w.heap.size w2.heap.size (Nat.le_refl _))
    clear h2
    go_wp2
    go_ret2
    rw [HX.out]
    exact ⟨_, rfl, HN.out, HB.out⟩
  go_wp2_with fail
  refine (code_any _ vs p p w2 HR2.out hq).mono ?_
  rintro e w3 ⟨rfl, hb⟩
  have HR3 := Lib.hid (HR2.out.below hb)
  have HL3 := Lib.hid (HL2.out.below hb)
  have HB3 := Lib.hid (Below.step HB.out hb)
  clear HR2 HL2 hb HB
  have HN := Lib.hid (OwnV.nil_ w3 w.heap.size w3.heap.size (Nat.le_refl _))
  rcases h1 : versB vs
  · have HX := Lib.hid (AddV_1 (p := p) (show (versB vs && sheetB ls) = false by rw [h1]; rfl))
    rw [code1 h1]
    clear h1 h2
    go_wp2
    go_ret2
    rw [HX.out]
    exact ⟨_, rfl, HN.out, HB3.out⟩
  have h12 : (versB vs && sheetB ls) = true := by rw [h1, h2]; rfl
  rcases h3 : isVerF vs p
  · have HX := Lib.hid (AddV_2 h12 h3)
    rw [code2 h1 (code_same h3)]
    clear h1 h2 h3 h12
    go_wp2
    go_ret2
    rw [HX.out]
    exact ⟨_, rfl, HN.out, HB3.out⟩
  obtain ⟨l1, l20⟩ := versB_n h1
  rw [code0 h1 (code_same h3)]
  by_cases h4 : vs.length = 20
  · have HX := Lib.hid (AddV_3 h12 h3 h4)
    have hg : ((vs.length : Int) == 20) = true := by rw [beq_iff_eq]; omega
    clear h1 h2 h3 h12 h4
    go_wp2
    go_ret2
    rw [HX.out]
    exact ⟨_, rfl, HN.out, HB3.out⟩
  have HX := Lib.hid (AddV_0 h12 h3 h4)
  have hg : ((vs.length : Int) == 20) = false := by rw [beq_eq_false_iff_ne]; omega
  clear h1 h2 h3 h12 h4 HN
  go_wp2_with fail
  refine (l29With_any _ vs p lv ls w3 HR3.out l20 HLL.out HL3.out hll).mono ?_
  rintro e w4 ⟨u, rfl, ho, hb⟩
  have HO := Lib.hid (ho.mono HB3.out.size (Nat.le_refl _) (Nat.le_refl _))
  have HB4 := Lib.hid (Below.step HB3.out hb)
  clear ho hb
  go_wp2
  go_ret2
  rw [HX.out]
  exact ⟨_, rfl, HO.out, HB4.out⟩
end Go.Proofs.Ytklllcehndfcpaa
