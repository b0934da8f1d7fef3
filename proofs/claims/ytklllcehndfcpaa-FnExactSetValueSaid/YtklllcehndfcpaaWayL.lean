/- The contracts of WayToFirst on both sides (chapter 29). No statement of the seat is proved here. -/
import Derived.Test.YtklllcehndfcpaaWay
namespace Go.Proofs.Ytklllcehndfcpaa
open Go.RowKit

def WayToFirst_r (vs : List Ver) (n : Int) : List Int × Int := if versB vs then (if isVerF vs n then (wayF vs n, 0) else ([], 2)) else ([], 1)
theorem Way_1 {vs : List Ver} {n : Int} (h : versB vs = false) : WayToFirst_r vs n = ([], 1) := by unfold WayToFirst_r; rw [h]; rfl
theorem Way_2 {vs : List Ver} {n : Int} (h : versB vs = true) (h2 : isVerF vs n = false) : WayToFirst_r vs n = ([], 2) := by unfold WayToFirst_r; rw [h, h2]; rfl
theorem Way_0 {vs : List Ver} {n : Int} (h : versB vs = true) (h2 : isVerF vs n = true) : WayToFirst_r vs n = (wayF vs n, 0) := by unfold WayToFirst_r; rw [h, h2]; rfl
theorem WayToFirst_tot (vs : List Ver) (n : Int) (_ : totV vs ≤ 1048576) : (WayToFirst_r vs n).1.length ≤ 1048576 := by
  rcases h : versB vs
  · rw [Way_1 h]; simp
  · rcases h2 : isVerF vs n
    · rw [Way_2 h h2]; simp
    · rw [Way_0 h h2]
      obtain ⟨n0, n1⟩ := isVerF_iff.1 h2
      have := versB_n h
      have := wayF_len h 20 n (by omega) n1
      simp only
      omega
set_option maxHeartbeats 1000000 in
theorem iWayToFirst_law (v : Value) (vs : List Ver) (n : Int) (w : World) (hv : RdV w v vs) (_ : totV vs ≤ 1048576) (hq : ∀ x ∈ vs, okVer x) (_ : (Lit.int .i64 n).wf = true) :
    Calls Try.prog 26 #[v, .int .i64 n] w fun e w' => ∃ u, e = .returned (.tuple #[u, .int .i64 (WayToFirst_r vs n).2]) ∧ Own eI w' w.heap.size 2 u (WayToFirst_r vs n).1 ∧ Below w.heap.size w w' := by
  have HR := Lib.hid hv
  obtain ⟨A, cap, rfl, _, hm, _⟩ := hv.shape
  clear hv
  go_enter Try.func26, Try.ntmps26
  go_wp2_with fail
  refine (iAreVersions_any _ vs w HR.out hq).mono ?_
  rintro e w2 ⟨rfl, hb⟩
  have HR2 := Lib.hid (HR.out.below hb)
  have HB := Lib.hid hb
  clear HR hb
  rcases h1 : versB vs
  · have HX := Lib.hid (Way_1 (n := n) h1)
    clear h1
    go_wp2
    go_ret2
    rw [HX.out]
    exact ⟨_, rfl, Own.nil_ _ _ _ _, HB.out⟩
  rcases h3 : isVerF vs n
  · have HX := Lib.hid (Way_2 h1 h3)
    have H3 := Lib.hid h3
    clear h1 h3
    go_wp2_with (go_at_call 47; refine (isVersion_eq H3.out _ _ _ hm).mono ?_; rintro e w' ⟨rfl, rfl⟩)
    go_ret2
    rw [HX.out]
    exact ⟨_, rfl, Own.nil_ _ _ _ _, HB.out⟩
  have HX := Lib.hid (Way_0 h1 h3)
  have H3 := Lib.hid h3
  have H1 := Lib.hid h1
  clear h1 h3
  go_wp2_with (go_at_call 47; refine (isVersion_eq H3.out _ _ _ hm).mono ?_; rintro e w' ⟨rfl, rfl⟩)
  refine (iWay_any _ vs n w2 HR2.out H1.out H3.out).mono ?_
  rintro e w3 ⟨u, rfl, ho, hb3⟩
  have HO := Lib.hid (ho.mono HB.out.size)
  have HB3 := Lib.hid (below_step2 HB.out hb3 HB.out.size)
  clear ho hb3
  go_wp2
  go_ret2
  rw [HX.out]
  exact ⟨_, rfl, HO.out, HB3.out⟩
set_option maxHeartbeats 1000000 in
theorem sWayToFirst_law (v : Value) (vs : List Ver) (n : Int) (w : World) (hv : RdV w v vs) (_ : totV vs ≤ 1048576) (hq : ∀ x ∈ vs, okVer x) (_ : (Lit.int .i64 n).wf = true) :
    Calls Try.prog 25 #[v, .int .i64 n] w fun e w' => ∃ u, e = .returned (.tuple #[u, .int .i64 (WayToFirst_r vs n).2]) ∧ Own eI w' w.heap.size 2 u (WayToFirst_r vs n).1 ∧ Below w.heap.size w w' := by
  have HR := Lib.hid hv
  obtain ⟨A, cap, rfl, _, hm, _⟩ := hv.shape
  clear hv
  go_enter Try.func25, Try.ntmps25
  go_wp2_with fail
  refine (code_any _ vs n n w HR.out hq).mono ?_
  rintro e w2 ⟨rfl, hb⟩
  have HR2 := Lib.hid (HR.out.below hb)
  have HB := Lib.hid hb
  clear HR hb
  rcases h1 : versB vs
  · have HX := Lib.hid (Way_1 (n := n) h1)
    rw [code1 h1]
    clear h1
    go_wp2
    go_ret2
    rw [HX.out]
    exact ⟨_, rfl, Own.nil_ _ _ _ _, HB.out⟩
  rcases h3 : isVerF vs n
  · have HX := Lib.hid (Way_2 h1 h3)
    rw [code2 h1 (code_same h3)]
    clear h1 h3
    go_wp2
    go_ret2
    rw [HX.out]
    exact ⟨_, rfl, Own.nil_ _ _ _ _, HB.out⟩
  have HX := Lib.hid (Way_0 h1 h3)
  rw [code0 h1 (code_same h3)]
  have H3 := Lib.hid h3
  have H1 := Lib.hid h1
  clear h1 h3
  go_wp2_with fail
  refine (sWay_any _ vs n w2 HR2.out H1.out H3.out).mono ?_
  rintro e w3 ⟨u, rfl, ho, hb3⟩
  have HO := Lib.hid (ho.mono HB.out.size)
  have HB3 := Lib.hid (below_step2 HB.out hb3 HB.out.size)
  clear ho hb3
  go_wp2
  go_ret2
  rw [HX.out]
  exact ⟨_, rfl, HO.out, HB3.out⟩
end Go.Proofs.Ytklllcehndfcpaa
