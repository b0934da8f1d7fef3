/- Contracts of AreVersions (chapter 29). No statement of the seat is proved here. -/
import Derived.Test.YtklllcehndfcpaaSheets
import Derived.Test.YtklllcehndfcpaaVersT
namespace Go.Proofs.Ytklllcehndfcpaa
open Go.RowKit

def verOk (vs : List Ver) (i : Nat) : Bool := sheetB (vs.getD i zVer).lines && (if i = 0 then (vs.getD i zVer).parent == -1 else inR (vs.getD i zVer).parent 0 ((i : Int) - 1))
def versB (vs : List Ver) : Bool := inR vs.length 1 20 && (List.range vs.length).all (verOk vs)
theorem verOk_at {vs : List Ver} {k : Nat} (h : k < vs.length) : verOk vs k = (sheetB vs[k].lines && (if k = 0 then vs[k].parent == -1 else inR vs[k].parent 0 ((k : Int) - 1))) := by unfold verOk; rw [getD_at _ _ k h]
theorem versB_len {vs : List Ver} (h : inR vs.length 1 20 = false) : versB vs = false := by unfold versB; rw [h]; rfl
theorem versB_at {vs : List Ver} {k : Nat} (hk : k < vs.length) (h : verOk vs k = false) : versB vs = false := by unfold versB; rw [range_all_false hk h]; simp
set_option maxHeartbeats 4000000 in
set_option maxRecDepth 10000 in
theorem iAreVersions_any (v : Value) (vs : List Ver) (w : World) (hv : RdV w v vs) (hq : ∀ x ∈ vs, okVer x) :
    Calls Try.prog 13 #[v] w fun e w' => e = .returned (.bool (versB vs)) ∧ Below w.heap.size w w' := by
  obtain ⟨A, cap, rfl, _, hm, hc⟩ := hv.shape
  clear hv
  by_cases hs0 : vs.length < 1
  · have HR := Lib.hid (versB_len (vs := vs) (inR_false.2 (by omega)))
    have hs1 : (vs.length : Int) < 1 := by omega
    clear hc
    go_enter Try.func13, Try.ntmps13
    go_wp2
    go_ret
    exact ⟨ret_bool HR.out.symm, Below.refl _ _⟩
  by_cases hs20 : 20 < vs.length
  · have HR := Lib.hid (versB_len (vs := vs) (inR_false.2 (by omega)))
    have hs1 : ¬ (vs.length : Int) < 1 := by omega
    have hs2 : 20 < (vs.length : Int) := by omega
    clear hc
    go_enter Try.func13, Try.ntmps13
    go_wp2
    go_ret
    exact ⟨ret_bool HR.out.symm, Below.refl _ _⟩
  obtain ⟨b, off, rfl, hbl, hcell⟩ := hc (by omega)
  have hv0 := verOk_at (vs := vs) (k := 0) (by omega)
  obtain ⟨a0, q0, d0, d1, _⟩ := hcell 0 (by omega)
  simp only [Nat.zero_mul, Nat.add_zero] at d0
  have HF0 := Lib.hid (fun h => versB_at (vs := vs) (k := 0) (by omega) h)
  rw [if_pos rfl] at hv0
  have HV0 := Lib.hid hv0
  have hlI : ¬ (vs.length : Int) < 1 := by omega
  have hlJ : ¬ 20 < (vs.length : Int) := by omega
  have hpos : (0 : Int) < vs.length := by omega
  have hpos2 : 0 < vs.length := by omega
  clear hv0 d1 hc
  rcases h0 : (vs[0].parent == -1)
  · have H0 := Lib.hid h0
    have h1 : (vs[0].parent != -1) = true := by simp [bne, h0]
    have H1 := Lib.hid h1
    clear h0 h1
    have HX : Hid (versB vs = false) := Lib.hid (HF0.out (by rw [HV0.out, H0.out]; simp))
    clear HF0 HV0 H0
    generalize vs[0].parent = p0 at *
    have h1 := H1.out
    go_enter Try.func13, Try.ntmps13
    go_wp2
    go_ret
    exact ⟨ret_bool HX.out.symm, Below.refl _ _⟩
  have HZ : Hid (∀ h : 0 < vs.length, ((vs[0]'h).parent == -1) = true) := Lib.hid (fun _ => h0)
  have H0 := Lib.hid h0
  have h1 : (vs[0].parent != -1) = false := by simp [bne, h0]
  clear h0 HF0 HV0
  have HQ := Lib.hid hq
  have HCELL := Lib.hid hcell
  clear hq hcell
  generalize vs[0].parent = p0 at *
  go_enter Try.func13, Try.ntmps13
  go_wp2
  clear d0 h1
  go_loopg [22] vs.length (fun gi i wr => ∃ k : Nat, k ≤ vs.length ∧ gi = vs.length - k ∧ i = .int .i64 k ∧ Hid ((List.range k).all (verOk vs) = true) ∧ Below w.heap.size w wr ∧ w.heap.size ≤ wr.heap.size)
  case atStart => exact ⟨0, Nat.zero_le _, rfl, rfl, Lib.hid rfl, Below.refl _ _, Nat.le_refl _⟩
  case round =>
    obtain ⟨k, hk, rfl, rfl, HA, hb, hs⟩ := hrel
    by_cases hlt : k < vs.length
    · obtain ⟨a, c, hc0, hc1, hsl⟩ := HCELL.out k hlt
      have c0 := (hb.cell (p := ⟨b, off + k * 2, none⟩) hbl).trans hc0
      have c1 := (hb.cell (p := ⟨b, off + k * 2 + 1, none⟩) hbl).trans hc1
      have hb1 : Below w.heap.size w (wr.alloc (.cells #[.int .i64 vs[k].parent, .slice a vs[k].lines.length c] 58)) := hb.alloc hs _
      have HSL := Lib.hid (hsl.below hb1)
      have HB := Lib.hid hb1
      have HD := Lib.hid (verOk_at hlt)
      have HQK := Lib.hid (HQ.out _ (List.getElem_mem hlt))
      have HF := Lib.hid (fun h => versB_at (vs := vs) (k := k) hlt h)
      have HP0 : Hid (k = 0 → (vs[k].parent == -1) = true) := Lib.hid (fun h => by subst h; exact HZ.out _)
      generalize vs[k] = x at *
      obtain ⟨p, ls⟩ := x
      simp only at *
      clear hc0 hc1 hsl hb hb1
      go_wp2_with fail
      refine (isSheet_any _ ls _ HSL.out HQK.out).mono ?_
      rintro e w2 ⟨rfl, hb2⟩
      obtain ⟨k1, f1, hbw, hsw⟩ := box1 hb2
      have e0 := (k1 0).trans (show _ = some (Value.int .i64 p) from rfl)
      have HB3 := Lib.hid (below_step2 HB.out hb2 (by simp; omega))
      have hs3 := HB3.out.size
      clear k1 f1 hbw hb2 HB HSL
      rcases hS : sheetB ls
      · have HS := Lib.hid hS
        clear hS
        go_wp2
        go_ret
        exact ⟨ret_bool (HF.out (by rw [HD.out, HS.out]; rfl)).symm, HB3.out⟩
      have HS := Lib.hid hS
      clear hS
      by_cases h0 : k = 0
      · have HK0 := Lib.hid h0
        have hk0 : ¬ (0 < (k : Int)) := by omega
        clear h0
        go_wp2
        go_roundg (vs.length - (k + 1))
        case measure => omega
        case rel => exact ⟨k + 1, by omega, rfl, by go_num, Lib.hid (range_all_succ HA.out (by rw [HD.out, HS.out, if_pos HK0.out, HP0.out HK0.out]; rfl)), HB3.out, by omega⟩
      · have HK0 := Lib.hid h0
        have hk0 : 0 < (k : Int) := by omega
        have hkp : 0 < k := by omega
        have hw1 : IntKind.i64.wrap ((k : Int) - 1) = (k : Int) - 1 := IntWalk.i64_in _ (by omega)
        clear h0
        rcases hI : inR p 0 ((k : Int) - 1)
        · have HI := Lib.hid hI
          clear hI
          go_wp2_with (go_at_call 41; refine (within_eq HI.out _).mono ?_; rintro e w' ⟨rfl, rfl⟩)
          go_ret
          exact ⟨ret_bool (HF.out (by rw [HD.out, HS.out, if_neg HK0.out, HI.out]; rfl)).symm, HB3.out⟩
        · have HI := Lib.hid hI
          clear hI
          go_wp2_with (go_at_call 41; refine (within_eq HI.out _).mono ?_; rintro e w' ⟨rfl, rfl⟩)
          go_roundg (vs.length - (k + 1))
          case measure => omega
          case rel => exact ⟨k + 1, by omega, rfl, by go_num, Lib.hid (range_all_succ HA.out (by rw [HD.out, HS.out, if_neg HK0.out, HI.out]; rfl)), HB3.out, by omega⟩
    · obtain rfl : k = vs.length := by omega
      have HB := Lib.hid hb
      clear hb
      go_wp2
      go_ret
      exact ⟨ret_bool (by unfold versB; rw [HA.out, inR_iff.2 ⟨by omega, by omega⟩]; rfl), HB.out⟩
set_option maxHeartbeats 4000000 in
set_option maxRecDepth 10000 in
theorem sAreVersions_any (v : Value) (vs : List Ver) (w : World) (hv : RdV w v vs) (hq : ∀ x ∈ vs, okVer x) :
    Calls Try.prog 11 #[v] w fun e w' => e = .returned (.bool (versB vs)) ∧ Below w.heap.size w w' := by
  obtain ⟨A, cap, rfl, _, hm, hc⟩ := hv.shape
  have HQ := Lib.hid hq
  have HCELL := Lib.hid hc
  clear hv hq hc
  go_enter Try.func11, Try.ntmps11
  go_wp2
  go_loopg [3] vs.length (fun gi i wr => ∃ k : Nat, k ≤ vs.length ∧ gi = vs.length - k ∧ i = .int .i64 k ∧ Hid ((List.range k).all (verOk vs) = true) ∧ Below w.heap.size w wr ∧ w.heap.size ≤ wr.heap.size)
  case atStart => exact ⟨0, Nat.zero_le _, rfl, rfl, Lib.hid rfl, Below.refl _ _, Nat.le_refl _⟩
  case round =>
    obtain ⟨k, hk, rfl, rfl, HA, hb, hs⟩ := hrel
    by_cases hlt : k < vs.length
    · obtain ⟨b, off, rfl, hbl, hcell⟩ := HCELL.out (by omega)
      obtain ⟨a, c, hc0, hc1, hsl⟩ := hcell k hlt
      have c0 := (hb.cell (p := ⟨b, off + k * 2, none⟩) hbl).trans hc0
      have c1 := (hb.cell (p := ⟨b, off + k * 2 + 1, none⟩) hbl).trans hc1
      have HSL := Lib.hid (hsl.below hb)
      have HB := Lib.hid hb
      have HD := Lib.hid (verOk_at hlt)
      have HQK := Lib.hid (HQ.out _ (List.getElem_mem hlt))
      have HF := Lib.hid (fun h => versB_at (vs := vs) (k := k) hlt h)
      generalize vs[k] = x at *
      obtain ⟨p, ls⟩ := x
      simp only at *
      clear hc0 hc1 hsl hb hcell HCELL
      go_wp2_with fail
      refine (l29Sheet_any _ ls _ HSL.out HQK.out).mono ?_
      rintro e w2 ⟨rfl, hb2⟩
      have e0 := (hb2.cell (p := ⟨b, off + k * 2, none⟩) (by simp; omega)).trans c0
      have HB3 := Lib.hid (below_step2 HB.out hb2 hs)
      have hs3 := HB3.out.size
      clear hb2 HB HSL c0 c1
      rcases hS : sheetB ls
      · have HS := Lib.hid hS
        clear hS
        go_wp2
        go_ret
        exact ⟨ret_bool (HF.out (by rw [HD.out, HS.out]; rfl)).symm, HB3.out⟩
      have HS := Lib.hid hS
      clear hS
      by_cases h0 : k = 0
      · have HK0 := Lib.hid h0
        have hk0 : ¬ (0 < (k : Int)) := by omega
        have hke : ((k : Int) == 0) = true := by rw [beq_iff_eq]; omega
        rcases hP : (p == -1)
        · have HP := Lib.hid hP
          have hp2 : (p != -1) = true := by simp [bne, hP]
          clear h0 hP
          go_wp2
          go_ret
          exact ⟨ret_bool (HF.out (by rw [HD.out, HS.out, if_pos HK0.out, HP.out]; rfl)).symm, HB3.out⟩
        · have HP := Lib.hid hP
          have hp2 : (p != -1) = false := by simp [bne, hP]
          clear h0 hP
          go_wp2
          go_roundg (vs.length - (k + 1))
          case measure => omega
          case rel => exact ⟨k + 1, by omega, rfl, by go_num, Lib.hid (range_all_succ HA.out (by rw [HD.out, HS.out, if_pos HK0.out, HP.out]; rfl)), HB3.out, by omega⟩
      · have HK0 := Lib.hid h0
        have hk0 : 0 < (k : Int) := by omega
        have hkp : 0 < k := by omega
        have hke : ((k : Int) == 0) = false := by rw [beq_eq_false_iff_ne]; omega
        have hw1 : IntKind.i64.wrap ((k : Int) - 1) = (k : Int) - 1 := IntWalk.i64_in _ (by omega)
        clear h0
        rcases hI : inR p 0 ((k : Int) - 1)
        · have HI := Lib.hid hI
          clear hI
          go_wp2_with (go_at_call 38; refine (l01In_eq HI.out _).mono ?_; rintro e w' ⟨rfl, rfl⟩)
          go_ret
          exact ⟨ret_bool (HF.out (by rw [HD.out, HS.out, if_neg HK0.out, HI.out]; rfl)).symm, HB3.out⟩
        · have HI := Lib.hid hI
          clear hI
          go_wp2_with (go_at_call 38; refine (l01In_eq HI.out _).mono ?_; rintro e w' ⟨rfl, rfl⟩)
          go_roundg (vs.length - (k + 1))
          case measure => omega
          case rel => exact ⟨k + 1, by omega, rfl, by go_num, Lib.hid (range_all_succ HA.out (by rw [HD.out, HS.out, if_neg HK0.out, HI.out]; rfl)), HB3.out, by omega⟩
    · obtain rfl : k = vs.length := by omega
      have HB := Lib.hid hb
      clear hb
      go_wp2_with (go_at_call 38; refine (l01In_any _ _ _ _).mono ?_; rintro e w' ⟨rfl, rfl⟩)
      go_ret
      exact ⟨ret_bool (by unfold versB; rw [HA.out]; simp), HB.out⟩
def AreVersions_r (vs : List Ver) : Bool := versB vs
theorem iAreVersions_law (v : Value) (vs : List Ver) (w : World) (hv : RdV w v vs) (_ : totV vs ≤ 1048576) (hq : ∀ x ∈ vs, okVer x) :
    Calls Try.prog 13 #[v] w fun e w' => e = .returned (.bool (AreVersions_r vs)) ∧ Below w.heap.size w w' := iAreVersions_any v vs w hv hq
theorem sAreVersions_law (v : Value) (vs : List Ver) (w : World) (hv : RdV w v vs) (_ : totV vs ≤ 1048576) (hq : ∀ x ∈ vs, okVer x) :
    Calls Try.prog 11 #[v] w fun e w' => e = .returned (.bool (AreVersions_r vs)) ∧ Below w.heap.size w w' := sAreVersions_any v vs w hv hq
end Go.Proofs.Ytklllcehndfcpaa
