/- Contracts of ValueOf, of the functions that say whether versions can be asked, and of the value of a key (chapter 29). No statement of the seat is proved here. -/
import Derived.Test.YtklllcehndfcpaaVersB
import Derived.Test.YtklllcehndfcpaaFind
namespace Go.Proofs.Ytklllcehndfcpaa
open Go.RowKit

def isKeyP (s : ByteArray) (x : Line) : Bool := x.key.toList == s.toList
def valF (ls : List Line) (s : ByteArray) : Int := match ls.find? (isKeyP s) with | some x => x.value | none => -1
theorem valF_at {ls : List Line} {s : ByteArray} {k : Nat} (hk : k < ls.length) (h : (ls.take k).any (isKeyP s) = false) (hp : isKeyP s ls[k] = true) : valF ls s = ls[k].value := by
  have e : ls.find? (isKeyP s) = some ls[k] := by
    rw [List.find?_eq_some_iff_getElem]
    refine ⟨hp, k, hk, rfl, fun j hj => ?_⟩
    rw [List.any_eq_false] at h
    have := h ls[j] (by rw [List.mem_take_iff_getElem]; exact ⟨j, by omega, rfl⟩)
    simpa using this
  unfold valF
  rw [e]
theorem valF_none {ls : List Line} {s : ByteArray} (h : ls.any (isKeyP s) = false) : valF ls s = -1 := by
  have e : ls.find? (isKeyP s) = none := by
    rw [List.find?_eq_none]
    intro x hx
    rw [List.any_eq_false] at h
    simpa using h x hx
  unfold valF
  rw [e]
set_option maxHeartbeats 4000000 in
theorem iValue_any (v : Value) (xs : List Line) (s : ByteArray) (w : World) (hv : Sl eLine w v xs) :
    Calls Try.prog 48 #[v, .string s] w fun e w' => e = .returned (.int .i64 (valF xs s)) ∧ Below w.heap.size w w' := by
  obtain ⟨A, cap, rfl, _, hm, hc⟩ := hv.shape
  go_enter Try.func48, Try.ntmps48
  go_wp2
  go_loopg [9] xs.length (fun gi i wr => ∃ k : Nat, k ≤ xs.length ∧ gi = xs.length - k ∧ i = .int .i64 k ∧ Hid ((xs.take k).any (isKeyP s) = false) ∧ Below w.heap.size w wr ∧ w.heap.size ≤ wr.heap.size)
  case atStart => exact ⟨0, Nat.zero_le _, rfl, rfl, Lib.hid rfl, Below.refl _ _, Nat.le_refl _⟩
  case round =>
    obtain ⟨k, hk, rfl, rfl, HA, hb, hs⟩ := hrel
    by_cases hlt : k < xs.length
    · obtain ⟨b, off, rfl, hbl, hcell⟩ := hc (by omega)
      have c0 : wr.cell? ⟨b, off + k * 2, none⟩ = some (.string xs[k].key) := (hb.cell (p := ⟨b, off + k * 2, none⟩) hbl).trans (by simpa [eLine, Nat.add_assoc] using hcell k hlt 0 _ (by decide) rfl)
      have c1 : wr.cell? ⟨b, off + k * 2 + 1, none⟩ = some (.int .i64 xs[k].value) := (hb.cell (p := ⟨b, off + k * 2 + 1, none⟩) hbl).trans (by simpa [eLine, Nat.add_assoc] using hcell k hlt 1 _ (by decide) rfl)
      have HB := Lib.hid (hb.alloc hs (.cells #[.string xs[k].key, .int .i64 xs[k].value] 72))
      clear hc hcell hb
      rcases hI : isKeyP s xs[k]
      · have HI := Lib.hid hI
        have g : (xs[k].key.toList == s.toList) = false := hI
        clear hI
        go_wp2
        go_roundg (xs.length - (k + 1))
        case measure => omega
        case rel => exact ⟨k + 1, by omega, rfl, by go_num, Lib.hid (any_take_succ k hlt HA.out HI.out), HB.out, by simp; omega⟩
      · have HI := Lib.hid hI
        have g : (xs[k].key.toList == s.toList) = true := hI
        clear hI
        go_wp2
        go_ret
        exact ⟨ret_int (valF_at hlt HA.out HI.out).symm, HB.out⟩
    · obtain rfl : k = xs.length := by omega
      go_wp2
      go_ret
      exact ⟨ret_int (valF_none (any_of_take _ (Nat.le_refl _) HA.out)).symm, hb⟩
set_option maxHeartbeats 4000000 in
theorem sValue_any (v : Value) (xs : List Line) (s : ByteArray) (w : World) (hv : Sl eLine w v xs) :
    Calls Try.prog 45 #[v, .string s] w fun e w' => e = .returned (.int .i64 (valF xs s)) ∧ w = w' := by
  obtain ⟨A, cap, rfl, _, hm, hc⟩ := hv.shape
  go_enter Try.func45, Try.ntmps45
  go_wp2
  go_loop [5] (fun i => ∃ k : Nat, k ≤ xs.length ∧ i = .int .i64 k ∧ Hid ((xs.take k).any (isKeyP s) = false)) (fun i => xs.length - (intOf i).toNat)
  case atStart => exact ⟨0, Nat.zero_le _, rfl, Lib.hid rfl⟩
  case round =>
    obtain ⟨k, hk, rfl, HA⟩ := hrel
    by_cases hlt : k < xs.length
    · obtain ⟨b, off, rfl, hbl, hcell⟩ := hc (by omega)
      have hb := Below.refl w.heap.size w
      have c0 : w.cell? ⟨b, off + k * 2, none⟩ = some (.string xs[k].key) := (hb.cell (p := ⟨b, off + k * 2, none⟩) hbl).trans (by simpa [eLine, Nat.add_assoc] using hcell k hlt 0 _ (by decide) rfl)
      have c1 : w.cell? ⟨b, off + k * 2 + 1, none⟩ = some (.int .i64 xs[k].value) := (hb.cell (p := ⟨b, off + k * 2 + 1, none⟩) hbl).trans (by simpa [eLine, Nat.add_assoc] using hcell k hlt 1 _ (by decide) rfl)
      clear hc hcell hb
      rcases hI : isKeyP s xs[k]
      · have HI := Lib.hid hI
        have g : (xs[k].key.toList == s.toList) = false := hI
        clear hI
        go_wp2
        go_round
        case rel => exact ⟨k + 1, by omega, by go_num, Lib.hid (any_take_succ k hlt HA.out HI.out)⟩
        case measure => simp [intOf]; omega
      · have HI := Lib.hid hI
        have g : (xs[k].key.toList == s.toList) = true := hI
        clear hI
        go_wp2
        go_ret
        exact ⟨ret_int (valF_at hlt HA.out HI.out).symm, rfl⟩
    · obtain rfl : k = xs.length := by omega
      go_wp2
      go_ret
      exact ⟨ret_int (valF_none (any_of_take _ (Nat.le_refl _) HA.out)).symm, rfl⟩
/-- the number of a version -/
def isVerF (vs : List Ver) (n : Int) : Bool := inR n 0 ((vs.length : Int) - 1)
theorem isVerF_iff {vs : List Ver} {n : Int} : isVerF vs n = true ↔ 0 ≤ n ∧ n < vs.length := by unfold isVerF; rw [inR_iff]; omega
def codeF (vs : List Ver) (a b : Int) : Int := if versB vs then (if isVerF vs a && isVerF vs b then 0 else 2) else 1
theorem isVersion_eq {vs : List Ver} {n : Int} {b : Bool} (h : isVerF vs n = b) (A : Option Addr) (cap : Nat) (w : World) (hl : vs.length ≤ 1099511627776) :
    Calls Try.prog 47 #[.slice A vs.length cap, .int .i64 n] w fun e w' => e = .returned (.bool b) ∧ w = w' := by
  subst h
  have hw1 : IntKind.i64.wrap ((vs.length : Int) - 1) = (vs.length : Int) - 1 := IntWalk.i64_in _ (by omega)
  go_enter Try.func47, Try.ntmps47
  go_wp2_with (go_at_call 41; refine (within_any _ _ _ _).mono ?_; rintro e w' ⟨rfl, rfl⟩)
  go_ret
  exact ⟨rfl, rfl⟩
set_option maxHeartbeats 1000000 in
theorem code_any (v : Value) (vs : List Ver) (a b : Int) (w : World) (hv : RdV w v vs) (hq : ∀ x ∈ vs, okVer x) :
    Calls Try.prog 44 #[v, .int .i64 a, .int .i64 b] w fun e w' => e = .returned (.int .i64 (codeF vs a b)) ∧ Below w.heap.size w w' := by
  have HR := Lib.hid hv
  obtain ⟨A, cap, rfl, _, hm, _⟩ := hv.shape
  have hw1 : IntKind.i64.wrap ((vs.length : Int) - 1) = (vs.length : Int) - 1 := IntWalk.i64_in _ (by omega)
  clear hv
  go_enter Try.func44, Try.ntmps44
  go_wp2_with fail
  refine (sAreVersions_any _ vs w HR.out hq).mono ?_
  rintro e w2 ⟨rfl, hb⟩
  clear HR
  rcases h1 : versB vs
  · have H1 := Lib.hid h1
    clear h1
    go_wp2
    go_ret
    exact ⟨ret_int (by unfold codeF; rw [H1.out]; rfl), hb⟩
  have H1 := Lib.hid h1
  clear h1
  rcases h2 : isVerF vs a
  · have H2 := Lib.hid h2
    clear h2
    go_wp2_with (go_at_call 38; refine (l01In_eq H2.out _).mono ?_; rintro e w' ⟨rfl, rfl⟩)
    go_ret
    exact ⟨ret_int (by unfold codeF; rw [H1.out, H2.out]; rfl), hb⟩
  have H2 := Lib.hid h2
  clear h2
  rcases h3 : isVerF vs b
  all_goals
    have H3 := Lib.hid h3
    have TOK : True := trivial
    clear h3
    go_wp2_with (first | (go_at_call 38; clear TOK; refine (l01In_eq H2.out _).mono ?_; rintro e w' ⟨rfl, rfl⟩) | (go_at_call 38; refine (l01In_eq H3.out _).mono ?_; rintro e w' ⟨rfl, rfl⟩))
    go_ret
    exact ⟨ret_int (by unfold codeF; rw [H1.out, H2.out, H3.out]; rfl), hb⟩
set_option maxHeartbeats 1000000 in
theorem twoVersions_any (v : Value) (vs : List Ver) (a b : Int) (w : World) (hv : RdV w v vs) (hq : ∀ x ∈ vs, okVer x) :
    Calls Try.prog 50 #[v, .int .i64 a, .int .i64 b] w fun e w' => e = .returned (.int .i64 (codeF vs a b)) ∧ Below w.heap.size w w' := by
  have HR := Lib.hid hv
  obtain ⟨A, cap, rfl, _, hm, _⟩ := hv.shape
  clear hv
  go_enter Try.func50, Try.ntmps50
  go_wp2_with fail
  refine (iAreVersions_any _ vs w HR.out hq).mono ?_
  rintro e w2 ⟨rfl, hb⟩
  clear HR
  rcases h1 : versB vs
  · have H1 := Lib.hid h1
    clear h1
    go_wp2
    go_ret
    exact ⟨ret_int (by unfold codeF; rw [H1.out]; rfl), hb⟩
  have H1 := Lib.hid h1
  clear h1
  rcases h2 : isVerF vs a
  · have H2 := Lib.hid h2
    clear h2
    go_wp2_with (go_at_call 47; refine (isVersion_eq H2.out _ _ _ hm).mono ?_; rintro e w' ⟨rfl, rfl⟩)
    go_ret
    exact ⟨ret_int (by unfold codeF; rw [H1.out, H2.out]; rfl), hb⟩
  have H2 := Lib.hid h2
  clear h2
  rcases h3 : isVerF vs b
  all_goals
    have H3 := Lib.hid h3
    have TOK : True := trivial
    clear h3
    go_wp2_with (first | (go_at_call 47; clear TOK; refine (isVersion_eq H2.out _ _ _ hm).mono ?_; rintro e w' ⟨rfl, rfl⟩) | (go_at_call 47; refine (isVersion_eq H3.out _ _ _ hm).mono ?_; rintro e w' ⟨rfl, rfl⟩))
    go_ret
    exact ⟨ret_int (by unfold codeF; rw [H1.out, H2.out, H3.out]; rfl), hb⟩
def ValueOf_r (vs : List Ver) (n : Int) (s : ByteArray) : Int × Int := if versB vs && isWord s then (if isVerF vs n then (valF (vs.getD n.toNat zVer).lines s, 0) else (0, 2)) else (0, 1)
theorem ValueOf_1 {vs : List Ver} {n : Int} {s : ByteArray} (h : (versB vs && isWord s) = false) : ValueOf_r vs n s = (0, 1) := by unfold ValueOf_r; rw [h]; rfl
theorem ValueOf_2 {vs : List Ver} {n : Int} {s : ByteArray} (h : (versB vs && isWord s) = true) (h2 : isVerF vs n = false) : ValueOf_r vs n s = (0, 2) := by unfold ValueOf_r; rw [h, h2]; rfl
theorem ValueOf_0 {vs : List Ver} {n : Int} {s : ByteArray} (h : (versB vs && isWord s) = true) (h2 : isVerF vs n = true) : ValueOf_r vs n s = (valF (vs.getD n.toNat zVer).lines s, 0) := by unfold ValueOf_r; rw [h, h2]; rfl
set_option maxHeartbeats 1000000 in
theorem iValueOf_law (v : Value) (vs : List Ver) (n : Int) (s : ByteArray) (w : World) (hv : RdV w v vs) (_ : totV vs ≤ 1048576) (hq : ∀ x ∈ vs, okVer x) (_ : (Lit.int .i64 n).wf = true) (hs : s.size ≤ 1048576) :
    Calls Try.prog 16 #[v, .int .i64 n, .string s] w fun e w' => e = .returned (.tuple #[.int .i64 (ValueOf_r vs n s).1, .int .i64 (ValueOf_r vs n s).2]) ∧ Below w.heap.size w w' := by
  have HR := Lib.hid hv
  obtain ⟨A, cap, rfl, _, hm, _⟩ := hv.shape
  clear hv
  go_enter Try.func16, Try.ntmps16
  go_wp2_with fail
  refine (iAreVersions_any _ vs w HR.out hq).mono ?_
  rintro e w2 ⟨rfl, hb⟩
  have HR2 := Lib.hid (HR.out.below hb)
  clear HR
  rcases h1 : versB vs
  · have HX := Lib.hid (ValueOf_1 (n := n) (s := s) (show (versB vs && isWord s) = false by rw [h1]; rfl))
    clear h1
    go_wp2
    go_ret2
    rw [HX.out]
    exact ⟨rfl, hb⟩
  rcases h2 : isWord s
  · have HX := Lib.hid (ValueOf_1 (n := n) (s := s) (show (versB vs && isWord s) = false by rw [h2]; simp))
    have H2 := Lib.hid h2
    clear h1 h2
    go_wp2_with (go_at_call 46; refine (iIsWord_eq (by omega) H2.out _).mono ?_; rintro e w' ⟨rfl, rfl⟩)
    go_ret2
    rw [HX.out]
    exact ⟨rfl, hb⟩
  have h12 : (versB vs && isWord s) = true := by rw [h1, h2]; rfl
  have H2 := Lib.hid h2
  rcases h3 : isVerF vs n
  · have HX := Lib.hid (ValueOf_2 (n := n) (s := s) h12 h3)
    have H3 := Lib.hid h3
    clear h1 h2 h3 h12
    go_wp2_with (first | (go_at_call 46; refine (iIsWord_eq (by omega) H2.out _).mono ?_; rintro e w' ⟨rfl, rfl⟩) | (go_at_call 47; refine (isVersion_eq H3.out _ _ _ hm).mono ?_; rintro e w' ⟨rfl, rfl⟩))
    go_ret2
    rw [HX.out]
    exact ⟨rfl, hb⟩
  have HX := Lib.hid (ValueOf_0 (n := n) (s := s) h12 h3)
  have H3 := Lib.hid h3
  obtain ⟨n0, n1⟩ := isVerF_iff.1 h3
  obtain ⟨k, rfl⟩ := Int.eq_ofNat_of_zero_le n0
  have hlt : k < vs.length := by omega
  obtain ⟨A', cap', e, _, _, hc⟩ := HR2.out.shape
  cases e
  obtain ⟨b, off, rfl, hbl, hcell⟩ := hc (by omega)
  obtain ⟨a, c, c0, c1, hsl⟩ := hcell k hlt
  have HSL := Lib.hid hsl
  have HB := Lib.hid hb
  have HX2 : Hid (ValueOf_r vs (k : Int) s = (valF vs[k].lines s, 0)) := Lib.hid (by rw [HX.out, Int.toNat_natCast, getD_at vs zVer k hlt])
  clear h1 h2 h3 h12 hcell hc hsl c0 hb n0 HR2 HX
  generalize vs[k].lines = ls at *
  go_wp2_with (first | (go_at_call 46; refine (iIsWord_eq (by omega) H2.out _).mono ?_; rintro e w' ⟨rfl, rfl⟩) | (go_at_call 47; refine (isVersion_eq H3.out _ _ _ hm).mono ?_; rintro e w' ⟨rfl, rfl⟩))
  refine (iValue_any _ ls s w2 HSL.out).mono ?_
  rintro e w3 ⟨rfl, hb3⟩
  have HB3 := Lib.hid (below_step2 HB.out hb3 HB.out.size)
  clear hb3
  go_wp2
  go_ret2
  rw [HX2.out]
  exact ⟨rfl, HB3.out⟩
theorem code1 {vs : List Ver} {a b : Int} (h : versB vs = false) : codeF vs a b = 1 := by unfold codeF; rw [h]; rfl
theorem code2 {vs : List Ver} {a b : Int} (h : versB vs = true) (h2 : (isVerF vs a && isVerF vs b) = false) : codeF vs a b = 2 := by unfold codeF; rw [h, h2]; rfl
theorem code0 {vs : List Ver} {a b : Int} (h : versB vs = true) (h2 : (isVerF vs a && isVerF vs b) = true) : codeF vs a b = 0 := by unfold codeF; rw [h, h2]; rfl
theorem code_same {vs : List Ver} {a : Int} {b : Bool} (h : isVerF vs a = b) : (isVerF vs a && isVerF vs a) = b := by rw [h]; simp
set_option maxHeartbeats 1000000 in
theorem sValueOf_law (v : Value) (vs : List Ver) (n : Int) (s : ByteArray) (w : World) (hv : RdV w v vs) (_ : totV vs ≤ 1048576) (hq : ∀ x ∈ vs, okVer x) (_ : (Lit.int .i64 n).wf = true) (hs : s.size ≤ 1048576) :
    Calls Try.prog 15 #[v, .int .i64 n, .string s] w fun e w' => e = .returned (.tuple #[.int .i64 (ValueOf_r vs n s).1, .int .i64 (ValueOf_r vs n s).2]) ∧ Below w.heap.size w w' := by
  have HR := Lib.hid hv
  obtain ⟨A, cap, rfl, _, hm, _⟩ := hv.shape
  clear hv
  go_enter Try.func15, Try.ntmps15
  go_wp2_with fail
  refine (sIsWord_any s w (by omega)).mono ?_
  rintro e _ ⟨rfl, rfl⟩
  rcases h2 : isWord s
  · have HX := Lib.hid (ValueOf_1 (vs := vs) (n := n) (s := s) (show (versB vs && isWord s) = false by rw [h2]; simp))
    clear h2
    go_wp2
    go_ret2
    rw [HX.out]
    exact ⟨rfl, Below.refl _ _⟩
  have H2 := Lib.hid h2
  clear h2
  go_wp2_with fail
  refine (code_any _ vs n n w HR.out hq).mono ?_
  rintro e w2 ⟨rfl, hb⟩
  have HR2 := Lib.hid (HR.out.below hb)
  clear HR
  rcases h1 : versB vs
  · have HX := Lib.hid (ValueOf_1 (n := n) (s := s) (show (versB vs && isWord s) = false by rw [h1]; rfl))
    rw [code1 h1]
    clear h1
    go_wp2
    go_ret2
    rw [HX.out]
    exact ⟨rfl, hb⟩
  have h12 : (versB vs && isWord s) = true := by rw [h1, H2.out]; rfl
  rcases h3 : isVerF vs n
  · have HX := Lib.hid (ValueOf_2 (n := n) (s := s) h12 h3)
    rw [code2 h1 (code_same h3)]
    clear h1 h3 h12
    go_wp2
    go_ret2
    rw [HX.out]
    exact ⟨rfl, hb⟩
  have HX := Lib.hid (ValueOf_0 (n := n) (s := s) h12 h3)
  rw [code0 h1 (code_same h3)]
  obtain ⟨n0, n1⟩ := isVerF_iff.1 h3
  obtain ⟨k, rfl⟩ := Int.eq_ofNat_of_zero_le n0
  have hlt : k < vs.length := by omega
  obtain ⟨A', cap', e, _, _, hc⟩ := HR2.out.shape
  cases e
  obtain ⟨b, off, rfl, hbl, hcell⟩ := hc (by omega)
  obtain ⟨a, c, c0, c1, hsl⟩ := hcell k hlt
  have HSL := Lib.hid hsl
  have HB := Lib.hid hb
  have HX2 : Hid (ValueOf_r vs (k : Int) s = (valF vs[k].lines s, 0)) := Lib.hid (by rw [HX.out, Int.toNat_natCast, getD_at vs zVer k hlt])
  clear h1 h3 h12 hcell hc hsl c0 hb n0 HR2 HX
  generalize vs[k].lines = ls at *
  go_wp2_with fail
  refine (sValue_any _ ls s w2 HSL.out).mono ?_
  rintro e _ ⟨rfl, rfl⟩
  go_wp2
  go_ret2
  rw [HX2.out]
  exact ⟨rfl, HB.out⟩
end Go.Proofs.Ytklllcehndfcpaa
