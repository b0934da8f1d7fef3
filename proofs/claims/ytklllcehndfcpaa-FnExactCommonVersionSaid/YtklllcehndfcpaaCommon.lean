/- Contracts of CommonVersion (chapter 29). No statement of the seat is proved here. -/
import Derived.Test.YtklllcehndfcpaaWay
namespace Go.Proofs.Ytklllcehndfcpaa
open Go.RowKit

def inWay (vs : List Ver) (b x : Int) : Bool := (wayF vs b).any (· == x)
def commonF (vs : List Ver) (a b : Int) : Int := ((wayF vs a).find? (inWay vs b)).getD 0
theorem find_congr {α : Type} {p q : α → Bool} : ∀ (l : List α), (∀ x ∈ l, p x = q x) → l.find? p = l.find? q
  | [], _ => rfl
  | x :: l, h => by
    rw [List.find?_cons, List.find?_cons, h x (List.mem_cons_self ..), find_congr l (fun y hy => h y (List.mem_cons_of_mem _ hy))]
theorem way_le {vs : List Ver} (h : versB vs = true) : ∀ (n : Nat) (c : Int), c < n → c < vs.length → ∀ x ∈ wayF vs c, x ≤ c
  | n, c, h1, h2, x, hx => by
    by_cases h0 : c < 0
    · rw [wayF_neg vs h0] at hx; simp at hx
    · obtain ⟨k, rfl⟩ := Int.eq_ofNat_of_zero_le (show 0 ≤ c by omega)
      have hk : k < vs.length := by omega
      have hp := versB_par h hk
      rw [wayF_at h hk] at hx
      match n, h1 with
      | n + 1, h1 =>
        rcases List.mem_cons.1 hx with rfl | hx
        · omega
        · have := way_le h n vs[k].parent (by omega) (by omega) x hx
          omega
theorem way_le' {vs : List Ver} (h : versB vs = true) {c : Int} (hc : c < vs.length) {x : Int} (hx : x ∈ wayF vs c) : x ≤ c := way_le h vs.length c (by omega) hc x hx
theorem common_same {vs : List Ver} (h : versB vs = true) {k : Nat} (hk : k < vs.length) : commonF vs k k = k := by
  unfold commonF
  rw [wayF_at h hk, List.find?_cons]
  have e : inWay vs (k : Int) (k : Int) = true := by unfold inWay; rw [wayF_at h hk]; simp
  rw [e]
  rfl
theorem common_left {vs : List Ver} (h : versB vs = true) {k : Nat} (hk : k < vs.length) {d : Int} (hd : d < k) : commonF vs k d = commonF vs vs[k].parent d := by
  unfold commonF
  rw [wayF_at h hk, List.find?_cons]
  have e : inWay vs d (k : Int) = false := by
    unfold inWay
    rw [List.any_eq_false]
    intro x hx hh
    have := way_le' h (by omega) hx
    have : x = k := by simpa using hh
    omega
  rw [e]
theorem common_right {vs : List Ver} (h : versB vs = true) {k : Nat} (hk : k < vs.length) {c : Int} (hc : c < k) : commonF vs c k = commonF vs c vs[k].parent := by
  unfold commonF
  rw [find_congr (wayF vs c) (p := inWay vs (k : Int)) (q := inWay vs vs[k].parent)]
  intro x hx
  have hx' := way_le' h (by omega) hx
  unfold inWay
  rw [wayF_at h hk, List.any_cons]
  have e : ((k : Int) == x) = false := by rw [beq_eq_false_iff_ne]; omega
  rw [e, Bool.false_or]
set_option maxHeartbeats 4000000 in
set_option maxRecDepth 10000 in
theorem iCommon_any (v : Value) (vs : List Ver) (a b : Int) (w : World) (hv : RdV w v vs) (hvs : versB vs = true) (ha : isVerF vs a = true) (hb : isVerF vs b = true) :
    Calls Try.prog 51 #[v, .int .i64 a, .int .i64 b] w fun e w' => e = .returned (.int .i64 (commonF vs a b)) ∧ w = w' := by
  obtain ⟨a0, a1⟩ := isVerF_iff.1 ha
  obtain ⟨b0, b1⟩ := isVerF_iff.1 hb
  obtain ⟨l1, l20⟩ := versB_n hvs
  obtain ⟨i, rfl⟩ := Int.eq_ofNat_of_zero_le a0
  obtain ⟨j, rfl⟩ := Int.eq_ofNat_of_zero_le b0
  obtain ⟨A, cap, rfl, _, hm, hc⟩ := hv.shape
  obtain ⟨bl, off, rfl, hbl, hcell⟩ := hc (by omega)
  have HC := Lib.hid hcell
  have HV := Lib.hid hvs
  clear hv ha hb hc hcell hvs a0 b0
  go_enter Try.func51, Try.ntmps51
  go_wp2
  go_loop [1, 2] (fun x y => ∃ (p q : Nat), x = .int .i64 p ∧ y = .int .i64 q ∧ p < vs.length ∧ q < vs.length ∧ Hid (commonF vs p q = commonF vs i j)) (fun x y => (intOf x).toNat + (intOf y).toNat)
  case atStart => exact ⟨i, j, rfl, rfl, by omega, by omega, Lib.hid rfl⟩
  case round =>
    obtain ⟨p, q, rfl, rfl, hp, hq, HX⟩ := hrel
    by_cases he : p = q
    · subst he
      have hne : ((p : Int) != (p : Int)) = false := by simp
      have HR := Lib.hid ((common_same HV.out hp).symm.trans HX.out)
      go_wp2
      go_ret
      exact ⟨ret_int HR.out, rfl⟩
    have hne : ((p : Int) != (q : Int)) = true := by rw [bne_iff_ne]; omega
    rcases Nat.lt_or_gt_of_ne he with hlt | hlt
    · obtain ⟨a, c, d0, _, _⟩ := HC.out q hq
      have hpr := versB_par HV.out hq
      have HY := Lib.hid ((common_right HV.out hq (c := (p : Int)) (by omega)).symm.trans HX.out)
      have hng : ¬ ((q : Int) < (p : Int)) := by omega
      have hng2 : decide ((q : Int) < (p : Int)) = false := decide_eq_false hng
      have hng3 : ¬ (q < p) := by omega
      obtain ⟨r, hr⟩ := Int.eq_ofNat_of_zero_le (hpr.2.2.1 (by omega))
      rw [hr] at d0 HY
      have hrq : r < q := by omega
      clear hpr hr HX
      go_wp2
      go_round
      case rel => exact ⟨p, r, rfl, rfl, by omega, by omega, HY⟩
      case measure => simp [intOf]; omega
    · obtain ⟨a, c, d0, _, _⟩ := HC.out p hp
      have hpr := versB_par HV.out hp
      have HY := Lib.hid ((common_left HV.out hp (d := (q : Int)) (by omega)).symm.trans HX.out)
      have hng : (q : Int) < (p : Int) := by omega
      obtain ⟨r, hr⟩ := Int.eq_ofNat_of_zero_le (hpr.2.2.1 (by omega))
      rw [hr] at d0 HY
      have hrq : r < p := by omega
      clear hpr hr HX
      go_wp2
      go_round
      case rel => exact ⟨r, q, rfl, rfl, by omega, by omega, HY⟩
      case measure => simp [intOf]; omega
theorem common_hit {vs : List Ver} {a b : Int} {k : Nat} (hk : k < (wayF vs a).length) (h : ((wayF vs a).take k).any (inWay vs b) = false) (hp : inWay vs b (wayF vs a)[k] = true) : commonF vs a b = (wayF vs a)[k] := by
  have e : (wayF vs a).find? (inWay vs b) = some (wayF vs a)[k] := by
    rw [List.find?_eq_some_iff_getElem]
    refine ⟨hp, k, hk, rfl, fun j hj => ?_⟩
    rw [List.any_eq_false] at h
    have := h (wayF vs a)[j] (by rw [List.mem_take_iff_getElem]; exact ⟨j, by omega, rfl⟩)
    simpa using this
  unfold commonF
  rw [e]
  rfl
theorem common_miss {vs : List Ver} {a b : Int} (h : (wayF vs a).any (inWay vs b) = false) : commonF vs a b = 0 := by
  have e : (wayF vs a).find? (inWay vs b) = none := by
    rw [List.find?_eq_none]
    intro x hx
    rw [List.any_eq_false] at h
    simpa using h x hx
  unfold commonF
  rw [e]
  rfl
set_option maxHeartbeats 4000000 in
set_option maxRecDepth 10000 in
theorem sCommon_any (v : Value) (vs : List Ver) (a b : Int) (w : World) (hv : RdV w v vs) (hvs : versB vs = true) (ha : isVerF vs a = true) (hb : isVerF vs b = true) :
    Calls Try.prog 49 #[v, .int .i64 a, .int .i64 b] w fun e w' => e = .returned (.int .i64 (commonF vs a b)) ∧ Below w.heap.size w w' := by
  have HV := Lib.hid hv
  obtain ⟨A, cap, rfl, _, hm, _⟩ := hv.shape
  have hla : (wayF vs a).length ≤ 20 := wayF_len hvs 20 a (by have := isVerF_iff.1 ha; have := versB_n hvs; omega) (isVerF_iff.1 ha).2
  have hlb : (wayF vs b).length ≤ 20 := wayF_len hvs 20 b (by have := isVerF_iff.1 hb; have := versB_n hvs; omega) (isVerF_iff.1 hb).2
  clear hv
  go_enter Try.func49, Try.ntmps49
  go_wp2_with fail
  refine (sWay_any _ vs b w HV.out hvs hb).mono ?_
  rintro e w2 ⟨u, rfl, ho, hb2⟩
  have HV2 := Lib.hid (HV.out.below hb2)
  have HO := Lib.hid ho
  have HB2 := Lib.hid hb2
  clear ho HV hb2
  go_wp2_with fail
  refine (sWay_any _ vs a w2 HV2.out hvs ha).mono ?_
  rintro e w3 ⟨u2, rfl, ho2, hb3⟩
  have HS1 := Lib.hid (Sl.of_own (HO.out.below hb3) (by unfold big40; omega))
  have hs2 := Sl.of_own ho2 (by unfold big40; omega)
  obtain ⟨A2, cap2, rfl, _, _, hcw⟩ := Ints.shape hs2
  have HB3 := Lib.hid (below_step2 HB2.out hb3 HB2.out.size)
  have HHIT := Lib.hid (fun k hk => @common_hit vs a b k hk)
  have HMISS := Lib.hid (@common_miss vs a b)
  have HIN : Hid (∀ x, inWay vs b x = (wayF vs b).any (· == x)) := Lib.hid (fun _ => rfl)
  have HCW := Lib.hid hcw
  clear HV2 HO HB2 ho2 hb3 hs2 hvs ha hb hcw
  generalize wayF vs a = L at *
  generalize wayF vs b = M at *
  go_wp2
  go_loop [9] (fun i => ∃ k : Nat, k ≤ L.length ∧ i = .int .i64 k ∧ Hid ((L.take k).any (inWay vs b) = false)) (fun i => L.length - (intOf i).toNat)
  case atStart => exact ⟨0, Nat.zero_le _, rfl, Lib.hid rfl⟩
  case round =>
    obtain ⟨k, hk, rfl, HA⟩ := hrel
    by_cases hlt : k < L.length
    · obtain ⟨bb, off, rfl, _, hcell⟩ := HCW.out (by omega)
      have hck := hcell k hlt
      clear hcell
      rcases hx : inWay vs b L[k]
      · have HX := Lib.hid hx
        clear hx
        go_wp2_with fail
        refine (l01Has_any u M L[k] w3 HS1.out).mono ?_
        rintro e _ ⟨rfl, rfl⟩
        rw [← HIN.out, HX.out]
        go_wp2
        go_round
        case rel => exact ⟨k + 1, by omega, by go_num, Lib.hid (by rw [List.take_succ_eq_append_getElem hlt, List.any_append, HA.out]; simp [HX.out])⟩
        case measure => simp [intOf]; omega
      · have HX := Lib.hid hx
        clear hx
        go_wp2_with fail
        refine (l01Has_any u M L[k] w3 HS1.out).mono ?_
        rintro e _ ⟨rfl, rfl⟩
        rw [← HIN.out, HX.out]
        go_wp2
        go_ret
        exact ⟨ret_int (HHIT.out k hlt HA.out HX.out).symm, HB3.out⟩
    · obtain rfl : k = L.length := by omega
      go_wp2
      go_ret
      exact ⟨ret_int (HMISS.out (by have h := HA.out; rwa [List.take_of_length_le (Nat.le_refl _)] at h)).symm, HB3.out⟩
def CommonVersion_r (vs : List Ver) (a b : Int) : Int × Int := if codeF vs a b = 0 then (commonF vs a b, 0) else (0, codeF vs a b)
theorem codeF_cases (vs : List Ver) (a b : Int) : (codeF vs a b = 0 ∧ versB vs = true ∧ isVerF vs a = true ∧ isVerF vs b = true) ∨ codeF vs a b = 1 ∨ codeF vs a b = 2 := by
  unfold codeF
  rcases versB vs <;> rcases isVerF vs a <;> rcases isVerF vs b <;> simp
set_option maxHeartbeats 1000000 in
theorem iCommonVersion_law (v : Value) (vs : List Ver) (a b : Int) (w : World) (hv : RdV w v vs) (_ : totV vs ≤ 1048576) (hq : ∀ x ∈ vs, okVer x) (_ : (Lit.int .i64 a).wf = true) (_ : (Lit.int .i64 b).wf = true) :
    Calls Try.prog 18 #[v, .int .i64 a, .int .i64 b] w fun e w' => e = .returned (.tuple #[.int .i64 (CommonVersion_r vs a b).1, .int .i64 (CommonVersion_r vs a b).2]) ∧ Below w.heap.size w w' := by
  have HR := Lib.hid hv
  obtain ⟨A, cap, rfl, _, hm, _⟩ := hv.shape
  have HX : Hid (CommonVersion_r vs a b = if codeF vs a b = 0 then (commonF vs a b, 0) else (0, codeF vs a b)) := Lib.hid rfl
  clear hv
  go_enter Try.func18, Try.ntmps18
  go_wp2_with fail
  refine (twoVersions_any _ vs a b w HR.out hq).mono ?_
  rintro e w2 ⟨rfl, hb⟩
  have HR2 := Lib.hid (HR.out.below hb)
  have HB := Lib.hid hb
  clear HR hb
  rcases codeF_cases vs a b with ⟨h0, h1, h2, h3⟩ | h0 | h0
  · have H1 := Lib.hid h1
    have H2 := Lib.hid h2
    have H3 := Lib.hid h3
    have H0 := Lib.hid h0
    rw [h0]
    clear h0 h1 h2 h3
    go_wp2_with fail
    refine (iCommon_any _ vs a b w2 HR2.out H1.out H2.out H3.out).mono ?_
    rintro e _ ⟨rfl, rfl⟩
    go_wp2
    go_ret2
    rw [HX.out, if_pos H0.out]
    exact ⟨rfl, HB.out⟩
  all_goals
    have H0 := Lib.hid h0
    rw [h0]
    clear h0
    go_wp2
    go_ret2
    rw [HX.out, H0.out]
    exact ⟨rfl, HB.out⟩
set_option maxHeartbeats 1000000 in
theorem sCommonVersion_law (v : Value) (vs : List Ver) (a b : Int) (w : World) (hv : RdV w v vs) (_ : totV vs ≤ 1048576) (hq : ∀ x ∈ vs, okVer x) (_ : (Lit.int .i64 a).wf = true) (_ : (Lit.int .i64 b).wf = true) :
    Calls Try.prog 17 #[v, .int .i64 a, .int .i64 b] w fun e w' => e = .returned (.tuple #[.int .i64 (CommonVersion_r vs a b).1, .int .i64 (CommonVersion_r vs a b).2]) ∧ Below w.heap.size w w' := by
  have HR := Lib.hid hv
  obtain ⟨A, cap, rfl, _, hm, _⟩ := hv.shape
  have HX : Hid (CommonVersion_r vs a b = if codeF vs a b = 0 then (commonF vs a b, 0) else (0, codeF vs a b)) := Lib.hid rfl
  clear hv
  go_enter Try.func17, Try.ntmps17
  go_wp2_with fail
  refine (code_any _ vs a b w HR.out hq).mono ?_
  rintro e w2 ⟨rfl, hb⟩
  have HR2 := Lib.hid (HR.out.below hb)
  have HB := Lib.hid hb
  clear HR hb
  rcases codeF_cases vs a b with ⟨h0, h1, h2, h3⟩ | h0 | h0
  · have H1 := Lib.hid h1
    have H2 := Lib.hid h2
    have H3 := Lib.hid h3
    have H0 := Lib.hid h0
    rw [h0]
    clear h0 h1 h2 h3
    go_wp2_with fail
    refine (sCommon_any _ vs a b w2 HR2.out H1.out H2.out H3.out).mono ?_
    rintro e w3 ⟨rfl, hb3⟩
    have HB3 := Lib.hid (below_step2 HB.out hb3 HB.out.size)
    clear hb3
    go_wp2
    go_ret2
    rw [HX.out, if_pos H0.out]
    exact ⟨rfl, HB3.out⟩
  all_goals
    have H0 := Lib.hid h0
    rw [h0]
    clear h0
    go_wp2
    go_ret2
    rw [HX.out, H0.out]
    exact ⟨rfl, HB.out⟩
end Go.Proofs.Ytklllcehndfcpaa
