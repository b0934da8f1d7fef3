/- Contracts of DiscountOf, NextTier and TotalOf (chapter 27). No statement of the seat is proved here. -/
import Derived.Test.YtfiapefkomolmaaSums
import Derived.Test.YtfiapefkomolmaaTiers
namespace Go.Proofs.Ytfiapefkomolmaa
open Go.RowKit

theorem areTiers_at {ts : List Tier} (h : areTiers ts = true) : ts.length ≤ 5 ∧ ∀ (k : Nat) (hk : k < ts.length), 0 ≤ ts[k].from_ ∧ ts[k].from_ ≤ 100000000 ∧ 0 ≤ ts[k].percent ∧ ts[k].percent ≤ 100 := by
  unfold areTiers at h
  rw [Bool.and_eq_true, decide_eq_true_eq, List.all_eq_true] at h
  refine ⟨h.1, fun k hk => ?_⟩
  have h2 := h.2 k (List.mem_range.2 hk)
  unfold tierOk at h2
  rw [getD_at _ _ _ hk] at h2
  simp only [Bool.and_eq_true, inR_iff] at h2
  exact ⟨h2.1.1.1, h2.1.1.2, h2.1.2.1, h2.1.2.2⟩
def pctL (ts : List Tier) (p : Int) : Nat → Int
  | 0 => 0
  | k + 1 => if (ts.getD k zTier).from_ ≤ p then (ts.getD k zTier).percent else pctL ts p k
theorem pctL_yes {ts : List Tier} {p : Int} {k : Nat} (h : (ts.getD k zTier).from_ ≤ p) : pctL ts p (k + 1) = (ts.getD k zTier).percent := by rw [pctL, if_pos h]
theorem pctL_no {ts : List Tier} {p : Int} {k : Nat} (h : ¬ (ts.getD k zTier).from_ ≤ p) : pctL ts p (k + 1) = pctL ts p k := by rw [pctL, if_neg h]
theorem pctL_bd {ts : List Tier} (h : areTiers ts = true) (p : Int) : ∀ k, k ≤ ts.length → 0 ≤ pctL ts p k ∧ pctL ts p k ≤ 100
  | 0, _ => by simp [pctL]
  | k + 1, hk => by
    have ih := pctL_bd h p k (by omega)
    have h1 := (areTiers_at h).2 k (by omega)
    rw [pctL, getD_at _ _ _ (by omega)]
    split <;> omega
def discF (p : Int) (ts : List Tier) : Int := p * pctL ts p ts.length / 100
theorem discF_bd {ts : List Tier} (h : areTiers ts = true) {p : Int} (h0 : 0 ≤ p) : 0 ≤ discF p ts ∧ discF p ts ≤ p := by
  have h1 := pctL_bd h p ts.length (Nat.le_refl _)
  have hm := mul_in h0 (Int.le_refl p) h1.1 h1.2
  unfold discF
  omega
theorem parts_bd {xs : List Item} (h : areItems xs = true) : 0 ≤ partS xs xs.length ∧ partS xs xs.length ≤ allS xs xs.length ∧ allS xs xs.length ≤ 20000000000 := by
  have h1 := sums_bd h xs.length (Nat.le_refl _)
  have h2 := (areItems_at h).1
  omega

set_option maxHeartbeats 2000000 in
theorem discount_any (p : Int) (v : Value) (ts : List Tier) (w : World) (hv : Sl eTier w v ts) (ha : areTiers ts = true) (h0 : 0 ≤ p) (h1 : p ≤ 20000000000) :
    Calls Try.prog 70 #[.int .i64 p, v] w fun e w' => e = .returned (.int .i64 (discF p ts)) ∧ Below w.heap.size w w' := by
  obtain ⟨A, cap, rfl, _, hm, hc⟩ := hv.shape
  have HA := Lib.hid ha
  obtain ⟨h5, hat⟩ := areTiers_at ha
  have HT := Lib.hid hat
  clear ha hat
  go_enter Try.func70, Try.ntmps70
  go_wp2
  go_loopg [10, 5] ts.length (fun gi i a wr => ∃ (k : Nat) (q : Int), k ≤ ts.length ∧ gi = ts.length - k ∧ i = .int .i64 k ∧ a = .int .i64 q ∧ Hid (pctL ts p k = q) ∧ Below w.heap.size w wr ∧ w.heap.size ≤ wr.heap.size)
  case atStart => exact ⟨0, 0, Nat.zero_le _, rfl, rfl, rfl, Lib.hid rfl, Below.refl _ _, Nat.le_refl _⟩
  case round =>
    obtain ⟨k, q, hk, rfl, rfl, rfl, HP, hb, hs⟩ := hrel
    by_cases hlt : k < ts.length
    · obtain ⟨b, off, rfl, hbl, hcell⟩ := hc (by omega)
      have c0 : wr.cell? ⟨b, off + k * 2, none⟩ = some (.int .i64 ts[k].from_) := (hb.cell (p := ⟨b, off + k * 2, none⟩) hbl).trans (by simpa [eTier, Nat.add_assoc] using hcell k hlt 0 _ (by decide) rfl)
      have c1 : wr.cell? ⟨b, off + k * 2 + 1, none⟩ = some (.int .i64 ts[k].percent) := (hb.cell (p := ⟨b, off + k * 2 + 1, none⟩) hbl).trans (by simpa [eTier, Nat.add_assoc] using hcell k hlt 1 _ (by decide) rfl)
      have HB := Lib.hid (hb.alloc hs (.cells #[.int .i64 ts[k].from_, .int .i64 ts[k].percent] 72))
      have HG := Lib.hid (getD_at ts zTier k hlt)
      clear hc hcell hb
      generalize ts[k] = x at *
      obtain ⟨fr, pc⟩ := x
      simp only at *
      by_cases hf : fr ≤ p
      all_goals
        go_wp2
        go_roundg (ts.length - (k + 1))
        case measure => omega
        case rel => exact ⟨k + 1, _, by omega, rfl, by go_num, rfl, Lib.hid (by first | rw [pctL_yes (by rw [HG.out]; exact hf), HG.out] | (rw [pctL_no (by rw [HG.out]; show ¬ fr ≤ p; omega)]; exact HP.out)), HB.out, by simp; omega⟩
    · obtain rfl : k = ts.length := by omega
      have hq := pctL_bd HA.out p ts.length (Nat.le_refl _)
      rw [HP.out] at hq
      obtain ⟨q0, q1⟩ := hq
      have hmm := mul_in h0 (Int.le_refl p) q0 q1
      obtain ⟨m1, m2⟩ := hmm
      have hw1 : IntKind.i64.wrap (p * q) = p * q := IntWalk.i64_in _ (by omega)
      go_wp2
      go_ret
      exact ⟨ret_int (by unfold discF; rw [HP.out]; try omega), hb⟩
set_option maxHeartbeats 2000000 in
theorem l27Discount_any (v0 : Value) (xs : List Item) (v : Value) (ts : List Tier) (w : World) (hv0 : Sl eItem w v0 xs) (hx : areItems xs = true) (hv : Sl eTier w v ts) (ha : areTiers ts = true) :
    Calls Try.prog 69 #[v0, v] w fun e w' => e = .returned (.int .i64 (discF (partS xs xs.length) ts)) ∧ Below w.heap.size w w' := by
  obtain ⟨h0, h00, h01⟩ := parts_bd hx
  have h1 : partS xs xs.length ≤ 20000000000 := by omega
  clear h00 h01
  obtain ⟨A0, cap0, rfl, _⟩ := hv0.shape
  obtain ⟨A, cap, rfl, _, hm, hc⟩ := hv.shape
  have HA := Lib.hid ha
  obtain ⟨h5, hat⟩ := areTiers_at ha
  have HT := Lib.hid hat
  have HX := Lib.hid hx
  clear ha hat hx
  have hS := sSums_any _ xs w hv0 HX.out
  generalize partS xs xs.length = p at *
  generalize allS xs xs.length = p0 at *
  have HS := Lib.hid hS
  clear hS
  go_enter Try.func69, Try.ntmps69
  go_wp2_with fail
  refine (HS.out).mono ?_
  rintro e w1 ⟨rfl, hb1⟩
  have hs1 := hb1.size
  clear hv0 hv
  go_wp2
  go_loopg [8, 7] ts.length (fun gi i a wr => ∃ (k : Nat) (q : Int), k ≤ ts.length ∧ gi = ts.length - k ∧ i = .int .i64 k ∧ a = .int .i64 q ∧ Hid (pctL ts p k = q) ∧ Below w.heap.size w wr ∧ w.heap.size ≤ wr.heap.size)
  case atStart => exact ⟨0, 0, Nat.zero_le _, rfl, rfl, rfl, Lib.hid rfl, hb1, hs1⟩
  case round =>
    obtain ⟨k, q, hk, rfl, rfl, rfl, HP, hb, hs⟩ := hrel
    clear hb1 hs1
    by_cases hlt : k < ts.length
    · obtain ⟨b, off, rfl, hbl, hcell⟩ := hc (by omega)
      have c0 : wr.cell? ⟨b, off + k * 2, none⟩ = some (.int .i64 ts[k].from_) := (hb.cell (p := ⟨b, off + k * 2, none⟩) hbl).trans (by simpa [eTier, Nat.add_assoc] using hcell k hlt 0 _ (by decide) rfl)
      have c1 : wr.cell? ⟨b, off + k * 2 + 1, none⟩ = some (.int .i64 ts[k].percent) := (hb.cell (p := ⟨b, off + k * 2 + 1, none⟩) hbl).trans (by simpa [eTier, Nat.add_assoc] using hcell k hlt 1 _ (by decide) rfl)
      have HG := Lib.hid (getD_at ts zTier k hlt)
      clear hc hcell
      generalize ts[k] = x at *
      obtain ⟨fr, pc⟩ := x
      simp only at *
      by_cases hf : fr ≤ p
      all_goals
        go_wp2
        go_roundg (ts.length - (k + 1))
        case measure => omega
        case rel => exact ⟨k + 1, _, by omega, rfl, by go_num, rfl, Lib.hid (by first | rw [pctL_yes (by rw [HG.out]; exact hf), HG.out] | (rw [pctL_no (by rw [HG.out]; show ¬ fr ≤ p; omega)]; exact HP.out)), hb, hs⟩
    · obtain rfl : k = ts.length := by omega
      have hq := pctL_bd HA.out p ts.length (Nat.le_refl _)
      rw [HP.out] at hq
      obtain ⟨q0, q1⟩ := hq
      have hmm := mul_in h0 (Int.le_refl p) q0 q1
      obtain ⟨m1, m2⟩ := hmm
      have hw1 : IntKind.i64.wrap (p * q) = p * q := IntWalk.i64_in _ (by omega)
      go_wp2
      go_ret
      exact ⟨ret_int (by unfold discF; rw [HP.out]; try omega), hb⟩
def billB (xs : List Item) (ts : List Tier) : Bool := areItems xs && areTiers ts
def billCode (xs : List Item) (ts : List Tier) (r : Int) : Int := if areItems xs && areTiers ts then (if inR r 0 50 then 0 else 2) else 1
set_option maxHeartbeats 2000000 in
theorem l27Code_any (v0 : Value) (xs : List Item) (v : Value) (ts : List Tier) (r : Int) (w : World) (hv0 : Sl eItem w v0 xs) (hq : ∀ x ∈ xs, okItem x) (hv : Sl eTier w v ts) :
    Calls Try.prog 68 #[v0, v, .int .i64 r] w fun e w' => e = .returned (.int .i64 (billCode xs ts r)) ∧ Below w.heap.size w w' := by
  unfold billCode
  rcases hA : areItems xs <;> rcases hT : areTiers ts <;> rcases hR : inR r 0 50
  all_goals
    have HA := Lib.hid hA
    have HT := Lib.hid hT
    have HR := Lib.hid hR
    clear hA hT hR
    go_enter Try.func68, Try.ntmps68
    go_wp2_with fail
    refine (sAreItems_any v0 xs w hv0 hq).mono ?_
    rintro e w1 ⟨rfl, hb⟩
    rw [HA.out]
    have hv1 := hv.below hb
    go_wp2_with fail
    try
      refine (sAreTiers_any v ts w1 hv1).mono ?_
      rintro e w2 ⟨rfl, hb2⟩
      rw [HT.out]
      replace hb := Below.step hb hb2
      go_wp2_with (refine (l01In_eq HR.out _).mono ?_; rintro e w' ⟨rfl, rfl⟩)
    go_ret
    exact ⟨rfl, hb⟩
def DiscountOf_r (xs : List Item) (ts : List Tier) : Int × Int := if billB xs ts then (discF (partS xs xs.length) ts, 0) else (0, 1)
theorem DiscountOf_bad {xs : List Item} {ts : List Tier} (h : billB xs ts = false) : DiscountOf_r xs ts = (0, 1) := by unfold DiscountOf_r; rw [h]; rfl
theorem DiscountOf_ok {xs : List Item} {ts : List Tier} (h : billB xs ts = true) : DiscountOf_r xs ts = (discF (partS xs xs.length) ts, 0) := by unfold DiscountOf_r; rw [h]; rfl
theorem billB_and {xs : List Item} {ts : List Tier} (h : areItems xs = true) (h2 : areTiers ts = true) : billB xs ts = true := by unfold billB; rw [h, h2]; rfl
theorem billB_no1 {xs : List Item} {ts : List Tier} (h : areItems xs = false) : billB xs ts = false := by unfold billB; rw [h]; rfl
theorem billB_no2 {xs : List Item} {ts : List Tier} (h2 : areTiers ts = false) : billB xs ts = false := by unfold billB; rw [h2]; simp
theorem billCode_bad {xs : List Item} {ts : List Tier} {r : Int} (h : billB xs ts = false) : billCode xs ts r = 1 := by unfold billCode; unfold billB at h; rw [h]; rfl
theorem billCode_rate {xs : List Item} {ts : List Tier} {r : Int} (h : billB xs ts = true) (h2 : inR r 0 50 = false) : billCode xs ts r = 2 := by unfold billCode; unfold billB at h; rw [h, h2]; rfl
theorem billCode_ok {xs : List Item} {ts : List Tier} {r : Int} (h : billB xs ts = true) (h2 : inR r 0 50 = true) : billCode xs ts r = 0 := by unfold billCode; unfold billB at h; rw [h, h2]; rfl
set_option maxHeartbeats 2000000 in
theorem iDiscountOf_law (v : Value) (xs : List Item) (u : Value) (ts : List Tier) (w : World) (hv : Sl eItem w v xs) (_ : xs.length ≤ 1048576) (hq : ∀ x ∈ xs, okItem x) (hu : Sl eTier w u ts) (_ : ts.length ≤ 1048576) :
    Calls Try.prog 46 #[v, u] w fun e w' => e = .returned (.tuple #[.int .i64 (DiscountOf_r xs ts).1, .int .i64 (DiscountOf_r xs ts).2]) ∧ Below w.heap.size w w' := by
  rcases hA : areItems xs
  · have HR : Hid (DiscountOf_r xs ts = (0, 1)) := Lib.hid (DiscountOf_bad (billB_no1 hA))
    have HA := Lib.hid hA
    clear hA
    rw [HR.out]
    go_enter Try.func46, Try.ntmps46
    go_wp2_with fail
    refine (iAreItems_any v xs w hv hq).mono ?_
    rintro e w1 ⟨rfl, hb⟩
    rw [HA.out]
    go_wp2
    go_ret2
    exact ⟨rfl, hb⟩
  rcases hT : areTiers ts
  · have HR : Hid (DiscountOf_r xs ts = (0, 1)) := Lib.hid (DiscountOf_bad (billB_no2 hT))
    have HA := Lib.hid hA
    have HT := Lib.hid hT
    clear hA hT
    rw [HR.out]
    go_enter Try.func46, Try.ntmps46
    go_wp2_with fail
    refine (iAreItems_any v xs w hv hq).mono ?_
    rintro e w1 ⟨rfl, hb⟩
    rw [HA.out]
    have hu1 := hu.below hb
    go_wp2_with fail
    refine (iAreTiers_any u ts w1 hu1).mono ?_
    rintro e w2 ⟨rfl, hb2⟩
    rw [HT.out]
    go_wp2
    go_ret2
    exact ⟨rfl, Below.step hb hb2⟩
  · have HR : Hid (DiscountOf_r xs ts = (discF (partS xs xs.length) ts, 0)) := Lib.hid (DiscountOf_ok (billB_and hA hT))
    obtain ⟨q0, q1, q2⟩ := parts_bd hA
    have q3 : partS xs xs.length ≤ 20000000000 := by omega
    have HA := Lib.hid hA
    have HT := Lib.hid hT
    clear hA hT q1 q2
    rw [HR.out]
    go_enter Try.func46, Try.ntmps46
    go_wp2_with fail
    refine (iAreItems_any v xs w hv hq).mono ?_
    rintro e w1 ⟨rfl, hb⟩
    rw [HA.out]
    have hu1 := hu.below hb
    go_wp2_with fail
    refine (iAreTiers_any u ts w1 hu1).mono ?_
    rintro e w2 ⟨rfl, hb2⟩
    rw [HT.out]
    have hv2 := (hv.below hb).below hb2
    go_wp2_with fail
    refine (iSums_any v xs w2 hv2 HA.out).mono ?_
    rintro e w3 ⟨rfl, hb3⟩
    have hu3 := (hu1.below hb2).below hb3
    go_wp2_with fail
    refine (discount_any _ u ts w3 hu3 HT.out q0 q3).mono ?_
    rintro e w4 ⟨rfl, hb4⟩
    go_wp2
    go_ret2
    exact ⟨rfl, Below.step (Below.step (Below.step hb hb2) hb3) hb4⟩
set_option maxHeartbeats 2000000 in
theorem sDiscountOf_law (v : Value) (xs : List Item) (u : Value) (ts : List Tier) (w : World) (hv : Sl eItem w v xs) (_ : xs.length ≤ 1048576) (hq : ∀ x ∈ xs, okItem x) (hu : Sl eTier w u ts) (_ : ts.length ≤ 1048576) :
    Calls Try.prog 45 #[v, u] w fun e w' => e = .returned (.tuple #[.int .i64 (DiscountOf_r xs ts).1, .int .i64 (DiscountOf_r xs ts).2]) ∧ Below w.heap.size w w' := by
  rcases hA : billB xs ts
  · have HR : Hid (DiscountOf_r xs ts = (0, 1)) := Lib.hid (DiscountOf_bad hA)
    have HC : Hid (billCode xs ts 0 = 1) := Lib.hid (billCode_bad hA)
    clear hA
    rw [HR.out]
    go_enter Try.func45, Try.ntmps45
    go_wp2_with fail
    refine (l27Code_any v xs u ts 0 w hv hq hu).mono ?_
    rintro e w1 ⟨rfl, hb⟩
    rw [HC.out]
    go_wp2
    go_ret2
    exact ⟨rfl, hb⟩
  · obtain ⟨hA1, hT1⟩ : areItems xs = true ∧ areTiers ts = true := by unfold billB at hA; simpa using hA
    have HR : Hid (DiscountOf_r xs ts = (discF (partS xs xs.length) ts, 0)) := Lib.hid (DiscountOf_ok hA)
    have HC : Hid (billCode xs ts 0 = 0) := Lib.hid (billCode_ok hA (by decide))
    have HA := Lib.hid hA1
    have HT := Lib.hid hT1
    clear hA hA1 hT1
    rw [HR.out]
    go_enter Try.func45, Try.ntmps45
    go_wp2_with fail
    refine (l27Code_any v xs u ts 0 w hv hq hu).mono ?_
    rintro e w1 ⟨rfl, hb⟩
    rw [HC.out]
    have hv2 := hv.below hb
    have hu2 := hu.below hb
    go_wp2_with fail
    refine (l27Discount_any v xs u ts w1 hv2 HA.out hu2 HT.out).mono ?_
    rintro e w4 ⟨rfl, hb4⟩
    go_wp2
    go_ret2
    exact ⟨rfl, Below.step hb hb4⟩
def nearF (a b : Int) : Int := (2 * a + b) / (2 * b)
theorem floorDiv_any (a b : Int) (w : World) (h1 : -1000000000000000000 ≤ a) (h2 : a ≤ 1000000000000000000) (m1 : 1 ≤ b) (m2 : b ≤ 1000000000000000000) :
    Calls Try.prog 85 #[.int .i64 a, .int .i64 b] w fun e w' => e = .returned (.int .i64 (a / b)) ∧ w = w' := by
  have tz : (b == 0) = false := by simp; omega
  have e1 := Int.mul_tdiv_add_tmod a b
  have t1 := Int.tmod_lt_of_pos a (show 0 < b by omega)
  have t2 : -b < a.tmod b := by
    have h := Int.tmod_lt_of_pos (-a) (show 0 < b by omega)
    rw [Int.neg_tmod] at h
    omega
  have q1 : -1000000000000000000 ≤ a.tdiv b ∧ a.tdiv b ≤ 1000000000000000000 := by
    have := Int.natAbs_tdiv_le_natAbs a b
    omega
  obtain ⟨q1, q2⟩ := q1
  have H := Lib.hid e1
  clear e1
  by_cases hneg : a.tmod b < 0
  · have hf : a / b = a.tdiv b - 1 := by
      have e1 := H.out
      have e2 : a = (a.tmod b + b) + b * (a.tdiv b - 1) := by rw [Int.mul_sub]; omega
      rw [e2, Int.add_mul_ediv_left _ _ (by omega), Int.ediv_eq_zero_of_lt (by omega) (by omega)]
      rw [← e2]; omega
    have HF := Lib.hid hf
    clear hf
    go_enter Try.func85, Try.ntmps85
    go_wp2
    go_ret
    exact ⟨ret_int HF.out.symm, rfl⟩
  · have hf : a / b = a.tdiv b := by
      have e1 := H.out
      have e2 : a = a.tmod b + b * (a.tdiv b) := by omega
      rw [e2, Int.add_mul_ediv_left _ _ (by omega), Int.ediv_eq_zero_of_lt (by omega) (by omega)]
      rw [← e2]; omega
    have HF := Lib.hid hf
    clear hf
    go_enter Try.func85, Try.ntmps85
    go_wp2
    go_ret
    exact ⟨ret_int HF.out.symm, rfl⟩
theorem nearest_any (a b : Int) (w : World) (h1 : -100000000000000000 ≤ a) (h2 : a ≤ 100000000000000000) (m1 : 1 ≤ b) (m2 : b ≤ 100000000000000000) :
    Calls Try.prog 72 #[.int .i64 a, .int .i64 b] w fun e w' => e = .returned (.int .i64 (nearF a b)) ∧ w = w' := by
  unfold nearF
  go_enter Try.func72, Try.ntmps72
  go_wp2_with fail
  refine (floorDiv_any _ _ _ ?_ ?_ ?_ ?_).mono ?_
  · omega
  · omega
  · omega
  · omega
  rintro e w' ⟨rfl, rfl⟩
  go_wp2
  go_ret
  exact ⟨rfl, rfl⟩
theorem l01Nearest_any (a b : Int) (w : World) (h1 : -100000000000000000 ≤ a) (h2 : a ≤ 100000000000000000) (m1 : 1 ≤ b) (m2 : b ≤ 100000000000000000) :
    Calls Try.prog 71 #[.int .i64 a, .int .i64 b] w fun e w' => e = .returned (.int .i64 (nearF a b)) ∧ w = w' := by
  unfold nearF
  go_enter Try.func71, Try.ntmps71
  go_wp2_with fail
  refine (l01Floor_any _ _ _ ?_ ?_ ?_ ?_).mono ?_
  · omega
  · omega
  · omega
  · omega
  rintro e w' ⟨rfl, rfl⟩
  go_wp2
  go_ret
  exact ⟨rfl, rfl⟩
def netF (xs : List Item) (ts : List Tier) : Int := allS xs xs.length - discF (partS xs xs.length) ts
def TotalOf_r (xs : List Item) (ts : List Tier) (r : Int) : Int × Int := if billB xs ts then (if inR r 0 50 then (netF xs ts + nearF (netF xs ts * r) 100, 0) else (0, 2)) else (0, 1)
theorem TotalOf_bad {xs : List Item} {ts : List Tier} {r : Int} (h : billB xs ts = false) : TotalOf_r xs ts r = (0, 1) := by unfold TotalOf_r; rw [h]; rfl
theorem TotalOf_rate {xs : List Item} {ts : List Tier} {r : Int} (h : billB xs ts = true) (h2 : inR r 0 50 = false) : TotalOf_r xs ts r = (0, 2) := by unfold TotalOf_r; rw [h, h2]; rfl
theorem TotalOf_ok {xs : List Item} {ts : List Tier} {r : Int} (h : billB xs ts = true) (h2 : inR r 0 50 = true) : TotalOf_r xs ts r = (netF xs ts + nearF (netF xs ts * r) 100, 0) := by unfold TotalOf_r; rw [h, h2]; rfl
theorem net_bd {xs : List Item} {ts : List Tier} (h : areItems xs = true) (h2 : areTiers ts = true) : 0 ≤ netF xs ts ∧ netF xs ts ≤ 20000000000 := by
  have h3 := parts_bd h
  have h4 := discF_bd h2 h3.1
  unfold netF
  omega
theorem near_bd {n r : Int} (h0 : 0 ≤ n) (h1 : n ≤ 20000000000) (h2 : 0 ≤ r) (h3 : r ≤ 50) : (0 ≤ n * r ∧ n * r ≤ 1000000000000) ∧ 0 ≤ nearF (n * r) 100 ∧ nearF (n * r) 100 ≤ 1000000000000 := by
  have h := mul_in h0 h1 h2 h3
  refine ⟨by omega, ?_⟩
  unfold nearF
  omega
set_option maxHeartbeats 2000000 in
theorem iTotalOf_law (v : Value) (xs : List Item) (u : Value) (ts : List Tier) (r : Int) (w : World) (hv : Sl eItem w v xs) (_ : xs.length ≤ 1048576) (hq : ∀ x ∈ xs, okItem x) (hu : Sl eTier w u ts) (_ : ts.length ≤ 1048576) (_ : (Lit.int .i64 r).wf = true) :
    Calls Try.prog 48 #[v, u, .int .i64 r] w fun e w' => e = .returned (.tuple #[.int .i64 (TotalOf_r xs ts r).1, .int .i64 (TotalOf_r xs ts r).2]) ∧ Below w.heap.size w w' := by
  rcases hA : areItems xs
  · have HR : Hid (TotalOf_r xs ts r = (0, 1)) := Lib.hid (TotalOf_bad (billB_no1 hA))
    have HA := Lib.hid hA
    clear hA
    rw [HR.out]
    go_enter Try.func48, Try.ntmps48
    go_wp2_with fail
    refine (iAreItems_any v xs w hv hq).mono ?_
    rintro e w1 ⟨rfl, hb⟩
    rw [HA.out]
    go_wp2
    go_ret2
    exact ⟨rfl, hb⟩
  rcases hT : areTiers ts
  · have HR : Hid (TotalOf_r xs ts r = (0, 1)) := Lib.hid (TotalOf_bad (billB_no2 hT))
    have HA := Lib.hid hA
    have HT := Lib.hid hT
    clear hA hT
    rw [HR.out]
    go_enter Try.func48, Try.ntmps48
    go_wp2_with fail
    refine (iAreItems_any v xs w hv hq).mono ?_
    rintro e w1 ⟨rfl, hb⟩
    rw [HA.out]
    have hu1 := hu.below hb
    go_wp2_with fail
    refine (iAreTiers_any u ts w1 hu1).mono ?_
    rintro e w2 ⟨rfl, hb2⟩
    rw [HT.out]
    go_wp2
    go_ret2
    exact ⟨rfl, Below.step hb hb2⟩
  rcases hRa : inR r 0 50
  · have HR : Hid (TotalOf_r xs ts r = (0, 2)) := Lib.hid (TotalOf_rate (billB_and hA hT) hRa)
    have HA := Lib.hid hA
    have HT := Lib.hid hT
    have HRA := Lib.hid hRa
    clear hA hT hRa
    rw [HR.out]
    go_enter Try.func48, Try.ntmps48
    go_wp2_with fail
    refine (iAreItems_any v xs w hv hq).mono ?_
    rintro e w1 ⟨rfl, hb⟩
    rw [HA.out]
    have hu1 := hu.below hb
    go_wp2_with fail
    refine (iAreTiers_any u ts w1 hu1).mono ?_
    rintro e w2 ⟨rfl, hb2⟩
    rw [HT.out]
    go_wp2_with fail
    refine (within_eq HRA.out _).mono ?_
    rintro e w3 ⟨rfl, rfl⟩
    go_wp2
    go_ret2
    exact ⟨rfl, Below.step hb hb2⟩
  · have HR : Hid (TotalOf_r xs ts r = (netF xs ts + nearF (netF xs ts * r) 100, 0)) := Lib.hid (TotalOf_ok (billB_and hA hT) hRa)
    obtain ⟨q0, q1, q2⟩ := parts_bd hA
    obtain ⟨r0, r1⟩ := inR_iff.1 hRa
    have q3 : partS xs xs.length ≤ 20000000000 := by omega
    obtain ⟨d0, d1⟩ := discF_bd hT q0
    obtain ⟨n0, n1⟩ := net_bd hA hT
    have HN : Hid (netF xs ts = allS xs xs.length - discF (partS xs xs.length) ts) := Lib.hid rfl
    have HA := Lib.hid hA
    have HT := Lib.hid hT
    have HRA := Lib.hid hRa
    clear hA hT hRa
    rw [HR.out]
    go_enter Try.func48, Try.ntmps48
    go_wp2_with fail
    refine (iAreItems_any v xs w hv hq).mono ?_
    rintro e w1 ⟨rfl, hb⟩
    rw [HA.out]
    have hu1 := hu.below hb
    go_wp2_with fail
    refine (iAreTiers_any u ts w1 hu1).mono ?_
    rintro e w2 ⟨rfl, hb2⟩
    rw [HT.out]
    go_wp2_with fail
    refine (within_eq HRA.out _).mono ?_
    rintro e w3 ⟨rfl, rfl⟩
    have hv2 := (hv.below hb).below hb2
    go_wp2_with fail
    refine (iSums_any v xs w2 hv2 HA.out).mono ?_
    rintro e w3 ⟨rfl, hb3⟩
    have hu3 := (hu1.below hb2).below hb3
    go_wp2_with fail
    refine (discount_any _ u ts w3 hu3 HT.out q0 q3).mono ?_
    rintro e w4 ⟨rfl, hb4⟩
    have hw1 : IntKind.i64.wrap (allS xs xs.length - discF (partS xs xs.length) ts) = netF xs ts := by rw [HN.out]; exact IntWalk.i64_in _ (by omega)
    obtain ⟨⟨p0, p1⟩, p2, p3⟩ := near_bd n0 n1 r0 r1
    generalize hn : netF xs ts = n at *
    have HNN := Lib.hid hn
    clear hn
    have hw2 : IntKind.i64.wrap (n * r) = n * r := IntWalk.i64_in _ (by omega)
    have hw3 : IntKind.i64.wrap (n + nearF (n * r) 100) = n + nearF (n * r) 100 := IntWalk.i64_in _ (by omega)
    go_wp2_with fail
    refine (nearest_any _ _ _ ?_ ?_ ?_ ?_).mono ?_
    · omega
    · omega
    · omega
    · omega
    rintro e w5 ⟨rfl, rfl⟩
    go_wp2
    go_ret2
    exact ⟨by rw [HNN.out]; rfl, Below.step (Below.step (Below.step hb hb2) hb3) hb4⟩
set_option maxHeartbeats 2000000 in
theorem sTotalOf_law (v : Value) (xs : List Item) (u : Value) (ts : List Tier) (r : Int) (w : World) (hv : Sl eItem w v xs) (_ : xs.length ≤ 1048576) (hq : ∀ x ∈ xs, okItem x) (hu : Sl eTier w u ts) (_ : ts.length ≤ 1048576) (_ : (Lit.int .i64 r).wf = true) :
    Calls Try.prog 47 #[v, u, .int .i64 r] w fun e w' => e = .returned (.tuple #[.int .i64 (TotalOf_r xs ts r).1, .int .i64 (TotalOf_r xs ts r).2]) ∧ Below w.heap.size w w' := by
  rcases hA : billB xs ts
  · have HR : Hid (TotalOf_r xs ts r = (0, 1)) := Lib.hid (TotalOf_bad hA)
    have HC : Hid (billCode xs ts r = 1) := Lib.hid (billCode_bad hA)
    clear hA
    rw [HR.out]
    go_enter Try.func47, Try.ntmps47
    go_wp2_with fail
    refine (l27Code_any v xs u ts r w hv hq hu).mono ?_
    rintro e w1 ⟨rfl, hb⟩
    rw [HC.out]
    go_wp2
    go_ret2
    exact ⟨rfl, hb⟩
  rcases hRa : inR r 0 50
  · have HR : Hid (TotalOf_r xs ts r = (0, 2)) := Lib.hid (TotalOf_rate hA hRa)
    have HC : Hid (billCode xs ts r = 2) := Lib.hid (billCode_rate hA hRa)
    clear hA hRa
    rw [HR.out]
    go_enter Try.func47, Try.ntmps47
    go_wp2_with fail
    refine (l27Code_any v xs u ts r w hv hq hu).mono ?_
    rintro e w1 ⟨rfl, hb⟩
    rw [HC.out]
    go_wp2
    go_ret2
    exact ⟨rfl, hb⟩
  · obtain ⟨hA1, hT1⟩ : areItems xs = true ∧ areTiers ts = true := by unfold billB at hA; simpa using hA
    have HR : Hid (TotalOf_r xs ts r = (netF xs ts + nearF (netF xs ts * r) 100, 0)) := Lib.hid (TotalOf_ok hA hRa)
    have HC : Hid (billCode xs ts r = 0) := Lib.hid (billCode_ok hA hRa)
    obtain ⟨q0, q1, q2⟩ := parts_bd hA1
    obtain ⟨r0, r1⟩ := inR_iff.1 hRa
    obtain ⟨d0, d1⟩ := discF_bd hT1 q0
    obtain ⟨n0, n1⟩ := net_bd hA1 hT1
    have HN : Hid (netF xs ts = allS xs xs.length - discF (partS xs xs.length) ts) := Lib.hid rfl
    have HA := Lib.hid hA1
    have HT := Lib.hid hT1
    clear hA hA1 hT1 hRa
    rw [HR.out]
    go_enter Try.func47, Try.ntmps47
    go_wp2_with fail
    refine (l27Code_any v xs u ts r w hv hq hu).mono ?_
    rintro e w1 ⟨rfl, hb⟩
    rw [HC.out]
    have hv2 := hv.below hb
    go_wp2_with fail
    refine (sSums_any v xs w1 hv2 HA.out).mono ?_
    rintro e w2 ⟨rfl, hb2⟩
    have hv3 := hv2.below hb2
    have hu3 := (hu.below hb).below hb2
    go_wp2_with fail
    refine (l27Discount_any v xs u ts w2 hv3 HA.out hu3 HT.out).mono ?_
    rintro e w4 ⟨rfl, hb4⟩
    have hw1 : IntKind.i64.wrap (allS xs xs.length - discF (partS xs xs.length) ts) = netF xs ts := by rw [HN.out]; exact IntWalk.i64_in _ (by omega)
    obtain ⟨⟨p0, p1⟩, p2, p3⟩ := near_bd n0 n1 r0 r1
    generalize hn : netF xs ts = n at *
    have HNN := Lib.hid hn
    clear hn
    have hw2 : IntKind.i64.wrap (n * r) = n * r := IntWalk.i64_in _ (by omega)
    have hw3 : IntKind.i64.wrap (n + nearF (n * r) 100) = n + nearF (n * r) 100 := IntWalk.i64_in _ (by omega)
    go_wp2_with fail
    refine (l01Nearest_any _ _ _ ?_ ?_ ?_ ?_).mono ?_
    · omega
    · omega
    · omega
    · omega
    rintro e w5 ⟨rfl, rfl⟩
    go_wp2
    go_ret2
    exact ⟨by rw [HNN.out]; rfl, Below.step (Below.step hb hb2) hb4⟩
def above (p : Int) (t : Tier) : Bool := decide (p < t.from_)
def NextTier_r (xs : List Item) (ts : List Tier) : Int × Int := if billB xs ts then (if firstAt (above (partS xs xs.length)) ts < 0 then (0, 4) else ((ts.getD (firstAt (above (partS xs xs.length)) ts).toNat zTier).from_ - partS xs xs.length, 0)) else (0, 1)
theorem NextTier_bad {xs : List Item} {ts : List Tier} (h : billB xs ts = false) : NextTier_r xs ts = (0, 1) := by unfold NextTier_r; rw [h]; rfl
theorem NextTier_none {xs : List Item} {ts : List Tier} (h : billB xs ts = true) (h2 : ts.any (above (partS xs xs.length)) = false) : NextTier_r xs ts = (0, 4) := by unfold NextTier_r; rw [if_pos h, if_pos (firstAt_neg.2 h2)]
theorem NextTier_some {xs : List Item} {ts : List Tier} (h : billB xs ts = true) {k : Nat} (hk : k < ts.length) (h1 : (ts.take k).any (above (partS xs xs.length)) = false) (h2 : above (partS xs xs.length) ts[k] = true) : NextTier_r xs ts = (ts[k].from_ - partS xs xs.length, 0) := by
  unfold NextTier_r
  rw [if_pos h, firstAt_at hk h1 h2, if_neg (by omega)]
  have e : ((k : Nat) : Int).toNat = k := by omega
  rw [e, getD_at _ _ _ hk]
theorem above_yes {p : Int} {t : Tier} (h : p < t.from_) : above p t = true := decide_eq_true h
theorem above_no {p : Int} {t : Tier} (h : ¬ p < t.from_) : above p t = false := decide_eq_false h
abbrev NextTier_e (xs : List Item) (ts : List Tier) : Ending := .returned (.tuple #[.int .i64 (NextTier_r xs ts).1, .int .i64 (NextTier_r xs ts).2])
theorem NextTier_e_of {xs : List Item} {ts : List Tier} {a b : Int} (h : NextTier_r xs ts = (a, b)) : Ending.returned (.tuple #[.int .i64 a, .int .i64 b]) = NextTier_e xs ts := by unfold NextTier_e; rw [h]
set_option maxHeartbeats 2000000 in
theorem iNextTier_law (v : Value) (xs : List Item) (u : Value) (ts : List Tier) (w : World) (hv : Sl eItem w v xs) (_ : xs.length ≤ 1048576) (hq : ∀ x ∈ xs, okItem x) (hu : Sl eTier w u ts) (_ : ts.length ≤ 1048576) :
    Calls Try.prog 44 #[v, u] w fun e w' => e = .returned (.tuple #[.int .i64 (NextTier_r xs ts).1, .int .i64 (NextTier_r xs ts).2]) ∧ Below w.heap.size w w' := by
  rcases hA : areItems xs
  · have HR : Hid (NextTier_r xs ts = (0, 1)) := Lib.hid (NextTier_bad (billB_no1 hA))
    have HA := Lib.hid hA
    clear hA
    rw [HR.out]
    go_enter Try.func44, Try.ntmps44
    go_wp2_with fail
    refine (iAreItems_any v xs w hv hq).mono ?_
    rintro e w1 ⟨rfl, hb⟩
    rw [HA.out]
    go_wp2
    go_ret2
    exact ⟨rfl, hb⟩
  rcases hT : areTiers ts
  · have HR : Hid (NextTier_r xs ts = (0, 1)) := Lib.hid (NextTier_bad (billB_no2 hT))
    have HA := Lib.hid hA
    have HT := Lib.hid hT
    clear hA hT
    rw [HR.out]
    go_enter Try.func44, Try.ntmps44
    go_wp2_with fail
    refine (iAreItems_any v xs w hv hq).mono ?_
    rintro e w1 ⟨rfl, hb⟩
    rw [HA.out]
    have hu1 := hu.below hb
    go_wp2_with fail
    refine (iAreTiers_any u ts w1 hu1).mono ?_
    rintro e w2 ⟨rfl, hb2⟩
    rw [HT.out]
    go_wp2
    go_ret2
    exact ⟨rfl, Below.step hb hb2⟩
  · have HBB := Lib.hid (billB_and hA hT)
    obtain ⟨q0, q1, q2⟩ := parts_bd hA
    have HTT := Lib.hid (areTiers_at hT).2
    have HA := Lib.hid hA
    have HT := Lib.hid hT
    clear hA hT
    go_enter Try.func44, Try.ntmps44
    go_wp2_with fail
    refine (iAreItems_any v xs w hv hq).mono ?_
    rintro e w1 ⟨rfl, hb⟩
    rw [HA.out]
    have hu1 := hu.below hb
    go_wp2_with fail
    refine (iAreTiers_any u ts w1 hu1).mono ?_
    rintro e w2 ⟨rfl, hb2⟩
    rw [HT.out]
    have hv2 := (hv.below hb).below hb2
    go_wp2_with fail
    refine (iSums_any v xs w2 hv2 HA.out).mono ?_
    rintro e w3 ⟨rfl, hb3⟩
    have hu3 := (hu1.below hb2).below hb3
    have hbW := Below.step (Below.step hb hb2) hb3
    have hsW := hbW.size
    clear hb hb2 hb3 hv hv2 hu hu1
    obtain ⟨A, cap, rfl, _, hm, hc⟩ := hu3.shape
    go_wp2
    go_loopg [25] ts.length (fun gi i wr => ∃ k : Nat, k ≤ ts.length ∧ gi = ts.length - k ∧ i = .int .i64 k ∧ Hid ((ts.take k).any (above (partS xs xs.length)) = false) ∧ Below w.heap.size w wr ∧ w3.heap.size ≤ wr.heap.size ∧ Below w3.heap.size w3 wr)
    case atStart => exact ⟨0, Nat.zero_le _, rfl, rfl, Lib.hid rfl, hbW, Nat.le_refl _, Below.refl _ _⟩
    case round =>
      obtain ⟨k, hk, rfl, rfl, HK, hbA, hs, hb⟩ := hrel
      clear hbW
      by_cases hlt : k < ts.length
      · obtain ⟨b, off, rfl, hbl, hcell⟩ := hc (by omega)
        have c0 : wr.cell? ⟨b, off + k * 2, none⟩ = some (.int .i64 ts[k].from_) := (hb.cell (p := ⟨b, off + k * 2, none⟩) hbl).trans (by simpa [eTier, Nat.add_assoc] using hcell k hlt 0 _ (by decide) rfl)
        have c1 : wr.cell? ⟨b, off + k * 2 + 1, none⟩ = some (.int .i64 ts[k].percent) := (hb.cell (p := ⟨b, off + k * 2 + 1, none⟩) hbl).trans (by simpa [eTier, Nat.add_assoc] using hcell k hlt 1 _ (by decide) rfl)
        obtain ⟨f0, f1, _, _⟩ := HTT.out k hlt
        have hsA : w.heap.size ≤ wr.heap.size := Nat.le_trans hsW hs
        have HB := Lib.hid (hb.alloc hs (.cells #[.int .i64 ts[k].from_, .int .i64 ts[k].percent] 72))
        have HBA := Lib.hid (hbA.alloc hsA (.cells #[.int .i64 ts[k].from_, .int .i64 ts[k].percent] 72))
        have HS := Lib.hid (NextTier_some HBB.out hlt HK.out)
        have HX := Lib.hid (any_take_succ k hlt HK.out)
        clear hc hcell hb hbA
        generalize ts[k] = x at *
        obtain ⟨fr, pc⟩ := x
        simp only at *
        by_cases hf : partS xs xs.length < fr
        · go_wp2
          go_ret2
          exact ⟨NextTier_e_of (HS.out (above_yes hf)), HBA.out⟩
        · go_wp2
          go_roundg (ts.length - (k + 1))
          case measure => omega
          case rel => exact ⟨k + 1, by omega, rfl, by go_num, Lib.hid (HX.out (above_no (show ¬ partS xs xs.length < fr by omega))), HBA.out, by simp; omega, HB.out⟩
      · obtain rfl : k = ts.length := by omega
        go_wp2
        go_ret2
        exact ⟨NextTier_e_of (NextTier_none HBB.out (any_of_take _ (Nat.le_refl _) HK.out)), hbA⟩
set_option maxHeartbeats 2000000 in
theorem sNextTier_law (v : Value) (xs : List Item) (u : Value) (ts : List Tier) (w : World) (hv : Sl eItem w v xs) (_ : xs.length ≤ 1048576) (hq : ∀ x ∈ xs, okItem x) (hu : Sl eTier w u ts) (_ : ts.length ≤ 1048576) :
    Calls Try.prog 43 #[v, u] w fun e w' => e = .returned (.tuple #[.int .i64 (NextTier_r xs ts).1, .int .i64 (NextTier_r xs ts).2]) ∧ Below w.heap.size w w' := by
  rcases hA : billB xs ts
  · have HR : Hid (NextTier_r xs ts = (0, 1)) := Lib.hid (NextTier_bad hA)
    have HC : Hid (billCode xs ts 0 = 1) := Lib.hid (billCode_bad hA)
    clear hA
    rw [HR.out]
    go_enter Try.func43, Try.ntmps43
    go_wp2_with fail
    refine (l27Code_any v xs u ts 0 w hv hq hu).mono ?_
    rintro e w1 ⟨rfl, hb⟩
    rw [HC.out]
    go_wp2
    go_ret2
    exact ⟨rfl, hb⟩
  · obtain ⟨hA1, hT1⟩ : areItems xs = true ∧ areTiers ts = true := by unfold billB at hA; simpa using hA
    have HBB := Lib.hid hA
    have HC : Hid (billCode xs ts 0 = 0) := Lib.hid (billCode_ok hA (by decide))
    obtain ⟨q0, q1, q2⟩ := parts_bd hA1
    have HTT := Lib.hid (areTiers_at hT1).2
    have HA := Lib.hid hA1
    have HT := Lib.hid hT1
    clear hA hA1 hT1
    go_enter Try.func43, Try.ntmps43
    go_wp2_with fail
    refine (l27Code_any v xs u ts 0 w hv hq hu).mono ?_
    rintro e w1 ⟨rfl, hb⟩
    rw [HC.out]
    have hv2 := hv.below hb
    go_wp2_with fail
    refine (sSums_any v xs w1 hv2 HA.out).mono ?_
    rintro e w3 ⟨rfl, hb3⟩
    have hu3 := (hu.below hb).below hb3
    have hbW := Below.step hb hb3
    have hsW := hbW.size
    clear hb hb3 hv hv2 hu
    obtain ⟨A, cap, rfl, _, hm, hc⟩ := hu3.shape
    go_wp2
    go_loopg [9] ts.length (fun gi i wr => ∃ k : Nat, k ≤ ts.length ∧ gi = ts.length - k ∧ i = .int .i64 k ∧ Hid ((ts.take k).any (above (partS xs xs.length)) = false) ∧ Below w.heap.size w wr ∧ w3.heap.size ≤ wr.heap.size ∧ Below w3.heap.size w3 wr)
    case atStart => exact ⟨0, Nat.zero_le _, rfl, rfl, Lib.hid rfl, hbW, Nat.le_refl _, Below.refl _ _⟩
    case round =>
      obtain ⟨k, hk, rfl, rfl, HK, hbA, hs, hb⟩ := hrel
      clear hbW
      by_cases hlt : k < ts.length
      · obtain ⟨b, off, rfl, hbl, hcell⟩ := hc (by omega)
        have c0 : wr.cell? ⟨b, off + k * 2, none⟩ = some (.int .i64 ts[k].from_) := (hb.cell (p := ⟨b, off + k * 2, none⟩) hbl).trans (by simpa [eTier, Nat.add_assoc] using hcell k hlt 0 _ (by decide) rfl)
        have c1 : wr.cell? ⟨b, off + k * 2 + 1, none⟩ = some (.int .i64 ts[k].percent) := (hb.cell (p := ⟨b, off + k * 2 + 1, none⟩) hbl).trans (by simpa [eTier, Nat.add_assoc] using hcell k hlt 1 _ (by decide) rfl)
        obtain ⟨f0, f1, _, _⟩ := HTT.out k hlt
        have hsA : w.heap.size ≤ wr.heap.size := Nat.le_trans hsW hs
        have HB := Lib.hid hb
        have HBA := Lib.hid hbA
        have HS := Lib.hid (NextTier_some HBB.out hlt HK.out)
        have HX := Lib.hid (any_take_succ k hlt HK.out)
        clear hc hcell hb hbA
        generalize ts[k] = x at *
        obtain ⟨fr, pc⟩ := x
        simp only at *
        by_cases hf : partS xs xs.length < fr
        · go_wp2
          go_ret2
          exact ⟨NextTier_e_of (HS.out (above_yes hf)), HBA.out⟩
        · go_wp2
          go_roundg (ts.length - (k + 1))
          case measure => omega
          case rel => exact ⟨k + 1, by omega, rfl, by go_num, Lib.hid (HX.out (above_no (show ¬ partS xs xs.length < fr by omega))), HBA.out, by omega, HB.out⟩
      · obtain rfl : k = ts.length := by omega
        go_wp2
        go_ret2
        exact ⟨NextTier_e_of (NextTier_none HBB.out (any_of_take _ (Nat.le_refl _) HK.out)), hbA⟩
end Go.Proofs.Ytfiapefkomolmaa
