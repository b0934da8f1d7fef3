/- Contracts of the functions on tensions and stiffness (chapter 7). No statement of the seat is proved here. -/
import Derived.Test.YtblaojjpclipaaaM0
import Derived.Test.YtblaojjpclipaaaM1
import Derived.Test.YtblaojjpclipaaaAppAll
namespace Go.Proofs.Ytblaojjpclipaaa
open Go.RowKit

/-- the sum of the first k numbers -/
def sumN (xs : List Int) : Nat → Int
  | 0 => 0
  | k + 1 => sumN xs k + xs.getD k 0
/-- all numbers are within c of zero -/
def Bd (c : Int) (xs : List Int) : Prop := ∀ k, -c ≤ xs.getD k 0 ∧ xs.getD k 0 ≤ c
theorem sumN_bd {c : Int} {xs : List Int} (h : Bd c xs) : ∀ k : Nat, -(c * k) ≤ sumN xs k ∧ sumN xs k ≤ c * k
  | 0 => by simp [sumN]
  | k + 1 => by
    have ih := sumN_bd h k
    have h1 := h k
    have e : c * ((k + 1 : Nat) : Int) = c * (k : Int) + c := by rw [Int.natCast_add, Int.mul_add]; simp
    rw [sumN, e]
    omega
theorem Bd.all {lo hi c : Int} {xs : List Int} (h : xs.all (inR · lo hi) = true) (h1 : -c ≤ lo) (h2 : hi ≤ c) (h0 : 0 ≤ c) : Bd c xs := fun k => by
  by_cases hk : k < xs.length
  · rw [getD_at _ _ _ hk]
    have := inR_iff.1 ((List.all_eq_true.1 h) _ (List.getElem_mem hk))
    omega
  · rw [List.getD_eq_getElem?_getD, List.getElem?_eq_none (by omega)]
    simp
    omega
theorem Bd.drop {c : Int} {xs : List Int} (h : Bd c xs) (n : Nat) : Bd c (xs.drop n) := fun k => by
  have := h (n + k)
  rw [List.getD_eq_getElem?_getD] at *
  rw [List.getElem?_drop]
  exact this
theorem sumN_drop (xs : List Int) : ∀ k, sumN xs (k + 1) = xs.getD 0 0 + sumN (xs.drop 1) k
  | 0 => by simp [sumN]
  | k + 1 => by
    rw [sumN, sumN_drop xs k, sumN]
    rw [List.getD_eq_getElem?_getD (l := xs.drop 1), List.getElem?_drop, Nat.add_comm 1 k, ← List.getD_eq_getElem?_getD]
    omega
def areTens (xs : List Int) : Bool := inR xs.length 4 48 && xs.all (inR · 0 3000)
def isStiff (xs : List Int) : Bool := inR xs.length 1 4 && xs.all (inR · (-200) 200) && (decide (0 < xs.getD 0 0) && decide (0 < 2 * sumN xs xs.length - xs.getD 0 0))
theorem areTens_bd {xs : List Int} (h : areTens xs = true) : 4 ≤ xs.length ∧ xs.length ≤ 48 ∧ Bd 3000 xs := by
  unfold areTens at h
  rw [Bool.and_eq_true, inR_iff] at h
  exact ⟨by omega, by omega, Bd.all h.2 (by omega) (by omega) (by omega)⟩
theorem isStiff_bd {xs : List Int} (h : isStiff xs = true) : 1 ≤ xs.length ∧ xs.length ≤ 4 ∧ Bd 200 xs := by
  unfold isStiff at h
  rw [Bool.and_eq_true, Bool.and_eq_true, inR_iff] at h
  exact ⟨by omega, by omega, Bd.all h.1.2 (by omega) (by omega) (by omega)⟩
/-- the part of a slice from the second number on -/
theorem Ints.tail {w : World} {b off n cap : Nat} {xs : List Int} (h : Ints w (.slice (some ⟨b, off, none⟩) n cap) xs) (hp : 0 < n) : Ints w (.slice (some ⟨b, off + 1, none⟩) (n - 1) (cap - 1)) (xs.drop 1) := by
  obtain ⟨A', cap', e, hc, hm, h3⟩ := Ints.shape h
  cases e
  obtain ⟨b2, off2, e2, hb, hx⟩ := h3 hp
  cases e2
  have hl : (xs.drop 1).length = xs.length - 1 := by simp
  refine ⟨eI.len _, by rw [hl]; unfold big40; omega, some ⟨b, off + 1, none⟩, cap - 1, by rw [hl], by rw [hl]; omega, fun _ => ⟨b, off + 1, rfl, hb, fun j u hu => ?_⟩⟩
  rw [eI_all, List.getElem?_map] at hu
  rcases hj : (xs.drop 1)[j]? with _ | x
  · rw [hj] at hu; cases hu
  · rw [hj] at hu
    cases hu
    rw [List.getElem?_drop] at hj
    obtain ⟨hlt, hv⟩ := List.getElem?_eq_some_iff.1 hj
    have := hx (1 + j) hlt
    rw [hv] at this
    rw [Nat.add_assoc]
    exact this
/-- likewise where the slice has room for one alone: no number is left, the place may be any -/
theorem Ints.none_ {w : World} (A : Option Addr) (cap : Nat) : Ints w (.slice A 0 cap) [] := ⟨eI.len _, Nat.zero_le _, A, cap, rfl, Nat.zero_le _, fun h => absurd h (by simp)⟩
theorem floorMod_any (a m : Int) (w : World) (h1 : -1000000000000000000 ≤ a) (h2 : a ≤ 1000000000000000000) (m1 : 1 ≤ m) (m2 : m ≤ 1000000000000000000) :
    Calls Try.prog 56 #[.int .i64 a, .int .i64 m] w fun e w' => e = .returned (.int .i64 (a % m)) ∧ w = w' := by
  have t1 := Int.tmod_lt_of_pos a (show 0 < m by omega)
  have t2 : -m < a.tmod m := by
    have h := Int.tmod_lt_of_pos (-a) (show 0 < m by omega)
    rw [Int.neg_tmod] at h
    omega
  have tz : (m == 0) = false := by simp; omega
  have he : a.tmod m = a - m * (a.tdiv m) := by have := Int.mul_tdiv_add_tmod a m; omega
  by_cases hn : a.tmod m < 0
  · have HR : Hid (a % m = a.tmod m + m) := Lib.hid (by
      have e : a.tmod m + m = a + m * (1 - a.tdiv m) := by rw [he, Int.mul_sub]; omega
      have := Int.add_mul_emod_self_left a m (1 - a.tdiv m)
      rw [← e, Int.emod_eq_of_lt (by omega) (by omega)] at this
      exact this.symm)
    have hd : decide (a.tmod m < 0) = true := decide_eq_true hn
    clear he
    have hw : IntKind.i64.wrap (a.tmod m) = a.tmod m := IntWalk.i64_in _ (by omega)
    have hw2 : IntKind.i64.wrap (a.tmod m + m) = a.tmod m + m := IntWalk.i64_in _ (by omega)
    go_enter Try.func56, Try.ntmps56
    go_wp2
    go_ret
    exact ⟨ret_int HR.out.symm, rfl⟩
  · have HR : Hid (a % m = a.tmod m) := Lib.hid (by
      have e : a.tmod m = a + m * (- a.tdiv m) := by rw [he, Int.mul_neg]; omega
      have := Int.add_mul_emod_self_left a m (- a.tdiv m)
      rw [← e, Int.emod_eq_of_lt (by omega) (by omega)] at this
      exact this.symm)
    have hd : decide (a.tmod m < 0) = false := decide_eq_false hn
    clear he
    have hw : IntKind.i64.wrap (a.tmod m) = a.tmod m := IntWalk.i64_in _ (by omega)
    go_enter Try.func56, Try.ntmps56
    go_wp2
    go_ret
    exact ⟨ret_int HR.out.symm, rfl⟩
set_option maxHeartbeats 1000000 in
theorem total_any (v : Value) (xs : List Int) (w : World) (hv : Ints w v xs) (hb : Bd 100000 xs) (hl : xs.length ≤ 100000) :
    Calls Try.prog 55 #[v] w fun e w' => e = .returned (.int .i64 (sumN xs xs.length)) ∧ w = w' := by
  obtain ⟨A, cap, rfl, _, hm, hc⟩ := Ints.shape hv
  have HB := Lib.hid hb
  clear hb hv
  go_enter Try.func55, Try.ntmps55
  go_wp2
  go_loop [3, 8] (fun s i => ∃ (k : Nat) (q : Int), k ≤ xs.length ∧ i = .int .i64 k ∧ s = .int .i64 q ∧ Hid (sumN xs k = q)) (fun _ i => xs.length - (intOf i).toNat)
  case atStart => exact ⟨0, 0, Nat.zero_le _, rfl, rfl, Lib.hid rfl⟩
  case round =>
    obtain ⟨k, q, hk, rfl, rfl, HQ⟩ := hrel
    by_cases hlt : k < xs.length
    · obtain ⟨b, off, rfl, _, hcell⟩ := hc (by omega)
      have hck := hcell k hlt
      have hs1 := sumN_bd HB.out k
      have hx := HB.out k
      have HN : Hid (sumN xs (k + 1) = q + xs[k]) := Lib.hid (by rw [sumN, HQ.out, getD_at _ _ _ hlt])
      rw [getD_at _ _ _ hlt] at hx
      rw [HQ.out] at hs1
      have hw : IntKind.i64.wrap (q + xs[k]) = q + xs[k] := IntWalk.i64_in _ (by omega)
      clear hcell hc
      generalize xs[k] = x at *
      go_wp2
      go_round
      case rel => exact ⟨k + 1, q + x, by omega, by go_num, by go_num, HN⟩
      case measure => simp [intOf]; omega
    · obtain rfl : k = xs.length := by omega
      go_wp2
      go_ret
      exact ⟨ret_int HQ.out.symm, rfl⟩
set_option maxHeartbeats 1000000 in
theorem l01Sum_any (v : Value) (xs : List Int) (w : World) (hv : Ints w v xs) (hb : Bd 100000 xs) (hl : xs.length ≤ 100000) :
    Calls Try.prog 78 #[v] w fun e w' => e = .returned (.int .i64 (sumN xs xs.length)) ∧ w = w' := by
  obtain ⟨A, cap, rfl, _, hm, hc⟩ := Ints.shape hv
  have HB := Lib.hid hb
  clear hb hv
  go_enter Try.func78, Try.ntmps78
  go_wp2
  go_loop [3, 4] (fun s i => ∃ (k : Nat) (q : Int), k ≤ xs.length ∧ i = .int .i64 k ∧ s = .int .i64 q ∧ Hid (sumN xs k = q)) (fun _ i => xs.length - (intOf i).toNat)
  case atStart => exact ⟨0, 0, Nat.zero_le _, rfl, rfl, Lib.hid rfl⟩
  case round =>
    obtain ⟨k, q, hk, rfl, rfl, HQ⟩ := hrel
    by_cases hlt : k < xs.length
    · obtain ⟨b, off, rfl, _, hcell⟩ := hc (by omega)
      have hck := hcell k hlt
      have hs1 := sumN_bd HB.out k
      have hx := HB.out k
      have HN : Hid (sumN xs (k + 1) = q + xs[k]) := Lib.hid (by rw [sumN, HQ.out, getD_at _ _ _ hlt])
      rw [getD_at _ _ _ hlt] at hx
      rw [HQ.out] at hs1
      have hw : IntKind.i64.wrap (q + xs[k]) = q + xs[k] := IntWalk.i64_in _ (by omega)
      clear hcell hc
      generalize xs[k] = x at *
      go_wp2
      go_round
      case rel => exact ⟨k + 1, q + x, by omega, by go_num, by go_num, HN⟩
      case measure => simp [intOf]; omega
    · obtain rfl : k = xs.length := by omega
      go_wp2
      go_ret
      exact ⟨ret_int HQ.out.symm, rfl⟩
set_option maxHeartbeats 400000 in
theorem sAreTensions_any (v : Value) (xs : List Int) (w : World) (hv : Ints w v xs) :
    Calls Try.prog 31 #[v] w fun e w' => e = .returned (.bool (areTens xs)) ∧ w = w' := by
  obtain ⟨A, cap, rfl, _, hm, hc⟩ := Ints.shape hv
  go_enter Try.func31, Try.ntmps31
  go_wp2
  go_loop [3] (fun i => ∃ k : Nat, k ≤ xs.length ∧ i = .int .i64 k ∧ (xs.take k).all (inR · 0 3000) = true) (fun i => xs.length - (intOf i).toNat)
  case atStart => exact ⟨0, Nat.zero_le _, rfl, rfl⟩
  case round =>
    obtain ⟨k, hk, rfl, hall⟩ := hrel
    have HA := Lib.hid hall
    clear hall
    by_cases hlt : k < xs.length
    · obtain ⟨b, off, rfl, _, hcell⟩ := hc (by omega)
      have hck := hcell k hlt
      clear hcell
      go_wp2_with (go_at_call 33; refine (l01In_any _ _ _ _).mono ?_; rintro e w' ⟨rfl, rfl⟩)
      · go_ret
        have h1 : (!inR xs[k] 0 3000) = true := by assumption
        exact ⟨ret_bool (by simp [areTens, all_false_at xs k hlt (inR · 0 3000) (by simpa using h1)]), rfl⟩
      · have h1 : (!inR xs[k] 0 3000) = false := by assumption
        go_round
        case rel => exact ⟨k + 1, by omega, by go_num, all_take_succ xs k hlt _ HA.out (by simpa using h1)⟩
        case measure => simp [intOf]; omega
    · obtain rfl : k = xs.length := by omega
      go_wp2_with (go_at_call 33; refine (l01In_any _ _ _ _).mono ?_; rintro e w' ⟨rfl, rfl⟩)
      go_ret
      exact ⟨ret_bool (by rw [areTens, all_of_take xs _ (Nat.le_refl _) _ HA.out, Bool.and_true]), rfl⟩
set_option maxHeartbeats 1000000 in
theorem iAreTensions_any (v : Value) (xs : List Int) (w : World) (hv : Ints w v xs) :
    Calls Try.prog 25 #[v] w fun e w' => e = .returned (.bool (areTens xs)) ∧ w = w' := by
  have HV := Lib.hid hv
  obtain ⟨A, cap, rfl, _, hm, _⟩ := Ints.shape hv
  clear hv
  by_cases h4 : 4 ≤ xs.length
  · have d1 : decide ((4 : Int) ≤ (xs.length : Int)) = true := decide_eq_true (by omega)
    have h4i : (4 : Int) ≤ (xs.length : Int) := by omega
    by_cases h48 : xs.length ≤ 48
    · have d2 : decide ((xs.length : Int) ≤ 48) = true := decide_eq_true (by omega)
      have h48i : (xs.length : Int) ≤ 48 := by omega
      have HR : Hid (areTens xs = xs.all (inR · 0 3000)) := Lib.hid (by unfold areTens; rw [inR_iff.2 (by omega), Bool.true_and])
      go_enter Try.func25, Try.ntmps25
      go_wp2_with (go_at_call 54; refine (allWithin_any _ xs _ _ _ HV.out).mono ?_; rintro e w' ⟨rfl, rfl⟩)
      go_ret
      exact ⟨ret_bool HR.out.symm, rfl⟩
    · have d2 : decide ((xs.length : Int) ≤ 48) = false := decide_eq_false (by omega)
      have h48i : ¬ (xs.length : Int) ≤ 48 := by omega
      have HR : Hid (areTens xs = false) := Lib.hid (by unfold areTens; rw [inR_false.2 (by omega), Bool.false_and])
      go_enter Try.func25, Try.ntmps25
      go_wp2
      go_ret
      exact ⟨ret_bool HR.out.symm, rfl⟩
  · have d1 : decide ((4 : Int) ≤ (xs.length : Int)) = false := decide_eq_false (by omega)
    have h4i : ¬ (4 : Int) ≤ (xs.length : Int) := by omega
    have HR : Hid (areTens xs = false) := Lib.hid (by unfold areTens; rw [inR_false.2 (by omega), Bool.false_and])
    go_enter Try.func25, Try.ntmps25
    go_wp2
    go_ret
    exact ⟨ret_bool HR.out.symm, rfl⟩
theorem isQuarters_any (q : Int) (w : World) : Calls Try.prog 28 #[.int .i64 q] w fun e w' => e = .returned (.bool (inR q (-100) 100)) ∧ w = w' := by
  go_enter Try.func28, Try.ntmps28
  go_wp2_with (go_at_call 27; refine (within_any _ _ _ _).mono ?_; rintro e w' ⟨rfl, rfl⟩)
  go_ret
  exact ⟨rfl, rfl⟩
set_option maxHeartbeats 1000000 in
theorem copyList_any (v : Value) (xs : List Int) (w : World) (hv : Ints w v xs) (hn : xs.length ≤ 1000000000) :
    Calls Try.prog 29 #[v] w fun e w' => ∃ u, e = .returned u ∧ Own eI w' w.heap.size 2 u xs ∧ Below w.heap.size w w' := by
  have HO : Hid (Own eI (w.alloc (.cells #[] 2)) w.heap.size 2 (.slice (some ⟨w.heap.size, 0, none⟩) 0 0) []) := Lib.hid (Own.empty eI w _ _ (Nat.le_refl _))
  have HV : Hid (Ints (w.alloc (.cells #[] 2)) v xs) := Lib.hid (hv.alloc _)
  have HB : Hid (Below w.heap.size w (w.alloc (.cells #[] 2))) := Lib.hid ((Below.refl _ _).alloc (Nat.le_refl _) _)
  clear hv
  go_enter Try.func29, Try.ntmps29
  go_wp2_with (at_builtin; refine wpList_app_all eI rfl _ _ 24 (by rfl) 2 (.int .i64 0) 8 Try.underlying24 info_i64 rfl (by decide) (by decide) w.heap.size _ [] (by rfl) (by exact HO.out) _ xs (by rfl) (by exact HV.out) (by simp only [List.length_nil]; omega) (by simp) ?_)
  intro v2 w2 hO hB _ _
  have O2 := Lib.hid hO
  have B2 := Lib.hid (HB.out.trans hB)
  clear hO hB
  go_wp2
  go_ret
  exact ⟨_, rfl, O2.out, B2.out⟩
set_option maxHeartbeats 1000000 in
theorem l01Own_any (v : Value) (xs : List Int) (w : World) (hv : Ints w v xs) (hn : xs.length ≤ 1000000000) :
    Calls Try.prog 79 #[v] w fun e w' => ∃ u, e = .returned u ∧ Own eI w' w.heap.size 2 u xs ∧ Below w.heap.size w w' := by
  have HO : Hid (Own eI (w.alloc (.cells #[] 2)) w.heap.size 2 (.slice (some ⟨w.heap.size, 0, none⟩) 0 0) []) := Lib.hid (Own.empty eI w _ _ (Nat.le_refl _))
  have HV : Hid (Ints (w.alloc (.cells #[] 2)) v xs) := Lib.hid (hv.alloc _)
  have HB : Hid (Below w.heap.size w (w.alloc (.cells #[] 2))) := Lib.hid ((Below.refl _ _).alloc (Nat.le_refl _) _)
  clear hv
  go_enter Try.func79, Try.ntmps79
  go_wp2_with (at_builtin; refine wpList_app_all eI rfl _ _ 24 (by rfl) 2 (.int .i64 0) 8 Try.underlying24 info_i64 rfl (by decide) (by decide) w.heap.size _ [] (by rfl) (by exact HO.out) _ xs (by rfl) (by exact HV.out) (by simp only [List.length_nil]; omega) (by simp) ?_)
  intro v2 w2 hO hB _ _
  have O2 := Lib.hid hO
  have B2 := Lib.hid (HB.out.trans hB)
  clear hO hB
  go_wp2
  go_ret
  exact ⟨_, rfl, O2.out, B2.out⟩
end Go.Proofs.Ytblaojjpclipaaa
