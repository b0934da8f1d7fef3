/- Contracts of the functions on wrenches (chapter 26). No statement of the seat is proved here. -/
import Derived.Test.YtijmafppdbllfaaSWrench
import Derived.Test.YtijmafppdbllfaaWords
import Derived.Test.YtijmafppdbllfaaFind
namespace Go.Proofs.Ytijmafppdbllfaa
open Go.RowKit

theorem isTorque_eq {n : Int} {b : Bool} (h : inR n 1 2000 = b) (w : World) : Calls Try.prog 59 #[.int .i64 n] w fun e w' => e = .returned (.bool b) ∧ w = w' := by
  subst h; exact isTorque_any _ _
theorem l26Torque_eq {n : Int} {b : Bool} (h : inR n 1 2000 = b) (w : World) : Calls Try.prog 76 #[.int .i64 n] w fun e w' => e = .returned (.bool b) ∧ w = w' := by
  subst h; exact l26Torque_any _ _
def wrI (x : Wrench) : Bool := (inR x.least 1 2000) && (inR x.most 1 2000) && (decide (x.least ≤ x.most))
def wrS (x : Wrench) : Bool := (inR x.least 1 2000) && (inR x.most x.least 2000)
theorem wrI_eq : wrI = wrS := by
  funext x
  rw [Bool.eq_iff_iff]
  simp only [wrI, wrS, Bool.and_eq_true, inR_iff, decide_eq_true_eq]
  omega
def areWrenches (xs : List Wrench) : Bool := decide (xs.length ≤ 60) && xs.all wrI
set_option maxHeartbeats 4000000 in
set_option maxRecDepth 10000 in
theorem areWrenches_any (v : Value) (xs : List Wrench) (w : World) (hv : Sl eWrench w v xs) :
    Calls Try.prog 65 #[v] w fun e w' => e = .returned (.bool (areWrenches xs)) ∧ Below w.heap.size w w' := by
  obtain ⟨A, cap, rfl, _, hm, hc⟩ := hv.shape
  by_cases hbig : 60 < xs.length
  · clear hc
    go_enter Try.func65, Try.ntmps65
    go_wp2
    go_ret
    exact ⟨ret_bool (by unfold areWrenches; rw [decide_eq_false (by omega)]; rfl), Below.refl _ _⟩
  go_enter Try.func65, Try.ntmps65
  go_wp2
  go_loopg [10] xs.length (fun gi i wr => ∃ k : Nat, k ≤ xs.length ∧ gi = xs.length - k ∧ i = .int .i64 k ∧ Hid ((xs.take k).all wrI = true) ∧ Below w.heap.size w wr ∧ w.heap.size ≤ wr.heap.size)
  case atStart => exact ⟨0, Nat.zero_le _, rfl, rfl, Lib.hid rfl, Below.refl _ _, Nat.le_refl _⟩
  case round =>
    obtain ⟨k, hk, rfl, rfl, HA, hb, hs⟩ := hrel
    by_cases hlt : k < xs.length
    · obtain ⟨b, off, rfl, hbl, hcell⟩ := hc (by omega)
      have c0 : wr.cell? ⟨b, off + k * 2, none⟩ = some (.int .i64 xs[k].least) := (hb.cell (p := ⟨b, off + k * 2, none⟩) hbl).trans (by simpa [eWrench, Nat.add_assoc] using hcell k hlt 0 _ (by decide) rfl)
      have c1 : wr.cell? ⟨b, off + k * 2 + 1, none⟩ = some (.int .i64 xs[k].most) := (hb.cell (p := ⟨b, off + k * 2 + 1, none⟩) hbl).trans (by simpa [eWrench, Nat.add_assoc] using hcell k hlt 1 _ (by decide) rfl)
      have HD : Hid (wrI xs[k] = ((inR xs[k].least 1 2000) && (inR xs[k].most 1 2000) && (decide (xs[k].least ≤ xs[k].most)))) := Lib.hid rfl
      have HB := Lib.hid (hb.alloc hs (.cells #[.int .i64 xs[k].least, .int .i64 xs[k].most] 59))
      have HX := Lib.hid (all_take_succ xs k hlt wrI HA.out)
      have HF := Lib.hid (all_false_at xs k hlt wrI)
      clear hc hcell hb
      generalize xs[k] = x at *
      obtain ⟨l, m⟩ := x
      simp only at *
      rcases h1 : inR l 1 2000
      · have H1 := Lib.hid h1
        clear h1
        go_wp2_with (first | (go_at_call_of 59 l; refine (isTorque_eq H1.out _).mono ?_; rintro e w' ⟨rfl, rfl⟩))
        go_ret
        exact ⟨ret_bool (by unfold areWrenches; rw [HF.out (by rw [HD.out, H1.out]; simp)]; simp), HB.out⟩
      have H1 := Lib.hid h1
      clear h1
      rcases h2 : inR m 1 2000
      · have H2 := Lib.hid h2
        clear h2
        go_wp2_with (first | (go_at_call_of 59 l; refine (isTorque_eq H1.out _).mono ?_; rintro e w' ⟨rfl, rfl⟩) | (go_at_call_of 59 m; refine (isTorque_eq H2.out _).mono ?_; rintro e w' ⟨rfl, rfl⟩))
        go_ret
        exact ⟨ret_bool (by unfold areWrenches; rw [HF.out (by rw [HD.out, H1.out, H2.out]; simp)]; simp), HB.out⟩
      have H2 := Lib.hid h2
      clear h2
      by_cases h3 : l ≤ m
      rotate_left
      · have H3 : Hid ((decide (l ≤ m)) = false) := Lib.hid (decide_eq_false h3)
        have g3 : decide (m < l) = true := decide_eq_true (by omega)
        go_wp2_with (first | (go_at_call_of 59 l; refine (isTorque_eq H1.out _).mono ?_; rintro e w' ⟨rfl, rfl⟩) | (go_at_call_of 59 m; refine (isTorque_eq H2.out _).mono ?_; rintro e w' ⟨rfl, rfl⟩))
        go_ret
        exact ⟨ret_bool (by unfold areWrenches; rw [HF.out (by rw [HD.out, H1.out, H2.out, H3.out]; simp)]; simp), HB.out⟩
      have H3 : Hid ((decide (l ≤ m)) = true) := Lib.hid (decide_eq_true h3)
      have g3 : decide (m < l) = false := decide_eq_false (by omega)
      go_wp2_with (first | (go_at_call_of 59 l; refine (isTorque_eq H1.out _).mono ?_; rintro e w' ⟨rfl, rfl⟩) | (go_at_call_of 59 m; refine (isTorque_eq H2.out _).mono ?_; rintro e w' ⟨rfl, rfl⟩))
      go_roundg (xs.length - (k + 1))
      case measure => omega
      case rel => exact ⟨k + 1, by omega, rfl, by go_num, Lib.hid (HX.out (by rw [HD.out, H1.out, H2.out, H3.out]; rfl)), HB.out, by simp; omega⟩
    · obtain rfl : k = xs.length := by omega
      go_wp2
      go_ret
      exact ⟨ret_bool (by unfold areWrenches; rw [all_of_take xs _ (Nat.le_refl _) _ HA.out, decide_eq_true (by omega)]; rfl), hb⟩
def wrCode (xs : List Wrench) (t : Int) : Int := if areWrenches xs then (if inR t 1 2000 then 0 else 2) else 1
theorem wrCode_bad {xs : List Wrench} {t : Int} (h : areWrenches xs = false) : wrCode xs t = 1 := by unfold wrCode; rw [h]; rfl
set_option maxHeartbeats 4000000 in
set_option maxRecDepth 10000 in
theorem l26Wrenches_any (v : Value) (xs : List Wrench) (t : Int) (w : World) (hv : Sl eWrench w v xs) :
    Calls Try.prog 63 #[v, .int .i64 t] w fun e w' => e = .returned (.int .i64 (wrCode xs t)) ∧ Below w.heap.size w w' := by
  obtain ⟨A, cap, rfl, _, hm, hc⟩ := hv.shape
  go_enter Try.func63, Try.ntmps63
  go_wp2
  go_loopg [5] xs.length (fun gi i wr => ∃ k : Nat, k ≤ xs.length ∧ gi = xs.length - k ∧ i = .int .i64 k ∧ Hid ((xs.take k).all wrS = true) ∧ Below w.heap.size w wr ∧ w.heap.size ≤ wr.heap.size)
  case atStart => exact ⟨0, Nat.zero_le _, rfl, rfl, Lib.hid rfl, Below.refl _ _, Nat.le_refl _⟩
  case round =>
    obtain ⟨k, hk, rfl, rfl, HA, hb, hs⟩ := hrel
    by_cases hlt : k < xs.length
    · obtain ⟨b, off, rfl, hbl, hcell⟩ := hc (by omega)
      have c0 : wr.cell? ⟨b, off + k * 2, none⟩ = some (.int .i64 xs[k].least) := (hb.cell (p := ⟨b, off + k * 2, none⟩) hbl).trans (by simpa [eWrench, Nat.add_assoc] using hcell k hlt 0 _ (by decide) rfl)
      have c1 : wr.cell? ⟨b, off + k * 2 + 1, none⟩ = some (.int .i64 xs[k].most) := (hb.cell (p := ⟨b, off + k * 2 + 1, none⟩) hbl).trans (by simpa [eWrench, Nat.add_assoc] using hcell k hlt 1 _ (by decide) rfl)
      have HD : Hid (wrS xs[k] = ((inR xs[k].least 1 2000) && (inR xs[k].most xs[k].least 2000))) := Lib.hid rfl
      have HB := Lib.hid hb
      have HX := Lib.hid (all_take_succ xs k hlt wrS HA.out)
      have HF : Hid (wrS xs[k] = false → areWrenches xs = false) := Lib.hid (fun h => by unfold areWrenches; rw [wrI_eq, all_false_at xs k hlt wrS h, Bool.and_false])
      clear hc hcell hb
      generalize xs[k] = x at *
      obtain ⟨l, m⟩ := x
      simp only at *
      rcases h1 : inR l 1 2000
      · have H1 := Lib.hid h1
        clear h1
        go_wp2
        go_quiet ((go_at_call 76; exact q_same (l26Torque_eq H1.out _)))
        go_wp2
        go_ret
        exact ⟨ret_int (wrCode_bad (HF.out (by rw [HD.out, H1.out]; rfl))).symm, below_drewN' HB.out _⟩
      have H1 := Lib.hid h1
      clear h1
      rcases h2 : inR m l 2000
      · have H2 := Lib.hid h2
        clear h2
        go_wp2
        go_quiet (first | (go_at_call 76; exact q_same (l26Torque_eq H1.out _)) | (go_at_call 53; exact q_same (l01In_eq H2.out _)))
        go_wp2
        go_ret
        exact ⟨ret_int (wrCode_bad (HF.out (by rw [HD.out, H1.out, H2.out]; rfl))).symm, below_drewN' HB.out _⟩
      have H2 := Lib.hid h2
      clear h2
      go_wp2
      go_quiet (first | (go_at_call 76; exact q_same (l26Torque_eq H1.out _)) | (go_at_call 53; exact q_same (l01In_eq H2.out _)))
      go_wp2
      go_roundg (xs.length - (k + 1))
      case measure => omega
      case rel => exact ⟨k + 1, by omega, rfl, by go_num, Lib.hid (HX.out (by rw [HD.out, H1.out, H2.out]; rfl)), below_drewN' HB.out _, hs⟩
    · obtain rfl : k = xs.length := by omega
      have hall := all_of_take xs _ (Nat.le_refl _) _ HA.out
      by_cases h60 : xs.length ≤ 60
      · have hok : areWrenches xs = true := by unfold areWrenches; rw [wrI_eq, hall, decide_eq_true h60]; rfl
        have HOK := Lib.hid hok
        clear hok hall
        rcases ht : inR t 1 2000
        · have HT := Lib.hid ht
          clear ht
          go_wp2_with (go_at_call 76; refine (l26Torque_eq HT.out _).mono ?_; rintro e w' ⟨rfl, rfl⟩)
          go_ret
          exact ⟨ret_int (by unfold wrCode; rw [HOK.out, HT.out]; rfl), hb⟩
        · have HT := Lib.hid ht
          clear ht
          go_wp2_with (go_at_call 76; refine (l26Torque_eq HT.out _).mono ?_; rintro e w' ⟨rfl, rfl⟩)
          go_ret
          exact ⟨ret_int (by unfold wrCode; rw [HOK.out, HT.out]; rfl), hb⟩
      · have hok : areWrenches xs = false := by unfold areWrenches; rw [decide_eq_false h60]; rfl
        have HOK := Lib.hid hok
        clear hok hall
        go_wp2
        go_ret
        exact ⟨ret_int (wrCode_bad HOK.out).symm, hb⟩

/-- the best wrench among the first k: its index, or -1 -/
def bestW (t : Int) (xs : List Wrench) : Nat → Int
  | 0 => -1
  | k + 1 => if inR t (xs.getD k zWrench).least (xs.getD k zWrench).most && (decide (bestW t xs k < 0) || decide ((xs.getD k zWrench).most < (xs.getD (bestW t xs k).toNat zWrench).most)) then (k : Int) else bestW t xs k
theorem bestW_bd (t : Int) (xs : List Wrench) : ∀ k, -1 ≤ bestW t xs k ∧ bestW t xs k < k
  | 0 => by simp [bestW]
  | k + 1 => by have := bestW_bd t xs k; rw [bestW]; split <;> omega
theorem bestW_yes0 {t : Int} {xs : List Wrench} {k : Nat} (h1 : inR t (xs.getD k zWrench).least (xs.getD k zWrench).most = true) (h2 : bestW t xs k = -1) : bestW t xs (k + 1) = k := by
  rw [bestW, h1, h2]; rfl
theorem bestW_yes {t : Int} {xs : List Wrench} {k : Nat} {j : Nat} (h1 : inR t (xs.getD k zWrench).least (xs.getD k zWrench).most = true) (h2 : bestW t xs k = j) (h3 : (xs.getD k zWrench).most < (xs.getD j zWrench).most) : bestW t xs (k + 1) = k := by
  rw [bestW, h1, h2]; simp only [Int.toNat_natCast, decide_eq_true h3, Bool.or_true, Bool.and_self, if_true]
theorem bestW_no1 {t : Int} {xs : List Wrench} {k : Nat} (h1 : inR t (xs.getD k zWrench).least (xs.getD k zWrench).most = false) : bestW t xs (k + 1) = bestW t xs k := by
  rw [bestW, h1]; rfl
theorem bestW_no2 {t : Int} {xs : List Wrench} {k : Nat} {j : Nat} (h2 : bestW t xs k = j) (h3 : ¬ (xs.getD k zWrench).most < (xs.getD j zWrench).most) : bestW t xs (k + 1) = bestW t xs k := by
  rw [bestW, h2]; simp only [Int.toNat_natCast, decide_eq_false h3]; rw [decide_eq_false (by omega)]; simp
def WrenchFor_r (xs : List Wrench) (t : Int) : Int × Int := if wrCode xs t = 0 then (if bestW t xs xs.length < 0 then (0, 4) else (bestW t xs xs.length, 0)) else (0, wrCode xs t)
abbrev WrenchFor_e (xs : List Wrench) (t : Int) : Ending := .returned (.tuple #[.int .i64 (WrenchFor_r xs t).1, .int .i64 (WrenchFor_r xs t).2])
theorem WrenchFor_bad {xs : List Wrench} {t c : Int} (h : wrCode xs t = c) (hc : c ≠ 0) : WrenchFor_r xs t = (0, c) := by unfold WrenchFor_r; rw [h, if_neg hc]
theorem WrenchFor_none {xs : List Wrench} {t : Int} (h : wrCode xs t = 0) (hc : bestW t xs xs.length < 0) : WrenchFor_r xs t = (0, 4) := by unfold WrenchFor_r; rw [if_pos h, if_pos hc]
theorem WrenchFor_some {xs : List Wrench} {t : Int} (h : wrCode xs t = 0) (hc : ¬ bestW t xs xs.length < 0) : WrenchFor_r xs t = (bestW t xs xs.length, 0) := by unfold WrenchFor_r; rw [if_pos h, if_neg hc]
theorem WrenchFor_e_of {xs : List Wrench} {t a b : Int} (h : WrenchFor_r xs t = (a, b)) : Ending.returned (.tuple #[.int .i64 a, .int .i64 b]) = WrenchFor_e xs t := by unfold WrenchFor_e; rw [h]
set_option maxHeartbeats 8000000 in
set_option maxRecDepth 20000 in
theorem iWrenchFor_any (v : Value) (xs : List Wrench) (t : Int) (w : World) (hv : Sl eWrench w v xs) :
    Calls Try.prog 30 #[v, .int .i64 t] w fun e w' => e = WrenchFor_e xs t ∧ Below w.heap.size w w' := by
  have HV := Lib.hid hv
  obtain ⟨A, cap, rfl, _, hm, hc⟩ := hv.shape
  clear hv
  rcases hA : areWrenches xs
  · have HA := Lib.hid hA
    clear hA hc
    go_enter Try.func30, Try.ntmps30
    go_wp2_with fail
    refine (areWrenches_any _ xs w HV.out).mono ?_
    rintro e w1 ⟨rfl, hb0⟩
    rw [HA.out]
    go_wp2
    go_ret2
    exact ⟨WrenchFor_e_of (WrenchFor_bad (wrCode_bad HA.out) (by decide)), hb0⟩
  rcases hT : inR t 1 2000
  · have HA := Lib.hid hA
    have HT := Lib.hid hT
    clear hA hc hT
    go_enter Try.func30, Try.ntmps30
    go_wp2_with fail
    refine (areWrenches_any _ xs w HV.out).mono ?_
    rintro e w1 ⟨rfl, hb0⟩
    rw [HA.out]
    go_wp2_with (go_at_call 59; refine (isTorque_eq HT.out _).mono ?_; rintro e w' ⟨rfl, rfl⟩)
    go_ret2
    exact ⟨WrenchFor_e_of (WrenchFor_bad (c := 2) (by unfold wrCode; rw [HA.out, HT.out]; rfl) (by decide)), hb0⟩
  have HA := Lib.hid hA
  have HT := Lib.hid hT
  have HC : Hid (wrCode xs t = 0) := Lib.hid (by unfold wrCode; rw [hA, hT]; rfl)
  clear hA hT
  go_enter Try.func30, Try.ntmps30
  go_wp2_with fail
  refine (areWrenches_any _ xs w HV.out).mono ?_
  rintro e w1 ⟨rfl, hb0⟩
  rw [HA.out]
  go_wp2_with (go_at_call 59; refine (isTorque_eq HT.out _).mono ?_; rintro e w' ⟨rfl, rfl⟩)
  go_loopg [17, 6] xs.length (fun gi i q wr => ∃ (k : Nat) (s : Int), k ≤ xs.length ∧ gi = xs.length - k ∧ i = .int .i64 k ∧ q = .int .i64 s ∧ Hid (bestW t xs k = s) ∧ -1 ≤ s ∧ s < k ∧ Below w.heap.size w wr ∧ w.heap.size ≤ wr.heap.size)
  case atStart => exact ⟨0, -1, Nat.zero_le _, rfl, rfl, rfl, Lib.hid rfl, by omega, by omega, hb0, hb0.size⟩
  case round =>
    obtain ⟨k, s, hk, rfl, rfl, rfl, HS, b1, b2, hb, hs⟩ := hrel
    by_cases hlt : k < xs.length
    · obtain ⟨b, off, rfl, hbl, hcell⟩ := hc (by omega)
      have c0 : wr.cell? ⟨b, off + k * 2, none⟩ = some (.int .i64 xs[k].least) := (hb.cell (p := ⟨b, off + k * 2, none⟩) hbl).trans (by simpa [eWrench, Nat.add_assoc] using hcell k hlt 0 _ (by decide) rfl)
      have c1 : wr.cell? ⟨b, off + k * 2 + 1, none⟩ = some (.int .i64 xs[k].most) := (hb.cell (p := ⟨b, off + k * 2 + 1, none⟩) hbl).trans (by simpa [eWrench, Nat.add_assoc] using hcell k hlt 1 _ (by decide) rfl)
      have HB := Lib.hid (hb.alloc hs (.cells #[.int .i64 xs[k].least, .int .i64 xs[k].most] 59))
      have hs2 : w.heap.size ≤ (wr.alloc (.cells #[.int .i64 xs[k].least, .int .i64 xs[k].most] 59)).heap.size := by simp; omega
      have HS2 := Lib.hid hs2
      clear hs2
      have hcp : ∀ j : Nat, s = j → wr.cell? ⟨b, off + j * 2 + 1, none⟩ = some (.int .i64 (xs.getD j zWrench).most) := fun j hj => (hb.cell (p := ⟨b, off + j * 2 + 1, none⟩) hbl).trans (by rw [getD_at _ _ _ (by omega)]; simpa [eWrench, Nat.add_assoc] using hcell j (by omega) 1 _ (by decide) rfl)
      have HG := Lib.hid (getD_at xs zWrench k hlt)
      clear hc hcell hb
      generalize xs[k] = x at *
      obtain ⟨l, m⟩ := x
      simp only at *
      have hk64 : IntKind.i64.wrap ((k : Int) + 1) = (k : Int) + 1 := IntWalk.i64_in _ (by omega)
      rcases hI : inR t l m
      · have HI := Lib.hid hI
        clear hI hcp
        go_wp2
        go_quiet ((go_at_call 60; exact q_same (within_eq HI.out _)))
        go_wp2
        go_roundg (xs.length - (k + 1))
        case measure => omega
        case rel => exact ⟨k + 1, s, by omega, rfl, by go_num, rfl, Lib.hid (by rw [bestW_no1 (by rw [HG.out]; exact HI.out)]; exact HS.out), b1, by omega, below_drewN' HB.out _, HS2.out⟩
      have HI := Lib.hid hI
      clear hI
      by_cases hs0 : s < 0
      · obtain rfl : s = -1 := by omega
        clear hcp
        go_wp2
        go_quiet ((go_at_call 60; exact q_same (within_eq HI.out _)))
        go_wp2
        go_roundg (xs.length - (k + 1))
        case measure => omega
        case rel => exact ⟨k + 1, k, by omega, rfl, by go_num, rfl, Lib.hid (bestW_yes0 (by rw [HG.out]; exact HI.out) HS.out), by omega, by omega, below_drewN' HB.out _, HS2.out⟩
      obtain ⟨j, rfl⟩ : ∃ j : Nat, s = j := ⟨s.toNat, by omega⟩
      have hcj := hcp j rfl
      have hcj2 : ∀ o, (wr.alloc o).cell? ⟨b, off + j * 2 + 1, none⟩ = some (.int .i64 (xs.getD j zWrench).most) := fun o => (World.cell?_alloc_lt wr o _ (by simp; omega)).trans hcj
      have hjl : j < xs.length := by omega
      have hjl2 : (j : Int) < (xs.length : Int) := by omega
      clear hcp
      generalize hpm : (xs.getD j zWrench).most = pm at *
      have HP := Lib.hid hpm
      clear hpm
      by_cases hlm : m < pm
      · have g1 : decide (m < pm) = true := decide_eq_true hlm
        go_wp2
        go_quiet ((go_at_call 60; exact q_same (within_eq HI.out _)))
        go_wp2
        go_roundg (xs.length - (k + 1))
        case measure => omega
        case rel => exact ⟨k + 1, k, by omega, rfl, by go_num, rfl, Lib.hid (bestW_yes (by rw [HG.out]; exact HI.out) HS.out (by rw [HG.out, HP.out]; exact hlm)), by omega, by omega, below_drewN' HB.out _, HS2.out⟩
      · have g1 : decide (m < pm) = false := decide_eq_false hlm
        go_wp2
        go_quiet ((go_at_call 60; exact q_same (within_eq HI.out _)))
        go_wp2
        go_roundg (xs.length - (k + 1))
        case measure => omega
        case rel => exact ⟨k + 1, j, by omega, rfl, by go_num, rfl, Lib.hid (by rw [bestW_no2 HS.out (by rw [HG.out, HP.out]; simp only []; omega)]; exact HS.out), by omega, by omega, below_drewN' HB.out _, HS2.out⟩
    · obtain rfl : k = xs.length := by omega
      by_cases hs0 : s < 0
      · obtain rfl : s = -1 := by omega
        go_wp2
        go_ret2
        exact ⟨WrenchFor_e_of (WrenchFor_none HC.out (by rw [HS.out]; decide)), hb⟩
      · have g1 : decide (s < 0) = false := decide_eq_false hs0
        go_wp2
        go_ret2
        exact ⟨WrenchFor_e_of (by rw [WrenchFor_some HC.out (by rw [HS.out]; omega), HS.out]), hb⟩
set_option maxHeartbeats 8000000 in
set_option maxRecDepth 20000 in
theorem sWrenchFor_any (v : Value) (xs : List Wrench) (t : Int) (w : World) (hv : Sl eWrench w v xs) :
    Calls Try.prog 28 #[v, .int .i64 t] w fun e w' => e = WrenchFor_e xs t ∧ Below w.heap.size w w' := by
  have HV := Lib.hid hv
  obtain ⟨A, cap, rfl, _, hm, hc⟩ := hv.shape
  clear hv
  by_cases hC : wrCode xs t = 0
  rotate_left
  · have HC := Lib.hid hC
    have hne : (wrCode xs t != 0) = true := by rw [bne_iff_ne]; exact hC
    clear hC hc
    go_enter Try.func28, Try.ntmps28
    go_wp2_with fail
    refine (l26Wrenches_any _ xs t w HV.out).mono ?_
    rintro e w1 ⟨rfl, hb0⟩
    go_wp2
    go_ret2
    exact ⟨WrenchFor_e_of (WrenchFor_bad rfl HC.out), hb0⟩
  have HC := Lib.hid hC
  clear hC
  go_enter Try.func28, Try.ntmps28
  go_wp2_with fail
  refine (l26Wrenches_any _ xs t w HV.out).mono ?_
  rintro e w1 ⟨rfl, hb0⟩
  rw [HC.out]
  go_wp2
  go_loopg [8, 7] xs.length (fun gi i q wr => ∃ (k : Nat) (s : Int), k ≤ xs.length ∧ gi = xs.length - k ∧ i = .int .i64 k ∧ q = .int .i64 s ∧ Hid (bestW t xs k = s) ∧ -1 ≤ s ∧ s < k ∧ Below w.heap.size w wr ∧ w.heap.size ≤ wr.heap.size)
  case atStart => exact ⟨0, -1, Nat.zero_le _, rfl, rfl, rfl, Lib.hid rfl, by omega, by omega, hb0, hb0.size⟩
  case round =>
    obtain ⟨k, s, hk, rfl, rfl, rfl, HS, b1, b2, hb, hs⟩ := hrel
    by_cases hlt : k < xs.length
    · obtain ⟨b, off, rfl, hbl, hcell⟩ := hc (by omega)
      have c0 : wr.cell? ⟨b, off + k * 2, none⟩ = some (.int .i64 xs[k].least) := (hb.cell (p := ⟨b, off + k * 2, none⟩) hbl).trans (by simpa [eWrench, Nat.add_assoc] using hcell k hlt 0 _ (by decide) rfl)
      have c1 : wr.cell? ⟨b, off + k * 2 + 1, none⟩ = some (.int .i64 xs[k].most) := (hb.cell (p := ⟨b, off + k * 2 + 1, none⟩) hbl).trans (by simpa [eWrench, Nat.add_assoc] using hcell k hlt 1 _ (by decide) rfl)
      have HB := Lib.hid hb
      have HS2 := Lib.hid hs
      have hcp : ∀ j : Nat, s = j → wr.cell? ⟨b, off + j * 2 + 1, none⟩ = some (.int .i64 (xs.getD j zWrench).most) := fun j hj => (hb.cell (p := ⟨b, off + j * 2 + 1, none⟩) hbl).trans (by rw [getD_at _ _ _ (by omega)]; simpa [eWrench, Nat.add_assoc] using hcell j (by omega) 1 _ (by decide) rfl)
      have HG := Lib.hid (getD_at xs zWrench k hlt)
      clear hc hcell hb
      generalize xs[k] = x at *
      obtain ⟨l, m⟩ := x
      simp only at *
      have hk64 : IntKind.i64.wrap ((k : Int) + 1) = (k : Int) + 1 := IntWalk.i64_in _ (by omega)
      rcases hI : inR t l m
      · have HI := Lib.hid hI
        clear hI hcp
        go_wp2
        go_quiet ((go_at_call 53; exact q_same (l01In_eq HI.out _)))
        go_wp2
        go_roundg (xs.length - (k + 1))
        case measure => omega
        case rel => exact ⟨k + 1, s, by omega, rfl, by go_num, rfl, Lib.hid (by rw [bestW_no1 (by rw [HG.out]; exact HI.out)]; exact HS.out), b1, by omega, below_drewN' HB.out _, HS2.out⟩
      have HI := Lib.hid hI
      clear hI
      by_cases hs0 : s < 0
      · obtain rfl : s = -1 := by omega
        clear hcp
        go_wp2
        go_quiet ((go_at_call 53; exact q_same (l01In_eq HI.out _)))
        go_wp2
        go_roundg (xs.length - (k + 1))
        case measure => omega
        case rel => exact ⟨k + 1, k, by omega, rfl, by go_num, rfl, Lib.hid (bestW_yes0 (by rw [HG.out]; exact HI.out) HS.out), by omega, by omega, below_drewN' HB.out _, HS2.out⟩
      obtain ⟨j, rfl⟩ : ∃ j : Nat, s = j := ⟨s.toNat, by omega⟩
      have hcj := hcp j rfl
      have hcj2 : ∀ o, (wr.alloc o).cell? ⟨b, off + j * 2 + 1, none⟩ = some (.int .i64 (xs.getD j zWrench).most) := fun o => (World.cell?_alloc_lt wr o _ (by simp; omega)).trans hcj
      have hjl : j < xs.length := by omega
      have hjl2 : (j : Int) < (xs.length : Int) := by omega
      clear hcp
      generalize hpm : (xs.getD j zWrench).most = pm at *
      have HP := Lib.hid hpm
      clear hpm
      by_cases hlm : m < pm
      · have g1 : decide (m < pm) = true := decide_eq_true hlm
        go_wp2
        go_quiet ((go_at_call 53; exact q_same (l01In_eq HI.out _)))
        go_wp2
        go_roundg (xs.length - (k + 1))
        case measure => omega
        case rel => exact ⟨k + 1, k, by omega, rfl, by go_num, rfl, Lib.hid (bestW_yes (by rw [HG.out]; exact HI.out) HS.out (by rw [HG.out, HP.out]; exact hlm)), by omega, by omega, below_drewN' HB.out _, HS2.out⟩
      · have g1 : decide (m < pm) = false := decide_eq_false hlm
        go_wp2
        go_quiet ((go_at_call 53; exact q_same (l01In_eq HI.out _)))
        go_wp2
        go_roundg (xs.length - (k + 1))
        case measure => omega
        case rel => exact ⟨k + 1, j, by omega, rfl, by go_num, rfl, Lib.hid (by rw [bestW_no2 HS.out (by rw [HG.out, HP.out]; simp only []; omega)]; exact HS.out), by omega, by omega, below_drewN' HB.out _, HS2.out⟩
    · obtain rfl : k = xs.length := by omega
      by_cases hs0 : s < 0
      · obtain rfl : s = -1 := by omega
        go_wp2
        go_ret2
        exact ⟨WrenchFor_e_of (WrenchFor_none HC.out (by rw [HS.out]; decide)), hb⟩
      · have g1 : decide (s < 0) = false := decide_eq_false hs0
        go_wp2
        go_ret2
        exact ⟨WrenchFor_e_of (by rw [WrenchFor_some HC.out (by rw [HS.out]; omega), HS.out]), hb⟩

theorem iWrenchFor_law (v : Value) (xs : List Wrench) (t : Int) (w : World) (hv : Sl eWrench w v xs) (_ : xs.length ≤ 1048576) (_ : (Lit.int .i64 t).wf = true) :
    Calls Try.prog 30 #[v, .int .i64 t] w fun e w' => e = .returned (.tuple #[.int .i64 (WrenchFor_r xs t).1, .int .i64 (WrenchFor_r xs t).2]) ∧ Below w.heap.size w w' := iWrenchFor_any v xs t w hv
theorem sWrenchFor_law (v : Value) (xs : List Wrench) (t : Int) (w : World) (hv : Sl eWrench w v xs) (_ : xs.length ≤ 1048576) (_ : (Lit.int .i64 t).wf = true) :
    Calls Try.prog 28 #[v, .int .i64 t] w fun e w' => e = .returned (.tuple #[.int .i64 (WrenchFor_r xs t).1, .int .i64 (WrenchFor_r xs t).2]) ∧ Below w.heap.size w w' := sWrenchFor_any v xs t w hv
end Go.Proofs.Ytijmafppdbllfaa
