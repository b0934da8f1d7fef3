/- Contracts of cheapest and l18Best (chapter 18). No statement of the seat is proved here. -/
import Derived.Test.YtblaojjpclipaaaBikes
namespace Go.Proofs.Ytblaojjpclipaaa
open Go.RowKit

def better (ps : List Part) (o : Option (List ByteArray × Int)) (b : List ByteArray) : Option (List ByteArray × Int) := match o with
  | none => some (b, sumC (prC ps) b)
  | some (c, m) => if sumC (prC ps) b < m then some (b, sumC (prC ps) b) else some (c, m)
/-- the first of the cheapest builds, with its price -/
def bestL (ps : List Part) (bs : List (List ByteArray)) : Option (List ByteArray × Int) := bs.foldl (better ps) none
theorem bestL_succ {ps : List Part} {bs : List (List ByteArray)} {k : Nat} (hk : k < bs.length) : bestL ps (bs.take (k + 1)) = better ps (bestL ps (bs.take k)) bs[k] := by
  unfold bestL
  rw [List.take_succ_eq_append_getElem hk, List.foldl_append]; rfl
theorem bestL_mem {ps : List Part} {bs : List (List ByteArray)} {c : List ByteArray} {m : Int} (h : bestL ps bs = some (c, m)) : c ∈ bs := by
  have key : ∀ (k : Nat), k ≤ bs.length → ∀ c m, bestL ps (bs.take k) = some (c, m) → c ∈ bs := by
    intro k
    induction k with
    | zero => intro _ c m h; simp [bestL] at h
    | succ k ih =>
      intro hk c m h
      rw [bestL_succ (by omega)] at h
      cases ho : bestL ps (bs.take k) with
      | none =>
        rw [ho] at h
        simp only [better, Option.some.injEq, Prod.mk.injEq] at h
        rw [← h.1]; exact List.getElem_mem _
      | some x =>
        obtain ⟨c', m'⟩ := x
        rw [ho] at h
        simp only [better] at h
        split at h
        · simp only [Option.some.injEq, Prod.mk.injEq] at h
          rw [← h.1]; exact List.getElem_mem _
        · simp only [Option.some.injEq, Prod.mk.injEq] at h
          rw [← h.1]; exact ih (by omega) c' m' ho
  refine key bs.length (Nat.le_refl _) c m ?_
  rwa [List.take_of_length_le (Nat.le_refl _)]
def bestB (ps : List Part) (bs : List (List ByteArray)) : List ByteArray := ((bestL ps bs).map (·.1)).getD []
def bestP (ps : List Part) (bs : List (List ByteArray)) : Int := ((bestL ps bs).map (·.2)).getD 0
def bestE (ps : List Part) (bs : List (List ByteArray)) : Int := match bestL ps bs with | none => 4 | some _ => 0
theorem best_none {ps : List Part} {bs : List (List ByteArray)} (h : bestL ps bs = none) : bestB ps bs = [] ∧ bestP ps bs = 0 ∧ bestE ps bs = 4 := by unfold bestB bestP bestE; rw [h]; exact ⟨rfl, rfl, rfl⟩
theorem best_some {ps : List Part} {bs : List (List ByteArray)} {c : List ByteArray} {m : Int} (h : bestL ps bs = some (c, m)) : bestB ps bs = c ∧ bestP ps bs = m ∧ bestE ps bs = 0 := by unfold bestB bestP bestE; rw [h]; exact ⟨rfl, rfl, rfl⟩
theorem allB_fit {ps : List Part} {js : List Joint} : ∀ x ∈ allB ps js, Fit ps x := fun x hx => (srch_fit (slots_ok js) (fit_empt ps) hx).1
theorem Sl.nilS {α : Type} (E : Enc α) (w : World) : Sl E w (.slice none 0 0) [] := ⟨E.len _, Nat.zero_le _, none, 0, rfl, Nat.le_refl _, fun h => absurd h (by simp)⟩
set_option maxHeartbeats 8000000 in
set_option maxRecDepth 20000 in
theorem cheapest_any (pv jv : Tri) (ps : List Part) (js : List Joint) (w : World) (hp : RdP w pv.v ps) (hj : Sl eJoint w jv.v js) (hO : Both ps js) :
    Calls Try.prog 38 #[.slice pv.a pv.n pv.cap, .slice jv.a jv.n jv.cap, .string ⟨#[]⟩] w fun e w' => ∃ u, e = .returned (.tuple #[u, .int .i64 (bestP ps (allB ps js)), .int .i64 (bestE ps (allB ps js))]) ∧ Sl eS w' u (bestB ps (allB ps js)) ∧ Below w.heap.size w w' := by
  have HP := Lib.hid hp
  have HJ := Lib.hid hj
  have HO := Lib.hid hO
  have HAL := Lib.hid (allB_len (js := js) hO.n16)
  have HFT := Lib.hid (allB_fit (ps := ps) (js := js))
  generalize hbs : allB ps js = bs at *
  have HBS := Lib.hid hbs
  clear hp hj hO hbs
  go_enter Try.func38, Try.ntmps38
  go_wp2_with fail
  refine (bicycles_any pv jv ps js w HP.out HJ.out HO.out).mono ?_
  rw [HBS.out]
  rintro e w1 ⟨u0, n0, g0, rfl, hol, hb⟩
  have hal := HAL.out
  have hrd := hol.rd (by unfold big40; omega)
  have B0 := Lib.hid hb
  obtain ⟨A, cap, rfl, _, hm, hc⟩ := hrd.shape
  have W0 : Hid (∀ W, Below w1.heap.size w1 W → Below w.heap.size w W) := Lib.hid (fun W h => Below.step B0.out h)
  clear hol hb hal hrd
  go_wp2
  go_loopg [9, 10, 25] bs.length (fun gi u l i wr => ∃ (k : Nat), k ≤ bs.length ∧ gi = bs.length - k ∧ i = .int .i64 k ∧ Hid (Below w1.heap.size w1 wr) ∧ ((Hid (bestL ps (bs.take k) = none) ∧ l = .int .i64 (-1)) ∨ ∃ (c : List ByteArray) (m : Int), Hid (bestL ps (bs.take k) = some (c, m)) ∧ Hid (Sl eS wr u c) ∧ l = .int .i64 m ∧ 0 ≤ m))
  case atStart => exact ⟨0, Nat.zero_le _, rfl, rfl, Lib.hid (Below.refl _ _), .inl ⟨Lib.hid rfl, rfl⟩⟩
  case round =>
    obtain ⟨k, hk, rfl, rfl, HB, hor⟩ := hrel
    by_cases hlt : k < bs.length
    rotate_left
    · obtain rfl : k = bs.length := by omega
      rw [List.take_of_length_le (Nat.le_refl _)] at hor
      have HF := Lib.hid (W0.out _ HB.out)
      rcases hor with ⟨HN, rfl⟩ | ⟨c, m, HN, HS, rfl, hm0⟩
      · go_wp2
        go_ret3
        obtain ⟨r1, r2, r3⟩ := best_none HN.out
        exact ⟨_, by rw [r2, r3]; rfl, by rw [r1]; exact Sl.nilS _ _, HF.out⟩
      · go_wp2
        go_ret3
        obtain ⟨r1, r2, r3⟩ := best_some HN.out
        exact ⟨_, by rw [r2, r3]; rfl, by rw [r1]; exact HS.out, HF.out⟩
    obtain ⟨gb, off, rfl, hgb, hat⟩ := hc (by omega)
    obtain ⟨a, cp, hcell⟩ := hat k hlt
    obtain ⟨c0, _⟩ := hcell _ HB.out
    have HC := Lib.hid hcell
    have HFK := Lib.hid (HFT.out bs[k] (List.getElem_mem hlt))
    have HNX : Hid (bestL ps (bs.take (k + 1)) = better ps (bestL ps (bs.take k)) bs[k]) := Lib.hid (bestL_succ hlt)
    have hki : (k : Int) < (bs.length : Int) := by omega
    have hk0 : (0 : Int) ≤ (k : Int) := by omega
    have hkw : IntKind.i64.wrap ((k : Int) + 1) = (k : Int) + 1 := IntWalk.i64_in _ (by omega)
    have hsb := sumC_take (prC_bd HO.out.pok) HFK.out.1 8
    rw [List.take_of_length_le (by rw [HFK.out.1]; exact Nat.le_refl _)] at hsb
    clear hat hcell
    generalize bs[k] = b at *
    obtain ⟨p, hpe⟩ : ∃ p, p = sumC (prC ps) b := ⟨_, rfl⟩
    rw [← hpe] at hsb
    have HPE := Lib.hid hpe
    clear hpe
    go_wp2_with fail
    refine (buildSums_any _ _ ps b wr (HP.out.below (W0.out _ HB.out)) (HC.out wr HB.out).2.1 HFK.out HO.out.pok).mono ?_
    rw [← HPE.out]
    rintro e w3 ⟨rfl, hb3⟩
    have BN := Lib.hid (Below.step HB.out hb3)
    have SN := Lib.hid (HC.out w3 BN.out).2.1
    have HSO := Lib.hid hb3
    clear hb3 c0
    rcases hor with ⟨HN, rfl⟩ | ⟨c, m, HN, HS, rfl, hm0⟩
    · have HNN : Hid (bestL ps (bs.take (k + 1)) = some (b, p)) := Lib.hid (by rw [HNX.out, HN.out, HPE.out]; rfl)
      go_wp2
      go_roundg (bs.length - (k + 1))
      case measure => omega
      case rel => exact ⟨k + 1, by omega, rfl, by go_num, BN, .inr ⟨b, p, HNN, SN, rfl, hsb.1⟩⟩
    · have hm1 : (m < 0) = False := by simp; omega
      have hm2 : decide (m < 0) = false := decide_eq_false (by omega)
      have hm3 : decide (0 ≤ m) = true := decide_eq_true hm0
      by_cases hpm : p < m
      · have HNN : Hid (bestL ps (bs.take (k + 1)) = some (b, p)) := Lib.hid (by rw [HNX.out, HN.out]; unfold better; simp only []; rw [← HPE.out, if_pos hpm])
        go_wp2
        go_roundg (bs.length - (k + 1))
        case measure => omega
        case rel => exact ⟨k + 1, by omega, rfl, by go_num, BN, .inr ⟨b, p, HNN, SN, rfl, hsb.1⟩⟩
      · have HNN : Hid (bestL ps (bs.take (k + 1)) = some (c, m)) := Lib.hid (by rw [HNX.out, HN.out]; unfold better; simp only []; rw [← HPE.out, if_neg hpm])
        have SO := Lib.hid (HS.out.below HSO.out)
        go_wp2
        go_roundg (bs.length - (k + 1))
        case measure => omega
        case rel => exact ⟨k + 1, by omega, rfl, by go_num, BN, .inr ⟨c, m, HNN, SO, rfl, hm0⟩⟩
set_option maxHeartbeats 8000000 in
set_option maxRecDepth 20000 in
theorem l18Best_any (pv v : Value) (ps : List Part) (bs : List (List ByteArray)) (w : World) (hp : RdP w pv ps) (hv : RdB w v bs) (hf : ∀ x ∈ bs, Fit ps x) (hk0 : okPr ps) :
    Calls Try.prog 40 #[pv, v, .bool true] w fun e w' => ∃ u, e = .returned (.tuple #[u, .int .i64 (bestP ps bs), .int .i64 (bestE ps bs)]) ∧ Sl eS w' u (bestB ps bs) ∧ Below w.heap.size w w' := by
  have HP := Lib.hid hp
  have HO := Lib.hid hk0
  have HFT := Lib.hid hf
  obtain ⟨A, cap, rfl, _, hm, hc⟩ := hv.shape
  have B1 : Hid (Below w.heap.size w (w.alloc (.cells #[] 9))) := Lib.hid ((Below.refl _ _).alloc (Nat.le_refl _) _)
  clear hp hv hf hk0
  go_enter Try.func40, Try.ntmps40
  go_wp2
  go_loopg [9, 10, 11] bs.length (fun gi u l i wr => ∃ (k : Nat), k ≤ bs.length ∧ gi = bs.length - k ∧ i = .int .i64 k ∧ Hid (Below w.heap.size w wr) ∧ ((Hid (bestL ps (bs.take k) = none) ∧ l = .int .i64 (-1)) ∨ ∃ (c : List ByteArray) (m : Int), Hid (bestL ps (bs.take k) = some (c, m)) ∧ Hid (Sl eS wr u c) ∧ l = .int .i64 m ∧ 0 ≤ m))
  case atStart => exact ⟨0, Nat.zero_le _, rfl, rfl, B1, .inl ⟨Lib.hid rfl, rfl⟩⟩
  case round =>
    obtain ⟨k, hk, rfl, rfl, HB, hor⟩ := hrel
    by_cases hlt : k < bs.length
    rotate_left
    · obtain rfl : k = bs.length := by omega
      rw [List.take_of_length_le (Nat.le_refl _)] at hor
      have HF := Lib.hid (HB.out)
      rcases hor with ⟨HN, rfl⟩ | ⟨c, m, HN, HS, rfl, hm0⟩
      · go_wp2
        go_ret3
        obtain ⟨r1, r2, r3⟩ := best_none HN.out
        exact ⟨_, by rw [r2, r3]; rfl, by rw [r1]; exact Sl.nilS _ _, HF.out⟩
      · go_wp2
        go_ret3
        obtain ⟨r1, r2, r3⟩ := best_some HN.out
        exact ⟨_, by rw [r2, r3]; rfl, by rw [r1]; exact HS.out, HF.out⟩
    obtain ⟨gb, off, rfl, hgb, hat⟩ := hc (by omega)
    obtain ⟨a, cp, hcell⟩ := hat k hlt
    obtain ⟨c0, _⟩ := hcell _ HB.out
    have HC := Lib.hid hcell
    have HFK := Lib.hid (HFT.out bs[k] (List.getElem_mem hlt))
    have HNX : Hid (bestL ps (bs.take (k + 1)) = better ps (bestL ps (bs.take k)) bs[k]) := Lib.hid (bestL_succ hlt)
    have hki : (k : Int) < (bs.length : Int) := by omega
    have hk0 : (0 : Int) ≤ (k : Int) := by omega
    have hkw : IntKind.i64.wrap ((k : Int) + 1) = (k : Int) + 1 := IntWalk.i64_in _ (by omega)
    have hsb := sumC_take (prC_bd HO.out) HFK.out.1 8
    rw [List.take_of_length_le (by rw [HFK.out.1]; exact Nat.le_refl _)] at hsb
    clear hat hcell
    generalize bs[k] = b at *
    obtain ⟨p, hpe⟩ : ∃ p, p = sumC (prC ps) b := ⟨_, rfl⟩
    rw [← hpe] at hsb
    have HPE := Lib.hid hpe
    clear hpe
    go_wp2_with fail
    refine (l17Grams_any _ _ ps b wr (HP.out.below HB.out) (HC.out wr HB.out).2.1 HFK.out HO.out).mono ?_
    rintro e w3 ⟨rfl, rfl⟩
    go_wp2_with fail
    refine (l17Price_any _ _ ps b wr (HP.out.below HB.out) (HC.out wr HB.out).2.1 HFK.out HO.out).mono ?_
    rw [← HPE.out]
    rintro e w3 ⟨rfl, rfl⟩
    have BN := HB
    have SN := Lib.hid (HC.out wr HB.out).2.1
    have HSO : Hid (Below wr.heap.size wr wr) := Lib.hid (Below.refl _ _)
    rcases hor with ⟨HN, rfl⟩ | ⟨c, m, HN, HS, rfl, hm0⟩
    · have HNN : Hid (bestL ps (bs.take (k + 1)) = some (b, p)) := Lib.hid (by rw [HNX.out, HN.out, HPE.out]; rfl)
      go_wp2
      go_roundg (bs.length - (k + 1))
      case measure => omega
      case rel => exact ⟨k + 1, by omega, rfl, by go_num, BN, .inr ⟨b, p, HNN, SN, rfl, hsb.1⟩⟩
    · have hm1 : (m < 0) = False := by simp; omega
      have hm2 : decide (m < 0) = false := decide_eq_false (by omega)
      have hm3 : decide (0 ≤ m) = true := decide_eq_true hm0
      by_cases hpm : p < m
      · have HNN : Hid (bestL ps (bs.take (k + 1)) = some (b, p)) := Lib.hid (by rw [HNX.out, HN.out]; unfold better; simp only []; rw [← HPE.out, if_pos hpm])
        go_wp2
        go_roundg (bs.length - (k + 1))
        case measure => omega
        case rel => exact ⟨k + 1, by omega, rfl, by go_num, BN, .inr ⟨b, p, HNN, SN, rfl, hsb.1⟩⟩
      · have HNN : Hid (bestL ps (bs.take (k + 1)) = some (c, m)) := Lib.hid (by rw [HNX.out, HN.out]; unfold better; simp only []; rw [← HPE.out, if_neg hpm])
        have SO := Lib.hid (HS.out.below HSO.out)
        go_wp2
        go_roundg (bs.length - (k + 1))
        case measure => omega
        case rel => exact ⟨k + 1, by omega, rfl, by go_num, BN, .inr ⟨c, m, HNN, SO, rfl, hm0⟩⟩
end Go.Proofs.Ytblaojjpclipaaa
