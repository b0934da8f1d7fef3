/- Contracts of the functions that add up the prices and the grams of a build (chapter 17). No statement of the seat is proved here. -/
import Derived.Test.YtblaojjpclipaaaBroken
namespace Go.Proofs.Ytblaojjpclipaaa
open Go.RowKit

def prC (ps : List Part) (c : ByteArray) : Int := if emp c = true then 0 else (partOf ps c).price
def grC (ps : List Part) (c : ByteArray) : Int := if emp c = true then 0 else (partOf ps c).grams
def sumC (f : ByteArray → Int) : List ByteArray → Int
  | [] => 0
  | c :: r => f c + sumC f r
theorem sumC_app (f : ByteArray → Int) : ∀ (a b : List ByteArray), sumC f (a ++ b) = sumC f a + sumC f b
  | [], b => by simp [sumC]
  | x :: a, b => by simp only [List.cons_append, sumC, sumC_app f a b]; omega
theorem sumC_succ {f : ByteArray → Int} {b : List ByteArray} {k : Nat} (hk : k < b.length) : sumC f (b.take (k + 1)) = sumC f (b.take k) + f b[k] := by
  rw [List.take_succ_eq_append_getElem hk, sumC_app]; simp [sumC]
theorem sumC_bd {f : ByteArray → Int} {B : Int} (hB : 0 ≤ B) (h : ∀ c, 0 ≤ f c ∧ f c ≤ B) : ∀ b : List ByteArray, 0 ≤ sumC f b ∧ sumC f b ≤ B * (b.length : Int)
  | [] => by simp [sumC]
  | c :: b => by
    obtain ⟨h1, h2⟩ := sumC_bd hB h b
    obtain ⟨h3, h4⟩ := h c
    simp only [sumC, List.length_cons]
    refine ⟨by omega, ?_⟩
    have : B * ((b.length + 1 : Nat) : Int) = B * (b.length : Int) + B := by rw [Int.natCast_add, Int.mul_add]; simp
    omega
/-- parts with small prices and weights -/
def okPr (ps : List Part) : Prop := ∀ x ∈ ps, (0 ≤ x.price ∧ x.price ≤ 10000000) ∧ 0 ≤ x.grams ∧ x.grams ≤ 100000
theorem partOf_ok {ps : List Part} (h : okPr ps) (c : ByteArray) : (0 ≤ (partOf ps c).price ∧ (partOf ps c).price ≤ 10000000) ∧ 0 ≤ (partOf ps c).grams ∧ (partOf ps c).grams ≤ 100000 := by
  unfold partOf
  by_cases hk : (firstAt (isCode c) ps).toNat < ps.length
  · rw [getD_at _ _ _ hk]; exact h _ (List.getElem_mem hk)
  · rw [List.getD_eq_getElem?_getD, List.getElem?_eq_none (by omega)]
    exact ⟨⟨by decide, by decide⟩, by decide, by decide⟩
theorem prC_bd {ps : List Part} (h : okPr ps) (c : ByteArray) : 0 ≤ prC ps c ∧ prC ps c ≤ 10000000 := by
  have := partOf_ok h c
  unfold prC
  split <;> omega
theorem grC_bd {ps : List Part} (h : okPr ps) (c : ByteArray) : 0 ≤ grC ps c ∧ grC ps c ≤ 10000000 := by
  have := partOf_ok h c
  unfold grC
  split <;> omega
theorem sumC_take {f : ByteArray → Int} (h : ∀ c, 0 ≤ f c ∧ f c ≤ 10000000) {b : List ByteArray} (h8 : b.length = 8) (k : Nat) : 0 ≤ sumC f (b.take k) ∧ sumC f (b.take k) ≤ 80000000 := by
  obtain ⟨h1, h2⟩ := sumC_bd (by decide) h (b.take k)
  have : (b.take k).length ≤ 8 := by rw [List.length_take]; omega
  refine ⟨h1, ?_⟩
  omega
set_option maxHeartbeats 8000000 in
set_option maxRecDepth 20000 in
theorem buildSums_any (pv v : Value) (ps : List Part) (b : List ByteArray) (w : World) (hp : RdP w pv ps) (hv : Sl eS w v b) (hf : Fit ps b) (hk0 : okPr ps) :
    Calls Try.prog 64 #[pv, v] w fun e w' => e = .returned (.tuple #[.int .i64 (sumC (prC ps) b), .int .i64 (sumC (grC ps) b)]) ∧ Below w.heap.size w w' := by
  have HP := Lib.hid hp
  have HF := Lib.hid hf
  have h8 := hf.1
  obtain ⟨A, cap, rfl, _, _, hc⟩ := Strs.shape hv
  have BD_prC : Hid (∀ k, 0 ≤ sumC (prC ps) (b.take k) ∧ sumC (prC ps) (b.take k) ≤ 80000000) := Lib.hid (sumC_take (prC_bd hk0) h8)
  have BD_grC : Hid (∀ k, 0 ≤ sumC (grC ps) (b.take k) ∧ sumC (grC ps) (b.take k) ≤ 80000000) := Lib.hid (sumC_take (grC_bd hk0) h8)
  have HOK := Lib.hid hk0
  clear hp hv hf hk0 h8
  go_enter Try.func64, Try.ntmps64
  go_wp2
  go_loopg [6, 7, 13] b.length (fun gi p g i wr => ∃ k : Nat, k ≤ b.length ∧ gi = b.length - k ∧ i = .int .i64 k ∧ p = .int .i64 (sumC (prC ps) (b.take k)) ∧ g = .int .i64 (sumC (grC ps) (b.take k)) ∧ Hid (Below w.heap.size w wr))
  case atStart => exact ⟨0, Nat.zero_le _, rfl, rfl, rfl, rfl, Lib.hid (Below.refl _ _)⟩
  case round =>
    obtain ⟨k, hk, rfl, rfl, rfl, rfl, HB⟩ := hrel
    by_cases hlt : k < b.length
    rotate_left
    · obtain rfl : k = b.length := by omega
      have HT : Hid (b.take b.length = b) := Lib.hid (List.take_of_length_le (Nat.le_refl _))
      go_wp2
      go_ret2
      rw [HT.out]
      exact ⟨rfl, HB.out⟩
    obtain ⟨g, off, rfl, hg, hcell⟩ := hc (by omega)
    have c0 : wr.cell? ⟨g, off + k, none⟩ = some (.string b[k]) := (HB.out.cell (p := ⟨g, off + k, none⟩) hg).trans (hcell k hlt)
    have HS_prC : Hid (sumC (prC ps) (b.take (k + 1)) = sumC (prC ps) (b.take k) + prC ps b[k]) := Lib.hid (sumC_succ hlt)
    have hb_prC := BD_prC.out k
    have hn_prC := BD_prC.out (k + 1)
    rw [HS_prC.out] at hn_prC
    have HS_grC : Hid (sumC (grC ps) (b.take (k + 1)) = sumC (grC ps) (b.take k) + grC ps b[k]) := Lib.hid (sumC_succ hlt)
    have hb_grC := BD_grC.out k
    have hn_grC := BD_grC.out (k + 1)
    rw [HS_grC.out] at hn_grC
    have hor := HF.out.2 b[k] (List.getElem_mem hlt)
    have hki : (k : Int) < (b.length : Int) := by omega
    have hk0 : (0 : Int) ≤ (k : Int) := by omega
    have hkw : IntKind.i64.wrap ((k : Int) + 1) = (k : Int) + 1 := IntWalk.i64_in _ (by omega)
    clear hcell
    generalize b[k] = c at *
    generalize sumC (prC ps) (b.take k) = s_prC at *
    generalize sumC (grC ps) (b.take k) = s_grC at *
    by_cases he : c.toList = []
    · have hem : emp c = true := by unfold emp; rw [he]; rfl
      have HZ_prC : Hid (prC ps c = 0) := Lib.hid (by unfold prC; rw [hem]; rfl)
      have HZ_grC : Hid (grC ps c = 0) := Lib.hid (by unfold grC; rw [hem]; rfl)
      clear hn_prC
      clear hn_grC
      have he2 : c.toList.isEmpty = true := by rw [he]; rfl
      clear hem hor
      go_wp2
      go_roundg (b.length - (k + 1))
      case measure => omega
      case rel => exact ⟨k + 1, by omega, rfl, by go_num, by rw [HS_prC.out, HZ_prC.out, Int.add_zero], by rw [HS_grC.out, HZ_grC.out, Int.add_zero], HB⟩
    have hem : emp c = false := by
      unfold emp
      cases hl : c.toList with
      | nil => exact absurd hl he
      | cons a l => rfl
    have he2 : c.toList.isEmpty = false := hem
    obtain ⟨n, hn, hfi, hpo, _⟩ := part_at (ps := ps) (c := c) (hor.resolve_left (by rw [hem]; decide))
    have HFI := Lib.hid hfi
    have hox := HOK.out _ (List.getElem_mem hn)
    have HZ_prC : prC ps c = ps[n].price := by unfold prC; rw [hem, hpo]; rfl
    rw [HZ_prC] at hn_prC HS_prC
    have HZ_grC : grC ps c = ps[n].grams := by unfold grC; rw [hem, hpo]; rfl
    rw [HZ_grC] at hn_grC HS_grC
    obtain ⟨gp, offp, capp, rfl, hgp⟩ := RdP.some_ HP.out (by omega)
    obtain ⟨A1, C1, at1⟩ := HP.out.at_ n hn
    have HA1 := Lib.hid at1
    have i1 : (n : Int) < (ps.length : Int) := by omega
    have i2 : (0 : Int) ≤ (n : Int) := by omega
    clear hem hor hfi hpo at1 HZ_prC HZ_grC
    generalize ps[n] = x at *
    have hw_prC : IntKind.i64.wrap (s_prC + x.price) = s_prC + x.price := IntWalk.i64_in _ (by omega)
    have hw_grC : IntKind.i64.wrap (s_grC + x.grams) = s_grC + x.grams := IntWalk.i64_in _ (by omega)
    go_wp2_with fail
    refine (findPart_any _ ps c wr (HP.out.below HB.out)).mono ?_
    rw [HFI.out]
    rintro e w1 ⟨rfl, hb1⟩
    have hb2 := Below.step HB.out hb1
    obtain ⟨d0, d1, d2, d3, d4, _⟩ := HA1.out w1 hb2
    have PB : Below w.heap.size w (w1.alloc (.cells #[.string x.code, .int .i64 x.slot, .slice A1 x.ports.length C1, .int .i64 x.price, .int .i64 x.grams] 52)) := hb2.alloc hb2.size _
    have b3 : (w1.alloc (.cells #[.string x.code, .int .i64 x.slot, .slice A1 x.ports.length C1, .int .i64 x.price, .int .i64 x.grams] 52)).cell? ⟨w1.heap.size, 3, none⟩ = some (.int .i64 x.price) := (box_new _ _ _ 3).trans rfl
    have b4 : (w1.alloc (.cells #[.string x.code, .int .i64 x.slot, .slice A1 x.ports.length C1, .int .i64 x.price, .int .i64 x.grams] 52)).cell? ⟨w1.heap.size, 4, none⟩ = some (.int .i64 x.grams) := (box_new _ _ _ 4).trans rfl
    have B3 := Lib.hid PB
    clear hb1 hb2 HB PB c0
    go_wp2
    go_roundg (b.length - (k + 1))
    case measure => omega
    case rel => exact ⟨k + 1, by omega, rfl, by go_num, by rw [HS_prC.out], by rw [HS_grC.out], B3⟩
set_option maxHeartbeats 8000000 in
set_option maxRecDepth 20000 in
theorem l17Price_any (pv v : Value) (ps : List Part) (b : List ByteArray) (w : World) (hp : RdP w pv ps) (hv : Sl eS w v b) (hf : Fit ps b) (hk0 : okPr ps) :
    Calls Try.prog 68 #[pv, v] w fun e w' => e = .returned (.int .i64 (sumC (prC ps) b)) ∧ w = w' := by
  have HP := Lib.hid hp
  have HF := Lib.hid hf
  have h8 := hf.1
  obtain ⟨A, cap, rfl, _, _, hc⟩ := Strs.shape hv
  have BD_prC : Hid (∀ k, 0 ≤ sumC (prC ps) (b.take k) ∧ sumC (prC ps) (b.take k) ≤ 80000000) := Lib.hid (sumC_take (prC_bd hk0) h8)
  have HOK := Lib.hid hk0
  clear hp hv hf hk0 h8
  go_enter Try.func68, Try.ntmps68
  go_wp2
  go_loopg [5, 6] b.length (fun gi p i wr => ∃ k : Nat, k ≤ b.length ∧ gi = b.length - k ∧ i = .int .i64 k ∧ p = .int .i64 (sumC (prC ps) (b.take k)) ∧ w = wr)
  case atStart => exact ⟨0, Nat.zero_le _, rfl, rfl, rfl, rfl⟩
  case round =>
    obtain ⟨k, hk, rfl, rfl, rfl, rfl⟩ := hrel
    by_cases hlt : k < b.length
    rotate_left
    · obtain rfl : k = b.length := by omega
      have HT : Hid (b.take b.length = b) := Lib.hid (List.take_of_length_le (Nat.le_refl _))
      go_wp2
      go_ret
      rw [HT.out]
      exact ⟨rfl, rfl⟩
    obtain ⟨g, off, rfl, hg, hcell⟩ := hc (by omega)
    have c0 : w.cell? ⟨g, off + k, none⟩ = some (.string b[k]) := hcell k hlt
    have HS_prC : Hid (sumC (prC ps) (b.take (k + 1)) = sumC (prC ps) (b.take k) + prC ps b[k]) := Lib.hid (sumC_succ hlt)
    have hb_prC := BD_prC.out k
    have hn_prC := BD_prC.out (k + 1)
    rw [HS_prC.out] at hn_prC
    have hor := HF.out.2 b[k] (List.getElem_mem hlt)
    have hki : (k : Int) < (b.length : Int) := by omega
    have hk0 : (0 : Int) ≤ (k : Int) := by omega
    have hkw : IntKind.i64.wrap ((k : Int) + 1) = (k : Int) + 1 := IntWalk.i64_in _ (by omega)
    clear hcell
    generalize b[k] = c at *
    generalize sumC (prC ps) (b.take k) = s_prC at *
    by_cases he : c.toList = []
    · have hem : emp c = true := by unfold emp; rw [he]; rfl
      have HZ_prC : Hid (prC ps c = 0) := Lib.hid (by unfold prC; rw [hem]; rfl)
      clear hn_prC
      have he2 : c.toList.isEmpty = true := by rw [he]; rfl
      clear hem hor
      go_wp2
      go_roundg (b.length - (k + 1))
      case measure => omega
      case rel => exact ⟨k + 1, by omega, rfl, by go_num, by rw [HS_prC.out, HZ_prC.out, Int.add_zero], rfl⟩
    have hem : emp c = false := by
      unfold emp
      cases hl : c.toList with
      | nil => exact absurd hl he
      | cons a l => rfl
    have he2 : c.toList.isEmpty = false := hem
    obtain ⟨n, hn, hfi, hpo, _⟩ := part_at (ps := ps) (c := c) (hor.resolve_left (by rw [hem]; decide))
    have HFI := Lib.hid hfi
    have hox := HOK.out _ (List.getElem_mem hn)
    have HZ_prC : prC ps c = ps[n].price := by unfold prC; rw [hem, hpo]; rfl
    rw [HZ_prC] at hn_prC HS_prC
    obtain ⟨gp, offp, capp, rfl, hgp⟩ := RdP.some_ HP.out (by omega)
    obtain ⟨A1, C1, at1⟩ := HP.out.at_ n hn
    have HA1 := Lib.hid at1
    have i1 : (n : Int) < (ps.length : Int) := by omega
    have i2 : (0 : Int) ≤ (n : Int) := by omega
    clear hem hor hfi hpo at1 HZ_prC
    generalize ps[n] = x at *
    have hw_prC : IntKind.i64.wrap (s_prC + x.price) = s_prC + x.price := IntWalk.i64_in _ (by omega)
    have hfc := l16Find_any _ ps c w HP.out
    rw [HFI.out] at hfc
    obtain ⟨d0, d1, d2, d3, d4, _⟩ := HA1.out w (Below.refl _ _)
    have HFC := Lib.hid hfc
    clear hfc
    go_wp2_with fail
    refine HFC.out.mono ?_
    rintro e w1 ⟨rfl, rfl⟩
    go_wp2
    go_roundg (b.length - (k + 1))
    case measure => omega
    case rel => exact ⟨k + 1, by omega, rfl, by go_num, by rw [HS_prC.out], rfl⟩
set_option maxHeartbeats 8000000 in
set_option maxRecDepth 20000 in
theorem l17Grams_any (pv v : Value) (ps : List Part) (b : List ByteArray) (w : World) (hp : RdP w pv ps) (hv : Sl eS w v b) (hf : Fit ps b) (hk0 : okPr ps) :
    Calls Try.prog 67 #[pv, v] w fun e w' => e = .returned (.int .i64 (sumC (grC ps) b)) ∧ w = w' := by
  have HP := Lib.hid hp
  have HF := Lib.hid hf
  have h8 := hf.1
  obtain ⟨A, cap, rfl, _, _, hc⟩ := Strs.shape hv
  have BD_grC : Hid (∀ k, 0 ≤ sumC (grC ps) (b.take k) ∧ sumC (grC ps) (b.take k) ≤ 80000000) := Lib.hid (sumC_take (grC_bd hk0) h8)
  have HOK := Lib.hid hk0
  clear hp hv hf hk0 h8
  go_enter Try.func67, Try.ntmps67
  go_wp2
  go_loopg [5, 6] b.length (fun gi p i wr => ∃ k : Nat, k ≤ b.length ∧ gi = b.length - k ∧ i = .int .i64 k ∧ p = .int .i64 (sumC (grC ps) (b.take k)) ∧ w = wr)
  case atStart => exact ⟨0, Nat.zero_le _, rfl, rfl, rfl, rfl⟩
  case round =>
    obtain ⟨k, hk, rfl, rfl, rfl, rfl⟩ := hrel
    by_cases hlt : k < b.length
    rotate_left
    · obtain rfl : k = b.length := by omega
      have HT : Hid (b.take b.length = b) := Lib.hid (List.take_of_length_le (Nat.le_refl _))
      go_wp2
      go_ret
      rw [HT.out]
      exact ⟨rfl, rfl⟩
    obtain ⟨g, off, rfl, hg, hcell⟩ := hc (by omega)
    have c0 : w.cell? ⟨g, off + k, none⟩ = some (.string b[k]) := hcell k hlt
    have HS_grC : Hid (sumC (grC ps) (b.take (k + 1)) = sumC (grC ps) (b.take k) + grC ps b[k]) := Lib.hid (sumC_succ hlt)
    have hb_grC := BD_grC.out k
    have hn_grC := BD_grC.out (k + 1)
    rw [HS_grC.out] at hn_grC
    have hor := HF.out.2 b[k] (List.getElem_mem hlt)
    have hki : (k : Int) < (b.length : Int) := by omega
    have hk0 : (0 : Int) ≤ (k : Int) := by omega
    have hkw : IntKind.i64.wrap ((k : Int) + 1) = (k : Int) + 1 := IntWalk.i64_in _ (by omega)
    clear hcell
    generalize b[k] = c at *
    generalize sumC (grC ps) (b.take k) = s_grC at *
    by_cases he : c.toList = []
    · have hem : emp c = true := by unfold emp; rw [he]; rfl
      have HZ_grC : Hid (grC ps c = 0) := Lib.hid (by unfold grC; rw [hem]; rfl)
      clear hn_grC
      have he2 : c.toList.isEmpty = true := by rw [he]; rfl
      clear hem hor
      go_wp2
      go_roundg (b.length - (k + 1))
      case measure => omega
      case rel => exact ⟨k + 1, by omega, rfl, by go_num, by rw [HS_grC.out, HZ_grC.out, Int.add_zero], rfl⟩
    have hem : emp c = false := by
      unfold emp
      cases hl : c.toList with
      | nil => exact absurd hl he
      | cons a l => rfl
    have he2 : c.toList.isEmpty = false := hem
    obtain ⟨n, hn, hfi, hpo, _⟩ := part_at (ps := ps) (c := c) (hor.resolve_left (by rw [hem]; decide))
    have HFI := Lib.hid hfi
    have hox := HOK.out _ (List.getElem_mem hn)
    have HZ_grC : grC ps c = ps[n].grams := by unfold grC; rw [hem, hpo]; rfl
    rw [HZ_grC] at hn_grC HS_grC
    obtain ⟨gp, offp, capp, rfl, hgp⟩ := RdP.some_ HP.out (by omega)
    obtain ⟨A1, C1, at1⟩ := HP.out.at_ n hn
    have HA1 := Lib.hid at1
    have i1 : (n : Int) < (ps.length : Int) := by omega
    have i2 : (0 : Int) ≤ (n : Int) := by omega
    clear hem hor hfi hpo at1 HZ_grC
    generalize ps[n] = x at *
    have hw_grC : IntKind.i64.wrap (s_grC + x.grams) = s_grC + x.grams := IntWalk.i64_in _ (by omega)
    have hfc := l16Find_any _ ps c w HP.out
    rw [HFI.out] at hfc
    obtain ⟨d0, d1, d2, d3, d4, _⟩ := HA1.out w (Below.refl _ _)
    have HFC := Lib.hid hfc
    clear hfc
    go_wp2_with fail
    refine HFC.out.mono ?_
    rintro e w1 ⟨rfl, rfl⟩
    go_wp2
    go_roundg (b.length - (k + 1))
    case measure => omega
    case rel => exact ⟨k + 1, by omega, rfl, by go_num, by rw [HS_grC.out], rfl⟩
end Go.Proofs.Ytblaojjpclipaaa
