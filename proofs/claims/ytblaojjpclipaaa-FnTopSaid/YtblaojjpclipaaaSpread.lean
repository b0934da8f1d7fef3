/- The contract of spreadTurn: what turning one nipple adds (chapter 7). No statement of the seat is proved here. -/
import Derived.Test.YtblaojjpclipaaaStiff
namespace Go.Proofs.Ytblaojjpclipaaa
open Go.RowKit

def addAt (xs : List Int) (j : Nat) (v : Int) : List Int := xs.set j (xs.getD j 0 + v)
/-- a place on a ring of n -/
def plc (n : Nat) (x : Int) : Nat := (x % (n : Int)).toNat
def spr1 (xs : List Int) (sp : Int) (d : Nat) (v : Int) : List Int :=
  if d = 0 then addAt xs (plc xs.length (sp - d)) v else addAt (addAt xs (plc xs.length (sp - d)) v) (plc xs.length (sp + d)) v
/-- the list after the first k weights -/
def spr (xs S : List Int) (sp q : Int) : Nat → List Int
  | 0 => xs
  | k + 1 => spr1 (spr xs S sp q k) sp k (q * S.getD k 0)
theorem addAt_len (xs : List Int) (j : Nat) (v : Int) : (addAt xs j v).length = xs.length := by simp [addAt]
theorem spr1_len (xs : List Int) (sp : Int) (d : Nat) (v : Int) : (spr1 xs sp d v).length = xs.length := by
  unfold spr1
  split <;> simp [addAt_len]
theorem spr_len (xs S : List Int) (sp q : Int) : ∀ k, (spr xs S sp q k).length = xs.length
  | 0 => rfl
  | k + 1 => by rw [spr, spr1_len, spr_len xs S sp q k]
theorem getD_set_if (xs : List Int) (j : Nat) (x : Int) (i : Nat) : (xs.set j x).getD i 0 = if j = i ∧ i < xs.length then x else xs.getD i 0 := by
  rw [List.getD_eq_getElem?_getD, List.getElem?_set, List.getD_eq_getElem?_getD]
  by_cases hji : j = i
  · subst hji
    by_cases hl : j < xs.length
    · simp [hl]
    · simp [hl]
  · simp [hji]
theorem addAt_bd {c m : Int} {xs : List Int} (h : Bd c xs) (j : Nat) {v : Int} (h1 : -m ≤ v) (h2 : v ≤ m) (hm : 0 ≤ m) : Bd (c + m) (addAt xs j v) := fun i => by
  have hi := h i
  have hj := h j
  unfold addAt
  rw [getD_set_if]
  split <;> omega
theorem spr1_bd {c m : Int} {xs : List Int} (h : Bd c xs) (sp : Int) (d : Nat) {v : Int} (h1 : -m ≤ v) (h2 : v ≤ m) (hm : 0 ≤ m) : Bd (c + 2 * m) (spr1 xs sp d v) := by
  unfold spr1
  split
  · exact (addAt_bd h _ h1 h2 hm).mono (by omega)
  · exact (addAt_bd (addAt_bd h _ h1 h2 hm) _ h1 h2 hm).mono (by omega)
theorem spr_bd {c m : Int} {xs S : List Int} (h : Bd c xs) (sp q : Int) (hm : 0 ≤ m) (hq : ∀ k, -m ≤ q * S.getD k 0 ∧ q * S.getD k 0 ≤ m) : ∀ k : Nat, Bd (c + 2 * m * k) (spr xs S sp q k)
  | 0 => by simpa [spr] using h
  | k + 1 => by
    have ih := spr_bd h sp q hm hq k
    have e : c + 2 * m * ((k + 1 : Nat) : Int) = c + 2 * m * (k : Int) + 2 * m := by rw [Int.natCast_add, Int.mul_add]; simp; omega
    rw [e, spr]
    exact spr1_bd ih sp k (hq k).1 (hq k).2 hm
theorem mul_bd {q s a b : Int} (h1 : -a ≤ q) (h2 : q ≤ a) (h3 : -b ≤ s) (h4 : s ≤ b) : -(a * b) ≤ q * s ∧ q * s ≤ a * b := by
  have hq : q.natAbs ≤ a.toNat := by omega
  have hs : s.natAbs ≤ b.toNat := by omega
  have hm := Nat.mul_le_mul hq hs
  rw [← Int.natAbs_mul] at hm
  have ha : 0 ≤ a := by omega
  have hb : 0 ≤ b := by omega
  have e : ((a.toNat * b.toNat : Nat) : Int) = a * b := by rw [Int.natCast_mul, Int.toNat_of_nonneg ha, Int.toNat_of_nonneg hb]
  omega
theorem plc_of {n r : Nat} {x : Int} (h : x % (n : Int) = (r : Int)) : plc n x = r := by unfold plc; rw [h]; simp
theorem plc_get (n : Nat) (x : Int) (hn : 0 < n) : ∃ r : Nat, x % (n : Int) = (r : Int) ∧ r < n := by
  obtain ⟨r, hr⟩ := Int.eq_ofNat_of_zero_le (Int.emod_nonneg x (show (n : Int) ≠ 0 by omega))
  have := Int.emod_lt_of_pos x (show (0 : Int) < n by omega)
  exact ⟨r, hr, by omega⟩
set_option maxHeartbeats 8000000 in
set_option maxRecDepth 20000 in
theorem spreadTurn_any (w0 w : World) (v : Value) (L : List Int) (u : Value) (S : List Int) (sp q : Int) (hO : Own eI w w0.heap.size 2 v L) (hS : Ints w0 u S) (hB : Below w0.heap.size w0 w)
    (h1 : 1 ≤ L.length) (h2 : L.length ≤ 1000) (h4 : S.length ≤ 4) (s0 : 0 ≤ sp) (s1 : sp ≤ 1000) (hL : Bd 100000 L) (hq : ∀ k, -20000 ≤ q * S.getD k 0 ∧ q * S.getD k 0 ≤ 20000) :
    Calls Try.prog 30 #[v, u, .int .i64 sp, .int .i64 q] w fun e w' => (∃ r, e = .returned r) ∧ Own eI w' w0.heap.size 2 v (spr L S sp q S.length) ∧ Below w0.heap.size w0 w' := by
  obtain ⟨g, cap, rfl, hg, _⟩ := World.ownsRow.form hO (by omega)
  obtain ⟨A, capS, rfl, _, _, hcS⟩ := Ints.shape hS
  have HO0 := Lib.hid hO
  have HB0 := Lib.hid hB
  have HBL := Lib.hid (fun k => spr_bd (m := 20000) hL sp q (by omega) hq k)
  have HQ := Lib.hid hq
  clear hO hB hL hq hS
  go_enter Try.func30, Try.ntmps30
  go_wp2
  go_loopg [15] S.length (fun gk i wr => ∃ k : Nat, k ≤ S.length ∧ gk = S.length - k ∧ i = .int .i64 k ∧ Hid (Own eI wr w0.heap.size 2 (.slice (some ⟨g, 0, none⟩) L.length cap) (spr L S sp q k)) ∧ Hid (Below w0.heap.size w0 wr))
  case atStart => exact ⟨0, Nat.zero_le _, rfl, rfl, HO0, HB0⟩
  case round =>
    obtain ⟨k, hk, rfl, rfl, HO, HB⟩ := hrel
    clear HO0 HB0
    by_cases hlt : k < S.length
    rotate_left
    · obtain rfl : k = S.length := by omega
      go_wp2
      refine bodyPost_end (results_none rfl _ _ _) rfl ⟨⟨_, rfl⟩, HO.out, HB.out⟩
    obtain ⟨bs, os, rfl, hbs, hcs⟩ := hcS (by omega)
    have c0 := (HB.out.cell (p := ⟨bs, os + k, none⟩) hbs).trans (hcs k hlt)
    obtain ⟨r, hr, hrl⟩ := plc_get L.length (sp - k) (by omega)
    obtain ⟨r2, hr2, hrl2⟩ := plc_get L.length (sp + k) (by omega)
    have hlen := spr_len L S sp q k
    have hbd := HBL.out k
    have hbr := hbd r
    have hbr2 := hbd r2
    have hqk := HQ.out k
    have hsp : spr L S sp q (k + 1) = spr1 (spr L S sp q k) sp k (q * S.getD k 0) := rfl
    rw [getD_at S 0 k hlt] at hqk hsp
    unfold spr1 at hsp
    rw [hlen, plc_of hr, plc_of hr2] at hsp
    have HSP := Lib.hid hsp
    clear hsp hcS hcs hbd
    have hkb : (20000 : Int) * 2 * k ≤ 200000 := by omega
    generalize spr L S sp q k = M at *
    generalize S[k] = s at *
    have hrM : r < M.length := by omega
    obtain ⟨c1, f1⟩ := HO.out.cellI r hrM
    rw [getD_at M 0 r hrM] at hbr
    have hadd : addAt M r (q * s) = M.set r (M[r] + q * s) := by unfold addAt; rw [getD_at M 0 r hrM]
    have HADD := Lib.hid hadd
    clear hadd
    generalize M[r] = x at *
    have hm : IntKind.i64.wrap (q * s) = q * s := IntWalk.i64_in _ (by omega)
    have hw1 : IntKind.i64.wrap (sp - k) = sp - k := IntWalk.i64_in _ (by omega)
    have hw2 : IntKind.i64.wrap (sp + k) = sp + k := IntWalk.i64_in _ (by omega)
    have hw3 : IntKind.i64.wrap (x + q * s) = x + q * s := IntWalk.i64_in _ (by omega)
    have i0 : (0 : Int) ≤ (r : Int) := by omega
    have i1 : (r : Int) < (L.length : Int) := by omega
    have j0 : (0 : Int) ≤ (r2 : Int) := by omega
    have j1 : (r2 : Int) < (L.length : Int) := by omega
    have O1 := Lib.hid (HO.out.setI r (x + q * s)).1
    have B1 : Hid (Below w0.heap.size w0 (wr.setCell ⟨g, r, none⟩ (.int .i64 (x + q * s)))) := Lib.hid (HB.out.setCell (p := ⟨g, r, none⟩) hg _)
    have HR1 := Lib.hid hr
    have HR2 := Lib.hid hr2
    clear hr hr2
    go_wp2_with fail
    refine (floorMod_any (sp - k) L.length wr (by omega) (by omega) (by omega) (by omega)).mono ?_
    rintro e w' ⟨rfl, rfl⟩
    rw [HR1.out]
    have HSP0 : Hid (k = 0 → spr L S sp q (k + 1) = M.set r (x + q * s)) := Lib.hid (fun h => by rw [HSP.out, if_pos h, HADD.out])
    by_cases hk0 : k = 0
    · replace HSP0 := Lib.hid (HSP0.out hk0)
      subst hk0
      clear HSP
      go_wp2
      go_roundg (S.length - (0 + 1))
      case measure => omega
      case rel => exact ⟨1, by omega, rfl, by go_num, by rw [HSP0.out]; exact O1, B1⟩
    · have hkp : (0 : Int) < (k : Int) := by omega
      have hrM2 : r2 < (M.set r (x + q * s)).length := by rw [List.length_set]; omega
      obtain ⟨c2, f2⟩ := O1.out.cellI r2 hrM2
      have hx2 : -300000 ≤ (M.set r (x + q * s))[r2] ∧ (M.set r (x + q * s))[r2] ≤ 300000 := by
        rw [List.getElem_set]
        split
        · omega
        · rw [getD_at M 0 r2 (by omega)] at hbr2
          omega
      have hadd2 : addAt (M.set r (x + q * s)) r2 (q * s) = (M.set r (x + q * s)).set r2 ((M.set r (x + q * s))[r2] + q * s) := by unfold addAt; rw [getD_at _ 0 r2 hrM2]
      rw [if_neg hk0, HADD.out, hadd2] at HSP
      have hx3 : IntKind.i64.wrap ((M.set r (x + q * s))[r2] + q * s) = (M.set r (x + q * s))[r2] + q * s := IntWalk.i64_in _ (by omega)
      have O2 := Lib.hid (O1.out.setI r2 ((M.set r (x + q * s))[r2] + q * s)).1
      have B2 : Hid (Below w0.heap.size w0 ((wr.setCell ⟨g, r, none⟩ (.int .i64 (x + q * s))).setCell ⟨g, r2, none⟩ (.int .i64 ((M.set r (x + q * s))[r2] + q * s)))) := Lib.hid (B1.out.setCell (p := ⟨g, r2, none⟩) hg _)
      have cs2 := (B1.out.cell (p := ⟨bs, os + k, none⟩) hbs).trans ((HB.out.cell (p := ⟨bs, os + k, none⟩) hbs).symm.trans c0)
      have HX := Lib.hid HSP.out
      clear hadd2 HSP HSP0
      generalize (M.set r (x + q * s))[r2] = y at *
      go_wp2_with fail
      clear c1 f1
      generalize wr.setCell ⟨g, r, none⟩ (.int .i64 (x + q * s)) = w1 at *
      refine (floorMod_any (sp + k) L.length w1 (by omega) (by omega) (by omega) (by omega)).mono ?_
      rintro e w' ⟨rfl, rfl⟩
      rw [HR2.out]
      go_wp2
      go_roundg (S.length - (k + 1))
      case measure => omega
      case rel => exact ⟨k + 1, by omega, rfl, by go_num, by rw [HX.out]; exact O2, B2⟩
end Go.Proofs.Ytblaojjpclipaaa
