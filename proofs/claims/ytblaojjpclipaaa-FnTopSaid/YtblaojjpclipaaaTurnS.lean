/- Contracts of the reference's l07One, l07Code and l07Turn (chapter 7). No statement of the seat is proved here. -/
import Derived.Test.YtblaojjpclipaaaTurn
namespace Go.Proofs.Ytblaojjpclipaaa
open Go.RowKit

def oneL (n sp : Nat) (q : Int) : List Int := (List.replicate n 0).set sp q
theorem oneL_len (n sp : Nat) (q : Int) : (oneL n sp q).length = n := by simp [oneL]
theorem oneL_at (n sp : Nat) (q : Int) (i : Nat) : (oneL n sp q).getD i 0 = if sp = i ∧ i < n then q else 0 := by
  unfold oneL
  rw [getD_set_if]
  simp only [List.length_replicate]
  split
  · rfl
  · rw [List.getD_eq_getElem?_getD, List.getElem?_replicate]
    split <;> rfl
theorem addAt_zero (xs : List Int) (j : Nat) : addAt xs j 0 = xs := by
  unfold addAt
  rw [Int.add_zero]
  apply List.ext_getElem?
  intro i
  rw [List.getElem?_set]
  split
  · rename_i h
    subst h
    split
    · rename_i h; rw [getD_at _ _ _ h, List.getElem?_eq_getElem h]
    · rename_i h; rw [List.getElem?_eq_none (by omega)]
  · rfl
theorem spr_zero (xs S : List Int) (sp : Int) : ∀ k, spr xs S sp 0 k = xs
  | 0 => rfl
  | k + 1 => by
    rw [spr, spr_zero xs S sp k, Int.zero_mul]
    unfold spr1
    simp [addAt_zero]
/-- the list after the first i nipples -/
def sprAll (L S ts : List Int) : Nat → List Int
  | 0 => L
  | i + 1 => spr (sprAll L S ts i) S (i : Int) (ts.getD i 0) S.length
theorem sprAll_len (L S ts : List Int) : ∀ i, (sprAll L S ts i).length = L.length
  | 0 => rfl
  | i + 1 => by rw [sprAll, spr_len, sprAll_len L S ts i]
theorem sprAll_one (L S : List Int) (n sp : Nat) (q : Int) (h : sp < n) : ∀ i, sprAll L S (oneL n sp q) i = if i ≤ sp then L else spr L S (sp : Int) q S.length
  | 0 => by simp [sprAll]
  | i + 1 => by
    rw [sprAll, sprAll_one L S n sp q h i, oneL_at]
    by_cases h1 : i + 1 ≤ sp
    · rw [if_pos h1, if_pos (by omega), if_neg (by omega), spr_zero]
    · rw [if_neg h1]
      by_cases h2 : i = sp
      · subst h2
        rw [if_pos (Nat.le_refl _), if_pos ⟨rfl, h⟩]
      · rw [if_neg (by omega), if_neg (by omega), spr_zero]
theorem oneL_all (n sp : Nat) (q : Int) (h : sp < n) : (oneL n sp q).all (inR · (-100) 100) = inR q (-100) 100 := by
  rcases hq : inR q (-100) 100
  · rw [List.all_eq_false]
    refine ⟨q, ?_, by simp [hq]⟩
    unfold oneL
    exact List.mem_iff_getElem.2 ⟨sp, by simp [h], by simp⟩
  · rw [List.all_eq_true]
    intro x hx
    unfold oneL at hx
    obtain ⟨i, hi, e⟩ := List.mem_iff_getElem.1 hx
    rw [List.getElem_set] at e
    split at e
    · rw [← e]; exact hq
    · simp at e; rw [← e]; decide
set_option maxHeartbeats 1000000 in
theorem l07One_any (n sp : Nat) (q : Int) (w : World) (h : sp < n) (hn : n ≤ 1000) :
    Calls Try.prog 35 #[.int .i64 n, .int .i64 sp, .int .i64 q] w fun e w' => ∃ u, e = .returned u ∧ Own eI w' w.heap.size 2 u (oneL n sp q) ∧ Below w.heap.size w w' := by
  obtain ⟨i0, hi, hz0, hz1, hz2⟩ := info_parts info_i64
  have i1 : (0 : Int) ≤ (sp : Int) := by omega
  have i2 : (sp : Int) < (n : Int) := by omega
  go_enter Try.func35, Try.ntmps35
  go_wp2_with (at_make; refine wpList_make_full _ rfl _ _ 24 rfl w.heap.size 2 i0 (.int .i64 0) 1 Try.underlying24 hi hz0 hz1 .i64 .i64 _ _ n rfl rfl rfl rfl ?c1 ?c2 (Nat.le_refl _) ?_)
  case c1 => rw [hz2]; omega
  case c2 => unfold maxLen; omega
  intro w1 hown hgrow
  have hb1 : Below w.heap.size w w1 := (Below.refl _ _).grown hgrow (Nat.le_refl _) (by simp)
  have hown0 : Own eI w1 w.heap.size 2 (.slice (some ⟨w.heap.size, 0, none⟩) n n) (List.replicate n 0) := own_of_ints (n := n) (by
    have h1 := own_made _ _ _ _ _ _ hown
    rw [List.map_replicate]
    exact h1) (by simp)
  have hlt : sp < (List.replicate n (0 : Int)).length := by simp [h]
  obtain ⟨c1, f1⟩ := hown0.cellI sp hlt
  have O1 := Lib.hid (hown0.setI sp q).1
  have B1 := Lib.hid (hb1.setCell (p := ⟨w.heap.size, sp, none⟩) (Nat.le_refl _) (.int .i64 q))
  clear hown hgrow hb1 hown0
  go_wp2
  go_ret
  exact ⟨_, rfl, O1.out, B1.out⟩
def rangeC (ts : List Int) : Int := if ts.all (inR · (-100) 100) then 0 else 2
theorem rangeC_0 {ts : List Int} (h : ts.all (inR · (-100) 100) = true) : rangeC ts = 0 := by unfold rangeC; rw [h]; rfl
theorem rangeC_2 {ts : List Int} (h : ts.all (inR · (-100) 100) = false) : rangeC ts = 2 := by unfold rangeC; rw [h]; rfl
set_option maxHeartbeats 4000000 in
theorem l07Code_any (v : Value) (L : List Int) (u : Value) (S : List Int) (t : Value) (ts : List Int) (w : World) (hv : Ints w v L) (hu : Ints w u S) (ht : Ints w t ts) (hA : areTens L = true) (hS : isStiff S = true) (hl : ts.length = L.length) :
    Calls Try.prog 58 #[v, u, t] w fun e w' => e = .returned (.int .i64 (rangeC ts)) ∧ ∃ m, w' = w.drewN m := by
  have HV := Lib.hid hv
  have HU := Lib.hid hu
  have HT := Lib.hid ht
  have HA := Lib.hid hA
  have HS := Lib.hid hS
  obtain ⟨A, cap, rfl, _, _, _⟩ := Ints.shape hv
  have hlb : ((ts.length : Int) == (L.length : Int)) = true := by rw [hl]; exact beq_self_eq_true _
  clear hv hu hA hS hl
  go_enter Try.func58, Try.ntmps58
  go_wp2_with fail
  refine (sAreTensions_any _ L w HV.out).mono ?_
  rintro e w1 ⟨rfl, rfl⟩
  rw [HA.out]
  go_wp2_with fail
  refine (sIsStiffness_any u S w HU.out).mono ?_
  rintro e w1 ⟨rfl, m, rfl⟩
  rw [HS.out]
  have HTm : Hid (Ints (w.drewN m) t ts) := Lib.hid (Sl.drewN HT.out m)
  have HD : Hid (∃ k, w.drewN m = w.drewN k) := Lib.hid ⟨m, rfl⟩
  generalize w.drewN m = wm at *
  obtain ⟨A2, cap2, rfl, _, hm, hc⟩ := Ints.shape HTm.out
  clear HT ht
  go_wp2
  go_loop [7] (fun i => ∃ k : Nat, k ≤ ts.length ∧ i = .int .i64 k ∧ (ts.take k).all (inR · (-100) 100) = true) (fun i => ts.length - (intOf i).toNat)
  case atStart => exact ⟨0, Nat.zero_le _, rfl, rfl⟩
  case round =>
    obtain ⟨k, hk, rfl, hall⟩ := hrel
    have HAL := Lib.hid hall
    clear hall
    by_cases hlt : k < ts.length
    · obtain ⟨b, off, rfl, _, hcell⟩ := hc (by omega)
      have hck := hcell k hlt
      clear hcell
      go_wp2_with (go_at_call 33; refine (l01In_any _ _ _ _).mono ?_; rintro e w' ⟨rfl, rfl⟩)
      · have h1 : (!inR ts[k] (-100) 100) = true := by assumption
        have h2 := all_false_at ts k hlt (inR · (-100) 100) (by simpa using h1)
        go_ret
        exact ⟨ret_int (rangeC_2 h2).symm, HD.out⟩
      · have h1 : (!inR ts[k] (-100) 100) = false := by assumption
        go_round
        case rel => exact ⟨k + 1, by omega, by go_num, all_take_succ ts k hlt _ HAL.out (by simpa using h1)⟩
        case measure => simp [intOf]; omega
    · obtain rfl : k = ts.length := by omega
      have h2 := Lib.hid (all_of_take ts _ (Nat.le_refl _) _ HAL.out)
      go_wp2
      go_ret
      exact ⟨ret_int (rangeC_0 h2.out).symm, HD.out⟩
end Go.Proofs.Ytblaojjpclipaaa
