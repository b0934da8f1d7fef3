/- The plain law of the plans (P26). No statement of the seat is proved here. -/
import Derived.Test.YtijmafppdbllfaaPlanP
import Derived.Test.YtijmafppdbllfaaOwnI
namespace Go.Proofs.Ytijmafppdbllfaa
open Go.RowKit

/-- what a bolt has behind some steps: g0 at the start -/
def lastG (g0 : Int) (ps : List (Int × Int)) (b : Int) : Int := ps.foldl (fun v p => if p.1 = b then p.2 else v) g0
theorem lastG_snoc (g0 : Int) (ps : List (Int × Int)) (p : Int × Int) (b : Int) : lastG g0 (ps ++ [p]) b = if p.1 = b then p.2 else lastG g0 ps b := by simp [lastG, List.foldl_append]
theorem lastG_app (g0 : Int) (ps qs : List (Int × Int)) (b : Int) : lastG g0 (ps ++ qs) b = lastG (lastG g0 ps b) qs b := by simp [lastG, List.foldl_append]
theorem lastG_out {L : List Int} {v g0 b : Int} (h : b ∉ L) : lastG g0 (L.map fun x => (x, v)) b = g0 := by
  induction L generalizing g0 with
  | nil => rfl
  | cons x L ih =>
    simp only [List.mem_cons, not_or] at h
    simp only [lastG, List.map_cons, List.foldl_cons] at *
    rw [if_neg (fun e => h.1 e.symm)]
    exact ih h.2
theorem lastG_same {L : List Int} {v b : Int} : lastG v (L.map fun x => (x, v)) b = v := by
  induction L with
  | nil => rfl
  | cons x L ih => simp only [lastG, List.map_cons, List.foldl_cons, ite_self] at *; exact ih
theorem lastG_in {L : List Int} {v g0 b : Int} (h : b ∈ L) : lastG g0 (L.map fun x => (x, v)) b = v := by
  induction L generalizing g0 with
  | nil => simp at h
  | cons x L ih =>
    by_cases e : x = b
    · have := lastG_same (L := L) (v := v) (b := b)
      simp only [lastG, List.map_cons, List.foldl_cons] at *
      rw [if_pos e]; exact this
    · simp only [List.mem_cons] at h
      rcases h with h | h
      · exact absurd h.symm e
      · have := ih (g0 := g0) h
        simp only [lastG, List.map_cons, List.foldl_cons] at *
        rw [if_neg e]; exact this
theorem lastG_plan {L : List Int} {f : Nat → Int} {g0 b : Int} (h : b ∈ L) : ∀ k, lastG g0 (plan L f k) b = if k = 0 then g0 else f (k - 1)
  | 0 => rfl
  | k + 1 => by rw [plan, lastG_app, lastG_in h, if_neg (by omega), Nat.add_sub_cancel]
theorem lastG_planU {L : List Int} {f : Nat → Int} {g0 : Int} (hn : L.Nodup) (k i : Nat) (hi : i < L.length) : lastG g0 (planU L f k i) L[i] = if k = 0 then g0 else f (k - 1) := by
  unfold planU
  rw [lastG_app, lastG_out, lastG_plan (List.getElem_mem hi)]
  intro hm
  rw [List.mem_take_iff_getElem] at hm
  obtain ⟨j, hj, e⟩ := hm
  exact List.pairwise_iff_getElem.1 hn j i (by omega) hi (by omega) e
theorem plan_take (L : List Int) (f : Nat → Int) (k i : Nat) (hi : i ≤ L.length) : ∀ s, k < s → (plan L f s).take (L.length * k + i) = planU L f k i
  | s + 1, h => by
    have hl := plan_len L f s
    rw [plan]
    by_cases e : k = s
    · subst e
      rw [List.take_append, hl, Nat.add_sub_cancel_left, List.take_of_length_le (by omega), ← List.map_take]
      rfl
    · have hm : L.length * (k + 1) ≤ L.length * s := Nat.mul_le_mul_left _ (by omega)
      rw [Nat.mul_succ] at hm
      rw [List.take_append_of_le_length (by omega)]
      exact plan_take L f k i hi s (by omega)
theorem plan_at (L : List Int) (f : Nat → Int) (k i : Nat) (hi : i < L.length) : ∀ s, k < s → (plan L f s)[L.length * k + i]? = some (L[i], f k)
  | s + 1, h => by
    have hl := plan_len L f s
    rw [plan]
    by_cases e : k = s
    · subst e
      rw [List.getElem?_append_right (by omega), hl, Nat.add_sub_cancel_left]
      simp [hi]
    · have hm : L.length * (k + 1) ≤ L.length * s := Nat.mul_le_mul_left _ (by omega)
      rw [Nat.mul_succ] at hm
      rw [List.getElem?_append_left (by omega)]
      exact plan_at L f k i hi s (by omega)
/-- each step of a plan: its bolt, its number, and what the bolt had -/
theorem plan_step {L : List Int} {f : Nat → Int} {g0 : Int} {s j : Nat} (hn : L.Nodup) (hj : j < (plan L f s).length) :
    ∃ k i, k < s ∧ ∃ hi : i < L.length, (plan L f s)[j]? = some (L[i], f k) ∧ lastG g0 ((plan L f s).take j) L[i] = if k = 0 then g0 else f (k - 1) := by
  rw [plan_len] at hj
  have hL : 0 < L.length := by
    rcases Nat.eq_zero_or_pos L.length with h | h
    · rw [h] at hj; omega
    · exact h
  have h1 := Nat.div_add_mod j L.length
  have h2 := Nat.mod_lt j hL
  have h3 : j / L.length < s := Nat.div_lt_of_lt_mul hj
  refine ⟨j / L.length, j % L.length, h3, h2, ?_, ?_⟩
  · have := plan_at L f _ _ h2 s h3
    rw [h1] at this; exact this
  · have h4 := plan_take L f (j / L.length) (j % L.length) (by omega) s h3
    rw [h1] at h4
    rw [h4]
    exact lastG_planU hn _ _ h2
theorem star_nd : (List.range 13).all (fun n => decide (n < 3) || (decide (star n).Nodup && (List.range n).all fun i => (star n).any (· == (i : Int)))) = true := by decide +kernel
theorem star_perm {n : Nat} (h3 : 3 ≤ n) (h12 : n ≤ 12) : (star n).Nodup ∧ ∀ i : Nat, i < n → (i : Int) ∈ star n := by
  have h := List.all_eq_true.1 star_nd n (List.mem_range.2 (by omega))
  rw [Bool.or_eq_true, decide_eq_true_eq, Bool.and_eq_true, decide_eq_true_eq, List.all_eq_true] at h
  rcases h with h | h
  · omega
  · refine ⟨h.1, fun i hi => ?_⟩
    have := h.2 i (List.mem_range.2 hi)
    rw [List.any_eq_true] at this
    obtain ⟨x, hx, he⟩ := this
    rw [beq_iff_eq] at he
    rwa [he] at hx
theorem upDiv_mono {a b s : Int} (h : a ≤ b) (hs : 1 ≤ s) : upDiv a s ≤ upDiv b s := Int.ediv_le_ediv (by omega) (by omega)
theorem upDiv_bd {a s t : Int} (h0 : 0 ≤ a) (h1 : a ≤ t * s) (hs : 1 ≤ s) : 0 ≤ upDiv a s ∧ upDiv a s ≤ t := by
  refine ⟨Int.ediv_nonneg (by omega) (by omega), ?_⟩
  have : upDiv a s ≤ upDiv (t * s) s := upDiv_mono h1 hs
  have e : upDiv (t * s) s = t := by
    unfold upDiv
    rw [show t * s + s - 1 = (s - 1) + t * s by omega, Int.add_mul_ediv_right _ _ (by omega), Int.ediv_eq_zero_of_lt (by omega) (by omega)]
    omega
  omega
theorem upDiv_full {s t : Int} (hs : 1 ≤ s) : upDiv (t * s) s = t := by
  unfold upDiv
  rw [show t * s + s - 1 = (s - 1) + t * s by omega, Int.add_mul_ediv_right _ _ (by omega), Int.ediv_eq_zero_of_lt (by omega) (by omega)]
  omega
theorem tightF_mono {t s : Int} (ht : 0 ≤ t) (hs : 1 ≤ s) (k : Nat) : tightF t s k ≤ tightF t s (k + 1) := upDiv_mono (Int.mul_le_mul_of_nonneg_left (by omega) ht) hs
theorem tightF_bd {t : Int} {s k : Nat} (ht : 0 ≤ t) (hs : 1 ≤ s) (hk : k < s) : 0 ≤ tightF t s k ∧ tightF t s k ≤ t :=
  upDiv_bd (Int.mul_nonneg ht (by omega)) (Int.mul_le_mul_of_nonneg_left (by omega) ht) (by omega)
theorem tightF_end {t : Int} {s : Nat} (hs : 1 ≤ s) : tightF t s (s - 1) = t := by
  unfold tightF
  rw [show (((s - 1 : Nat) : Int) + 1) = (s : Int) by omega]
  exact upDiv_full (by omega)
theorem loosF_mono {t s : Int} (ht : 0 ≤ t) (hs : 1 ≤ s) (k : Nat) : loosF t s (k + 1) ≤ loosF t s k := upDiv_mono (Int.mul_le_mul_of_nonneg_left (by omega) ht) hs
theorem loosF_bd {t : Int} {s k : Nat} (ht : 0 ≤ t) (hs : 1 ≤ s) (hk : k < s) : 0 ≤ loosF t s k ∧ loosF t s k ≤ t :=
  upDiv_bd (Int.mul_nonneg ht (by omega)) (Int.mul_le_mul_of_nonneg_left (by omega) ht) (by omega)
theorem loosF_end {t : Int} {s : Nat} (hs : 1 ≤ s) : loosF t s (s - 1) = 0 := by
  unfold loosF upDiv
  rw [show (s : Int) - 1 - ((s - 1 : Nat) : Int) = 0 by omega, Int.mul_zero]
  exact Int.ediv_eq_zero_of_lt (by omega) (by omega)
/-- the row of what each bolt has -/
def nowL (n : Nat) (h : Nat → Int) : List Int := (List.range n).map h
theorem nowL_len (n : Nat) (h : Nat → Int) : (nowL n h).length = n := by simp [nowL]
theorem nowL_at (n : Nat) (h : Nat → Int) (b : Nat) (hb : b < (nowL n h).length) : (nowL n h)[b] = h b := by simp [nowL]
theorem nowL_set (n : Nat) (h : Nat → Int) (b : Nat) (v : Int) : (nowL n h).set b v = nowL n (fun i => if i = b then v else h i) := by
  apply List.ext_getElem
  · simp [nowL_len]
  · intro i h1 h2
    rw [List.getElem_set, nowL_at _ _ _ h2]
    by_cases e : b = i
    · subst e; simp
    · rw [if_neg e, if_neg (fun h => e h.symm), nowL_at]
theorem nowL_congr {n : Nat} {h h' : Nat → Int} (e : ∀ i, i < n → h i = h' i) : nowL n h = nowL n h' := by
  unfold nowL
  exact List.map_congr_left fun i hi => e i (List.mem_range.1 hi)
/-- a plan as the statement sees it: each step's bolt and numbers, and where it ends -/
structure Plan (n : Nat) (t : Int) (g0 g1 : Int) (up : Bool) (ps : List (Int × Int)) : Prop where
  len : ps.length ≤ 100
  step : ∀ j, j < ps.length → ∃ b : Nat, ∃ v : Int, ps[j]? = some ((b : Int), v) ∧ b < n ∧ 0 ≤ v ∧ v ≤ t ∧ (0 ≤ lastG g0 (ps.take j) b ∧ lastG g0 (ps.take j) b ≤ t) ∧ (if up then lastG g0 (ps.take j) b ≤ v else v ≤ lastG g0 (ps.take j) b)
  fin : ∀ b : Nat, b < n → lastG g0 ps b = g1
theorem plan_tight {n s : Nat} {t : Int} (h3 : 3 ≤ n) (h12 : n ≤ 12) (ht : 0 ≤ t) (hs : 1 ≤ s) (hs6 : s ≤ 6) : Plan n t 0 t true (plan (star n) (tightF t s) s) := by
  obtain ⟨hnd, hall⟩ := star_perm h3 h12
  obtain ⟨hl, hat⟩ := star_at h3 h12
  refine ⟨?_, fun j hj => ?_, fun b hb => ?_⟩
  · rw [plan_len, hl]
    have := Nat.mul_le_mul h12 hs6
    omega
  · obtain ⟨k, i, hk, hi, h1, h2⟩ := plan_step (g0 := 0) hnd hj
    obtain ⟨b, hb, hbn⟩ := hat i hi
    rw [hb] at h1 h2
    have f1 := tightF_bd (t := t) (s := s) (k := k) ht hs hk
    refine ⟨b, tightF t s k, h1, hbn, f1.1, f1.2, ?_, ?_⟩
    · rw [h2]
      split
      · omega
      · exact tightF_bd ht hs (by omega)
    · rw [h2, if_pos rfl]
      split
      · exact f1.1
      · rename_i h0
        have := tightF_mono ht (s := s) (by omega) (k - 1)
        rw [show k - 1 + 1 = k by omega] at this
        exact this
  · rw [lastG_plan (hall b hb), if_neg (by omega)]
    exact tightF_end hs
theorem plan_loos {n s : Nat} {t : Int} (h3 : 3 ≤ n) (h12 : n ≤ 12) (ht : 0 ≤ t) (hs : 1 ≤ s) (hs6 : s ≤ 6) : Plan n t t 0 false (plan (star n).reverse (loosF t s) s) := by
  obtain ⟨hnd, hall⟩ := star_perm h3 h12
  obtain ⟨hl, hat⟩ := star_at h3 h12
  have hnd2 : (star n).reverse.Nodup := by
    unfold List.Nodup
    rw [List.pairwise_reverse]
    exact List.Pairwise.imp (fun h => Ne.symm h) hnd
  refine ⟨?_, fun j hj => ?_, fun b hb => ?_⟩
  · rw [plan_len, List.length_reverse, hl]
    have := Nat.mul_le_mul h12 hs6
    omega
  · obtain ⟨k, i, hk, hi, h1, h2⟩ := plan_step (g0 := t) hnd2 hj
    have hi2 : i < (star n).length := by rw [List.length_reverse] at hi; exact hi
    obtain ⟨b, hb, hbn⟩ := hat ((star n).length - 1 - i) (by omega)
    rw [← List.getElem_reverse (l := star n) (h := hi)] at hb
    rw [hb] at h1 h2
    have f1 := loosF_bd (t := t) (s := s) (k := k) ht hs hk
    refine ⟨b, loosF t s k, h1, hbn, f1.1, f1.2, ?_, ?_⟩
    · rw [h2]
      split
      · omega
      · exact loosF_bd ht hs (by omega)
    · rw [h2, if_neg (by decide)]
      split
      · exact f1.2
      · rename_i h0
        have := loosF_mono ht (s := s) (by omega) (k - 1)
        rw [show k - 1 + 1 = k by omega] at this
        exact this
  · rw [lastG_plan (List.mem_reverse.2 (hall b hb)), if_neg (by omega)]
    exact loosF_end hs
end Go.Proofs.Ytijmafppdbllfaa
