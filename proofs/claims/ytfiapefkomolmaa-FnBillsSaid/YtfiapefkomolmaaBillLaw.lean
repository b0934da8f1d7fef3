/- The plain law of bills: a discount is not greater than the sum, the tax is the nearest one, and joined items have the same bill (chapter 27). No statement of the seat is proved here. -/
import Derived.Test.YtfiapefkomolmaaPrices
import Derived.Test.YtfiapefkomolmaaJoin
namespace Go.Proofs.Ytfiapefkomolmaa
open Go.RowKit

def costI (x : Item) : Int := x.pieces * x.cents
def sumI (xs : List Item) : Int := (xs.map costI).sum
theorem sumI_app (xs ys : List Item) : sumI (xs ++ ys) = sumI xs + sumI ys := by unfold sumI; rw [List.map_append, List.sum_append]
theorem sumI_one (x : Item) : sumI [x] = costI x := by simp [sumI]
theorem sumI_set (y : Item) : ∀ (xs : List Item) (k : Nat) (hk : k < xs.length), sumI (xs.set k y) = sumI xs - costI xs[k] + costI y
  | x :: xs, 0, _ => by simp [sumI]; omega
  | x :: xs, k + 1, hk => by
    have ih := sumI_set y xs k (by simpa using hk)
    simp only [sumI, List.set_cons_succ, List.map_cons, List.sum_cons, List.getElem_cons_succ] at *
    omega
theorem allS_sum (xs : List Item) : ∀ k, k ≤ xs.length → allS xs k = sumI (xs.take k)
  | 0, _ => by simp [allS, sumI]
  | k + 1, hk => by
    have hlt : k < xs.length := hk
    rw [allS, allS_sum xs k (by omega), getD_at _ _ _ hlt, List.take_succ_eq_append_getElem hlt, sumI_app, sumI_one]
    rfl
theorem allS_all (xs : List Item) : allS xs xs.length = sumI xs := by rw [allS_sum xs _ (Nat.le_refl _), List.take_of_length_le (Nat.le_refl _)]
theorem sum_joinOne (out : List Item) (x : Item) : sumI (joinOne out x) = sumI out + costI x := by
  by_cases hf : firstAt (sameI x) out < 0
  · rw [joinOne_new (firstAt_neg.1 hf), sumI_app, sumI_one]
  · obtain ⟨k, hk, h1, h2, h3⟩ := firstAt_get hf
    rw [joinOne_at hk h3 h2, sumI_set _ _ _ hk]
    have hc := (sameI_iff.1 h2).2.1
    unfold costI addP
    simp only
    rw [hc, Int.add_mul]
    omega
theorem sum_joinL (xs : List Item) : ∀ k, k ≤ xs.length → sumI (joinL xs k) = allS xs k
  | 0, _ => by simp [joinL, allS, sumI]
  | k + 1, hk => by
    have hlt : k < xs.length := hk
    rw [joinL, sum_joinOne, sum_joinL xs k (by omega), allS]
    rfl
theorem join_bill {xs : List Item} {js : List Item} {jc : Int} (h : JoinItems_r xs = (js, jc)) (h0 : jc = 0) : ∃ s, SumOf_r xs = (s, 0) ∧ SumOf_r js = (s, 0) ∧ js.length ≤ xs.length := by
  rcases hA : areItems xs
  · rw [JoinItems_bad hA] at h; injection h with h1 h2; omega
  · rcases hJ : areItems (joinL xs xs.length)
    · rw [JoinItems_many hA hJ] at h; injection h with h1 h2; omega
    · rw [JoinItems_ok hA hJ] at h
      injection h with h1 h2
      subst h1
      refine ⟨allS xs xs.length, by unfold SumOf_r; rw [hA]; rfl, ?_, (joined_all hA xs.length (Nat.le_refl _)).len⟩
      unfold SumOf_r
      rw [hJ, allS_all, sum_joinL xs _ (Nat.le_refl _)]
      rfl
theorem join_ok {xs : List Item} {js : List Item} {jc : Int} (h : JoinItems_r xs = (js, jc)) (hq : ∀ x ∈ xs, okItem x) : ∀ x ∈ js, okItem x := by
  rcases hA : areItems xs
  · rw [JoinItems_bad hA] at h; injection h with h1 h2; subst h1; simp
  · rcases hJ : areItems (joinL xs xs.length)
    · rw [JoinItems_many hA hJ] at h; injection h with h1 h2; subst h1; simp
    · rw [JoinItems_ok hA hJ] at h
      injection h with h1 h2
      subst h1
      exact joinL_okI hA hq
theorem sum_code {xs : List Item} {s c : Int} (h : SumOf_r xs = (s, c)) : (c == 0) = areItems xs := by
  unfold SumOf_r at h
  split at h <;> injection h with h1 h2 <;> subst h2
  · rename_i h; rw [h]; rfl
  · rename_i h; simp at h; rw [h]; rfl
theorem next_least {xs : List Item} {ts : List Tier} {n c : Int} (h : NextTier_r xs ts = (n, c)) (h0 : c = 0) : 1 ≤ n := by
  rcases hB : billB xs ts
  · rw [NextTier_bad hB] at h; injection h with h1 h2; omega
  · by_cases hf : firstAt (above (partS xs xs.length)) ts < 0
    · rw [NextTier_none hB (firstAt_neg.1 hf)] at h; injection h with h1 h2; omega
    · obtain ⟨k, hk, h1, h2, h3⟩ := firstAt_get hf
      rw [NextTier_some hB hk h3 h2] at h
      injection h with h4 h5
      unfold above at h2
      rw [decide_eq_true_eq] at h2
      omega
/-- what is known of a bill that is paid -/
structure BillOk (s d t r net tax : Int) : Prop where
  d0 : 0 ≤ d
  ds : d ≤ s
  sb : s ≤ 20000000000
  eqn : s - d = net
  eqt : t - net = tax
  n0 : 0 ≤ net
  n1 : net ≤ 20000000000
  x0 : 0 ≤ tax
  x1 : tax ≤ 1000000000000
  r0 : 0 ≤ r
  r1 : r ≤ 50
  p0 : 0 ≤ net * r
  p1 : net * r ≤ 1000000000000
  up : 2 * (100 * tax - net * r) ≤ 100
  dn : 2 * (net * r - 100 * tax) < 100
theorem bill_ok {xs : List Item} {ts : List Tier} {r t tc s sc d dc : Int} (hT : TotalOf_r xs ts r = (t, tc)) (hS : SumOf_r xs = (s, sc)) (hD : DiscountOf_r xs ts = (d, dc)) (h0 : tc = 0) : ∃ net tax, BillOk s d t r net tax := by
  rcases hB : billB xs ts
  · rw [TotalOf_bad hB] at hT; injection hT with h1 h2; omega
  · rcases hR : inR r 0 50
    · rw [TotalOf_rate hB hR] at hT; injection hT with h1 h2; omega
    · rw [TotalOf_ok hB hR] at hT
      rw [DiscountOf_ok hB] at hD
      have hA : areItems xs = true := by unfold billB at hB; rw [Bool.and_eq_true] at hB; exact hB.1
      have hTi : areTiers ts = true := by unfold billB at hB; rw [Bool.and_eq_true] at hB; exact hB.2
      unfold SumOf_r at hS
      rw [if_pos hA] at hS
      injection hT with t1 _
      injection hS with s1 _
      injection hD with d1 _
      have hp := parts_bd hA
      have hd := discF_bd hTi hp.1
      have hn := net_bd hA hTi
      obtain ⟨hr0, hr1⟩ := inR_iff.1 hR
      have hx := near_bd hn.1 hn.2 hr0 hr1
      refine ⟨netF xs ts, nearF (netF xs ts * r) 100, ?_⟩
      have hnet : s - d = netF xs ts := by unfold netF; omega
      generalize netF xs ts = net at *
      have hne : nearF (net * r) 100 = (2 * (net * r) + 100) / (2 * 100) := rfl
      obtain ⟨q, hq⟩ : ∃ q, net * r = q := ⟨_, rfl⟩
      rw [hq] at hx hne
      rw [hq] at t1
      rw [hq]
      generalize hX : nearF q 100 = tax at *
      exact ⟨by omega, by omega, by omega, hnet, by omega, hn.1, hn.2, hx.2.1, hx.2.2, hr0, hr1, by rw [hq]; exact hx.1.1, by rw [hq]; exact hx.1.2, by rw [hq]; omega, by rw [hq]; omega⟩
end Go.Proofs.Ytfiapefkomolmaa
