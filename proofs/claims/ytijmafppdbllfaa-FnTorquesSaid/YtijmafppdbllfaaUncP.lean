/- The plain law of the torques that no wrench covers. No statement of the seat is proved here. -/
import Derived.Test.YtijmafppdbllfaaTools
import Derived.Test.YtijmafppdbllfaaRowsL
namespace Go.Proofs.Ytijmafppdbllfaa
open Go.RowKit

def inW (t : Int) (x : Wrench) : Bool := inR t x.least x.most
def cov (xs : List Wrench) (t : Int) : Bool := xs.any (inW t)
theorem bestW_cov {t : Int} {xs : List Wrench} : ∀ k, k ≤ xs.length → (bestW t xs k < 0 ↔ (xs.take k).any (inW t) = false)
  | 0, _ => by simp [bestW]
  | k + 1, hk => by
    have ih := bestW_cov (t := t) (xs := xs) k (by omega)
    have hg : xs.getD k zWrench = xs[k] := by simp [show k < xs.length by omega]
    rw [List.take_succ_eq_append_getElem (by omega), List.any_append]
    rcases hx : inR t (xs.getD k zWrench).least (xs.getD k zWrench).most
    · rw [bestW_no1 hx, ih]
      have : inW t xs[k] = false := by unfold inW; rw [← hg]; exact hx
      simp [this]
    · have hin : inW t xs[k] = true := by unfold inW; rw [← hg]; exact hx
      have hr : ¬ bestW t xs (k + 1) < 0 := by
        rcases (show bestW t xs k < 0 ∨ 0 ≤ bestW t xs k by omega) with h | h
        · have := (bestW_bd t xs k).1
          rw [bestW_yes0 hx (by omega)]; omega
        · obtain ⟨j, hj⟩ := Int.eq_ofNat_of_zero_le h
          by_cases hm : (xs.getD k zWrench).most < (xs.getD j zWrench).most
          · rw [bestW_yes hx hj hm]; omega
          · rw [bestW_no2 hj hm]; omega
      simp [hin, hr]
theorem bestW_cov' {t : Int} {xs : List Wrench} : bestW t xs xs.length < 0 ↔ cov xs t = false := by
  have := bestW_cov (t := t) (xs := xs) xs.length (Nat.le_refl _)
  rwa [List.take_of_length_le (Nat.le_refl _)] at this
/-- the last pair's second number turned -/
def bump (ps : List (Int × Int)) (t : Int) : List (Int × Int) := ps.set (ps.length - 1) ((ps.getD (ps.length - 1) (0, 0)).1, t)
/-- the ranges behind the first k torques -/
def unc (xs : List Wrench) : Nat → List (Int × Int)
  | 0 => []
  | k + 1 => if cov xs ((k : Int) + 1) then unc xs k else if 0 < (unc xs k).length ∧ ((unc xs k).getD ((unc xs k).length - 1) (0, 0)).2 = k then bump (unc xs k) (k + 1) else unc xs k ++ [((k : Int) + 1, (k : Int) + 1)]
theorem unc_cov {xs : List Wrench} {k : Nat} (h : cov xs ((k : Int) + 1) = true) : unc xs (k + 1) = unc xs k := by rw [unc, if_pos h]
theorem unc_bump {xs : List Wrench} {k : Nat} (h : cov xs ((k : Int) + 1) = false) (h0 : 0 < (unc xs k).length) (h2 : ((unc xs k).getD ((unc xs k).length - 1) (0, 0)).2 = k) : unc xs (k + 1) = bump (unc xs k) (k + 1) := by
  rw [unc, h, if_neg (by decide), if_pos ⟨h0, h2⟩]
theorem unc_new {xs : List Wrench} {k : Nat} (h : cov xs ((k : Int) + 1) = false) (h2 : ¬ (0 < (unc xs k).length ∧ ((unc xs k).getD ((unc xs k).length - 1) (0, 0)).2 = k)) : unc xs (k + 1) = unc xs k ++ [((k : Int) + 1, (k : Int) + 1)] := by
  rw [unc, h, if_neg (by decide), if_neg h2]
theorem bump_len (ps : List (Int × Int)) (t : Int) : (bump ps t).length = ps.length := by simp [bump]
theorem getD_last {ps : List (Int × Int)} {p : Int × Int} : (ps ++ [p]).getD ((ps ++ [p]).length - 1) (0, 0) = p := by simp
theorem bump_last {ps : List (Int × Int)} {a b t : Int} : bump (ps ++ [(a, b)]) t = ps ++ [(a, t)] := by
  unfold bump
  rw [getD_last, List.length_append, List.length_singleton, Nat.add_sub_cancel, List.set_append_right _ _ (Nat.le_refl _), Nat.sub_self]
  rfl
theorem unc_len (xs : List Wrench) : ∀ k, (unc xs k).length ≤ k
  | 0 => Nat.le_refl _
  | k + 1 => by
    have := unc_len xs k
    rw [unc]
    split
    · omega
    · split
      · rw [bump_len]; omega
      · simp; omega
/-- what the program holds behind the first k torques: the ranges that are closed, and the first torque of the open one -/
def Gaps (xs : List Wrench) (k : Nat) (out : List (Int × Int)) (first : Int) : Prop :=
  (first = 0 ∧ out = unc xs k ∧ ∀ p ∈ out, p.2 < k) ∨ (0 < first ∧ first ≤ k ∧ unc xs k = out ++ [(first, (k : Int))] ∧ ∀ p ∈ out, p.2 < k)
theorem Gaps.zero (xs : List Wrench) : Gaps xs 0 [] 0 := .inl ⟨rfl, rfl, fun p hp => by simp at hp⟩
theorem Gaps.open_ {xs : List Wrench} {k : Nat} {out : List (Int × Int)} (h : Gaps xs k out 0) (hc : cov xs ((k : Int) + 1) = false) : Gaps xs (k + 1) out ((k : Int) + 1) := by
  rcases h with ⟨_, h2, h3⟩ | ⟨h1, _⟩
  · subst h2
    refine .inr ⟨by omega, by omega, ?_, fun p hp => by have := h3 p hp; omega⟩
    rw [unc_new hc]
    · rfl
    · rintro ⟨l0, l1⟩
      have := h3 ((unc xs k).getD ((unc xs k).length - 1) (0, 0)) (by
        rw [List.getD_eq_getElem?_getD, List.getElem?_eq_getElem (by omega)]
        exact List.getElem_mem _)
      omega
  · omega
theorem Gaps.go {xs : List Wrench} {k : Nat} {out : List (Int × Int)} {first : Int} (h : Gaps xs k out first) (hf : 0 < first) (hc : cov xs ((k : Int) + 1) = false) : Gaps xs (k + 1) out first := by
  rcases h with ⟨h1, _⟩ | ⟨_, h2, h3, h4⟩
  · omega
  · refine .inr ⟨hf, by omega, ?_, fun p hp => by have := h4 p hp; omega⟩
    rw [unc_bump hc (by rw [h3]; simp) (by rw [h3, getD_last]), h3, bump_last]
    rfl
theorem Gaps.keep {xs : List Wrench} {k : Nat} {out : List (Int × Int)} (h : Gaps xs k out 0) (hc : cov xs ((k : Int) + 1) = true) : Gaps xs (k + 1) out 0 := by
  rcases h with ⟨_, h2, h3⟩ | ⟨h1, _⟩
  · exact .inl ⟨rfl, by rw [unc_cov hc, h2], fun p hp => by have := h3 p hp; omega⟩
  · omega
theorem Gaps.shut {xs : List Wrench} {k : Nat} {out : List (Int × Int)} {first : Int} (h : Gaps xs k out first) (hf : 0 < first) (hc : cov xs ((k : Int) + 1) = true) : Gaps xs (k + 1) (out ++ [(first, (k : Int))]) 0 := by
  rcases h with ⟨h1, _⟩ | ⟨_, h2, h3, h4⟩
  · omega
  · refine .inl ⟨rfl, by rw [unc_cov hc, h3], fun p hp => ?_⟩
    rcases List.mem_append.1 hp with hp | hp
    · have := h4 p hp; omega
    · rw [List.mem_singleton.1 hp]; simp only []; omega
/-- at the end, where a torque past all is held for covered -/
theorem Gaps.fin0 {xs : List Wrench} {k : Nat} {out : List (Int × Int)} (h : Gaps xs k out 0) : out = unc xs k := by
  rcases h with ⟨_, h2, _⟩ | ⟨h1, _⟩
  · exact h2
  · omega
theorem Gaps.fin {xs : List Wrench} {k : Nat} {out : List (Int × Int)} {first : Int} (h : Gaps xs k out first) (hf : 0 < first) : out ++ [(first, (k : Int))] = unc xs k := by
  rcases h with ⟨h1, _⟩ | ⟨_, _, h3, _⟩
  · omega
  · exact h3.symm
def UncoveredTorques_r (xs : List Wrench) : List (Int × Int) × Int := if areWrenches xs then (unc xs 2000, 0) else ([], 1)
theorem Unc_bad {xs : List Wrench} (h : areWrenches xs = false) : UncoveredTorques_r xs = ([], 1) := by unfold UncoveredTorques_r; rw [h]; rfl
theorem Unc_ok {xs : List Wrench} (h : areWrenches xs = true) : UncoveredTorques_r xs = (unc xs 2000, 0) := by unfold UncoveredTorques_r; rw [if_pos h]
theorem UncoveredTorques_len (xs : List Wrench) : (UncoveredTorques_r xs).1.length ≤ 1048576 := by
  unfold UncoveredTorques_r
  split
  · have := unc_len xs 2000; simp only []; omega
  · simp
end Go.Proofs.Ytijmafppdbllfaa
