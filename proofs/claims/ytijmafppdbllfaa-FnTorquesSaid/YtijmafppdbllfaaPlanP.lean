/- The plain law of the plans to tighten and to loosen. No statement of the seat is proved here. -/
import Derived.Test.YtijmafppdbllfaaNext
import Derived.Test.YtijmafppdbllfaaRowsL
namespace Go.Proofs.Ytijmafppdbllfaa
open Go.RowKit

/-- k stages over the bolts L, the stage j with the number f j -/
def plan (L : List Int) (f : Nat → Int) : Nat → List (Int × Int)
  | 0 => []
  | k + 1 => plan L f k ++ L.map fun b => (b, f k)
/-- .. and the first i bolts of the next stage -/
def planU (L : List Int) (f : Nat → Int) (k i : Nat) : List (Int × Int) := plan L f k ++ (L.take i).map fun b => (b, f k)
theorem plan_len (L : List Int) (f : Nat → Int) : ∀ k, (plan L f k).length = L.length * k
  | 0 => rfl
  | k + 1 => by rw [plan, List.length_append, plan_len L f k, List.length_map, Nat.mul_succ]
theorem planU_zero (L : List Int) (f : Nat → Int) (k : Nat) : planU L f k 0 = plan L f k := by simp [planU]
theorem planU_all (L : List Int) (f : Nat → Int) (k i : Nat) (h : L.length ≤ i) : planU L f k i = plan L f (k + 1) := by simp [planU, plan, List.take_of_length_le h]
theorem planU_succ (L : List Int) (f : Nat → Int) (k i : Nat) (h : i < L.length) : planU L f k (i + 1) = planU L f k i ++ [(L[i], f k)] := by
  unfold planU
  rw [List.take_succ_eq_append_getElem h, List.map_append, List.append_assoc]; rfl
theorem planU_len (L : List Int) (f : Nat → Int) (k i : Nat) : (planU L f k i).length ≤ L.length * k + L.length := by
  unfold planU
  rw [List.length_append, plan_len, List.length_map, List.length_take]; omega
/-- a / b, rounded up -/
def upDiv (a b : Int) : Int := (a + b - 1) / b
def tightF (t s : Int) (j : Nat) : Int := upDiv (t * ((j : Int) + 1)) s
def loosF (t s : Int) (j : Nat) : Int := upDiv (t * (s - 1 - (j : Int))) s
def TightenPlan_r (n t s : Int) : List (Int × Int) × Int := if tightenB n t s then (plan (star n.toNat) (tightF t s) s.toNat, 0) else ([], 2)
def LoosenPlan_r (n t s : Int) : List (Int × Int) × Int := if tightenB n t s then (plan (star n.toNat).reverse (loosF t s) s.toNat, 0) else ([], 2)
theorem tightenB_bd {n t s : Int} (h : tightenB n t s = true) : (3 ≤ n ∧ n ≤ 12) ∧ (1 ≤ t ∧ t ≤ 2000) ∧ 1 ≤ s ∧ s ≤ 6 := by
  unfold tightenB at h
  simp only [Bool.and_eq_true, inR_iff] at h
  exact ⟨h.1.1, h.1.2, h.2⟩
theorem Tighten_bad {n t s : Int} (h : tightenB n t s = false) : TightenPlan_r n t s = ([], 2) := by unfold TightenPlan_r; rw [h]; rfl
theorem Tighten_ok {n s : Nat} {t : Int} (h : tightenB n t s = true) : TightenPlan_r n t s = (plan (star n) (tightF t s) s, 0) := by unfold TightenPlan_r; rw [if_pos h]; rfl
theorem Loosen_bad {n t s : Int} (h : tightenB n t s = false) : LoosenPlan_r n t s = ([], 2) := by unfold LoosenPlan_r; rw [h]; rfl
theorem Loosen_ok {n s : Nat} {t : Int} (h : tightenB n t s = true) : LoosenPlan_r n t s = (plan (star n).reverse (loosF t s) s, 0) := by unfold LoosenPlan_r; rw [if_pos h]; rfl
theorem plan_bd {L : List Int} {f : Nat → Int} {k : Nat} (hl : L.length ≤ 12) (hk : k ≤ 6) : (plan L f k).length ≤ 1048576 := by
  rw [plan_len]
  have := Nat.mul_le_mul hl hk
  omega
theorem star_len12 {n : Int} (h : 3 ≤ n ∧ n ≤ 12) : (star n.toNat).length ≤ 12 := by
  have := (star_at (n := n.toNat) (by omega) (by omega)).1
  omega
theorem TightenPlan_len (n t s : Int) : (TightenPlan_r n t s).1.length ≤ 1048576 := by
  unfold TightenPlan_r
  split
  · rename_i h
    obtain ⟨h1, _, h3⟩ := tightenB_bd h
    exact plan_bd (star_len12 h1) (by omega)
  · simp
theorem LoosenPlan_len (n t s : Int) : (LoosenPlan_r n t s).1.length ≤ 1048576 := by
  unfold LoosenPlan_r
  split
  · rename_i h
    obtain ⟨h1, _, h3⟩ := tightenB_bd h
    exact plan_bd (by rw [List.length_reverse]; exact star_len12 h1) (by omega)
  · simp
end Go.Proofs.Ytijmafppdbllfaa
