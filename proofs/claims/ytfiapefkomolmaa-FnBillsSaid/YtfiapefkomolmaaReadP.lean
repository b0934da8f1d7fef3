/- Plain lemmas on the text of an item. No statement of the seat is proved here. -/
import Derived.Test.YtfiapefkomolmaaItemText
namespace Go.Proofs.Ytfiapefkomolmaa
open Go.RowKit

def bt (s : ByteArray) (i : Nat) : Nat := if h : i < s.size then s[i].toNat else 0
theorem bt_eq {s : ByteArray} {i : Nat} (h : i < s.size) : bt s i = s[i].toNat := by unfold bt; rw [dif_pos h]
theorem bt_left {a b : ByteArray} {i : Nat} (h : i < a.size) : bt (a ++ b) i = bt a i := by
  rw [bt_eq h, bt_eq (by rw [ByteArray.size_append]; omega), ByteArray.getElem_append_left h]
theorem bt_right {a b : ByteArray} {i : Nat} (h : i < b.size) : bt (a ++ b) (a.size + i) = bt b i := by
  rw [bt_eq h, bt_eq (by rw [ByteArray.size_append]; omega), ByteArray.getElem_append_right (by omega)]
  congr 2
  omega
theorem bt_dig (n : Nat) : bt (dig n) 0 = 48 + n % 10 := by
  rw [bt_eq (by rw [dig_size]; omega)]
  show (UInt8.ofNat (48 + n % 10)).toNat = _
  rw [UInt8.toNat_ofNat']
  omega
theorem bt_dec : ∀ (n i : Nat), i < (dec n).size → 48 ≤ bt (dec n) i ∧ bt (dec n) i ≤ 57 := by
  intro n
  induction n using Nat.strongRecOn with
  | _ n ih =>
    intro i hi
    by_cases h : n < 10
    · rw [dec_small h] at hi ⊢
      rw [dig_size] at hi
      obtain rfl : i = 0 := by omega
      rw [bt_dig]; omega
    · rw [dec_big (by omega)] at hi ⊢
      rw [ByteArray.size_append, dig_size] at hi
      by_cases h2 : i < (dec (n / 10)).size
      · rw [bt_left h2]; exact ih _ (by omega) i h2
      · obtain rfl : i = (dec (n / 10)).size + 0 := by omega
        rw [bt_right (by rw [dig_size]; omega), bt_dig]; omega
def dval (s : ByteArray) : Nat → Nat
  | 0 => 0
  | k + 1 => 10 * dval s k + (bt s k - 48)
theorem dval_left {a b : ByteArray} : ∀ k, k ≤ a.size → dval (a ++ b) k = dval a k
  | 0, _ => rfl
  | k + 1, hk => by rw [dval, dval, dval_left k (by omega), bt_left (by omega)]
theorem dval_dec : ∀ n, dval (dec n) (dec n).size = n := by
  intro n
  induction n using Nat.strongRecOn with
  | _ n ih =>
    by_cases h : n < 10
    · rw [dec_small h, dig_size, dval, dval, bt_dig]; omega
    · rw [dec_big (by omega), ByteArray.size_append, dig_size, dval, dval_left _ (Nat.le_refl _), ih _ (by omega)]
      rw [show bt (dec (n / 10) ++ dig n) (dec (n / 10)).size = bt (dig n) 0 from bt_right (a := dec (n / 10)) (b := dig n) (i := 0) (by rw [dig_size]; omega), bt_dig]
      omega
theorem dec_pos : ∀ n, 1 ≤ (dec n).size := by
  intro n
  by_cases h : n < 10
  · rw [dec_small h, dig_size]; omega
  · rw [dec_big (by omega), ByteArray.size_append, dig_size]; omega
theorem dec_len : ∀ (k n : Nat), n < 10 ^ (k + 1) → (dec n).size ≤ k + 1
  | 0, n, h => by rw [dec_small (by omega), dig_size]; omega
  | k + 1, n, h => by
    by_cases h2 : n < 10
    · rw [dec_small h2, dig_size]; omega
    · rw [dec_big (by omega), ByteArray.size_append, dig_size]
      have := dec_len k (n / 10) (by rw [Nat.pow_succ] at h; omega)
      omega
theorem dec_7 {n : Nat} (h : n ≤ 1000000) : (dec n).size ≤ 7 := dec_len 6 n (by omega)
theorem dec_first : ∀ n, 1 < (dec n).size → bt (dec n) 0 ≠ 48 := by
  intro n
  induction n using Nat.strongRecOn with
  | _ n ih =>
    intro hi
    by_cases h : n < 10
    · rw [dec_small h, dig_size] at hi; omega
    · rw [dec_big (by omega)] at hi ⊢
      rw [bt_left (by have := dec_pos (n / 10); omega)]
      by_cases h2 : n / 10 < 10
      · rw [dec_small h2, bt_dig]; omega
      · exact ih _ (by omega) (by rw [dec_big (by omega), ByteArray.size_append, dig_size]; have := dec_pos (n / 10 / 10); omega)
theorem dval_bd (s : ByteArray) (h : ∀ i, i < s.size → bt s i ≤ 57) : ∀ k, k ≤ s.size → dval s k < 10 ^ k
  | 0, _ => by simp [dval]
  | k + 1, hk => by
    have ih := dval_bd s h k (by omega)
    have := h k (by omega)
    rw [dval, Nat.pow_succ]; omega
/-- the word of an item holds neither sign -/
theorem word_bt {s : ByteArray} (h : isWord s = true) (i : Nat) (hi : i < s.size) : 97 ≤ bt s i ∧ bt s i ≤ 122 := by
  unfold isWord at h
  rw [Bool.and_eq_true, List.all_eq_true] at h
  have := h.2 i (List.mem_range.2 hi)
  rw [lowAt_eq hi, inR_iff] at this
  rw [bt_eq hi]; omega
/-- the text of an item, taken apart -/
structure Parts (s A B C : ByteArray) (wk : Bool) (c a : Nat) : Prop where
  hc : c = A.size
  ha : a = c + 1 + B.size
  hs : s.size = a + 1 + C.size + 1
  b1 : bt s c = 120
  b2 : ∀ i, i < c → bt s i ≠ 120 ∧ bt s i ≠ 64
  b3 : bt s a = 64
  b4 : ∀ i, i < a → bt s i ≠ 64
  b5 : bt s (s.size - 1) = if wk then 119 else 112
  e1 : s.extract 0 c = A
  e2 : s.extract (c + 1) a = B
  e3 : s.extract (a + 1) (s.size - 1) = C
theorem parts_of {x : Item} (h : isItemB x = true) : Parts (txtI x) (dec x.pieces.toNat) x.name (dec x.cents.toNat) x.work (dec x.pieces.toNat).size ((dec x.pieces.toNat).size + 1 + x.name.size) := by
  have hw : isWord x.name = true := by unfold isItemB at h; simp only [Bool.and_eq_true] at h; exact h.1.1
  have hb1 := bt_dec x.pieces.toNat
  have hb2 := word_bt hw
  unfold txtI
  generalize dec x.pieces.toNat = A at *
  generalize dec x.cents.toNat = C at *
  generalize x.name = B at *
  have he : (endI x.work).size = 1 := by unfold endI; split <;> rfl
  have hX : (⟨#[120]⟩ : ByteArray).size = 1 := rfl
  have hY : (⟨#[64]⟩ : ByteArray).size = 1 := rfl
  have a1 : (A ++ ⟨#[120]⟩).size = A.size + 1 := by rw [ByteArray.size_append, hX]
  have a2 : (A ++ ⟨#[120]⟩ ++ B).size = A.size + 1 + B.size := by rw [ByteArray.size_append, a1]
  have a3 : (A ++ ⟨#[120]⟩ ++ B ++ ⟨#[64]⟩).size = A.size + 1 + B.size + 1 := by rw [ByteArray.size_append, a2, hY]
  have a4 : (A ++ ⟨#[120]⟩ ++ B ++ ⟨#[64]⟩ ++ C).size = A.size + 1 + B.size + 1 + C.size := by rw [ByteArray.size_append, a3]
  have a5 : (A ++ ⟨#[120]⟩ ++ B ++ ⟨#[64]⟩ ++ C ++ endI x.work).size = A.size + 1 + B.size + 1 + C.size + 1 := by rw [ByteArray.size_append, a4, he]
  have t1 : ∀ i, i < A.size → bt (A ++ ⟨#[120]⟩ ++ B ++ ⟨#[64]⟩ ++ C ++ endI x.work) i = bt A i := fun i hi => by
    rw [bt_left (by omega), bt_left (by omega), bt_left (by omega), bt_left (by omega), bt_left (by omega)]
  have t2 : bt (A ++ ⟨#[120]⟩ ++ B ++ ⟨#[64]⟩ ++ C ++ endI x.work) A.size = 120 := by
    rw [bt_left (by omega), bt_left (by omega), bt_left (by omega), bt_left (by omega)]
    exact bt_right (a := A) (b := ⟨#[120]⟩) (i := 0) (by rw [hX]; omega)
  have t3 : ∀ i, i < B.size → bt (A ++ ⟨#[120]⟩ ++ B ++ ⟨#[64]⟩ ++ C ++ endI x.work) (A.size + 1 + i) = bt B i := fun i hi => by
    rw [bt_left (by omega), bt_left (by omega), bt_left (by omega), ← a1, bt_right hi]
  have t4 : bt (A ++ ⟨#[120]⟩ ++ B ++ ⟨#[64]⟩ ++ C ++ endI x.work) (A.size + 1 + B.size) = 64 := by
    rw [bt_left (by omega), bt_left (by omega), ← a2]
    exact bt_right (a := A ++ ⟨#[120]⟩ ++ B) (b := ⟨#[64]⟩) (i := 0) (by rw [hY]; omega)
  refine ⟨rfl, rfl, a5, t2, fun i hi => ?_, t4, fun i hi => ?_, ?_, ?_, ?_, ?_⟩
  · have := hb1 i hi
    rw [t1 i hi]; omega
  · by_cases h1 : i < A.size
    · have := hb1 i h1
      rw [t1 i h1]; omega
    by_cases h2 : i = A.size
    · rw [h2, t2]; omega
    · obtain ⟨j, rfl⟩ : ∃ j, i = A.size + 1 + j := ⟨i - (A.size + 1), by omega⟩
      have := hb2 j (by omega)
      rw [t3 j (by omega)]; omega
  · rw [a5, show A.size + 1 + B.size + 1 + C.size + 1 - 1 = (A ++ ⟨#[120]⟩ ++ B ++ ⟨#[64]⟩ ++ C).size + 0 by omega, bt_right (by omega)]
    unfold endI
    split <;> rfl
  · rw [show A ++ ⟨#[120]⟩ ++ B ++ ⟨#[64]⟩ ++ C ++ endI x.work = A ++ (⟨#[120]⟩ ++ B ++ ⟨#[64]⟩ ++ C ++ endI x.work) by simp only [ByteArray.append_assoc]]
    exact ByteArray.extract_append_eq_left rfl
  · rw [show A ++ ⟨#[120]⟩ ++ B ++ ⟨#[64]⟩ ++ C ++ endI x.work = (A ++ ⟨#[120]⟩ ++ B) ++ (⟨#[64]⟩ ++ C ++ endI x.work) by simp only [ByteArray.append_assoc], ByteArray.extract_append]
    rw [a2, show A.size + 1 + B.size - (A.size + 1 + B.size) = 0 by omega, show A.size + 1 - (A.size + 1 + B.size) = 0 by omega, ByteArray.extract_same, ByteArray.append_empty]
    exact ByteArray.extract_append_eq_right a1.symm (by rw [a1])
  · rw [a5, show A.size + 1 + B.size + 1 + C.size + 1 - 1 = A.size + 1 + B.size + 1 + C.size by omega]
    rw [ByteArray.extract_append, a4, show A.size + 1 + B.size + 1 + C.size - (A.size + 1 + B.size + 1 + C.size) = 0 by omega, show A.size + 1 + B.size + 1 - (A.size + 1 + B.size + 1 + C.size) = 0 by omega, ByteArray.extract_same, ByteArray.append_empty]
    exact ByteArray.extract_append_eq_right a3.symm (by rw [a3])
end Go.Proofs.Ytfiapefkomolmaa
