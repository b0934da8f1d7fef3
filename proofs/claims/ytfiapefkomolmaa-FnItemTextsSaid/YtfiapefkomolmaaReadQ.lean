/- Plain lemmas on the result of ReadItem. No statement of the seat is proved here. -/
import Derived.Test.YtfiapefkomolmaaReadW
namespace Go.Proofs.Ytfiapefkomolmaa
open Go.RowKit

theorem toList_loop (bs : ByteArray) : ∀ (n i : Nat) (r : List UInt8), bs.size - i = n → ByteArray.toList.loop bs i r = r.reverse ++ bs.data.toList.drop i := by
  intro n
  induction n with
  | zero =>
    intro i r h
    have e : bs.data.toList.length ≤ i := by rw [Array.length_toList]; exact Nat.le_of_sub_eq_zero h
    rw [ByteArray.toList.loop, if_neg (by omega), List.drop_of_length_le e, List.append_nil]
  | succ n ih =>
    intro i r h
    have hi : i < bs.data.toList.length := by rw [Array.length_toList]; exact Nat.lt_of_sub_pos (by rw [show bs.data.size - i = n + 1 from h]; omega)
    rw [ByteArray.toList.loop, if_pos (by omega), ih (i + 1) _ (by omega), List.reverse_cons, List.append_assoc, List.drop_eq_getElem_cons hi]
    congr 1
    have e : bs.get! i = bs.data.toList[i] := by
      rw [Array.length_toList] at hi
      show bs.data[i]! = _
      rw [getElem!_pos bs.data i hi, Array.getElem_toList]
    rw [e]; rfl
theorem toList_inj {a b : ByteArray} (h : a.toList = b.toList) : a = b := by
  unfold ByteArray.toList at h
  rw [toList_loop a _ 0 [] rfl, toList_loop b _ 0 [] rfl] at h
  simp only [List.reverse_nil, List.nil_append, List.drop_zero] at h
  exact ByteArray.ext (Array.toList_inj.1 h)
/-- z is the place of the first c among the first k bytes, or -1 -/
def QF (s : ByteArray) (c : Int) (k : Nat) (z : Int) : Prop := (z = -1 ∧ ∀ i, i < k → (bt s i : Int) ≠ c) ∨ (∃ n : Nat, z = n ∧ n < k ∧ (bt s n : Int) = c ∧ ∀ i, i < n → (bt s i : Int) ≠ c)
theorem QF.z (s : ByteArray) (c : Int) : QF s c 0 (-1) := .inl ⟨rfl, fun i h => by omega⟩
theorem QF.no {s : ByteArray} {c z : Int} {k : Nat} (h : QF s c k z) (hk : k < s.size) (hq : ((s[k].toNat : Int) == c) = false) : QF s c (k + 1) z := by
  have e := bt_eq hk
  have hq' : (bt s k : Int) ≠ c := by rw [e]; exact beq_eq_false_iff_ne.1 hq
  rcases h with ⟨rfl, h⟩ | ⟨n, rfl, h1, h2, h3⟩
  · refine .inl ⟨rfl, fun i hi => ?_⟩
    by_cases h4 : i = k
    · rw [h4]; exact hq'
    · exact h i (by omega)
  · exact .inr ⟨n, rfl, by omega, h2, h3⟩
theorem QF.hit {s : ByteArray} {c z : Int} {k : Nat} (h : QF s c k z) (hk : k < s.size) (hq : ((s[k].toNat : Int) == c) = true) (hz : z < 0) : QF s c (k + 1) k := by
  have e := bt_eq hk
  have hq' : (bt s k : Int) = c := by rw [e]; exact eq_of_beq hq
  rcases h with ⟨rfl, h⟩ | ⟨n, rfl, h1, h2, h3⟩
  · exact .inr ⟨k, rfl, by omega, hq', h⟩
  · omega
theorem QF.keep {s : ByteArray} {c z : Int} {k : Nat} (h : QF s c k z) (hz : ¬ z < 0) : QF s c (k + 1) z := by
  rcases h with ⟨rfl, h⟩ | ⟨n, rfl, h1, h2, h3⟩
  · omega
  · exact .inr ⟨n, rfl, by omega, h2, h3⟩
theorem QF.at {s : ByteArray} {c z : Int} {k n : Nat} (h : QF s c k z) (hn : n < k) (h1 : (bt s n : Int) = c) (h2 : ∀ i, i < n → (bt s i : Int) ≠ c) : z = n := by
  rcases h with ⟨rfl, h⟩ | ⟨m, rfl, h3, h4, h5⟩
  · exact absurd h1 (h n hn)
  · rcases Nat.lt_trichotomy m n with h6 | h6 | h6
    · exact absurd h4 (h2 m h6)
    · rw [h6]
    · exact absurd h1 (h5 n h6)
theorem QF.bd {s : ByteArray} {c z : Int} {k : Nat} (h : QF s c k z) : -1 ≤ z ∧ z < k := by
  rcases h with ⟨rfl, h⟩ | ⟨n, rfl, h1, h2, h3⟩ <;> omega
theorem QF.ne {s : ByteArray} {k : Nat} {z z' : Int} (h : QF s 120 k z) (h' : QF s 64 k z') (e : z = z') : z = -1 := by
  subst e
  rcases h with ⟨rfl, h⟩ | ⟨n, rfl, h1, h2, h3⟩
  · rfl
  · rcases h' with ⟨e, _⟩ | ⟨m, e, _, h5, _⟩
    · exact e
    · obtain rfl : n = m := by omega
      omega
theorem parts_uniq {s A B C A' B' C' : ByteArray} {wk wk' : Bool} {c a c' a' : Nat} (h : Parts s A B C wk c a) (h' : Parts s A' B' C' wk' c' a') : A = A' ∧ B = B' ∧ C = C' ∧ wk = wk' := by
  have e1 : c = c' := by
    rcases Nat.lt_trichotomy c c' with h6 | h6 | h6
    · exact absurd h.b1 (h'.b2 c h6).1
    · exact h6
    · exact absurd h'.b1 (h.b2 c' h6).1
  have e2 : a = a' := by
    rcases Nat.lt_trichotomy a a' with h6 | h6 | h6
    · exact absurd h.b3 (h'.b4 a h6)
    · exact h6
    · exact absurd h'.b3 (h.b4 a' h6)
  subst e1 e2
  refine ⟨h.e1.symm.trans h'.e1, h.e2.symm.trans h'.e2, h.e3.symm.trans h'.e3, ?_⟩
  have h5 := h.b5.symm.trans h'.b5
  revert h5
  cases wk <;> cases wk' <;> simp
theorem dec_inj {m n : Nat} (h : dec m = dec n) : m = n := by
  have h1 := dval_dec m
  rw [h, dval_dec] at h1
  exact h1.symm
theorem txtI_inj {x y : Item} (hx : isItemB x = true) (hy : isItemB y = true) (h : txtI x = txtI y) : x = y := by
  obtain ⟨_, ⟨p0, p1⟩, q0, q1⟩ := isItem_bd hx
  obtain ⟨_, ⟨r0, r1⟩, t0, t1⟩ := isItem_bd hy
  obtain ⟨e1, e2, e3, e4⟩ := parts_uniq (h ▸ parts_of hx) (parts_of hy)
  have e1 := dec_inj e1
  have e3 := dec_inj e3
  obtain ⟨nm, pc, ct, wk⟩ := x
  obtain ⟨nm', pc', ct', wk'⟩ := y
  simp only at *
  obtain rfl : pc = pc' := by omega
  obtain rfl : ct = ct' := by omega
  subst e2 e4
  rfl
open Classical in
noncomputable def ReadItem_r (s : ByteArray) : Item × Int := if h : ∃ x, isItemB x = true ∧ txtI x = s then (Classical.choose h, 0) else (zItem, 6)
theorem ReadItem_ok {s : ByteArray} {x : Item} (hx : isItemB x = true) (hs : txtI x = s) : ReadItem_r s = (x, 0) := by
  have h : ∃ x, isItemB x = true ∧ txtI x = s := ⟨x, hx, hs⟩
  unfold ReadItem_r
  rw [dif_pos h]
  have h2 := Classical.choose_spec h
  rw [txtI_inj h2.1 hx (h2.2.trans hs.symm)]
theorem ReadItem_bad {s : ByteArray} (h : ¬ ∃ x, isItemB x = true ∧ txtI x = s) : ReadItem_r s = (zItem, 6) := by
  unfold ReadItem_r
  rw [dif_neg h]
noncomputable abbrev ReadItem_e (s : ByteArray) : Ending := .returned (.tuple #[.agg #[.string (ReadItem_r s).1.name, .int .i64 (ReadItem_r s).1.pieces, .int .i64 (ReadItem_r s).1.cents, .bool (ReadItem_r s).1.work], .int .i64 (ReadItem_r s).2])
end Go.Proofs.Ytfiapefkomolmaa
