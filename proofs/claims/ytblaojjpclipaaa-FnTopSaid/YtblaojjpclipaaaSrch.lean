/- All bicycles in their order, as a plain function (chapter 18). No statement of the seat is proved here. -/
import Derived.Test.YtblaojjpclipaaaWith
namespace Go.Proofs.Ytblaojjpclipaaa
open Go.RowKit

def srch (ps : List Part) (js : List Joint) : List Int → List ByteArray → List (List ByteArray)
  | [], b => [b]
  | s :: r, b => (ps.filter (inS s)).flatMap fun p => if anyBr ps (b.set s.toNat p.code) js = true then [] else srch ps js r (b.set s.toNat p.code)
/-- what one part more finds -/
def srchP (ps : List Part) (js : List Joint) (s : Int) (r : List Int) (b : List ByteArray) (p : Part) : List (List ByteArray) := if anyBr ps (b.set s.toNat p.code) js = true then [] else srch ps js r (b.set s.toNat p.code)
/-- what the first i parts of a slot find -/
def srchQ (ps : List Part) (js : List Joint) (s : Int) (r : List Int) (b : List ByteArray) (qs : List Part) : List (List ByteArray) := qs.flatMap (srchP ps js s r b)
section
variable {ps : List Part} {js : List Joint} {s : Int} {r : List Int} {b : List ByteArray}
theorem srch_cons : srch ps js (s :: r) b = srchQ ps js s r b (ps.filter (inS s)) := rfl
theorem srchQ_app (qs ts : List Part) : srchQ ps js s r b (qs ++ ts) = srchQ ps js s r b qs ++ srchQ ps js s r b ts := List.flatMap_append
theorem srchQ_one (p : Part) : srchQ ps js s r b [p] = srchP ps js s r b p := by unfold srchQ; simp
theorem srchQ_nil : srchQ ps js s r b [] = [] := rfl
theorem srchP_no {p : Part} (h : anyBr ps (b.set s.toNat p.code) js = true) : srchP ps js s r b p = [] := by unfold srchP; rw [if_pos h]
theorem srchP_yes {p : Part} (h : anyBr ps (b.set s.toNat p.code) js = false) : srchP ps js s r b p = srch ps js r (b.set s.toNat p.code) := by unfold srchP; rw [if_neg (by rw [h]; decide)]
theorem srchQ_yes {k : Nat} (hk : k < ps.length) (h : inS s ps[k] = true) : srchQ ps js s r b ((ps.take (k + 1)).filter (inS s)) = srchQ ps js s r b ((ps.take k).filter (inS s)) ++ srchP ps js s r b ps[k] := by
  rw [filter_take_yes hk h, srchQ_app, srchQ_one]
theorem srchQ_no {k : Nat} (hk : k < ps.length) (h : inS s ps[k] = false) : srchQ ps js s r b ((ps.take (k + 1)).filter (inS s)) = srchQ ps js s r b ((ps.take k).filter (inS s)) := by
  rw [filter_take_no hk h]
theorem srchQ_le (k : Nat) : (srchQ ps js s r b ((ps.take k).filter (inS s))).length ≤ (srch ps js (s :: r) b).length := by
  rw [srch_cons]
  conv => rhs; rw [← List.take_append_drop k ps]
  rw [List.filter_append, srchQ_app, List.length_append]
  simp
theorem srchQ_all : srchQ ps js s r b ((ps.take ps.length).filter (inS s)) = srch ps js (s :: r) b := by rw [List.take_of_length_le (Nat.le_refl _), srch_cons]
end
/-! ### how many there are -/
theorem flat_len {α β : Type} {f : α → List β} {M : Nat} : ∀ {l : List α}, (∀ x ∈ l, (f x).length ≤ M) → (l.flatMap f).length ≤ l.length * M
  | [], _ => by simp
  | x :: l, h => by
    have h1 := flat_len (l := l) (fun y hy => h y (by simp [hy]))
    have h2 := h x (by simp)
    simp only [List.flatMap_cons, List.length_append, List.length_cons, Nat.add_mul]
    omega
theorem cnt_split {ps : List Part} {s : Int} {r : List Int} (h : s ∉ r) : (ps.filter (inS s)).length + (ps.filter (fun x => decide (x.slot ∈ r))).length = (ps.filter (fun x => decide (x.slot ∈ s :: r))).length := by
  induction ps with
  | nil => rfl
  | cons x ps ih =>
    by_cases h1 : x.slot = s
    · have h2 : x.slot ∉ r := by rw [h1]; exact h
      simp only [List.filter_cons, inS, h1, decide_true, if_true, List.length_cons, List.mem_cons, true_or] at ih ⊢
      have h3 : decide (s ∈ r) = false := decide_eq_false h
      simp only [h3, Bool.false_eq_true, if_false]
      omega
    · by_cases h2 : x.slot ∈ r
      · have h3 : decide (x.slot = s) = false := decide_eq_false h1
        have h4 : decide (x.slot ∈ r) = true := decide_eq_true h2
        have h5 : decide (x.slot ∈ s :: r) = true := decide_eq_true (List.mem_cons_of_mem _ h2)
        simp only [List.filter_cons, inS, h3, h4, h5, Bool.false_eq_true, if_false, if_true, List.length_cons] at ih ⊢
        omega
      · have h3 : decide (x.slot = s) = false := decide_eq_false h1
        have h4 : decide (x.slot ∈ r) = false := decide_eq_false h2
        have h5 : decide (x.slot ∈ s :: r) = false := decide_eq_false (by simp [h1, h2])
        simp only [List.filter_cons, inS, h3, h4, h5, Bool.false_eq_true, if_false] at ih ⊢
        omega
theorem srch_len {ps : List Part} {js : List Joint} : ∀ {sl : List Int} {b : List ByteArray}, sl.Nodup → (srch ps js sl b).length ≤ 2 ^ (ps.filter (fun x => decide (x.slot ∈ sl))).length
  | [], b, _ => by simp only [srch, List.length_singleton]; exact Nat.one_le_two_pow
  | s :: r, b, h => by
    rw [List.nodup_cons] at h
    have h1 : (srch ps js (s :: r) b).length ≤ (ps.filter (inS s)).length * 2 ^ (ps.filter (fun x => decide (x.slot ∈ r))).length := by
      rw [srch_cons]
      refine flat_len fun p _ => ?_
      unfold srchP
      split
      · exact Nat.zero_le _
      · exact srch_len h.2
    have h2 : (ps.filter (inS s)).length ≤ 2 ^ (ps.filter (inS s)).length := Nat.le_of_lt Nat.lt_two_pow_self
    have h3 := Nat.mul_le_mul_right (2 ^ (ps.filter (fun x => decide (x.slot ∈ r))).length) h2
    rw [← Nat.pow_add, cnt_split h.1] at h3
    exact Nat.le_trans h1 h3
theorem srch_len16 {ps : List Part} {js : List Joint} {sl : List Int} {b : List ByteArray} (h : sl.Nodup) (h16 : ps.length ≤ 16) : (srch ps js sl b).length ≤ 65536 := by
  have h1 := srch_len (ps := ps) (js := js) (b := b) h
  have h2 : (ps.filter (fun x => decide (x.slot ∈ sl))).length ≤ 16 := Nat.le_trans (List.length_filter_le _ _) h16
  exact Nat.le_trans h1 (Nat.pow_le_pow_right (by decide) h2)
/-! ### what is found -/
theorem set_len {b : List ByteArray} (h8 : b.length = 8) (k : Nat) (c : ByteArray) : (b.set k c).length = 8 := by rw [List.length_set, h8]
theorem getC_set_same {b : List ByteArray} (h8 : b.length = 8) {s : Int} (h7 : s ≤ 7) (c : ByteArray) : getC (b.set s.toNat c) s = c := by
  unfold getC
  rw [List.getD_eq_getElem?_getD, List.getElem?_set_self (by omega)]; rfl
theorem getC_set_ne {b : List ByteArray} {s t : Int} (h0 : 0 ≤ s) (h1 : 0 ≤ t) (hne : s ≠ t) (c : ByteArray) : getC (b.set s.toNat c) t = getC b t := by
  unfold getC
  rw [List.getD_eq_getElem?_getD, List.getElem?_set_ne (by omega), ← List.getD_eq_getElem?_getD]
theorem find_self {ps : List Part} {p : Part} (h : p ∈ ps) : 0 ≤ firstAt (isCode p.code) ps := by
  rcases Int.lt_or_le (firstAt (isCode p.code) ps) 0 with h1 | h1
  · have := firstAt_neg.1 h1
    rw [List.any_eq_false] at this
    exact absurd (by unfold isCode; exact beq_self_eq_true _) (this p h)
  · exact h1
theorem Fit.set {ps : List Part} {b : List ByteArray} (h : Fit ps b) {p : Part} (hp : p ∈ ps) (k : Nat) : Fit ps (b.set k p.code) := by
  refine ⟨set_len h.1 _ _, fun c hc => ?_⟩
  rcases List.mem_or_eq_of_mem_set hc with h1 | h1
  · exact h.2 c h1
  · rw [h1]; exact .inr (find_self hp)
/-- slots of a build -/
def okS (sl : List Int) : Prop := sl.Nodup ∧ ∀ s ∈ sl, 0 ≤ s ∧ s ≤ 7
theorem okS.tail {s : Int} {r : List Int} (h : okS (s :: r)) : okS r ∧ s ∉ r ∧ 0 ≤ s ∧ s ≤ 7 := by
  obtain ⟨h1, h2⟩ := h
  rw [List.nodup_cons] at h1
  exact ⟨⟨h1.2, fun x hx => h2 x (by simp [hx])⟩, h1.1, h2 s (by simp)⟩
theorem okS.drop {sl : List Int} (h : okS sl) (k : Nat) : okS (sl.drop k) := ⟨h.1.sublist (List.drop_sublist _ _), fun s hs => h.2 s (List.mem_of_mem_drop hs)⟩
theorem srch_fit {ps : List Part} {js : List Joint} : ∀ {sl : List Int} {b x : List ByteArray}, okS sl → Fit ps b → x ∈ srch ps js sl b →
    Fit ps x ∧ (∀ t, 0 ≤ t → t ∉ sl → getC x t = getC b t) ∧ (∀ s ∈ sl, 0 ≤ firstAt (isCode (getC x s)) ps) ∧ (sl ≠ [] → anyBr ps x js = false)
  | [], b, x, _, hf, hx => by
    have e : x = b := by simpa [srch] using hx
    subst e
    exact ⟨hf, fun _ _ _ => rfl, fun s hs => absurd hs (by simp), fun h => absurd rfl h⟩
  | s :: r, b, x, hs, hf, hx => by
    obtain ⟨h1, h2, h3, h4⟩ := hs.tail
    rw [srch_cons] at hx
    obtain ⟨p, hp, hx⟩ := List.mem_flatMap.1 hx
    have hpm := (List.mem_filter.1 hp).1
    rcases hb : anyBr ps (b.set s.toNat p.code) js
    · rw [srchP_yes hb] at hx
      obtain ⟨i1, i2, i3, i4⟩ := srch_fit h1 (hf.set hpm s.toNat) hx
      refine ⟨i1, fun t ht hn => ?_, fun t ht => ?_, fun _ => ?_⟩
      · rw [i2 t ht (fun h => hn (by simp [h])), getC_set_ne h3 ht (fun e => hn (by simp [e]))]
      · rcases List.mem_cons.1 ht with rfl | ht
        · rw [i2 t h3 h2, getC_set_same hf.1 h4]; exact find_self hpm
        · exact i3 t ht
      · by_cases hr : r = []
        · subst hr
          have e : x = b.set s.toNat p.code := by simpa [srch] using hx
          rw [e]; exact hb
        · exact i4 hr
    · rw [srchP_no hb] at hx
      cases hx
end Go.Proofs.Ytblaojjpclipaaa
