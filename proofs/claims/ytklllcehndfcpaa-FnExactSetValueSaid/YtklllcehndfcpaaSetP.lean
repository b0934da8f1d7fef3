/- Plain: a sheet in which a key has a value is a sheet, unless it is too long (chapter 29). No statement of the seat is proved here. -/
import Derived.Test.YtklllcehndfcpaaAddV
namespace Go.Proofs.Ytklllcehndfcpaa
open Go.RowKit

theorem bl_irrefl : ∀ a : List UInt8, Op.bytesLess a a = false
  | [] => rfl
  | x :: a => by simp [Op.bytesLess, bl_irrefl a]
theorem bl_tri : ∀ a b : List UInt8, (!Op.bytesLess b a) = (Op.bytesLess a b || (a == b))
  | [], [] => rfl
  | [], _ :: _ => rfl
  | _ :: _, [] => rfl
  | x :: a, y :: b => by
    have ih := bl_tri a b
    simp only [Op.bytesLess]
    by_cases h : x = y
    · subst h
      simp [ih, UInt8.lt_irrefl]
    · have h1 : (x == y) = false := by simpa using h
      have h2 : (y == x) = false := by simpa using fun e => h e.symm
      have h3 : (x :: a == y :: b) = false := by simp [h]
      rw [h1, h2, h3]
      simp only [Bool.false_and, Bool.or_false]
      by_cases hl : x < y
      · have : ¬ y < x := UInt8.not_lt.2 (UInt8.le_of_lt hl)
        simp [hl, this]
      · have : y < x := UInt8.lt_of_le_of_ne (UInt8.not_lt.1 hl) (fun e => h e.symm)
        simp [hl, this]
theorem bl_trans : ∀ a b c : List UInt8, Op.bytesLess a b = true → Op.bytesLess b c = true → Op.bytesLess a c = true
  | _, [], _, h, _ => by simp [Op.bytesLess] at h
  | _, _ :: _, [], _, h => by simp [Op.bytesLess] at h
  | [], _ :: _, _ :: _, _, _ => rfl
  | x :: a, y :: b, z :: c, h1, h2 => by
    simp only [Op.bytesLess, Bool.or_eq_true, decide_eq_true_eq, Bool.and_eq_true, beq_iff_eq] at *
    rcases h1 with h1 | ⟨rfl, h1⟩
    · rcases h2 with h2 | ⟨rfl, h2⟩
      · exact .inl (UInt8.lt_trans h1 h2)
      · exact .inl h1
    · rcases h2 with h2 | ⟨rfl, h2⟩
      · exact .inl h2
      · exact .inr ⟨rfl, bl_trans a b c h1 h2⟩
theorem key_irrefl (a : ByteArray) : keyLt a a = false := bl_irrefl _
theorem key_trans {a b c : ByteArray} (h1 : keyLt a b = true) (h2 : keyLt b c = true) : keyLt a c = true := bl_trans _ _ _ h1 h2
/-- a line that may stand in a sheet -/
def lineG (x : Line) : Bool := isWord x.key && inR x.value 0 1000000
/-- the lines of a sheet: all good, in increasing order -/
def sheetP (ls : List Line) : Prop := (∀ x ∈ ls, lineG x = true) ∧ ls.Pairwise (fun x y => keyLt x.key y.key = true)
theorem lineOk_at {ts : List Line} {k : Nat} (h : k < ts.length) : lineOk ts k = (lineG ts[k] && (k == 0 || keyLt (ts.getD (k - 1) zLine).key ts[k].key)) := by
  unfold lineOk lineG
  rw [getD_at _ _ k h]
theorem chain_lt {ts : List Line} (h : ∀ k, k + 1 < ts.length → ∀ (h1 : k < ts.length) (h2 : k + 1 < ts.length), keyLt ts[k].key ts[k + 1].key = true) : ∀ (d i : Nat) (hi : i < ts.length) (hj : i + d + 1 < ts.length), keyLt ts[i].key ts[i + d + 1].key = true
  | 0, i, hi, hj => h i hj hi hj
  | d + 1, i, hi, hj => key_trans (chain_lt h d i hi (by omega)) (h (i + d + 1) (by omega) (by omega) (by omega))
theorem sheet_iff (ts : List Line) : (List.range ts.length).all (lineOk ts) = true ↔ sheetP ts := by
  constructor
  · intro h
    have ha : ∀ k (hk : k < ts.length), lineG ts[k] = true ∧ (k = 0 ∨ keyLt (ts.getD (k - 1) zLine).key ts[k].key = true) := fun k hk => by
      have h1 := List.all_eq_true.1 h k (List.mem_range.2 hk)
      rw [lineOk_at hk, Bool.and_eq_true, Bool.or_eq_true, beq_iff_eq] at h1
      exact h1
    refine ⟨fun x hx => ?_, ?_⟩
    · obtain ⟨k, hk, rfl⟩ := List.getElem_of_mem hx
      exact (ha k hk).1
    · rw [List.pairwise_iff_getElem]
      intro i j hi hj hij
      have hc := chain_lt (ts := ts) (fun k hk h1 h2 => by
        rcases (ha (k + 1) h2).2 with h0 | h0
        · omega
        · rwa [show k + 1 - 1 = k by omega, getD_at _ _ k h1] at h0) (j - i - 1) i hi (by omega)
      have e : i + (j - i - 1) + 1 = j := by omega
      simp only [e] at hc
      exact hc
  · intro ⟨h1, h2⟩
    rw [List.all_eq_true]
    intro k hk
    have hk' := List.mem_range.1 hk
    rw [lineOk_at hk', h1 _ (List.getElem_mem hk'), Bool.true_and, Bool.or_eq_true, beq_iff_eq]
    by_cases h0 : k = 0
    · exact .inl h0
    · right
      rw [getD_at _ _ (k - 1) (by omega)]
      exact List.pairwise_iff_getElem.1 h2 (k - 1) k (by omega) hk' (by omega)
theorem sheetB_iff (ts : List Line) : sheetB ts = true ↔ ts.length ≤ 8 ∧ sheetP ts := by
  unfold sheetB
  rw [Bool.and_eq_true, decide_eq_true_eq, sheet_iff]

def keyLe (a b : ByteArray) : Bool := !keyLt b a
theorem keyLe_eq (a b : ByteArray) : keyLe a b = (Op.bytesLess a.toList b.toList || (a.toList == b.toList)) := bl_tri _ _
/-- the lines behind which a key is set: 'p' says that it stands already -/
def setG (key : ByteArray) (value : Int) : List Line → Bool → List Line
  | [], p => if p then [] else [⟨key, value⟩]
  | l :: ls, p => (if !p && keyLe key l.key then [⟨key, value⟩] else []) ++ ((if isKeyP key l then [] else [l]) ++ setG key value ls (p || keyLe key l.key))
def setF (ls : List Line) (key : ByteArray) (value : Int) : List Line := setG key value ls (value == -1)
theorem setG_mem (key : ByteArray) (value : Int) : ∀ (ls : List Line) (p : Bool) (y : Line), y ∈ setG key value ls p → y ∈ ls ∨ (p = false ∧ y = ⟨key, value⟩)
  | [], p, y, h => by
    cases p
    · simp [setG] at h; exact .inr ⟨rfl, h⟩
    · simp [setG] at h
  | l :: ls, p, y, h => by
    simp only [setG] at h
    rcases List.mem_append.1 h with h | h
    · split at h
      · rename_i hh
        rw [Bool.and_eq_true] at hh
        exact .inr ⟨by simpa using hh.1, by simpa using h⟩
      · simp at h
    · rcases List.mem_append.1 h with h | h
      · split at h
        · simp at h
        · exact .inl (by rw [List.mem_singleton.1 h]; exact List.mem_cons_self ..)
      · rcases setG_mem key value ls _ y h with h | ⟨h1, h2⟩
        · exact .inl (List.mem_cons_of_mem _ h)
        · rw [Bool.or_eq_false_iff] at h1
          exact .inr ⟨h1.1, h2⟩
theorem keyLe_ne {a b : ByteArray} (h : keyLe a b = true) (hne : (b.toList == a.toList) = false) : keyLt a b = true := by
  rw [keyLe_eq, Bool.or_eq_true] at h
  rcases h with h | h
  · exact h
  · rw [beq_iff_eq] at h
    rw [h] at hne
    simp at hne
theorem keyLe_trans {a b c : ByteArray} (h : keyLe a b = true) (h2 : keyLt b c = true) : keyLt a c = true := by
  rw [keyLe_eq, Bool.or_eq_true] at h
  rcases h with h | h
  · exact key_trans h h2
  · rw [beq_iff_eq] at h
    unfold keyLt at h2 ⊢
    rw [h]
    exact h2
theorem setG_sheet {key : ByteArray} {value : Int} (hk : isWord key = true) (hv : ∀ p : Bool, p = false → inR value 0 1000000 = true → True) : ∀ (ls : List Line) (p : Bool), (p = false → inR value 0 1000000 = true) → sheetP ls → sheetP (setG key value ls p)
  | [], p, hp, _ => by
    cases p
    · refine ⟨fun x hx => ?_, by simp [setG]⟩
      simp [setG] at hx
      subst hx
      unfold lineG
      simp only
      rw [hk, hp rfl]
      rfl
    · exact ⟨fun x hx => by simp [setG] at hx, by simp [setG]⟩
  | l :: ls, p, hp, ⟨h1, h2⟩ => by
    rw [List.pairwise_cons] at h2
    have hl : lineG l = true := h1 l (List.mem_cons_self ..)
    have ht : sheetP ls := ⟨fun x hx => h1 x (List.mem_cons_of_mem _ hx), h2.2⟩
    obtain ⟨i1, i2⟩ := setG_sheet hk hv ls (p || keyLe key l.key) (fun h => hp (by rw [Bool.or_eq_false_iff] at h; exact h.1)) ht
    refine ⟨fun x hx => ?_, ?_⟩
    · rcases setG_mem key value (l :: ls) p x hx with h | ⟨h, rfl⟩
      · exact h1 x h
      · unfold lineG
        simp only
        rw [hk, hp h]
        rfl
    · simp only [setG]
      have low : ∀ y ∈ setG key value ls (p || keyLe key l.key), (isKeyP key l = false ∨ p = true ∨ keyLe key l.key = true) → keyLt l.key y.key = true ∨ (p || keyLe key l.key) = false := fun y hy _ => by
        rcases setG_mem key value ls _ y hy with h | ⟨h, _⟩
        · exact .inl (h2.1 y h)
        · exact .inr h
      have hmid : ∀ y ∈ setG key value ls (p || keyLe key l.key), keyLt l.key y.key = true := fun y hy => by
        rcases setG_mem key value ls _ y hy with h | ⟨h, rfl⟩
        · exact h2.1 y h
        · rw [Bool.or_eq_false_iff] at h
          have h3 := h.2
          unfold keyLe at h3
          simpa using h3
      rw [List.pairwise_append]
      refine ⟨by split <;> simp, ?_, ?_⟩
      · rw [List.pairwise_append]
        refine ⟨by split <;> simp, i2, fun x hx y hy => ?_⟩
        split at hx
        · simp at hx
        · rw [List.mem_singleton.1 hx]; exact hmid y hy
      · intro x hx y hy
        split at hx
        · rename_i hh
          rw [Bool.and_eq_true] at hh
          rw [List.mem_singleton.1 hx]
          rcases List.mem_append.1 hy with hy | hy
          · split at hy
            · simp at hy
            · rename_i hn
              rw [List.mem_singleton.1 hy]
              exact keyLe_ne hh.2 (by unfold isKeyP at hn; simpa using hn)
          · exact keyLe_trans hh.2 (hmid y hy)
        · simp at hx
theorem setF_sheet {ls : List Line} {key : ByteArray} {value : Int} (hs : sheetB ls = true) (hk : isWord key = true) (hv : inR value (-1) 1000000 = true) : sheetB (setF ls key value) = decide ((setF ls key value).length ≤ 8) := by
  have h1 := (sheetB_iff ls).1 hs
  have h2 : sheetP (setF ls key value) := setG_sheet hk (fun _ _ _ => trivial) ls (value == -1) (fun h => by
    rw [beq_eq_false_iff_ne] at h
    rw [inR_iff] at hv ⊢
    omega) h1.2
  by_cases h : (setF ls key value).length ≤ 8
  · rw [decide_eq_true h]; exact (sheetB_iff _).2 ⟨h, h2⟩
  · rw [decide_eq_false h]
    rcases hb : sheetB (setF ls key value)
    · rfl
    · exact absurd ((sheetB_iff _).1 hb).1 h
theorem setG_len (key : ByteArray) (value : Int) : ∀ (ls : List Line) (p : Bool), (setG key value ls p).length ≤ 2 * ls.length + 1
  | [], p => by cases p <;> simp [setG]
  | l :: ls, p => by
    have := setG_len key value ls (p || keyLe key l.key)
    simp only [setG, List.length_append, List.length_cons]
    split <;> split <;> simp <;> omega
theorem setF_len (ls : List Line) (key : ByteArray) (value : Int) : (setF ls key value).length ≤ 2 * ls.length + 1 := setG_len _ _ _ _
/-- one line more has been looked at -/
theorem setG_step {key : ByteArray} {value : Int} {ls W out : List Line} {p : Bool} {k : Nat} (hk : k < ls.length) (h : out ++ setG key value (ls.drop k) p = W) :
    (out ++ ((if !p && keyLe key ls[k].key then [⟨key, value⟩] else []) ++ (if isKeyP key ls[k] then [] else [ls[k]]))) ++ setG key value (ls.drop (k + 1)) (p || keyLe key ls[k].key) = W := by
  rw [← h, List.drop_eq_getElem_cons hk]
  simp only [setG, List.append_assoc]
def SetValue_r (vs : List Ver) (n : Int) (key : ByteArray) (value : Int) : List Ver × Int :=
  if versB vs && isWord key then
    (if isVerF vs n && inR value (-1) 1000000 then
      (if vs.length = 20 ∨ 8 < (setF (vs.getD n.toNat zVer).lines key value).length then ([], 3) else (vs ++ [⟨n, setF (vs.getD n.toNat zVer).lines key value⟩], 0))
     else ([], 2))
  else ([], 1)
section
variable {vs : List Ver} {n : Int} {key : ByteArray} {value : Int}
theorem SetV_1 (h : (versB vs && isWord key) = false) : SetValue_r vs n key value = ([], 1) := by unfold SetValue_r; rw [h]; rfl
theorem SetV_2 (h : (versB vs && isWord key) = true) (h2 : (isVerF vs n && inR value (-1) 1000000) = false) : SetValue_r vs n key value = ([], 2) := by unfold SetValue_r; rw [h, h2]; rfl
theorem SetV_3 {ls : List Line} (h : (versB vs && isWord key) = true) (h2 : (isVerF vs n && inR value (-1) 1000000) = true) (hl : (vs.getD n.toNat zVer).lines = ls) (h3 : vs.length = 20 ∨ 8 < (setF ls key value).length) : SetValue_r vs n key value = ([], 3) := by unfold SetValue_r; rw [h, h2, hl]; simp only [if_true]; rw [if_pos h3]
theorem SetV_0 {ls : List Line} (h : (versB vs && isWord key) = true) (h2 : (isVerF vs n && inR value (-1) 1000000) = true) (hl : (vs.getD n.toNat zVer).lines = ls) (h3 : ¬ (vs.length = 20 ∨ 8 < (setF ls key value).length)) : SetValue_r vs n key value = (vs ++ [⟨n, setF ls key value⟩], 0) := by unfold SetValue_r; rw [h, h2, hl]; simp only [if_true]; rw [if_neg h3]
end
theorem SetV_cases (vs : List Ver) (n : Int) (key : ByteArray) (value : Int) : (SetValue_r vs n key value).1 = [] ∨ ∃ ls : List Line, ls.length ≤ 8 ∧ (SetValue_r vs n key value).1 = vs ++ [⟨n, ls⟩] := by
  rcases h : (versB vs && isWord key)
  · rw [SetV_1 h]; exact .inl rfl
  · rcases h2 : (isVerF vs n && inR value (-1) 1000000)
    · rw [SetV_2 h h2]; exact .inl rfl
    · by_cases h3 : vs.length = 20 ∨ 8 < (setF (vs.getD n.toNat zVer).lines key value).length
      · rw [SetV_3 h h2 rfl h3]; exact .inl rfl
      · rw [SetV_0 h h2 rfl h3]
        exact .inr ⟨_, by omega, rfl⟩
theorem SetValue_tot (vs : List Ver) (n : Int) (key : ByteArray) (value : Int) (h : totV vs ≤ 1048576) : totV (SetValue_r vs n key value).1 ≤ 4000000 := by
  rcases SetV_cases vs n key value with e | ⟨ls, hl, e⟩
  · rw [e]; simp [totV]
  · rw [e, totV_app]; simp only; omega
theorem SetValue_lines (vs : List Ver) (n : Int) (key : ByteArray) (value : Int) (h : totV vs ≤ 1048576) : ∀ x ∈ (SetValue_r vs n key value).1, x.lines.length ≤ 1048576 := by
  intro x hx
  rcases SetV_cases vs n key value with e | ⟨ls, hl, e⟩
  · rw [e] at hx; simp at hx
  · rw [e] at hx
    rcases List.mem_append.1 hx with hx | hx
    · exact Nat.le_trans (totV_mem vs x hx) h
    · rw [List.mem_singleton.1 hx]; simp only; omega
end Go.Proofs.Ytklllcehndfcpaa
