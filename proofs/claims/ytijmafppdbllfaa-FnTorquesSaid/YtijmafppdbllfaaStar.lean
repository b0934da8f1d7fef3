/- The star order of chapter 26: the Lean function that both programs compute, and their contracts. No statement of the seat is proved here. -/
import Derived.Test.YtijmafppdbllfaaRead
import Derived.Test.YtijmafppdbllfaaOwn
namespace Go.Proofs.Ytijmafppdbllfaa
open Go.RowKit

def sdist (n b l : Int) : Int := min (iabs (b - l)) (n - iabs (b - l))
/-- best and most behind k rounds -/
def inner (n : Int) (L : List Int) (l b0 : Int) : Nat → Int × Int
  | 0 => (b0, -1)
  | k + 1 => if !(L.any (· == (k : Int))) && decide ((inner n L l b0 k).2 < sdist n k l) then ((k : Int), sdist n k l) else inner n L l b0 k
def starL (n : Nat) : Nat → List Int
  | 0 => [0]
  | j + 1 => starL n j ++ [(inner n (starL n j) ((starL n j).getD j 0) 0 n).1]
def star (n : Nat) : List Int := starL n (n - 1)

theorem starL_len (n j : Nat) : (starL n j).length = j + 1 := by
  induction j with
  | zero => rfl
  | succ j ih => simp [starL, ih]

def starOk : Bool := (List.range 13).all fun n => decide (n < 3) || (List.range (n - 1)).all fun j =>
  (starL n j).all (fun x => inR x 0 (n - 1)) &&
  decide ((inner n (starL n j) ((starL n j).getD j 0) 0 n).1 = (inner n (starL n j) ((starL n j).getD j 0) (-1) n).1) &&
  inR (inner n (starL n j) ((starL n j).getD j 0) 0 n).1 0 (n - 1)
theorem starOk_true : starOk = true := by decide +kernel
theorem star_facts {n j : Nat} (h3 : 3 ≤ n) (h12 : n ≤ 12) (hj : j + 1 < n) :
    (∀ x ∈ starL n j, 0 ≤ x ∧ x ≤ n - 1) ∧ (inner n (starL n j) ((starL n j).getD j 0) 0 n).1 = (inner n (starL n j) ((starL n j).getD j 0) (-1) n).1 ∧
    0 ≤ (inner n (starL n j) ((starL n j).getD j 0) 0 n).1 ∧ (inner n (starL n j) ((starL n j).getD j 0) 0 n).1 ≤ n - 1 := by
  have h := starOk_true
  unfold starOk at h
  have h1 := List.all_eq_true.1 h n (List.mem_range.2 (by omega))
  rw [Bool.or_eq_true] at h1
  rcases h1 with h1 | h1
  · have := of_decide_eq_true h1; omega
  · have h2 := List.all_eq_true.1 h1 j (List.mem_range.2 (by omega))
    rw [Bool.and_eq_true, Bool.and_eq_true] at h2
    obtain ⟨⟨a, b⟩, c⟩ := h2
    refine ⟨fun x hx => ?_, of_decide_eq_true b, inR_iff.1 c⟩
    exact inR_iff.1 (List.all_eq_true.1 a x hx)
theorem sdist_bd {n b l : Int} (h1 : 0 ≤ b) (h2 : b < n) (h3 : 0 ≤ l) (h4 : l < n) : 0 ≤ sdist n b l ∧ sdist n b l ≤ n := by
  unfold sdist iabs; split <;> omega
theorem sdist_if (n k l : Int) : sdist n k l = if n - iabs (k - l) < iabs (k - l) then n - iabs (k - l) else iabs (k - l) := by
  unfold sdist; split <;> omega
/-- the reference's distance -/
theorem sdist_mod {n b l : Int} (h1 : 0 ≤ b) (h2 : b < n) (h3 : 0 ≤ l) (h4 : l < n) : min ((b - l) % n) ((l - b) % n) = sdist n b l := by
  unfold sdist iabs
  by_cases h : b < l
  · rw [if_pos (by omega)]
    have e1 : (b - l) % n = b - l + n := by rw [← Int.add_emod_right]; exact Int.emod_eq_of_lt (by omega) (by omega)
    have e2 : (l - b) % n = l - b := Int.emod_eq_of_lt (by omega) (by omega)
    rw [e1, e2]; omega
  · rw [if_neg (by omega)]
    by_cases h' : b = l
    · subst h'; simp; omega
    · have e1 : (l - b) % n = l - b + n := by rw [← Int.add_emod_right]; exact Int.emod_eq_of_lt (by omega) (by omega)
      have e2 : (b - l) % n = b - l := Int.emod_eq_of_lt (by omega) (by omega)
      rw [e1, e2]; omega
theorem sdist_if2 {n k l : Int} (h1 : 0 ≤ k) (h2 : k < n) (h3 : 0 ≤ l) (h4 : l < n) : sdist n k l = if (l - k) % n < (k - l) % n then (l - k) % n else (k - l) % n := by
  rw [← sdist_mod h1 h2 h3 h4]
  generalize (k - l) % n = a
  generalize (l - k) % n = c
  split <;> omega
theorem inner_bd {n : Nat} {L : List Int} {l b0 : Int} (h3 : 0 ≤ l) (h4 : l < n) (hb : -1 ≤ b0 ∧ b0 ≤ n) : ∀ k, k ≤ n → -1 ≤ (inner n L l b0 k).1 ∧ (inner n L l b0 k).1 ≤ n ∧ -1 ≤ (inner n L l b0 k).2 ∧ (inner n L l b0 k).2 ≤ n
  | 0, _ => by simp [inner]; omega
  | k + 1, hk => by
    obtain ⟨i1, i2, i3, i4⟩ := inner_bd (L := L) h3 h4 hb k (by omega)
    have hd := sdist_bd (n := n) (b := k) (l := l) (by omega) (by omega) h3 h4
    unfold inner
    split
    · simp only []; omega
    · omega
theorem inner_yes {n : Int} {L : List Int} {l b0 : Int} {k : Nat} (h1 : L.any (· == (k : Int)) = false) (h2 : (inner n L l b0 k).2 < sdist n k l) : inner n L l b0 (k + 1) = ((k : Int), sdist n k l) := by
  rw [inner, h1]; simp [h2]
theorem inner_no1 {n : Int} {L : List Int} {l b0 : Int} {k : Nat} (h1 : L.any (· == (k : Int)) = true) : inner n L l b0 (k + 1) = inner n L l b0 k := by
  rw [inner, h1]; simp
theorem inner_no2 {n : Int} {L : List Int} {l b0 : Int} {k : Nat} (h2 : ¬ (inner n L l b0 k).2 < sdist n k l) : inner n L l b0 (k + 1) = inner n L l b0 k := by
  rw [inner]; simp [h2]

theorem info_bool : (Try.prog.info? 4).map (fun i => (i.zero, i.size, i.bytes)) = some (some (.bool false), 1, 1) := by kernel_rfl
theorem own_ne_type {w : World} {b b' : Nat} {e e' : TypeId} {sz sz' : Nat} {v v' : Value} {n n' : Nat} {xs xs' : List Value} (h : w.ownsRow b e sz v n xs) (h' : w.ownsRow b' e' sz' v' n' xs') (hne : e ≠ e') : v'.ownBlock = none ∨ v'.ownBlock ≠ v.ownBlock := by
  rcases h'.2 with ⟨rfl, _⟩ | ⟨g', cap', cur', rfl, _, hh', _⟩
  · exact .inl rfl
  rcases h.2 with ⟨rfl, _⟩ | ⟨g, cap, cur, rfl, _, hh, _⟩
  · exact .inr (by simp [Value.ownBlock])
  refine .inr ?_
  simp only [Value.ownBlock, ne_eq, Option.some.injEq]
  rintro rfl
  rw [hh] at hh'
  injection hh' with hh'
  injection hh' with _ ht
  exact hne ht
def seenB (n : Nat) (L : List Int) : List Value := (List.range n).map fun (i : Nat) => Value.bool (L.any (· == (i : Int)))
theorem seenB_len (n : Nat) (L : List Int) : (seenB n L).length = n := by simp [seenB]
theorem seenB_at (n : Nat) (L : List Int) (k : Nat) (h : k < n) : (seenB n L)[k]? = some (.bool (L.any (· == (k : Int)))) := by simp [seenB, h]
theorem seenB_set (n : Nat) (L : List Int) (k : Nat) (h : k < n) : (seenB n L).set k (.bool true) = seenB n (L ++ [(k : Int)]) := by
  apply List.ext_getElem?
  intro i
  rw [List.getElem?_set]
  by_cases hi : i < n
  · rw [seenB_at _ _ _ hi, seenB_at _ _ _ hi, seenB_len]
    by_cases hki : k = i
    · subst hki; simp [h]
    · rw [if_neg hki]
      simp
      omega
  · have e1 : (seenB n L)[i]? = none := List.getElem?_eq_none (by rw [seenB_len]; omega)
    have e2 : (seenB n (L ++ [(k : Int)]))[i]? = none := List.getElem?_eq_none (by rw [seenB_len]; omega)
    rw [e1, e2, seenB_len]
    by_cases hki : k = i
    · subst hki; rw [if_pos rfl, if_neg hi]
    · rw [if_neg hki]
theorem seenB_zero (n : Nat) (h : 0 < n) : (List.replicate n (Value.bool false)).set 0 (.bool true) = seenB n [0] := by
  have e : List.replicate n (Value.bool false) = seenB n [] := by
    apply List.ext_getElem?
    intro i
    by_cases hi : i < n
    · rw [seenB_at _ _ _ hi]; simp [hi]
    · rw [List.getElem?_eq_none (by simp; omega), List.getElem?_eq_none (by rw [seenB_len]; omega)]
  rw [e, seenB_set _ _ _ h]; rfl

set_option maxHeartbeats 2000000 in
theorem starOrder_any (n : Nat) (w : World) (h3 : 3 ≤ n) (h12 : n ≤ 12) :
    Calls Try.prog 62 #[.int .i64 n] w fun e w' => ∃ v, e = .returned v ∧ Own eI w' w.heap.size 2 v (star n) ∧ Below w.heap.size w w' := by
  obtain ⟨i0, hi, hz0, hz1, hz2⟩ := info_parts info_i64
  obtain ⟨j0, hj, hy0, hy1, hy2⟩ := info_parts info_bool
  go_enter Try.func62, Try.ntmps62
  go_wp2_with (at_make; refine wpList_make_full _ rfl _ _ 75 rfl (w.heap.size + 1) 4 j0 (.bool false) 1 Try.underlying75 hj hy0 hy1 .i64 .i64 _ _ n rfl rfl rfl rfl ?c1 ?c2 (by simp) ?_)
  case c1 => rw [hy2]; omega
  case c2 => unfold maxLen; omega
  intro w1 hown hgrow
  have hseen0 := own_made _ _ _ _ _ _ hown
  have hlit := World.ownsRow_lit (base := w.heap.size) (e := 2) (size := 1) w #[.int .i64 0] 1 (Nat.le_refl _) (by decide) (by decide)
  have hout0 : Own eI w1 w.heap.size 2 (.slice (some ⟨w.heap.size, 0, none⟩) 1 1) (starL n 0) := own_of_ints (hlit.kept hgrow (.inr (by simp [Value.ownBlock]))) rfl
  have hb1 : Below w.heap.size w w1 := ((Below.refl _ _).alloc (Nat.le_refl _) _).grown hgrow (by simp) (by simp)
  have hs1 : w.heap.size + 1 < w1.heap.size := by have := (hown.lt _ rfl).2; simpa using this
  have hst := hseen0.stored 0 (.bool true)
  rw [seenB_zero n (by omega)] at hst
  obtain ⟨hst1, hst2⟩ := hst
  have hout1 := World.ownsRow.kept hout0 hst2 (.inr (by simp [Value.ownBlock]))
  have hcell0 : w1.cell? ⟨w.heap.size + 1, 0, none⟩ = some (.bool false) := by
    have h := hseen0.cellAt 0 (by omega)
    rw [h, List.getElem?_replicate, if_pos (by omega)]
  have hfr0 : w1.frozen? ⟨w.heap.size + 1, 0, none⟩ = false := by have h := hseen0.frozenAt 0; simpa using h
  have HS0 := Lib.hid hst1
  have HO0 := Lib.hid hout1
  have HB0 : Hid (Below w.heap.size w (w1.setCell ⟨w.heap.size + 1, 0, none⟩ (.bool true))) := Lib.hid (hb1.setCell (by simp) _)
  have h0n : (0 : Int) < n := by omega
  clear hst1 hst2 hout1 hout0 hlit hseen0 hgrow hown
  go_wp2
  go_loopg [3] (n - 1) (fun gk v wr => ∃ j : Nat, gk + j + 1 ≤ n ∧ n ≤ gk + j + 1 ∧ Own eI wr w.heap.size 2 v (starL n j) ∧ Hid (wr.ownsRow (w.heap.size + 1) 4 1 (.slice (some ⟨w.heap.size + 1, 0, none⟩) n n) n (seenB n (starL n j))) ∧ Hid (Below w.heap.size w wr) ∧ w.heap.size + 1 < wr.heap.size)
  case atStart => exact ⟨0, by omega, by omega, HO0.out, HS0, HB0, by simpa using hs1⟩
  case round =>
    obtain ⟨j, hj1, hj2, hown, HS, HB, hsz⟩ := hrel
    obtain ⟨wo, rfl⟩ : ∃ wo : World, wo = wr := ⟨_, rfl⟩
    clear HO0 HS0 HB0 hb1 hs1 hcell0 hfr0
    have hlen := starL_len n j
    obtain ⟨g, cap, rfl, hbg, hgl⟩ := World.ownsRow.form hown (by rw [hlen]; omega)
    have HO := Lib.hid hown
    have HLn := Lib.hid hlen
    rw [hlen]
    clear hown hlen
    by_cases hlast : j + 1 < n
    · obtain ⟨f1, f2, f3, f4⟩ := star_facts h3 h12 hlast
      have hlj : j < (starL n j).length := by rw [starL_len]; omega
      have hcl : wo.cell? ⟨g, j, none⟩ = some (.int .i64 ((starL n j).getD j 0)) := by
        have h0 := HO.out.ints
        rw [starL_len] at h0
        rw [h0.cellAt j (by omega)]
        simp [List.getElem?_eq_getElem hlj]
      obtain ⟨l1, l2⟩ := f1 ((starL n j).getD j 0) (by simp [List.getElem?_eq_getElem hlj])
      have HF2 := Lib.hid f2
      have HF3 := Lib.hid f3
      have HF4 := Lib.hid f4
      have HSC : Hid (∀ k, k < n → wo.cell? ⟨w.heap.size + 1, k, none⟩ = some (.bool ((starL n j).any (· == (k : Int))))) := Lib.hid (fun k hk => by rw [HS.out.cellAt k (by omega), seenB_at _ _ _ hk])
      have HSF : Hid (∀ k, wo.frozen? ⟨w.heap.size + 1, k, none⟩ = false) := Lib.hid (fun k => HS.out.frozenAt k)
      have HNX0 : Hid (starL n (j + 1) = starL n j ++ [(inner n (starL n j) ((starL n j).getD j 0) 0 n).1]) := Lib.hid rfl
      clear f1 f2 f3 f4
      generalize (starL n j).getD j 0 = l at *
      have hdl : decide ((j : Int) + 1 < (n : Int)) = true := decide_eq_true (by omega)
      go_wp2
      go_loopg [6, 7, 8] n (fun gi p q i wi => wo = wi ∧ ∃ (k : Nat) (b m : Int), k ≤ n ∧ gi = n - k ∧ p = .int .i64 b ∧ q = .int .i64 m ∧ i = .int .i64 k ∧ Hid (inner n (starL n j) l 0 k = (b, m)) ∧ -1 ≤ m ∧ m ≤ n)
      case atStart => exact ⟨rfl, 0, 0, -1, Nat.zero_le _, rfl, rfl, rfl, rfl, Lib.hid rfl, by omega, by omega⟩
      case round =>
        obtain ⟨rfl, k, b, m, hk, rfl, rfl, rfl, rfl, HI, m1, m2⟩ := hrel
        by_cases hlt : k < n
        · have hsc := HSC.out k hlt
          have hdb := sdist_bd (n := n) (b := k) (l := l) (by omega) (by omega) l1 (by omega)
          obtain ⟨d1, d2⟩ := hdb
          have ha : 0 ≤ iabs ((k : Int) - l) ∧ iabs ((k : Int) - l) ≤ n := by unfold iabs; split <;> omega
          have hd := sdist_if n k l
          obtain ⟨a, hae⟩ : ∃ a, iabs ((k : Int) - l) = a := ⟨_, rfl⟩
          rw [hae] at ha hd
          obtain ⟨a1, a2⟩ := ha
          have HAE := Lib.hid hae
          have HD := Lib.hid hd
          clear hae hd
          obtain ⟨s, hs⟩ : ∃ s, (starL n j).any (· == (k : Int)) = s := ⟨_, rfl⟩
          rw [hs] at hsc
          have HSE := Lib.hid hs
          clear hs
          by_cases hmin : n - a < a
          · have HD2 := Lib.hid (HD.out.trans (if_pos hmin))
            cases s
            · by_cases hgt : m < n - a
              · go_wp2_with (go_at_call 58; refine (abs_any _ _ ?_ ?_).mono ?_; omega; omega; rintro e w' ⟨rfl, rfl⟩; rw [HAE.out])
                go_roundg (n - (k + 1))
                case rel => exact ⟨rfl, k + 1, k, n - a, by omega, rfl, rfl, rfl, by go_num, Lib.hid (by rw [inner_yes HSE.out (by rw [HI.out, HD2.out]; exact hgt), HD2.out]), by omega, by omega⟩
                case measure => omega
              · go_wp2_with (go_at_call 58; refine (abs_any _ _ ?_ ?_).mono ?_; omega; omega; rintro e w' ⟨rfl, rfl⟩; rw [HAE.out])
                go_roundg (n - (k + 1))
                case rel => exact ⟨rfl, k + 1, b, m, by omega, rfl, rfl, rfl, by go_num, Lib.hid (by rw [inner_no2 (by rw [HI.out, HD2.out]; simp only []; omega), HI.out]), by omega, by omega⟩
                case measure => omega
            · go_wp2_with (go_at_call 58; refine (abs_any _ _ ?_ ?_).mono ?_; omega; omega; rintro e w' ⟨rfl, rfl⟩; rw [HAE.out])
              go_roundg (n - (k + 1))
              case rel => exact ⟨rfl, k + 1, b, m, by omega, rfl, rfl, rfl, by go_num, Lib.hid (by rw [inner_no1 HSE.out, HI.out]), by omega, by omega⟩
              case measure => omega
          · have HD2 := Lib.hid (HD.out.trans (if_neg hmin))
            cases s
            · by_cases hgt : m < a
              · go_wp2_with (go_at_call 58; refine (abs_any _ _ ?_ ?_).mono ?_; omega; omega; rintro e w' ⟨rfl, rfl⟩; rw [HAE.out])
                go_roundg (n - (k + 1))
                case rel => exact ⟨rfl, k + 1, k, a, by omega, rfl, rfl, rfl, by go_num, Lib.hid (by rw [inner_yes HSE.out (by rw [HI.out, HD2.out]; exact hgt), HD2.out]), by omega, by omega⟩
                case measure => omega
              · go_wp2_with (go_at_call 58; refine (abs_any _ _ ?_ ?_).mono ?_; omega; omega; rintro e w' ⟨rfl, rfl⟩; rw [HAE.out])
                go_roundg (n - (k + 1))
                case rel => exact ⟨rfl, k + 1, b, m, by omega, rfl, rfl, rfl, by go_num, Lib.hid (by rw [inner_no2 (by rw [HI.out, HD2.out]; simp only []; omega), HI.out]), by omega, by omega⟩
                case measure => omega
            · go_wp2_with (go_at_call 58; refine (abs_any _ _ ?_ ?_).mono ?_; omega; omega; rintro e w' ⟨rfl, rfl⟩; rw [HAE.out])
              go_roundg (n - (k + 1))
              case rel => exact ⟨rfl, k + 1, b, m, by omega, rfl, rfl, rfl, by go_num, Lib.hid (by rw [inner_no1 HSE.out, HI.out]), by omega, by omega⟩
              case measure => omega
        · obtain rfl : n = k := by omega
          have g3 := HF3.out
          have g4 := HF4.out
          have HI2 := HI.out
          rw [HI2] at g3 g4
          simp only [] at g3 g4
          obtain ⟨bn, rfl⟩ := Int.eq_ofNat_of_zero_le g3
          have hbn : bn < n := by omega
          have hsc := HSC.out bn hbn
          have hsf := HSF.out bn
          have hst := HS.out.stored bn (.bool true)
          rw [seenB_set n _ bn hbn] at hst
          obtain ⟨hst1, hst2⟩ := hst
          have hne := own_ne_type HS.out (HO.out.ints) (show 4 ≠ 2 by decide)
          have hout2 := (HO.out.ints).kept hst2 hne
          have hnext : starL n (j + 1) = starL n j ++ [(bn : Int)] := by rw [HNX0.out, HI2]
          have HS2 := Lib.hid hst1
          have HO2 := Lib.hid hout2
          have HB2 := Lib.hid (HB.out.setCell (p := ⟨w.heap.size + 1, bn, none⟩) (by simp) (.bool true))
          have HNX := Lib.hid hnext
          clear hst1 hst2 hout2 hnext HI2 HI HF2 HF3 HF4 HSC HSF hne
          rw [HLn.out] at HO2
          go_wp2_with (at_builtin; refine wpList_append_own _ rfl _ _ 22 rfl w.heap.size 2 i0 (.int .i64 0) 1 8 Try.underlying22 hi hz0 hz1 hz2 rfl (by decide) _ _ _ rfl (HO2.out.alloc _) ⟨wo.heap.size, 0, none⟩ 1 1 [.int .i64 bn] rfl rfl ?d1 ?d2 ?d3 ?d4 ?d5 ?_)
          case d1 => exact news_new (by simp)
          case d2 => intro u hu; simp at hu; subst hu; rfl
          case d3 => unfold maxLen; omega
          case d4 => omega
          case d5 => simp; omega
          intro v2 w2 hown2 hgrow2 _
          have hs2 : w.heap.size + 1 < w2.heap.size := by have := hgrow2.size; simp at this; omega
          have hb2 : Below w.heap.size w w2 := (HB2.out.alloc (by simp; omega) _).grown hgrow2 (by simp; omega) (by intro k hk; simp [Value.ownBlock] at hk; omega)
          have hseen2 := (HS2.out.alloc (.cells #[.int .i64 bn] 2)).kept hgrow2 (own_ne_type HO2.out HS2.out (by decide))
          have hlen2 : (starL n (j + 1)).length = j + 1 + 1 := starL_len n (j + 1)
          have hownF : Own eI w2 w.heap.size 2 v2 (starL n (j + 1)) := by
            rw [HNX.out]
            refine own_of_ints (n := j + 1 + 1) ?_ (by rw [← HNX.out]; exact hlen2)
            rw [List.map_append]
            exact hown2
          rw [← HNX.out] at hseen2
          have HF := Lib.hid hownF
          have HG := Lib.hid hseen2
          have HJ := Lib.hid hb2
          clear hownF hseen2 hb2 hown2 hgrow2 HO2 HS2 HB2 HO HS HB hlen2
          go_wp2
          go_roundg (gk - 1)
          case measure => omega
          case rel => exact ⟨j + 1, by omega, by omega, HF.out, HG, HJ, hs2⟩
    · go_wp2
      go_ret
      obtain rfl : j = n - 1 := by omega
      have h := HO.out
      rw [starL_len] at h
      exact ⟨_, rfl, h, HB.out⟩

set_option maxHeartbeats 2000000 in
theorem l26Star_any (n : Nat) (w : World) (h3 : 3 ≤ n) (h12 : n ≤ 12) :
    Calls Try.prog 61 #[.int .i64 n] w fun e w' => ∃ v, e = .returned v ∧ Own eI w' w.heap.size 2 v (star n) ∧ Below w.heap.size w w' := by
  obtain ⟨i0, hi, hz0, hz1, hz2⟩ := info_parts info_i64
  have hlit := World.ownsRow_lit (base := w.heap.size) (e := 2) (size := 1) w #[.int .i64 0] 1 (Nat.le_refl _) (by decide) (by decide)
  have HO0 : Hid (Own eI (w.alloc (.cells #[.int .i64 0] 2)) w.heap.size 2 (.slice (some ⟨w.heap.size, 0, none⟩) 1 1) (starL n 0)) := Lib.hid (own_of_ints hlit rfl)
  have HB0 : Hid (Below w.heap.size w (w.alloc (.cells #[.int .i64 0] 2))) := Lib.hid ((Below.refl _ _).alloc (Nat.le_refl _) _)
  clear hlit
  go_enter Try.func61, Try.ntmps61
  go_wp2
  go_loopg [3] (n - 1) (fun gk v wr => ∃ j : Nat, gk + j + 1 ≤ n ∧ n ≤ gk + j + 1 ∧ Own eI wr w.heap.size 2 v (starL n j) ∧ Hid (Below w.heap.size w wr) ∧ w.heap.size < wr.heap.size)
  case atStart => exact ⟨0, by omega, by omega, HO0.out, HB0, by simp⟩
  case round =>
    obtain ⟨j, hj1, hj2, hown, HB, hsz⟩ := hrel
    obtain ⟨wo, rfl⟩ : ∃ wo : World, wo = wr := ⟨_, rfl⟩
    clear HO0 HB0
    have hlen := starL_len n j
    have hsl := Sl.of_own hown (by rw [hlen]; unfold big40; omega)
    obtain ⟨g, cap, rfl, hbg, hgl⟩ := World.ownsRow.form hown (by rw [hlen]; omega)
    have HO := Lib.hid hown
    have HLn := Lib.hid hlen
    rw [hlen] at hsl ⊢
    clear hown hlen
    by_cases hlast : j + 1 < n
    · obtain ⟨f1, f2, f3, f4⟩ := star_facts h3 h12 hlast
      have hlj : j < (starL n j).length := by rw [starL_len]; omega
      have hcl : wo.cell? ⟨g, j, none⟩ = some (.int .i64 ((starL n j).getD j 0)) := by
        have h0 := HO.out.ints
        rw [starL_len] at h0
        rw [h0.cellAt j (by omega)]
        simp [List.getElem?_eq_getElem hlj]
      obtain ⟨l1, l2⟩ := f1 ((starL n j).getD j 0) (by simp [List.getElem?_eq_getElem hlj])
      have HF2 := Lib.hid f2
      have HF3 := Lib.hid f3
      have HF4 := Lib.hid f4
      have HNX0 : Hid (starL n (j + 1) = starL n j ++ [(inner n (starL n j) ((starL n j).getD j 0) 0 n).1]) := Lib.hid rfl
      clear f1 f2 f3 f4
      generalize (starL n j).getD j 0 = l at *
      have hdl : decide ((j : Int) + 1 < (n : Int)) = true := decide_eq_true (by omega)
      go_wp2
      go_loopg [5, 6, 7] n (fun gi p q i wi => wo = wi ∧ ∃ (k : Nat) (b m : Int), k ≤ n ∧ gi = n - k ∧ p = .int .i64 b ∧ q = .int .i64 m ∧ i = .int .i64 k ∧ Hid (inner n (starL n j) l (-1) k = (b, m)) ∧ -1 ≤ m ∧ m ≤ n)
      case atStart => exact ⟨rfl, 0, -1, -1, Nat.zero_le _, rfl, rfl, rfl, rfl, Lib.hid rfl, by omega, by omega⟩
      case round =>
        obtain ⟨rfl, k, b, m, hk, rfl, rfl, rfl, rfl, HI, m1, m2⟩ := hrel
        by_cases hlt : k < n
        · have hd := sdist_if2 (n := n) (k := k) (l := l) (by omega) (by omega) l1 (by omega)
          have hk0 : (0 : Int) ≤ k := by omega
          have ha1 := Int.emod_nonneg ((k : Int) - l) (show (n : Int) ≠ 0 by omega)
          have ha2 := Int.emod_lt_of_pos ((k : Int) - l) (show (0 : Int) < n by omega)
          have hc1 := Int.emod_nonneg (l - (k : Int)) (show (n : Int) ≠ 0 by omega)
          have hc2 := Int.emod_lt_of_pos (l - (k : Int)) (show (0 : Int) < n by omega)
          obtain ⟨a, hae⟩ : ∃ a, ((k : Int) - l) % n = a := ⟨_, rfl⟩
          obtain ⟨c, hce⟩ : ∃ c, (l - (k : Int)) % n = c := ⟨_, rfl⟩
          rw [hae] at ha1 ha2 hd
          rw [hce] at hc1 hc2 hd
          have HAE := Lib.hid hae
          have HCE := Lib.hid hce
          have HD := Lib.hid hd
          clear hae hce hd
          obtain ⟨s, hs⟩ : ∃ s, (starL n j).any (· == (k : Int)) = s := ⟨_, rfl⟩
          have HSE := Lib.hid hs
          clear hs
          by_cases hmin : c < a
          · have HD2 := Lib.hid (HD.out.trans (if_pos hmin))
            cases s
            · by_cases hgt : m < c
              · go_wp2_with (first
                  | (go_at_call 77; refine (l01Mod_any _ _ _ ?_ ?_ ?_ ?_).mono ?_; omega; omega; omega; omega; rintro e w' ⟨rfl, rfl⟩; (first | rw [HAE.out] | rw [HCE.out]))
                  | (go_at_call 78; refine (l01Has_any _ _ _ _ hsl).mono ?_; rintro e w' ⟨rfl, rfl⟩; rw [HSE.out]))
                go_roundg (n - (k + 1))
                case rel => exact ⟨rfl, k + 1, k, c, by omega, rfl, rfl, rfl, by go_num, Lib.hid (by rw [inner_yes HSE.out (by rw [HI.out, HD2.out]; exact hgt), HD2.out]), by omega, by omega⟩
                case measure => omega
              · go_wp2_with (first
                  | (go_at_call 77; refine (l01Mod_any _ _ _ ?_ ?_ ?_ ?_).mono ?_; omega; omega; omega; omega; rintro e w' ⟨rfl, rfl⟩; (first | rw [HAE.out] | rw [HCE.out]))
                  | (go_at_call 78; refine (l01Has_any _ _ _ _ hsl).mono ?_; rintro e w' ⟨rfl, rfl⟩; rw [HSE.out]))
                go_roundg (n - (k + 1))
                case rel => exact ⟨rfl, k + 1, b, m, by omega, rfl, rfl, rfl, by go_num, Lib.hid (by rw [inner_no2 (by rw [HI.out, HD2.out]; simp only []; omega), HI.out]), by omega, by omega⟩
                case measure => omega
            · go_wp2_with (first
                | (go_at_call 77; refine (l01Mod_any _ _ _ ?_ ?_ ?_ ?_).mono ?_; omega; omega; omega; omega; rintro e w' ⟨rfl, rfl⟩; (first | rw [HAE.out] | rw [HCE.out]))
                | (go_at_call 78; refine (l01Has_any _ _ _ _ hsl).mono ?_; rintro e w' ⟨rfl, rfl⟩; rw [HSE.out]))
              go_roundg (n - (k + 1))
              case rel => exact ⟨rfl, k + 1, b, m, by omega, rfl, rfl, rfl, by go_num, Lib.hid (by rw [inner_no1 HSE.out, HI.out]), by omega, by omega⟩
              case measure => omega
          · have HD2 := Lib.hid (HD.out.trans (if_neg hmin))
            cases s
            · by_cases hgt : m < a
              · go_wp2_with (first
                  | (go_at_call 77; refine (l01Mod_any _ _ _ ?_ ?_ ?_ ?_).mono ?_; omega; omega; omega; omega; rintro e w' ⟨rfl, rfl⟩; (first | rw [HAE.out] | rw [HCE.out]))
                  | (go_at_call 78; refine (l01Has_any _ _ _ _ hsl).mono ?_; rintro e w' ⟨rfl, rfl⟩; rw [HSE.out]))
                go_roundg (n - (k + 1))
                case rel => exact ⟨rfl, k + 1, k, a, by omega, rfl, rfl, rfl, by go_num, Lib.hid (by rw [inner_yes HSE.out (by rw [HI.out, HD2.out]; exact hgt), HD2.out]), by omega, by omega⟩
                case measure => omega
              · go_wp2_with (first
                  | (go_at_call 77; refine (l01Mod_any _ _ _ ?_ ?_ ?_ ?_).mono ?_; omega; omega; omega; omega; rintro e w' ⟨rfl, rfl⟩; (first | rw [HAE.out] | rw [HCE.out]))
                  | (go_at_call 78; refine (l01Has_any _ _ _ _ hsl).mono ?_; rintro e w' ⟨rfl, rfl⟩; rw [HSE.out]))
                go_roundg (n - (k + 1))
                case rel => exact ⟨rfl, k + 1, b, m, by omega, rfl, rfl, rfl, by go_num, Lib.hid (by rw [inner_no2 (by rw [HI.out, HD2.out]; simp only []; omega), HI.out]), by omega, by omega⟩
                case measure => omega
            · go_wp2_with (first
                | (go_at_call 77; refine (l01Mod_any _ _ _ ?_ ?_ ?_ ?_).mono ?_; omega; omega; omega; omega; rintro e w' ⟨rfl, rfl⟩; (first | rw [HAE.out] | rw [HCE.out]))
                | (go_at_call 78; refine (l01Has_any _ _ _ _ hsl).mono ?_; rintro e w' ⟨rfl, rfl⟩; rw [HSE.out]))
              go_roundg (n - (k + 1))
              case rel => exact ⟨rfl, k + 1, b, m, by omega, rfl, rfl, rfl, by go_num, Lib.hid (by rw [inner_no1 HSE.out, HI.out]), by omega, by omega⟩
              case measure => omega
        · obtain rfl : n = k := by omega
          have g3 := HF3.out
          have g4 := HF4.out
          have HI2 := HI.out
          have hf2 := HF2.out
          rw [hf2, HI2] at g3 g4
          simp only [] at g3 g4
          obtain ⟨bn, rfl⟩ := Int.eq_ofNat_of_zero_le g3
          have hnext : starL n (j + 1) = starL n j ++ [(bn : Int)] := by rw [HNX0.out, hf2, HI2]
          have HO2 := Lib.hid HO.out.ints
          have HNX := Lib.hid hnext
          clear hnext HI2 HI HF2 HF3 HF4 hf2
          rw [HLn.out] at HO2
          go_wp2_with (at_builtin; refine wpList_append_own _ rfl _ _ 22 rfl w.heap.size 2 i0 (.int .i64 0) 1 8 Try.underlying22 hi hz0 hz1 hz2 rfl (by decide) _ _ _ rfl (HO2.out.alloc _) ⟨wo.heap.size, 0, none⟩ 1 1 [.int .i64 bn] rfl rfl ?d1 ?d2 ?d3 ?d4 ?d5 ?_)
          case d1 => exact news_new (by simp)
          case d2 => intro u hu; simp at hu; subst hu; rfl
          case d3 => unfold maxLen; omega
          case d4 => omega
          case d5 => simp; omega
          intro v2 w2 hown2 hgrow2 _
          have hs2 : w.heap.size < w2.heap.size := by have := hgrow2.size; simp at this; omega
          have hb2 : Below w.heap.size w w2 := (HB.out.alloc (by omega) _).grown hgrow2 (by simp; omega) (by intro k hk; simp [Value.ownBlock] at hk; omega)
          have hlen2 : (starL n (j + 1)).length = j + 1 + 1 := starL_len n (j + 1)
          have hownF : Own eI w2 w.heap.size 2 v2 (starL n (j + 1)) := by
            rw [HNX.out]
            refine own_of_ints (n := j + 1 + 1) ?_ (by rw [← HNX.out]; exact hlen2)
            rw [List.map_append]
            exact hown2
          have HF := Lib.hid hownF
          have HJ := Lib.hid hb2
          clear hownF hb2 hown2 hgrow2 HO2 HO HB hlen2
          go_wp2
          go_roundg (gk - 1)
          case measure => omega
          case rel => exact ⟨j + 1, by omega, by omega, HF.out, HJ, hs2⟩
    · go_wp2
      go_ret
      obtain rfl : j = n - 1 := by omega
      have h := HO.out
      rw [starL_len] at h
      exact ⟨_, rfl, h, HB.out⟩
end Go.Proofs.Ytijmafppdbllfaa
