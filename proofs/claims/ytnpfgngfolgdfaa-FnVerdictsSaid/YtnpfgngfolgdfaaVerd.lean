/- Contracts of verdictsOf, of l28Granted and of l28Verdicts (chapter 28). No statement of the seat is proved here. -/
import Derived.Test.YtnpfgngfolgdfaaLastDay
import Derived.Test.YtnpfgngfolgdfaaBox
import Derived.Test.YtnpfgngfolgdfaaOwn
namespace Go.Proofs.Ytnpfgngfolgdfaa
open Go.RowKit

theorem areClaims_at {xs : List Claim} (h : areClaims xs = true) : xs.length ≤ 20 ∧ ∀ (k : Nat) (hk : k < xs.length), isWord xs[k].part = true ∧ 0 ≤ xs[k].sold ∧ xs[k].sold ≤ xs[k].day ∧ xs[k].day ≤ 100000 ∧ 0 ≤ xs[k].tens ∧ xs[k].tens ≤ 100000000 := by
  unfold areClaims at h
  rw [Bool.and_eq_true, decide_eq_true_eq, List.all_eq_true] at h
  refine ⟨h.1, fun k hk => ?_⟩
  have h2 := h.2 k (List.mem_range.2 hk)
  unfold claimOk at h2
  rw [getD_at _ _ _ hk] at h2
  simp only [Bool.and_eq_true, inR_iff, decide_eq_true_eq] at h2
  exact ⟨h2.1.1.1.1.1, h2.1.1.1.1.2.1, h2.1.1.2, h2.1.1.1.2.2, h2.1.2.1, h2.1.2.2⟩

/-! ### the plain law -/
/-- the verdict about one claim, 'g' claims for its part being granted already -/
def verd1 (T : List Term) (c : Claim) (g : Int) : Int :=
  if firstAt (isPart c.part) T < 0 then 1
  else if (T.getD (firstAt (isPart c.part) T).toNat zTerm).days < c.day - c.sold then 2
  else if (T.getD (firstAt (isPart c.part) T).toNat zTerm).tens < c.tens then 3
  else if (T.getD (firstAt (isPart c.part) T).toNat zTerm).claims ≤ g then 4 else 0
/-- how many of the first k claims are granted for a part -/
def cntG (T : List Term) (C : List Claim) : Nat → ByteArray → Int
  | 0 => fun _ => 0
  | k + 1 => fun s => if ((C.getD k zClaim).part.toList == s.toList) && (verd1 T (C.getD k zClaim) (cntG T C k (C.getD k zClaim).part) == 0) then cntG T C k s + 1 else cntG T C k s
def vAt (T : List Term) (C : List Claim) (k : Nat) : Int := verd1 T (C.getD k zClaim) (cntG T C k (C.getD k zClaim).part)
def verdL (T : List Term) (C : List Claim) (k : Nat) : List Int := (List.range k).map (vAt T C)
def grL (T : List Term) (C : List Claim) (k : Nat) : List Int := T.map fun t => cntG T C k t.part
theorem verdL_len (T : List Term) (C : List Claim) (k : Nat) : (verdL T C k).length = k := by simp [verdL]
theorem grL_len (T : List Term) (C : List Claim) (k : Nat) : (grL T C k).length = T.length := by simp [grL]
theorem verdL_succ {T : List Term} {C : List Claim} {k : Nat} {x : Int} (h : vAt T C k = x) : verdL T C (k + 1) = verdL T C k ++ [x] := by
  unfold verdL; rw [List.range_succ, List.map_append, ← h]; rfl
theorem verdL_at {T : List Term} {C : List Claim} {k i : Nat} (h : i < k) : (verdL T C k).getD i 0 = vAt T C i := by simp [verdL, h]
theorem cntG_bd (T : List Term) (C : List Claim) : ∀ k s, 0 ≤ cntG T C k s ∧ cntG T C k s ≤ k
  | 0, s => by simp [cntG]
  | k + 1, s => by
    have ih := cntG_bd T C k s
    rw [cntG]
    simp only []
    split <;> omega
theorem cntG_no {T : List Term} {C : List Claim} {k : Nat} {s : ByteArray} (h : vAt T C k ≠ 0) : cntG T C (k + 1) s = cntG T C k s := by
  unfold vAt at h
  rw [cntG]
  simp only []
  rw [if_neg]
  intro e
  rw [Bool.and_eq_true, beq_iff_eq, beq_iff_eq] at e
  exact h e.2
theorem cntG_yes {T : List Term} {C : List Claim} {k : Nat} {s : ByteArray} (h : vAt T C k = 0) : cntG T C (k + 1) s = if ((C.getD k zClaim).part.toList == s.toList) then cntG T C k s + 1 else cntG T C k s := by
  unfold vAt at h
  rw [cntG]
  simp only []
  rw [h]
  simp
theorem grL_no {T : List Term} {C : List Claim} {k : Nat} (h : vAt T C k ≠ 0) : grL T C (k + 1) = grL T C k := by
  unfold grL
  exact List.map_congr_left fun t _ => cntG_no h
theorem grL_zero (T : List Term) (C : List Claim) : grL T C 0 = List.replicate T.length 0 := by
  unfold grL
  rw [List.eq_replicate_iff]
  exact ⟨by simp, fun b hb => by simp [cntG] at hb; exact hb.2.symm⟩
theorem isPart_iff {s : ByteArray} {x : Term} : isPart s x = true ↔ x.part.toList = s.toList := by unfold isPart; exact beq_iff_eq
theorem cntG_congr (T : List Term) (C : List Claim) {s t : ByteArray} (h : s.toList = t.toList) : ∀ k, cntG T C k s = cntG T C k t
  | 0 => rfl
  | k + 1 => by rw [cntG]; simp only []; rw [h, cntG_congr T C h k]
theorem part_ne {T : List Term} (ha : areTerms T = true) {s : ByteArray} {j : Nat} (hj : j < T.length) (h1 : isPart s T[j] = true) (h2 : (T.take j).any (isPart s) = false) {i : Nat} (hi : i < T.length) (hne : i ≠ j) : isPart s T[i] = false := by
  rcases Nat.lt_or_ge i j with h | h
  · rw [List.any_eq_false] at h2
    have := h2 T[i] (by rw [List.mem_take_iff_getElem]; exact ⟨i, by omega, rfl⟩)
    simpa using this
  · obtain ⟨_, _, _, _, _, _, _, _, h3⟩ := areTerms_at ha i hi
    rw [List.any_eq_false] at h3
    have h4 := h3 T[j] (by rw [List.mem_take_iff_getElem]; exact ⟨j, by omega, rfl⟩)
    rcases h5 : isPart s T[i]
    · rfl
    · exfalso
      apply h4
      rw [isPart_iff] at *
      rw [h1, h5]
theorem grL_yes {T : List Term} {C : List Claim} {k : Nat} (ha : areTerms T = true) (h : vAt T C k = 0) {j : Nat} (hj : j < T.length) (h1 : isPart (C.getD k zClaim).part T[j] = true) (h2 : (T.take j).any (isPart (C.getD k zClaim).part) = false) :
    grL T C (k + 1) = (grL T C k).set j (cntG T C k T[j].part + 1) := by
  apply List.ext_getElem
  · simp [grL]
  intro i hi1 hi2
  have hi : i < T.length := by simpa [grL] using hi1
  rw [List.getElem_set]
  simp only [grL, List.getElem_map]
  rw [cntG_yes h]
  by_cases hij : j = i
  · subst hij
    rw [if_pos rfl]
    rw [isPart_iff] at h1
    rw [if_pos (by rw [h1]; exact beq_self_eq_true _)]
  · rw [if_neg hij]
    have := part_ne ha hj h1 h2 hi (fun e => hij e.symm)
    rw [if_neg]
    intro e
    rw [beq_iff_eq] at e
    unfold isPart at this
    rw [e] at this
    simp at this
theorem grL_at {T : List Term} {C : List Claim} {k j : Nat} (hj : j < T.length) : (grL T C k).getD j 0 = cntG T C k T[j].part := by simp [grL, hj]
theorem vAt_none {T : List Term} {C : List Claim} {k : Nat} (h : firstAt (isPart (C.getD k zClaim).part) T < 0) : vAt T C k = 1 := by unfold vAt verd1; rw [if_pos h]
section
variable {T : List Term} {C : List Claim} {k j : Nat} (hj : j < T.length) (h : firstAt (isPart (C.getD k zClaim).part) T = (j : Int))
include hj h
theorem vAt_late (h1 : T[j].days < (C.getD k zClaim).day - (C.getD k zClaim).sold) : vAt T C k = 2 := by
  unfold vAt verd1; rw [h, if_neg (by omega), Int.toNat_natCast, getD_at _ _ _ hj, if_pos h1]
theorem vAt_worn (h1 : ¬ T[j].days < (C.getD k zClaim).day - (C.getD k zClaim).sold) (h2 : T[j].tens < (C.getD k zClaim).tens) : vAt T C k = 3 := by
  unfold vAt verd1; rw [h, if_neg (by omega), Int.toNat_natCast, getD_at _ _ _ hj, if_neg h1, if_pos h2]
theorem vAt_used (h1 : ¬ T[j].days < (C.getD k zClaim).day - (C.getD k zClaim).sold) (h2 : ¬ T[j].tens < (C.getD k zClaim).tens) (h3 : T[j].claims ≤ cntG T C k (C.getD k zClaim).part) : vAt T C k = 4 := by
  unfold vAt verd1; rw [h, if_neg (by omega), Int.toNat_natCast, getD_at _ _ _ hj, if_neg h1, if_neg h2, if_pos h3]
theorem vAt_granted (h1 : ¬ T[j].days < (C.getD k zClaim).day - (C.getD k zClaim).sold) (h2 : ¬ T[j].tens < (C.getD k zClaim).tens) (h3 : ¬ T[j].claims ≤ cntG T C k (C.getD k zClaim).part) : vAt T C k = 0 := by
  unfold vAt verd1; rw [h, if_neg (by omega), Int.toNat_natCast, getD_at _ _ _ hj, if_neg h1, if_neg h2, if_neg h3]
end
theorem vAt_bd (T : List Term) (C : List Claim) (k : Nat) : 0 ≤ vAt T C k ∧ vAt T C k ≤ 4 := by
  unfold vAt verd1
  repeat' split
  all_goals omega
/-- the count of the reference -/
def grantAt (C : List Claim) (vs : List Int) (s : ByteArray) (i : Nat) : Bool := ((C.getD i zClaim).part.toList == s.toList) && (vs.getD i 0 == 0)
def grantN (C : List Claim) (vs : List Int) (s : ByteArray) : Nat → Int
  | 0 => 0
  | k + 1 => if grantAt C vs s k then grantN C vs s k + 1 else grantN C vs s k
theorem grantN_bd (C : List Claim) (vs : List Int) (s : ByteArray) : ∀ k, 0 ≤ grantN C vs s k ∧ grantN C vs s k ≤ k
  | 0 => by simp [grantN]
  | k + 1 => by
    have ih := grantN_bd C vs s k
    rw [grantN]
    split <;> omega
theorem grantN_yes {C : List Claim} {vs : List Int} {s : ByteArray} {k : Nat} (h : grantAt C vs s k = true) : grantN C vs s (k + 1) = grantN C vs s k + 1 := by rw [grantN, if_pos h]
theorem grantN_no {C : List Claim} {vs : List Int} {s : ByteArray} {k : Nat} (h : grantAt C vs s k = false) : grantN C vs s (k + 1) = grantN C vs s k := by rw [grantN, if_neg (by rw [h]; simp)]
theorem grantN_cnt (T : List Term) (C : List Claim) (s : ByteArray) (k : Nat) : ∀ j, j ≤ k → grantN C (verdL T C k) s j = cntG T C j s
  | 0, _ => rfl
  | j + 1, h => by
    have ih := grantN_cnt T C s k j (by omega)
    rw [grantN, cntG, ih]
    unfold grantAt
    rw [verdL_at (by omega)]
    rfl
set_option maxHeartbeats 1000000 in
theorem l28Granted_any (v : Value) (C : List Claim) (u : Value) (vs : List Int) (s : ByteArray) (w : World) (hv : Sl eClaim w v C) (hu : Ints w u vs) (hl : vs.length ≤ C.length) :
    Calls Try.prog 72 #[v, u, .string s] w fun e w' => e = .returned (.int .i64 (grantN C vs s vs.length)) ∧ w = w' := by
  obtain ⟨A, cap, rfl, _, hm, hc⟩ := hv.shape
  obtain ⟨A2, cap2, rfl, _, hm2, hc2⟩ := Ints.shape hu
  go_enter Try.func72, Try.ntmps72
  go_wp2
  go_loop [8, 7] (fun i q => ∃ (k : Nat) (n : Int), k ≤ vs.length ∧ i = .int .i64 k ∧ q = .int .i64 n ∧ 0 ≤ n ∧ n ≤ k ∧ Hid (grantN C vs s k = n)) (fun i _ => vs.length - (intOf i).toNat)
  case atStart => exact ⟨0, 0, Nat.zero_le _, rfl, rfl, by omega, by omega, Lib.hid rfl⟩
  case round =>
    obtain ⟨k, n, hk, rfl, rfl, n0, n1, HN⟩ := hrel
    by_cases hlt : k < vs.length
    · obtain ⟨b, off, rfl, hbl, hcell⟩ := hc (by omega)
      obtain ⟨b2, off2, rfl, hbl2, hcell2⟩ := hc2 (by omega)
      have hltC : k < C.length := by omega
      have hb := Below.refl w.heap.size w
      have c0 : w.cell? ⟨b, off + k * 4, none⟩ = some (.string C[k].part) := (hb.cell (p := ⟨b, off + k * 4, none⟩) hbl).trans (by simpa [eClaim, Nat.add_assoc] using hcell k hltC 0 _ (by decide) rfl)
      have c1 : w.cell? ⟨b, off + k * 4 + 1, none⟩ = some (.int .i64 C[k].sold) := (hb.cell (p := ⟨b, off + k * 4 + 1, none⟩) hbl).trans (by simpa [eClaim, Nat.add_assoc] using hcell k hltC 1 _ (by decide) rfl)
      have c2 : w.cell? ⟨b, off + k * 4 + 2, none⟩ = some (.int .i64 C[k].day) := (hb.cell (p := ⟨b, off + k * 4 + 2, none⟩) hbl).trans (by simpa [eClaim, Nat.add_assoc] using hcell k hltC 2 _ (by decide) rfl)
      have c3 : w.cell? ⟨b, off + k * 4 + 3, none⟩ = some (.int .i64 C[k].tens) := (hb.cell (p := ⟨b, off + k * 4 + 3, none⟩) hbl).trans (by simpa [eClaim, Nat.add_assoc] using hcell k hltC 3 _ (by decide) rfl)
      have e0 := hcell2 k hlt
      have HD : Hid (grantAt C vs s k = ((C[k].part.toList == s.toList) && (vs[k] == 0))) := Lib.hid (by unfold grantAt; rw [getD_at _ _ _ hltC, getD_at _ _ _ hlt])
      clear hc hcell hc2 hcell2 hb
      generalize vs[k] = vk at *
      rcases g : (C[k].part.toList == s.toList)
      · have HG : Hid (grantAt C vs s k = false) := Lib.hid (by rw [HD.out, g]; rfl)
        go_wp2
        go_round
        case rel => exact ⟨k + 1, _, by omega, by go_num, rfl, n0, by omega, Lib.hid ((grantN_no HG.out).trans HN.out)⟩
        case measure => simp [intOf]; omega
      · rcases g2 : (vk == 0)
        · have HG : Hid (grantAt C vs s k = false) := Lib.hid (by rw [HD.out, g, g2]; rfl)
          go_wp2
          go_round
          case rel => exact ⟨k + 1, _, by omega, by go_num, rfl, n0, by omega, Lib.hid ((grantN_no HG.out).trans HN.out)⟩
          case measure => simp [intOf]; omega
        · have HG : Hid (grantAt C vs s k = true) := Lib.hid (by rw [HD.out, g, g2]; rfl)
          go_wp2
          go_round
          case rel => exact ⟨k + 1, n + 1, by omega, by go_num, by go_num, by omega, by omega, Lib.hid (by rw [grantN_yes HG.out, HN.out])⟩
          case measure => simp [intOf]; omega
    · obtain rfl : k = vs.length := by omega
      go_wp2
      go_ret
      exact ⟨ret_int HN.out.symm, rfl⟩

end Go.Proofs.Ytnpfgngfolgdfaa
