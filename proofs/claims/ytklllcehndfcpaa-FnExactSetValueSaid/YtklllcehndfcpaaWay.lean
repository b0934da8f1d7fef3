/- Contracts of WayToFirst (chapter 29). No statement of the seat is proved here. -/
import Derived.Test.YtklllcehndfcpaaValue
import Derived.Test.YtklllcehndfcpaaOwn
namespace Go.Proofs.Ytklllcehndfcpaa
open Go.RowKit

theorem versB_n {vs : List Ver} (h : versB vs = true) : 1 ≤ vs.length ∧ vs.length ≤ 20 := by
  unfold versB at h
  rw [Bool.and_eq_true] at h
  have := inR_iff.1 h.1
  omega
theorem versB_ok {vs : List Ver} (h : versB vs = true) {k : Nat} (hk : k < vs.length) : verOk vs k = true := by
  unfold versB at h
  rw [Bool.and_eq_true] at h
  exact List.all_eq_true.1 h.2 k (List.mem_range.2 hk)
theorem versB_par {vs : List Ver} (h : versB vs = true) {k : Nat} (hk : k < vs.length) : -1 ≤ vs[k].parent ∧ vs[k].parent < k ∧ (0 < k → 0 ≤ vs[k].parent) ∧ (k = 0 → vs[k].parent = -1) := by
  have h1 := versB_ok h hk
  rw [verOk_at hk, Bool.and_eq_true] at h1
  by_cases h0 : k = 0
  · have h2 := h1.2
    rw [if_pos h0, beq_iff_eq] at h2
    omega
  · have h2 := h1.2
    rw [if_neg h0, inR_iff] at h2
    omega
theorem versB_sheet {vs : List Ver} (h : versB vs = true) {k : Nat} (hk : k < vs.length) : sheetB vs[k].lines = true := by
  have h1 := versB_ok h hk
  rw [verOk_at hk, Bool.and_eq_true] at h1
  exact h1.1
def wayG (vs : List Ver) : Nat → Int → List Int
  | 0, _ => []
  | f + 1, v => if v < 0 then [] else v :: wayG vs f (vs.getD v.toNat zVer).parent
theorem wayG_fuel {vs : List Ver} (h : versB vs = true) : ∀ (f f' : Nat) (c : Int), c < f → c < f' → c < vs.length → wayG vs f c = wayG vs f' c
  | 0, 0, _, _, _, _ => rfl
  | 0, f' + 1, c, h1, _, _ => by unfold wayG; rw [if_pos (by omega)]
  | f + 1, 0, c, _, h2, _ => by unfold wayG; rw [if_pos (by omega)]
  | f + 1, f' + 1, c, h1, h2, h3 => by
    unfold wayG
    by_cases h0 : c < 0
    · rw [if_pos h0, if_pos h0]
    · rw [if_neg h0, if_neg h0]
      have hk : c.toNat < vs.length := by omega
      have hp := versB_par h hk
      rw [getD_at _ _ _ hk, wayG_fuel h f f' _ (by omega) (by omega) (by omega)]
def wayF (vs : List Ver) (c : Int) : List Int := wayG vs (c + 1).toNat c
theorem wayF_neg (vs : List Ver) {c : Int} (h : c < 0) : wayF vs c = [] := by
  unfold wayF
  rw [show (c + 1).toNat = 0 by omega]
  rfl
theorem wayF_at {vs : List Ver} (h : versB vs = true) {k : Nat} (hk : k < vs.length) : wayF vs (k : Int) = (k : Int) :: wayF vs vs[k].parent := by
  have hp := versB_par h hk
  have e : ((k : Int) + 1).toNat = k + 1 := by omega
  unfold wayF
  rw [e]
  rw [show wayG vs (k + 1) (k : Int) = (k : Int) :: wayG vs k (vs.getD (k : Int).toNat zVer).parent by rw [wayG, if_neg (by omega)]]
  rw [Int.toNat_natCast, getD_at _ _ _ hk, wayG_fuel h k (vs[k].parent + 1).toNat _ (by omega) (by omega) (by omega)]
theorem wayF_len {vs : List Ver} (h : versB vs = true) : ∀ (n : Nat) (c : Int), c < n → c < vs.length → (wayF vs c).length ≤ n
  | n, c, h1, h2 => by
    by_cases h0 : c < 0
    · rw [wayF_neg vs h0]; simp
    · obtain ⟨k, rfl⟩ := Int.eq_ofNat_of_zero_le (show 0 ≤ c by omega)
      have hk : k < vs.length := by omega
      have hp := versB_par h hk
      rw [wayF_at h hk, List.length_cons]
      match n, h1 with
      | n + 1, h1 =>
        have := wayF_len h n vs[k].parent (by omega) (by omega)
        omega
theorem way_step {vs : List Ver} (h : versB vs = true) {k : Nat} (hk : k < vs.length) {xs W : List Int} (e : xs ++ wayF vs (k : Int) = W) : (xs ++ [(k : Int)]) ++ wayF vs vs[k].parent = W := by
  rw [← e, wayF_at h hk]; simp
set_option maxHeartbeats 4000000 in
set_option maxRecDepth 10000 in
theorem iWay_any (v : Value) (vs : List Ver) (n : Int) (w : World) (hv : RdV w v vs) (hvs : versB vs = true) (hn : isVerF vs n = true) :
    Calls Try.prog 53 #[v, .int .i64 n] w fun e w' => ∃ u, e = .returned u ∧ Own eI w' w.heap.size 2 u (wayF vs n) ∧ Below w.heap.size w w' := by
  obtain ⟨n0, n1⟩ := isVerF_iff.1 hn
  obtain ⟨l1, l20⟩ := versB_n hvs
  obtain ⟨A, cap, rfl, _, hm, hc⟩ := hv.shape
  obtain ⟨b, off, rfl, hbl, hcell⟩ := hc (by omega)
  have HC := Lib.hid hcell
  have HV := Lib.hid hvs
  have HO0 : Hid (Own eI w w.heap.size 2 (.slice none 0 0) []) := Lib.hid (Own.nil_ _ _ _ _)
  have HB0 : Hid (Below w.heap.size w w) := Lib.hid (Below.refl _ _)
  clear hv hn hc hcell hvs
  go_enter Try.func53, Try.ntmps53
  go_wp2
  go_loopg [5, 1] (n + 1).toNat (fun gi u v wr => ∃ (c : Int) (xs : List Int), v = .int .i64 c ∧ gi = (c + 1).toNat ∧ -1 ≤ c ∧ c ≤ n ∧ Hid (xs ++ wayF vs c = wayF vs n) ∧ Hid (xs.length + (c + 1).toNat ≤ 20) ∧ Hid (Own eI wr w.heap.size 2 u xs) ∧ Hid (Below w.heap.size w wr) ∧ w.heap.size ≤ wr.heap.size)
  case atStart => exact ⟨n, [], rfl, rfl, by omega, by omega, Lib.hid rfl, Lib.hid (by simp; omega), HO0, HB0, Nat.le_refl _⟩
  case round =>
    obtain ⟨c, xs, rfl, rfl, hc1, hcn, HX, HL, HO, HB, hs⟩ := hrel
    clear HO0 HB0
    by_cases h0 : c < 0
    · have hng : ¬ (0 ≤ c) := by omega
      have hg : decide (0 ≤ c) = false := decide_eq_false hng
      have HR : Hid (Own eI wr w.heap.size 2 u5 (wayF vs n)) := Lib.hid (by have h := HX.out; rw [wayF_neg vs h0, List.append_nil] at h; rw [← h]; exact HO.out)
      clear h0
      go_wp2
      go_ret
      exact ⟨_, rfl, HR.out, HB.out⟩
    · obtain ⟨k, rfl⟩ := Int.eq_ofNat_of_zero_le (show 0 ≤ c by omega)
      have hlt : k < vs.length := by omega
      obtain ⟨a, q, d0, _, _⟩ := HC.out k hlt
      have hp := versB_par HV.out hlt
      have HX2 := Lib.hid (way_step HV.out hlt HX.out)
      have HL2 := HL.out
      have hxl : xs.length ≤ 1000000000 := by omega
      have HPR := Lib.hid hp
      have hge : (0 : Int) ≤ (k : Int) := by omega
      have HD0 := Lib.hid d0
      clear h0 HX hp d0 HL2
      generalize vs[k].parent = p at *
      go_wp2_with (at_builtin; refine wpList_app eI rfl _ _ 34 (by rfl) 2 (.int .i64 0) 8 Try.underlying34 info_i64 rfl (by decide) (by decide) w.heap.size _ xs (by rfl) (by exact HO.out) (by exact hxl) (by exact hs) (k : Int) _ (by rfl) _ (by rfl) (by rfl) ?_)
      intro v' w' hown' hbw' hg' hor' hs'
      have hbk : Below w.heap.size w w' := HB.out.trans hbw'
      have d0 := (hbk.cell (p := ⟨b, off + k * 2, none⟩) hbl).trans HD0.out
      have hsN : w.heap.size ≤ w'.heap.size := Nat.le_trans hs (Nat.le_of_lt hs')
      have HO2 := Lib.hid hown'
      have HBK := Lib.hid hbk
      clear hbk hown' hbw' hg' hor' hs' HO HB
      go_wp2
      go_roundg (p + 1).toNat
      case measure => have := HPR.out; omega
      case rel => exact ⟨p, xs ++ [(k : Int)], rfl, rfl, by have := HPR.out; omega, by have := HPR.out; omega, HX2, Lib.hid (by have := HPR.out; have := HL.out; simp; omega), HO2, HBK, hsN⟩
set_option maxHeartbeats 4000000 in
set_option maxRecDepth 10000 in
theorem sWay_any (v : Value) (vs : List Ver) (n : Int) (w : World) (hv : RdV w v vs) (hvs : versB vs = true) (hn : isVerF vs n = true) :
    Calls Try.prog 52 #[v, .int .i64 n] w fun e w' => ∃ u, e = .returned u ∧ Own eI w' w.heap.size 2 u (wayF vs n) ∧ Below w.heap.size w w' := by
  obtain ⟨n0, n1⟩ := isVerF_iff.1 hn
  obtain ⟨l1, l20⟩ := versB_n hvs
  obtain ⟨A, cap, rfl, _, hm, hc⟩ := hv.shape
  obtain ⟨b, off, rfl, hbl, hcell⟩ := hc (by omega)
  have HC := Lib.hid hcell
  have HV := Lib.hid hvs
  have HO0 : Hid (Own eI (w.alloc (.cells #[] 2)) w.heap.size 2 (.slice (some ⟨w.heap.size, 0, none⟩) 0 0) []) := Lib.hid (Own.empty _ _ _ _ (Nat.le_refl _))
  have HB0 : Hid (Below w.heap.size w (w.alloc (.cells #[] 2))) := Lib.hid ((Below.refl _ _).alloc (Nat.le_refl _) _)
  have hs0 : w.heap.size ≤ (w.alloc (.cells #[] 2)).heap.size := by simp
  have HS0 := Lib.hid hs0
  clear hv hn hc hcell hvs hs0
  go_enter Try.func52, Try.ntmps52
  go_wp2
  go_loopg [5, 1] (n + 1).toNat (fun gi u v wr => ∃ (c : Int) (xs : List Int), v = .int .i64 c ∧ gi = (c + 1).toNat ∧ -1 ≤ c ∧ c ≤ n ∧ Hid (xs ++ wayF vs c = wayF vs n) ∧ Hid (xs.length + (c + 1).toNat ≤ 20) ∧ Hid (Own eI wr w.heap.size 2 u xs) ∧ Hid (Below w.heap.size w wr) ∧ w.heap.size ≤ wr.heap.size)
  case atStart => exact ⟨n, [], rfl, rfl, by omega, by omega, Lib.hid rfl, Lib.hid (by simp; omega), HO0, HB0, HS0.out⟩
  case round =>
    obtain ⟨c, xs, rfl, rfl, hc1, hcn, HX, HL, HO, HB, hs⟩ := hrel
    clear HO0 HB0 HS0
    by_cases h0 : c < 0
    · have hng : ¬ (0 ≤ c) := by omega
      have hg : decide (0 ≤ c) = false := decide_eq_false hng
      have HR : Hid (Own eI wr w.heap.size 2 u5 (wayF vs n)) := Lib.hid (by have h := HX.out; rw [wayF_neg vs h0, List.append_nil] at h; rw [← h]; exact HO.out)
      clear h0
      go_wp2
      go_ret
      exact ⟨_, rfl, HR.out, HB.out⟩
    · obtain ⟨k, rfl⟩ := Int.eq_ofNat_of_zero_le (show 0 ≤ c by omega)
      have hlt : k < vs.length := by omega
      obtain ⟨a, q, d0, _, _⟩ := HC.out k hlt
      have hp := versB_par HV.out hlt
      have HX2 := Lib.hid (way_step HV.out hlt HX.out)
      have HL2 := HL.out
      have hxl : xs.length ≤ 1000000000 := by omega
      have HPR := Lib.hid hp
      have hge : (0 : Int) ≤ (k : Int) := by omega
      have HD0 := Lib.hid d0
      clear h0 HX hp d0 HL2
      generalize vs[k].parent = p at *
      go_wp2_with (at_builtin; refine wpList_app eI rfl _ _ 34 (by rfl) 2 (.int .i64 0) 8 Try.underlying34 info_i64 rfl (by decide) (by decide) w.heap.size _ xs (by rfl) (by exact HO.out) (by exact hxl) (by exact hs) (k : Int) _ (by rfl) _ (by rfl) (by rfl) ?_)
      intro v' w' hown' hbw' hg' hor' hs'
      have hbk : Below w.heap.size w w' := HB.out.trans hbw'
      have d0 := (hbk.cell (p := ⟨b, off + k * 2, none⟩) hbl).trans HD0.out
      have hsN : w.heap.size ≤ w'.heap.size := Nat.le_trans hs (Nat.le_of_lt hs')
      have HO2 := Lib.hid hown'
      have HBK := Lib.hid hbk
      clear hbk hown' hbw' hg' hor' hs' HO HB
      go_wp2
      go_roundg (p + 1).toNat
      case measure => have := HPR.out; omega
      case rel => exact ⟨p, xs ++ [(k : Int)], rfl, rfl, by have := HPR.out; omega, by have := HPR.out; omega, HX2, Lib.hid (by have := HPR.out; have := HL.out; simp; omega), HO2, HBK, hsN⟩
end Go.Proofs.Ytklllcehndfcpaa
