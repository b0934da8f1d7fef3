/- Contracts of the functions that overwrite a list of Rule by marks and look whether they stand. No statement of the seat is proved here. -/
import Derived.Test.YtncggcbpbejmcaaSRule
import Derived.Test.YtncggcbpbejmcaaMarks
namespace Go.Proofs.Ytncggcbpbejmcaa
open Go.RowKit

def mkRule (r : Nat) : Rule := ⟨((r : Int)), ((r : Int) + 1), ((r : Int) + 1 + 1)⟩
def mfRule (m : Int) (i : Nat) : Rule := mkRule (m.toNat + 3 * i)
def mkRuleS (xs : List Rule) (m : Int) : List Rule := (List.range xs.length).map (mfRule m)
def cntRuleS (xs : List Rule) : Nat := 3 * xs.length
theorem mkRuleS_len (xs : List Rule) (m : Int) : (mkRuleS xs m).length = xs.length := mkA_len _ _
theorem cntRuleS_le (xs : List Rule) (h : xs.length ≤ 1048576) : cntRuleS xs ≤ 10000000 := by unfold cntRuleS; omega
theorem mfRule_eq {m : Int} {k r : Nat} (h : (r : Int) = m + 3 * k) (h1 : 1 ≤ m) : mfRule m k = ⟨((r : Int)), ((r : Int) + 1), ((r : Int) + 1 + 1)⟩ := by
  unfold mfRule
  have e : m.toNat + 3 * k = r := by omega
  rw [e]; rfl
set_option maxHeartbeats 1000000 in
set_option maxRecDepth 10000 in
theorem markRuleS_law (v : Value) (xs : List Rule) (m : Int) (base : Nat) (w : World) (hv : Own eRule w base 78 v xs) (hn : xs.length ≤ 1048576) (hm0 : 1 ≤ m) (hm1 : m ≤ 1000000000000) :
    Calls Try.prog 29 #[v, .int .i64 m] w fun e w' => e = .returned (.int .i64 (m + (cntRuleS xs : Nat))) ∧ Own eRule w' base 78 v (mkRuleS xs m) ∧ w.grownBy w' v.ownBlock := by
  by_cases hz : xs.length = 0
  · have hx : xs = [] := List.eq_nil_of_length_eq_zero hz
    subst hx
    obtain ⟨A, cap, rfl, _, _, _⟩ := Sl.shape (Sl.of_own hv (by simp [big40]))
    have HV := Lib.hid hv
    clear hv hz
    go_enter Try.func29, Try.ntmps29
    go_wp2
    refine wp_loop_rounds 1 ?_
    rw [rounds_succ]
    go_wp2
    go_ret
    exact ⟨ret_int (by simp [cntRuleS]), HV.out, World.grownBy.refl _ _⟩
  · obtain ⟨g, cap, rfl, hbg, hgl⟩ := World.ownsRow.form hv (by omega)
    have hv0 : Own eRule w base 78 (.slice (some ⟨g, 0, none⟩) xs.length cap) (mkd (mfRule m) xs 0) := by rw [mkd_zero]; exact hv
    have hg0 : w.grownBy w (some g) := World.grownBy.refl _ _
    obtain ⟨mn, rfl⟩ : ∃ mn : Nat, m = (mn : Int) := ⟨m.toNat, by omega⟩
    clear hv hz
    go_enter Try.func29, Try.ntmps29
    go_wp2
    go_loopg [5, 1] xs.length (fun gi i q wr => ∃ (k r : Nat), k ≤ xs.length ∧ gi = xs.length - k ∧ i = .int .i64 k ∧ q = .int .i64 r ∧ Hid ((r : Int) = (mn : Int) + 3 * k) ∧ Own eRule wr base 78 (.slice (some ⟨g, 0, none⟩) xs.length cap) (mkd (mfRule mn) xs k) ∧ w.grownBy wr (some g))
    case atStart => exact ⟨0, mn, Nat.zero_le _, rfl, rfl, rfl, Lib.hid (by omega), hv0, hg0⟩
    case round =>
      obtain ⟨k, r, hk, rfl, rfl, rfl, HR, hown, hg⟩ := hrel
      clear hv0 hg0
      have hr := HR.out
      have hr0 : 0 < r := by omega
      have hr1 : r ≤ 10000000000 * 1000 := by omega
      clear hr
      by_cases hlt : k < xs.length
      · have hkn : k < (mkd (mfRule mn) xs k).length := by rw [mkd_len _ _ _ hk]; exact hlt
        have HX := Lib.hid (mfRule_eq HR.out hm0)
        obtain ⟨o0, hd0⟩ : ∃ u, wr.cell? ⟨g, k * 3, none⟩ = some u := Own.old hown k hkn 0 (by decide)
        have hf0 : wr.frozen? ⟨g, k * 3, none⟩ = false := Own.free hown (k * 3 + 0)
        obtain ⟨o1, hd1⟩ : ∃ u, wr.cell? ⟨g, k * 3 + 1, none⟩ = some u := Own.old hown k hkn 1 (by decide)
        have hf1 : wr.frozen? ⟨g, k * 3 + 1, none⟩ = false := Own.free hown (k * 3 + 1)
        obtain ⟨o2, hd2⟩ : ∃ u, wr.cell? ⟨g, k * 3 + 2, none⟩ = some u := Own.old hown k hkn 2 (by decide)
        have hf2 : wr.frozen? ⟨g, k * 3 + 2, none⟩ = false := Own.free hown (k * 3 + 2)
        have HO := Lib.hid (hown.store k hkn (mfRule mn k))
        have HG := Lib.hid hg
        have HS := Lib.hid (mkd_succ (mfRule mn) xs k hlt)
        clear hown hg
        go_wp2
        go_roundg (xs.length - (k + 1))
        case measure => omega
        case rel =>
          have hO := HO.out
          have hX := HX.out
          rw [HS.out] at hO
          rw [hX] at hO
          exact ⟨k + 1, r + 3, by omega, rfl, by go_num, by go_num, Lib.hid (by have := HR.out; omega), hO.1, grown_step HG.out hO.2⟩
      · obtain rfl : k = xs.length := by omega
        have HO := Lib.hid hown
        have HG := Lib.hid hg
        clear hown hg
        go_wp2
        go_ret
        refine ⟨ret_int (by have := HR.out; unfold cntRuleS; omega), ?_, HG.out⟩
        have h := HO.out
        rw [mkd_all] at h
        unfold Own at h ⊢
        rw [mkA_len] at h
        rw [mkRuleS_len]
        exact h
set_option maxHeartbeats 1000000 in
set_option maxRecDepth 10000 in
theorem heldRuleS_law (v : Value) (xs : List Rule) (m : Int) (w : World) (hv : Sl eRule w v (mkRuleS xs m)) (hn : xs.length ≤ 1048576) (hm0 : 1 ≤ m) (hm1 : m ≤ 1000000000000) :
    Calls Try.prog 30 #[v, .int .i64 m] w fun e w' => e = .returned (.int .i64 (m + (cntRuleS xs : Nat))) ∧ Below w.heap.size w w' := by
  obtain ⟨A, cap, e0, _, _, hc⟩ := hv.shape
  rw [mkRuleS_len] at e0
  subst e0
  obtain ⟨mn, rfl⟩ : ∃ mn : Nat, m = (mn : Int) := ⟨m.toNat, by omega⟩
  clear hv
  go_enter Try.func30, Try.ntmps30
  go_wp2
  go_loopg [5, 1] xs.length (fun gi i q wr => ∃ (k r : Nat), k ≤ xs.length ∧ gi = xs.length - k ∧ i = .int .i64 k ∧ q = .int .i64 r ∧ Hid ((r : Int) = (mn : Int) + 3 * k) ∧ Below w.heap.size w wr ∧ w.heap.size ≤ wr.heap.size)
  case atStart => exact ⟨0, mn, Nat.zero_le _, rfl, rfl, rfl, Lib.hid (by omega), Below.refl _ _, Nat.le_refl _⟩
  case round =>
    obtain ⟨k, r, hk, rfl, rfl, rfl, HR, hb, hs⟩ := hrel
    have hr := HR.out
    have hr0 : 0 < r := by omega
    have hr1 : r ≤ 10000000000 * 1000 := by omega
    clear hr
    by_cases hlt : k < xs.length
    · have hlt2 : k < (mkRuleS xs mn).length := by rw [mkRuleS_len]; exact hlt
      obtain ⟨b, off, rfl, hbl, hcell⟩ := hc (by omega)
      have hat : (mkRuleS xs mn)[k] = ⟨((r : Int)), ((r : Int) + 1), ((r : Int) + 1 + 1)⟩ := (mkA_at _ _ k hlt2).trans (mfRule_eq HR.out hm0)
      have c0 : wr.cell? ⟨b, off + k * 3, none⟩ = some (.int .i64 ((r : Int))) := (hb.cell (p := ⟨b, off + k * 3, none⟩) hbl).trans (by have h := hcell k hlt2 0 _ (by decide) rfl; rw [hat] at h; simpa [eRule, Nat.add_assoc] using h)
      have c1 : wr.cell? ⟨b, off + k * 3 + 1, none⟩ = some (.int .i64 ((r : Int) + 1)) := (hb.cell (p := ⟨b, off + k * 3 + 1, none⟩) hbl).trans (by have h := hcell k hlt2 1 _ (by decide) rfl; rw [hat] at h; simpa [eRule, Nat.add_assoc] using h)
      have c2 : wr.cell? ⟨b, off + k * 3 + 2, none⟩ = some (.int .i64 ((r : Int) + 1 + 1)) := (hb.cell (p := ⟨b, off + k * 3 + 2, none⟩) hbl).trans (by have h := hcell k hlt2 2 _ (by decide) rfl; rw [hat] at h; simpa [eRule, Nat.add_assoc] using h)
      clear hc hcell hat hlt2
      have HB := Lib.hid hb
      clear hb
      go_wp2
      go_roundg (xs.length - (k + 1))
      case measure => omega
      case rel => exact ⟨k + 1, r + 3, by omega, rfl, by go_num, by go_num, Lib.hid (by have := HR.out; omega), HB.out, hs⟩
    · obtain rfl : k = xs.length := by omega
      have HB := Lib.hid hb
      clear hb
      go_wp2
      go_ret
      exact ⟨ret_int (by have := HR.out; unfold cntRuleS; omega), HB.out⟩
end Go.Proofs.Ytncggcbpbejmcaa
