/- Contracts of the functions that overwrite a list of Wrench by marks and look whether they stand. No statement of the seat is proved here. -/
import Derived.Test.YtijmafppdbllfaaSWrench
import Derived.Test.YtijmafppdbllfaaMarks
namespace Go.Proofs.Ytijmafppdbllfaa
open Go.RowKit

def mkWrench (r : Nat) : Wrench := ⟨((r : Int)), ((r : Int) + 1)⟩
def mfWrench (m : Int) (i : Nat) : Wrench := mkWrench (m.toNat + 2 * i)
def mkWrenchS (xs : List Wrench) (m : Int) : List Wrench := (List.range xs.length).map (mfWrench m)
def cntWrenchS (xs : List Wrench) : Nat := 2 * xs.length
theorem mkWrenchS_len (xs : List Wrench) (m : Int) : (mkWrenchS xs m).length = xs.length := mkA_len _ _
theorem cntWrenchS_le (xs : List Wrench) (h : xs.length ≤ 1048576) : cntWrenchS xs ≤ 10000000 := by unfold cntWrenchS; omega
theorem mfWrench_eq {m : Int} {k r : Nat} (h : (r : Int) = m + 2 * k) (h1 : 1 ≤ m) : mfWrench m k = ⟨((r : Int)), ((r : Int) + 1)⟩ := by
  unfold mfWrench
  have e : m.toNat + 2 * k = r := by omega
  rw [e]; rfl
set_option maxHeartbeats 1000000 in
set_option maxRecDepth 10000 in
theorem markWrenchS_law (v : Value) (xs : List Wrench) (m : Int) (base : Nat) (w : World) (hv : Own eWrench w base 59 v xs) (hn : xs.length ≤ 1048576) (hm0 : 1 ≤ m) (hm1 : m ≤ 1000000000000) :
    Calls Try.prog 43 #[v, .int .i64 m] w fun e w' => e = .returned (.int .i64 (m + (cntWrenchS xs : Nat))) ∧ Own eWrench w' base 59 v (mkWrenchS xs m) ∧ w.grownBy w' v.ownBlock := by
  by_cases hz : xs.length = 0
  · have hx : xs = [] := List.eq_nil_of_length_eq_zero hz
    subst hx
    obtain ⟨A, cap, rfl, _, _, _⟩ := Sl.shape (Sl.of_own hv (by simp [big40]))
    have HV := Lib.hid hv
    clear hv hz
    go_enter Try.func43, Try.ntmps43
    go_wp2
    refine wp_loop_rounds 1 ?_
    rw [rounds_succ]
    go_wp2
    go_ret
    exact ⟨ret_int (by simp [cntWrenchS]), HV.out, World.grownBy.refl _ _⟩
  · obtain ⟨g, cap, rfl, hbg, hgl⟩ := World.ownsRow.form hv (by omega)
    have hv0 : Own eWrench w base 59 (.slice (some ⟨g, 0, none⟩) xs.length cap) (mkd (mfWrench m) xs 0) := by rw [mkd_zero]; exact hv
    have hg0 : w.grownBy w (some g) := World.grownBy.refl _ _
    obtain ⟨mn, rfl⟩ : ∃ mn : Nat, m = (mn : Int) := ⟨m.toNat, by omega⟩
    clear hv hz
    go_enter Try.func43, Try.ntmps43
    go_wp2
    go_loopg [5, 1] xs.length (fun gi i q wr => ∃ (k r : Nat), k ≤ xs.length ∧ gi = xs.length - k ∧ i = .int .i64 k ∧ q = .int .i64 r ∧ Hid ((r : Int) = (mn : Int) + 2 * k) ∧ Own eWrench wr base 59 (.slice (some ⟨g, 0, none⟩) xs.length cap) (mkd (mfWrench mn) xs k) ∧ w.grownBy wr (some g))
    case atStart => exact ⟨0, mn, Nat.zero_le _, rfl, rfl, rfl, Lib.hid (by omega), hv0, hg0⟩
    case round =>
      obtain ⟨k, r, hk, rfl, rfl, rfl, HR, hown, hg⟩ := hrel
      clear hv0 hg0
      have hr := HR.out
      have hr0 : 0 < r := by omega
      have hr1 : r ≤ 10000000000 * 1000 := by omega
      clear hr
      by_cases hlt : k < xs.length
      · have hkn : k < (mkd (mfWrench mn) xs k).length := by rw [mkd_len _ _ _ hk]; exact hlt
        have HX := Lib.hid (mfWrench_eq HR.out hm0)
        obtain ⟨o0, hd0⟩ : ∃ u, wr.cell? ⟨g, k * 2, none⟩ = some u := Own.old hown k hkn 0 (by decide)
        have hf0 : wr.frozen? ⟨g, k * 2, none⟩ = false := Own.free hown (k * 2 + 0)
        obtain ⟨o1, hd1⟩ : ∃ u, wr.cell? ⟨g, k * 2 + 1, none⟩ = some u := Own.old hown k hkn 1 (by decide)
        have hf1 : wr.frozen? ⟨g, k * 2 + 1, none⟩ = false := Own.free hown (k * 2 + 1)
        have HO := Lib.hid (hown.store k hkn (mfWrench mn k))
        have HG := Lib.hid hg
        have HS := Lib.hid (mkd_succ (mfWrench mn) xs k hlt)
        clear hown hg
        go_wp2
        go_roundg (xs.length - (k + 1))
        case measure => omega
        case rel =>
          have hO := HO.out
          have hX := HX.out
          rw [HS.out] at hO
          rw [hX] at hO
          exact ⟨k + 1, r + 2, by omega, rfl, by go_num, by go_num, Lib.hid (by have := HR.out; omega), hO.1, grown_step HG.out hO.2⟩
      · obtain rfl : k = xs.length := by omega
        have HO := Lib.hid hown
        have HG := Lib.hid hg
        clear hown hg
        go_wp2
        go_ret
        refine ⟨ret_int (by have := HR.out; unfold cntWrenchS; omega), ?_, HG.out⟩
        have h := HO.out
        rw [mkd_all] at h
        unfold Own at h ⊢
        rw [mkA_len] at h
        rw [mkWrenchS_len]
        exact h
end Go.Proofs.Ytijmafppdbllfaa
