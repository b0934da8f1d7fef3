/- Contracts of the functions that overwrite a list of Used by marks and look whether they stand. No statement of the seat is proved here. -/
import Derived.Test.YtncggcbpbejmcaaSUsed
import Derived.Test.YtncggcbpbejmcaaMarks
namespace Go.Proofs.Ytncggcbpbejmcaa
open Go.RowKit

def mkUsed (r : Nat) : Used := ⟨(markT r), ((r : Int) + 1), ((r : Int) + 1 + 1), ((r : Int) + 1 + 1 + 1), ((r : Int) + 1 + 1 + 1 + 1)⟩
def mfUsed (m : Int) (i : Nat) : Used := mkUsed (m.toNat + 5 * i)
def mkUsedS (xs : List Used) (m : Int) : List Used := (List.range xs.length).map (mfUsed m)
def cntUsedS (xs : List Used) : Nat := 5 * xs.length
theorem mkUsedS_len (xs : List Used) (m : Int) : (mkUsedS xs m).length = xs.length := mkA_len _ _
theorem cntUsedS_le (xs : List Used) (h : xs.length ≤ 1048576) : cntUsedS xs ≤ 10000000 := by unfold cntUsedS; omega
theorem mfUsed_eq {m : Int} {k r : Nat} (h : (r : Int) = m + 5 * k) (h1 : 1 ≤ m) : mfUsed m k = ⟨(markT r), ((r : Int) + 1), ((r : Int) + 1 + 1), ((r : Int) + 1 + 1 + 1), ((r : Int) + 1 + 1 + 1 + 1)⟩ := by
  unfold mfUsed
  have e : m.toNat + 5 * k = r := by omega
  rw [e]; rfl
set_option maxHeartbeats 1000000 in
set_option maxRecDepth 10000 in
theorem markUsedS_law (v : Value) (xs : List Used) (m : Int) (base : Nat) (w : World) (hv : Own eUsed w base 33 v xs) (hn : xs.length ≤ 1048576) (hm0 : 1 ≤ m) (hm1 : m ≤ 1000000000000) :
    Calls Try.prog 47 #[v, .int .i64 m] w fun e w' => e = .returned (.int .i64 (m + (cntUsedS xs : Nat))) ∧ Own eUsed w' base 33 v (mkUsedS xs m) ∧ w.grownBy w' v.ownBlock := by
  by_cases hz : xs.length = 0
  · have hx : xs = [] := List.eq_nil_of_length_eq_zero hz
    subst hx
    obtain ⟨A, cap, rfl, _, _, _⟩ := Sl.shape (Sl.of_own hv (by simp [big40]))
    have HV := Lib.hid hv
    clear hv hz
    go_enter Try.func47, Try.ntmps47
    go_wp2
    refine wp_loop_rounds 1 ?_
    rw [rounds_succ]
    go_wp2
    go_ret
    exact ⟨ret_int (by simp [cntUsedS]), HV.out, World.grownBy.refl _ _⟩
  · obtain ⟨g, cap, rfl, hbg, hgl⟩ := World.ownsRow.form hv (by omega)
    have hv0 : Own eUsed w base 33 (.slice (some ⟨g, 0, none⟩) xs.length cap) (mkd (mfUsed m) xs 0) := by rw [mkd_zero]; exact hv
    have hg0 : w.grownBy w (some g) := World.grownBy.refl _ _
    obtain ⟨mn, rfl⟩ : ∃ mn : Nat, m = (mn : Int) := ⟨m.toNat, by omega⟩
    clear hv hz
    go_enter Try.func47, Try.ntmps47
    go_wp2
    go_loopg [5, 1] xs.length (fun gi i q wr => ∃ (k r : Nat), k ≤ xs.length ∧ gi = xs.length - k ∧ i = .int .i64 k ∧ q = .int .i64 r ∧ Hid ((r : Int) = (mn : Int) + 5 * k) ∧ Own eUsed wr base 33 (.slice (some ⟨g, 0, none⟩) xs.length cap) (mkd (mfUsed mn) xs k) ∧ w.grownBy wr (some g))
    case atStart => exact ⟨0, mn, Nat.zero_le _, rfl, rfl, rfl, Lib.hid (by omega), hv0, hg0⟩
    case round =>
      obtain ⟨k, r, hk, rfl, rfl, rfl, HR, hown, hg⟩ := hrel
      clear hv0 hg0
      have hr := HR.out
      have hr0 : 0 < r := by omega
      have hr1 : r ≤ 10000000000 * 1000 := by omega
      clear hr
      by_cases hlt : k < xs.length
      · have hkn : k < (mkd (mfUsed mn) xs k).length := by rw [mkd_len _ _ _ hk]; exact hlt
        have HX := Lib.hid (mfUsed_eq HR.out hm0)
        go_wp2_with fail
        refine (markText_law r wr (by omega) (by omega)).mono ?_
        rintro e w2 ⟨rfl, hb2⟩
        replace hg := grown_below hg hb2
        replace hown := hown.below hb2
        clear hb2
        obtain ⟨o0, hd0⟩ : ∃ u, w2.cell? ⟨g, k * 5, none⟩ = some u := Own.old hown k hkn 0 (by decide)
        have hf0 : w2.frozen? ⟨g, k * 5, none⟩ = false := Own.free hown (k * 5 + 0)
        obtain ⟨o1, hd1⟩ : ∃ u, w2.cell? ⟨g, k * 5 + 1, none⟩ = some u := Own.old hown k hkn 1 (by decide)
        have hf1 : w2.frozen? ⟨g, k * 5 + 1, none⟩ = false := Own.free hown (k * 5 + 1)
        obtain ⟨o2, hd2⟩ : ∃ u, w2.cell? ⟨g, k * 5 + 2, none⟩ = some u := Own.old hown k hkn 2 (by decide)
        have hf2 : w2.frozen? ⟨g, k * 5 + 2, none⟩ = false := Own.free hown (k * 5 + 2)
        obtain ⟨o3, hd3⟩ : ∃ u, w2.cell? ⟨g, k * 5 + 3, none⟩ = some u := Own.old hown k hkn 3 (by decide)
        have hf3 : w2.frozen? ⟨g, k * 5 + 3, none⟩ = false := Own.free hown (k * 5 + 3)
        obtain ⟨o4, hd4⟩ : ∃ u, w2.cell? ⟨g, k * 5 + 4, none⟩ = some u := Own.old hown k hkn 4 (by decide)
        have hf4 : w2.frozen? ⟨g, k * 5 + 4, none⟩ = false := Own.free hown (k * 5 + 4)
        have HO := Lib.hid (hown.store k hkn (mfUsed mn k))
        have HG := Lib.hid hg
        have HS := Lib.hid (mkd_succ (mfUsed mn) xs k hlt)
        clear hown hg
        go_wp2
        go_roundg (xs.length - (k + 1))
        case measure => omega
        case rel =>
          have hO := HO.out
          have hX := HX.out
          rw [HS.out] at hO
          rw [hX] at hO
          exact ⟨k + 1, r + 5, by omega, rfl, by go_num, by go_num, Lib.hid (by have := HR.out; omega), hO.1, grown_step HG.out hO.2⟩
      · obtain rfl : k = xs.length := by omega
        have HO := Lib.hid hown
        have HG := Lib.hid hg
        clear hown hg
        go_wp2
        go_ret
        refine ⟨ret_int (by have := HR.out; unfold cntUsedS; omega), ?_, HG.out⟩
        have h := HO.out
        rw [mkd_all] at h
        unfold Own at h ⊢
        rw [mkA_len] at h
        rw [mkUsedS_len]
        exact h
end Go.Proofs.Ytncggcbpbejmcaa
