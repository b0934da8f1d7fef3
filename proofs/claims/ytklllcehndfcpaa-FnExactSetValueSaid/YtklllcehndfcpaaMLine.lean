/- Contracts of the functions that overwrite a list of Line by marks and look whether they stand. No statement of the seat is proved here. -/
import Derived.Test.YtklllcehndfcpaaSLine
import Derived.Test.YtklllcehndfcpaaMarks
namespace Go.Proofs.Ytklllcehndfcpaa
open Go.RowKit

def mkLine (r : Nat) : Line := ⟨(markT r), ((r : Int) + 1)⟩
def mfLine (m : Int) (i : Nat) : Line := mkLine (m.toNat + 2 * i)
def mkLineS (xs : List Line) (m : Int) : List Line := (List.range xs.length).map (mfLine m)
def cntLineS (xs : List Line) : Nat := 2 * xs.length
theorem mkLineS_len (xs : List Line) (m : Int) : (mkLineS xs m).length = xs.length := mkA_len _ _
theorem cntLineS_le (xs : List Line) (h : xs.length ≤ 1048576) : cntLineS xs ≤ 10000000 := by unfold cntLineS; omega
theorem mfLine_eq {m : Int} {k r : Nat} (h : (r : Int) = m + 2 * k) (h1 : 1 ≤ m) : mfLine m k = ⟨(markT r), ((r : Int) + 1)⟩ := by
  unfold mfLine
  have e : m.toNat + 2 * k = r := by omega
  rw [e]; rfl
set_option maxHeartbeats 1000000 in
set_option maxRecDepth 10000 in
theorem markLineS_law (v : Value) (xs : List Line) (m : Int) (base : Nat) (w : World) (hv : Own eLine w base 72 v xs) (hn : xs.length ≤ 1048576) (hm0 : 1 ≤ m) (hm1 : m ≤ 1000000000000) :
    Calls Try.prog 32 #[v, .int .i64 m] w fun e w' => e = .returned (.int .i64 (m + (cntLineS xs : Nat))) ∧ Own eLine w' base 72 v (mkLineS xs m) ∧ w.grownBy w' v.ownBlock := by
  by_cases hz : xs.length = 0
  · have hx : xs = [] := List.eq_nil_of_length_eq_zero hz
    subst hx
    obtain ⟨A, cap, rfl, _, _, _⟩ := Sl.shape (Sl.of_own hv (by simp [big40]))
    have HV := Lib.hid hv
    clear hv hz
    go_enter Try.func32, Try.ntmps32
    go_wp2
    refine wp_loop_rounds 1 ?_
    rw [rounds_succ]
    go_wp2
    go_ret
    exact ⟨ret_int (by simp [cntLineS]), HV.out, World.grownBy.refl _ _⟩
  · obtain ⟨g, cap, rfl, hbg, hgl⟩ := World.ownsRow.form hv (by omega)
    have hv0 : Own eLine w base 72 (.slice (some ⟨g, 0, none⟩) xs.length cap) (mkd (mfLine m) xs 0) := by rw [mkd_zero]; exact hv
    have hg0 : w.grownBy w (some g) := World.grownBy.refl _ _
    obtain ⟨mn, rfl⟩ : ∃ mn : Nat, m = (mn : Int) := ⟨m.toNat, by omega⟩
    clear hv hz
    go_enter Try.func32, Try.ntmps32
    go_wp2
    go_loopg [5, 1] xs.length (fun gi i q wr => ∃ (k r : Nat), k ≤ xs.length ∧ gi = xs.length - k ∧ i = .int .i64 k ∧ q = .int .i64 r ∧ Hid ((r : Int) = (mn : Int) + 2 * k) ∧ Own eLine wr base 72 (.slice (some ⟨g, 0, none⟩) xs.length cap) (mkd (mfLine mn) xs k) ∧ w.grownBy wr (some g))
    case atStart => exact ⟨0, mn, Nat.zero_le _, rfl, rfl, rfl, Lib.hid (by omega), hv0, hg0⟩
    case round =>
      obtain ⟨k, r, hk, rfl, rfl, rfl, HR, hown, hg⟩ := hrel
      clear hv0 hg0
      have hr := HR.out
      have hr0 : 0 < r := by omega
      have hr1 : r ≤ 10000000000 * 1000 := by omega
      clear hr
      by_cases hlt : k < xs.length
      · have hkn : k < (mkd (mfLine mn) xs k).length := by rw [mkd_len _ _ _ hk]; exact hlt
        have HX := Lib.hid (mfLine_eq HR.out hm0)
        go_wp2_with fail
        refine (markText_law r wr (by omega) (by omega)).mono ?_
        rintro e w2 ⟨rfl, hb2⟩
        replace hg := grown_below hg hb2
        replace hown := hown.below hb2
        clear hb2
        obtain ⟨o0, hd0⟩ : ∃ u, w2.cell? ⟨g, k * 2, none⟩ = some u := Own.old hown k hkn 0 (by decide)
        have hf0 : w2.frozen? ⟨g, k * 2, none⟩ = false := Own.free hown (k * 2 + 0)
        obtain ⟨o1, hd1⟩ : ∃ u, w2.cell? ⟨g, k * 2 + 1, none⟩ = some u := Own.old hown k hkn 1 (by decide)
        have hf1 : w2.frozen? ⟨g, k * 2 + 1, none⟩ = false := Own.free hown (k * 2 + 1)
        have HO := Lib.hid (hown.store k hkn (mfLine mn k))
        have HG := Lib.hid hg
        have HS := Lib.hid (mkd_succ (mfLine mn) xs k hlt)
        clear hown hg
        go_wp2
        go_roundg (xs.length - (k + 1))
        case measure => omega
        case rel =>
          have hO := HO.out
          have hX := HX.out
          rw [HS.out] at hO
          rw [hX] at hO
          exact ⟨k + 1, r + 2, by omega, rfl, by go_num, by go_num, Lib.hid (by have := HR.out; omega), hO.1, grown_step HG.out hO.2⟩
      · obtain rfl : k = xs.length := by omega
        have HO := Lib.hid hown
        have HG := Lib.hid hg
        clear hown hg
        go_wp2
        go_ret
        refine ⟨ret_int (by have := HR.out; unfold cntLineS; omega), ?_, HG.out⟩
        have h := HO.out
        rw [mkd_all] at h
        unfold Own at h ⊢
        rw [mkA_len] at h
        rw [mkLineS_len]
        exact h
set_option maxHeartbeats 1000000 in
set_option maxRecDepth 10000 in
theorem heldLineS_law (v : Value) (xs : List Line) (m : Int) (w : World) (hv : Sl eLine w v (mkLineS xs m)) (hn : xs.length ≤ 1048576) (hm0 : 1 ≤ m) (hm1 : m ≤ 1000000000000) :
    Calls Try.prog 60 #[v, .int .i64 m] w fun e w' => e = .returned (.int .i64 (m + (cntLineS xs : Nat))) ∧ Below w.heap.size w w' := by
  obtain ⟨A, cap, e0, _, _, hc⟩ := hv.shape
  rw [mkLineS_len] at e0
  subst e0
  obtain ⟨mn, rfl⟩ : ∃ mn : Nat, m = (mn : Int) := ⟨m.toNat, by omega⟩
  clear hv
  go_enter Try.func60, Try.ntmps60
  go_wp2
  go_loopg [5, 1] xs.length (fun gi i q wr => ∃ (k r : Nat), k ≤ xs.length ∧ gi = xs.length - k ∧ i = .int .i64 k ∧ q = .int .i64 r ∧ Hid ((r : Int) = (mn : Int) + 2 * k) ∧ Below w.heap.size w wr ∧ w.heap.size ≤ wr.heap.size)
  case atStart => exact ⟨0, mn, Nat.zero_le _, rfl, rfl, rfl, Lib.hid (by omega), Below.refl _ _, Nat.le_refl _⟩
  case round =>
    obtain ⟨k, r, hk, rfl, rfl, rfl, HR, hb, hs⟩ := hrel
    have hr := HR.out
    have hr0 : 0 < r := by omega
    have hr1 : r ≤ 10000000000 * 1000 := by omega
    clear hr
    by_cases hlt : k < xs.length
    · have hlt2 : k < (mkLineS xs mn).length := by rw [mkLineS_len]; exact hlt
      obtain ⟨b, off, rfl, hbl, hcell⟩ := hc (by omega)
      have hat : (mkLineS xs mn)[k] = ⟨(markT r), ((r : Int) + 1)⟩ := (mkA_at _ _ k hlt2).trans (mfLine_eq HR.out hm0)
      have c0 : wr.cell? ⟨b, off + k * 2, none⟩ = some (.string (markT r)) := (hb.cell (p := ⟨b, off + k * 2, none⟩) hbl).trans (by have h := hcell k hlt2 0 _ (by decide) rfl; rw [hat] at h; simpa [eLine, Nat.add_assoc] using h)
      have c1 : wr.cell? ⟨b, off + k * 2 + 1, none⟩ = some (.int .i64 ((r : Int) + 1)) := (hb.cell (p := ⟨b, off + k * 2 + 1, none⟩) hbl).trans (by have h := hcell k hlt2 1 _ (by decide) rfl; rw [hat] at h; simpa [eLine, Nat.add_assoc] using h)
      clear hc hcell hat hlt2
      have hblw : b < wr.heap.size := Nat.lt_of_lt_of_le hbl hs
      have HB := Lib.hid hb
      clear hb
      go_wp2
      go_region_held3 (fun w' => w'.cell? ⟨b, off + k * 2, none⟩ = some (.string (markT r))) (first | exact c0 | exact (hb3.cell (p := ⟨b, off + k * 2, none⟩) hblw).trans c0)
        (first | (go_at_call 59; refine (markText_law r _ (by omega) (by omega)).mono ?_; rintro e w3 ⟨rfl, hb3⟩))
      have d0 := (hb3.cell (p := ⟨b, off + k * 2, none⟩) hblw).trans c0
      have d1 := (hb3.cell (p := ⟨b, off + k * 2 + 1, none⟩) hblw).trans c1
      have hb4 := below_step2 HB.out.drew hb3 hs
      have hs4 := hb4.size
      clear hb3
      go_wp2
      go_roundg (xs.length - (k + 1))
      case measure => omega
      case rel => exact ⟨k + 1, r + 2, by omega, rfl, by go_num, by go_num, Lib.hid (by have := HR.out; omega), hb4, hs4⟩
    · obtain rfl : k = xs.length := by omega
      have HB := Lib.hid hb
      clear hb
      go_wp2
      go_ret
      exact ⟨ret_int (by have := HR.out; unfold cntLineS; omega), HB.out⟩
end Go.Proofs.Ytklllcehndfcpaa
