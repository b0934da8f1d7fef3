/- The struct type Tier as a Lean structure; contracts of the functions that convert, weigh, compare and mark lists of it. No statement of the seat is proved here. -/
import Derived.Test.YtfiapefkomolmaaList
import Derived.Test.YtfiapefkomolmaaStructs
namespace Go.Proofs.Ytfiapefkomolmaa
open Go.RowKit

structure Tier where
  from_ : Int
  percent : Int
def eTier : Enc Tier := ⟨fun x => [.int .i64 x.from_, .int .i64 x.percent], 2, fun _ => rfl, fun x u hu => by simp at hu; rcases hu with rfl | rfl <;> rfl⟩
def aTier (x : Tier) : Value := .agg #[.int .i64 x.from_, .int .i64 x.percent]
def zTier : Tier := ⟨0, 0⟩
theorem info_Tier : (Try.prog.info? 72).map (fun i => (i.zero, i.size, i.bytes)) = some (some (.agg #[.int .i64 0, .int .i64 0]), 2, 16) := by kernel_rfl

def okTier (_ : Tier) : Prop := True

theorem toTier_any (x : Tier) (w : World) :
    Calls Try.prog 57 #[.agg #[.int .i64 x.from_, .int .i64 x.percent]] w fun e w' => e = .returned (.agg #[.int .i64 x.from_, .int .i64 x.percent]) ∧ Below w.heap.size w w' := by
  go_enter Try.func57, Try.ntmps57
  go_wp2
  refine bodyPost_ret (v := .agg #[.int .i64 x.from_, .int .i64 x.percent]) (by simp [results, Try.results57, go_sem]) rfl ⟨rfl, ?_⟩
  go_grown

set_option maxHeartbeats 1000000 in
set_option maxRecDepth 10000 in
theorem toTierS_any (v : Value) (xs : List Tier) (w : World) (hv : Sl eTier w v xs) (hn : xs.length ≤ 1048576) :
    Calls Try.prog 22 #[v] w fun e w' => ∃ u, e = .returned u ∧ Own eTier w' w.heap.size 72 u xs ∧ Below w.heap.size w w' := by
  obtain ⟨A, cap, rfl, _, hm, hc⟩ := hv.shape
  obtain ⟨i0, hi, hz0, hz1, hz2⟩ := info_parts info_Tier
  go_enter Try.func22, Try.ntmps22
  go_wp2_with (at_make; refine wpList_make_full _ rfl _ _ 31 rfl w.heap.size 72 i0 (.agg #[.int .i64 0, .int .i64 0]) 2 Try.underlying31 hi hz0 hz1 .i64 .i64 _ _ xs.length rfl rfl rfl rfl ?c1 ?c2 (Nat.le_refl _) ?_)
  case c1 => rw [hz2]; omega
  case c2 => unfold maxLen; omega
  intro w1 hown hgrow
  have hb1 : Below w.heap.size w w1 := (Below.refl _ _).grown hgrow (Nat.le_refl _) (by simp)
  have hs1 : w.heap.size < w1.heap.size := (hown.lt _ rfl).2
  have hown0 : Own eTier w1 w.heap.size 72 (.slice (some ⟨w.heap.size, 0, none⟩) xs.length xs.length) (copG zTier xs 0) := by
    rw [copG_zero]
    exact Own.made eTier zTier (by decide) hown
  clear hown hgrow
  go_wp2
  go_loopg [4] xs.length (fun gi i wr => ∃ k : Nat, k ≤ xs.length ∧ gi = xs.length - k ∧ i = .int .i64 k ∧ Own eTier wr w.heap.size 72 (.slice (some ⟨w.heap.size, 0, none⟩) xs.length xs.length) (copG zTier xs k) ∧ Below w.heap.size w wr ∧ w.heap.size < wr.heap.size)
  case atStart => exact ⟨0, Nat.zero_le _, rfl, rfl, hown0, hb1, hs1⟩
  case round =>
    obtain ⟨k, hk, rfl, rfl, hown, hb, hs⟩ := hrel
    clear hown0 hb1 hs1
    by_cases hlt : k < xs.length
    · obtain ⟨b, off, rfl, hbl, hcell⟩ := hc (by omega)
      have hs0 : wr.cell? ⟨b, off + k * 2, none⟩ = some (.int .i64 xs[k].from_) := (hb.cell (p := ⟨b, off + k * 2, none⟩) hbl).trans (by simpa [eTier, Nat.add_assoc] using hcell k hlt 0 _ (by decide) rfl)
      have hs1 : wr.cell? ⟨b, off + k * 2 + 1, none⟩ = some (.int .i64 xs[k].percent) := (hb.cell (p := ⟨b, off + k * 2 + 1, none⟩) hbl).trans (by simpa [eTier, Nat.add_assoc] using hcell k hlt 1 _ (by decide) rfl)
      have HB := Lib.hid hb
      clear hc hcell
      go_wp2_with fail
      refine (toTier_any xs[k] _).mono ?_
      rintro e w2 ⟨rfl, hb2⟩
      have hkn : k < (copG zTier xs k).length := by rw [copG_len _ _ _ hk]; exact hlt
      obtain ⟨o0, hd0⟩ : ∃ u, w2.cell? ⟨w.heap.size, k * 2, none⟩ = some u := Own.old (hown.below hb2) k hkn 0 (by decide)
      have hf0 : w2.frozen? ⟨w.heap.size, k * 2, none⟩ = false := Own.free (hown.below hb2) (k * 2 + 0)
      obtain ⟨o1, hd1⟩ : ∃ u, w2.cell? ⟨w.heap.size, k * 2 + 1, none⟩ = some u := Own.old (hown.below hb2) k hkn 1 (by decide)
      have hf1 : w2.frozen? ⟨w.heap.size, k * 2 + 1, none⟩ = false := Own.free (hown.below hb2) (k * 2 + 1)
      have hsz2 := hb2.size
      have HO := Lib.hid ((hown.below hb2).store k hkn xs[k])
      have HB2 := Lib.hid (below_step2 hb hb2 (by omega))
      clear hown hb hb2
      go_wp2
      have HF := Lib.hid (HB2.out.grown HO.out.2 (by omega) (by intro q hq; cases hq; exact Nat.le_refl _))
      have hsF := HO.out.2.size
      go_roundg (xs.length - (k + 1))
      case measure => omega
      case rel => exact ⟨k + 1, by omega, rfl, by go_num, (by rw [← copG_succ _ _ _ hlt]; exact HO.out.1), HF.out, Nat.lt_of_lt_of_le (by omega) hsF⟩
    · obtain rfl : k = xs.length := by omega
      go_wp2
      go_ret
      rw [copG_all] at hown
      exact ⟨_, rfl, hown, hb⟩

theorem eqTier_same (x : Tier) (w : World) :
    Calls Try.prog 58 #[.agg #[.int .i64 x.from_, .int .i64 x.percent], .agg #[.int .i64 x.from_, .int .i64 x.percent]] w fun e w' => e = .returned (.bool true) ∧ Below w.heap.size w w' := by
  go_enter Try.func58, Try.ntmps58
  go_wp2
  go_ret
  refine ⟨rfl, ?_⟩
  go_grown

set_option maxHeartbeats 1000000 in
set_option maxRecDepth 10000 in
theorem eqTierS_same (v u : Value) (xs : List Tier) (w : World) (hv : Sl eTier w v xs) (hu : Sl eTier w u xs) :
    Calls Try.prog 24 #[v, u] w fun e w' => e = .returned (.bool true) ∧ Below w.heap.size w w' := by
  obtain ⟨A, cap, rfl, _, hm, hc⟩ := hv.shape
  obtain ⟨A2, cap2, rfl, _, _, hc2⟩ := hu.shape
  go_enter Try.func24, Try.ntmps24
  go_wp2
  go_loopg [5] xs.length (fun gi i wr => ∃ k : Nat, k ≤ xs.length ∧ gi = xs.length - k ∧ i = .int .i64 k ∧ Below w.heap.size w wr ∧ w.heap.size ≤ wr.heap.size)
  case atStart => exact ⟨0, Nat.zero_le _, rfl, rfl, Below.refl _ _, Nat.le_refl _⟩
  case round =>
    obtain ⟨k, hk, rfl, rfl, hb, hs⟩ := hrel
    by_cases hlt : k < xs.length
    · obtain ⟨b, off, rfl, hbl, hcell⟩ := hc (by omega)
      obtain ⟨b2, off2, rfl, hbl2, hcell2⟩ := hc2 (by omega)
      have hs0 : wr.cell? ⟨b, off + k * 2, none⟩ = some (.int .i64 xs[k].from_) := (hb.cell (p := ⟨b, off + k * 2, none⟩) hbl).trans (by simpa [eTier, Nat.add_assoc] using hcell k hlt 0 _ (by decide) rfl)
      have ht0 : wr.cell? ⟨b2, off2 + k * 2, none⟩ = some (.int .i64 xs[k].from_) := (hb.cell (p := ⟨b2, off2 + k * 2, none⟩) hbl2).trans (by simpa [eTier, Nat.add_assoc] using hcell2 k hlt 0 _ (by decide) rfl)
      have hs1 : wr.cell? ⟨b, off + k * 2 + 1, none⟩ = some (.int .i64 xs[k].percent) := (hb.cell (p := ⟨b, off + k * 2 + 1, none⟩) hbl).trans (by simpa [eTier, Nat.add_assoc] using hcell k hlt 1 _ (by decide) rfl)
      have ht1 : wr.cell? ⟨b2, off2 + k * 2 + 1, none⟩ = some (.int .i64 xs[k].percent) := (hb.cell (p := ⟨b2, off2 + k * 2 + 1, none⟩) hbl2).trans (by simpa [eTier, Nat.add_assoc] using hcell2 k hlt 1 _ (by decide) rfl)
      have hbd : Below w.heap.size w wr.drew := hb.drew
      have hsd : w.heap.size ≤ wr.drew.heap.size := hs
      clear hc hcell hc2 hcell2 hb
      go_wp2
      go_still_tail 8, (by kernel_rfl)
      change wpList _ _ _ _ _ wr.drew
      generalize wr.drew = w2 at *
      go_wp2_with fail
      refine (eqTier_same xs[k] w2).mono ?_
      rintro e w3 ⟨rfl, hb3⟩
      have hb4 := below_step2 hbd hb3 hsd
      have hs4 := hb4.size
      clear hbd hb3
      go_wp2
      go_roundg (xs.length - (k + 1))
      case measure => omega
      case rel => exact ⟨k + 1, by omega, rfl, by go_num, hb4, hs4⟩
    · go_wp2
      go_ret
      exact ⟨rfl, hb⟩

def totTier (xs : List Tier) : Nat := xs.length
theorem szTierS_any (A : Option Addr) (n cap : Nat) (left : Int) (w : World) (h0 : 0 ≤ left) (h1 : left ≤ 1048576) (hn : n ≤ 9223372036854775807) :
    Calls Try.prog 20 #[.slice A n cap, .int .i64 left] w fun e w' => e = .returned (.int .i64 (szr left n)) ∧ w = w' := by
  by_cases h : left < n
  all_goals
    go_enter Try.func20, Try.ntmps20
    go_wp2
    go_ret
    exact ⟨ret_int (by unfold szr; split <;> omega), rfl⟩
theorem szTierS_big (A : Option Addr) (n cap : Nat) (left : Int) (w : World) (h0 : 0 ≤ left) (h1 : left ≤ 1048576) (hn : n ≤ 9223372036854775807) (h : left < n) :
    Calls Try.prog 20 #[.slice A n cap, .int .i64 left] w fun e w' => e = .returned (.int .i64 (-1)) ∧ w = w' :=
  (szTierS_any A n cap left w h0 h1 hn).mono (fun e w' ⟨he, hw⟩ => ⟨by rw [he]; exact ret_int (by unfold szr; rw [if_neg (by omega)]), hw⟩)
theorem szTierS_ok (v : Value) (xs : List Tier) (left : Int) (w : World) (h0 : 0 ≤ left) (h1 : left ≤ 1048576) (hv : Sl eTier w v xs) (_ : ∀ x ∈ xs, okTier x) :
    Calls Try.prog 20 #[v, .int .i64 left] w fun e w' => e = .returned (.int .i64 (szr left (totTier xs))) ∧ Below w.heap.size w w' := by
  obtain ⟨A, cap, rfl, _, hm, hc⟩ := hv.shape
  exact (szTierS_any A xs.length cap left w h0 h1 (by omega)).mono (fun e w' ⟨he, hw⟩ => ⟨he, by subst hw; exact Below.refl _ _⟩)

end Go.Proofs.Ytfiapefkomolmaa
