/- The struct type Rule as a Lean structure; contracts of the functions that convert, weigh, compare and mark lists of it. No statement of the seat is proved here. -/
import Derived.Test.YtncggcbpbejmcaaList
import Derived.Test.YtncggcbpbejmcaaStructs
namespace Go.Proofs.Ytncggcbpbejmcaa
open Go.RowKit

structure Rule where
  field : Int
  least : Int
  grade : Int
def eRule : Enc Rule := ⟨fun x => [.int .i64 x.field, .int .i64 x.least, .int .i64 x.grade], 3, fun _ => rfl, fun x u hu => by simp at hu; rcases hu with rfl | rfl | rfl <;> rfl⟩
def aRule (x : Rule) : Value := .agg #[.int .i64 x.field, .int .i64 x.least, .int .i64 x.grade]
def zRule : Rule := ⟨0, 0, 0⟩
theorem info_Rule : (Try.prog.info? 78).map (fun i => (i.zero, i.size, i.bytes)) = some (some (.agg #[.int .i64 0, .int .i64 0, .int .i64 0]), 3, 24) := by kernel_rfl

def okRule (_ : Rule) : Prop := True

theorem toRule_any (x : Rule) (w : World) :
    Calls Try.prog 66 #[.agg #[.int .i64 x.field, .int .i64 x.least, .int .i64 x.grade]] w fun e w' => e = .returned (.agg #[.int .i64 x.field, .int .i64 x.least, .int .i64 x.grade]) ∧ Below w.heap.size w w' := by
  go_enter Try.func66, Try.ntmps66
  go_wp2
  refine bodyPost_ret (v := .agg #[.int .i64 x.field, .int .i64 x.least, .int .i64 x.grade]) (by simp [results, Try.results66, go_sem]) rfl ⟨rfl, ?_⟩
  go_grown

set_option maxHeartbeats 1000000 in
set_option maxRecDepth 10000 in
theorem toRuleS_any (v : Value) (xs : List Rule) (w : World) (hv : Sl eRule w v xs) (hn : xs.length ≤ 1048576) :
    Calls Try.prog 17 #[v] w fun e w' => ∃ u, e = .returned u ∧ Own eRule w' w.heap.size 78 u xs ∧ Below w.heap.size w w' := by
  obtain ⟨A, cap, rfl, _, hm, hc⟩ := hv.shape
  obtain ⟨i0, hi, hz0, hz1, hz2⟩ := info_parts info_Rule
  go_enter Try.func17, Try.ntmps17
  go_wp2_with (at_make; refine wpList_make_full _ rfl _ _ 25 rfl w.heap.size 78 i0 (.agg #[.int .i64 0, .int .i64 0, .int .i64 0]) 3 Try.underlying25 hi hz0 hz1 .i64 .i64 _ _ xs.length rfl rfl rfl rfl ?c1 ?c2 (Nat.le_refl _) ?_)
  case c1 => rw [hz2]; omega
  case c2 => unfold maxLen; omega
  intro w1 hown hgrow
  have hb1 : Below w.heap.size w w1 := (Below.refl _ _).grown hgrow (Nat.le_refl _) (by simp)
  have hs1 : w.heap.size < w1.heap.size := (hown.lt _ rfl).2
  have hown0 : Own eRule w1 w.heap.size 78 (.slice (some ⟨w.heap.size, 0, none⟩) xs.length xs.length) (copG zRule xs 0) := by
    rw [copG_zero]
    exact Own.made eRule zRule (by decide) hown
  clear hown hgrow
  go_wp2
  go_loopg [4] xs.length (fun gi i wr => ∃ k : Nat, k ≤ xs.length ∧ gi = xs.length - k ∧ i = .int .i64 k ∧ Own eRule wr w.heap.size 78 (.slice (some ⟨w.heap.size, 0, none⟩) xs.length xs.length) (copG zRule xs k) ∧ Below w.heap.size w wr ∧ w.heap.size < wr.heap.size)
  case atStart => exact ⟨0, Nat.zero_le _, rfl, rfl, hown0, hb1, hs1⟩
  case round =>
    obtain ⟨k, hk, rfl, rfl, hown, hb, hs⟩ := hrel
    clear hown0 hb1 hs1
    by_cases hlt : k < xs.length
    · obtain ⟨b, off, rfl, hbl, hcell⟩ := hc (by omega)
      have hs0 : wr.cell? ⟨b, off + k * 3, none⟩ = some (.int .i64 xs[k].field) := (hb.cell (p := ⟨b, off + k * 3, none⟩) hbl).trans (by simpa [eRule, Nat.add_assoc] using hcell k hlt 0 _ (by decide) rfl)
      have hs1 : wr.cell? ⟨b, off + k * 3 + 1, none⟩ = some (.int .i64 xs[k].least) := (hb.cell (p := ⟨b, off + k * 3 + 1, none⟩) hbl).trans (by simpa [eRule, Nat.add_assoc] using hcell k hlt 1 _ (by decide) rfl)
      have hs2 : wr.cell? ⟨b, off + k * 3 + 2, none⟩ = some (.int .i64 xs[k].grade) := (hb.cell (p := ⟨b, off + k * 3 + 2, none⟩) hbl).trans (by simpa [eRule, Nat.add_assoc] using hcell k hlt 2 _ (by decide) rfl)
      have HB := Lib.hid hb
      clear hc hcell
      go_wp2_with fail
      refine (toRule_any xs[k] _).mono ?_
      rintro e w2 ⟨rfl, hb2⟩
      have hkn : k < (copG zRule xs k).length := by rw [copG_len _ _ _ hk]; exact hlt
      obtain ⟨o0, hd0⟩ : ∃ u, w2.cell? ⟨w.heap.size, k * 3, none⟩ = some u := Own.old (hown.below hb2) k hkn 0 (by decide)
      have hf0 : w2.frozen? ⟨w.heap.size, k * 3, none⟩ = false := Own.free (hown.below hb2) (k * 3 + 0)
      obtain ⟨o1, hd1⟩ : ∃ u, w2.cell? ⟨w.heap.size, k * 3 + 1, none⟩ = some u := Own.old (hown.below hb2) k hkn 1 (by decide)
      have hf1 : w2.frozen? ⟨w.heap.size, k * 3 + 1, none⟩ = false := Own.free (hown.below hb2) (k * 3 + 1)
      obtain ⟨o2, hd2⟩ : ∃ u, w2.cell? ⟨w.heap.size, k * 3 + 2, none⟩ = some u := Own.old (hown.below hb2) k hkn 2 (by decide)
      have hf2 : w2.frozen? ⟨w.heap.size, k * 3 + 2, none⟩ = false := Own.free (hown.below hb2) (k * 3 + 2)
      have hsz2 := hb2.size
      have HO := Lib.hid ((hown.below hb2).store k hkn xs[k])
      have HB2 := Lib.hid (below_step2 hb hb2 (by omega))
      clear hown hb hb2
      go_wp2
      have HF := Lib.hid (HB2.out.grown HO.out.2 (by omega) (by intro q hq; cases hq; exact Nat.le_refl _))
      have hsF := HO.out.2.size
      go_roundg (xs.length - (k + 1))
      case measure => omega
      case rel => exact ⟨k + 1, by omega, rfl, by go_num, (by rw [← copG_succ _ _ _ hlt]; exact HO.out.1), HF.out, Nat.lt_of_lt_of_le (by omega) hsF⟩
    · obtain rfl : k = xs.length := by omega
      go_wp2
      go_ret
      rw [copG_all] at hown
      exact ⟨_, rfl, hown, hb⟩

theorem eqRule_same (x : Rule) (w : World) :
    Calls Try.prog 69 #[.agg #[.int .i64 x.field, .int .i64 x.least, .int .i64 x.grade], .agg #[.int .i64 x.field, .int .i64 x.least, .int .i64 x.grade]] w fun e w' => e = .returned (.bool true) ∧ Below w.heap.size w w' := by
  go_enter Try.func69, Try.ntmps69
  go_wp2
  go_ret
  refine ⟨rfl, ?_⟩
  go_grown

set_option maxHeartbeats 1000000 in
set_option maxRecDepth 10000 in
theorem eqRuleS_same (v u : Value) (xs : List Rule) (w : World) (hv : Sl eRule w v xs) (hu : Sl eRule w u xs) :
    Calls Try.prog 19 #[v, u] w fun e w' => e = .returned (.bool true) ∧ Below w.heap.size w w' := by
  obtain ⟨A, cap, rfl, _, hm, hc⟩ := hv.shape
  obtain ⟨A2, cap2, rfl, _, _, hc2⟩ := hu.shape
  go_enter Try.func19, Try.ntmps19
  go_wp2
  go_loopg [5] xs.length (fun gi i wr => ∃ k : Nat, k ≤ xs.length ∧ gi = xs.length - k ∧ i = .int .i64 k ∧ Below w.heap.size w wr ∧ w.heap.size ≤ wr.heap.size)
  case atStart => exact ⟨0, Nat.zero_le _, rfl, rfl, Below.refl _ _, Nat.le_refl _⟩
  case round =>
    obtain ⟨k, hk, rfl, rfl, hb, hs⟩ := hrel
    by_cases hlt : k < xs.length
    · obtain ⟨b, off, rfl, hbl, hcell⟩ := hc (by omega)
      obtain ⟨b2, off2, rfl, hbl2, hcell2⟩ := hc2 (by omega)
      have hs0 : wr.cell? ⟨b, off + k * 3, none⟩ = some (.int .i64 xs[k].field) := (hb.cell (p := ⟨b, off + k * 3, none⟩) hbl).trans (by simpa [eRule, Nat.add_assoc] using hcell k hlt 0 _ (by decide) rfl)
      have ht0 : wr.cell? ⟨b2, off2 + k * 3, none⟩ = some (.int .i64 xs[k].field) := (hb.cell (p := ⟨b2, off2 + k * 3, none⟩) hbl2).trans (by simpa [eRule, Nat.add_assoc] using hcell2 k hlt 0 _ (by decide) rfl)
      have hs1 : wr.cell? ⟨b, off + k * 3 + 1, none⟩ = some (.int .i64 xs[k].least) := (hb.cell (p := ⟨b, off + k * 3 + 1, none⟩) hbl).trans (by simpa [eRule, Nat.add_assoc] using hcell k hlt 1 _ (by decide) rfl)
      have ht1 : wr.cell? ⟨b2, off2 + k * 3 + 1, none⟩ = some (.int .i64 xs[k].least) := (hb.cell (p := ⟨b2, off2 + k * 3 + 1, none⟩) hbl2).trans (by simpa [eRule, Nat.add_assoc] using hcell2 k hlt 1 _ (by decide) rfl)
      have hs2 : wr.cell? ⟨b, off + k * 3 + 2, none⟩ = some (.int .i64 xs[k].grade) := (hb.cell (p := ⟨b, off + k * 3 + 2, none⟩) hbl).trans (by simpa [eRule, Nat.add_assoc] using hcell k hlt 2 _ (by decide) rfl)
      have ht2 : wr.cell? ⟨b2, off2 + k * 3 + 2, none⟩ = some (.int .i64 xs[k].grade) := (hb.cell (p := ⟨b2, off2 + k * 3 + 2, none⟩) hbl2).trans (by simpa [eRule, Nat.add_assoc] using hcell2 k hlt 2 _ (by decide) rfl)
      have hbd : Below w.heap.size w wr.drew := hb.drew
      have hsd : w.heap.size ≤ wr.drew.heap.size := hs
      clear hc hcell hc2 hcell2 hb
      go_wp2
      go_still_tail 8, (by kernel_rfl)
      change wpList _ _ _ _ _ wr.drew
      generalize wr.drew = w2 at *
      go_wp2_with fail
      refine (eqRule_same xs[k] w2).mono ?_
      rintro e w3 ⟨rfl, hb3⟩
      have hb4 := below_step2 hbd hb3 hsd
      have hs4 := hb4.size
      clear hbd hb3
      go_wp2
      go_roundg (xs.length - (k + 1))
      case measure => omega
      case rel => exact ⟨k + 1, by omega, rfl, by go_num, hb4, hs4⟩
    · go_wp2
      go_ret
      exact ⟨rfl, hb⟩

def totRule (xs : List Rule) : Nat := xs.length
theorem szRuleS_any (A : Option Addr) (n cap : Nat) (left : Int) (w : World) (h0 : 0 ≤ left) (h1 : left ≤ 1048576) (hn : n ≤ 9223372036854775807) :
    Calls Try.prog 15 #[.slice A n cap, .int .i64 left] w fun e w' => e = .returned (.int .i64 (szr left n)) ∧ w = w' := by
  by_cases h : left < n
  all_goals
    go_enter Try.func15, Try.ntmps15
    go_wp2
    go_ret
    exact ⟨ret_int (by unfold szr; split <;> omega), rfl⟩
theorem szRuleS_big (A : Option Addr) (n cap : Nat) (left : Int) (w : World) (h0 : 0 ≤ left) (h1 : left ≤ 1048576) (hn : n ≤ 9223372036854775807) (h : left < n) :
    Calls Try.prog 15 #[.slice A n cap, .int .i64 left] w fun e w' => e = .returned (.int .i64 (-1)) ∧ w = w' :=
  (szRuleS_any A n cap left w h0 h1 hn).mono (fun e w' ⟨he, hw⟩ => ⟨by rw [he]; exact ret_int (by unfold szr; rw [if_neg (by omega)]), hw⟩)
theorem szRuleS_ok (v : Value) (xs : List Rule) (left : Int) (w : World) (h0 : 0 ≤ left) (h1 : left ≤ 1048576) (hv : Sl eRule w v xs) (_ : ∀ x ∈ xs, okRule x) :
    Calls Try.prog 15 #[v, .int .i64 left] w fun e w' => e = .returned (.int .i64 (szr left (totRule xs))) ∧ Below w.heap.size w w' := by
  obtain ⟨A, cap, rfl, _, hm, hc⟩ := hv.shape
  exact (szRuleS_any A xs.length cap left w h0 h1 (by omega)).mono (fun e w' ⟨he, hw⟩ => ⟨he, by subst hw; exact Below.refl _ _⟩)

end Go.Proofs.Ytncggcbpbejmcaa
