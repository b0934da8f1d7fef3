/- The struct type Term as a Lean structure; contracts of the functions that convert, weigh, compare and mark lists of it. No statement of the seat is proved here. -/
import Derived.Test.YtnpfgngfolgdfaaList
import Derived.Test.YtnpfgngfolgdfaaStructs
namespace Go.Proofs.Ytnpfgngfolgdfaa
open Go.RowKit

structure Term where
  part : ByteArray
  days : Int
  tens : Int
  claims : Int
def eTerm : Enc Term := ⟨fun x => [.string x.part, .int .i64 x.days, .int .i64 x.tens, .int .i64 x.claims], 4, fun _ => rfl, fun x u hu => by simp at hu; rcases hu with rfl | rfl | rfl | rfl <;> rfl⟩
def aTerm (x : Term) : Value := .agg #[.string x.part, .int .i64 x.days, .int .i64 x.tens, .int .i64 x.claims]
def zTerm : Term := ⟨ByteArray.empty, 0, 0, 0⟩
theorem info_Term : (Try.prog.info? 72).map (fun i => (i.zero, i.size, i.bytes)) = some (some (.agg #[.string ⟨#[]⟩, .int .i64 0, .int .i64 0, .int .i64 0]), 4, 40) := by kernel_rfl

def strTerm (x : Term) : Nat := x.part.size
def okTerm (x : Term) : Prop := strTerm x ≤ 9223372036854775807

theorem toTerm_any (x : Term) (w : World) :
    Calls Try.prog 67 #[.agg #[.string x.part, .int .i64 x.days, .int .i64 x.tens, .int .i64 x.claims]] w fun e w' => e = .returned (.agg #[.string x.part, .int .i64 x.days, .int .i64 x.tens, .int .i64 x.claims]) ∧ Below w.heap.size w w' := by
  go_enter Try.func67, Try.ntmps67
  go_wp2
  refine bodyPost_ret (v := .agg #[.string x.part, .int .i64 x.days, .int .i64 x.tens, .int .i64 x.claims]) (by simp [results, Try.results67, go_sem]) rfl ⟨rfl, ?_⟩
  go_grown

set_option maxHeartbeats 1000000 in
set_option maxRecDepth 10000 in
theorem toTermS_any (v : Value) (xs : List Term) (w : World) (hv : Sl eTerm w v xs) (hn : xs.length ≤ 1048576) :
    Calls Try.prog 24 #[v] w fun e w' => ∃ u, e = .returned u ∧ Own eTerm w' w.heap.size 72 u xs ∧ Below w.heap.size w w' := by
  obtain ⟨A, cap, rfl, _, hm, hc⟩ := hv.shape
  obtain ⟨i0, hi, hz0, hz1, hz2⟩ := info_parts info_Term
  go_enter Try.func24, Try.ntmps24
  go_wp2_with (at_make; refine wpList_make_full _ rfl _ _ 35 rfl w.heap.size 72 i0 (.agg #[.string ⟨#[]⟩, .int .i64 0, .int .i64 0, .int .i64 0]) 4 Try.underlying35 hi hz0 hz1 .i64 .i64 _ _ xs.length rfl rfl rfl rfl ?c1 ?c2 (Nat.le_refl _) ?_)
  case c1 => rw [hz2]; omega
  case c2 => unfold maxLen; omega
  intro w1 hown hgrow
  have hb1 : Below w.heap.size w w1 := (Below.refl _ _).grown hgrow (Nat.le_refl _) (by simp)
  have hs1 : w.heap.size < w1.heap.size := (hown.lt _ rfl).2
  have hown0 : Own eTerm w1 w.heap.size 72 (.slice (some ⟨w.heap.size, 0, none⟩) xs.length xs.length) (copG zTerm xs 0) := by
    rw [copG_zero]
    exact Own.made eTerm zTerm (by decide) hown
  clear hown hgrow
  go_wp2
  go_loopg [4] xs.length (fun gi i wr => ∃ k : Nat, k ≤ xs.length ∧ gi = xs.length - k ∧ i = .int .i64 k ∧ Own eTerm wr w.heap.size 72 (.slice (some ⟨w.heap.size, 0, none⟩) xs.length xs.length) (copG zTerm xs k) ∧ Below w.heap.size w wr ∧ w.heap.size < wr.heap.size)
  case atStart => exact ⟨0, Nat.zero_le _, rfl, rfl, hown0, hb1, hs1⟩
  case round =>
    obtain ⟨k, hk, rfl, rfl, hown, hb, hs⟩ := hrel
    clear hown0 hb1 hs1
    by_cases hlt : k < xs.length
    · obtain ⟨b, off, rfl, hbl, hcell⟩ := hc (by omega)
      have hs0 : wr.cell? ⟨b, off + k * 4, none⟩ = some (.string xs[k].part) := (hb.cell (p := ⟨b, off + k * 4, none⟩) hbl).trans (by simpa [eTerm, Nat.add_assoc] using hcell k hlt 0 _ (by decide) rfl)
      have hs1 : wr.cell? ⟨b, off + k * 4 + 1, none⟩ = some (.int .i64 xs[k].days) := (hb.cell (p := ⟨b, off + k * 4 + 1, none⟩) hbl).trans (by simpa [eTerm, Nat.add_assoc] using hcell k hlt 1 _ (by decide) rfl)
      have hs2 : wr.cell? ⟨b, off + k * 4 + 2, none⟩ = some (.int .i64 xs[k].tens) := (hb.cell (p := ⟨b, off + k * 4 + 2, none⟩) hbl).trans (by simpa [eTerm, Nat.add_assoc] using hcell k hlt 2 _ (by decide) rfl)
      have hs3 : wr.cell? ⟨b, off + k * 4 + 3, none⟩ = some (.int .i64 xs[k].claims) := (hb.cell (p := ⟨b, off + k * 4 + 3, none⟩) hbl).trans (by simpa [eTerm, Nat.add_assoc] using hcell k hlt 3 _ (by decide) rfl)
      have HB := Lib.hid hb
      clear hc hcell
      go_wp2_with fail
      refine (toTerm_any xs[k] _).mono ?_
      rintro e w2 ⟨rfl, hb2⟩
      have hkn : k < (copG zTerm xs k).length := by rw [copG_len _ _ _ hk]; exact hlt
      obtain ⟨o0, hd0⟩ : ∃ u, w2.cell? ⟨w.heap.size, k * 4, none⟩ = some u := Own.old (hown.below hb2) k hkn 0 (by decide)
      have hf0 : w2.frozen? ⟨w.heap.size, k * 4, none⟩ = false := Own.free (hown.below hb2) (k * 4 + 0)
      obtain ⟨o1, hd1⟩ : ∃ u, w2.cell? ⟨w.heap.size, k * 4 + 1, none⟩ = some u := Own.old (hown.below hb2) k hkn 1 (by decide)
      have hf1 : w2.frozen? ⟨w.heap.size, k * 4 + 1, none⟩ = false := Own.free (hown.below hb2) (k * 4 + 1)
      obtain ⟨o2, hd2⟩ : ∃ u, w2.cell? ⟨w.heap.size, k * 4 + 2, none⟩ = some u := Own.old (hown.below hb2) k hkn 2 (by decide)
      have hf2 : w2.frozen? ⟨w.heap.size, k * 4 + 2, none⟩ = false := Own.free (hown.below hb2) (k * 4 + 2)
      obtain ⟨o3, hd3⟩ : ∃ u, w2.cell? ⟨w.heap.size, k * 4 + 3, none⟩ = some u := Own.old (hown.below hb2) k hkn 3 (by decide)
      have hf3 : w2.frozen? ⟨w.heap.size, k * 4 + 3, none⟩ = false := Own.free (hown.below hb2) (k * 4 + 3)
      have hsz2 := hb2.size
      have HO := Lib.hid ((hown.below hb2).store k hkn xs[k])
      have HB2 := Lib.hid (below_step2 hb hb2 (by omega))
      clear hown hb hb2
      go_wp2
      have HF := Lib.hid (HB2.out.grown HO.out.2 (by omega) (by intro q hq; cases hq; exact Nat.le_refl _))
      have hsF := HO.out.2.size
      go_roundg (xs.length - (k + 1))
      case measure => omega
      case rel => exact ⟨k + 1, by omega, rfl, by go_num, (by rw [← copG_succ _ _ _ hlt]; exact HO.out.1), HF.out, Nat.lt_of_lt_of_le (by omega) hsF⟩
    · obtain rfl : k = xs.length := by omega
      go_wp2
      go_ret
      rw [copG_all] at hown
      exact ⟨_, rfl, hown, hb⟩

theorem eqTerm_same (x : Term) (w : World) :
    Calls Try.prog 69 #[.agg #[.string x.part, .int .i64 x.days, .int .i64 x.tens, .int .i64 x.claims], .agg #[.string x.part, .int .i64 x.days, .int .i64 x.tens, .int .i64 x.claims]] w fun e w' => e = .returned (.bool true) ∧ Below w.heap.size w w' := by
  go_enter Try.func69, Try.ntmps69
  go_wp2
  go_ret
  refine ⟨rfl, ?_⟩
  go_grown

set_option maxHeartbeats 1000000 in
set_option maxRecDepth 10000 in
theorem eqTermS_same (v u : Value) (xs : List Term) (w : World) (hv : Sl eTerm w v xs) (hu : Sl eTerm w u xs) :
    Calls Try.prog 26 #[v, u] w fun e w' => e = .returned (.bool true) ∧ Below w.heap.size w w' := by
  obtain ⟨A, cap, rfl, _, hm, hc⟩ := hv.shape
  obtain ⟨A2, cap2, rfl, _, _, hc2⟩ := hu.shape
  go_enter Try.func26, Try.ntmps26
  go_wp2
  go_loopg [5] xs.length (fun gi i wr => ∃ k : Nat, k ≤ xs.length ∧ gi = xs.length - k ∧ i = .int .i64 k ∧ Below w.heap.size w wr ∧ w.heap.size ≤ wr.heap.size)
  case atStart => exact ⟨0, Nat.zero_le _, rfl, rfl, Below.refl _ _, Nat.le_refl _⟩
  case round =>
    obtain ⟨k, hk, rfl, rfl, hb, hs⟩ := hrel
    by_cases hlt : k < xs.length
    · obtain ⟨b, off, rfl, hbl, hcell⟩ := hc (by omega)
      obtain ⟨b2, off2, rfl, hbl2, hcell2⟩ := hc2 (by omega)
      have hs0 : wr.cell? ⟨b, off + k * 4, none⟩ = some (.string xs[k].part) := (hb.cell (p := ⟨b, off + k * 4, none⟩) hbl).trans (by simpa [eTerm, Nat.add_assoc] using hcell k hlt 0 _ (by decide) rfl)
      have ht0 : wr.cell? ⟨b2, off2 + k * 4, none⟩ = some (.string xs[k].part) := (hb.cell (p := ⟨b2, off2 + k * 4, none⟩) hbl2).trans (by simpa [eTerm, Nat.add_assoc] using hcell2 k hlt 0 _ (by decide) rfl)
      have hs1 : wr.cell? ⟨b, off + k * 4 + 1, none⟩ = some (.int .i64 xs[k].days) := (hb.cell (p := ⟨b, off + k * 4 + 1, none⟩) hbl).trans (by simpa [eTerm, Nat.add_assoc] using hcell k hlt 1 _ (by decide) rfl)
      have ht1 : wr.cell? ⟨b2, off2 + k * 4 + 1, none⟩ = some (.int .i64 xs[k].days) := (hb.cell (p := ⟨b2, off2 + k * 4 + 1, none⟩) hbl2).trans (by simpa [eTerm, Nat.add_assoc] using hcell2 k hlt 1 _ (by decide) rfl)
      have hs2 : wr.cell? ⟨b, off + k * 4 + 2, none⟩ = some (.int .i64 xs[k].tens) := (hb.cell (p := ⟨b, off + k * 4 + 2, none⟩) hbl).trans (by simpa [eTerm, Nat.add_assoc] using hcell k hlt 2 _ (by decide) rfl)
      have ht2 : wr.cell? ⟨b2, off2 + k * 4 + 2, none⟩ = some (.int .i64 xs[k].tens) := (hb.cell (p := ⟨b2, off2 + k * 4 + 2, none⟩) hbl2).trans (by simpa [eTerm, Nat.add_assoc] using hcell2 k hlt 2 _ (by decide) rfl)
      have hs3 : wr.cell? ⟨b, off + k * 4 + 3, none⟩ = some (.int .i64 xs[k].claims) := (hb.cell (p := ⟨b, off + k * 4 + 3, none⟩) hbl).trans (by simpa [eTerm, Nat.add_assoc] using hcell k hlt 3 _ (by decide) rfl)
      have ht3 : wr.cell? ⟨b2, off2 + k * 4 + 3, none⟩ = some (.int .i64 xs[k].claims) := (hb.cell (p := ⟨b2, off2 + k * 4 + 3, none⟩) hbl2).trans (by simpa [eTerm, Nat.add_assoc] using hcell2 k hlt 3 _ (by decide) rfl)
      have hbd : Below w.heap.size w wr.drew := hb.drew
      have hsd : w.heap.size ≤ wr.drew.heap.size := hs
      clear hc hcell hc2 hcell2 hb
      go_wp2
      go_still_tail 8, (by kernel_rfl)
      change wpList _ _ _ _ _ wr.drew
      generalize wr.drew = w2 at *
      go_wp2_with fail
      refine (eqTerm_same xs[k] w2).mono ?_
      rintro e w3 ⟨rfl, hb3⟩
      have hb4 := below_step2 hbd hb3 hsd
      have hs4 := hb4.size
      clear hbd hb3
      go_wp2
      go_roundg (xs.length - (k + 1))
      case measure => omega
      case rel => exact ⟨k + 1, by omega, rfl, by go_num, hb4, hs4⟩
    · go_wp2
      go_ret
      exact ⟨rfl, hb⟩

theorem szTerm_any (x : Term) (left : Int) (w : World) (h0 : 0 ≤ left) (h1 : left ≤ 1048576) (hn : okTerm x) :
    Calls Try.prog 65 #[.agg #[.string x.part, .int .i64 x.days, .int .i64 x.tens, .int .i64 x.claims], .int .i64 left] w fun e w' => e = .returned (.int .i64 (szr left (strTerm x))) ∧ Below w.heap.size w w' := by
  unfold okTerm strTerm at *
  by_cases h : left < x.part.size
  all_goals
    go_enter Try.func65, Try.ntmps65
    go_wp2
    go_ret
    refine ⟨ret_int (by unfold szr; split <;> omega), ?_⟩
    go_grown
def totTerm (xs : List Term) : Nat := xs.length + (xs.map strTerm).sum
theorem szTermS_big (A : Option Addr) (n cap : Nat) (left : Int) (w : World) (h0 : 0 ≤ left) (h1 : left ≤ 1048576) (hn : n ≤ 9223372036854775807) (h : left < n) :
    Calls Try.prog 22 #[.slice A n cap, .int .i64 left] w fun e w' => e = .returned (.int .i64 (-1)) ∧ w = w' := by
  go_enter Try.func22, Try.ntmps22
  go_wp2
  go_ret
  exact ⟨rfl, rfl⟩
set_option maxHeartbeats 1000000 in
set_option maxRecDepth 10000 in
theorem szTermS_ok (v : Value) (xs : List Term) (left : Int) (w : World) (h0 : 0 ≤ left) (h1 : left ≤ 1048576) (hv : Sl eTerm w v xs) (hst : ∀ x ∈ xs, okTerm x) :
    Calls Try.prog 22 #[v, .int .i64 left] w fun e w' => e = .returned (.int .i64 (szr left (totTerm xs))) ∧ Below w.heap.size w w' := by
  obtain ⟨A, cap, rfl, _, hm, hc⟩ := hv.shape
  by_cases hbig : left < xs.length
  · refine (szTermS_big A xs.length cap left w h0 h1 (by omega) hbig).mono (fun e w' ⟨he, hw⟩ => ⟨?_, by subst hw; exact Below.refl _ _⟩)
    rw [he]
    exact ret_int (by unfold szr totTerm; rw [if_neg (by omega)])
  have HST := Lib.hid hst
  clear hst
  go_enter Try.func22, Try.ntmps22
  go_wp2
  go_loopg [5, 1] xs.length (fun gi i q wr => ∃ (k : Nat) (l : Int), k ≤ xs.length ∧ gi = xs.length - k ∧ i = .int .i64 k ∧ q = .int .i64 l ∧ 0 ≤ l ∧ l ≤ left ∧ Hid (l = left - xs.length - ((xs.take k).map strTerm).sum) ∧ Below w.heap.size w wr ∧ w.heap.size ≤ wr.heap.size)
  case atStart => exact ⟨0, _, Nat.zero_le _, rfl, rfl, rfl, by omega, by omega, Lib.hid (by simp), Below.refl _ _, Nat.le_refl _⟩
  case round =>
    obtain ⟨k, l, hk, rfl, rfl, rfl, l0, l1, HL, hb, hs⟩ := hrel
    by_cases hlt : k < xs.length
    · obtain ⟨b, off, rfl, hbl, hcell⟩ := hc (by omega)
      have hs0 : wr.cell? ⟨b, off + k * 4, none⟩ = some (.string xs[k].part) := (hb.cell (p := ⟨b, off + k * 4, none⟩) hbl).trans (by simpa [eTerm, Nat.add_assoc] using hcell k hlt 0 _ (by decide) rfl)
      have hs1 : wr.cell? ⟨b, off + k * 4 + 1, none⟩ = some (.int .i64 xs[k].days) := (hb.cell (p := ⟨b, off + k * 4 + 1, none⟩) hbl).trans (by simpa [eTerm, Nat.add_assoc] using hcell k hlt 1 _ (by decide) rfl)
      have hs2 : wr.cell? ⟨b, off + k * 4 + 2, none⟩ = some (.int .i64 xs[k].tens) := (hb.cell (p := ⟨b, off + k * 4 + 2, none⟩) hbl).trans (by simpa [eTerm, Nat.add_assoc] using hcell k hlt 2 _ (by decide) rfl)
      have hs3 : wr.cell? ⟨b, off + k * 4 + 3, none⟩ = some (.int .i64 xs[k].claims) := (hb.cell (p := ⟨b, off + k * 4 + 3, none⟩) hbl).trans (by simpa [eTerm, Nat.add_assoc] using hcell k hlt 3 _ (by decide) rfl)
      have HB := Lib.hid hb
      have hx := HST.out _ (List.getElem_mem hlt)
      have hsum := sum_take_succ strTerm xs k hlt
      have hle := sum_take_le strTerm xs (k + 1)
      have HSU := Lib.hid hsum
      have HLE := Lib.hid hle
      clear hc hcell hb hsum hle
      go_wp2_with fail
      refine (szTerm_any xs[k] l wr l0 (by omega) hx).mono ?_
      rintro e w2 ⟨rfl, hb2⟩
      have hb3 := below_step2 HB.out hb2 hs
      have hs3 := hb3.size
      clear hb2
      by_cases hlt2 : strTerm xs[k] ≤ l
      · have e1 : szr l (strTerm xs[k]) = l - strTerm xs[k] := by unfold szr; rw [if_pos hlt2]
        rw [e1]
        clear e1
        go_wp2
        go_roundg (xs.length - (k + 1))
        case measure => omega
        case rel => exact ⟨k + 1, _, by omega, rfl, by go_num, rfl, by omega, by omega, Lib.hid (by rw [HSU.out, HL.out]; omega), hb3, hs3⟩
      · have e1 : szr l (strTerm xs[k]) = -1 := by unfold szr; rw [if_neg hlt2]
        rw [e1]
        clear e1
        go_wp2
        go_ret
        refine ⟨ret_int ?_, hb3⟩
        have h1 := HL.out
        have h2 := HSU.out
        have h3 := HLE.out
        unfold szr totTerm
        rw [if_neg (by omega)]
    · obtain rfl : k = xs.length := by omega
      go_wp2
      go_ret
      refine ⟨ret_int ?_, hb⟩
      have h1 := HL.out
      rw [List.take_length] at h1
      unfold szr totTerm
      rw [if_pos (by omega)]
      omega

end Go.Proofs.Ytnpfgngfolgdfaa
