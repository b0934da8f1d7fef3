/- Contracts of the functions that read, copy, compare and mark lists of integers. No statement of the seat is proved here. -/
import Derived.Test.YtnpfgngfolgdfaaInts
namespace Go.Proofs.Ytnpfgngfolgdfaa
open Go.RowKit

theorem own_made (w : World) (base n : Nat) (t : TypeId) (z v : Value) (h : w.ownsRow base t 1 v n (madeCells #[z] n).toList) : w.ownsRow base t 1 v n (List.replicate n z) := by
  rw [toList_madeCells_one] at h; simpa using h



theorem eq_take_succ {α : Type} {xs ys : List α} {k : Nat} (h : xs.take k = ys.take k) (h1 : k < xs.length) (h2 : k < ys.length) (he : xs[k] = ys[k]) : xs.take (k + 1) = ys.take (k + 1) := by
  rw [List.take_succ_eq_append_getElem h1, List.take_succ_eq_append_getElem h2, h, he]
set_option maxHeartbeats 400000 in
theorem eqInt64S_any (v u : Value) (xs ys : List Int) (w : World) (hv : Ints w v xs) (hu : Ints w u ys) :
    Calls Try.prog 41 #[v, u] w fun e w' => e = .returned (.bool (decide (xs = ys))) ∧ ∃ m, w' = w.drewN m := by
  obtain ⟨A, cap, rfl, _, hm, hc⟩ := Ints.shape hv
  obtain ⟨A', cap', rfl, _, hm', hc'⟩ := Ints.shape hu
  by_cases hl : xs.length = ys.length
  rotate_left
  · have e1 : ((xs.length : Int) != ys.length) = true := by rw [bne_iff_ne]; omega
    clear hc hc'
    go_enter Try.func41, Try.ntmps41
    go_wp2
    go_ret
    exact ⟨ret_bool (by symm; rw [decide_eq_false_iff_not]; intro h; exact hl (by rw [h])), 0, rfl⟩
  have e1 : ((xs.length : Int) != ys.length) = false := by rw [bne_eq_false_iff_eq]; omega
  have HL := Lib.hid hl
  have hl1 : xs.length ≤ ys.length := by omega
  have hl2 : ys.length ≤ xs.length := by omega
  clear hl
  go_enter Try.func41, Try.ntmps41
  go_wp2
  go_loopw [5] (fun i wr => ∃ k : Nat, k ≤ xs.length ∧ i = .int .i64 k ∧ Hid (xs.take k = ys.take k) ∧ Hid (∃ m, wr = w.drewN m)) (fun i _ => xs.length - (intOf i).toNat)
  case atStart => exact ⟨0, Nat.zero_le _, rfl, Lib.hid rfl, Lib.hid ⟨0, rfl⟩⟩
  case round =>
    obtain ⟨k, hk, rfl, HA, HW⟩ := hrel
    obtain ⟨m, rfl⟩ := HW.out
    by_cases hlt : k < xs.length
    · obtain ⟨b, off, rfl, _, hcell⟩ := hc (by omega)
      obtain ⟨b', off', rfl, _, hcell'⟩ := hc' (by omega)
      have hlt' : k < ys.length := by omega
      have hck := hcell k hlt
      have hck' := hcell' k hlt'
      clear hcell hcell' hc hc'
      go_wp2
      go_quiet (fail)
      rcases hx : (xs[k] != ys[k])
      · go_wp2
        go_roundw
        case rel => exact ⟨k + 1, by omega, by go_num, Lib.hid (eq_take_succ HA.out hlt hlt' (by simpa using hx)), Lib.hid ⟨_, rfl⟩⟩
        case measure => simp [intOf]; omega
      · go_wp2
        go_ret
        exact ⟨ret_bool (by symm; rw [decide_eq_false_iff_not]; intro h; subst h; simp at hx), _, World.drewN_drewN _ _ _⟩
    · go_wp2
      go_ret
      exact ⟨ret_bool (by symm; rw [decide_eq_true_iff]; have := HA.out; rwa [List.take_of_length_le (by omega), List.take_of_length_le (by omega)] at this), _, rfl⟩

theorem eqInt64S_same (v u : Value) (xs : List Int) (w : World) (hv : Ints w v xs) (hu : Ints w u xs) :
    Calls Try.prog 41 #[v, u] w fun e w' => e = .returned (.bool true) ∧ Below w.heap.size w w' :=
  (eqInt64S_any v u xs xs w hv hu).mono fun _ _ ⟨he, m, hm⟩ => ⟨by rw [he]; exact ret_bool (by simp), by subst hm; exact below_of_drewN m⟩

/-- the marks behind k rounds -/
def marked (xs : List Int) (m : Int) (k : Nat) : List Int := (List.range k).map (fun (i : Nat) => m + (i : Int)) ++ xs.drop k
theorem marked_len (xs : List Int) (m : Int) (k : Nat) (h : k ≤ xs.length) : (marked xs m k).length = xs.length := by simp [marked]; omega
theorem marked_zero (xs : List Int) (m : Int) : marked xs m 0 = xs := by simp [marked]
theorem marked_succ (xs : List Int) (m : Int) (k : Nat) (h : k < xs.length) : (marked xs m k).set k (m + k) = marked xs m (k + 1) := by
  unfold marked
  rw [List.set_append_right _ _ (by simp)]
  rw [List.range_succ, List.map_append, List.append_assoc]
  congr 1
  rw [List.drop_eq_getElem_cons h]
  simp only [List.length_map, List.length_range, Nat.sub_self, List.set_cons_zero]
  rfl
def marks (n : Nat) (m : Int) : List Int := (List.range n).map (fun (i : Nat) => m + (i : Int))
theorem marked_all (xs : List Int) (m : Int) : marked xs m xs.length = marks xs.length m := by simp [marked, marks]
theorem marks_len (n : Nat) (m : Int) : (marks n m).length = n := by simp [marks]
theorem marks_at (n : Nat) (m : Int) (k : Nat) (h : k < (marks n m).length) : (marks n m)[k] = m + k := by simp [marks]
set_option maxHeartbeats 400000 in
theorem markInt64S_any (v : Value) (xs : List Int) (m : Int) (base : Nat) (w : World) (hv : Own eI w base 2 v xs) (hn : xs.length ≤ 1000000000) (hm0 : 0 ≤ m) (hm1 : m ≤ 1000000000000) :
    Calls Try.prog 43 #[v, .int .i64 m] w fun e w' => e = .returned (.int .i64 (m + xs.length)) ∧ Own eI w' base 2 v (marks xs.length m) ∧ w.grownBy w' v.ownBlock := by
  by_cases hz : xs.length = 0
  · have hx : xs = [] := List.eq_nil_of_length_eq_zero hz
    subst hx
    obtain ⟨A, cap, rfl, _, _, _⟩ := Ints.shape (Sl.of_own hv (by simp [big40]))
    have HV := Lib.hid hv
    clear hv hz
    go_enter Try.func43, Try.ntmps43
    go_wp2
    refine wp_loop_rounds 1 ?_
    rw [rounds_succ]
    go_wp2
    go_ret
    exact ⟨ret_int (by simp), HV.out, World.grownBy.refl _ _⟩
  · obtain ⟨g, cap, rfl, hbg, hgl⟩ := World.ownsRow.form hv (by omega)
    have hv0 : Own eI w base 2 (.slice (some ⟨g, 0, none⟩) xs.length cap) (marked xs m 0) := by rw [marked_zero]; exact hv
    clear hv hz
    go_enter Try.func43, Try.ntmps43
    go_wp2
    go_loopw [5, 1] (fun i q wr => ∃ k : Nat, k ≤ xs.length ∧ i = .int .i64 k ∧ q = .int .i64 (m + k) ∧ Own eI wr base 2 (.slice (some ⟨g, 0, none⟩) xs.length cap) (marked xs m k) ∧ w.grownBy wr (some g)) (fun i _ _ => xs.length - (intOf i).toNat)
    case atStart => exact ⟨0, Nat.zero_le _, rfl, by go_num, hv0, World.grownBy.refl _ _⟩
    case round =>
      obtain ⟨k, hk, rfl, rfl, hown, hg⟩ := hrel
      clear hv0
      by_cases hlt : k < xs.length
      · have hown' : wr.ownsRow base 2 1 (.slice (some ⟨g, 0, none⟩) xs.length cap) xs.length ((marked xs m k).map (Value.int .i64)) := by
          unfold Own at hown; rw [marked_len _ _ _ hk, eI_all] at hown; exact hown
        have hst : wr.cell? ⟨g, k, none⟩ = some (.int .i64 ((marked xs m k).getD k 0)) := by
          rw [hown'.cellAt k (by omega)]
          have : k < (marked xs m k).length := by rw [marked_len _ _ _ hk]; exact hlt
          simp [List.getElem?_eq_getElem this]
        have hfr : wr.frozen? ⟨g, k, none⟩ = false := hown'.frozenAt k
        have hnew := hown'.stored k (.int .i64 (m + k))
        have HN := Lib.hid hnew
        have HG := Lib.hid hg
        clear hnew hown hown' hg
        go_wp2
        go_roundw
        case rel =>
          refine ⟨k + 1, by omega, by go_num, by go_num, ?_, ?_⟩
          · have h := HN.out.1
            unfold Own
            rw [marked_len _ _ _ (by omega), eI_all, ← marked_succ _ _ _ hlt, List.map_set]
            exact h
          · have h1 := HG.out
            have h2 := HN.out.2
            exact ⟨h2.os.trans h1.os, h2.tape.trans h1.tape, h2.output.trans h1.output, Nat.le_trans h1.size h2.size, fun i hi hne => (h2.block i (Nat.lt_of_lt_of_le hi h1.size) hne).trans (h1.block i hi hne)⟩
        case measure => simp [intOf]; omega
      · obtain rfl : k = xs.length := by omega
        have HO := Lib.hid hown
        clear hown
        go_wp2
        go_ret
        refine ⟨ret_int rfl, ?_, hg⟩
        have h := HO.out
        rw [marked_all] at h
        unfold Own at h ⊢
        rw [marks_len] at h ⊢
        exact h
set_option maxHeartbeats 400000 in
theorem heldInt64S_any (v : Value) (n : Nat) (m : Int) (w : World) (hv : Ints w v (marks n m)) (hn : n ≤ 1000000000) (hm0 : 0 ≤ m) (hm1 : m ≤ 1000000000000) :
    Calls Try.prog 44 #[v, .int .i64 m] w fun e w' => e = .returned (.int .i64 (m + n)) ∧ w = w' := by
  obtain ⟨A, cap, e0, _, _, hc⟩ := Ints.shape hv
  rw [marks_len] at e0
  subst e0
  go_enter Try.func44, Try.ntmps44
  go_wp2
  go_loop [5, 1] (fun i q => ∃ k : Nat, k ≤ n ∧ i = .int .i64 k ∧ q = .int .i64 (m + k)) (fun i _ => n - (intOf i).toNat)
  case atStart => exact ⟨0, Nat.zero_le _, rfl, by go_num⟩
  case round =>
    obtain ⟨k, hk, rfl, rfl⟩ := hrel
    by_cases hlt : k < n
    · obtain ⟨b, off, rfl, _, hcell⟩ := hc (by rw [marks_len]; omega)
      have hck := hcell k (by rw [marks_len]; omega)
      rw [marks_at] at hck
      clear hcell hc
      go_wp2
      go_round
      case rel => exact ⟨k + 1, by omega, by go_num, by go_num⟩
      case measure => simp [intOf]; omega
    · obtain rfl : k = n := by omega
      go_wp2
      go_ret
      exact ⟨ret_int rfl, rfl⟩
def cntInt64S (xs : List Int) : Nat := xs.length
def mkInt64S (xs : List Int) (m : Int) : List Int := marks xs.length m
theorem mkInt64S_len (xs : List Int) (m : Int) : (mkInt64S xs m).length = xs.length := marks_len _ _
theorem cntInt64S_le (xs : List Int) (h : xs.length ≤ 1048576) : cntInt64S xs ≤ 10000000 := by unfold cntInt64S; omega
theorem markInt64S_law (v : Value) (xs : List Int) (m : Int) (base : Nat) (w : World) (hv : Own eI w base 2 v xs) (hn : xs.length ≤ 1048576) (hm0 : 0 ≤ m) (hm1 : m ≤ 1000000000000) :
    Calls Try.prog 43 #[v, .int .i64 m] w fun e w' => e = .returned (.int .i64 (m + (cntInt64S xs : Nat))) ∧ Own eI w' base 2 v (mkInt64S xs m) ∧ w.grownBy w' v.ownBlock :=
  markInt64S_any v xs m base w hv (by omega) hm0 hm1
theorem heldInt64S_law (v : Value) (xs : List Int) (m : Int) (w : World) (hv : Ints w v (mkInt64S xs m)) (hn : xs.length ≤ 1048576) (hm0 : 0 ≤ m) (hm1 : m ≤ 1000000000000) :
    Calls Try.prog 44 #[v, .int .i64 m] w fun e w' => e = .returned (.int .i64 (m + (cntInt64S xs : Nat))) ∧ Below w.heap.size w w' :=
  toB_same (heldInt64S_any v xs.length m w hv (by omega) hm0 hm1)
end Go.Proofs.Ytnpfgngfolgdfaa
