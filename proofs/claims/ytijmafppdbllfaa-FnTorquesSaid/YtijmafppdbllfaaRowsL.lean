/- Contracts of the functions that compare, overwrite by marks and look through rows of two integers each. No statement of the seat is proved here. -/
import Derived.Test.YtijmafppdbllfaaPairs
namespace Go.Proofs.Ytijmafppdbllfaa
open Go.RowKit

set_option maxHeartbeats 1000000 in
theorem eqInt64SS_same (v u : Value) (ps : List (Int × Int)) (w : World) (hv : RdP w v ps) (hu : RdP w u ps) :
    Calls Try.prog 36 #[v, u] w fun e w' => e = .returned (.bool true) ∧ Below w.heap.size w w' := by
  refine toB_draw ?_
  obtain ⟨A, cap, rfl, _, hm, hc⟩ := hv.shape
  obtain ⟨A', cap', rfl, _, hm', hc'⟩ := hu.shape
  clear hv hu
  go_enter Try.func36, Try.ntmps36
  go_wp2
  go_loopw [5] (fun i wr => ∃ k : Nat, k ≤ ps.length ∧ i = .int .i64 k ∧ Hid (∃ m, wr = w.drewN m)) (fun i _ => ps.length - (intOf i).toNat)
  case atStart => exact ⟨0, Nat.zero_le _, rfl, Lib.hid ⟨0, rfl⟩⟩
  case round =>
    obtain ⟨k, hk, rfl, HW⟩ := hrel
    obtain ⟨m, rfl⟩ := HW.out
    by_cases hlt : k < ps.length
    · obtain ⟨b, off, rfl, _, hcell⟩ := hc (by omega)
      obtain ⟨b', off', rfl, _, hcell'⟩ := hc' (by omega)
      obtain ⟨q, hck, hq⟩ := hcell k hlt
      obtain ⟨q', hck', hq'⟩ := hcell' k hlt
      have HQ : Hid (∀ j, Calls Try.prog 18 #[.slice (some ⟨q, 0, none⟩) 2 2, .slice (some ⟨q', 0, none⟩) 2 2] (w.drewN j) fun e w' => e = .returned (.bool true) ∧ ∃ m, w' = (w.drewN j).drewN m) := Lib.hid fun j =>
        (eqInt64S_any _ _ _ _ (w.drewN j) hq.ints hq'.ints).mono fun _ _ ⟨h1, h2⟩ => ⟨by rw [h1]; exact ret_bool (by simp), h2⟩
      clear hcell hcell' hc hc' hq hq'
      go_wp2
      go_quiet (first | exact q_draw (HQ.out _) | exact q_draw2 (HQ.out _))
      go_wp2
      go_roundw
      case rel => exact ⟨k + 1, by omega, by go_num, Lib.hid ⟨_, rfl⟩⟩
      case measure => simp [intOf]; omega
    · go_wp2
      go_ret
      exact ⟨rfl, _, rfl⟩
def mkPair (m : Int) (i : Nat) : Int × Int := (m + 2 * i, m + 2 * i + 1)
def mkInt64SS (ps : List (Int × Int)) (m : Int) : List (Int × Int) := (List.range ps.length).map (mkPair m)
def cntInt64SS (ps : List (Int × Int)) : Nat := 2 * ps.length
theorem mkInt64SS_len (ps : List (Int × Int)) (m : Int) : (mkInt64SS ps m).length = ps.length := mkA_len _ _
theorem cntInt64SS_le (ps : List (Int × Int)) (h : ps.length ≤ 1048576) : cntInt64SS ps ≤ 10000000 := by unfold cntInt64SS; omega
theorem marks2 (a b m : Int) : mkInt64S [a, b] m = [m, m + 1] := by simp [mkInt64S, marks, List.range_succ]
set_option maxHeartbeats 1000000 in
set_option maxRecDepth 10000 in
theorem markInt64SS_law (v : Value) (ps : List (Int × Int)) (m : Int) (base : Nat) (w : World) (hv : OwnP w base v ps) (hn : ps.length ≤ 1048576) (hm0 : 0 ≤ m) (hm1 : m ≤ 100000000000) (hbw : base ≤ w.heap.size) :
    Calls Try.prog 37 #[v, .int .i64 m] w fun e w' => e = .returned (.int .i64 (m + (cntInt64SS ps : Nat))) ∧ OwnP w' base v (mkInt64SS ps m) ∧ Below base w w' := by
  by_cases hz : ps.length = 0
  · have hx : ps = [] := List.eq_nil_of_length_eq_zero hz
    subst hx
    obtain ⟨A, cap, rfl, _, _, _⟩ := (RdP.of_own hv (by simp)).shape
    have HV := Lib.hid hv
    clear hv hz
    go_enter Try.func37, Try.ntmps37
    go_wp2
    refine wp_loop_rounds 1 ?_
    rw [rounds_succ]
    go_wp2
    go_ret
    exact ⟨ret_int (by simp [cntInt64SS]), HV.out, Below.refl _ _⟩
  · obtain ⟨bs, h1, h2, h4, h3⟩ := hv
    obtain ⟨g, cap, rfl, hbg, hgl⟩ := World.ownsRow.form h1 (by omega)
    have H2 := Lib.hid h2
    have H4 := Lib.hid h4
    have H3 : Hid (∀ (k b : Nat) (p : Int × Int), bs[k]? = some b → (mkd (mkPair m) ps 0)[k]? = some p → base ≤ b ∧ PairAt w b p) := Lib.hid (by rw [mkd_zero]; exact h3)
    have h1' : Own eB w base 22 (.slice (some ⟨g, 0, none⟩) ps.length cap) bs := by rw [← h2]; exact h1
    have H1 := Lib.hid h1'
    rw [h2]
    clear h1 h2 h3 h4 hz hgl hbg h1'
    go_enter Try.func37, Try.ntmps37
    go_wp2
    go_loopg [5, 1] ps.length (fun gi i q wr => ∃ k : Nat, k ≤ ps.length ∧ gi = ps.length - k ∧ i = .int .i64 k ∧ q = .int .i64 (m + 2 * k) ∧ Hid (Own eB wr base 22 (.slice (some ⟨g, 0, none⟩) ps.length cap) bs) ∧ Hid (∀ (k' b : Nat) (p : Int × Int), bs[k']? = some b → (mkd (mkPair m) ps k)[k']? = some p → base ≤ b ∧ PairAt wr b p) ∧ Hid (Below base w wr) ∧ base ≤ wr.heap.size)
    case atStart => exact ⟨0, Nat.zero_le _, rfl, rfl, by go_num, H1, H3, Lib.hid (Below.refl _ _), hbw⟩
    case round =>
      obtain ⟨k, hk, rfl, rfl, rfl, HO, HC, HB, hs⟩ := hrel
      clear H1 H3 hbw
      by_cases hlt : k < ps.length
      · have hkb : k < bs.length := by rw [H2.out]; exact hlt
        have hlm : (mkd (mkPair m) ps k).length = ps.length := mkd_len _ _ _ hk
        obtain ⟨hb0, hp0⟩ := HC.out k bs[k] ((mkd (mkPair m) ps k)[k]'(by omega)) (by simp) (by simp)
        have hck : wr.cell? ⟨g, k, none⟩ = some (.slice (some ⟨bs[k], 0, none⟩) 2 2) := by
          have h0 : wr.ownsRow base 22 1 (.slice (some ⟨g, 0, none⟩) ps.length cap) bs.length (eB.all bs) := HO.out
          rw [← H2.out] at h0
          have h5 := h0.cellAt k (by omega)
          rw [h5]
          have h6 := eB.at_ bs k hkb 0 (by decide)
          have e : k * eB.sz + 0 = k := by simp [eB]
          rw [e] at h6
          rw [h6]
          rfl
        have HP := Lib.hid hp0
        have HB0 := Lib.hid hb0
        have HKB : Hid (bs[k]? = some bs[k]) := Lib.hid (by simp)
        clear hb0 hp0
        generalize ((mkd (mkPair m) ps k)[k]'(by omega)) = pk at *
        generalize bs[k] = q at *
        clear hkb hlm
        go_wp2_with fail
        refine (markInt64S_law (.slice (some ⟨q, 0, none⟩) 2 2) [pk.1, pk.2] (m + 2 * k) base wr (HP.out.own HB0.out) (by simp) (by omega) (by omega)).mono ?_
        rintro e w2 ⟨rfl, ho2, hg2⟩
        rw [marks2] at ho2
        have hp2 : PairAt w2 q (mkPair m k) := PairAt.of_own ho2
        have hset := OwnP.set (k := k) HO.out (by rw [H2.out, mkd_len _ _ _ hk]) H4.out HC.out (by rw [mkd_len _ _ _ hk]; exact hlt) HKB.out hp2 hg2
        have hb2 : Below base w w2 := HB.out.grown hg2 hs (fun j hj => by simp [Value.ownBlock] at hj; have := HB0.out; omega)
        have hs2 := hg2.size
        have HST := Lib.hid hset
        have HB2 := Lib.hid hb2
        clear hset hb2 hp2 ho2 hg2
        go_wp2
        go_roundg (ps.length - (k + 1))
        case measure => omega
        case rel => exact ⟨k + 1, by omega, rfl, by go_num, by simp [cntInt64S]; go_num, Lib.hid HST.out.1, Lib.hid (by have h := HST.out.2.2.2; rw [show (mkd (mkPair m) ps k).set k (m + 2 * (k : Int), m + 2 * (k : Int) + 1) = mkd (mkPair m) ps (k + 1) from mkd_succ (mkPair m) ps k hlt] at h; exact h), HB2, by omega⟩
      · obtain rfl : k = ps.length := by omega
        have H := HC.out
        rw [mkd_all] at H
        have HC2 := Lib.hid H
        clear H
        go_wp2
        go_ret
        exact ⟨ret_int (by simp [cntInt64SS]), ⟨bs, by have h := HO.out; rw [← H2.out] at h; rw [← H2.out]; exact h, by rw [H2.out, mkInt64SS_len], H4.out, HC2.out⟩, HB.out⟩
set_option maxHeartbeats 1000000 in
set_option maxRecDepth 10000 in
theorem heldInt64SS_law (v : Value) (ps : List (Int × Int)) (m : Int) (w : World) (hv : RdP w v (mkInt64SS ps m)) (hn : ps.length ≤ 1048576) (hm0 : 0 ≤ m) (hm1 : m ≤ 100000000000) :
    Calls Try.prog 38 #[v, .int .i64 m] w fun e w' => e = .returned (.int .i64 (m + (cntInt64SS ps : Nat))) ∧ Below w.heap.size w w' := by
  refine toB_same ?_
  obtain ⟨A, cap, e0, _, _, hc⟩ := hv.shape
  rw [mkInt64SS_len] at e0
  subst e0
  clear hv
  go_enter Try.func38, Try.ntmps38
  go_wp2
  go_loop [5, 1] (fun i q => ∃ k : Nat, k ≤ ps.length ∧ i = .int .i64 k ∧ q = .int .i64 (m + 2 * k)) (fun i _ => ps.length - (intOf i).toNat)
  case atStart => exact ⟨0, Nat.zero_le _, rfl, by go_num⟩
  case round =>
    obtain ⟨k, hk, rfl, rfl⟩ := hrel
    by_cases hlt : k < ps.length
    · have hlm : k < (mkInt64SS ps m).length := by rw [mkInt64SS_len]; exact hlt
      obtain ⟨b, off, rfl, _, hcell⟩ := hc (by omega)
      obtain ⟨q, hck, hq⟩ := hcell k hlm
      have hat : (mkInt64SS ps m)[k] = mkPair m k := mkA_at _ _ k hlm
      rw [hat] at hq
      have HQ : Hid (Calls Try.prog 26 #[.slice (some ⟨q, 0, none⟩) 2 2, .int .i64 (m + 2 * k)] w fun e w' => e = .returned (.int .i64 (m + 2 * k + 2)) ∧ w = w') := Lib.hid
        ((heldInt64S_any (.slice (some ⟨q, 0, none⟩) 2 2) 2 (m + 2 * k) w (by have h := hq.ints; simpa [mkPair, marks, List.range_succ] using h) (by omega) (by omega) (by omega)))
      clear hcell hc hat hq hlm
      go_wp2_with fail
      refine HQ.out.mono ?_
      rintro e w2 ⟨rfl, rfl⟩
      go_wp2
      go_round
      case rel => exact ⟨k + 1, by omega, by go_num, by go_num⟩
      case measure => simp [intOf]; omega
    · obtain rfl : k = ps.length := by omega
      go_wp2
      go_ret
      exact ⟨ret_int (by simp [cntInt64SS]), rfl⟩
end Go.Proofs.Ytijmafppdbllfaa
