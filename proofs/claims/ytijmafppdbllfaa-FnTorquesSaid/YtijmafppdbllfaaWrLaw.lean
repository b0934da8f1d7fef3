/- The plain law of the torques without a wrench (P26), and the contract of likeRows. No statement of the seat is proved here. -/
import Derived.Test.YtijmafppdbllfaaUncP
import Derived.Test.YtijmafppdbllfaaLaws
namespace Go.Proofs.Ytijmafppdbllfaa
open Go.RowKit

def inP (t : Int) (p : Int × Int) : Bool := decide (p.1 ≤ t) && decide (t ≤ p.2)
theorem bestW_in {t : Int} {xs : List Wrench} : ∀ k j : Nat, bestW t xs k = (j : Int) → inR t (xs.getD j zWrench).least (xs.getD j zWrench).most = true ∧ j < k
  | 0, j, h => by simp [bestW] at h
  | k + 1, j, h => by
    rw [bestW] at h
    split at h
    · rename_i hc
      rw [Bool.and_eq_true] at hc
      obtain rfl : k = j := by omega
      exact ⟨hc.1, by omega⟩
    · have := bestW_in k j h
      exact ⟨this.1, by omega⟩
theorem nil_or_snoc {α : Type} (l : List α) : l = [] ∨ ∃ (q : List α) (p : α), l = q ++ [p] := by
  rcases List.eq_nil_or_concat l with h | ⟨q, p, h⟩
  · exact .inl h
  · exact .inr ⟨q, p, by rw [h, List.concat_eq_append]⟩
structure UncOk (xs : List Wrench) (k : Nat) (ps : List (Int × Int)) : Prop where
  a : ∀ t : Int, 1 ≤ t → t ≤ k → ps.any (inP t) = !cov xs t
  b : ∀ p ∈ ps, 1 ≤ p.1 ∧ p.1 ≤ p.2 ∧ p.2 ≤ k
  c : ps.Pairwise fun p q => p.2 + 1 < q.1
theorem any_out {ps : List (Int × Int)} {k : Nat} (h : ∀ p ∈ ps, 1 ≤ p.1 ∧ p.1 ≤ p.2 ∧ p.2 ≤ k) : ps.any (inP ((k : Int) + 1)) = false := by
  rw [List.any_eq_false]
  intro p hp
  have := h p hp
  unfold inP
  simp; omega
theorem uncOk (xs : List Wrench) : ∀ k, UncOk xs k (unc xs k)
  | 0 => ⟨fun t h1 h2 => by omega, fun p hp => by simp [unc] at hp, by simp [unc]⟩
  | k + 1 => by
    obtain ⟨ha, hb, hc⟩ := uncOk xs k
    rcases hcv : cov xs ((k : Int) + 1)
    · by_cases hl : 0 < (unc xs k).length ∧ ((unc xs k).getD ((unc xs k).length - 1) (0, 0)).2 = k
      · rw [unc_bump hcv hl.1 hl.2]
        generalize unc xs k = ps at *
        rcases nil_or_snoc ps with rfl | ⟨qs, ⟨a, z⟩, rfl⟩
        · simp at hl
        · rw [getD_last] at hl
          obtain ⟨_, hz⟩ := hl
          simp only at hz
          subst hz
          rw [bump_last]
          have hba := hb (a, (k : Int)) (by simp)
          refine ⟨fun t h1 h2 => ?_, fun p hp => ?_, ?_⟩
          · rw [List.any_append]
            by_cases he : t = (k : Int) + 1
            · subst he
              have h3 : qs.any (inP ((k : Int) + 1)) = false := any_out (fun p hp => hb p (by simp [hp]))
              rw [h3, hcv]
              unfold inP
              simp; omega
            · have h3 := ha t h1 (by omega)
              rw [List.any_append] at h3
              rw [← h3]
              congr 1
              unfold inP
              simp only [List.any_cons, List.any_nil, Bool.or_false]
              congr 1
              rw [decide_eq_decide]
              omega
          · rcases List.mem_append.1 hp with hp | hp
            · have := hb p (by simp [hp]); omega
            · rw [List.mem_singleton.1 hp]; simp only at *; omega
          · rw [List.pairwise_append] at hc ⊢
            refine ⟨hc.1, by simp, fun p hp q hq => ?_⟩
            rw [List.mem_singleton.1 hq]
            exact hc.2.2 p hp (a, (k : Int)) (by simp)
      · rw [unc_new hcv hl]
        have hlt : ∀ p ∈ unc xs k, p.2 < k := by
          generalize unc xs k = ps at *
          rcases nil_or_snoc ps with rfl | ⟨qs, ⟨a, z⟩, rfl⟩
          · intro p hp; simp at hp
          · rw [getD_last] at hl
            have hba := hb (a, z) (by simp)
            have hne : z ≠ k := fun e => hl ⟨by simp, e⟩
            rw [List.pairwise_append] at hc
            intro p hp
            rcases List.mem_append.1 hp with hp | hp
            · have := hc.2.2 p hp (a, z) (by simp)
              simp only at *; omega
            · rw [List.mem_singleton.1 hp]; simp only at *; omega
        refine ⟨fun t h1 h2 => ?_, fun p hp => ?_, ?_⟩
        · rw [List.any_append]
          by_cases he : t = (k : Int) + 1
          · subst he
            rw [any_out hb, hcv]
            simp [inP]
          · rw [ha t h1 (by omega)]
            have h4 : [((k : Int) + 1, (k : Int) + 1)].any (inP t) = false := by simp [inP]; omega
            rw [h4, Bool.or_false]
        · rcases List.mem_append.1 hp with hp | hp
          · have := hb p hp; omega
          · rw [List.mem_singleton.1 hp]; simp only; omega
        · rw [List.pairwise_append]
          refine ⟨hc, by simp, fun p hp q hq => ?_⟩
          rw [List.mem_singleton.1 hq]
          have := hlt p hp
          simp only; omega
    · rw [unc_cov hcv]
      refine ⟨fun t h1 h2 => ?_, fun p hp => by have := hb p hp; omega, hc⟩
      by_cases he : t = (k : Int) + 1
      · subst he
        rw [any_out hb, hcv]; rfl
      · exact ha t h1 (by omega)
set_option maxHeartbeats 1000000 in
theorem likeRows_same (v u : Value) (ps : List (Int × Int)) (w : World) (hv : RdP w v ps) (hu : RdP w u ps) :
    Calls Try.prog 46 #[v, u] w fun e w' => e = .returned (.bool true) ∧ ∃ m, w' = w.drewN m := by
  obtain ⟨A, cap, rfl, _, hm, hc⟩ := hv.shape
  obtain ⟨A', cap', rfl, _, hm', hc'⟩ := hu.shape
  clear hv hu
  go_enter Try.func46, Try.ntmps46
  go_wp2
  go_loopw [5] (fun i wr => ∃ k : Nat, k ≤ ps.length ∧ i = .int .i64 k ∧ Hid (∃ m, wr = w.drewN m)) (fun i _ => ps.length - (intOf i).toNat)
  case atStart => exact ⟨0, Nat.zero_le _, rfl, Lib.hid ⟨0, rfl⟩⟩
  case round =>
    obtain ⟨k, hk, rfl, HW⟩ := hrel
    obtain ⟨m, rfl⟩ := HW.out
    by_cases hlt : k < ps.length
    · obtain ⟨b, off, rfl, _, hcell⟩ := hc (by omega)
      obtain ⟨b', off', rfl, _, hcell'⟩ := hc' (by omega)
      obtain ⟨q, hck, hq⟩ := hcell k hlt
      obtain ⟨q', hck', hq'⟩ := hcell' k hlt
      have HQ : Hid (∀ j, Calls Try.prog 49 #[.slice (some ⟨q, 0, none⟩) 2 2, .slice (some ⟨q', 0, none⟩) 2 2] (w.drewN j) fun e w' => e = .returned (.bool true) ∧ ∃ m, w' = (w.drewN j).drewN m) := Lib.hid fun j =>
        likeInts_same _ _ _ (w.drewN j) hq.ints hq'.ints
      clear hcell hcell' hc hc' hq hq'
      go_wp2
      go_quiet (first | exact q_draw (HQ.out _) | exact q_draw2 (HQ.out _))
      go_wp2
      go_roundw
      case rel => exact ⟨k + 1, by omega, by go_num, Lib.hid ⟨_, rfl⟩⟩
      case measure => simp [intOf]; omega
    · go_wp2
      go_ret
      exact ⟨rfl, _, rfl⟩
end Go.Proofs.Ytijmafppdbllfaa
