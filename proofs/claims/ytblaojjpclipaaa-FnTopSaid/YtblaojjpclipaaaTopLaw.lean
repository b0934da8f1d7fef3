/- The plain law on the cheapest bicycle: it fits in all of its ports (P18). No statement of the seat is proved here. -/
import Derived.Test.YtblaojjpclipaaaBoth
namespace Go.Proofs.Ytblaojjpclipaaa
open Go.RowKit

theorem bikeE_0 {ps : List Part} {js : List Joint} (h : bikeE ps js = 0) : areParts ps = true ∧ areJoints js = true ∧ Both ps js ∧ bikeB ps js ∈ allB ps js := by
  rcases hb : bothB ps js
  · rw [(bike_no hb).2.2.1] at h; cases h
  · obtain ⟨e1, _, e3, _⟩ := bike_yes hb
    have hO := both_ok hb
    unfold bothB at hb
    rw [Bool.and_eq_true] at hb
    refine ⟨hb.1, hb.2, hO, ?_⟩
    rw [e1]
    rw [e3] at h
    cases hl : bestL ps (allB ps js) with
    | none => rw [(best_none hl).2.2] at h; cases h
    | some x =>
      obtain ⟨c, m⟩ := x
      rw [(best_some hl).1]
      exact bestL_mem hl
theorem bike_len {ps : List Part} {js : List Joint} (h : bikeE ps js = 0) : (bikeB ps js).length = 8 := (allB_fit _ (bikeE_0 h).2.2.2).1
/-- the cheapest bicycle fits at each joint -/
theorem bike_at {ps : List Part} {js : List Joint} (h : bikeE ps js = 0) {j : Joint} (hj : j ∈ js) : okJ j ∧ 0 ≤ j.kind ∧ j.kind ≤ 9 ∧
    ∃ (k1 : Nat) (h1 : k1 < ps.length) (k2 : Nat) (h2 : k2 < ps.length), firstAt (isCode (getC (bikeB ps js) j.a)) ps = (k1 : Int) ∧ firstAt (isCode (getC (bikeB ps js) j.b)) ps = (k2 : Int) ∧ jOut j.kind ps[k2].ports ps[k1].ports = true ∧ isPartB ps[k1] = true ∧ isPartB ps[k2] = true := by
  obtain ⟨hA, hJ, hO, hm⟩ := bikeE_0 h
  obtain ⟨s1, _, s3, s4⟩ := srch_fit (slots_ok js) (fit_empt ps) hm
  have hok := hO.jok j hj
  obtain ⟨ma, mb⟩ := slots_a hj hok
  have h4 := s4 (fun e => by rw [e] at ma; cases ma)
  have fa := s3 _ ma
  have fb := s3 _ mb
  obtain ⟨k1, h1, e1, p1, _⟩ := part_at fa
  obtain ⟨k2, h2, e2, p2, _⟩ := part_at fb
  have hbr : brokenB ps (bikeB ps js) j = false := by
    unfold anyBr at h4
    rw [List.any_eq_false] at h4
    have := h4 j hj
    simpa using this
  have ne : ∀ {c : ByteArray}, 0 ≤ firstAt (isCode c) ps → emp c = false := fun {c} hc => by
    rcases he : emp c
    · rfl
    · rw [find_emp hO.cne he] at hc
      omega
  have ho : openB (bikeB ps js) j = false := by unfold openB; rw [ne fa, ne fb]; rfl
  unfold brokenB at hbr
  rw [ho, p1, p2] at hbr
  obtain ⟨_, hpb⟩ := parts_at hA
  obtain ⟨_, hjb⟩ := areJoints_at hJ
  obtain ⟨_, _, _, _, _, q1, q2⟩ := hjb j hj
  exact ⟨hok, q1, q2, k1, h1, k2, h2, e1, e2, by simpa using hbr, hpb _ (List.getElem_mem h1), hpb _ (List.getElem_mem h2)⟩
end Go.Proofs.Ytblaojjpclipaaa
