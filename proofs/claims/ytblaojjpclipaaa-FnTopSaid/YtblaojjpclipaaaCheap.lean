/- Contracts of l18All and of both CheapestBicycle (chapter 18). No statement of the seat is proved here. -/
import Derived.Test.YtblaojjpclipaaaSrchS
import Derived.Test.YtblaojjpclipaaaBest
import Derived.Test.YtblaojjpclipaaaInv
import Derived.Test.YtblaojjpclipaaaPartsS
import Derived.Test.YtblaojjpclipaaaJoints
namespace Go.Proofs.Ytblaojjpclipaaa
open Go.RowKit

/-- 'make' at a statement that draws its order: eight empty texts -/
theorem wp_mk8 {w0 w : World} {o : Oper} {a : Act} {K : Act → World → Prop} {Q : Exit → Act → World → Prop} (hb : Below w0.heap.size w0 w) (l c : Operand) (t : TypeId) (hop : o.op = Op.makeSlice t l c) (kl kc : IntKind) (hl : a.eval l = .int kl 8) (hc : a.eval c = .int kc 8) (ht : Try.prog.underlying t = some (.slice 9))
    (h : ∀ v w', Own eS w' w0.heap.size 9 v empt8 → Below w.heap.size w w' → K (a.put o.dst v) w') : o.wp Try.prog a w K Q := by
  obtain ⟨i0, hi, hz0, hz1, hz2⟩ := info_parts info_str
  obtain ⟨w', hrun, r1, r2⟩ := run_make_full (P := Try.prog) w w0.heap.size t 9 i0 (.string ⟨#[]⟩) 1 ht hi hz0 hz1 kl kc 8 (by rw [hz2]; omega) (by unfold maxLen; omega) hb.size
  have hB : Below w.heap.size w w' := (Below.refl _ _).grown r2 (Nat.le_refl _) (by simp)
  have hO : Own eS w' w0.heap.size 9 (.slice (some ⟨w.heap.size, 0, none⟩) 8 8) empt8 := by
    have h := own_made _ _ _ _ _ _ r1
    unfold Own
    rw [empt8_len, eS_all]
    exact h
  unfold Oper.wp
  have e8 : ((8 : Nat) : Int) = 8 := rfl
  simp only [e8] at hrun
  simp [execOp, hop, hl, hc, hrun, Result.andThen]
  exact h _ _ hO hB
set_option maxHeartbeats 8000000 in
set_option maxRecDepth 20000 in
theorem l18All_any (pv jv : Value) (ps : List Part) (js : List Joint) (w : World) (hp : RdP w pv ps) (hj : Sl eJoint w jv js) (hO : Both ps js) :
    Calls Try.prog 41 #[pv, jv] w fun e w' => ∃ u, e = .returned u ∧ OwnL w' w.heap.size none u (allB ps js) ∧ Below w.heap.size w w' := by
  have HP := Lib.hid hp
  have HJ := Lib.hid hj
  have HAL := Lib.hid (allB_len (js := js) hO.n16)
  have CS : Hid (∀ W, Below w.heap.size w W → Calls Try.prog 70 #[jv] W fun e w' => (∃ u, e = .returned u ∧ Own eI w' w.heap.size 2 u (slotsOf js) ∧ Below W.heap.size W w') ∧ Below w.heap.size w w') := Lib.hid (fun W h => (l18Slots_any jv js W (HJ.out.below h) hO.n12).mono fun e w' ⟨u, h1, h2, h3⟩ => ⟨⟨u, h1, h2.mono h.size, h3⟩, Below.step h h3⟩)
  have BR : Below w.heap.size w w.drew := (Below.refl _ _).drew
  have CR : Hid (∀ W v sv, Below w.heap.size w W → Own eS W w.heap.size 9 v empt8 → Own eI W w.heap.size 2 sv (slotsOf js) → Calls Try.prog 69 #[pv, jv, v, sv] W fun e w' => (∃ u p n, e = .returned (.tuple #[u, p, .int .i64 n]) ∧ OwnL w' w.heap.size none u (allB ps js)) ∧ Below w.heap.size w w') := Lib.hid (fun W v sv h hv hs => (l18Search_any ps js pv jv hO w.heap.size (slotsOf js) v sv empt8 W (HP.out.below h) (HJ.out.below h) hv h.size (Sl.of_own hs (by have := slotsOf_len js; unfold big40; omega)) (slots_ok js) (fit_empt ps) HAL.out).mono fun e w' ⟨u, p, n, is, h1, h2, _, _, _, h6⟩ => ⟨⟨u, p, n, h1, h2⟩, Below.step h h6⟩)
  clear hp hj
  go_enter Try.func41, Try.ntmps41
  go_wp2
  have e0 : Hid (Below w.heap.size w w.drew) := Lib.hid (Below.refl _ _).drew
  obtain ⟨mk, hmk⟩ : ∃ mk : Value → Value → Value → Value → Value → Value → Value → Value → Value → Value → Value → Value → Value → Act, mk = (fun x5 x6 x7 x8 x9 x10 x11 x12 x13 x14 x15 x16 x17 => (⟨#[pv, jv, undef, undef, .slice none 0 0, x5, x6, x7, x8, x9, x10, x11, x12, x13, x14, x15, x16, x17, undef], []⟩ : Act)) := ⟨_, rfl⟩
  refine wp_region_inv (by kernel_rfl) ([[], [], [], [], [3], [0, 1, 2, 4, 4], [5], [6], [6], [6], [7, 5, 0, 1, 2, 3, 4, 5, 6, 7], [8, 10, 0, 1, 2, 3, 4, 5, 6, 7, 8, 10], [9, 11, 0, 1, 2, 3, 4, 5, 6, 7, 8, 9, 10, 11]] : List (List Nat)) (by kernel_rfl) (by kernel_rfl) (fun f az u => ∃ x5 x6 x7 x8 x9 x10 x11 x12 x13 x14 x15 x16 x17 : Value, az = mk x5 x6 x7 x8 x9 x10 x11 x12 x13 x14 x15 x16 x17 ∧ Below w.heap.size w u ∧ (f 0 = true → x9 = pv) ∧ (f 1 = true → x10 = jv) ∧ (f 2 = true → f 5 = false → Own eS u w.heap.size 9 x11 empt8) ∧ (f 3 = true → x12 = jv) ∧ (f 4 = true → f 5 = false → Own eI u w.heap.size 2 x13 (slotsOf js)) ∧ (f 5 = true → ∃ a p n, x14 = .tuple #[a, p, .int .i64 n] ∧ OwnL u w.heap.size none a (allB ps js)) ∧ (f 6 = true → ∃ a p n, x8 = .tuple #[a, p, .int .i64 n] ∧ OwnL u w.heap.size none a (allB ps js)) ∧ (f 7 = true → OwnL u w.heap.size none x15 (allB ps js)) ∧ (f 10 = true → OwnL u w.heap.size none x5 (allB ps js))) ?_ ?_ ?_
  · subst hmk
    exact ⟨_, _, _, _, _, _, _, _, _, _, _, _, _, rfl, e0.out, fun h => (by cases h), fun h => (by cases h), fun h => (by cases h), fun h => (by cases h), fun h => (by cases h), fun h => (by cases h), fun h => (by cases h), fun h => (by cases h), fun h => (by cases h)⟩
  · show ∀ i, i < 13 → _
    refine below_succ ?_ ?_
    · intro f az u hf hd hcl hI
      obtain ⟨x5, x6, x7, x8, x9, x10, x11, x12, x13, x14, x15, x16, x17, rfl, gD, g0, g1, g2, g3, g4, g5, g6, g7, g10⟩ := hI
      subst hmk
      refine wpOp_step rfl (fun K hK => ?_)
      go_simp
      refine hK _ _ ?_
      exact ⟨_, _, _, _, _, _, _, _, _, _, _, _, _, rfl, gD, fun h => g0 h, fun h => g1 h, fun h => g2 h, fun h => g3 h, fun h => g4 h, fun h => g5 h, fun h => g6 h, fun h => g7 h, fun h => g10 h⟩
    refine below_succ ?_ ?_
    · intro f az u hf hd hcl hI
      obtain ⟨x5, x6, x7, x8, x9, x10, x11, x12, x13, x14, x15, x16, x17, rfl, gD, g0, g1, g2, g3, g4, g5, g6, g7, g10⟩ := hI
      subst hmk
      refine wpOp_step rfl (fun K hK => ?_)
      go_simp
      refine hK _ _ ?_
      exact ⟨_, _, _, _, _, _, _, _, _, _, _, _, _, rfl, gD, fun h => g0 h, fun h => g1 h, fun h => g2 h, fun h => g3 h, fun h => g4 h, fun h => g5 h, fun h => g6 h, fun h => g7 h, fun h => g10 h⟩
    refine below_succ ?_ ?_
    · intro f az u hf hd hcl hI
      obtain ⟨x5, x6, x7, x8, x9, x10, x11, x12, x13, x14, x15, x16, x17, rfl, gD, g0, g1, g2, g3, g4, g5, g6, g7, g10⟩ := hI
      subst hmk
      have q7 := g7 (hd 7 (by decide))
      refine wpOp_step rfl (fun K hK => ?_)
      go_simp
      refine hK _ _ ?_
      exact ⟨_, _, _, _, _, _, _, _, _, _, _, _, _, rfl, gD, fun h => g0 h, fun h => g1 h, fun h => g2 h, fun h => g3 h, fun h => g4 h, fun h => g5 h, fun h => g6 h, fun h => g7 h, fun _ => q7⟩
    refine below_succ ?_ ?_
    · intro f az u hf hd hcl hI
      obtain ⟨x5, x6, x7, x8, x9, x10, x11, x12, x13, x14, x15, x16, x17, rfl, gD, g0, g1, g2, g3, g4, g5, g6, g7, g10⟩ := hI
      subst hmk
      obtain ⟨ua, up, un, rfl, hou⟩ := g6 (hd 6 (by decide))
      refine wpOp_step rfl (fun K hK => ?_)
      go_simp
      refine hK _ _ ?_
      exact ⟨_, _, _, _, _, _, _, _, _, _, _, _, _, rfl, gD, fun h => g0 h, fun h => g1 h, fun h => g2 h, fun h => g3 h, fun h => g4 h, fun h => g5 h, fun _ => ⟨ua, up, un, rfl, hou⟩, fun h => g7 h, fun h => g10 h⟩
    refine below_succ ?_ ?_
    · intro f az u hf hd hcl hI
      obtain ⟨x5, x6, x7, x8, x9, x10, x11, x12, x13, x14, x15, x16, x17, rfl, gD, g0, g1, g2, g3, g4, g5, g6, g7, g10⟩ := hI
      subst hmk
      obtain ⟨ua, up, un, rfl, hou⟩ := g6 (hd 6 (by decide))
      refine wpOp_step rfl (fun K hK => ?_)
      go_simp
      refine hK _ _ ?_
      exact ⟨_, _, _, _, _, _, _, _, _, _, _, _, _, rfl, gD, fun h => g0 h, fun h => g1 h, fun h => g2 h, fun h => g3 h, fun h => g4 h, fun h => g5 h, fun _ => ⟨ua, up, un, rfl, hou⟩, fun h => g7 h, fun h => g10 h⟩
    refine below_succ ?_ ?_
    · intro f az u hf hd hcl hI
      obtain ⟨x5, x6, x7, x8, x9, x10, x11, x12, x13, x14, x15, x16, x17, rfl, gD, g0, g1, g2, g3, g4, g5, g6, g7, g10⟩ := hI
      subst hmk
      obtain ⟨ua, up, un, rfl, hou⟩ := g6 (hd 6 (by decide))
      refine wpOp_step rfl (fun K hK => ?_)
      go_simp
      refine hK _ _ ?_
      exact ⟨_, _, _, _, _, _, _, _, _, _, _, _, _, rfl, gD, fun h => g0 h, fun h => g1 h, fun h => g2 h, fun h => g3 h, fun h => g4 h, fun h => g5 h, fun _ => ⟨ua, up, un, rfl, hou⟩, fun _ => hou, fun h => g10 h⟩
    refine below_succ ?_ ?_
    · intro f az u hf hd hcl hI
      obtain ⟨x5, x6, x7, x8, x9, x10, x11, x12, x13, x14, x15, x16, x17, rfl, gD, g0, g1, g2, g3, g4, g5, g6, g7, g10⟩ := hI
      subst hmk
      obtain ⟨ua, up, un, rfl, hou⟩ := g5 (hd 5 (by decide))
      refine wpOp_step rfl (fun K hK => ?_)
      go_simp
      refine hK _ _ ?_
      exact ⟨_, _, _, _, _, _, _, _, _, _, _, _, _, rfl, gD, fun h => g0 h, fun h => g1 h, fun h => g2 h, fun h => g3 h, fun h => g4 h, fun _ => ⟨ua, up, un, rfl, hou⟩, fun _ => ⟨ua, up, un, rfl, hou⟩, fun h => g7 h, fun h => g10 h⟩
    refine below_succ ?_ ?_
    · intro f az u hf hd hcl hI
      obtain ⟨x5, x6, x7, x8, x9, x10, x11, x12, x13, x14, x15, x16, x17, rfl, gD, g0, g1, g2, g3, g4, g5, g6, g7, g10⟩ := hI
      subst hmk
      have q0 := g0 (hd 0 (by decide))
      subst q0
      have q1 := g1 (hd 1 (by decide))
      subst q1
      have q2 := g2 (hd 2 (by decide)) hf
      have q4 := g4 (hd 4 (by decide)) hf
      refine wpOp_step rfl (fun K hK => ?_)
      go_simp
      go_at_call 69
      refine (CR.out _ _ _ gD q2 q4).mono ?_
      rintro e wz ⟨⟨ua, up, un, rfl, hou⟩, hbz⟩
      try go_simp
      refine hK _ _ ?_
      exact ⟨_, _, _, _, _, _, _, _, _, _, _, _, _, rfl, hbz, fun h => g0 h, fun h => g1 h, fun h e => absurd e (by simp), fun h => g3 h, fun h e => absurd e (by simp), fun _ => ⟨ua, up, un, rfl, hou⟩, fun h => absurd (hcl 6 (by decide) h 5 (by decide)) (by rw [hf]; decide), fun h => absurd (hcl 6 (by decide) (hcl 7 (by decide) h 6 (by decide)) 5 (by decide)) (by rw [hf]; decide), fun h => absurd (hcl 10 (by decide) h 5 (by decide)) (by rw [hf]; decide)⟩
    refine below_succ ?_ ?_
    · intro f az u hf hd hcl hI
      obtain ⟨x5, x6, x7, x8, x9, x10, x11, x12, x13, x14, x15, x16, x17, rfl, gD, g0, g1, g2, g3, g4, g5, g6, g7, g10⟩ := hI
      subst hmk
      have e3 := g3 (hd 3 (by decide))
      subst e3
      refine wpOp_step rfl (fun K hK => ?_)
      go_simp
      go_at_call 70
      refine (CS.out _ gD).mono ?_
      rintro e wn ⟨⟨su, rfl, hsu, hbq⟩, hb⟩
      try go_simp
      refine hK _ _ ?_
      exact ⟨_, _, _, _, _, _, _, _, _, _, _, _, _, rfl, hb, fun h => g0 h, fun h => g1 h, fun h e => (g2 h e).below hbq, fun h => g3 h, fun _ _ => hsu, fun h => absurd (hcl 5 (by decide) h 4 (by decide)) (by rw [hf]; decide), fun h => absurd (hcl 5 (by decide) (hcl 6 (by decide) h 5 (by decide)) 4 (by decide)) (by rw [hf]; decide), fun h => absurd (hcl 5 (by decide) (hcl 6 (by decide) (hcl 7 (by decide) h 6 (by decide)) 5 (by decide)) 4 (by decide)) (by rw [hf]; decide), fun h => absurd (hcl 5 (by decide) (hcl 10 (by decide) h 5 (by decide)) 4 (by decide)) (by rw [hf]; decide)⟩
    refine below_succ ?_ ?_
    · intro f az u hf hd hcl hI
      obtain ⟨x5, x6, x7, x8, x9, x10, x11, x12, x13, x14, x15, x16, x17, rfl, gD, g0, g1, g2, g3, g4, g5, g6, g7, g10⟩ := hI
      subst hmk
      refine wpOp_step rfl (fun K hK => ?_)
      go_simp
      refine hK _ _ ?_
      exact ⟨_, _, _, _, _, _, _, _, _, _, _, _, _, rfl, gD, fun h => g0 h, fun h => g1 h, fun h => g2 h, fun _ => rfl, fun h => g4 h, fun h => g5 h, fun h => g6 h, fun h => g7 h, fun h => g10 h⟩
    refine below_succ ?_ ?_
    · intro f az u hf hd hcl hI
      obtain ⟨x5, x6, x7, x8, x9, x10, x11, x12, x13, x14, x15, x16, x17, rfl, gD, g0, g1, g2, g3, g4, g5, g6, g7, g10⟩ := hI
      subst hmk
      refine wpOp_step rfl (fun K hK => ?_)
      refine wp_mk8 (w0 := w) gD _ _ 33 (by rfl) .i64 .i64 (by rfl) (by rfl) Try.underlying33 ?_
      intro mv wm hmk hbm
      refine hK _ _ ?_
      exact ⟨_, _, _, _, _, _, _, _, _, _, _, _, _, rfl, (Below.step gD hbm), fun h => g0 h, fun h => g1 h, fun _ _ => hmk, fun h => g3 h, fun h e => (g4 h e).below hbm, fun h => absurd (hcl 5 (by decide) h 2 (by decide)) (by rw [hf]; decide), fun h => absurd (hcl 5 (by decide) (hcl 6 (by decide) h 5 (by decide)) 2 (by decide)) (by rw [hf]; decide), fun h => absurd (hcl 5 (by decide) (hcl 6 (by decide) (hcl 7 (by decide) h 6 (by decide)) 5 (by decide)) 2 (by decide)) (by rw [hf]; decide), fun h => absurd (hcl 5 (by decide) (hcl 10 (by decide) h 5 (by decide)) 2 (by decide)) (by rw [hf]; decide)⟩
    refine below_succ ?_ ?_
    · intro f az u hf hd hcl hI
      obtain ⟨x5, x6, x7, x8, x9, x10, x11, x12, x13, x14, x15, x16, x17, rfl, gD, g0, g1, g2, g3, g4, g5, g6, g7, g10⟩ := hI
      subst hmk
      refine wpOp_step rfl (fun K hK => ?_)
      go_simp
      refine hK _ _ ?_
      exact ⟨_, _, _, _, _, _, _, _, _, _, _, _, _, rfl, gD, fun h => g0 h, fun _ => rfl, fun h => g2 h, fun h => g3 h, fun h => g4 h, fun h => g5 h, fun h => g6 h, fun h => g7 h, fun h => g10 h⟩
    refine below_succ ?_ ?_
    · intro f az u hf hd hcl hI
      obtain ⟨x5, x6, x7, x8, x9, x10, x11, x12, x13, x14, x15, x16, x17, rfl, gD, g0, g1, g2, g3, g4, g5, g6, g7, g10⟩ := hI
      subst hmk
      refine wpOp_step rfl (fun K hK => ?_)
      go_simp
      refine hK _ _ ?_
      exact ⟨_, _, _, _, _, _, _, _, _, _, _, _, _, rfl, gD, fun _ => rfl, fun h => g1 h, fun h => g2 h, fun h => g3 h, fun h => g4 h, fun h => g5 h, fun h => g6 h, fun h => g7 h, fun h => g10 h⟩
    exact below_zero
  · intro f az u hf hI
    obtain ⟨x5, x6, x7, x8, x9, x10, x11, x12, x13, x14, x15, x16, x17, rfl, gD, g0, g1, g2, g3, g4, g5, g6, g7, g10⟩ := hI
    subst hmk
    have HOU := Lib.hid (g10 (hf 10 (by decide)))
    have HBZ := Lib.hid gD
    clear hf gD g0 g1 g2 g3 g4 g5 g6 g7 g10
    go_wp2
    go_ret
    exact ⟨_, rfl, HOU.out, HBZ.out⟩
end Go.Proofs.Ytblaojjpclipaaa
