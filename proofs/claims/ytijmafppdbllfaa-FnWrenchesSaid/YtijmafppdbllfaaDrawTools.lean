/- What the reference's draws of wrenches hand out (chapter 26). No statement of the seat is proved here. -/
import Derived.Test.YtijmafppdbllfaaDrawL
import Derived.Test.YtijmafppdbllfaaSWrench
namespace Go.Proofs.Ytijmafppdbllfaa
open Go.RowKit

set_option maxHeartbeats 8000000 in
set_option maxRecDepth 20000 in
theorem l26Tools_any (p : Nat) (w : World) (hs : Src w p) :
    Calls Try.prog 72 #[.pointer (some ⟨p, 0, none⟩)] w fun e w' => ∃ v xs, e = .returned v ∧ Own eWrench w' w.heap.size 59 v xs ∧ xs.length ≤ 1000 ∧ Dr w p w' := by
  have hpw := hs.lt
  have D0 : Hid (Dr w p (w.alloc (.cells #[] 59))) := Lib.hid ((Dr.refl hs).alloc _)
  have O0 : Hid (Own eWrench (w.alloc (.cells #[] 59)) w.heap.size 59 (.slice (some ⟨w.heap.size, 0, none⟩) 0 0) []) := Lib.hid (Own.empty eWrench w _ _ (Nat.le_refl _))
  have TOK : True := trivial
  clear hs
  go_enter Try.func72, Try.ntmps72
  go_wp2_with fail
  refine (next_dr 6 D0.out (by omega)).mono ?_
  rintro e w1 ⟨n0, rfl, n1, n2, hd, hg⟩
  have D1 := Lib.hid hd
  have O1 := Lib.hid (O0.out.dr hg hpw)
  obtain ⟨M, rfl⟩ := Int.eq_ofNat_of_zero_le n1
  have hM : M ≤ 5 := by omega
  clear hd hg D0 O0 n1 n2
  go_wp2
  go_loopg [3, 4] M (fun gk v n wr => ∃ (xs : List Wrench), n = .int .i64 (gk : Nat) ∧ xs.length + gk ≤ M ∧ Hid (Own eWrench wr w.heap.size 59 v xs) ∧ Hid (Dr w p wr))
  case atStart => exact ⟨[], rfl, by simp, O1, D1⟩
  case round =>
    rename Nat => k
    obtain ⟨xs, rfl, l1, HO, HD⟩ := hrel
    clear O1 D1
    by_cases hk : 0 < k
    · obtain ⟨k, rfl⟩ : ∃ j, k = j + 1 := ⟨k - 1, by omega⟩
      have hkI : (0 : Int) < ((k + 1 : Nat) : Int) := by omega
      go_wp2_with fail
      refine (next_dr 600 HD.out (by omega)).mono ?_
      rintro e w2 ⟨a, rfl, a1, a2, hd, hg⟩
      have D2 := Lib.hid hd
      have O2 := Lib.hid (HO.out.dr hg hpw)
      have wa : IntKind.i64.wrap (1 + a) = 1 + a := IntWalk.i64_in _ (by omega)
      have hbx : ∀ j, (w2.alloc (.cells #[.int .i64 (1 + a), .int .i64 0] 59)).cell? ⟨w2.heap.size, j, none⟩ = #[Value.int .i64 (1 + a), .int .i64 0][j]? := fun j => box_new _ _ _ j
      have hfr : ∀ j, (w2.alloc (.cells #[.int .i64 (1 + a), .int .i64 0] 59)).frozen? ⟨w2.heap.size, j, none⟩ = false := fun j => frozen_box _ _ _ _ (frozen_out _ _ (Nat.le_refl _))
      have hlt : w2.heap.size < (w2.alloc (.cells #[.int .i64 (1 + a), .int .i64 0] 59)).heap.size := by simp
      have hp2 : p < w2.heap.size := D2.out.1.lt
      have DB : Dr (w2.alloc (.cells #[.int .i64 (1 + a), .int .i64 0] 59)) p (w2.alloc (.cells #[.int .i64 (1 + a), .int .i64 0] 59)) := Dr.refl (D2.out.1.alloc _)
      have D3 : Hid (Dr w p (w2.alloc (.cells #[.int .i64 (1 + a), .int .i64 0] 59))) := Lib.hid (D2.out.alloc _)
      have O3 : Hid (Own eWrench (w2.alloc (.cells #[.int .i64 (1 + a), .int .i64 0] 59)) w.heap.size 59 u3 xs) := Lib.hid (O2.out.alloc _)
      have KEEP : Hid (∀ W, Dr (w2.alloc (.cells #[.int .i64 (1 + a), .int .i64 0] 59)) p W → Dr (w2.alloc (.cells #[.int .i64 (1 + a), .int .i64 0] 59)) p W ∧ W.cell? ⟨w2.heap.size, 0, none⟩ = some (.int .i64 (1 + a)) ∧ W.cell? ⟨w2.heap.size, 1, none⟩ = some (.int .i64 0) ∧ W.frozen? ⟨w2.heap.size, 1, none⟩ = false) := Lib.hid (fun W h => by
        have hne : some w2.heap.size ≠ some p := fun e => by cases e; omega
        exact ⟨h, (h.2.1.cell_far _ hlt hne).trans ((hbx 0).trans rfl), (h.2.1.cell_far _ hlt hne).trans ((hbx 1).trans rfl), (h.2.1.frozen_far _ hlt hne).trans (hfr 1)⟩)
      have HK := Lib.hid (World.ownsRow.lt O2.out)
      clear hd hg HD HO hbx hfr
      go_wp2
      generalize w2.alloc (.cells #[.int .i64 (1 + a), .int .i64 0] 59) = wB at *
      have hwB : w.heap.size ≤ w2.heap.size := D2.out.size
      clear D2 O2
      generalize w2.heap.size = B at *
      have NEL : Hid (∀ W : World, Dr wB p W → W.heap.size ≠ p) := Lib.hid (fun W h => by have := h.size; omega)
      have DBd : Dr wB p wB.drew := DB.drew
      have hBp : w.heap.size ≤ B := hwB
      have KEEP2 : Hid (∀ W, Dr wB p W → Dr w p W ∧ W.cell? ⟨B, 0, none⟩ = some (.int .i64 (1 + a))) := Lib.hid (fun W h => ⟨D3.out.trans h, (KEEP.out W h).2.1⟩)
      have KEEP3 : Hid (∀ W u, Dr wB p W → Dr w p (W.setCell ⟨B, 1, none⟩ u) ∧ (W.setCell ⟨B, 1, none⟩ u).cell? ⟨B, 0, none⟩ = some (.int .i64 (1 + a))) := Lib.hid (fun W u h => ⟨(D3.out.trans h).store hBp u, (World.cell?_setCell_other _ _ _ _ (by simp)).trans (KEEP.out W h).2.1⟩)
      go_region_held3 (fun W => Dr w p W ∧ W.cell? ⟨B, 0, none⟩ = some (.int .i64 (1 + a)))
        (first | exact KEEP2.out _ DBd | exact KEEP2.out _ hd | exact KEEP2.out _ ((by assumption : Dr wB p _).alloc _) | exact KEEP3.out _ _ (by assumption : Dr wB p _))
        (first
          | (go_at_call 74; clear TOK; refine (next_dr 400 DBd (by omega)).mono ?_; rintro e wn ⟨b, rfl, b0, b1, hd, hg⟩)
          | (go_at_call 74; refine (next_dr 60 (by assumption : Dr wB p _) (by omega)).mono ?_; rintro e wn ⟨c, rfl, c0, c1, hd, hg⟩)
          | (go_at_call 73; refine (pick_dr [b, c, 0] #[.int .i64 b, .int .i64 c, .int .i64 0] 3 rfl rfl (by simp) (by simp) (by assumption : Dr wB p _)).mono ?_; rintro e wn ⟨x, rfl, hx, hd, hg⟩; have hxb : 0 ≤ x ∧ x ≤ 400 := (by simp at hx; omega); obtain ⟨hx0, hx1⟩ := hxb; have wx : IntKind.i64.wrap (1 + a + x) = 1 + a + x := IntWalk.i64_in _ (by omega); obtain ⟨_, _, hc1, hf1⟩ := KEEP.out _ hd))
      have hdE : Dr wB p wn := hd
      have hk := KEEP.out wn hdE
      have c0 : (wn.setCell ⟨B, 1, none⟩ (.int .i64 (1 + a + x))).cell? ⟨B, 0, none⟩ = some (.int .i64 (1 + a)) := (KEEP3.out wn _ hdE).2
      have c1 : (wn.setCell ⟨B, 1, none⟩ (.int .i64 (1 + a + x))).cell? ⟨B, 1, none⟩ = some (.int .i64 (1 + a + x)) := World.cell?_setCell_same _ _ _ hk.2.2.1
      have D5 : Hid (Dr w p (wn.setCell ⟨B, 1, none⟩ (.int .i64 (1 + a + x)))) := Lib.hid (KEEP3.out wn _ hdE).1
      have O4 : Own eWrench wn w.heap.size 59 u3 xs := O3.out.dr hdE.2.1 hpw
      have O5 : Hid (Own eWrench (wn.setCell ⟨B, 1, none⟩ (.int .i64 (1 + a + x))) w.heap.size 59 u3 xs) := Lib.hid (O4.kept (grown_set _ _ _ _) (by
        rcases hv : u3.ownBlock with _ | q
        · exact .inl rfl
        · refine .inr (fun e => ?_)
          have := (HK.out q hv).2
          cases e
          omega))
      have hxl : xs.length ≤ 1000000000 := by omega
      have hsz := D5.out.size
      clear hk O4 hdE hd KEEP KEEP2 KEEP3 D3 O3 DB DBd hc1 hf1
      generalize wn.setCell ⟨B, 1, none⟩ (.int .i64 (1 + a + x)) = wE at *
      go_wp2_with (at_builtin; refine wpList_app eWrench rfl _ _ 39 (by rfl) 59 (.agg #[.int .i64 0, .int .i64 0]) 16 Try.underlying39 info_Wrench rfl (by decide) (by decide) w.heap.size _ xs (by rfl) (by exact O5.out) (by exact hxl) (by exact hsz) ⟨1 + a, 1 + a + x⟩ _ (by rfl) _ (by rfl) (by rfl) ?_)
      intro v6 w6 hO6 hB6 _ _ _
      have O6 := Lib.hid hO6
      have D6 := Lib.hid (D5.out.below hB6)
      clear hO6 hB6 D5 O5
      have hkw : IntKind.i64.wrap (((k + 1 : Nat) : Int) - 1) = (k : Int) := by rw [show ((k + 1 : Nat) : Int) - 1 = (k : Int) by omega]; exact IntWalk.i64_in _ (by omega)
      go_wp2
      go_roundg k
      case measure => omega
      case rel => exact ⟨_, by go_num, by rw [List.length_append, List.length_singleton]; omega, O6, D6⟩
    · obtain rfl : k = 0 := by omega
      clear hk
      have hxl5 : xs.length ≤ 5 := by omega
      obtain ⟨_, cap, rfl, _, _, _⟩ := Sl.shape (Sl.of_own HO.out (by unfold big40; omega))
      go_wp2_with fail
      refine (next_dr 30 HD.out (by omega)).mono ?_
      rintro e w2 ⟨c, rfl, c1, c2, hd, hg⟩
      have D2 := Lib.hid hd
      have O2 := Lib.hid (HO.out.dr hg hpw)
      have hsz := D2.out.size
      clear hd hg HD HO
      by_cases h0 : c = 0
      · subst h0
        go_wp2_with fail
        refine (pick_dr [0, 1, 2000] _ _ rfl rfl (by simp) (by simp) D2.out).mono ?_
        rintro e w3 ⟨x, rfl, hx, hd, hg⟩
        have D3 := Lib.hid hd
        have O3 := Lib.hid (O2.out.dr hg hpw)
        clear hd hg hx D2 O2
        go_wp2_with fail
        refine (pick_dr [2000, 2001, 1999] _ _ rfl rfl (by simp) (by simp) D3.out).mono ?_
        rintro e w4 ⟨y, rfl, hy, hd, hg⟩
        have D4 := Lib.hid hd
        have O4 := Lib.hid (O3.out.dr hg hpw)
        have hsz4 := D4.out.size
        have hxl : xs.length ≤ 1000000000 := by omega
        clear hd hg hy D3 O3
        go_wp2_with (at_builtin; refine wpList_app eWrench rfl _ _ 39 (by rfl) 59 (.agg #[.int .i64 0, .int .i64 0]) 16 Try.underlying39 info_Wrench rfl (by decide) (by decide) w.heap.size _ xs (by rfl) (by exact O4.out) (by exact hxl) (by exact hsz4) ⟨x, y⟩ _ (by rfl) _ (by rfl) (by rfl) ?_)
        intro v6 w6 hO6 hB6 _ _ _
        have O6 := Lib.hid hO6
        have D6 := Lib.hid (D4.out.below hB6)
        clear hO6 hB6 D4 O4
        go_wp2
        go_ret
        exact ⟨_, _, rfl, O6.out, by rw [List.length_append, List.length_singleton]; omega, D6.out⟩
      have h0b : (c == 0) = false := beq_eq_false_iff_ne.2 h0
      by_cases h1 : c = 1
      · subst h1
        clear h0b h0
        go_wp2
        go_loopg [3] (62 - xs.length) (fun gk v wr => ∃ ys : List Wrench, gk = 62 - ys.length ∧ ys.length ≤ 61 ∧ Hid (Own eWrench wr w.heap.size 59 v ys) ∧ Hid (Dr w p wr))
        case atStart => exact ⟨xs, rfl, by omega, O2, D2⟩
        case round =>
          obtain ⟨ys, rfl, l1, HO, HD⟩ := hrel
          clear O2 D2
          obtain ⟨_, cap2, rfl, _, _, _⟩ := Sl.shape (Sl.of_own HO.out (by unfold big40; omega))
          have HL1 : (ys.length : Int) ≤ 61 := by omega
          go_wp2_with fail
          refine (next_dr 2 HD.out (by omega)).mono ?_
          rintro e w3 ⟨b, rfl, b1, b2, hd, hg⟩
          have D3 := Lib.hid hd
          have O3 := Lib.hid (HO.out.dr hg hpw)
          have hsz3 := D3.out.size
          clear hd hg HD HO
          by_cases hb : (ys.length : Int) < 60 + b
          · have hl12 : ys.length ≤ 60 := by omega
            have hxl : ys.length ≤ 1000000000 := by omega
            go_wp2_with (at_builtin; refine wpList_app eWrench rfl _ _ 39 (by rfl) 59 (.agg #[.int .i64 0, .int .i64 0]) 16 Try.underlying39 info_Wrench rfl (by decide) (by decide) w.heap.size _ ys (by rfl) (by exact O3.out) (by exact hxl) (by exact hsz3) ⟨5, 9⟩ _ (by rfl) _ (by rfl) (by rfl) ?_)
            intro v5 w5 hO5 hB5 _ _ _
            have O5 := Lib.hid hO5
            have D5 := Lib.hid (D3.out.below hB5)
            clear hO5 hB5 D3 O3
            go_wp2
            go_roundg (62 - (ys.length + 1))
            case measure => omega
            case rel => exact ⟨_, by rw [List.length_append, List.length_singleton], by rw [List.length_append, List.length_singleton]; omega, O5, D5⟩
          · go_wp2
            go_ret
            exact ⟨_, _, rfl, O3.out, by omega, D3.out⟩
      have h1b : (c == 1) = false := beq_eq_false_iff_ne.2 h1
      go_wp2
      go_ret
      exact ⟨_, _, rfl, O2.out, by omega, D2.out⟩
set_option maxHeartbeats 4000000 in
set_option maxRecDepth 20000 in
theorem DrawWrenchFor_any (A : Option Addr) (n cap : Nat) (w : World) (hn : n ≤ 4096) (hc : n ≤ cap) (hb : Bytes w A n w.heap.size) :
    Calls Try.prog 45 #[.slice A n cap] w fun e w' => ∃ v xs t, e = .returned (.tuple #[v, .int .i64 t]) ∧ Own eWrench w' w.heap.size 59 v xs ∧ xs.length ≤ 1000 ∧ (0 ≤ t ∧ t ≤ 2001) ∧ Below w.heap.size w w' := by
  go_enter Try.func45, Try.ntmps45
  go_wp2_with fail
  refine (l01From_any A n cap w hn hc hb).mono ?_
  rintro e w1 ⟨p, rfl, hp, hs1, hb1⟩
  have D1 := Lib.hid (Dr.refl hs1)
  have B1 := Lib.hid hb1
  have hz1 := hb1.size
  have hp1 : p < w1.heap.size := hs1.lt
  clear hs1 hb1 hb
  go_wp2_with fail
  refine (l26Tools_any p w1 D1.out.1).mono ?_
  rintro e w4 ⟨v, xs, rfl, ho, hl, hd⟩
  have D4 := Lib.hid (D1.out.trans hd)
  have O4 := Lib.hid ho
  clear ho hd D1
  go_wp2_with fail
  refine (next_dr 900 D4.out (by omega)).mono ?_
  rintro e w5 ⟨b, rfl, b1, b2, hd, hg⟩
  have D5 := Lib.hid hd
  have O5 := Lib.hid (O4.out.dr hg hp1)
  clear hd hg D4 O4
  have wb : IntKind.i64.wrap (1 + b) = 1 + b := IntWalk.i64_in _ (by omega)
  go_wp2_with fail
  refine (next_dr 900 D5.out (by omega)).mono ?_
  rintro e w6 ⟨c, rfl, c1, c2, hd, hg⟩
  have D6 := Lib.hid hd
  have O6 := Lib.hid (O5.out.dr hg hp1)
  clear hd hg D5 O5
  have wc : IntKind.i64.wrap (1 + c) = 1 + c := IntWalk.i64_in _ (by omega)
  go_wp2_with fail
  refine (pick_dr [1 + b, 1 + c, 1, 2000, 2001, 0] _ _ rfl rfl (by simp) (by simp) D6.out).mono ?_
  rintro e w7 ⟨t, rfl, ht, hd, hg⟩
  have D7 := Lib.hid hd
  have O7 := Lib.hid (O6.out.dr hg hp1)
  have tb : 0 ≤ t ∧ t ≤ 2001 := by simp at ht; omega
  obtain ⟨t0, t1⟩ := tb
  clear hd hg ht D6 O6
  go_wp2
  go_ret2
  exact ⟨v, xs, t, rfl, O7.out.mono hz1, hl, ⟨t0, t1⟩, D7.out.to_below B1.out hp⟩
end Go.Proofs.Ytijmafppdbllfaa
