/- What the reference's draw of rules hands out (chapter 25). No statement of the seat is proved here. -/
import Derived.Test.YtncggcbpbejmcaaSRule
import Derived.Test.YtncggcbpbejmcaaAppAll
import Derived.Test.YtncggcbpbejmcaaFloat
import Derived.Deep.RegionLaw
namespace Go.Proofs.Ytncggcbpbejmcaa
open Go.RowKit

theorem litR_at (a b c g : Int) (f : Nat) (hf : f < 4) : ∃ v : Int, ∀ h : f < ([.int .i64 a, .int .i64 b, .int .i64 c, .int .i64 g] : List Value).length, ([.int .i64 a, .int .i64 b, .int .i64 c, .int .i64 g] : List Value)[f]'h = .int .i64 v := by
  match f, hf with
  | 0, _ => exact ⟨a, fun _ => rfl⟩
  | 1, _ => exact ⟨b, fun _ => rfl⟩
  | 2, _ => exact ⟨c, fun _ => rfl⟩
  | 3, _ => exact ⟨g, fun _ => rfl⟩
set_option maxHeartbeats 16000000 in
set_option maxRecDepth 20000 in
theorem l25Rules_any (p : Nat) (w : World) (hs : Src w p) :
    Calls Try.prog 85 #[.pointer (some ⟨p, 0, none⟩)] w fun e w' => ∃ v xs, e = .returned v ∧ Own eRule w' w.heap.size 78 v xs ∧ xs.length ≤ 1000 ∧ Dr w p w' := by
  have hpw := hs.lt
  have D0 : Hid (Dr w p (w.alloc (.cells #[] 78))) := Lib.hid ((Dr.refl hs).alloc _)
  have O0 : Hid (Own eRule (w.alloc (.cells #[] 78)) w.heap.size 78 (.slice (some ⟨w.heap.size, 0, none⟩) 0 0) []) := Lib.hid (Own.empty eRule w _ _ (Nat.le_refl _))
  clear hs
  go_enter Try.func85, Try.ntmps85
  go_wp2_with fail
  refine (next_dr 6 D0.out (by omega)).mono ?_
  rintro e w1 ⟨n0, rfl, n1, n2, hd, hg⟩
  have D1 := Lib.hid hd
  have O1 := Lib.hid (O0.out.dr hg hpw)
  obtain ⟨M, rfl⟩ := Int.eq_ofNat_of_zero_le n1
  have hM : M ≤ 5 := by omega
  clear hd hg D0 O0 n1 n2
  go_wp2
  go_loopg [3, 4] M (fun gk v n wr => ∃ (xs : List Rule), n = .int .i64 (gk : Nat) ∧ xs.length + gk ≤ M ∧ Hid (Own eRule wr w.heap.size 78 v xs) ∧ Hid (Dr w p wr))
  case atStart => exact ⟨[], rfl, by simp, O1, D1⟩
  case round =>
    rename Nat => k
    obtain ⟨xs, rfl, l1, HO, HD⟩ := hrel
    clear O1 D1
    by_cases hk : 0 < k
    · obtain ⟨k, rfl⟩ : ∃ j, k = j + 1 := ⟨k - 1, by omega⟩
      have hkI : (0 : Int) < ((k + 1 : Nat) : Int) := by omega
      have hkw : IntKind.i64.wrap (((k + 1 : Nat) : Int) - 1) = (k : Int) := by rw [show ((k + 1 : Nat) : Int) - 1 = (k : Int) by omega]; exact IntWalk.i64_in _ (by omega)
      have hxl : xs.length ≤ 1000000 := by omega
      go_wp2_with fail
      refine (next_dr 4 HD.out (by omega)).mono ?_
      rintro e wA ⟨f, rfl, f0, f1, hd, hg⟩
      obtain ⟨f, rfl⟩ := Int.eq_ofNat_of_zero_le f0
      have hf4 : f < 4 := by omega
      have hf4i : (f : Int) < 4 := by omega
      have D2 := Lib.hid hd
      have O2 := Lib.hid (HO.out.dr hg hpw)
      have OWA : Hid (∀ (W : World) (o : Obj), Dr wA p W → Own eRule (W.alloc o) w.heap.size 78 u3 xs) := Lib.hid (fun W o h => (O2.out.dr h.2.1 hpw).alloc o)
      have OWB : Hid (∀ (W : World) (o o2 : Obj), Dr wA p W → Own eRule ((W.alloc o).alloc o2) w.heap.size 78 u3 xs) := Lib.hid (fun W o o2 h => ((O2.out.dr h.2.1 hpw).alloc o).alloc o2)
      have ONE : Hid (∀ (W : World) (n : Nat) (c : Rule), n = W.heap.size → Sl eRule (W.alloc (.cells #[.int .i64 c.field, .int .i64 c.least, .int .i64 c.grade] 78)) (.slice (some ⟨n, 0, none⟩) 1 1) [c]) := Lib.hid (fun W n c h => by subst h; exact Sl.one_new eRule W c _ _ rfl)
      have SZA : Hid (∀ (W : World) (o : Obj), Dr wA p W → w.heap.size ≤ (W.alloc o).heap.size) := Lib.hid (fun W o h => by have := h.size; have := D2.out.size; simp; omega)
      have SZB : Hid (∀ (W : World) (o o2 : Obj), Dr wA p W → w.heap.size ≤ ((W.alloc o).alloc o2).heap.size) := Lib.hid (fun W o o2 h => by have := h.size; have := D2.out.size; simp; omega)
      have DA : Dr wA p wA := Dr.refl hd.1
      have DAd : Dr wA p wA.drew := DA.drew
      have DAe : ∀ o, Dr wA p (wA.alloc o).drew := fun o => (DA.alloc o).drew
      have hpA : p < wA.heap.size := DA.lt
      clear hd hg HD HO
      obtain ⟨B, hB⟩ : ∃ B, wA.heap.size = B := ⟨_, rfl⟩
      have hszA : wA.heap.size = B := hB
      have hs1 : wA.drew.heap.size = B := hB
      have hs2 : ∀ o, (wA.alloc o).drew.heap.size = B + 1 := fun o => (World.size_alloc wA o).trans (by rw [hB])
      have n0 : B ≠ p := by omega
      have n1 : B + 1 ≠ p := by omega
      have m1 : B ≠ B + 1 := by omega
      have q3 : (B = B + 1) = False := eq_false (by omega)
      have hca := cell_alloc_any
      have hfa := frozen_alloc_any
      have TOK1 : True := trivial
      have TOK2 : True := trivial
      have TOK3 : True := trivial
      have TOK4 : True := trivial
      clear hB
      go_wp2
      go_region_law (first
        | (go_simp; go_at_call 87; clear TOK1; refine (next_fl 3000 (w0 := wA) ?_ (by omega)).mono ?_; (first | assumption | exact DAe _ | exact Dr.alloc (by assumption) _); rintro e wn ⟨a, rfl, a0, a1, hd, ⟨hz, hce, hfe⟩⟩)
        | (go_simp; go_at_call 87; clear TOK2; refine (next_fl 400 (w0 := wA) ?_ (by omega)).mono ?_; (first | assumption | exact DAe _ | exact Dr.alloc (by assumption) _); rintro e wn ⟨b, rfl, b0, b1, hd, ⟨hz, hce, hfe⟩⟩)
        | (go_simp; go_at_call 87; clear TOK3; refine (next_fl 12 (w0 := wA) ?_ (by omega)).mono ?_; (first | assumption | exact DAe _ | exact Dr.alloc (by assumption) _); rintro e wn ⟨c, rfl, c0, c1, hd, ⟨hz, hce, hfe⟩⟩)
        | (go_simp; go_at_call 87; clear TOK4; refine (next_fl 8 (w0 := wA) ?_ (by omega)).mono ?_; (first | assumption | exact DAe _ | exact Dr.alloc (by assumption) _); rintro e wn ⟨g, rfl, g0, g1, hd, ⟨hz, hce, hfe⟩⟩; obtain ⟨lv, hlv⟩ := litR_at a b c g f hf4)
        | (go_simp; go_at_call 87; refine (next_fl 5 (w0 := wA) ?_ (by omega)).mono ?_; (first | assumption | exact DAe _ | exact Dr.alloc (by assumption) _); rintro e wn ⟨x5, rfl, x50, x51, hd, ⟨hz, hce, hfe⟩⟩)
        | (refine step_app_all eRule rfl _ _ 25 (by rfl) 78 (.agg #[.int .i64 0, .int .i64 0, .int .i64 0]) 24 Try.underlying25 info_Rule rfl (by decide) (by decide) w.heap.size _ xs (by rfl) (by first | exact OWA.out _ _ (by assumption) | exact OWB.out _ _ _ (by assumption)) _ [⟨(f : Int), lv, x5⟩] (by rfl) (by exact ONE.out _ _ ⟨(f : Int), lv, x5⟩ (by first | rfl | omega | (simp only [World.size_alloc, *]; done) | (simp only [World.size_alloc, *]; omega))) (by simp only [List.length_cons, List.length_nil]; omega) (by first | exact SZA.out _ _ (by assumption) | exact SZB.out _ _ _ (by assumption)) ?_; intro v6 w6 hO6 hB6 hG6 _))
      all_goals
        have O6 := Lib.hid hO6
        have D6 : Hid (Dr w p w6) := Lib.hid (by first | exact (((D2.out.trans (by assumption : Dr wA p wn)).alloc _).alloc _).below hB6 | exact ((D2.out.trans (by assumption : Dr wA p wn)).alloc _).below hB6)
        clear hO6 hB6 hG6 hca hfa
        go_wp2
        go_roundg k
        case measure => omega
        case rel => exact ⟨_, by go_num, by rw [List.length_append, List.length_singleton]; omega, O6, D6⟩
    · obtain rfl : k = 0 := by omega
      clear hk
      have hxl5 : xs.length ≤ 5 := by omega
      obtain ⟨_, cap, rfl, _, _, _⟩ := Sl.shape (Sl.of_own HO.out (by unfold big40; omega))
      go_wp2_with fail
      refine (next_dr 40 HD.out (by omega)).mono ?_
      rintro e w4 ⟨c, rfl, c1, c2, hd, hg⟩
      have D4 := Lib.hid hd
      have O4 := Lib.hid (HO.out.dr hg hpw)
      have hsz := hd.size
      clear hd hg HD HO
      by_cases h0 : c = 0
      · subst h0
        go_wp2_with fail
        refine (pick_dr [-1, 3, 4] _ _ rfl rfl (by simp) (by simp) D4.out).mono ?_
        rintro e w5 ⟨a, rfl, ha, hd, hg⟩
        have D5 := Lib.hid hd
        have O5 := Lib.hid (O4.out.dr hg hpw)
        clear hd hg ha D4 O4
        go_wp2_with fail
        refine (pick_dr [0, 100000, 100001] _ _ rfl rfl (by simp) (by simp) D5.out).mono ?_
        rintro e w6 ⟨b, rfl, hb, hd, hg⟩
        have D6 := Lib.hid hd
        have O6 := Lib.hid (O5.out.dr hg hpw)
        clear hd hg hb D5 O5
        go_wp2_with fail
        refine (pick_dr [4, 5] _ _ rfl rfl (by simp) (by simp) D6.out).mono ?_
        rintro e w7 ⟨g, rfl, hgr, hd, hg⟩
        have D7 := Lib.hid hd
        have O7 := Lib.hid (O6.out.dr hg hpw)
        have hsz7 := hd.size
        have hxl : xs.length ≤ 1000000000 := by omega
        clear hd hg hgr D6 O6
        go_wp2_with (at_builtin; refine wpList_app eRule rfl _ _ 25 (by rfl) 78 (.agg #[.int .i64 0, .int .i64 0, .int .i64 0]) 24 Try.underlying25 info_Rule rfl (by decide) (by decide) w.heap.size _ xs (by rfl) (by exact O7.out) (by exact hxl) (by exact hsz7) ⟨a, b, g⟩ _ (by rfl) _ (by rfl) (by first | rfl | simp) ?_)
        intro v8 w8 hO8 hB8 _ _ _
        have O8 := Lib.hid hO8
        have D8 := Lib.hid (D7.out.below hB8)
        clear hO8 hB8 D7 O7
        go_wp2
        go_ret
        exact ⟨_, _, rfl, O8.out, by rw [List.length_append, List.length_singleton]; omega, D8.out⟩
      have h0b : (c == 0) = false := beq_eq_false_iff_ne.2 h0
      by_cases h1 : c = 1
      · subst h1
        clear h0b h0
        go_wp2
        go_loopg [3] (14 - xs.length) (fun gk v wr => ∃ ys : List Rule, gk = 14 - ys.length ∧ ys.length ≤ 13 ∧ Hid (Own eRule wr w.heap.size 78 v ys) ∧ Hid (Dr w p wr))
        case atStart => exact ⟨xs, rfl, by omega, O4, D4⟩
        case round =>
          obtain ⟨ys, rfl, l1, HO, HD⟩ := hrel
          clear O4 D4
          obtain ⟨_, cap2, rfl, _, _, _⟩ := Sl.shape (Sl.of_own HO.out (by unfold big40; omega))
          have HL1 : (ys.length : Int) ≤ 13 := by omega
          go_wp2_with fail
          refine (next_dr 2 HD.out (by omega)).mono ?_
          rintro e w5 ⟨b, rfl, b1, b2, hd, hg⟩
          have D5 := Lib.hid hd
          have O5 := Lib.hid (HO.out.dr hg hpw)
          have hsz5 := hd.size
          clear hd hg HD HO
          by_cases hb : (ys.length : Int) < 12 + b
          · have hl12 : ys.length ≤ 12 := by omega
            have hxl : ys.length ≤ 1000000000 := by omega
            go_wp2_with (at_builtin; refine wpList_app eRule rfl _ _ 25 (by rfl) 78 (.agg #[.int .i64 0, .int .i64 0, .int .i64 0]) 24 Try.underlying25 info_Rule rfl (by decide) (by decide) w.heap.size _ ys (by rfl) (by exact O5.out) (by exact hxl) (by exact hsz5) ⟨0, 2900, 3⟩ _ (by rfl) _ (by rfl) (by first | rfl | simp) ?_)
            intro v6 w6 hO6 hB6 _ _ _
            have O6 := Lib.hid hO6
            have D6 := Lib.hid (D5.out.below hB6)
            clear hO6 hB6 D5 O5
            go_wp2
            go_roundg (14 - (ys.length + 1))
            case measure => omega
            case rel => exact ⟨_, by rw [List.length_append, List.length_singleton], by rw [List.length_append, List.length_singleton]; omega, O6, D6⟩
          · go_wp2
            go_ret
            exact ⟨_, _, rfl, O5.out, by omega, D5.out⟩
      have h1b : (c == 1) = false := beq_eq_false_iff_ne.2 h1
      go_wp2
      go_ret
      exact ⟨_, _, rfl, O4.out, by omega, D4.out⟩
end Go.Proofs.Ytncggcbpbejmcaa
