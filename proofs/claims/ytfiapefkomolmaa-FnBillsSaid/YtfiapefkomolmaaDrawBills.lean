/- What the reference's draws of items and of tiers hand out (chapter 27). No statement of the seat is proved here. -/
import Derived.Test.YtfiapefkomolmaaDrawWord
import Derived.Test.YtfiapefkomolmaaDrawItem
import Derived.Test.YtfiapefkomolmaaSTier
import Derived.Test.YtfiapefkomolmaaCells
namespace Go.Proofs.Ytfiapefkomolmaa
open Go.RowKit

theorem ok_app {xs : List Item} {y : Item} (h : ∀ x ∈ xs, okItem x) (hy : okItem y) : ∀ x ∈ xs ++ [y], okItem x := by
  intro x hx
  rcases List.mem_append.1 hx with hx | hx
  · exact h x hx
  · rw [List.mem_singleton.1 hx]; exact hy
set_option maxHeartbeats 8000000 in
set_option maxRecDepth 20000 in
theorem l27Draw_any (p : Nat) (w : World) (hs : Src w p) :
    Calls Try.prog 79 #[.pointer (some ⟨p, 0, none⟩)] w fun e w' => ∃ v xs, e = .returned v ∧ Own eItem w' w.heap.size 40 v xs ∧ xs.length ≤ 1000 ∧ (∀ x ∈ xs, okItem x) ∧ Dr w p w' := by
  have hpw := hs.lt
  have D0 : Hid (Dr w p (w.alloc (.cells #[] 40))) := Lib.hid ((Dr.refl hs).alloc _)
  have O0 : Hid (Own eItem (w.alloc (.cells #[] 40)) w.heap.size 40 (.slice (some ⟨w.heap.size, 0, none⟩) 0 0) []) := Lib.hid (Own.empty eItem w _ _ (Nat.le_refl _))
  have K0 : Hid (∀ x ∈ ([] : List Item), okItem x) := Lib.hid (by simp)
  clear hs
  go_enter Try.func79, Try.ntmps79
  go_wp2_with fail
  refine (next_dr 7 D0.out (by omega)).mono ?_
  rintro e w1 ⟨n0, rfl, n1, n2, hd, hg⟩
  have D1 := Lib.hid hd
  have O1 := Lib.hid (O0.out.dr hg hpw)
  obtain ⟨M, rfl⟩ := Int.eq_ofNat_of_zero_le n1
  have hM : M ≤ 6 := by omega
  clear hd hg D0 O0 n1 n2
  go_wp2
  go_loopg [3, 4] M (fun gk v n wr => ∃ (xs : List Item), n = .int .i64 (gk : Nat) ∧ xs.length + gk ≤ M ∧ Hid (Own eItem wr w.heap.size 40 v xs) ∧ Hid (Dr w p wr) ∧ Hid (∀ x ∈ xs, okItem x))
  case atStart => exact ⟨[], rfl, by simp, O1, D1, K0⟩
  case round =>
    rename Nat => k
    obtain ⟨xs, rfl, l1, HO, HD, HK⟩ := hrel
    clear O1 D1 K0
    by_cases hk : 0 < k
    · obtain ⟨k, rfl⟩ : ∃ j, k = j + 1 := ⟨k - 1, by omega⟩
      have hkI : (0 : Int) < ((k + 1 : Nat) : Int) := by omega
      have hkw : IntKind.i64.wrap (((k + 1 : Nat) : Int) - 1) = (k : Int) := by rw [show ((k + 1 : Nat) : Int) - 1 = (k : Int) by omega]; exact IntWalk.i64_in _ (by omega)
      have hxl : xs.length ≤ 1000000000 := by omega
      go_wp2_with fail
      refine (l27Good_dr w p _ HD.out).mono ?_
      rintro e w2 ⟨⟨nm, pc, ct, wk⟩, rfl, hx, hd, hg⟩
      have D2 := Lib.hid hd
      have O2 := Lib.hid (HO.out.dr hg hpw)
      have HOK : Hid (okItem ⟨nm, pc, ct, wk⟩) := Lib.hid (by have h : nm.size ≤ 16 := (isItem_bd hx).1.2; show nm.size ≤ _; omega)
      have hsz := hd.size
      clear hd hg HD HO hx
      go_wp2_with (at_builtin; refine wpList_app eItem rfl _ _ 46 (by rfl) 40 (.agg #[.string ⟨#[]⟩, .int .i64 0, .int .i64 0, .bool false]) 40 Try.underlying46 info_Item rfl (by decide) (by decide) w.heap.size _ xs (by rfl) (by exact O2.out) (by exact hxl) (by exact hsz) ⟨nm, pc, ct, wk⟩ _ (by rfl) _ (by rfl) (by rfl) ?_)
      intro v6 w6 hO6 hB6 _ _ _
      have O6 := Lib.hid hO6
      have D6 := Lib.hid (D2.out.below hB6)
      have K6 := Lib.hid (ok_app HK.out HOK.out)
      clear hO6 hB6 D2 O2
      go_wp2
      go_roundg k
      case measure => omega
      case rel => exact ⟨_, by go_num, by rw [List.length_append, List.length_singleton]; omega, O6, D6, K6⟩
    · obtain rfl : k = 0 := by omega
      clear hk
      have hxl5 : xs.length ≤ 6 := by omega
      obtain ⟨_, cap, rfl, _, _, _⟩ := Sl.shape (Sl.of_own HO.out (by unfold big40; omega))
      go_wp2_with fail
      refine (next_dr 40 HD.out (by omega)).mono ?_
      rintro e w2 ⟨c, rfl, c1, c2, hd, hg⟩
      have D2 := Lib.hid hd
      have O2 := Lib.hid (HO.out.dr hg hpw)
      have hsz := hd.size
      clear hd hg HD HO
      by_cases h0 : c = 0
      · subst h0
        go_wp2_with fail
        refine (l01DrawWord_dr w p _ D2.out).mono ?_
        rintro e w3 ⟨nm, rfl, hnm, hd, hg⟩
        have D3 := Lib.hid hd
        have O3 := Lib.hid (O2.out.dr hg hpw)
        clear hd hg D2 O2
        go_wp2_with fail
        refine (pick_dr [0, 1, 1000, 1001] _ _ rfl rfl (by simp) (by simp) D3.out).mono ?_
        rintro e w4 ⟨a, rfl, ha, hd, hg⟩
        have D4 := Lib.hid hd
        have O4 := Lib.hid (O3.out.dr hg hpw)
        clear hd hg ha D3 O3
        go_wp2_with fail
        refine (pick_dr [-1, 0, 1000000, 1000001] _ _ rfl rfl (by simp) (by simp) D4.out).mono ?_
        rintro e w5 ⟨b, rfl, hb, hd, hg⟩
        have D5 := Lib.hid hd
        have O5 := Lib.hid (O4.out.dr hg hpw)
        have hsz5 := hd.size
        have hxl : xs.length ≤ 1000000000 := by omega
        have HOK : Hid (okItem ⟨nm, a, b, false⟩) := Lib.hid (by show nm.size ≤ _; omega)
        clear hd hg hb D4 O4
        go_wp2_with (at_builtin; refine wpList_app eItem rfl _ _ 46 (by rfl) 40 (.agg #[.string ⟨#[]⟩, .int .i64 0, .int .i64 0, .bool false]) 40 Try.underlying46 info_Item rfl (by decide) (by decide) w.heap.size _ xs (by rfl) (by exact O5.out) (by exact hxl) (by exact hsz5) ⟨nm, a, b, false⟩ _ (by rfl) _ (by rfl) (by rfl) ?_)
        intro v6 w6 hO6 hB6 _ _ _
        have O6 := Lib.hid hO6
        have D6 := Lib.hid (D5.out.below hB6)
        have K6 := Lib.hid (ok_app HK.out HOK.out)
        clear hO6 hB6 D5 O5
        go_wp2
        go_ret
        exact ⟨_, _, rfl, O6.out, by rw [List.length_append, List.length_singleton]; omega, K6.out, D6.out⟩
      have h0b : (c == 0) = false := beq_eq_false_iff_ne.2 h0
      by_cases h1 : c = 1
      · subst h1
        clear h0b h0
        go_wp2
        go_loopg [3] (22 - xs.length) (fun gk v wr => ∃ ys : List Item, gk = 22 - ys.length ∧ ys.length ≤ 21 ∧ Hid (Own eItem wr w.heap.size 40 v ys) ∧ Hid (Dr w p wr) ∧ Hid (∀ x ∈ ys, okItem x))
        case atStart => exact ⟨xs, rfl, by omega, O2, D2, HK⟩
        case round =>
          obtain ⟨ys, rfl, l1, HO, HD, HK2⟩ := hrel
          clear O2 D2 HK
          obtain ⟨_, cap2, rfl, _, _, _⟩ := Sl.shape (Sl.of_own HO.out (by unfold big40; omega))
          have HL1 : (ys.length : Int) ≤ 21 := by omega
          go_wp2_with fail
          refine (next_dr 2 HD.out (by omega)).mono ?_
          rintro e w3 ⟨b, rfl, b1, b2, hd, hg⟩
          have D3 := Lib.hid hd
          have O3 := Lib.hid (HO.out.dr hg hpw)
          have hsz3 := hd.size
          clear hd hg HD HO
          by_cases hb : (ys.length : Int) < 20 + b
          · have hl12 : ys.length ≤ 20 := by omega
            have hxl : ys.length ≤ 1000000000 := by omega
            go_wp2_with (at_builtin; refine wpList_app eItem rfl _ _ 46 (by rfl) 40 (.agg #[.string ⟨#[]⟩, .int .i64 0, .int .i64 0, .bool false]) 40 Try.underlying46 info_Item rfl (by decide) (by decide) w.heap.size _ ys (by rfl) (by exact O3.out) (by exact hxl) (by exact hsz3) ⟨⟨#[110, 117, 116]⟩, 60, 5, false⟩ _ (by rfl) _ (by rfl) (by rfl) ?_)
            intro v5 w5 hO5 hB5 _ _ _
            have O5 := Lib.hid hO5
            have D5 := Lib.hid (D3.out.below hB5)
            have K5 := Lib.hid (ok_app HK2.out (show okItem ⟨⟨#[110, 117, 116]⟩, 60, 5, false⟩ by show (⟨#[110, 117, 116]⟩ : ByteArray).size ≤ 9223372036854775807; decide))
            clear hO5 hB5 D3 O3
            go_wp2
            go_roundg (22 - (ys.length + 1))
            case measure => omega
            case rel => exact ⟨_, by rw [List.length_append, List.length_singleton], by rw [List.length_append, List.length_singleton]; omega, O5, D5, K5⟩
          · go_wp2
            go_ret
            exact ⟨_, _, rfl, O3.out, by omega, HK2.out, D3.out⟩
      have h1b : (c == 1) = false := beq_eq_false_iff_ne.2 h1
      go_wp2
      go_ret
      exact ⟨_, _, rfl, O2.out, by omega, HK.out, D2.out⟩
set_option maxHeartbeats 8000000 in
set_option maxRecDepth 20000 in
theorem l27Tiers_any (p : Nat) (w : World) (hs : Src w p) :
    Calls Try.prog 86 #[.pointer (some ⟨p, 0, none⟩)] w fun e w' => ∃ v xs, e = .returned v ∧ Own eTier w' w.heap.size 72 v xs ∧ xs.length ≤ 1000 ∧ Dr w p w' := by
  have hpw := hs.lt
  have D0 : Hid (Dr w p (w.alloc (.cells #[] 72))) := Lib.hid ((Dr.refl hs).alloc _)
  have O0 : Hid (Own eTier (w.alloc (.cells #[] 72)) w.heap.size 72 (.slice (some ⟨w.heap.size, 0, none⟩) 0 0) []) := Lib.hid (Own.empty eTier w _ _ (Nat.le_refl _))
  clear hs
  go_enter Try.func86, Try.ntmps86
  go_wp2_with fail
  refine (next_dr 5000 D0.out (by omega)).mono ?_
  rintro e w1 ⟨f0, rfl, f1, f2, hd, hg⟩
  have D1 := Lib.hid hd
  have O1 := Lib.hid (O0.out.dr hg hpw)
  clear hd hg D0 O0
  go_wp2_with fail
  refine (pick_dr [0, 1000, f0] _ _ rfl rfl (by simp) (by simp) D1.out).mono ?_
  rintro e w2 ⟨from0, rfl, hfr, hd, hg⟩
  have hfb : 0 ≤ from0 ∧ from0 ≤ 5000 := by simp at hfr; omega
  obtain ⟨hf0, hf1⟩ := hfb
  have D2 := Lib.hid hd
  have O2 := Lib.hid (O1.out.dr hg hpw)
  clear hd hg hfr D1 O1 f1 f2
  go_wp2_with fail
  refine (next_dr 4 D2.out (by omega)).mono ?_
  rintro e w3 ⟨n0, rfl, n1, n2, hd, hg⟩
  have D3 := Lib.hid hd
  have O3 := Lib.hid (O2.out.dr hg hpw)
  obtain ⟨M, rfl⟩ := Int.eq_ofNat_of_zero_le n1
  have hM : M ≤ 3 := by omega
  clear hd hg D2 O2 n1 n2
  go_wp2
  go_loopg [3, 4, 5] M (fun gk v f n wr => ∃ (xs : List Tier) (fr : Int), f = .int .i64 fr ∧ n = .int .i64 (gk : Nat) ∧ xs.length + gk ≤ M ∧ 0 ≤ fr ∧ fr + 30000 * (gk : Nat) ≤ 200000 ∧ Hid (Own eTier wr w.heap.size 72 v xs) ∧ Hid (Dr w p wr))
  case atStart => exact ⟨[], from0, rfl, rfl, by simp, hf0, by omega, O3, D3⟩
  case round =>
    rename Nat => k
    obtain ⟨xs, fr, rfl, rfl, l1, fr0, fr1, HO, HD⟩ := hrel
    clear O3 D3
    by_cases hk : 0 < k
    · obtain ⟨k, rfl⟩ : ∃ j, k = j + 1 := ⟨k - 1, by omega⟩
      have hkI : (0 : Int) < ((k + 1 : Nat) : Int) := by omega
      have hkw : IntKind.i64.wrap (((k + 1 : Nat) : Int) - 1) = (k : Int) := by rw [show ((k + 1 : Nat) : Int) - 1 = (k : Int) by omega]; exact IntWalk.i64_in _ (by omega)
      have hw1 : IntKind.i64.wrap (fr + 1) = fr + 1 := IntWalk.i64_in _ (by omega)
      have hxl : xs.length ≤ 1000000000 := by omega
      go_wp2_with fail
      refine (next_dr 30 HD.out (by omega)).mono ?_
      rintro e w4 ⟨a, rfl, a0, a1, hd, hg⟩
      have D4 := Lib.hid hd
      have O4 := Lib.hid (HO.out.dr hg hpw)
      have hsz := hd.size
      clear hd hg HD HO
      go_wp2_with (at_builtin; refine wpList_app eTier rfl _ _ 31 (by rfl) 72 (.agg #[.int .i64 0, .int .i64 0]) 16 Try.underlying31 info_Tier rfl (by decide) (by decide) w.heap.size _ xs (by rfl) (by exact O4.out) (by exact hxl) (by exact hsz) ⟨fr, a⟩ _ (by rfl) _ (by rfl) (by rfl) ?_)
      intro v6 w6 hO6 hB6 _ _ _
      have O6 := Lib.hid hO6
      have D6 := Lib.hid (D4.out.below hB6)
      clear hO6 hB6 D4 O4
      go_wp2_with fail
      refine (next_dr 20000 D6.out (by omega)).mono ?_
      rintro e w7 ⟨b, rfl, b0, b1, hd, hg⟩
      have D7 := Lib.hid hd
      have O7 := Lib.hid (O6.out.dr hg hpw)
      have hw2 : IntKind.i64.wrap (fr + 1 + b) = fr + 1 + b := IntWalk.i64_in _ (by omega)
      clear hd hg D6 O6
      go_wp2
      go_roundg k
      case measure => omega
      case rel => exact ⟨_, fr + 1 + b, by go_num, by go_num, by rw [List.length_append, List.length_singleton]; omega, by omega, by omega, O7, D7⟩
    · obtain rfl : k = 0 := by omega
      clear hk
      have hxl5 : xs.length ≤ 3 := by omega
      obtain ⟨_, cap, rfl, _, _, _⟩ := Sl.shape (Sl.of_own HO.out (by unfold big40; omega))
      go_wp2_with fail
      refine (next_dr 40 HD.out (by omega)).mono ?_
      rintro e w4 ⟨c, rfl, c1, c2, hd, hg⟩
      have D4 := Lib.hid hd
      have O4 := Lib.hid (HO.out.dr hg hpw)
      have hsz := hd.size
      clear hd hg HD HO
      by_cases h0 : c = 0
      · subst h0
        go_wp2_with fail
        refine (pick_dr [-1, 0, 100000000, 100000001] _ _ rfl rfl (by simp) (by simp) D4.out).mono ?_
        rintro e w5 ⟨a, rfl, ha, hd, hg⟩
        have D5 := Lib.hid hd
        have O5 := Lib.hid (O4.out.dr hg hpw)
        clear hd hg ha D4 O4
        go_wp2_with fail
        refine (pick_dr [0, 100, 101] _ _ rfl rfl (by simp) (by simp) D5.out).mono ?_
        rintro e w6 ⟨b, rfl, hb, hd, hg⟩
        have D6 := Lib.hid hd
        have O6 := Lib.hid (O5.out.dr hg hpw)
        have hsz6 := hd.size
        have hxl : xs.length ≤ 1000000000 := by omega
        clear hd hg hb D5 O5
        go_wp2_with (at_builtin; refine wpList_app eTier rfl _ _ 31 (by rfl) 72 (.agg #[.int .i64 0, .int .i64 0]) 16 Try.underlying31 info_Tier rfl (by decide) (by decide) w.heap.size _ xs (by rfl) (by exact O6.out) (by exact hxl) (by exact hsz6) ⟨a, b⟩ _ (by rfl) _ (by rfl) (by rfl) ?_)
        intro v7 w7 hO7 hB7 _ _ _
        have O7 := Lib.hid hO7
        have D7 := Lib.hid (D6.out.below hB7)
        clear hO7 hB7 D6 O6
        go_wp2
        go_ret
        exact ⟨_, _, rfl, O7.out, by rw [List.length_append, List.length_singleton]; omega, D7.out⟩
      have h0b : (c == 0) = false := beq_eq_false_iff_ne.2 h0
      by_cases h1 : c = 1
      · subst h1
        clear h0b h0
        go_wp2
        go_loopg [3, 6] (7 - xs.length) (fun gk v q wr => ∃ (ys : List Tier) (j : Nat), q = .int .i64 j ∧ gk = 7 - ys.length ∧ ys.length ≤ 6 ∧ j ≤ ys.length ∧ Hid (Own eTier wr w.heap.size 72 v ys) ∧ Hid (Dr w p wr))
        case atStart => exact ⟨xs, 0, rfl, rfl, by omega, by omega, O4, D4⟩
        case round =>
          obtain ⟨ys, j, rfl, rfl, l1, lj, HO, HD⟩ := hrel
          clear O4 D4
          obtain ⟨_, cap2, rfl, _, _, _⟩ := Sl.shape (Sl.of_own HO.out (by unfold big40; omega))
          have HL1 : (ys.length : Int) ≤ 6 := by omega
          have hwj : IntKind.i64.wrap (90000 + (j : Int)) = 90000 + (j : Int) := IntWalk.i64_in _ (by omega)
          have hwk : IntKind.i64.wrap ((j : Int) + 1) = (j : Int) + 1 := IntWalk.i64_in _ (by omega)
          go_wp2_with fail
          refine (next_dr 2 HD.out (by omega)).mono ?_
          rintro e w5 ⟨b, rfl, b1, b2, hd, hg⟩
          have D5 := Lib.hid hd
          have O5 := Lib.hid (HO.out.dr hg hpw)
          have hsz5 := hd.size
          clear hd hg HD HO
          by_cases hb : (ys.length : Int) < 5 + b
          · have hl12 : ys.length ≤ 5 := by omega
            have hxl : ys.length ≤ 1000000000 := by omega
            go_wp2_with (at_builtin; refine wpList_app eTier rfl _ _ 31 (by rfl) 72 (.agg #[.int .i64 0, .int .i64 0]) 16 Try.underlying31 info_Tier rfl (by decide) (by decide) w.heap.size _ ys (by rfl) (by exact O5.out) (by exact hxl) (by exact hsz5) ⟨90000 + (j : Int), 0⟩ _ (by rfl) _ (by rfl) (by rfl) ?_)
            intro v6 w6 hO6 hB6 _ _ _
            have O6 := Lib.hid hO6
            have D6 := Lib.hid (D5.out.below hB6)
            clear hO6 hB6 D5 O5
            go_wp2
            go_roundg (7 - (ys.length + 1))
            case measure => omega
            case rel => exact ⟨_, j + 1, by go_num, by rw [List.length_append, List.length_singleton], by rw [List.length_append, List.length_singleton]; omega, by rw [List.length_append, List.length_singleton]; omega, O6, D6⟩
          · go_wp2
            go_ret
            exact ⟨_, _, rfl, O5.out, by omega, D5.out⟩
      have h1b : (c == 1) = false := beq_eq_false_iff_ne.2 h1
      go_wp2
      go_ret
      exact ⟨_, _, rfl, O4.out, by omega, D4.out⟩
set_option maxHeartbeats 4000000 in
set_option maxRecDepth 20000 in
theorem DrawDiscountOf_any (A : Option Addr) (n cap : Nat) (w : World) (hn : n ≤ 4096) (hc : n ≤ cap) (hb : Bytes w A n w.heap.size) :
    Calls Try.prog 78 #[.slice A n cap] w fun e w' => ∃ v xs u ts, e = .returned (.tuple #[v, u]) ∧ Own eItem w' w.heap.size 40 v xs ∧ xs.length ≤ 1000 ∧ (∀ x ∈ xs, okItem x) ∧ Own eTier w' w.heap.size 72 u ts ∧ ts.length ≤ 1000 ∧ Below w.heap.size w w' := by
  go_enter Try.func78, Try.ntmps78
  go_wp2_with fail
  refine (l01From_any A n cap w hn hc hb).mono ?_
  rintro e w1 ⟨p, rfl, hp, hs1, hb1⟩
  have D1 := Lib.hid (Dr.refl hs1)
  have B1 := Lib.hid hb1
  have hz1 := hb1.size
  have hp1 : p < w1.heap.size := hs1.lt
  clear hs1 hb1 hb
  go_wp2_with fail
  refine (l27Draw_any p w1 D1.out.1).mono ?_
  rintro e w2 ⟨v, xs, rfl, ho, hl, hk, hd⟩
  have D2 := Lib.hid (D1.out.trans hd)
  have O2 := Lib.hid ho
  have S2 : Hid (Src w2 p) := Lib.hid hd.1
  have hz2 := hd.size
  have HK := Lib.hid hk
  clear ho hd D1 hk
  go_wp2_with fail
  refine (l27Tiers_any p w2 S2.out).mono ?_
  rintro e w3 ⟨u, ts, rfl, ho, hl2, hd⟩
  have D3 := Lib.hid (D2.out.trans hd)
  have O3 := Lib.hid (ho.mono hz2)
  have O2b := Lib.hid (O2.out.dr hd.2.1 hp1)
  clear ho hd D2 S2 O2
  go_wp2
  go_ret2
  exact ⟨v, xs, u, ts, rfl, O2b.out.mono hz1, hl, HK.out, O3.out.mono hz1, hl2, D3.out.to_below B1.out hp⟩
set_option maxHeartbeats 4000000 in
set_option maxRecDepth 20000 in
theorem DrawTotalOf_any (A : Option Addr) (n cap : Nat) (w : World) (hn : n ≤ 4096) (hc : n ≤ cap) (hb : Bytes w A n w.heap.size) :
    Calls Try.prog 52 #[.slice A n cap] w fun e w' => ∃ v xs u ts r, e = .returned (.tuple #[v, u, .int .i64 r]) ∧ Own eItem w' w.heap.size 40 v xs ∧ xs.length ≤ 1000 ∧ (∀ x ∈ xs, okItem x) ∧ Own eTier w' w.heap.size 72 u ts ∧ ts.length ≤ 1000 ∧ (-1 ≤ r ∧ r ≤ 51) ∧ Below w.heap.size w w' := by
  go_enter Try.func52, Try.ntmps52
  go_wp2_with fail
  refine (l01From_any A n cap w hn hc hb).mono ?_
  rintro e w1 ⟨p, rfl, hp, hs1, hb1⟩
  have D1 := Lib.hid (Dr.refl hs1)
  have B1 := Lib.hid hb1
  have hz1 := hb1.size
  have hp1 : p < w1.heap.size := hs1.lt
  have HBY := Lib.hid (Bytes.below hb hb1)
  clear hs1 hb1 hb
  go_wp2_with fail
  refine (DrawDiscountOf_any A n cap w1 hn hc HBY.out).mono ?_
  rintro e w2 ⟨v, xs, u, ts, rfl, ho, hl, hk, hu, hl2, hb2⟩
  have D2 := Lib.hid (D1.out.below hb2)
  have O2 := Lib.hid ho
  have U2 := Lib.hid hu
  have HK := Lib.hid hk
  clear ho hu hk hb2 D1 HBY
  go_wp2_with fail
  refine (next_dr 51 D2.out (by omega)).mono ?_
  rintro e w3 ⟨b, rfl, b1, b2, hd, hg⟩
  have D3 := Lib.hid hd
  have O3 := Lib.hid (O2.out.dr hg hp1)
  have U3 := Lib.hid (U2.out.dr hg hp1)
  clear hd hg D2 O2 U2
  go_wp2_with fail
  refine (pick_dr [19, 20, 7, b, 0, 50, 51, -1] _ _ rfl rfl (by simp) (by simp) D3.out).mono ?_
  rintro e w4 ⟨r, rfl, hr, hd, hg⟩
  have hrb : -1 ≤ r ∧ r ≤ 51 := by simp at hr; omega
  have D4 := Lib.hid hd
  have O4 := Lib.hid (O3.out.dr hg hp1)
  have U4 := Lib.hid (U3.out.dr hg hp1)
  clear hd hg hr D3 O3 U3
  go_wp2
  go_ret3
  exact ⟨v, xs, u, ts, r, rfl, O4.out.mono hz1, hl, HK.out, U4.out.mono hz1, hl2, hrb, D4.out.to_below B1.out hp⟩
set_option maxHeartbeats 4000000 in
set_option maxRecDepth 20000 in
theorem DrawJoinItems_any (A : Option Addr) (n cap : Nat) (w : World) (hn : n ≤ 4096) (hc : n ≤ cap) (hb : Bytes w A n w.heap.size) :
    Calls Try.prog 53 #[.slice A n cap] w fun e w' => ∃ v xs, e = .returned v ∧ Own eItem w' w.heap.size 40 v xs ∧ xs.length ≤ 1001 ∧ (∀ x ∈ xs, okItem x) ∧ Below w.heap.size w w' := by
  go_enter Try.func53, Try.ntmps53
  go_wp2_with fail
  refine (l01From_any A n cap w hn hc hb).mono ?_
  rintro e w1 ⟨p, rfl, hp, hs1, hb1⟩
  have D1 := Lib.hid (Dr.refl hs1)
  have B1 := Lib.hid hb1
  have hz1 := hb1.size
  have hp1 : p < w1.heap.size := hs1.lt
  clear hs1 hb1 hb
  go_wp2_with fail
  refine (l27Draw_any p w1 D1.out.1).mono ?_
  rintro e w2 ⟨v, xs, rfl, ho, hl, hk, hd⟩
  have D2 := Lib.hid (D1.out.trans hd)
  have O2 := Lib.hid ho
  have hz2 := hd.size
  have HK := Lib.hid hk
  clear ho hd D1 hk
  obtain ⟨A2, cap2, rfl, _, _, _⟩ := Sl.shape (Sl.of_own O2.out (by unfold big40; omega))
  by_cases h0 : 0 < xs.length
  rotate_left
  · have hng : ¬ (0 : Int) < (xs.length : Int) := by omega
    go_wp2
    go_ret
    exact ⟨_, xs, rfl, O2.out.mono hz1, by omega, HK.out, D2.out.to_below B1.out hp⟩
  have hpI : (0 : Int) < (xs.length : Int) := by omega
  go_wp2_with fail
  refine (next_dr 2 D2.out (by omega)).mono ?_
  rintro e w3 ⟨b, rfl, b1, b2, hd, hg⟩
  have D3 := Lib.hid hd
  have O3 := Lib.hid (O2.out.dr hg hp1)
  have hz3 := hd.size
  clear hd hg D2 O2
  by_cases hb0 : b = 0
  rotate_left
  · have hbb : (b == 0) = false := beq_eq_false_iff_ne.2 hb0
    go_wp2
    go_ret
    exact ⟨_, xs, rfl, O3.out.mono hz1, by omega, HK.out, D3.out.to_below B1.out hp⟩
  subst hb0
  obtain ⟨g, cap3, e3, hgb, hgl⟩ := World.ownsRow.form O3.out h0
  cases e3
  have c0 : w3.cell? ⟨g, 0, none⟩ = some (.string xs[0].name) := by have h := (O3.out.cellsAt 0 h0 0 (by decide)).trans (show _ = some (Value.string xs[0].name) from rfl); simpa using h
  have c1 : w3.cell? ⟨g, 1, none⟩ = some (.int .i64 xs[0].pieces) := by have h := (O3.out.cellsAt 0 h0 1 (by decide)).trans (show _ = some (Value.int .i64 xs[0].pieces) from rfl); simpa using h
  have c2 : w3.cell? ⟨g, 2, none⟩ = some (.int .i64 xs[0].cents) := by have h := (O3.out.cellsAt 0 h0 2 (by decide)).trans (show _ = some (Value.int .i64 xs[0].cents) from rfl); simpa using h
  have c3 : w3.cell? ⟨g, 3, none⟩ = some (.bool xs[0].work) := by have h := (O3.out.cellsAt 0 h0 3 (by decide)).trans (show _ = some (Value.bool xs[0].work) from rfl); simpa using h
  have HOK := Lib.hid (HK.out _ (List.getElem_mem h0))
  have hxl : xs.length ≤ 1000000000 := by omega
  generalize xs[0] = y at *
  obtain ⟨nm, pc, ct, wk⟩ := y
  simp only at *
  go_wp2_with (at_builtin; refine wpList_app eItem rfl _ _ 46 (by rfl) 40 (.agg #[.string ⟨#[]⟩, .int .i64 0, .int .i64 0, .bool false]) 40 Try.underlying46 info_Item rfl (by decide) (by decide) w1.heap.size _ xs (by rfl) (by exact O3.out) (by exact hxl) (by exact hz3) ⟨nm, pc, ct, wk⟩ _ (by rfl) _ (by rfl) (by rfl) ?_)
  intro v6 w6 hO6 hB6 _ _ _
  have O6 := Lib.hid hO6
  have D6 := Lib.hid (D3.out.below hB6)
  have K6 := Lib.hid (ok_app HK.out HOK.out)
  clear hO6 hB6 D3 O3
  go_wp2
  go_ret
  exact ⟨_, _, rfl, O6.out.mono hz1, by rw [List.length_append, List.length_singleton]; omega, K6.out, D6.out.to_below B1.out hp⟩
end Go.Proofs.Ytfiapefkomolmaa
