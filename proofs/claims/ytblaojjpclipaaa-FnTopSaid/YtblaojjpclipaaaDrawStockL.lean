/- What the reference's draw of a stock hands out (chapter 24). No statement of the seat is proved here. -/
import Derived.Test.YtblaojjpclipaaaDrawStock
import Derived.Test.YtblaojjpclipaaaNames
namespace Go.Proofs.Ytblaojjpclipaaa
open Go.RowKit

theorem own_new2 {v v' : Value} {N : Nat} {u : World} (h : v.ownBlock ≠ some N) (hN : N < u.heap.size) (ho : v'.ownBlock = v.ownBlock ∨ u.heap.size ≤ v'.ownBlock.getD u.heap.size) : v'.ownBlock ≠ some N := fun e => by
  rcases ho with h2 | h2
  · exact h (h2.symm.trans e)
  · rw [e] at h2
    simp at h2
    omega
theorem ok_app1 {xs : List Bin} {y : Bin} (h : ∀ x ∈ xs, x.code.size ≤ 1048576) (hy : y.code.size ≤ 1048576) : ∀ x ∈ xs ++ [y], x.code.size ≤ 1048576 := by
  intro x hx
  rcases List.mem_append.1 hx with hx | hx
  · exact h x hx
  · rw [List.mem_singleton.1 hx]; exact hy
theorem litBz_at (k : Nat) (h : k < 3) : ∃ s : ByteArray, s.size ≤ 20 ∧ (#[.string ⟨#[98, 111, 108, 116]⟩, .string ⟨#[90]⟩, .string ⟨#[122, 105, 112]⟩] : Array Value)[k]? = some (.string s) := by
  match k, h with
  | 0, _ => exact ⟨⟨#[98, 111, 108, 116]⟩, by decide, rfl⟩
  | 1, _ => exact ⟨⟨#[90]⟩, by decide, rfl⟩
  | 2, _ => exact ⟨⟨#[122, 105, 112]⟩, by decide, rfl⟩
theorem litNb_at (k : Nat) (h : k < 3) : ∃ s : ByteArray, s.size ≤ 20 ∧ (#[.string ⟨#[110, 111, 110, 101]⟩, .string ⟨#[]⟩, .string ⟨#[98, 111, 108, 116]⟩] : Array Value)[k]? = some (.string s) := by
  match k, h with
  | 0, _ => exact ⟨⟨#[110, 111, 110, 101]⟩, by decide, rfl⟩
  | 1, _ => exact ⟨⟨#[]⟩, by decide, rfl⟩
  | 2, _ => exact ⟨⟨#[98, 111, 108, 116]⟩, by decide, rfl⟩
set_option maxHeartbeats 16000000 in
set_option maxRecDepth 20000 in
theorem l24Draw_any (p : Nat) (w : World) (hs : Src w p) :
    Calls Try.prog 71 #[.pointer (some ⟨p, 0, none⟩)] w fun e w' => ∃ v xs, e = .returned v ∧ Own eBin w' w.heap.size 54 v xs ∧ xs.length ≤ 100 ∧ (∀ x ∈ xs, x.code.size ≤ 1048576) ∧ Dr w p w' := by
  have hpw := hs.lt
  have D0 : Hid (Dr w p (w.alloc (.cells #[] 54))) := Lib.hid ((Dr.refl hs).alloc _)
  have O0 : Hid (Own eBin (w.alloc (.cells #[] 54)) w.heap.size 54 (.slice (some ⟨w.heap.size, 0, none⟩) 0 0) []) := Lib.hid (Own.empty eBin w _ _ (Nat.le_refl _))
  have K0 : Hid (∀ x ∈ ([] : List Bin), x.code.size ≤ 1048576) := Lib.hid (by simp)
  have hzA : (w.alloc (.cells #[] 54)).heap.size = w.heap.size + 1 := by simp
  clear hs
  go_enter Try.func71, Try.ntmps71
  go_wp2_with fail
  refine (l16Names_ps w p _ D0.out).mono ?_
  rintro e w1 ⟨N, rfl, hps, hN, hd, hg⟩
  have D1 := Lib.hid hd
  have O1 := Lib.hid (O0.out.dr hg hpw)
  have P1 := Lib.hid hps
  have NE0 : Hid ((Value.slice (some ⟨w.heap.size, 0, none⟩) 0 0).ownBlock ≠ some N) := Lib.hid (fun e => by simp [Value.ownBlock] at e; omega)
  have hNw : w.heap.size ≤ N := by omega
  clear hd hg hps D0 O0 hN hzA
  go_wp2
  go_loopg [3, 5] 8 (fun gk v i wr => ∃ (xs : List Bin) (j : Nat), i = .int .i64 (j : Nat) ∧ gk = 8 - j ∧ j ≤ 8 ∧ xs.length ≤ j ∧ Hid (Own eBin wr w.heap.size 54 v xs) ∧ Hid (Dr w p wr) ∧ Hid (∀ x ∈ xs, x.code.size ≤ 1048576) ∧ Hid (PS p wr (.slice (some ⟨N, 0, none⟩) 8 8) 8) ∧ Hid (v.ownBlock ≠ some N))
  case atStart => exact ⟨[], 0, rfl, rfl, by omega, by simp, O1, D1, K0, P1, NE0⟩
  case round =>
    rename Nat => gg
    obtain ⟨xs, j, rfl, rfl, hj8, l1, HO, HD, HK, HP, HN⟩ := hrel
    clear O1 D1 K0 P1 NE0
    by_cases hk : j < 8
    · have hkI : (j : Int) < 8 := by omega
      have hk0 : (0 : Int) ≤ (j : Int) := by omega
      go_wp2_with fail
      refine (next_dr 3 HD.out (by omega)).mono ?_
      rintro e w2 ⟨b, rfl, b0, b1, hd, hg⟩
      have D2 := Lib.hid hd
      have O2 := Lib.hid (HO.out.dr hg hpw)
      have P2 := Lib.hid (HP.out.stay (Stay.grown hg hg.size))
      clear hd hg HD HO HP
      by_cases hb : 0 < b
      rotate_left
      · obtain rfl : b = 0 := by omega
        go_wp2
        go_roundg (8 - (j + 1))
        case measure => omega
        case rel => exact ⟨xs, j + 1, by go_num, rfl, by omega, by omega, O2, D2, HK, P2, HN⟩
      have hp2 := P2.out
      obtain ⟨N', eN, hNp, hNs, hNc⟩ := hp2
      obtain rfl : N = N' := by cases eN; rfl
      obtain ⟨s, hs20, hNk⟩ := hNc j hk
      clear hNc eN
      go_wp2_with fail
      refine (l24Good_dr w p w2 s D2.out).mono ?_
      rintro e w3 ⟨⟨cd, am, rs, pt, lt⟩, rfl, hcd, hd, hg⟩
      have D3 := Lib.hid hd
      have O3 := Lib.hid (O2.out.dr hg hpw)
      have P3 := Lib.hid (P2.out.stay (Stay.grown hg hg.size))
      have hsz3 := hd.size
      have hxl9 : xs.length ≤ 1000000000 := by omega
      have HOKX : Hid ((⟨cd, am, rs, pt, lt⟩ : Bin).code.size ≤ 1048576) := Lib.hid (by rw [hcd]; omega)
      clear hd hg D2 O2 P2 hNk hcd
      go_wp2_with (at_builtin; refine wpList_app eBin rfl _ _ 36 (by rfl) 54 (.agg #[.string ⟨#[]⟩, .int .i64 0, .int .i64 0, .int .i64 0, .int .i64 0]) 48 Try.underlying36 info_Bin rfl (by decide) (by decide) w.heap.size _ xs (by rfl) (by exact O3.out) (by exact hxl9) (by exact hsz3) ⟨cd, am, rs, pt, lt⟩ _ (by rfl) _ (by rfl) (by first | rfl | simp) ?_)
      intro v6 w6 hO6 hB6 hG6 hor6 _
      have O6 := Lib.hid hO6
      have D6 := Lib.hid (D3.out.below hB6)
      have K6 := Lib.hid (ok_app1 (y := ⟨cd, am, rs, pt, lt⟩) HK.out HOKX.out)
      have P6 := Lib.hid (P3.out.far hG6 HN.out)
      have N6 := Lib.hid (own_new2 HN.out P3.out.lt hor6)
      clear hO6 hB6 hG6 hor6 D3 O3 P3
      go_wp2
      go_roundg (8 - (j + 1))
      case measure => omega
      case rel => exact ⟨_, j + 1, by go_num, rfl, by omega, by rw [List.length_append, List.length_singleton]; omega, O6, D6, K6, P6, N6⟩
    obtain rfl : j = 8 := by omega
    clear hk
    go_wp2_with fail
    refine (next_dr 40 HD.out (by omega)).mono ?_
    rintro e w4 ⟨c, rfl, c1, c2, hd, hg⟩
    have D4 := Lib.hid hd
    have O4 := Lib.hid (HO.out.dr hg hpw)
    have hxl8 : xs.length ≤ 8 := by omega
    have hxl9 : xs.length ≤ 1000000000 := by omega
    clear hd hg HD HO HP HN
    by_cases h0 : c = 0
    · subst h0
      have DL : Hid (Dr w p (w4.alloc (.cells #[.string ⟨#[98, 111, 108, 116]⟩, .string ⟨#[90]⟩, .string ⟨#[122, 105, 112]⟩] 9))) := Lib.hid (D4.out.alloc _)
      have PL : Hid (PS p (w4.alloc (.cells #[.string ⟨#[98, 111, 108, 116]⟩, .string ⟨#[90]⟩, .string ⟨#[122, 105, 112]⟩] 9)) (.slice (some ⟨w4.heap.size, 0, none⟩) 3 3) 3) := Lib.hid (PS.new D4.out litBz_at)
      have OL : Hid (Own eBin (w4.alloc (.cells #[.string ⟨#[98, 111, 108, 116]⟩, .string ⟨#[90]⟩, .string ⟨#[122, 105, 112]⟩] 9)) w.heap.size 54 u3 xs) := Lib.hid (O4.out.alloc _)
      clear D4 O4
      go_wp2_with fail
      generalize w4.alloc (.cells #[.string ⟨#[98, 111, 108, 116]⟩, .string ⟨#[90]⟩, .string ⟨#[122, 105, 112]⟩] 9) = wL at *
      generalize w4.heap.size = M at *
      refine (next_dr 3 DL.out (by omega)).mono ?_
      rintro e w5 ⟨x, rfl, x0, x1, hd, hg⟩
      obtain ⟨x, rfl⟩ := Int.eq_ofNat_of_zero_le x0
      have hx3 : x < 3 := by omega
      have hxi : (x : Int) < 3 := by omega
      have D5 := Lib.hid hd
      have O5 := Lib.hid (OL.out.dr hg hpw)
      obtain ⟨N', eN, hNp, hNs, hNc⟩ := PL.out.stay (Stay.grown hg hg.size)
      obtain rfl : M = N' := by cases eN; rfl
      obtain ⟨s, hs20, hNk⟩ := hNc x hx3
      clear hd hg DL OL PL hNc eN
      go_wp2_with fail
      refine (l24Good_dr w p w5 s D5.out).mono ?_
      rintro e w6 ⟨⟨cd, am, rs, pt, lt⟩, rfl, hcd, hd, hg⟩
      have D6 := Lib.hid hd
      have O6 := Lib.hid (O5.out.dr hg hpw)
      have hsz6 := hd.size
      have HOKX : Hid ((⟨cd, am, rs, pt, lt⟩ : Bin).code.size ≤ 1048576) := Lib.hid (by rw [hcd]; omega)
      clear hd hg D5 O5 hNk hcd
      go_wp2_with (at_builtin; refine wpList_app eBin rfl _ _ 36 (by rfl) 54 (.agg #[.string ⟨#[]⟩, .int .i64 0, .int .i64 0, .int .i64 0, .int .i64 0]) 48 Try.underlying36 info_Bin rfl (by decide) (by decide) w.heap.size _ xs (by rfl) (by exact O6.out) (by exact hxl9) (by exact hsz6) ⟨cd, am, rs, pt, lt⟩ _ (by rfl) _ (by rfl) (by first | rfl | simp) ?_)
      intro v8 w8 hO8 hB8 _ _ _
      have O8 := Lib.hid hO8
      have D8 := Lib.hid (D6.out.below hB8)
      have K8 := Lib.hid (ok_app1 (y := ⟨cd, am, rs, pt, lt⟩) HK.out HOKX.out)
      clear hO8 hB8 D6 O6
      go_wp2
      go_ret
      exact ⟨_, _, rfl, O8.out, by rw [List.length_append, List.length_singleton]; omega, K8.out, D8.out⟩
    have h0b : (c == 0) = false := beq_eq_false_iff_ne.2 h0
    by_cases h1 : c = 1
    · subst h1
      clear h0b h0
      obtain ⟨A0x, cap, rfl, _, _, _⟩ := Sl.shape (Sl.of_own O4.out (by unfold big40; omega))
      go_wp2
      go_loopg [3, 6] (22 - xs.length) (fun gk v k wr => ∃ (ys : List Bin) (j : Nat), k = .int .i64 (j : Nat) ∧ gk = 22 - ys.length ∧ j ≤ ys.length ∧ ys.length ≤ 21 ∧ Hid (Own eBin wr w.heap.size 54 v ys) ∧ Hid (Dr w p wr) ∧ Hid (∀ x ∈ ys, x.code.size ≤ 1048576))
      case atStart => exact ⟨xs, 0, rfl, rfl, by omega, by omega, O4, D4, HK⟩
      case round =>
        obtain ⟨ys, j, rfl, rfl, hj, l2, HO, HD, HK2⟩ := hrel
        clear O4 D4 HK
        obtain ⟨A2, cap2, rfl, _, _, _⟩ := Sl.shape (Sl.of_own HO.out (by unfold big40; omega))
        have HL1 : (ys.length : Int) ≤ 21 := by omega
        go_wp2_with fail
        refine (next_dr 2 HD.out (by omega)).mono ?_
        rintro e w5 ⟨b, rfl, b1, b2, hd, hg⟩
        have D5 := Lib.hid hd
        have O5 := Lib.hid (HO.out.dr hg hpw)
        clear hd hg HD HO
        by_cases hb : (ys.length : Int) < 20 + b
        · have hl12 : ys.length ≤ 20 := by omega
          have hyl : ys.length ≤ 1000000000 := by omega
          have hj0 : (0 : Int) ≤ (j : Int) := by omega
          have hj1 : (j : Int) ≤ (j : Int) + 1 := by omega
          have hj2 : (j : Int) + 1 ≤ 22 := by omega
          have hjw : IntKind.i64.wrap ((j : Int) + 1) = (j : Int) + 1 := IntWalk.i64_in _ (by omega)
          have HST : Hid ((⟨#[120]⟩ ++ (⟨#[97, 98, 99, 100, 101, 102, 103, 104, 105, 106, 107, 108, 109, 110, 111, 112, 113, 114, 115, 116, 117, 118]⟩ : ByteArray).extract j (j + 1)).size ≤ 1048576) := Lib.hid (by
            have h1 : (⟨#[120]⟩ : ByteArray).size = 1 := rfl
            have h2 : (⟨#[97, 98, 99, 100, 101, 102, 103, 104, 105, 106, 107, 108, 109, 110, 111, 112, 113, 114, 115, 116, 117, 118]⟩ : ByteArray).size = 22 := rfl
            rw [ByteArray.size_append, ByteArray.size_extract, h1, h2]
            omega)
          go_wp2_with fail
          generalize ⟨#[120]⟩ ++ (⟨#[97, 98, 99, 100, 101, 102, 103, 104, 105, 106, 107, 108, 109, 110, 111, 112, 113, 114, 115, 116, 117, 118]⟩ : ByteArray).extract j (j + 1) = st at *
          refine (l24Good_dr w p w5 st D5.out).mono ?_
          rintro e w6 ⟨⟨cd, am, rs, pt, lt⟩, rfl, hcd, hd, hg⟩
          have D6 := Lib.hid hd
          have O6 := Lib.hid (O5.out.dr hg hpw)
          have hsz6 := hd.size
          have HOKX : Hid ((⟨cd, am, rs, pt, lt⟩ : Bin).code.size ≤ 1048576) := Lib.hid (by rw [hcd]; exact HST.out)
          clear hd hg D5 O5 hcd HST
          go_wp2_with (at_builtin; refine wpList_app eBin rfl _ _ 36 (by rfl) 54 (.agg #[.string ⟨#[]⟩, .int .i64 0, .int .i64 0, .int .i64 0, .int .i64 0]) 48 Try.underlying36 info_Bin rfl (by decide) (by decide) w.heap.size _ ys (by rfl) (by exact O6.out) (by exact hyl) (by exact hsz6) ⟨cd, am, rs, pt, lt⟩ _ (by rfl) _ (by rfl) (by first | rfl | simp) ?_)
          intro v8 w8 hO8 hB8 _ _ _
          have O8 := Lib.hid hO8
          have D8 := Lib.hid (D6.out.below hB8)
          have K8 := Lib.hid (ok_app1 (y := ⟨cd, am, rs, pt, lt⟩) HK2.out HOKX.out)
          clear hO8 hB8 D6 O6
          go_wp2
          go_roundg (22 - (ys.length + 1))
          case measure => omega
          case rel => exact ⟨_, j + 1, by go_num, by rw [List.length_append, List.length_singleton], by rw [List.length_append, List.length_singleton]; omega, by rw [List.length_append, List.length_singleton]; omega, O8, D8, K8⟩
        · go_wp2
          go_ret
          exact ⟨_, _, rfl, O5.out, by omega, HK2.out, D5.out⟩
    have h1b : (c == 1) = false := beq_eq_false_iff_ne.2 h1
    by_cases h2 : c = 2
    · subst h2
      go_wp2_with fail
      refine (pick_dr [5, 100000, 100001] _ _ rfl rfl (by simp) (by simp) D4.out).mono ?_
      rintro e w5 ⟨a, rfl, ha, hd, hg⟩
      have D5 := Lib.hid hd
      have O5 := Lib.hid (O4.out.dr hg hpw)
      clear hd hg ha D4 O4
      go_wp2_with fail
      refine (pick_dr [5, 6, -1] _ _ rfl rfl (by simp) (by simp) D5.out).mono ?_
      rintro e w6 ⟨b, rfl, hb, hd, hg⟩
      have D6 := Lib.hid hd
      have O6 := Lib.hid (O5.out.dr hg hpw)
      clear hd hg hb D5 O5
      go_wp2_with fail
      refine (pick_dr [0, 1, 100000] _ _ rfl rfl (by simp) (by simp) D6.out).mono ?_
      rintro e w7 ⟨l, rfl, hl, hd, hg⟩
      have D7 := Lib.hid hd
      have O7 := Lib.hid (O6.out.dr hg hpw)
      have hsz7 := hd.size
      clear hd hg hl D6 O6
      go_wp2_with (at_builtin; refine wpList_app eBin rfl _ _ 36 (by rfl) 54 (.agg #[.string ⟨#[]⟩, .int .i64 0, .int .i64 0, .int .i64 0, .int .i64 0]) 48 Try.underlying36 info_Bin rfl (by decide) (by decide) w.heap.size _ xs (by rfl) (by exact O7.out) (by exact hxl9) (by exact hsz7) ⟨⟨#[122, 105, 110, 99]⟩, a, b, 0, l⟩ _ (by rfl) _ (by rfl) (by first | rfl | simp) ?_)
      intro v8 w8 hO8 hB8 _ _ _
      have O8 := Lib.hid hO8
      have D8 := Lib.hid (D7.out.below hB8)
      have K8 := Lib.hid (ok_app1 (y := ⟨⟨#[122, 105, 110, 99]⟩, a, b, 0, l⟩) HK.out (show (⟨#[122, 105, 110, 99]⟩ : ByteArray).size ≤ 1048576 by decide))
      clear hO8 hB8 D7 O7
      go_wp2
      go_ret
      exact ⟨_, _, rfl, O8.out, by rw [List.length_append, List.length_singleton]; omega, K8.out, D8.out⟩
    have h2b : (c == 2) = false := beq_eq_false_iff_ne.2 h2
    go_wp2
    go_ret
    exact ⟨_, _, rfl, O4.out, by omega, HK.out, D4.out⟩
set_option maxHeartbeats 4000000 in
set_option maxRecDepth 20000 in
theorem l24Name_dr (w0 : World) (p : Nat) (w : World) (v : Value) (xs : List Bin) (hD : Dr w0 p w) (hv : Sl eBin w v xs) (hq : ∀ x ∈ xs, x.code.size ≤ 1048576) (hl : xs.length ≤ 1000000) (hb : ∀ b off n cap, v = .slice (some ⟨b, off, none⟩) n cap → b ≠ p) :
    Calls Try.prog 72 #[.pointer (some ⟨p, 0, none⟩), v] w fun e w' => ∃ s : ByteArray, e = .returned (.string s) ∧ s.size ≤ 1048576 ∧ Dr w0 p w' ∧ w.grownBy w' (some p) := by
  obtain ⟨A, cap, rfl, _, _, hc⟩ := hv.shape
  have HD := Lib.hid hD
  have HQ := Lib.hid hq
  have HBP := Lib.hid hb
  have REST : Hid (∀ W, Dr w0 p W → Dr w0 p (W.alloc (.cells #[.string ⟨#[110, 111, 110, 101]⟩, .string ⟨#[]⟩, .string ⟨#[98, 111, 108, 116]⟩] 9)) ∧ PS p (W.alloc (.cells #[.string ⟨#[110, 111, 110, 101]⟩, .string ⟨#[]⟩, .string ⟨#[98, 111, 108, 116]⟩] 9)) (.slice (some ⟨W.heap.size, 0, none⟩) 3 3) 3) := Lib.hid (fun W h => ⟨h.alloc _, PS.new h litNb_at⟩)
  clear hv hD hq hb
  by_cases h0 : 0 < xs.length
  · have h0i : (0 : Int) < (xs.length : Int) := by omega
    obtain ⟨b, off, rfl, hbl, hcell⟩ := hc h0
    have hbp : b ≠ p := HBP.out b off _ _ rfl
    go_enter Try.func72, Try.ntmps72
    go_wp2_with fail
    refine (next_dr 8 HD.out (by omega)).mono ?_
    rintro e w1 ⟨z, rfl, z0, z1, hd, hg⟩
    have D1 := Lib.hid hd
    have G1 := Lib.hid hg
    clear hd hg HD
    by_cases hz : 0 < z
    · go_wp2_with fail
      refine (next_dr (xs.length : Int) D1.out (by omega)).mono ?_
      rintro e w2 ⟨k, rfl, k0, k1, hd, hg⟩
      obtain ⟨k, rfl⟩ := Int.eq_ofNat_of_zero_le k0
      have hk : k < xs.length := by omega
      have hki : (k : Int) < (xs.length : Int) := by omega
      have hg2 := grown_tr G1.out hg
      have c0 : w2.cell? ⟨b, off + k * 5, none⟩ = some (.string xs[k].code) := (hg2.cell_far ⟨b, off + k * 5, none⟩ hbl (fun e => hbp (Option.some.inj e))).trans (by simpa [eBin] using hcell k hk 0 _ (by decide) rfl)
      have HS := Lib.hid (HQ.out _ (List.getElem_mem hk))
      have D2 := Lib.hid hd
      have G2 := Lib.hid hg2
      clear hd hg hg2 D1 G1 hcell hc
      go_wp2
      go_ret
      exact ⟨_, rfl, HS.out, D2.out, G2.out⟩
    · obtain rfl : z = 0 := by omega
      obtain ⟨q1, q2⟩ := REST.out _ D1.out
      have Q1 := Lib.hid q1
      have Q2 := Lib.hid q2
      have GA := Lib.hid (grown_tr G1.out (World.grownBy_alloc w1 (.cells #[.string ⟨#[110, 111, 110, 101]⟩, .string ⟨#[]⟩, .string ⟨#[98, 111, 108, 116]⟩] 9) (some p)))
      clear q1 q2 REST D1 G1 hcell hc
      go_wp2_with fail
      generalize w1.alloc (.cells #[.string ⟨#[110, 111, 110, 101]⟩, .string ⟨#[]⟩, .string ⟨#[98, 111, 108, 116]⟩] 9) = wL at *
      generalize w1.heap.size = M at *
      refine (next_dr 3 Q1.out (by omega)).mono ?_
      rintro e w2 ⟨x, rfl, x0, x1, hd, hg⟩
      obtain ⟨x, rfl⟩ := Int.eq_ofNat_of_zero_le x0
      have hx3 : x < 3 := by omega
      have hxi : (x : Int) < 3 := by omega
      obtain ⟨N', eN, hNp, hNs, hNc⟩ := Q2.out.stay (Stay.grown hg hg.size)
      obtain rfl : M = N' := by cases eN; rfl
      obtain ⟨s, hs20, hNk⟩ := hNc x hx3
      have D2 := Lib.hid hd
      have G2 := Lib.hid (grown_tr GA.out hg)
      clear hd hg hNc eN Q1 Q2 GA
      go_wp2
      go_ret
      exact ⟨s, rfl, by omega, D2.out, G2.out⟩
  · have h0i : ¬ (0 : Int) < (xs.length : Int) := by omega
    obtain ⟨q1, q2⟩ := REST.out _ HD.out
    have Q1 := Lib.hid q1
    have Q2 := Lib.hid q2
    have GA := Lib.hid (World.grownBy_alloc w (.cells #[.string ⟨#[110, 111, 110, 101]⟩, .string ⟨#[]⟩, .string ⟨#[98, 111, 108, 116]⟩] 9) (some p))
    clear q1 q2 REST HD hc
    go_enter Try.func72, Try.ntmps72
    go_wp2_with fail
    generalize w.alloc (.cells #[.string ⟨#[110, 111, 110, 101]⟩, .string ⟨#[]⟩, .string ⟨#[98, 111, 108, 116]⟩] 9) = wL at *
    obtain ⟨M, hM⟩ : ∃ M, w.heap.size = M := ⟨_, rfl⟩
    rw [hM] at Q2 ⊢
    refine (next_dr 3 Q1.out (by omega)).mono ?_
    rintro e w2 ⟨x, rfl, x0, x1, hd, hg⟩
    obtain ⟨x, rfl⟩ := Int.eq_ofNat_of_zero_le x0
    have hx3 : x < 3 := by omega
    have hxi : (x : Int) < 3 := by omega
    obtain ⟨N', eN, hNp, hNs, hNc⟩ := Q2.out.stay (Stay.grown hg hg.size)
    obtain rfl : M = N' := by cases eN; rfl
    obtain ⟨s, hs20, hNk⟩ := hNc x hx3
    have D2 := Lib.hid hd
    have G2 := Lib.hid (grown_tr GA.out hg)
    clear hd hg hNc eN Q1 Q2 GA
    go_wp2
    go_ret
    exact ⟨s, rfl, by omega, D2.out, G2.out⟩
set_option maxHeartbeats 4000000 in
set_option maxRecDepth 20000 in
theorem DrawReservePieces_any (A : Option Addr) (n cap : Nat) (w : World) (hn : n ≤ 4096) (hc : n ≤ cap) (hb : Bytes w A n w.heap.size) :
    Calls Try.prog 42 #[.slice A n cap] w fun e w' => ∃ (v : Value) (xs : List Bin) (s : ByteArray) (m : Int), e = .returned (.tuple #[v, .string s, .int .i64 m]) ∧ Own eBin w' w.heap.size 54 v xs ∧ xs.length ≤ 1000 ∧ (∀ x ∈ xs, x.code.size ≤ 1048576) ∧ s.size ≤ 1048576 ∧ (0 ≤ m ∧ m ≤ 100001) ∧ Below w.heap.size w w' := by
  go_enter Try.func42, Try.ntmps42
  go_wp2_with fail
  refine (l01From_any A n cap w hn hc hb).mono ?_
  rintro e w1 ⟨p, rfl, hp, hs1, hb1⟩
  have D1 := Lib.hid (Dr.refl hs1)
  have B1 := Lib.hid hb1
  have hz1 := hb1.size
  have hp1 : p < w1.heap.size := hs1.lt
  clear hs1 hb1 hb
  go_wp2_with fail
  refine (l24Draw_any p w1 D1.out.1).mono ?_
  rintro e w2 ⟨v, xs, rfl, ho, hl, hk, hd⟩
  have D2 := Lib.hid (D1.out.trans hd)
  have O2 := Lib.hid ho
  have HK := Lib.hid hk
  have S2 := Lib.hid (Sl.of_own ho (by unfold big40; omega))
  have NB : Hid (∀ b off n cap, v = .slice (some ⟨b, off, none⟩) n cap → b ≠ p) := Lib.hid (fun b off n cap e hbp => by
    subst e
    subst hbp
    have := (World.ownsRow.lt ho b rfl).1
    omega)
  clear ho hd hk D1
  go_wp2_with fail
  refine (l24Name_dr w1 p w2 v xs D2.out S2.out HK.out (by omega) NB.out).mono ?_
  rintro e w3 ⟨s, rfl, hss, hd, hg⟩
  have D3 := Lib.hid hd
  have O3 := Lib.hid (O2.out.dr hg hp1)
  clear hd hg D2 O2 S2 NB
  go_wp2_with fail
  refine (next_dr 8 D3.out (by omega)).mono ?_
  rintro e w4 ⟨a, rfl, a0, a1, hd, hg⟩
  have D4 := Lib.hid hd
  have O4 := Lib.hid (O3.out.dr hg hp1)
  have hwa : IntKind.i64.wrap (1 + a) = 1 + a := IntWalk.i64_in _ (by omega)
  clear hd hg D3 O3
  go_wp2_with fail
  refine (next_dr 4 D4.out (by omega)).mono ?_
  rintro e w5 ⟨b, rfl, b0, b1, hd, hg⟩
  have D5 := Lib.hid hd
  have O5 := Lib.hid (O4.out.dr hg hp1)
  have hwb : IntKind.i64.wrap (1 + b) = 1 + b := IntWalk.i64_in _ (by omega)
  clear hd hg D4 O4
  go_wp2_with fail
  refine (pick_dr [1 + a, 1, 0, 100000, 100001, 1 + b] _ _ rfl rfl (by simp) (by simp) D5.out).mono ?_
  rintro e w6 ⟨m, rfl, hm, hd, hg⟩
  have O6 := Lib.hid ((O5.out.dr hg hp1).mono hz1)
  have HB := Lib.hid (hd.to_below B1.out hp)
  have hmb : 0 ≤ m ∧ m ≤ 100001 := by simp at hm; omega
  clear hd hg hm D5 O5
  go_wp2
  go_ret3
  exact ⟨v, xs, s, m, rfl, O6.out, by omega, HK.out, hss, hmb, HB.out⟩
theorem DrawUsePieces_any (A : Option Addr) (n cap : Nat) (w : World) (hn : n ≤ 4096) (hc : n ≤ cap) (hb : Bytes w A n w.heap.size) :
    Calls Try.prog 11 #[.slice A n cap] w fun e w' => ∃ (v : Value) (xs : List Bin) (s : ByteArray) (m : Int), e = .returned (.tuple #[v, .string s, .int .i64 m]) ∧ Own eBin w' w.heap.size 54 v xs ∧ xs.length ≤ 1000 ∧ (∀ x ∈ xs, x.code.size ≤ 1048576) ∧ s.size ≤ 1048576 ∧ (0 ≤ m ∧ m ≤ 100001) ∧ Below w.heap.size w w' := by
  go_enter Try.func11, Try.ntmps11
  go_wp2_with fail
  refine (DrawReservePieces_any A n cap w hn hc hb).mono ?_
  rintro e w1 ⟨v, xs, s, m, rfl, h1, h2, h3, h4, h5, h6⟩
  have H := Lib.hid (And.intro h1 (And.intro h2 (And.intro h3 (And.intro h4 (And.intro h5 h6)))))
  clear h1 h2 h3 h4 h5 h6 hb
  go_wp2
  go_ret3
  exact ⟨v, xs, s, m, rfl, H.out⟩
end Go.Proofs.Ytblaojjpclipaaa
