/- What the reference's draws of verdicts, of claims left, of a last day and of a claim to add hand out (chapter 28). No statement of the seat is proved here. -/
import Derived.Test.YtnpfgngfolgdfaaDrawClaims
import Derived.Test.YtnpfgngfolgdfaaDrawTerms
namespace Go.Proofs.Ytnpfgngfolgdfaa
open Go.RowKit

theorem cells4 {W : World} {B : Nat} {v0 v1 v2 v3 o0 o1 o2 o3 : Value} (z0 : W.cell? ⟨B, 0, none⟩ = some o0) (z1 : W.cell? ⟨B, 1, none⟩ = some o1) (z2 : W.cell? ⟨B, 2, none⟩ = some o2) (z3 : W.cell? ⟨B, 3, none⟩ = some o3) : ((((W.setCell ⟨B, 0, none⟩ v0).setCell ⟨B, 1, none⟩ v1).setCell ⟨B, 2, none⟩ v2).setCell ⟨B, 3, none⟩ v3).cell? ⟨B, 0, none⟩ = some v0 ∧ ((((W.setCell ⟨B, 0, none⟩ v0).setCell ⟨B, 1, none⟩ v1).setCell ⟨B, 2, none⟩ v2).setCell ⟨B, 3, none⟩ v3).cell? ⟨B, 1, none⟩ = some v1 ∧ ((((W.setCell ⟨B, 0, none⟩ v0).setCell ⟨B, 1, none⟩ v1).setCell ⟨B, 2, none⟩ v2).setCell ⟨B, 3, none⟩ v3).cell? ⟨B, 2, none⟩ = some v2 ∧ ((((W.setCell ⟨B, 0, none⟩ v0).setCell ⟨B, 1, none⟩ v1).setCell ⟨B, 2, none⟩ v2).setCell ⟨B, 3, none⟩ v3).cell? ⟨B, 3, none⟩ = some v3 := by
  have other : ∀ (X : World) (i j : Nat) (v u : Value), i ≠ j → X.cell? ⟨B, i, none⟩ = some u → (X.setCell ⟨B, j, none⟩ v).cell? ⟨B, i, none⟩ = some u := fun X i j v u hij hu => (World.cell?_setCell_other X ⟨B, j, none⟩ ⟨B, i, none⟩ v (by simp; try omega)).trans hu
  have same : ∀ (X : World) (j : Nat) (v u : Value), X.cell? ⟨B, j, none⟩ = some u → (X.setCell ⟨B, j, none⟩ v).cell? ⟨B, j, none⟩ = some v := fun X j v u hu => World.cell?_setCell_same X _ v hu
  exact ⟨other _ 0 3 v3 v0 (by omega) (other _ 0 2 v2 v0 (by omega) (other _ 0 1 v1 v0 (by omega) (same _ 0 v0 o0 z0))), other _ 1 3 v3 v1 (by omega) (other _ 1 2 v2 v1 (by omega) (same _ 1 v1 o1 (other _ 1 0 v0 o1 (by omega) z1))), other _ 2 3 v3 v2 (by omega) (same _ 2 v2 o2 (other _ 2 1 v1 o2 (by omega) (other _ 2 0 v0 o2 (by omega) z2))), same _ 3 v3 o3 (other _ 3 2 v2 o3 (by omega) (other _ 3 1 v1 o3 (by omega) (other _ 3 0 v0 o3 (by omega) z3)))⟩
set_option maxHeartbeats 16000000 in
set_option maxRecDepth 20000 in
theorem l28Draw_any (p : Nat) (w : World) (hs : Src w p) :
    Calls Try.prog 78 #[.pointer (some ⟨p, 0, none⟩)] w fun e w' => ∃ v xs, e = .returned v ∧ Own eClaim w' w.heap.size 47 v xs ∧ xs.length ≤ 100 ∧ (∀ x ∈ xs, okClaim x) ∧ Dr w p w' := by
  have hpw := hs.lt
  have S0 : Hid (Src w p) := Lib.hid hs
  clear hs
  go_enter Try.func78, Try.ntmps78
  go_wp2_with fail
  refine (l28Good_any p w S0.out).mono ?_
  rintro e w1 ⟨v, xs, rfl, ho, hl, hk, hd⟩
  have O1 := Lib.hid ho
  have D1 := Lib.hid hd
  have HK := Lib.hid hk
  obtain ⟨A0x, cap, rfl, _, _, _⟩ := Sl.shape (Sl.of_own ho (by unfold big40; omega))
  clear ho hd hk S0
  go_wp2_with fail
  refine (next_dr 40 D1.out (by omega)).mono ?_
  rintro e w2 ⟨c, rfl, c1, c2, hd, hg⟩
  have D2 := Lib.hid hd
  have O2 := Lib.hid (O1.out.dr hg hpw)
  clear hd hg D1 O1
  by_cases h0 : c = 0
  · subst h0
    go_wp2_with fail
    refine (l01DrawWord_dr w p w2 D2.out).mono ?_
    rintro e w3 ⟨nm, rfl, hnm, hd, hg⟩
    have D3 := Lib.hid hd
    have O3 := Lib.hid (O2.out.dr hg hpw)
    have HN : Hid (nm.size ≤ 9223372036854775807) := Lib.hid (by omega)
    clear hd hg hnm D2 O2
    go_wp2_with fail
    refine (pick_dr [5, 100000] _ _ rfl rfl (by simp) (by simp) D3.out).mono ?_
    rintro e w4 ⟨a, rfl, ha, hd, hg⟩
    have D4 := Lib.hid hd
    have O4 := Lib.hid (O3.out.dr hg hpw)
    clear hd hg ha D3 O3
    go_wp2_with fail
    refine (pick_dr [4, 100000, 100001] _ _ rfl rfl (by simp) (by simp) D4.out).mono ?_
    rintro e w5 ⟨b, rfl, hb, hd, hg⟩
    have D5 := Lib.hid hd
    have O5 := Lib.hid (O4.out.dr hg hpw)
    clear hd hg hb D4 O4
    go_wp2_with fail
    refine (pick_dr [0, -1, 100000000, 100000001] _ _ rfl rfl (by simp) (by simp) D5.out).mono ?_
    rintro e w6 ⟨t, rfl, ht, hd, hg⟩
    have D6 := Lib.hid hd
    have O6 := Lib.hid (O5.out.dr hg hpw)
    have hsz6 := hd.size
    have hxl : xs.length ≤ 1000000000 := by omega
    clear hd hg ht D5 O5
    go_wp2_with (at_builtin; refine wpList_app eClaim rfl _ _ 28 (by rfl) 47 (.agg #[.string ⟨#[]⟩, .int .i64 0, .int .i64 0, .int .i64 0]) 40 Try.underlying28 info_Claim rfl (by decide) (by decide) w.heap.size _ xs (by rfl) (by exact O6.out) (by exact hxl) (by exact hsz6) ⟨nm, a, b, t⟩ _ (by rfl) _ (by rfl) (by first | rfl | simp) ?_)
    intro v8 w8 hO8 hB8 _ _ _
    have O8 := Lib.hid hO8
    have D8 := Lib.hid (D6.out.below hB8)
    have K8 := Lib.hid (ok_appC HK.out (show okClaim ⟨nm, a, b, t⟩ from HN.out))
    clear hO8 hB8 D6 O6
    go_wp2
    go_ret
    exact ⟨_, _, rfl, O8.out, by rw [List.length_append, List.length_singleton]; omega, K8.out, D8.out⟩
  have h0b : (c == 0) = false := beq_eq_false_iff_ne.2 h0
  by_cases h1 : c = 1
  · subst h1
    clear h0b h0
    go_wp2
    go_loopg [3] (22 - xs.length) (fun gk v wr => ∃ ys : List Claim, gk = 22 - ys.length ∧ ys.length ≤ 21 ∧ Hid (Own eClaim wr w.heap.size 47 v ys) ∧ Hid (Dr w p wr) ∧ Hid (∀ x ∈ ys, okClaim x))
    case atStart => exact ⟨xs, rfl, by omega, O2, D2, HK⟩
    case round =>
      obtain ⟨ys, rfl, l1, HO, HD, HK2⟩ := hrel
      clear O2 D2 HK
      obtain ⟨_, cap2, rfl, _, _, _⟩ := Sl.shape (Sl.of_own HO.out (by unfold big40; omega))
      have HL1 : (ys.length : Int) ≤ 21 := by omega
      go_wp2_with fail
      refine (next_dr 2 HD.out (by omega)).mono ?_
      rintro e w5 ⟨b, rfl, b1, b2, hd, hg⟩
      have D5 := Lib.hid hd
      have O5 := Lib.hid (HO.out.dr hg hpw)
      have hsz5 := hd.size
      clear hd hg HD HO
      by_cases hb : (ys.length : Int) < 20 + b
      · have hl12 : ys.length ≤ 20 := by omega
        have hxl : ys.length ≤ 1000000000 := by omega
        go_wp2_with (at_builtin; refine wpList_app eClaim rfl _ _ 28 (by rfl) 47 (.agg #[.string ⟨#[]⟩, .int .i64 0, .int .i64 0, .int .i64 0]) 40 Try.underlying28 info_Claim rfl (by decide) (by decide) w.heap.size _ ys (by rfl) (by exact O5.out) (by exact hxl) (by exact hsz5) ⟨⟨#[102, 111, 114, 107]⟩, 950, 1000, 0⟩ _ (by rfl) _ (by rfl) (by first | rfl | simp) ?_)
        intro v6 w6 hO6 hB6 _ _ _
        have O6 := Lib.hid hO6
        have D6 := Lib.hid (D5.out.below hB6)
        have K6 := Lib.hid (ok_appC HK2.out (show okClaim ⟨⟨#[102, 111, 114, 107]⟩, 950, 1000, 0⟩ by show (⟨#[102, 111, 114, 107]⟩ : ByteArray).size ≤ 9223372036854775807; decide))
        clear hO6 hB6 D5 O5
        go_wp2
        go_roundg (22 - (ys.length + 1))
        case measure => omega
        case rel => exact ⟨_, by rw [List.length_append, List.length_singleton], by rw [List.length_append, List.length_singleton]; omega, O6, D6, K6⟩
      · go_wp2
        go_ret
        exact ⟨_, _, rfl, O5.out, by omega, HK2.out, D5.out⟩
  have h1b : (c == 1) = false := beq_eq_false_iff_ne.2 h1
  go_wp2
  go_ret
  exact ⟨_, _, rfl, O2.out, by omega, HK.out, D2.out⟩
set_option maxHeartbeats 4000000 in
set_option maxRecDepth 20000 in
theorem DrawVerdictsOf_any (A : Option Addr) (n cap : Nat) (w : World) (hn : n ≤ 4096) (hc : n ≤ cap) (hb : Bytes w A n w.heap.size) :
    Calls Try.prog 79 #[.slice A n cap] w fun e w' => ∃ v T u C, e = .returned (.tuple #[v, u]) ∧ Own eTerm w' w.heap.size 72 v T ∧ T.length ≤ 1000 ∧ (∀ x ∈ T, okTerm x) ∧ Own eClaim w' w.heap.size 47 u C ∧ C.length ≤ 1000 ∧ (∀ x ∈ C, okClaim x) ∧ Below w.heap.size w w' := by
  go_enter Try.func79, Try.ntmps79
  go_wp2_with fail
  refine (l01From_any A n cap w hn hc hb).mono ?_
  rintro e w1 ⟨p, rfl, hp, hs1, hb1⟩
  have D1 := Lib.hid (Dr.refl hs1)
  have B1 := Lib.hid hb1
  have hz1 := hb1.size
  have hp1 : p < w1.heap.size := hs1.lt
  clear hs1 hb1 hb
  go_wp2_with fail
  refine (l28Terms_any p w1 D1.out.1).mono ?_
  rintro e w2 ⟨v, T, rfl, ho, hl, hkT, hd⟩
  have D2 := Lib.hid (D1.out.trans hd)
  have O2 := Lib.hid ho
  have S2 : Hid (Src w2 p) := Lib.hid hd.1
  have hz2 := hd.size
  have HKT := Lib.hid hkT
  clear ho hd D1 hkT
  go_wp2_with fail
  refine (l28Draw_any p w2 S2.out).mono ?_
  rintro e w3 ⟨u, C, rfl, ho, hl2, hk, hd⟩
  have D3 := Lib.hid (D2.out.trans hd)
  have O3 := Lib.hid (ho.mono hz2)
  have O2b := Lib.hid (O2.out.dr hd.2.1 hp1)
  have HK := Lib.hid hk
  clear ho hd D2 S2 O2 hk
  go_wp2
  go_ret2
  exact ⟨v, T, u, C, rfl, O2b.out.mono hz1, by omega, HKT.out, O3.out.mono hz1, by omega, HK.out, D3.out.to_below B1.out hp⟩
theorem DrawVerdictText_any (A : Option Addr) (n cap : Nat) (w : World) (hn : n ≤ 4096) (hc : n ≤ cap) (hb : Bytes w A n w.heap.size) :
    Calls Try.prog 52 #[.slice A n cap] w fun e w' => ∃ x : Int, e = .returned (.int .i64 x) ∧ -1 ≤ x ∧ x ≤ 6 ∧ Below w.heap.size w w' := by
  go_enter Try.func52, Try.ntmps52
  go_wp2_with fail
  refine (l01From_any A n cap w hn hc hb).mono ?_
  rintro e w1 ⟨p, rfl, hp, hs1, hb1⟩
  have D1 := Lib.hid (Dr.refl hs1)
  have B1 := Lib.hid hb1
  clear hs1 hb1 hb
  go_wp2_with fail
  refine (next_dr 8 D1.out (by omega)).mono ?_
  rintro e w2 ⟨x, rfl, x0, x1, hd, hg⟩
  have HB := Lib.hid (hd.to_below B1.out hp)
  have hw : IntKind.i64.wrap (x - 1) = x - 1 := IntWalk.i64_in _ (by omega)
  clear hd hg
  go_wp2
  go_ret
  exact ⟨x - 1, rfl, by omega, by omega, HB.out⟩
theorem litP2_at (k : Nat) (h : k < 6) : ∃ s : ByteArray, s.size ≤ 20 ∧ (#[.string ⟨#[98, 111, 108, 116]⟩, .string ⟨#[99, 114, 97, 110, 107]⟩, .string ⟨#[102, 111, 114, 107]⟩, .string ⟨#[102, 114, 97, 109, 101]⟩, .string ⟨#[98, 101, 108, 108]⟩, .string ⟨#[]⟩] : Array Value)[k]? = some (.string s) := by
  match k, h with
  | 0, _ => exact ⟨⟨#[98, 111, 108, 116]⟩, by decide, rfl⟩
  | 1, _ => exact ⟨⟨#[99, 114, 97, 110, 107]⟩, by decide, rfl⟩
  | 2, _ => exact ⟨⟨#[102, 111, 114, 107]⟩, by decide, rfl⟩
  | 3, _ => exact ⟨⟨#[102, 114, 97, 109, 101]⟩, by decide, rfl⟩
  | 4, _ => exact ⟨⟨#[98, 101, 108, 108]⟩, by decide, rfl⟩
  | 5, _ => exact ⟨⟨#[]⟩, by decide, rfl⟩
set_option maxHeartbeats 16000000 in
set_option maxRecDepth 20000 in
theorem DrawClaimsLeft_any (A : Option Addr) (n cap : Nat) (w : World) (hn : n ≤ 4096) (hc : n ≤ cap) (hb : Bytes w A n w.heap.size) :
    Calls Try.prog 51 #[.slice A n cap] w fun e w' => ∃ v T u C, ∃ s : ByteArray, e = .returned (.tuple #[v, u, .string s]) ∧ Own eTerm w' w.heap.size 72 v T ∧ T.length ≤ 1000 ∧ (∀ x ∈ T, okTerm x) ∧ Own eClaim w' w.heap.size 47 u C ∧ C.length ≤ 1000 ∧ (∀ x ∈ C, okClaim x) ∧ s.size ≤ 20 ∧ Below w.heap.size w w' := by
  have HBY := Lib.hid hb
  clear hb
  go_enter Try.func51, Try.ntmps51
  go_wp2_with fail
  refine (l01From_any A n cap w hn hc HBY.out).mono ?_
  rintro e w1 ⟨p, rfl, hp, hs1, hb1⟩
  have S1 : Hid (Src w1 p) := Lib.hid hs1
  have B1 := Lib.hid hb1
  have hz1 := hb1.size
  have hp1 : p < w1.heap.size := hs1.lt
  clear hs1 hb1
  go_wp2_with fail
  refine (DrawVerdictsOf_any A n cap w1 hn hc (Bytes.below HBY.out B1.out)).mono ?_
  rintro e w2 ⟨v, T, u1, C, rfl, ho, hl, hk, ho2, hl2, hk2, hb2⟩
  have H := Lib.hid (And.intro ho (And.intro hk (And.intro ho2 (And.intro hk2 hb2))))
  have DA : Hid (Dr w2 p w2) := Lib.hid (Dr.refl (S1.out.under hp1 hb2))
  clear ho hk ho2 hk2 hb2 S1
  go_wp2
  obtain ⟨mk, hmk⟩ : ∃ mk : Value → Value → Value → Value → Value → Value → Value → Value → Value → Value → Act, mk = (fun x2 x3 x4 x15 x16 x17 x18 x19 x20 x21 => (⟨#[Value.slice A n cap, undef, x2, x3, x4, Value.pointer (some ⟨p, 0, none⟩), v, u1, Value.slice A n cap, Value.pointer (some ⟨p, 0, none⟩), Value.tuple #[v, u1], Value.slice A n cap, Value.tuple #[v, u1], v, u1, x15, x16, x17, x18, x19, x20, x21], []⟩ : Act)) := ⟨_, rfl⟩
  refine wp_region_inv (by kernel_rfl) ([[], [], [], [], [3], [2, 4], [5], [0, 4, 0], [1, 7, 0, 1, 7], [6, 8, 0, 1, 2, 3, 4, 5, 6, 7, 8]] : List (List Nat)) (by kernel_rfl) (by kernel_rfl) (fun f az u => ∃ x2 x3 x4 x15 x16 x17 x18 x19 x20 x21 : Value, az = mk x2 x3 x4 x15 x16 x17 x18 x19 x20 x21 ∧ (Dr w2 p u ∧ Stay p w2 u) ∧ (f 0 = true → x15 = v) ∧ (f 1 = true → x16 = u1) ∧ (f 2 = true → PS p u x17 6) ∧ (f 3 = true → x18 = .pointer (some ⟨p, 0, none⟩)) ∧ (f 4 = true → ∃ h : Int, x19 = .int .i64 h ∧ (0 : Int) ≤ h ∧ h ≤ 5) ∧ (f 5 = true → PI p u x20) ∧ (f 6 = true → ∃ s : ByteArray, s.size ≤ 20 ∧ x21 = .string s) ∧ (f 7 = true → x2 = v) ∧ (f 8 = true → x3 = u1) ∧ (f 9 = true → ∃ s : ByteArray, s.size ≤ 20 ∧ x4 = .string s)) ?_ ?_ ?_
  · subst hmk
    exact ⟨_, _, _, _, _, _, _, _, _, _, rfl, ⟨DA.out.drew, (Stay.refl _ _).drew⟩, fun h => (by cases h), fun h => (by cases h), fun h => (by cases h), fun h => (by cases h), fun h => (by cases h), fun h => (by cases h), fun h => (by cases h), fun h => (by cases h), fun h => (by cases h), fun h => (by cases h)⟩
  · show ∀ i, i < 10 → _
    refine below_succ ?_ ?_
    · intro f az u hf hd hcl hI
      obtain ⟨x2, x3, x4, x15, x16, x17, x18, x19, x20, x21, rfl, gD, gG⟩ := hI
      subst hmk
      obtain ⟨gD, gS⟩ := gD
      have e6 := gG.2.2.2.2.2.2.1 (hd 6 (by decide))
      obtain ⟨v21, v210, rfl⟩ := e6
      refine wpOp_step rfl (fun K hK => ?_)
      go_simp
      refine hK _ _ ?_
      refine ⟨_, _, _, _, _, _, _, _, _, _, rfl, ⟨gD, gS⟩, fun h => gG.1 h, fun h => gG.2.1 h, fun h => (gG.2.2.1 h), fun h => gG.2.2.2.1 h, fun h => gG.2.2.2.2.1 h, fun h => (gG.2.2.2.2.2.1 h), fun h => gG.2.2.2.2.2.2.1 h, fun h => gG.2.2.2.2.2.2.2.1 h, fun h => gG.2.2.2.2.2.2.2.2.1 h, fun _ => ⟨v21, v210, rfl⟩⟩
    refine below_succ ?_ ?_
    · intro f az u hf hd hcl hI
      obtain ⟨x2, x3, x4, x15, x16, x17, x18, x19, x20, x21, rfl, gD, gG⟩ := hI
      subst hmk
      obtain ⟨gD, gS⟩ := gD
      have ef := gG.2.1 (hd 1 (by decide))
      subst ef
      refine wpOp_step rfl (fun K hK => ?_)
      go_simp
      refine hK _ _ ?_
      refine ⟨_, _, _, _, _, _, _, _, _, _, rfl, ⟨gD, gS⟩, fun h => gG.1 h, fun h => gG.2.1 h, fun h => (gG.2.2.1 h), fun h => gG.2.2.2.1 h, fun h => gG.2.2.2.2.1 h, fun h => (gG.2.2.2.2.2.1 h), fun h => gG.2.2.2.2.2.2.1 h, fun h => gG.2.2.2.2.2.2.2.1 h, fun _ => rfl, fun h => gG.2.2.2.2.2.2.2.2.2 h⟩
    refine below_succ ?_ ?_
    · intro f az u hf hd hcl hI
      obtain ⟨x2, x3, x4, x15, x16, x17, x18, x19, x20, x21, rfl, gD, gG⟩ := hI
      subst hmk
      obtain ⟨gD, gS⟩ := gD
      have ef := gG.1 (hd 0 (by decide))
      subst ef
      refine wpOp_step rfl (fun K hK => ?_)
      go_simp
      refine hK _ _ ?_
      refine ⟨_, _, _, _, _, _, _, _, _, _, rfl, ⟨gD, gS⟩, fun h => gG.1 h, fun h => gG.2.1 h, fun h => (gG.2.2.1 h), fun h => gG.2.2.2.1 h, fun h => gG.2.2.2.2.1 h, fun h => (gG.2.2.2.2.2.1 h), fun h => gG.2.2.2.2.2.2.1 h, fun _ => rfl, fun h => gG.2.2.2.2.2.2.2.2.1 h, fun h => gG.2.2.2.2.2.2.2.2.2 h⟩
    refine below_succ ?_ ?_
    · intro f az u hf hd hcl hI
      obtain ⟨x2, x3, x4, x15, x16, x17, x18, x19, x20, x21, rfl, gD, gG⟩ := hI
      subst hmk
      obtain ⟨gD, gS⟩ := gD
      have e5 := gG.2.2.2.2.2.1 (hd 5 (by decide))
      obtain ⟨v20, v20k, v20s, rfl, v20p, v20z, v200, v20c⟩ := e5
      refine wpOp_step rfl (fun K hK => ?_)
      go_simp
      refine hK _ _ ?_
      refine ⟨_, _, _, _, _, _, _, _, _, _, rfl, ⟨gD, gS⟩, fun h => gG.1 h, fun h => gG.2.1 h, fun h => (gG.2.2.1 h), fun h => gG.2.2.2.1 h, fun h => gG.2.2.2.2.1 h, fun h => (gG.2.2.2.2.2.1 h), fun _ => ⟨v20s, v200, rfl⟩, fun h => gG.2.2.2.2.2.2.2.1 h, fun h => gG.2.2.2.2.2.2.2.2.1 h, fun h => gG.2.2.2.2.2.2.2.2.2 h⟩
    refine below_succ ?_ ?_
    · intro f az u hf hd hcl hI
      obtain ⟨x2, x3, x4, x15, x16, x17, x18, x19, x20, x21, rfl, gD, gG⟩ := hI
      subst hmk
      obtain ⟨gD, gS⟩ := gD
      have e2 := gG.2.2.1 (hd 2 (by decide))
      obtain ⟨v17, rfl, v17p, v17s, v17c⟩ := e2
      have e4 := gG.2.2.2.2.1 (hd 4 (by decide))
      obtain ⟨v19, rfl, v190, v191⟩ := e4
      obtain ⟨k, rfl⟩ := Int.eq_ofNat_of_zero_le v190
      have hk : k < 6 := by omega
      have hki : (k : Int) < 6 := by omega
      obtain ⟨s, hs, hc⟩ := v17c k hk
      refine wpOp_step rfl (fun K hK => ?_)
      go_simp
      refine hK _ _ ?_
      refine ⟨_, _, _, _, _, _, _, _, _, _, rfl, ⟨gD, gS⟩, fun h => gG.1 h, fun h => gG.2.1 h, fun h => (gG.2.2.1 h), fun h => gG.2.2.2.1 h, fun h => gG.2.2.2.2.1 h, fun _ => ⟨v17, k, s, by simp, v17p, v17s, hs, hc⟩, fun h => gG.2.2.2.2.2.2.1 h, fun h => gG.2.2.2.2.2.2.2.1 h, fun h => gG.2.2.2.2.2.2.2.2.1 h, fun h => gG.2.2.2.2.2.2.2.2.2 h⟩
    refine below_succ ?_ ?_
    · intro f az u hf hd hcl hI
      obtain ⟨x2, x3, x4, x15, x16, x17, x18, x19, x20, x21, rfl, gD, gG⟩ := hI
      subst hmk
      obtain ⟨gD, gS⟩ := gD
      have e3 := gG.2.2.2.1 (hd 3 (by decide))
      subst e3
      refine wpOp_step rfl (fun K hK => ?_)
      go_simp
      go_at_call 77
      refine (next_fl 6 (w0 := w2) gD (by omega)).mono ?_
      rintro e wn ⟨v, rfl, r0, r1, hd2, hon⟩
      have hst := Stay.only hon
      try go_simp
      refine hK _ _ ?_
      refine ⟨_, _, _, _, _, _, _, _, _, _, rfl, ⟨hd2, (gS.trans hst)⟩, fun h => gG.1 h, fun h => gG.2.1 h, fun h => (gG.2.2.1 h).stay hst, fun h => gG.2.2.2.1 h, fun _ => ⟨v, rfl, by omega, by omega⟩, fun h => (gG.2.2.2.2.2.1 h).stay hst, fun h => gG.2.2.2.2.2.2.1 h, fun h => gG.2.2.2.2.2.2.2.1 h, fun h => gG.2.2.2.2.2.2.2.2.1 h, fun h => gG.2.2.2.2.2.2.2.2.2 h⟩
    refine below_succ ?_ ?_
    · intro f az u hf hd hcl hI
      obtain ⟨x2, x3, x4, x15, x16, x17, x18, x19, x20, x21, rfl, gD, gG⟩ := hI
      subst hmk
      obtain ⟨gD, gS⟩ := gD
      refine wpOp_step rfl (fun K hK => ?_)
      go_simp
      refine hK _ _ ?_
      refine ⟨_, _, _, _, _, _, _, _, _, _, rfl, ⟨gD, gS⟩, fun h => gG.1 h, fun h => gG.2.1 h, fun h => (gG.2.2.1 h), fun _ => rfl, fun h => gG.2.2.2.2.1 h, fun h => (gG.2.2.2.2.2.1 h), fun h => gG.2.2.2.2.2.2.1 h, fun h => gG.2.2.2.2.2.2.2.1 h, fun h => gG.2.2.2.2.2.2.2.2.1 h, fun h => gG.2.2.2.2.2.2.2.2.2 h⟩
    refine below_succ ?_ ?_
    · intro f az u hf hd hcl hI
      obtain ⟨x2, x3, x4, x15, x16, x17, x18, x19, x20, x21, rfl, gD, gG⟩ := hI
      subst hmk
      obtain ⟨gD, gS⟩ := gD
      refine wpOp_step rfl (fun K hK => ?_)
      go_simp
      refine hK _ _ ?_
      refine ⟨_, _, _, _, _, _, _, _, _, _, rfl, ⟨gD.alloc _, (gS.trans (Stay.alloc p u _ _))⟩, fun h => gG.1 h, fun h => gG.2.1 h, fun _ => PS.new gD litP2_at, fun h => gG.2.2.2.1 h, fun h => gG.2.2.2.2.1 h, fun h => (gG.2.2.2.2.2.1 h).stay (Stay.alloc p u _ _), fun h => gG.2.2.2.2.2.2.1 h, fun h => gG.2.2.2.2.2.2.2.1 h, fun h => gG.2.2.2.2.2.2.2.2.1 h, fun h => gG.2.2.2.2.2.2.2.2.2 h⟩
    refine below_succ ?_ ?_
    · intro f az u hf hd hcl hI
      obtain ⟨x2, x3, x4, x15, x16, x17, x18, x19, x20, x21, rfl, gD, gG⟩ := hI
      subst hmk
      obtain ⟨gD, gS⟩ := gD
      refine wpOp_step rfl (fun K hK => ?_)
      go_simp
      refine hK _ _ ?_
      refine ⟨_, _, _, _, _, _, _, _, _, _, rfl, ⟨gD, gS⟩, fun h => gG.1 h, fun _ => rfl, fun h => (gG.2.2.1 h), fun h => gG.2.2.2.1 h, fun h => gG.2.2.2.2.1 h, fun h => (gG.2.2.2.2.2.1 h), fun h => gG.2.2.2.2.2.2.1 h, fun h => gG.2.2.2.2.2.2.2.1 h, fun h => gG.2.2.2.2.2.2.2.2.1 h, fun h => gG.2.2.2.2.2.2.2.2.2 h⟩
    refine below_succ ?_ ?_
    · intro f az u hf hd hcl hI
      obtain ⟨x2, x3, x4, x15, x16, x17, x18, x19, x20, x21, rfl, gD, gG⟩ := hI
      subst hmk
      obtain ⟨gD, gS⟩ := gD
      refine wpOp_step rfl (fun K hK => ?_)
      go_simp
      refine hK _ _ ?_
      refine ⟨_, _, _, _, _, _, _, _, _, _, rfl, ⟨gD, gS⟩, fun _ => rfl, fun h => gG.2.1 h, fun h => (gG.2.2.1 h), fun h => gG.2.2.2.1 h, fun h => gG.2.2.2.2.1 h, fun h => (gG.2.2.2.2.2.1 h), fun h => gG.2.2.2.2.2.2.1 h, fun h => gG.2.2.2.2.2.2.2.1 h, fun h => gG.2.2.2.2.2.2.2.2.1 h, fun h => gG.2.2.2.2.2.2.2.2.2 h⟩
    exact below_zero
  · intro f az u hf hI
    obtain ⟨x2, x3, x4, x15, x16, x17, x18, x19, x20, x21, rfl, gD, g0, g1, g2, g3, g4, g5, g6, g7, g8, g9⟩ := hI
    subst hmk
    obtain ⟨s, hs, rfl⟩ := g9 (hf 9 (by decide))
    have ev := g7 (hf 7 (by decide))
    have eu := g8 (hf 8 (by decide))
    subst ev
    subst eu
    have HD := Lib.hid gD.1
    clear hf gD g0 g1 g2 g3 g4 g5 g6 g7 g8 g9 DA
    go_wp2
    go_ret3
    obtain ⟨ho, hk, ho2, hk2, hb2⟩ := H.out
    refine ⟨x2, T, x3, C, s, rfl, (ho.dr HD.out.2.1 hp1).mono hz1, hl, hk, (ho2.dr HD.out.2.1 hp1).mono hz1, hl2, hk2, hs, (Below.step B1.out hb2).grown HD.out.2.1 ?_ (fun k hk => by cases hk; exact hp)⟩
    have := hb2.size
    omega
theorem DrawLastDay_any (A : Option Addr) (n cap : Nat) (w : World) (hn : n ≤ 4096) (hc : n ≤ cap) (hb : Bytes w A n w.heap.size) :
    Calls Try.prog 48 #[.slice A n cap] w fun e w' => ∃ v T, ∃ s : ByteArray, ∃ d : Int, e = .returned (.tuple #[v, .string s, .int .i64 d]) ∧ Own eTerm w' w.heap.size 72 v T ∧ T.length ≤ 1000 ∧ (∀ x ∈ T, okTerm x) ∧ s.size ≤ 20 ∧ (-1 ≤ d ∧ d ≤ 100001) ∧ Below w.heap.size w w' := by
  have HBY := Lib.hid hb
  clear hb
  go_enter Try.func48, Try.ntmps48
  go_wp2_with fail
  refine (l01From_any A n cap w hn hc HBY.out).mono ?_
  rintro e w1 ⟨p, rfl, hp, hs1, hb1⟩
  have S1 : Hid (Src w1 p) := Lib.hid hs1
  have B1 := Lib.hid hb1
  have hz1 := hb1.size
  have hp1 : p < w1.heap.size := hs1.lt
  clear hs1 hb1
  go_wp2_with fail
  refine (DrawClaimsLeft_any A n cap w1 hn hc (Bytes.below HBY.out B1.out)).mono ?_
  rintro e w2 ⟨v, T, u1, C, s, rfl, ho, hl, hk, ho2, hl2, hk2, hs, hb2⟩
  have O2 := Lib.hid ho
  have HK := Lib.hid hk
  have B2 := Lib.hid (Below.step B1.out hb2)
  have D2 : Hid (Dr w2 p w2) := Lib.hid (Dr.refl (S1.out.under hp1 hb2))
  have hsz2 := hb2.size
  clear ho hk ho2 hk2 hb2 S1 B1
  go_wp2_with fail
  refine (next_dr 1000 D2.out (by omega)).mono ?_
  rintro e w3 ⟨x, rfl, x0, x1, hd, hg⟩
  have D3 := Lib.hid hd
  clear hd hg
  go_wp2_with fail
  refine (pick_dr [x, 99990, 100000, 100001, -1] _ _ rfl rfl (by simp) (by simp) D3.out).mono ?_
  rintro e w4 ⟨d, rfl, hd4, hd, hg⟩
  have O4 := Lib.hid ((O2.out.dr hd.2.1 hp1).mono hz1)
  have B4 : Hid (Below w.heap.size w w4) := Lib.hid (B2.out.grown hd.2.1 (by omega) (fun k hk => by cases hk; exact hp))
  have hdb : -1 ≤ d ∧ d ≤ 100001 := by simp at hd4; omega
  clear hd hg hd4 D3 D2 O2 B2
  go_wp2
  go_ret3
  exact ⟨v, T, s, d, rfl, O4.out, hl, HK.out, hs, hdb, B4.out⟩
set_option maxHeartbeats 4000000 in
set_option maxRecDepth 20000 in
theorem DrawAddClaim_any (A : Option Addr) (n cap : Nat) (w : World) (hn : n ≤ 4096) (hc : n ≤ cap) (hb : Bytes w A n w.heap.size) :
    Calls Try.prog 49 #[.slice A n cap] w fun e w' => ∃ u C, ∃ c : Claim, e = .returned (.tuple #[u, .agg #[.string c.part, .int .i64 c.sold, .int .i64 c.day, .int .i64 c.tens]]) ∧ Own eClaim w' w.heap.size 47 u C ∧ C.length ≤ 1000 ∧ (∀ x ∈ C, okClaim x) ∧ okClaim c ∧ Below w.heap.size w w' := by
  have hb0 : Below w.heap.size w (w.alloc (.cells #[.string ⟨#[]⟩, .int .i64 0, .int .i64 0, .int .i64 0] 47)) := (Below.refl _ _).alloc (Nat.le_refl _) _
  have hbA := Lib.hid (Bytes.below hb hb0)
  have HB0 := Lib.hid hb0
  have hzw : (w.alloc (.cells #[.string ⟨#[]⟩, .int .i64 0, .int .i64 0, .int .i64 0] 47)).heap.size = w.heap.size + 1 := by simp
  have hbx : ∀ j, (w.alloc (.cells #[.string ⟨#[]⟩, .int .i64 0, .int .i64 0, .int .i64 0] 47)).cell? ⟨w.heap.size, j, none⟩ = #[Value.string ⟨#[]⟩, Value.int .i64 0, Value.int .i64 0, Value.int .i64 0][j]? := fun j => box_new _ _ _ j
  have hfr : ∀ j, (w.alloc (.cells #[.string ⟨#[]⟩, .int .i64 0, .int .i64 0, .int .i64 0] 47)).frozen? ⟨w.heap.size, j, none⟩ = false := fun j => frozen_box _ _ _ _ (frozen_out _ _ (Nat.le_refl _))
  have HBX := Lib.hid hbx
  have HFR := Lib.hid hfr
  clear hb0 hbx hfr hb
  go_enter Try.func49, Try.ntmps49
  go_wp2_with fail
  generalize w.alloc (.cells #[.string ⟨#[]⟩, .int .i64 0, .int .i64 0, .int .i64 0] 47) = wA at *
  refine (l01From_any A n cap wA hn hc hbA.out).mono ?_
  rintro e w1 ⟨p, rfl, hp, hs1, hb1⟩
  have D1 := Lib.hid (Dr.refl hs1)
  have B1 := Lib.hid hb1
  have hz1 := hb1.size
  have hp1 : p < w1.heap.size := hs1.lt
  clear hs1 hb1
  go_wp2_with fail
  refine (l28Draw_any p w1 D1.out.1).mono ?_
  rintro e w2 ⟨u, C, rfl, ho, hl, hk, hd⟩
  have D2 := Lib.hid (D1.out.trans hd)
  have O2 := Lib.hid ho
  have HK := Lib.hid hk
  have hz2 := hd.size
  clear ho hd hk D1
  go_wp2_with fail
  refine (next_dr 700 D2.out (by omega)).mono ?_
  rintro e w3 ⟨x, rfl, x0, x1, hd, hg⟩
  have D3 := Lib.hid hd
  have O3 := Lib.hid (O2.out.dr hg hp1)
  clear hd hg D2 O2
  go_wp2_with fail
  refine (pick_dr [1200, 900, x] _ _ rfl rfl (by simp) (by simp) D3.out).mono ?_
  rintro e w4 ⟨d, rfl, hd4, hd, hg⟩
  have D4 := Lib.hid hd
  have O4 := Lib.hid (O3.out.dr hg hp1)
  clear hd hg hd4 D3 O3
  have hr0 : w.heap.size < w1.heap.size := by omega
  have hrp : w.heap.size ≠ p := by omega
  have hne : some w.heap.size ≠ some p := fun e => hrp (Option.some.inj e)
  have hcx : ∀ j v, wA.cell? ⟨w.heap.size, j, none⟩ = some v → w4.cell? ⟨w.heap.size, j, none⟩ = some v := fun j v hv => (D4.out.2.1.cell_far ⟨w.heap.size, j, none⟩ hr0 hne).trans ((B1.out.cell (p := ⟨w.heap.size, j, none⟩) (by simp only []; omega)).trans hv)
  have hff : ∀ j, w4.frozen? ⟨w.heap.size, j, none⟩ = false := fun j => (D4.out.2.1.frozen_far _ hr0 hne).trans ((B1.out.frozen (by simp only []; omega)).trans (HFR.out j))
  have r0 := hcx 0 _ ((HBX.out 0).trans (show _ = some (Value.string ⟨#[]⟩) from rfl))
  have r1 := hcx 1 _ ((HBX.out 1).trans (show _ = some (Value.int .i64 0) from rfl))
  have r2 := hcx 2 _ ((HBX.out 2).trans (show _ = some (Value.int .i64 0) from rfl))
  have r3 := hcx 3 _ ((HBX.out 3).trans (show _ = some (Value.int .i64 0) from rfl))
  have rf0 := hff 0
  have rf1 := hff 1
  have rf2 := hff 2
  have rf3 := hff 3
  have HBW : Hid (Below w.heap.size w w4) := Lib.hid ((HB0.out.trans (B1.out.mono (by omega))).grown D4.out.2.1 (by omega) (fun k hk => by cases hk; omega))
  have HBF := Lib.hid ((((HBW.out.setCell (p := ⟨w.heap.size, 0, none⟩) (Nat.le_refl _) (.string ⟨#[102, 111, 114, 107]⟩)).setCell (p := ⟨w.heap.size, 1, none⟩) (Nat.le_refl _) (.int .i64 300)).setCell (p := ⟨w.heap.size, 2, none⟩) (Nat.le_refl _) (.int .i64 d)).setCell (p := ⟨w.heap.size, 3, none⟩) (Nat.le_refl _) (.int .i64 5))
  have far : ∀ (W : World) (j : Nat) (uu : Value), Own eClaim W w1.heap.size 47 u C → Own eClaim (W.setCell ⟨w.heap.size, j, none⟩ uu) w1.heap.size 47 u C := fun W j uu h => World.ownsRow.kept h (grown_set _ _ _ _) (own_apart2 h hr0)
  have HOF := Lib.hid ((far _ 3 (.int .i64 5) (far _ 2 (.int .i64 d) (far _ 1 (.int .i64 300) (far _ 0 (.string ⟨#[102, 111, 114, 107]⟩) O4.out)))).mono (base' := w.heap.size) (by omega))
  obtain ⟨u0, u1, u2, u3⟩ := cells4 (v0 := .string ⟨#[102, 111, 114, 107]⟩) (v1 := .int .i64 300) (v2 := .int .i64 d) (v3 := .int .i64 5) r0 r1 r2 r3
  clear hcx hff far O4 D4 HBX HFR hbA
  go_wp2
  refine bodyPost_ret (v := .tuple #[u, .agg #[.string (⟨⟨#[102, 111, 114, 107]⟩, 300, d, 5⟩ : Claim).part, .int .i64 (⟨⟨#[102, 111, 114, 107]⟩, 300, d, 5⟩ : Claim).sold, .int .i64 (⟨⟨#[102, 111, 114, 107]⟩, 300, d, 5⟩ : Claim).day, .int .i64 (⟨⟨#[102, 111, 114, 107]⟩, 300, d, 5⟩ : Claim).tens]]) (by simp [results, Try.results49, go_sem, u0, u1, u2, u3]) rfl ⟨u, C, ⟨⟨#[102, 111, 114, 107]⟩, 300, d, 5⟩, rfl, HOF.out, by omega, HK.out, (by show (⟨#[102, 111, 114, 107]⟩ : ByteArray).size ≤ 9223372036854775807; decide), HBF.out⟩
end Go.Proofs.Ytnpfgngfolgdfaa
