/- What the reference's draws of claims and of terms hand out (chapter 28). No statement of the seat is proved here. -/
import Derived.Test.YtnpfgngfolgdfaaDrawWord
import Derived.Test.YtnpfgngfolgdfaaReg
import Derived.Test.YtnpfgngfolgdfaaSClaim
import Derived.Test.YtnpfgngfolgdfaaSTerm
namespace Go.Proofs.Ytnpfgngfolgdfaa
open Go.RowKit

theorem ok_appC {xs : List Claim} {y : Claim} (h : ∀ x ∈ xs, okClaim x) (hy : okClaim y) : ∀ x ∈ xs ++ [y], okClaim x := by
  intro x hx
  rcases List.mem_append.1 hx with hx | hx
  · exact h x hx
  · rw [List.mem_singleton.1 hx]; exact hy
theorem ok_appT {xs : List Term} {y : Term} (h : ∀ x ∈ xs, okTerm x) (hy : okTerm y) : ∀ x ∈ xs ++ [y], okTerm x := by
  intro x hx
  rcases List.mem_append.1 hx with hx | hx
  · exact h x hx
  · rw [List.mem_singleton.1 hx]; exact hy
theorem litG1_at (k : Nat) (h : k < 5) : ∃ s : ByteArray, s.size ≤ 20 ∧ (#[.string ⟨#[98, 111, 108, 116]⟩, .string ⟨#[99, 114, 97, 110, 107]⟩, .string ⟨#[102, 111, 114, 107]⟩, .string ⟨#[102, 114, 97, 109, 101]⟩, .string ⟨#[98, 101, 108, 108]⟩] : Array Value)[k]? = some (.string s) := by
  match k, h with
  | 0, _ => exact ⟨⟨#[98, 111, 108, 116]⟩, by decide, rfl⟩
  | 1, _ => exact ⟨⟨#[99, 114, 97, 110, 107]⟩, by decide, rfl⟩
  | 2, _ => exact ⟨⟨#[102, 111, 114, 107]⟩, by decide, rfl⟩
  | 3, _ => exact ⟨⟨#[102, 114, 97, 109, 101]⟩, by decide, rfl⟩
  | 4, _ => exact ⟨⟨#[98, 101, 108, 108]⟩, by decide, rfl⟩
set_option maxHeartbeats 16000000 in
set_option maxRecDepth 20000 in
theorem l28Good_any (p : Nat) (w : World) (hs : Src w p) :
    Calls Try.prog 80 #[.pointer (some ⟨p, 0, none⟩)] w fun e w' => ∃ v xs, e = .returned v ∧ Own eClaim w' w.heap.size 47 v xs ∧ xs.length ≤ 20 ∧ (∀ x ∈ xs, okClaim x) ∧ Dr w p w' := by
  have hpw := hs.lt
  have D0 : Hid (Dr w p (w.alloc (.cells #[] 47))) := Lib.hid ((Dr.refl hs).alloc _)
  have O0 : Hid (Own eClaim (w.alloc (.cells #[] 47)) w.heap.size 47 (.slice (some ⟨w.heap.size, 0, none⟩) 0 0) []) := Lib.hid (Own.empty eClaim w _ _ (Nat.le_refl _))
  have K0 : Hid (∀ x ∈ ([] : List Claim), okClaim x) := Lib.hid (by simp)
  clear hs
  go_enter Try.func80, Try.ntmps80
  go_wp2_with fail
  refine (next_dr 300 D0.out (by omega)).mono ?_
  rintro e w1 ⟨d0, rfl, d1, d2, hd, hg⟩
  have D1 := Lib.hid hd
  have O1 := Lib.hid (O0.out.dr hg hpw)
  have hw0 : IntKind.i64.wrap (100 + d0) = 100 + d0 := IntWalk.i64_in _ (by omega)
  clear hd hg D0 O0
  go_wp2_with fail
  refine (next_dr 9 D1.out (by omega)).mono ?_
  rintro e w2 ⟨n0, rfl, n1, n2, hd, hg⟩
  have D2 := Lib.hid hd
  have O2 := Lib.hid (O1.out.dr hg hpw)
  obtain ⟨M, rfl⟩ := Int.eq_ofNat_of_zero_le n1
  have hM : M ≤ 8 := by omega
  clear hd hg D1 O1 n1 n2 hw0
  go_wp2
  go_loopg [3, 4, 5] M (fun gk v f n wr => ∃ (xs : List Claim) (dy : Int), f = .int .i64 dy ∧ n = .int .i64 (gk : Nat) ∧ xs.length + gk ≤ M ∧ 100 ≤ dy ∧ dy + 100 * (gk : Nat) ≤ 2000 ∧ Hid (Own eClaim wr w.heap.size 47 v xs) ∧ Hid (Dr w p wr) ∧ Hid (∀ x ∈ xs, okClaim x))
  case atStart => exact ⟨[], _, rfl, rfl, by simp, by omega, by omega, O2, D2, K0⟩
  case round =>
    rename Nat => k
    obtain ⟨xs, dy, rfl, rfl, l1, dy0, dy1, HO, HD, HK⟩ := hrel
    clear O2 D2 K0
    by_cases hk : 0 < k
    rotate_left
    · obtain rfl : k = 0 := by omega
      clear hk
      go_wp2
      go_ret
      exact ⟨_, _, rfl, HO.out, by omega, HK.out, HD.out⟩
    obtain ⟨k, rfl⟩ : ∃ j, k = j + 1 := ⟨k - 1, by omega⟩
    have hkI : (0 : Int) < ((k + 1 : Nat) : Int) := by omega
    have hkw : IntKind.i64.wrap (((k + 1 : Nat) : Int) - 1) = (k : Int) := by rw [show ((k + 1 : Nat) : Int) - 1 = (k : Int) by omega]; exact IntWalk.i64_in _ (by omega)
    have hxl : xs.length ≤ 1000000 := by omega
    have DA : Hid (Dr wr p wr) := Lib.hid (Dr.refl HD.out.1)
    have hsz : w.heap.size ≤ wr.heap.size := HD.out.size
    go_wp2
    obtain ⟨mk, hmk⟩ : ∃ mk : Value → Value → Value → Value → Value → Value → Value → Value → Value → Value → Value → Value → Value → Value → Value → Value → Value → Act, mk = (fun x3 x16 x17 x18 x19 x20 x21 x22 x23 x24 x25 x26 x27 x28 x29 x30 x31 => (⟨#[Value.pointer (some ⟨p, 0, none⟩), undef, Value.slice none 0 0, x3, Value.int .i64 dy, Value.int .i64 ((k + 1 : Nat) : Int), Value.slice (some ⟨w.heap.size, 0, none⟩) 0 0, Value.pointer (some ⟨p, 0, none⟩), Value.int .i64 d0, Value.int .i64 (100 + d0), Value.pointer (some ⟨p, 0, none⟩), Value.int .i64 ((M : Nat) : Int), Value.int .i64 ((k + 1 : Nat) : Int), Value.bool true, u14, u15, x16, x17, x18, x19, x20, x21, x22, x23, x24, x25, x26, x27, x28, x29, x30, x31, u32, u33, u34, u35, undef], []⟩ : Act)) := ⟨_, rfl⟩
    refine wp_region_inv (by kernel_rfl) ([[], [], [], [2], [1, 3], [4], [], [], [7], [6, 8, 3], [], [], [11, 9], [5, 9, 10, 12], [13], [0, 14, 12], [15, 15, 0, 1, 2, 3, 4, 5, 6, 7, 8, 9, 10, 11, 12, 13, 14, 15]] : List (List Nat)) (by kernel_rfl) (by kernel_rfl) (fun f az u => ∃ x3 x16 x17 x18 x19 x20 x21 x22 x23 x24 x25 x26 x27 x28 x29 x30 x31 : Value, az = mk x3 x16 x17 x18 x19 x20 x21 x22 x23 x24 x25 x26 x27 x28 x29 x30 x31 ∧ (f 15 = false → Dr wr p u ∧ Stay p wr u) ∧ (f 0 = true → x16 = u3) ∧ (f 1 = true → f 15 = false → PS p u x17 5) ∧ (f 2 = true → x18 = .pointer (some ⟨p, 0, none⟩)) ∧ (f 3 = true → ∃ h : Int, x19 = .int .i64 h ∧ (0 : Int) ≤ h ∧ h ≤ 4) ∧ (f 4 = true → f 15 = false → PI p u x20) ∧ (f 5 = true → ∃ s : ByteArray, s.size ≤ 20 ∧ x21 = .string s) ∧ (f 6 = true → x22 = .pointer (some ⟨p, 0, none⟩)) ∧ (f 7 = true → ∃ h : Int, x23 = .int .i64 h ∧ (100 : Int) ≤ h ∧ h ≤ 2000) ∧ (f 8 = true → ∃ h : Int, x24 = .int .i64 h ∧ (101 : Int) ≤ h ∧ h ≤ 2001) ∧ (f 9 = true → ∃ h : Int, x25 = .int .i64 h ∧ (0 : Int) ≤ h ∧ h ≤ 2000) ∧ (f 10 = true → ∃ h : Int, x26 = .int .i64 h ∧ (100 : Int) ≤ h ∧ h ≤ 2000) ∧ (f 11 = true → x27 = .pointer (some ⟨p, 0, none⟩)) ∧ (f 12 = true → ∃ h : Int, x28 = .int .i64 h ∧ (0 : Int) ≤ h ∧ h ≤ 7999) ∧ (f 13 = true → ∃ c : Claim, okClaim c ∧ x29 = .agg #[.string c.part, .int .i64 c.sold, .int .i64 c.day, .int .i64 c.tens]) ∧ (f 14 = true → f 15 = false → PO eClaim okClaim p u x30) ∧ (f 15 = true → PA eClaim okClaim w p w.heap.size 47 xs u x31) ∧ (f 16 = true → PA eClaim okClaim w p w.heap.size 47 xs u x3) ∧ (f 16 = false → x3 = u3)) ?_ ?_ ?_
    · subst hmk
      exact ⟨_, _, _, _, _, _, _, _, _, _, _, _, _, _, _, _, _, rfl, fun _ => ⟨DA.out.drew, (Stay.refl _ _).drew⟩, fun h => (by cases h), fun h => (by cases h), fun h => (by cases h), fun h => (by cases h), fun h => (by cases h), fun h => (by cases h), fun h => (by cases h), fun h => (by cases h), fun h => (by cases h), fun h => (by cases h), fun h => (by cases h), fun h => (by cases h), fun h => (by cases h), fun h => (by cases h), fun h => (by cases h), fun h => (by cases h), fun h => (by cases h), fun _ => rfl⟩
    · show ∀ i, i < 17 → _
      refine below_succ ?_ ?_
      · intro f az u hf hd hcl hI
        obtain ⟨x3, x16, x17, x18, x19, x20, x21, x22, x23, x24, x25, x26, x27, x28, x29, x30, x31, rfl, gD, gG⟩ := hI
        subst hmk
        have hl : f 15 = true := hd 15 (by decide)
        refine wpOp_step rfl (fun K hK => ?_)
        go_simp
        refine hK _ _ ?_
        refine ⟨_, _, _, _, _, _, _, _, _, _, _, _, _, _, _, _, _, rfl, fun h => absurd h (by simp [hl]), fun h => gG.1 h, fun h e => absurd e (by simp [hl]), fun h => gG.2.2.1 h, fun h => gG.2.2.2.1 h, fun h e => absurd e (by simp [hl]), fun h => gG.2.2.2.2.2.1 h, fun h => gG.2.2.2.2.2.2.1 h, fun h => gG.2.2.2.2.2.2.2.1 h, fun h => gG.2.2.2.2.2.2.2.2.1 h, fun h => gG.2.2.2.2.2.2.2.2.2.1 h, fun h => gG.2.2.2.2.2.2.2.2.2.2.1 h, fun h => gG.2.2.2.2.2.2.2.2.2.2.2.1 h, fun h => gG.2.2.2.2.2.2.2.2.2.2.2.2.1 h, fun h => gG.2.2.2.2.2.2.2.2.2.2.2.2.2.1 h, fun h e => absurd e (by simp [hl]), fun h => gG.2.2.2.2.2.2.2.2.2.2.2.2.2.2.2.1 h, fun _ => gG.2.2.2.2.2.2.2.2.2.2.2.2.2.2.2.1 (hd 15 (by decide)), fun h => absurd h (by simp)⟩
      refine below_succ ?_ ?_
      · intro f az u hf hd hcl hI
        obtain ⟨x3, x16, x17, x18, x19, x20, x21, x22, x23, x24, x25, x26, x27, x28, x29, x30, x31, rfl, gD, gG⟩ := hI
        subst hmk
        obtain ⟨gD, gS⟩ := gD hf
        have e0 := gG.1 (hd 0 (by decide))
        subst e0
        have e14 := gG.2.2.2.2.2.2.2.2.2.2.2.2.2.2.1 (hd 14 (by decide)) hf
        obtain ⟨v30, v30v, rfl, v30p, v30o, v30s⟩ := e14
        refine wpOp_step rfl (fun K hK => ?_)
        refine wp_app_all eClaim _ _ 28 (by rfl) 47 (.agg #[.string ⟨#[]⟩, .int .i64 0, .int .i64 0, .int .i64 0]) 40 Try.underlying28 info_Claim rfl (by decide) (by decide) w.heap.size _ xs (by rfl) (by exact (HO.out).dr gD.2.1 hpw) _ [v30v] (by rfl) (by exact v30s) (by simp only [List.length_cons, List.length_nil]; omega) (by have := gD.size; omega) ?_
        intro v6 w6 hO6 hB6 hG6 hor6
        refine hK _ _ ?_
        refine ⟨_, _, _, _, _, _, _, _, _, _, _, _, _, _, _, _, _, rfl, fun h => absurd h (by simp), fun h => gG.1 h, fun h e => absurd e (by simp), fun h => gG.2.2.1 h, fun h => gG.2.2.2.1 h, fun h e => absurd e (by simp), fun h => gG.2.2.2.2.2.1 h, fun h => gG.2.2.2.2.2.2.1 h, fun h => gG.2.2.2.2.2.2.2.1 h, fun h => gG.2.2.2.2.2.2.2.2.1 h, fun h => gG.2.2.2.2.2.2.2.2.2.1 h, fun h => gG.2.2.2.2.2.2.2.2.2.2.1 h, fun h => gG.2.2.2.2.2.2.2.2.2.2.2.1 h, fun h => gG.2.2.2.2.2.2.2.2.2.2.2.2.1 h, fun h => gG.2.2.2.2.2.2.2.2.2.2.2.2.2.1 h, fun h e => absurd e (by simp), fun _ => ⟨v30v, v30o, hO6, (HD.out.trans gD).below hB6⟩, fun h => absurd (hcl 16 (by decide) (show f 16 = true from h) 15 (by decide)) (by rw [hf]; decide), fun h => gG.2.2.2.2.2.2.2.2.2.2.2.2.2.2.2.2.2 h⟩
      refine below_succ ?_ ?_
      · intro f az u hf hd hcl hI
        obtain ⟨x3, x16, x17, x18, x19, x20, x21, x22, x23, x24, x25, x26, x27, x28, x29, x30, x31, rfl, gD, gG⟩ := hI
        subst hmk
        have hl : f 15 = false := by
          cases h15 : f 15 with
          | false => rfl
          | true => exact absurd (hcl 15 (by decide) h15 14 (by decide)) (by rw [hf]; decide)
        obtain ⟨gD, gS⟩ := gD hl
        have e13 := gG.2.2.2.2.2.2.2.2.2.2.2.2.2.1 (hd 13 (by decide))
        obtain ⟨v29, v290, rfl⟩ := e13
        refine wpOp_step rfl (fun K hK => ?_)
        go_simp
        refine hK _ _ ?_
        refine ⟨_, _, _, _, _, _, _, _, _, _, _, _, _, _, _, _, _, rfl, fun _ => ⟨gD.alloc _, (gS.trans (Stay.alloc p u _ _))⟩, fun h => gG.1 h, fun h e => (gG.2.1 h hl).stay (Stay.alloc p u _ _), fun h => gG.2.2.1 h, fun h => gG.2.2.2.1 h, fun h e => (gG.2.2.2.2.1 h hl).stay (Stay.alloc p u _ _), fun h => gG.2.2.2.2.2.1 h, fun h => gG.2.2.2.2.2.2.1 h, fun h => gG.2.2.2.2.2.2.2.1 h, fun h => gG.2.2.2.2.2.2.2.2.1 h, fun h => gG.2.2.2.2.2.2.2.2.2.1 h, fun h => gG.2.2.2.2.2.2.2.2.2.2.1 h, fun h => gG.2.2.2.2.2.2.2.2.2.2.2.1 h, fun h => gG.2.2.2.2.2.2.2.2.2.2.2.2.1 h, fun h => gG.2.2.2.2.2.2.2.2.2.2.2.2.2.1 h, fun _ _ => PO.new _ _ v29 rfl gD v290, fun h => absurd (show f 15 = true from h) (by rw [hl]; decide), fun h => absurd (hcl 16 (by decide) (show f 16 = true from h) 15 (by decide)) (by rw [hl]; decide), fun h => gG.2.2.2.2.2.2.2.2.2.2.2.2.2.2.2.2.2 h⟩
      refine below_succ ?_ ?_
      · intro f az u hf hd hcl hI
        obtain ⟨x3, x16, x17, x18, x19, x20, x21, x22, x23, x24, x25, x26, x27, x28, x29, x30, x31, rfl, gD, gG⟩ := hI
        subst hmk
        have hl : f 15 = false := by
          cases h15 : f 15 with
          | false => rfl
          | true => exact absurd (hcl 14 (by decide) (hcl 15 (by decide) h15 14 (by decide)) 13 (by decide)) (by rw [hf]; decide)
        obtain ⟨gD, gS⟩ := gD hl
        have e5 := gG.2.2.2.2.2.1 (hd 5 (by decide))
        obtain ⟨v21, v210, rfl⟩ := e5
        have e9 := gG.2.2.2.2.2.2.2.2.2.1 (hd 9 (by decide))
        obtain ⟨v25, rfl, v250, v251⟩ := e9
        have e10 := gG.2.2.2.2.2.2.2.2.2.2.1 (hd 10 (by decide))
        obtain ⟨v26, rfl, v260, v261⟩ := e10
        have e12 := gG.2.2.2.2.2.2.2.2.2.2.2.2.1 (hd 12 (by decide))
        obtain ⟨v28, rfl, v280, v281⟩ := e12
        refine wpOp_step rfl (fun K hK => ?_)
        go_simp
        refine hK _ _ ?_
        refine ⟨_, _, _, _, _, _, _, _, _, _, _, _, _, _, _, _, _, rfl, fun _ => ⟨gD, gS⟩, fun h => gG.1 h, fun h e => (gG.2.1 h hl), fun h => gG.2.2.1 h, fun h => gG.2.2.2.1 h, fun h e => (gG.2.2.2.2.1 h hl), fun h => gG.2.2.2.2.2.1 h, fun h => gG.2.2.2.2.2.2.1 h, fun h => gG.2.2.2.2.2.2.2.1 h, fun h => gG.2.2.2.2.2.2.2.2.1 h, fun h => gG.2.2.2.2.2.2.2.2.2.1 h, fun h => gG.2.2.2.2.2.2.2.2.2.2.1 h, fun h => gG.2.2.2.2.2.2.2.2.2.2.2.1 h, fun h => gG.2.2.2.2.2.2.2.2.2.2.2.2.1 h, fun _ => ⟨⟨v21, v25, v26, v28⟩, (by show (ByteArray.size _) ≤ _; exact Nat.le_trans v210 (by decide)), rfl⟩, fun h e => (gG.2.2.2.2.2.2.2.2.2.2.2.2.2.2.1 h hl), fun h => absurd (show f 15 = true from h) (by rw [hl]; decide), fun h => absurd (hcl 16 (by decide) (show f 16 = true from h) 15 (by decide)) (by rw [hl]; decide), fun h => gG.2.2.2.2.2.2.2.2.2.2.2.2.2.2.2.2.2 h⟩
      refine below_succ ?_ ?_
      · intro f az u hf hd hcl hI
        obtain ⟨x3, x16, x17, x18, x19, x20, x21, x22, x23, x24, x25, x26, x27, x28, x29, x30, x31, rfl, gD, gG⟩ := hI
        subst hmk
        have hl : f 15 = false := by
          cases h15 : f 15 with
          | false => rfl
          | true => exact absurd (hcl 15 (by decide) h15 12 (by decide)) (by rw [hf]; decide)
        obtain ⟨gD, gS⟩ := gD hl
        have e11 := gG.2.2.2.2.2.2.2.2.2.2.2.1 (hd 11 (by decide))
        subst e11
        refine wpOp_step rfl (fun K hK => ?_)
        go_simp
        go_at_call 77
        refine (next_fl 8000 (w0 := wr) gD (by omega)).mono ?_
        rintro e wn ⟨v, rfl, r0, r1, hd2, hon⟩
        have hst := Stay.only hon
        try go_simp
        refine hK _ _ ?_
        refine ⟨_, _, _, _, _, _, _, _, _, _, _, _, _, _, _, _, _, rfl, fun _ => ⟨hd2, (gS.trans hst)⟩, fun h => gG.1 h, fun h e => (gG.2.1 h hl).stay hst, fun h => gG.2.2.1 h, fun h => gG.2.2.2.1 h, fun h e => (gG.2.2.2.2.1 h hl).stay hst, fun h => gG.2.2.2.2.2.1 h, fun h => gG.2.2.2.2.2.2.1 h, fun h => gG.2.2.2.2.2.2.2.1 h, fun h => gG.2.2.2.2.2.2.2.2.1 h, fun h => gG.2.2.2.2.2.2.2.2.2.1 h, fun h => gG.2.2.2.2.2.2.2.2.2.2.1 h, fun h => gG.2.2.2.2.2.2.2.2.2.2.2.1 h, fun _ => ⟨v, rfl, by omega, by omega⟩, fun h => gG.2.2.2.2.2.2.2.2.2.2.2.2.2.1 h, fun h e => (gG.2.2.2.2.2.2.2.2.2.2.2.2.2.2.1 h hl).stay hst, fun h => absurd (show f 15 = true from h) (by rw [hl]; decide), fun h => absurd (hcl 16 (by decide) (show f 16 = true from h) 15 (by decide)) (by rw [hl]; decide), fun h => gG.2.2.2.2.2.2.2.2.2.2.2.2.2.2.2.2.2 h⟩
      refine below_succ ?_ ?_
      · intro f az u hf hd hcl hI
        obtain ⟨x3, x16, x17, x18, x19, x20, x21, x22, x23, x24, x25, x26, x27, x28, x29, x30, x31, rfl, gD, gG⟩ := hI
        subst hmk
        have hl : f 15 = false := by
          cases h15 : f 15 with
          | false => rfl
          | true => exact absurd (hcl 12 (by decide) (hcl 15 (by decide) h15 12 (by decide)) 11 (by decide)) (by rw [hf]; decide)
        obtain ⟨gD, gS⟩ := gD hl
        refine wpOp_step rfl (fun K hK => ?_)
        go_simp
        refine hK _ _ ?_
        refine ⟨_, _, _, _, _, _, _, _, _, _, _, _, _, _, _, _, _, rfl, fun _ => ⟨gD, gS⟩, fun h => gG.1 h, fun h e => (gG.2.1 h hl), fun h => gG.2.2.1 h, fun h => gG.2.2.2.1 h, fun h e => (gG.2.2.2.2.1 h hl), fun h => gG.2.2.2.2.2.1 h, fun h => gG.2.2.2.2.2.2.1 h, fun h => gG.2.2.2.2.2.2.2.1 h, fun h => gG.2.2.2.2.2.2.2.2.1 h, fun h => gG.2.2.2.2.2.2.2.2.2.1 h, fun h => gG.2.2.2.2.2.2.2.2.2.2.1 h, fun _ => rfl, fun h => gG.2.2.2.2.2.2.2.2.2.2.2.2.1 h, fun h => gG.2.2.2.2.2.2.2.2.2.2.2.2.2.1 h, fun h e => (gG.2.2.2.2.2.2.2.2.2.2.2.2.2.2.1 h hl), fun h => absurd (show f 15 = true from h) (by rw [hl]; decide), fun h => absurd (hcl 16 (by decide) (show f 16 = true from h) 15 (by decide)) (by rw [hl]; decide), fun h => gG.2.2.2.2.2.2.2.2.2.2.2.2.2.2.2.2.2 h⟩
      refine below_succ ?_ ?_
      · intro f az u hf hd hcl hI
        obtain ⟨x3, x16, x17, x18, x19, x20, x21, x22, x23, x24, x25, x26, x27, x28, x29, x30, x31, rfl, gD, gG⟩ := hI
        subst hmk
        have hl : f 15 = false := by
          cases h15 : f 15 with
          | false => rfl
          | true => exact absurd (hcl 13 (by decide) (hcl 14 (by decide) (hcl 15 (by decide) h15 14 (by decide)) 13 (by decide)) 10 (by decide)) (by rw [hf]; decide)
        obtain ⟨gD, gS⟩ := gD hl
        refine wpOp_step rfl (fun K hK => ?_)
        go_simp
        refine hK _ _ ?_
        refine ⟨_, _, _, _, _, _, _, _, _, _, _, _, _, _, _, _, _, rfl, fun _ => ⟨gD, gS⟩, fun h => gG.1 h, fun h e => (gG.2.1 h hl), fun h => gG.2.2.1 h, fun h => gG.2.2.2.1 h, fun h e => (gG.2.2.2.2.1 h hl), fun h => gG.2.2.2.2.2.1 h, fun h => gG.2.2.2.2.2.2.1 h, fun h => gG.2.2.2.2.2.2.2.1 h, fun h => gG.2.2.2.2.2.2.2.2.1 h, fun h => gG.2.2.2.2.2.2.2.2.2.1 h, fun _ => ⟨_, rfl, by omega, by omega⟩, fun h => gG.2.2.2.2.2.2.2.2.2.2.2.1 h, fun h => gG.2.2.2.2.2.2.2.2.2.2.2.2.1 h, fun h => gG.2.2.2.2.2.2.2.2.2.2.2.2.2.1 h, fun h e => (gG.2.2.2.2.2.2.2.2.2.2.2.2.2.2.1 h hl), fun h => absurd (show f 15 = true from h) (by rw [hl]; decide), fun h => absurd (hcl 16 (by decide) (show f 16 = true from h) 15 (by decide)) (by rw [hl]; decide), fun h => gG.2.2.2.2.2.2.2.2.2.2.2.2.2.2.2.2.2 h⟩
      refine below_succ ?_ ?_
      · intro f az u hf hd hcl hI
        obtain ⟨x3, x16, x17, x18, x19, x20, x21, x22, x23, x24, x25, x26, x27, x28, x29, x30, x31, rfl, gD, gG⟩ := hI
        subst hmk
        have hl : f 15 = false := by
          cases h15 : f 15 with
          | false => rfl
          | true => exact absurd (hcl 12 (by decide) (hcl 15 (by decide) h15 12 (by decide)) 9 (by decide)) (by rw [hf]; decide)
        obtain ⟨gD, gS⟩ := gD hl
        have e6 := gG.2.2.2.2.2.2.1 (hd 6 (by decide))
        subst e6
        have e8 := gG.2.2.2.2.2.2.2.2.1 (hd 8 (by decide))
        obtain ⟨v24, rfl, v240, v241⟩ := e8
        refine wpOp_step rfl (fun K hK => ?_)
        go_simp
        go_at_call 77
        refine (next_fl v24 (w0 := wr) gD (by omega)).mono ?_
        rintro e wn ⟨v, rfl, r0, r1, hd2, hon⟩
        have hst := Stay.only hon
        try go_simp
        refine hK _ _ ?_
        refine ⟨_, _, _, _, _, _, _, _, _, _, _, _, _, _, _, _, _, rfl, fun _ => ⟨hd2, (gS.trans hst)⟩, fun h => gG.1 h, fun h e => (gG.2.1 h hl).stay hst, fun h => gG.2.2.1 h, fun h => gG.2.2.2.1 h, fun h e => (gG.2.2.2.2.1 h hl).stay hst, fun h => gG.2.2.2.2.2.1 h, fun h => gG.2.2.2.2.2.2.1 h, fun h => gG.2.2.2.2.2.2.2.1 h, fun h => gG.2.2.2.2.2.2.2.2.1 h, fun _ => ⟨v, rfl, by omega, by omega⟩, fun h => gG.2.2.2.2.2.2.2.2.2.2.1 h, fun h => gG.2.2.2.2.2.2.2.2.2.2.2.1 h, fun h => gG.2.2.2.2.2.2.2.2.2.2.2.2.1 h, fun h => gG.2.2.2.2.2.2.2.2.2.2.2.2.2.1 h, fun h e => (gG.2.2.2.2.2.2.2.2.2.2.2.2.2.2.1 h hl).stay hst, fun h => absurd (show f 15 = true from h) (by rw [hl]; decide), fun h => absurd (hcl 16 (by decide) (show f 16 = true from h) 15 (by decide)) (by rw [hl]; decide), fun h => gG.2.2.2.2.2.2.2.2.2.2.2.2.2.2.2.2.2 h⟩
      refine below_succ ?_ ?_
      · intro f az u hf hd hcl hI
        obtain ⟨x3, x16, x17, x18, x19, x20, x21, x22, x23, x24, x25, x26, x27, x28, x29, x30, x31, rfl, gD, gG⟩ := hI
        subst hmk
        have hl : f 15 = false := by
          cases h15 : f 15 with
          | false => rfl
          | true => exact absurd (hcl 9 (by decide) (hcl 12 (by decide) (hcl 15 (by decide) h15 12 (by decide)) 9 (by decide)) 8 (by decide)) (by rw [hf]; decide)
        obtain ⟨gD, gS⟩ := gD hl
        have e7 := gG.2.2.2.2.2.2.2.1 (hd 7 (by decide))
        obtain ⟨v23, rfl, v230, v231⟩ := e7
        have hw : IntKind.i64.wrap (v23 + 1) = v23 + 1 := IntWalk.i64_in _ (by omega)
        refine wpOp_step rfl (fun K hK => ?_)
        go_simp
        refine hK _ _ ?_
        refine ⟨_, _, _, _, _, _, _, _, _, _, _, _, _, _, _, _, _, rfl, fun _ => ⟨gD, gS⟩, fun h => gG.1 h, fun h e => (gG.2.1 h hl), fun h => gG.2.2.1 h, fun h => gG.2.2.2.1 h, fun h e => (gG.2.2.2.2.1 h hl), fun h => gG.2.2.2.2.2.1 h, fun h => gG.2.2.2.2.2.2.1 h, fun h => gG.2.2.2.2.2.2.2.1 h, fun _ => ⟨v23 + 1, by first | rfl | (rw [hw]), by omega, by omega⟩, fun h => gG.2.2.2.2.2.2.2.2.2.1 h, fun h => gG.2.2.2.2.2.2.2.2.2.2.1 h, fun h => gG.2.2.2.2.2.2.2.2.2.2.2.1 h, fun h => gG.2.2.2.2.2.2.2.2.2.2.2.2.1 h, fun h => gG.2.2.2.2.2.2.2.2.2.2.2.2.2.1 h, fun h e => (gG.2.2.2.2.2.2.2.2.2.2.2.2.2.2.1 h hl), fun h => absurd (show f 15 = true from h) (by rw [hl]; decide), fun h => absurd (hcl 16 (by decide) (show f 16 = true from h) 15 (by decide)) (by rw [hl]; decide), fun h => gG.2.2.2.2.2.2.2.2.2.2.2.2.2.2.2.2.2 h⟩
      refine below_succ ?_ ?_
      · intro f az u hf hd hcl hI
        obtain ⟨x3, x16, x17, x18, x19, x20, x21, x22, x23, x24, x25, x26, x27, x28, x29, x30, x31, rfl, gD, gG⟩ := hI
        subst hmk
        have hl : f 15 = false := by
          cases h15 : f 15 with
          | false => rfl
          | true => exact absurd (hcl 8 (by decide) (hcl 9 (by decide) (hcl 12 (by decide) (hcl 15 (by decide) h15 12 (by decide)) 9 (by decide)) 8 (by decide)) 7 (by decide)) (by rw [hf]; decide)
        obtain ⟨gD, gS⟩ := gD hl
        refine wpOp_step rfl (fun K hK => ?_)
        go_simp
        refine hK _ _ ?_
        refine ⟨_, _, _, _, _, _, _, _, _, _, _, _, _, _, _, _, _, rfl, fun _ => ⟨gD, gS⟩, fun h => gG.1 h, fun h e => (gG.2.1 h hl), fun h => gG.2.2.1 h, fun h => gG.2.2.2.1 h, fun h e => (gG.2.2.2.2.1 h hl), fun h => gG.2.2.2.2.2.1 h, fun h => gG.2.2.2.2.2.2.1 h, fun _ => ⟨_, rfl, by omega, by omega⟩, fun h => gG.2.2.2.2.2.2.2.2.1 h, fun h => gG.2.2.2.2.2.2.2.2.2.1 h, fun h => gG.2.2.2.2.2.2.2.2.2.2.1 h, fun h => gG.2.2.2.2.2.2.2.2.2.2.2.1 h, fun h => gG.2.2.2.2.2.2.2.2.2.2.2.2.1 h, fun h => gG.2.2.2.2.2.2.2.2.2.2.2.2.2.1 h, fun h e => (gG.2.2.2.2.2.2.2.2.2.2.2.2.2.2.1 h hl), fun h => absurd (show f 15 = true from h) (by rw [hl]; decide), fun h => absurd (hcl 16 (by decide) (show f 16 = true from h) 15 (by decide)) (by rw [hl]; decide), fun h => gG.2.2.2.2.2.2.2.2.2.2.2.2.2.2.2.2.2 h⟩
      refine below_succ ?_ ?_
      · intro f az u hf hd hcl hI
        obtain ⟨x3, x16, x17, x18, x19, x20, x21, x22, x23, x24, x25, x26, x27, x28, x29, x30, x31, rfl, gD, gG⟩ := hI
        subst hmk
        have hl : f 15 = false := by
          cases h15 : f 15 with
          | false => rfl
          | true => exact absurd (hcl 9 (by decide) (hcl 12 (by decide) (hcl 15 (by decide) h15 12 (by decide)) 9 (by decide)) 6 (by decide)) (by rw [hf]; decide)
        obtain ⟨gD, gS⟩ := gD hl
        refine wpOp_step rfl (fun K hK => ?_)
        go_simp
        refine hK _ _ ?_
        refine ⟨_, _, _, _, _, _, _, _, _, _, _, _, _, _, _, _, _, rfl, fun _ => ⟨gD, gS⟩, fun h => gG.1 h, fun h e => (gG.2.1 h hl), fun h => gG.2.2.1 h, fun h => gG.2.2.2.1 h, fun h e => (gG.2.2.2.2.1 h hl), fun h => gG.2.2.2.2.2.1 h, fun _ => rfl, fun h => gG.2.2.2.2.2.2.2.1 h, fun h => gG.2.2.2.2.2.2.2.2.1 h, fun h => gG.2.2.2.2.2.2.2.2.2.1 h, fun h => gG.2.2.2.2.2.2.2.2.2.2.1 h, fun h => gG.2.2.2.2.2.2.2.2.2.2.2.1 h, fun h => gG.2.2.2.2.2.2.2.2.2.2.2.2.1 h, fun h => gG.2.2.2.2.2.2.2.2.2.2.2.2.2.1 h, fun h e => (gG.2.2.2.2.2.2.2.2.2.2.2.2.2.2.1 h hl), fun h => absurd (show f 15 = true from h) (by rw [hl]; decide), fun h => absurd (hcl 16 (by decide) (show f 16 = true from h) 15 (by decide)) (by rw [hl]; decide), fun h => gG.2.2.2.2.2.2.2.2.2.2.2.2.2.2.2.2.2 h⟩
      refine below_succ ?_ ?_
      · intro f az u hf hd hcl hI
        obtain ⟨x3, x16, x17, x18, x19, x20, x21, x22, x23, x24, x25, x26, x27, x28, x29, x30, x31, rfl, gD, gG⟩ := hI
        subst hmk
        have hl : f 15 = false := by
          cases h15 : f 15 with
          | false => rfl
          | true => exact absurd (hcl 13 (by decide) (hcl 14 (by decide) (hcl 15 (by decide) h15 14 (by decide)) 13 (by decide)) 5 (by decide)) (by rw [hf]; decide)
        obtain ⟨gD, gS⟩ := gD hl
        have e4 := gG.2.2.2.2.1 (hd 4 (by decide)) hl
        obtain ⟨v20, v20k, v20s, rfl, v20p, v20z, v200, v20c⟩ := e4
        refine wpOp_step rfl (fun K hK => ?_)
        go_simp
        refine hK _ _ ?_
        refine ⟨_, _, _, _, _, _, _, _, _, _, _, _, _, _, _, _, _, rfl, fun _ => ⟨gD, gS⟩, fun h => gG.1 h, fun h e => (gG.2.1 h hl), fun h => gG.2.2.1 h, fun h => gG.2.2.2.1 h, fun h e => (gG.2.2.2.2.1 h hl), fun _ => ⟨v20s, v200, rfl⟩, fun h => gG.2.2.2.2.2.2.1 h, fun h => gG.2.2.2.2.2.2.2.1 h, fun h => gG.2.2.2.2.2.2.2.2.1 h, fun h => gG.2.2.2.2.2.2.2.2.2.1 h, fun h => gG.2.2.2.2.2.2.2.2.2.2.1 h, fun h => gG.2.2.2.2.2.2.2.2.2.2.2.1 h, fun h => gG.2.2.2.2.2.2.2.2.2.2.2.2.1 h, fun h => gG.2.2.2.2.2.2.2.2.2.2.2.2.2.1 h, fun h e => (gG.2.2.2.2.2.2.2.2.2.2.2.2.2.2.1 h hl), fun h => absurd (show f 15 = true from h) (by rw [hl]; decide), fun h => absurd (hcl 16 (by decide) (show f 16 = true from h) 15 (by decide)) (by rw [hl]; decide), fun h => gG.2.2.2.2.2.2.2.2.2.2.2.2.2.2.2.2.2 h⟩
      refine below_succ ?_ ?_
      · intro f az u hf hd hcl hI
        obtain ⟨x3, x16, x17, x18, x19, x20, x21, x22, x23, x24, x25, x26, x27, x28, x29, x30, x31, rfl, gD, gG⟩ := hI
        subst hmk
        have hl : f 15 = false := by
          cases h15 : f 15 with
          | false => rfl
          | true => exact absurd (hcl 5 (by decide) (hcl 13 (by decide) (hcl 14 (by decide) (hcl 15 (by decide) h15 14 (by decide)) 13 (by decide)) 5 (by decide)) 4 (by decide)) (by rw [hf]; decide)
        obtain ⟨gD, gS⟩ := gD hl
        have e1 := gG.2.1 (hd 1 (by decide)) hl
        obtain ⟨v17, rfl, v17p, v17s, v17c⟩ := e1
        have e3 := gG.2.2.2.1 (hd 3 (by decide))
        obtain ⟨v19, rfl, v190, v191⟩ := e3
        obtain ⟨k, rfl⟩ := Int.eq_ofNat_of_zero_le v190
        have hk : k < 5 := by omega
        have hki : (k : Int) < 5 := by omega
        obtain ⟨s, hs, hc⟩ := v17c k hk
        refine wpOp_step rfl (fun K hK => ?_)
        go_simp
        refine hK _ _ ?_
        refine ⟨_, _, _, _, _, _, _, _, _, _, _, _, _, _, _, _, _, rfl, fun _ => ⟨gD, gS⟩, fun h => gG.1 h, fun h e => (gG.2.1 h hl), fun h => gG.2.2.1 h, fun h => gG.2.2.2.1 h, fun _ _ => ⟨v17, k, s, by simp, v17p, v17s, hs, hc⟩, fun h => gG.2.2.2.2.2.1 h, fun h => gG.2.2.2.2.2.2.1 h, fun h => gG.2.2.2.2.2.2.2.1 h, fun h => gG.2.2.2.2.2.2.2.2.1 h, fun h => gG.2.2.2.2.2.2.2.2.2.1 h, fun h => gG.2.2.2.2.2.2.2.2.2.2.1 h, fun h => gG.2.2.2.2.2.2.2.2.2.2.2.1 h, fun h => gG.2.2.2.2.2.2.2.2.2.2.2.2.1 h, fun h => gG.2.2.2.2.2.2.2.2.2.2.2.2.2.1 h, fun h e => (gG.2.2.2.2.2.2.2.2.2.2.2.2.2.2.1 h hl), fun h => absurd (show f 15 = true from h) (by rw [hl]; decide), fun h => absurd (hcl 16 (by decide) (show f 16 = true from h) 15 (by decide)) (by rw [hl]; decide), fun h => gG.2.2.2.2.2.2.2.2.2.2.2.2.2.2.2.2.2 h⟩
      refine below_succ ?_ ?_
      · intro f az u hf hd hcl hI
        obtain ⟨x3, x16, x17, x18, x19, x20, x21, x22, x23, x24, x25, x26, x27, x28, x29, x30, x31, rfl, gD, gG⟩ := hI
        subst hmk
        have hl : f 15 = false := by
          cases h15 : f 15 with
          | false => rfl
          | true => exact absurd (hcl 9 (by decide) (hcl 12 (by decide) (hcl 15 (by decide) h15 12 (by decide)) 9 (by decide)) 3 (by decide)) (by rw [hf]; decide)
        obtain ⟨gD, gS⟩ := gD hl
        have e2 := gG.2.2.1 (hd 2 (by decide))
        subst e2
        refine wpOp_step rfl (fun K hK => ?_)
        go_simp
        go_at_call 77
        refine (next_fl 5 (w0 := wr) gD (by omega)).mono ?_
        rintro e wn ⟨v, rfl, r0, r1, hd2, hon⟩
        have hst := Stay.only hon
        try go_simp
        refine hK _ _ ?_
        refine ⟨_, _, _, _, _, _, _, _, _, _, _, _, _, _, _, _, _, rfl, fun _ => ⟨hd2, (gS.trans hst)⟩, fun h => gG.1 h, fun h e => (gG.2.1 h hl).stay hst, fun h => gG.2.2.1 h, fun _ => ⟨v, rfl, by omega, by omega⟩, fun h e => (gG.2.2.2.2.1 h hl).stay hst, fun h => gG.2.2.2.2.2.1 h, fun h => gG.2.2.2.2.2.2.1 h, fun h => gG.2.2.2.2.2.2.2.1 h, fun h => gG.2.2.2.2.2.2.2.2.1 h, fun h => gG.2.2.2.2.2.2.2.2.2.1 h, fun h => gG.2.2.2.2.2.2.2.2.2.2.1 h, fun h => gG.2.2.2.2.2.2.2.2.2.2.2.1 h, fun h => gG.2.2.2.2.2.2.2.2.2.2.2.2.1 h, fun h => gG.2.2.2.2.2.2.2.2.2.2.2.2.2.1 h, fun h e => (gG.2.2.2.2.2.2.2.2.2.2.2.2.2.2.1 h hl).stay hst, fun h => absurd (show f 15 = true from h) (by rw [hl]; decide), fun h => absurd (hcl 16 (by decide) (show f 16 = true from h) 15 (by decide)) (by rw [hl]; decide), fun h => gG.2.2.2.2.2.2.2.2.2.2.2.2.2.2.2.2.2 h⟩
      refine below_succ ?_ ?_
      · intro f az u hf hd hcl hI
        obtain ⟨x3, x16, x17, x18, x19, x20, x21, x22, x23, x24, x25, x26, x27, x28, x29, x30, x31, rfl, gD, gG⟩ := hI
        subst hmk
        have hl : f 15 = false := by
          cases h15 : f 15 with
          | false => rfl
          | true => exact absurd (hcl 3 (by decide) (hcl 9 (by decide) (hcl 12 (by decide) (hcl 15 (by decide) h15 12 (by decide)) 9 (by decide)) 3 (by decide)) 2 (by decide)) (by rw [hf]; decide)
        obtain ⟨gD, gS⟩ := gD hl
        refine wpOp_step rfl (fun K hK => ?_)
        go_simp
        refine hK _ _ ?_
        refine ⟨_, _, _, _, _, _, _, _, _, _, _, _, _, _, _, _, _, rfl, fun _ => ⟨gD, gS⟩, fun h => gG.1 h, fun h e => (gG.2.1 h hl), fun _ => rfl, fun h => gG.2.2.2.1 h, fun h e => (gG.2.2.2.2.1 h hl), fun h => gG.2.2.2.2.2.1 h, fun h => gG.2.2.2.2.2.2.1 h, fun h => gG.2.2.2.2.2.2.2.1 h, fun h => gG.2.2.2.2.2.2.2.2.1 h, fun h => gG.2.2.2.2.2.2.2.2.2.1 h, fun h => gG.2.2.2.2.2.2.2.2.2.2.1 h, fun h => gG.2.2.2.2.2.2.2.2.2.2.2.1 h, fun h => gG.2.2.2.2.2.2.2.2.2.2.2.2.1 h, fun h => gG.2.2.2.2.2.2.2.2.2.2.2.2.2.1 h, fun h e => (gG.2.2.2.2.2.2.2.2.2.2.2.2.2.2.1 h hl), fun h => absurd (show f 15 = true from h) (by rw [hl]; decide), fun h => absurd (hcl 16 (by decide) (show f 16 = true from h) 15 (by decide)) (by rw [hl]; decide), fun h => gG.2.2.2.2.2.2.2.2.2.2.2.2.2.2.2.2.2 h⟩
      refine below_succ ?_ ?_
      · intro f az u hf hd hcl hI
        obtain ⟨x3, x16, x17, x18, x19, x20, x21, x22, x23, x24, x25, x26, x27, x28, x29, x30, x31, rfl, gD, gG⟩ := hI
        subst hmk
        have hl : f 15 = false := by
          cases h15 : f 15 with
          | false => rfl
          | true => exact absurd (hcl 4 (by decide) (hcl 5 (by decide) (hcl 13 (by decide) (hcl 14 (by decide) (hcl 15 (by decide) h15 14 (by decide)) 13 (by decide)) 5 (by decide)) 4 (by decide)) 1 (by decide)) (by rw [hf]; decide)
        obtain ⟨gD, gS⟩ := gD hl
        refine wpOp_step rfl (fun K hK => ?_)
        go_simp
        refine hK _ _ ?_
        refine ⟨_, _, _, _, _, _, _, _, _, _, _, _, _, _, _, _, _, rfl, fun _ => ⟨gD.alloc _, (gS.trans (Stay.alloc p u _ _))⟩, fun h => gG.1 h, fun _ _ => PS.new gD litG1_at, fun h => gG.2.2.1 h, fun h => gG.2.2.2.1 h, fun h e => (gG.2.2.2.2.1 h hl).stay (Stay.alloc p u _ _), fun h => gG.2.2.2.2.2.1 h, fun h => gG.2.2.2.2.2.2.1 h, fun h => gG.2.2.2.2.2.2.2.1 h, fun h => gG.2.2.2.2.2.2.2.2.1 h, fun h => gG.2.2.2.2.2.2.2.2.2.1 h, fun h => gG.2.2.2.2.2.2.2.2.2.2.1 h, fun h => gG.2.2.2.2.2.2.2.2.2.2.2.1 h, fun h => gG.2.2.2.2.2.2.2.2.2.2.2.2.1 h, fun h => gG.2.2.2.2.2.2.2.2.2.2.2.2.2.1 h, fun h e => (gG.2.2.2.2.2.2.2.2.2.2.2.2.2.2.1 h hl).stay (Stay.alloc p u _ _), fun h => absurd (show f 15 = true from h) (by rw [hl]; decide), fun h => absurd (hcl 16 (by decide) (show f 16 = true from h) 15 (by decide)) (by rw [hl]; decide), fun h => gG.2.2.2.2.2.2.2.2.2.2.2.2.2.2.2.2.2 h⟩
      refine below_succ ?_ ?_
      · intro f az u hf hd hcl hI
        obtain ⟨x3, x16, x17, x18, x19, x20, x21, x22, x23, x24, x25, x26, x27, x28, x29, x30, x31, rfl, gD, gG⟩ := hI
        subst hmk
        have hl : f 15 = false := by
          cases h15 : f 15 with
          | false => rfl
          | true => exact absurd (hcl 15 (by decide) h15 0 (by decide)) (by rw [hf]; decide)
        obtain ⟨gD, gS⟩ := gD hl
        have ov := gG.2.2.2.2.2.2.2.2.2.2.2.2.2.2.2.2.2 (by
          cases h15 : f 16 with
          | false => rfl
          | true => exact absurd (hcl 16 (by decide) h15 0 (by decide)) (by rw [hf]; decide))
        subst ov
        refine wpOp_step rfl (fun K hK => ?_)
        go_simp
        refine hK _ _ ?_
        refine ⟨_, _, _, _, _, _, _, _, _, _, _, _, _, _, _, _, _, rfl, fun _ => ⟨gD, gS⟩, fun _ => rfl, fun h e => (gG.2.1 h hl), fun h => gG.2.2.1 h, fun h => gG.2.2.2.1 h, fun h e => (gG.2.2.2.2.1 h hl), fun h => gG.2.2.2.2.2.1 h, fun h => gG.2.2.2.2.2.2.1 h, fun h => gG.2.2.2.2.2.2.2.1 h, fun h => gG.2.2.2.2.2.2.2.2.1 h, fun h => gG.2.2.2.2.2.2.2.2.2.1 h, fun h => gG.2.2.2.2.2.2.2.2.2.2.1 h, fun h => gG.2.2.2.2.2.2.2.2.2.2.2.1 h, fun h => gG.2.2.2.2.2.2.2.2.2.2.2.2.1 h, fun h => gG.2.2.2.2.2.2.2.2.2.2.2.2.2.1 h, fun h e => (gG.2.2.2.2.2.2.2.2.2.2.2.2.2.2.1 h hl), fun h => absurd (show f 15 = true from h) (by rw [hl]; decide), fun h => absurd (hcl 16 (by decide) (show f 16 = true from h) 15 (by decide)) (by rw [hl]; decide), fun h => gG.2.2.2.2.2.2.2.2.2.2.2.2.2.2.2.2.2 h⟩
      exact below_zero
    · intro f az u hf hI
      obtain ⟨x3, x16, x17, x18, x19, x20, x21, x22, x23, x24, x25, x26, x27, x28, x29, x30, x31, rfl, gD, g0, g1, g2, g3, g4, g5, g6, g7, g8, g9, g10, g11, g12, g13, g14, g15, g16, o16⟩ := hI
      subst hmk
      obtain ⟨c, hc, hO6, hD6⟩ := g16 (hf 16 (by decide))
      have O6 := Lib.hid hO6
      have D6 := Lib.hid hD6
      have K6 := Lib.hid (ok_appC HK.out hc)
      clear hf gD hO6 hD6 HO HD HK DA g0 g1 g2 g3 g4 g5 g6 g7 g8 g9 g10 g11 g12 g13 g14 g15 g16 o16
      go_wp2_with fail
      refine (next_dr 60 D6.out (by omega)).mono ?_
      rintro e w7 ⟨d, rfl, d0, d1, hd, hg⟩
      have D7 := Lib.hid hd
      have O7 := Lib.hid (O6.out.dr hg hpw)
      have hwd : IntKind.i64.wrap (dy + d) = dy + d := IntWalk.i64_in _ (by omega)
      clear hd hg D6 O6
      go_wp2
      go_roundg k
      case measure => omega
      case rel => exact ⟨_, _, rfl, by go_num, by rw [List.length_append, List.length_singleton]; omega, by omega, by omega, O7, D7, K6⟩
end Go.Proofs.Ytnpfgngfolgdfaa
