/- What the reference's draw of terms hands out (chapter 28). No statement of the seat is proved here. -/
import Derived.Test.YtnpfgngfolgdfaaDrawWord
import Derived.Test.YtnpfgngfolgdfaaReg
import Derived.Test.YtnpfgngfolgdfaaSTerm
namespace Go.Proofs.Ytnpfgngfolgdfaa
open Go.RowKit

theorem ok_appT {xs : List Term} {y : Term} (h : ∀ x ∈ xs, okTerm x) (hy : okTerm y) : ∀ x ∈ xs ++ [y], okTerm x := by
  intro x hx
  rcases List.mem_append.1 hx with hx | hx
  · exact h x hx
  · rw [List.mem_singleton.1 hx]; exact hy
theorem litT_at (k : Nat) (h : k < 4) : ∃ s : ByteArray, s.size ≤ 20 ∧ (#[.string ⟨#[98, 111, 108, 116]⟩, .string ⟨#[99, 114, 97, 110, 107]⟩, .string ⟨#[102, 111, 114, 107]⟩, .string ⟨#[102, 114, 97, 109, 101]⟩] : Array Value)[k]? = some (.string s) := by
  match k, h with
  | 0, _ => exact ⟨⟨#[98, 111, 108, 116]⟩, by decide, rfl⟩
  | 1, _ => exact ⟨⟨#[99, 114, 97, 110, 107]⟩, by decide, rfl⟩
  | 2, _ => exact ⟨⟨#[102, 111, 114, 107]⟩, by decide, rfl⟩
  | 3, _ => exact ⟨⟨#[102, 114, 97, 109, 101]⟩, by decide, rfl⟩
theorem litB1_at (k : Nat) (h : k < 3) : ∃ s : ByteArray, s.size ≤ 20 ∧ (#[.string ⟨#[98, 111, 108, 116]⟩, .string ⟨#[90]⟩, .string ⟨#[114, 105, 109]⟩] : Array Value)[k]? = some (.string s) := by
  match k, h with
  | 0, _ => exact ⟨⟨#[98, 111, 108, 116]⟩, by decide, rfl⟩
  | 1, _ => exact ⟨⟨#[90]⟩, by decide, rfl⟩
  | 2, _ => exact ⟨⟨#[114, 105, 109]⟩, by decide, rfl⟩
set_option maxHeartbeats 16000000 in
set_option maxRecDepth 20000 in
theorem l28Terms_any (p : Nat) (w : World) (hs : Src w p) :
    Calls Try.prog 82 #[.pointer (some ⟨p, 0, none⟩)] w fun e w' => ∃ v xs, e = .returned v ∧ Own eTerm w' w.heap.size 72 v xs ∧ xs.length ≤ 20 ∧ (∀ x ∈ xs, okTerm x) ∧ Dr w p w' := by
  have hpw := hs.lt
  have D1 : Dr w p (w.alloc (.cells #[] 72)) := (Dr.refl hs).alloc _
  have O1 : Own eTerm (w.alloc (.cells #[] 72)) w.heap.size 72 (.slice (some ⟨w.heap.size, 0, none⟩) 0 0) [] := Own.empty eTerm w _ _ (Nat.le_refl _)
  have D0 : Hid (Dr w p ((w.alloc (.cells #[] 72)).alloc (.cells #[.string ⟨#[98, 111, 108, 116]⟩, .string ⟨#[99, 114, 97, 110, 107]⟩, .string ⟨#[102, 111, 114, 107]⟩, .string ⟨#[102, 114, 97, 109, 101]⟩] 9))) := Lib.hid (D1.alloc _)
  have O0 : Hid (Own eTerm ((w.alloc (.cells #[] 72)).alloc (.cells #[.string ⟨#[98, 111, 108, 116]⟩, .string ⟨#[99, 114, 97, 110, 107]⟩, .string ⟨#[102, 111, 114, 107]⟩, .string ⟨#[102, 114, 97, 109, 101]⟩] 9)) w.heap.size 72 (.slice (some ⟨w.heap.size, 0, none⟩) 0 0) []) := Lib.hid (O1.alloc _)
  have K0 : Hid (∀ x ∈ ([] : List Term), okTerm x) := Lib.hid (by simp)
  have P0 : Hid (PS p ((w.alloc (.cells #[] 72)).alloc (.cells #[.string ⟨#[98, 111, 108, 116]⟩, .string ⟨#[99, 114, 97, 110, 107]⟩, .string ⟨#[102, 111, 114, 107]⟩, .string ⟨#[102, 114, 97, 109, 101]⟩] 9)) (.slice (some ⟨w.heap.size + 1, 0, none⟩) 4 4) 4) := Lib.hid (by have h := PS.new (n := 4) (cells := #[.string ⟨#[98, 111, 108, 116]⟩, .string ⟨#[99, 114, 97, 110, 107]⟩, .string ⟨#[102, 111, 114, 107]⟩, .string ⟨#[102, 114, 97, 109, 101]⟩]) (t := 9) D1 litT_at; rwa [World.size_alloc] at h)
  have Z0 : Hid (w.heap.size + 1 < ((w.alloc (.cells #[] 72)).alloc (.cells #[.string ⟨#[98, 111, 108, 116]⟩, .string ⟨#[99, 114, 97, 110, 107]⟩, .string ⟨#[102, 111, 114, 107]⟩, .string ⟨#[102, 114, 97, 109, 101]⟩] 9)).heap.size) := Lib.hid (by simp)
  have hNp : w.heap.size + 1 ≠ p := by omega
  clear hs D1 O1
  go_enter Try.func82, Try.ntmps82
  go_wp2
  generalize (w.alloc (.cells #[] 72)).alloc (.cells #[.string ⟨#[98, 111, 108, 116]⟩, .string ⟨#[99, 114, 97, 110, 107]⟩, .string ⟨#[102, 111, 114, 107]⟩, .string ⟨#[102, 114, 97, 109, 101]⟩] 9) = w1 at *
  have NE0 : Hid ((Value.slice (some ⟨w.heap.size, 0, none⟩) 0 0).ownBlock ≠ some (w.heap.size + 1)) := Lib.hid (fun e => by simp [Value.ownBlock] at e)
  obtain ⟨N, hN⟩ : ∃ N, w.heap.size + 1 = N := ⟨_, rfl⟩
  rw [hN] at P0 Z0 hNp NE0 ⊢
  have hNw : w.heap.size ≤ N := by omega
  clear hN
  go_loopg [3, 5] 4 (fun gk v i wr => ∃ (xs : List Term) (j : Nat), i = .int .i64 (j : Nat) ∧ gk = 4 - j ∧ j ≤ 4 ∧ xs.length ≤ j ∧ Hid (Own eTerm wr w.heap.size 72 v xs) ∧ Hid (Dr w p wr) ∧ Hid (∀ x ∈ xs, okTerm x) ∧ Hid (PS p wr (.slice (some ⟨N, 0, none⟩) 4 4) 4) ∧ Hid (v.ownBlock ≠ some N))
  case atStart => exact ⟨[], 0, rfl, rfl, by omega, by simp, O0, D0, K0, P0, NE0⟩
  case round =>
    rename Nat => gg
    obtain ⟨xs, j, rfl, rfl, hj4, l1, HO, HD, HK, HP, HN⟩ := hrel
    clear O0 D0 K0 P0 NE0
    by_cases hk : j < 4
    rotate_left
    · obtain rfl : j = 4 := by omega
      clear hk
      go_wp2_with fail
      refine (next_dr 40 HD.out (by omega)).mono ?_
      rintro e w4 ⟨c, rfl, c1, c2, hd, hg⟩
      have D4 := Lib.hid hd
      have O4 := Lib.hid (HO.out.dr hg hpw)
      have hxl4 : xs.length ≤ 4 := by omega
      clear hd hg HD HO HP HN
      by_cases h0 : c = 0
      rotate_left
      · have h0b : (c == 0) = false := beq_eq_false_iff_ne.2 h0
        by_cases h1 : c = 1
        rotate_left
        · have h1b : (c == 1) = false := beq_eq_false_iff_ne.2 h1
          go_wp2
          go_ret
          exact ⟨_, _, rfl, O4.out, by omega, HK.out, D4.out⟩
        subst h1
        clear h0b h0
        go_wp2
        obtain ⟨A0x, cap, rfl, _, _, _⟩ := Sl.shape (Sl.of_own O4.out (by unfold big40; omega))
        go_loopg [3, 6] (13 - xs.length) (fun gk v k wr => ∃ (ys : List Term) (j : Nat), k = .int .i64 (j : Nat) ∧ gk = 13 - ys.length ∧ j ≤ ys.length ∧ ys.length ≤ 11 ∧ Hid (Own eTerm wr w.heap.size 72 v ys) ∧ Hid (Dr w p wr) ∧ Hid (∀ x ∈ ys, okTerm x))
        case atStart => exact ⟨xs, 0, rfl, rfl, by omega, by omega, O4, D4, HK⟩
        case round =>
          obtain ⟨ys, j, rfl, rfl, hj, l2, HO, HD, HK2⟩ := hrel
          clear O4 D4 HK
          obtain ⟨A2, cap2, rfl, _, _, _⟩ := Sl.shape (Sl.of_own HO.out (by unfold big40; omega))
          have HL1 : (ys.length : Int) ≤ 11 := by omega
          go_wp2_with fail
          refine (next_dr 2 HD.out (by omega)).mono ?_
          rintro e w5 ⟨b, rfl, b1, b2, hd, hg⟩
          have D5 := Lib.hid hd
          have O5 := Lib.hid (HO.out.dr hg hpw)
          have hsz5 := hd.size
          clear hd hg HD HO
          by_cases hb : (ys.length : Int) < 10 + b
          · have hl12 : ys.length ≤ 10 := by omega
            have hxl : ys.length ≤ 1000000000 := by omega
            have hj0 : (0 : Int) ≤ (j : Int) := by omega
            have hj1 : (j : Int) ≤ (j : Int) + 1 := by omega
            have hj2 : (j : Int) + 1 ≤ 12 := by omega
            have hjw : IntKind.i64.wrap ((j : Int) + 1) = (j : Int) + 1 := IntWalk.i64_in _ (by omega)
            go_wp2_with (at_builtin; refine wpList_app eTerm rfl _ _ 35 (by rfl) 72 (.agg #[.string ⟨#[]⟩, .int .i64 0, .int .i64 0, .int .i64 0]) 40 Try.underlying35 info_Term rfl (by decide) (by decide) w.heap.size _ ys (by rfl) (by exact O5.out) (by exact hxl) (by exact hsz5) ⟨⟨#[120]⟩ ++ (⟨#[97, 98, 99, 100, 101, 102, 103, 104, 105, 106, 107, 108]⟩ : ByteArray).extract j (j + 1), 9, 9, 1⟩ _ (by rfl) _ (by rfl) (by first | rfl | simp) ?_)
            intro v6 w6 hO6 hB6 _ _ _
            have O6 := Lib.hid hO6
            have D6 := Lib.hid (D5.out.below hB6)
            have K6 := Lib.hid (ok_appT HK2.out (show okTerm ⟨⟨#[120]⟩ ++ (⟨#[97, 98, 99, 100, 101, 102, 103, 104, 105, 106, 107, 108]⟩ : ByteArray).extract j (j + 1), 9, 9, 1⟩ by
              show (ByteArray.size _) ≤ _
              have h1 : (⟨#[120]⟩ : ByteArray).size = 1 := rfl
              have h2 : (⟨#[97, 98, 99, 100, 101, 102, 103, 104, 105, 106, 107, 108]⟩ : ByteArray).size = 12 := rfl
              rw [ByteArray.size_append, ByteArray.size_extract, h1, h2]
              omega))
            clear hO6 hB6 D5 O5
            go_wp2
            go_roundg (13 - (ys.length + 1))
            case measure => omega
            case rel => exact ⟨_, j + 1, by go_num, by rw [List.length_append, List.length_singleton], by rw [List.length_append, List.length_singleton]; omega, by rw [List.length_append, List.length_singleton]; omega, O6, D6, K6⟩
          · go_wp2
            go_ret
            exact ⟨_, _, rfl, O5.out, by omega, HK2.out, D5.out⟩
      subst h0
      have hxl : xs.length ≤ 1000000 := by omega
      have DA : Hid (Dr w4 p w4) := Lib.hid (Dr.refl D4.out.1)
      have hsz : w.heap.size ≤ w4.heap.size := D4.out.size
      go_wp2
      obtain ⟨mk, hmk⟩ : ∃ mk : Value → Value → Value → Value → Value → Value → Value → Value → Value → Value → Value → Value → Value → Value → Value → Value → Value → Value → Value → Act, mk = (fun x3 x39 x40 x41 x42 x43 x44 x45 x46 x47 x48 x49 x50 x51 x52 x53 x54 x55 x56 => (⟨#[Value.pointer (some ⟨p, 0, none⟩), undef, Value.slice none 0 0, x3, Value.slice (some ⟨N, 0, none⟩) 4 4, Value.int .i64 4, undef, Value.slice (some ⟨w.heap.size, 0, none⟩) 0 0, Value.slice (some ⟨N, 0, none⟩) 4 4, Value.int .i64 4, Value.slice (some ⟨N, 0, none⟩) 4 4, Value.int .i64 4, Value.bool false, u13, u14, u15, u16, u17, u18, u19, u20, u21, u22, u23, u24, u25, u26, u27, u28, u29, u30, u31, u32, u33, u34, Value.pointer (some ⟨p, 0, none⟩), Value.int .i64 0, Value.bool true, Value.bool true, x39, x40, x41, x42, x43, x44, x45, x46, x47, x48, x49, x50, x51, x52, x53, x54, x55, x56, undef, undef, undef, undef, undef, undef, undef, undef, undef, undef, undef, undef, undef, undef, undef, undef, undef, undef, undef, undef], []⟩ : Act)) := ⟨_, rfl⟩
      refine wp_region_inv (by kernel_rfl) ([[], [], [], [2], [1, 3], [4], [], [], [6, 7, 3], [], [], [9, 10, 8], [], [], [12, 13, 11], [5, 8, 11, 14], [15], [0, 16, 14], [17, 17, 0, 1, 2, 3, 4, 5, 6, 7, 8, 9, 10, 11, 12, 13, 14, 15, 16, 17]] : List (List Nat)) (by kernel_rfl) (by kernel_rfl) (fun f az u => ∃ x3 x39 x40 x41 x42 x43 x44 x45 x46 x47 x48 x49 x50 x51 x52 x53 x54 x55 x56 : Value, az = mk x3 x39 x40 x41 x42 x43 x44 x45 x46 x47 x48 x49 x50 x51 x52 x53 x54 x55 x56 ∧ (f 17 = false → Dr w4 p u ∧ Stay p w4 u) ∧ (f 0 = true → x39 = u3) ∧ (f 1 = true → f 17 = false → PS p u x40 3) ∧ (f 2 = true → x41 = .pointer (some ⟨p, 0, none⟩)) ∧ (f 3 = true → ∃ h : Int, x42 = .int .i64 h ∧ (0 : Int) ≤ h ∧ h ≤ 2) ∧ (f 4 = true → f 17 = false → PI p u x43) ∧ (f 5 = true → ∃ s : ByteArray, s.size ≤ 20 ∧ x44 = .string s) ∧ (f 6 = true → x45 = .pointer (some ⟨p, 0, none⟩)) ∧ (f 7 = true → f 17 = false → PK p u x46 4 (0) (10001)) ∧ (f 8 = true → ∃ h : Int, x47 = .int .i64 h ∧ (0 : Int) ≤ h ∧ h ≤ 10001) ∧ (f 9 = true → x48 = .pointer (some ⟨p, 0, none⟩)) ∧ (f 10 = true → f 17 = false → PK p u x49 3 (0) (10000000)) ∧ (f 11 = true → ∃ h : Int, x50 = .int .i64 h ∧ (0 : Int) ≤ h ∧ h ≤ 10000000) ∧ (f 12 = true → x51 = .pointer (some ⟨p, 0, none⟩)) ∧ (f 13 = true → f 17 = false → PK p u x52 4 (0) (21)) ∧ (f 14 = true → ∃ h : Int, x53 = .int .i64 h ∧ (0 : Int) ≤ h ∧ h ≤ 21) ∧ (f 15 = true → ∃ c : Term, okTerm c ∧ x54 = .agg #[.string c.part, .int .i64 c.days, .int .i64 c.tens, .int .i64 c.claims]) ∧ (f 16 = true → f 17 = false → PO eTerm okTerm p u x55) ∧ (f 17 = true → PA eTerm okTerm w p w.heap.size 72 xs u x56) ∧ (f 18 = true → PA eTerm okTerm w p w.heap.size 72 xs u x3) ∧ (f 18 = false → x3 = u3)) ?_ ?_ ?_
      · subst hmk
        exact ⟨_, _, _, _, _, _, _, _, _, _, _, _, _, _, _, _, _, _, _, rfl, fun _ => ⟨DA.out.drew, (Stay.refl _ _).drew⟩, fun h => (by cases h), fun h => (by cases h), fun h => (by cases h), fun h => (by cases h), fun h => (by cases h), fun h => (by cases h), fun h => (by cases h), fun h => (by cases h), fun h => (by cases h), fun h => (by cases h), fun h => (by cases h), fun h => (by cases h), fun h => (by cases h), fun h => (by cases h), fun h => (by cases h), fun h => (by cases h), fun h => (by cases h), fun h => (by cases h), fun h => (by cases h), fun _ => rfl⟩
      · show ∀ i, i < 19 → _
        refine below_succ ?_ ?_
        · intro f az u hf hd hcl hI
          obtain ⟨x3, x39, x40, x41, x42, x43, x44, x45, x46, x47, x48, x49, x50, x51, x52, x53, x54, x55, x56, rfl, gD, gG⟩ := hI
          subst hmk
          have hl : f 17 = true := hd 17 (by decide)
          refine wpOp_step rfl (fun K hK => ?_)
          go_simp
          refine hK _ _ ?_
          refine ⟨_, _, _, _, _, _, _, _, _, _, _, _, _, _, _, _, _, _, _, rfl, fun h => absurd h (by simp [hl]), fun h => gG.1 h, fun h e => absurd e (by simp [hl]), fun h => gG.2.2.1 h, fun h => gG.2.2.2.1 h, fun h e => absurd e (by simp [hl]), fun h => gG.2.2.2.2.2.1 h, fun h => gG.2.2.2.2.2.2.1 h, fun h e => absurd e (by simp [hl]), fun h => gG.2.2.2.2.2.2.2.2.1 h, fun h => gG.2.2.2.2.2.2.2.2.2.1 h, fun h e => absurd e (by simp [hl]), fun h => gG.2.2.2.2.2.2.2.2.2.2.2.1 h, fun h => gG.2.2.2.2.2.2.2.2.2.2.2.2.1 h, fun h e => absurd e (by simp [hl]), fun h => gG.2.2.2.2.2.2.2.2.2.2.2.2.2.2.1 h, fun h => gG.2.2.2.2.2.2.2.2.2.2.2.2.2.2.2.1 h, fun h e => absurd e (by simp [hl]), fun h => gG.2.2.2.2.2.2.2.2.2.2.2.2.2.2.2.2.2.1 h, fun _ => gG.2.2.2.2.2.2.2.2.2.2.2.2.2.2.2.2.2.1 (hd 17 (by decide)), fun h => absurd h (by simp)⟩
        refine below_succ ?_ ?_
        · intro f az u hf hd hcl hI
          obtain ⟨x3, x39, x40, x41, x42, x43, x44, x45, x46, x47, x48, x49, x50, x51, x52, x53, x54, x55, x56, rfl, gD, gG⟩ := hI
          subst hmk
          obtain ⟨gD, gS⟩ := gD hf
          have e0 := gG.1 (hd 0 (by decide))
          subst e0
          have e16 := gG.2.2.2.2.2.2.2.2.2.2.2.2.2.2.2.2.1 (hd 16 (by decide)) hf
          obtain ⟨v55, v55v, rfl, v55p, v55o, v55s⟩ := e16
          refine wpOp_step rfl (fun K hK => ?_)
          refine wp_app_all eTerm _ _ 35 (by rfl) 72 (.agg #[.string ⟨#[]⟩, .int .i64 0, .int .i64 0, .int .i64 0]) 40 Try.underlying35 info_Term rfl (by decide) (by decide) w.heap.size _ xs (by rfl) (by exact (O4.out).dr gD.2.1 hpw) _ [v55v] (by rfl) (by exact v55s) (by simp only [List.length_cons, List.length_nil]; omega) (by have := gD.size; omega) ?_
          intro v6 w6 hO6 hB6 hG6 hor6
          refine hK _ _ ?_
          refine ⟨_, _, _, _, _, _, _, _, _, _, _, _, _, _, _, _, _, _, _, rfl, fun h => absurd h (by simp), fun h => gG.1 h, fun h e => absurd e (by simp), fun h => gG.2.2.1 h, fun h => gG.2.2.2.1 h, fun h e => absurd e (by simp), fun h => gG.2.2.2.2.2.1 h, fun h => gG.2.2.2.2.2.2.1 h, fun h e => absurd e (by simp), fun h => gG.2.2.2.2.2.2.2.2.1 h, fun h => gG.2.2.2.2.2.2.2.2.2.1 h, fun h e => absurd e (by simp), fun h => gG.2.2.2.2.2.2.2.2.2.2.2.1 h, fun h => gG.2.2.2.2.2.2.2.2.2.2.2.2.1 h, fun h e => absurd e (by simp), fun h => gG.2.2.2.2.2.2.2.2.2.2.2.2.2.2.1 h, fun h => gG.2.2.2.2.2.2.2.2.2.2.2.2.2.2.2.1 h, fun h e => absurd e (by simp), fun _ => ⟨v55v, v55o, hO6, (D4.out.trans gD).below hB6⟩, fun h => absurd (hcl 18 (by decide) (show f 18 = true from h) 17 (by decide)) (by rw [hf]; decide), fun h => gG.2.2.2.2.2.2.2.2.2.2.2.2.2.2.2.2.2.2.2 h⟩
        refine below_succ ?_ ?_
        · intro f az u hf hd hcl hI
          obtain ⟨x3, x39, x40, x41, x42, x43, x44, x45, x46, x47, x48, x49, x50, x51, x52, x53, x54, x55, x56, rfl, gD, gG⟩ := hI
          subst hmk
          have hl : f 17 = false := by
            cases h15 : f 17 with
            | false => rfl
            | true => exact absurd (hcl 17 (by decide) h15 16 (by decide)) (by rw [hf]; decide)
          obtain ⟨gD, gS⟩ := gD hl
          have e15 := gG.2.2.2.2.2.2.2.2.2.2.2.2.2.2.2.1 (hd 15 (by decide))
          obtain ⟨v54, v540, rfl⟩ := e15
          refine wpOp_step rfl (fun K hK => ?_)
          go_simp
          refine hK _ _ ?_
          refine ⟨_, _, _, _, _, _, _, _, _, _, _, _, _, _, _, _, _, _, _, rfl, fun _ => ⟨gD.alloc _, (gS.trans (Stay.alloc p u _ _))⟩, fun h => gG.1 h, fun h e => (gG.2.1 h hl).stay (Stay.alloc p u _ _), fun h => gG.2.2.1 h, fun h => gG.2.2.2.1 h, fun h e => (gG.2.2.2.2.1 h hl).stay (Stay.alloc p u _ _), fun h => gG.2.2.2.2.2.1 h, fun h => gG.2.2.2.2.2.2.1 h, fun h e => (gG.2.2.2.2.2.2.2.1 h hl).stay (Stay.alloc p u _ _), fun h => gG.2.2.2.2.2.2.2.2.1 h, fun h => gG.2.2.2.2.2.2.2.2.2.1 h, fun h e => (gG.2.2.2.2.2.2.2.2.2.2.1 h hl).stay (Stay.alloc p u _ _), fun h => gG.2.2.2.2.2.2.2.2.2.2.2.1 h, fun h => gG.2.2.2.2.2.2.2.2.2.2.2.2.1 h, fun h e => (gG.2.2.2.2.2.2.2.2.2.2.2.2.2.1 h hl).stay (Stay.alloc p u _ _), fun h => gG.2.2.2.2.2.2.2.2.2.2.2.2.2.2.1 h, fun h => gG.2.2.2.2.2.2.2.2.2.2.2.2.2.2.2.1 h, fun _ _ => PO.new _ _ v54 rfl gD v540, fun h => absurd (show f 17 = true from h) (by rw [hl]; decide), fun h => absurd (hcl 18 (by decide) (show f 18 = true from h) 17 (by decide)) (by rw [hl]; decide), fun h => gG.2.2.2.2.2.2.2.2.2.2.2.2.2.2.2.2.2.2.2 h⟩
        refine below_succ ?_ ?_
        · intro f az u hf hd hcl hI
          obtain ⟨x3, x39, x40, x41, x42, x43, x44, x45, x46, x47, x48, x49, x50, x51, x52, x53, x54, x55, x56, rfl, gD, gG⟩ := hI
          subst hmk
          have hl : f 17 = false := by
            cases h15 : f 17 with
            | false => rfl
            | true => exact absurd (hcl 16 (by decide) (hcl 17 (by decide) h15 16 (by decide)) 15 (by decide)) (by rw [hf]; decide)
          obtain ⟨gD, gS⟩ := gD hl
          have e5 := gG.2.2.2.2.2.1 (hd 5 (by decide))
          obtain ⟨v44, v440, rfl⟩ := e5
          have e8 := gG.2.2.2.2.2.2.2.2.1 (hd 8 (by decide))
          obtain ⟨v47, rfl, v470, v471⟩ := e8
          have e11 := gG.2.2.2.2.2.2.2.2.2.2.2.1 (hd 11 (by decide))
          obtain ⟨v50, rfl, v500, v501⟩ := e11
          have e14 := gG.2.2.2.2.2.2.2.2.2.2.2.2.2.2.1 (hd 14 (by decide))
          obtain ⟨v53, rfl, v530, v531⟩ := e14
          refine wpOp_step rfl (fun K hK => ?_)
          go_simp
          refine hK _ _ ?_
          refine ⟨_, _, _, _, _, _, _, _, _, _, _, _, _, _, _, _, _, _, _, rfl, fun _ => ⟨gD, gS⟩, fun h => gG.1 h, fun h e => (gG.2.1 h hl), fun h => gG.2.2.1 h, fun h => gG.2.2.2.1 h, fun h e => (gG.2.2.2.2.1 h hl), fun h => gG.2.2.2.2.2.1 h, fun h => gG.2.2.2.2.2.2.1 h, fun h e => (gG.2.2.2.2.2.2.2.1 h hl), fun h => gG.2.2.2.2.2.2.2.2.1 h, fun h => gG.2.2.2.2.2.2.2.2.2.1 h, fun h e => (gG.2.2.2.2.2.2.2.2.2.2.1 h hl), fun h => gG.2.2.2.2.2.2.2.2.2.2.2.1 h, fun h => gG.2.2.2.2.2.2.2.2.2.2.2.2.1 h, fun h e => (gG.2.2.2.2.2.2.2.2.2.2.2.2.2.1 h hl), fun h => gG.2.2.2.2.2.2.2.2.2.2.2.2.2.2.1 h, fun _ => ⟨⟨v44, v47, v50, v53⟩, (by show (ByteArray.size _) ≤ _; exact Nat.le_trans v440 (by decide)), rfl⟩, fun h e => (gG.2.2.2.2.2.2.2.2.2.2.2.2.2.2.2.2.1 h hl), fun h => absurd (show f 17 = true from h) (by rw [hl]; decide), fun h => absurd (hcl 18 (by decide) (show f 18 = true from h) 17 (by decide)) (by rw [hl]; decide), fun h => gG.2.2.2.2.2.2.2.2.2.2.2.2.2.2.2.2.2.2.2 h⟩
        refine below_succ ?_ ?_
        · intro f az u hf hd hcl hI
          obtain ⟨x3, x39, x40, x41, x42, x43, x44, x45, x46, x47, x48, x49, x50, x51, x52, x53, x54, x55, x56, rfl, gD, gG⟩ := hI
          subst hmk
          have hl : f 17 = false := by
            cases h15 : f 17 with
            | false => rfl
            | true => exact absurd (hcl 17 (by decide) h15 14 (by decide)) (by rw [hf]; decide)
          obtain ⟨gD, gS⟩ := gD hl
          have e12 := gG.2.2.2.2.2.2.2.2.2.2.2.2.1 (hd 12 (by decide))
          subst e12
          have e13 := gG.2.2.2.2.2.2.2.2.2.2.2.2.2.1 (hd 13 (by decide)) hl
          obtain ⟨v52, v52x, rfl, v52p, v52s, v52l, v52b, v52c⟩ := e13
          refine wpOp_step rfl (fun K hK => ?_)
          go_simp
          go_at_call 76
          refine (pick_fl (w0 := w4) v52x 4 v52l.symm (by omega) (by omega) gD v52p v52s v52c).mono ?_
          rintro e wn ⟨v, rfl, hv, hd2, hon⟩
          have hst := Stay.only hon
          try go_simp
          refine hK _ _ ?_
          refine ⟨_, _, _, _, _, _, _, _, _, _, _, _, _, _, _, _, _, _, _, rfl, fun _ => ⟨hd2, (gS.trans hst)⟩, fun h => gG.1 h, fun h e => (gG.2.1 h hl).stay hst, fun h => gG.2.2.1 h, fun h => gG.2.2.2.1 h, fun h e => (gG.2.2.2.2.1 h hl).stay hst, fun h => gG.2.2.2.2.2.1 h, fun h => gG.2.2.2.2.2.2.1 h, fun h e => (gG.2.2.2.2.2.2.2.1 h hl).stay hst, fun h => gG.2.2.2.2.2.2.2.2.1 h, fun h => gG.2.2.2.2.2.2.2.2.2.1 h, fun h e => (gG.2.2.2.2.2.2.2.2.2.2.1 h hl).stay hst, fun h => gG.2.2.2.2.2.2.2.2.2.2.2.1 h, fun h => gG.2.2.2.2.2.2.2.2.2.2.2.2.1 h, fun h e => (gG.2.2.2.2.2.2.2.2.2.2.2.2.2.1 h hl).stay hst, fun _ => ⟨v, rfl, v52b v hv⟩, fun h => gG.2.2.2.2.2.2.2.2.2.2.2.2.2.2.2.1 h, fun h e => (gG.2.2.2.2.2.2.2.2.2.2.2.2.2.2.2.2.1 h hl).stay hst, fun h => absurd (show f 17 = true from h) (by rw [hl]; decide), fun h => absurd (hcl 18 (by decide) (show f 18 = true from h) 17 (by decide)) (by rw [hl]; decide), fun h => gG.2.2.2.2.2.2.2.2.2.2.2.2.2.2.2.2.2.2.2 h⟩
        refine below_succ ?_ ?_
        · intro f az u hf hd hcl hI
          obtain ⟨x3, x39, x40, x41, x42, x43, x44, x45, x46, x47, x48, x49, x50, x51, x52, x53, x54, x55, x56, rfl, gD, gG⟩ := hI
          subst hmk
          have hl : f 17 = false := by
            cases h15 : f 17 with
            | false => rfl
            | true => exact absurd (hcl 14 (by decide) (hcl 17 (by decide) h15 14 (by decide)) 13 (by decide)) (by rw [hf]; decide)
          obtain ⟨gD, gS⟩ := gD hl
          refine wpOp_step rfl (fun K hK => ?_)
          go_simp
          refine hK _ _ ?_
          refine ⟨_, _, _, _, _, _, _, _, _, _, _, _, _, _, _, _, _, _, _, rfl, fun _ => ⟨gD.alloc _, (gS.trans (Stay.alloc p u _ _))⟩, fun h => gG.1 h, fun h e => (gG.2.1 h hl).stay (Stay.alloc p u _ _), fun h => gG.2.2.1 h, fun h => gG.2.2.2.1 h, fun h e => (gG.2.2.2.2.1 h hl).stay (Stay.alloc p u _ _), fun h => gG.2.2.2.2.2.1 h, fun h => gG.2.2.2.2.2.2.1 h, fun h e => (gG.2.2.2.2.2.2.2.1 h hl).stay (Stay.alloc p u _ _), fun h => gG.2.2.2.2.2.2.2.2.1 h, fun h => gG.2.2.2.2.2.2.2.2.2.1 h, fun h e => (gG.2.2.2.2.2.2.2.2.2.2.1 h hl).stay (Stay.alloc p u _ _), fun h => gG.2.2.2.2.2.2.2.2.2.2.2.1 h, fun h => gG.2.2.2.2.2.2.2.2.2.2.2.2.1 h, fun _ _ => PK.new [0, 1, 20, 21] _ _ rfl gD (by intro y hy; simp at hy; omega), fun h => gG.2.2.2.2.2.2.2.2.2.2.2.2.2.2.1 h, fun h => gG.2.2.2.2.2.2.2.2.2.2.2.2.2.2.2.1 h, fun h e => (gG.2.2.2.2.2.2.2.2.2.2.2.2.2.2.2.2.1 h hl).stay (Stay.alloc p u _ _), fun h => absurd (show f 17 = true from h) (by rw [hl]; decide), fun h => absurd (hcl 18 (by decide) (show f 18 = true from h) 17 (by decide)) (by rw [hl]; decide), fun h => gG.2.2.2.2.2.2.2.2.2.2.2.2.2.2.2.2.2.2.2 h⟩
        refine below_succ ?_ ?_
        · intro f az u hf hd hcl hI
          obtain ⟨x3, x39, x40, x41, x42, x43, x44, x45, x46, x47, x48, x49, x50, x51, x52, x53, x54, x55, x56, rfl, gD, gG⟩ := hI
          subst hmk
          have hl : f 17 = false := by
            cases h15 : f 17 with
            | false => rfl
            | true => exact absurd (hcl 14 (by decide) (hcl 17 (by decide) h15 14 (by decide)) 12 (by decide)) (by rw [hf]; decide)
          obtain ⟨gD, gS⟩ := gD hl
          refine wpOp_step rfl (fun K hK => ?_)
          go_simp
          refine hK _ _ ?_
          refine ⟨_, _, _, _, _, _, _, _, _, _, _, _, _, _, _, _, _, _, _, rfl, fun _ => ⟨gD, gS⟩, fun h => gG.1 h, fun h e => (gG.2.1 h hl), fun h => gG.2.2.1 h, fun h => gG.2.2.2.1 h, fun h e => (gG.2.2.2.2.1 h hl), fun h => gG.2.2.2.2.2.1 h, fun h => gG.2.2.2.2.2.2.1 h, fun h e => (gG.2.2.2.2.2.2.2.1 h hl), fun h => gG.2.2.2.2.2.2.2.2.1 h, fun h => gG.2.2.2.2.2.2.2.2.2.1 h, fun h e => (gG.2.2.2.2.2.2.2.2.2.2.1 h hl), fun h => gG.2.2.2.2.2.2.2.2.2.2.2.1 h, fun _ => rfl, fun h e => (gG.2.2.2.2.2.2.2.2.2.2.2.2.2.1 h hl), fun h => gG.2.2.2.2.2.2.2.2.2.2.2.2.2.2.1 h, fun h => gG.2.2.2.2.2.2.2.2.2.2.2.2.2.2.2.1 h, fun h e => (gG.2.2.2.2.2.2.2.2.2.2.2.2.2.2.2.2.1 h hl), fun h => absurd (show f 17 = true from h) (by rw [hl]; decide), fun h => absurd (hcl 18 (by decide) (show f 18 = true from h) 17 (by decide)) (by rw [hl]; decide), fun h => gG.2.2.2.2.2.2.2.2.2.2.2.2.2.2.2.2.2.2.2 h⟩
        refine below_succ ?_ ?_
        · intro f az u hf hd hcl hI
          obtain ⟨x3, x39, x40, x41, x42, x43, x44, x45, x46, x47, x48, x49, x50, x51, x52, x53, x54, x55, x56, rfl, gD, gG⟩ := hI
          subst hmk
          have hl : f 17 = false := by
            cases h15 : f 17 with
            | false => rfl
            | true => exact absurd (hcl 14 (by decide) (hcl 17 (by decide) h15 14 (by decide)) 11 (by decide)) (by rw [hf]; decide)
          obtain ⟨gD, gS⟩ := gD hl
          have e9 := gG.2.2.2.2.2.2.2.2.2.1 (hd 9 (by decide))
          subst e9
          have e10 := gG.2.2.2.2.2.2.2.2.2.2.1 (hd 10 (by decide)) hl
          obtain ⟨v49, v49x, rfl, v49p, v49s, v49l, v49b, v49c⟩ := e10
          refine wpOp_step rfl (fun K hK => ?_)
          go_simp
          go_at_call 76
          refine (pick_fl (w0 := w4) v49x 3 v49l.symm (by omega) (by omega) gD v49p v49s v49c).mono ?_
          rintro e wn ⟨v, rfl, hv, hd2, hon⟩
          have hst := Stay.only hon
          try go_simp
          refine hK _ _ ?_
          refine ⟨_, _, _, _, _, _, _, _, _, _, _, _, _, _, _, _, _, _, _, rfl, fun _ => ⟨hd2, (gS.trans hst)⟩, fun h => gG.1 h, fun h e => (gG.2.1 h hl).stay hst, fun h => gG.2.2.1 h, fun h => gG.2.2.2.1 h, fun h e => (gG.2.2.2.2.1 h hl).stay hst, fun h => gG.2.2.2.2.2.1 h, fun h => gG.2.2.2.2.2.2.1 h, fun h e => (gG.2.2.2.2.2.2.2.1 h hl).stay hst, fun h => gG.2.2.2.2.2.2.2.2.1 h, fun h => gG.2.2.2.2.2.2.2.2.2.1 h, fun h e => (gG.2.2.2.2.2.2.2.2.2.2.1 h hl).stay hst, fun _ => ⟨v, rfl, v49b v hv⟩, fun h => gG.2.2.2.2.2.2.2.2.2.2.2.2.1 h, fun h e => (gG.2.2.2.2.2.2.2.2.2.2.2.2.2.1 h hl).stay hst, fun h => gG.2.2.2.2.2.2.2.2.2.2.2.2.2.2.1 h, fun h => gG.2.2.2.2.2.2.2.2.2.2.2.2.2.2.2.1 h, fun h e => (gG.2.2.2.2.2.2.2.2.2.2.2.2.2.2.2.2.1 h hl).stay hst, fun h => absurd (show f 17 = true from h) (by rw [hl]; decide), fun h => absurd (hcl 18 (by decide) (show f 18 = true from h) 17 (by decide)) (by rw [hl]; decide), fun h => gG.2.2.2.2.2.2.2.2.2.2.2.2.2.2.2.2.2.2.2 h⟩
        refine below_succ ?_ ?_
        · intro f az u hf hd hcl hI
          obtain ⟨x3, x39, x40, x41, x42, x43, x44, x45, x46, x47, x48, x49, x50, x51, x52, x53, x54, x55, x56, rfl, gD, gG⟩ := hI
          subst hmk
          have hl : f 17 = false := by
            cases h15 : f 17 with
            | false => rfl
            | true => exact absurd (hcl 11 (by decide) (hcl 14 (by decide) (hcl 17 (by decide) h15 14 (by decide)) 11 (by decide)) 10 (by decide)) (by rw [hf]; decide)
          obtain ⟨gD, gS⟩ := gD hl
          refine wpOp_step rfl (fun K hK => ?_)
          go_simp
          refine hK _ _ ?_
          refine ⟨_, _, _, _, _, _, _, _, _, _, _, _, _, _, _, _, _, _, _, rfl, fun _ => ⟨gD.alloc _, (gS.trans (Stay.alloc p u _ _))⟩, fun h => gG.1 h, fun h e => (gG.2.1 h hl).stay (Stay.alloc p u _ _), fun h => gG.2.2.1 h, fun h => gG.2.2.2.1 h, fun h e => (gG.2.2.2.2.1 h hl).stay (Stay.alloc p u _ _), fun h => gG.2.2.2.2.2.1 h, fun h => gG.2.2.2.2.2.2.1 h, fun h e => (gG.2.2.2.2.2.2.2.1 h hl).stay (Stay.alloc p u _ _), fun h => gG.2.2.2.2.2.2.2.2.1 h, fun h => gG.2.2.2.2.2.2.2.2.2.1 h, fun _ _ => PK.new [0, 1, 10000000] _ _ rfl gD (by intro y hy; simp at hy; omega), fun h => gG.2.2.2.2.2.2.2.2.2.2.2.1 h, fun h => gG.2.2.2.2.2.2.2.2.2.2.2.2.1 h, fun h e => (gG.2.2.2.2.2.2.2.2.2.2.2.2.2.1 h hl).stay (Stay.alloc p u _ _), fun h => gG.2.2.2.2.2.2.2.2.2.2.2.2.2.2.1 h, fun h => gG.2.2.2.2.2.2.2.2.2.2.2.2.2.2.2.1 h, fun h e => (gG.2.2.2.2.2.2.2.2.2.2.2.2.2.2.2.2.1 h hl).stay (Stay.alloc p u _ _), fun h => absurd (show f 17 = true from h) (by rw [hl]; decide), fun h => absurd (hcl 18 (by decide) (show f 18 = true from h) 17 (by decide)) (by rw [hl]; decide), fun h => gG.2.2.2.2.2.2.2.2.2.2.2.2.2.2.2.2.2.2.2 h⟩
        refine below_succ ?_ ?_
        · intro f az u hf hd hcl hI
          obtain ⟨x3, x39, x40, x41, x42, x43, x44, x45, x46, x47, x48, x49, x50, x51, x52, x53, x54, x55, x56, rfl, gD, gG⟩ := hI
          subst hmk
          have hl : f 17 = false := by
            cases h15 : f 17 with
            | false => rfl
            | true => exact absurd (hcl 11 (by decide) (hcl 14 (by decide) (hcl 17 (by decide) h15 14 (by decide)) 11 (by decide)) 9 (by decide)) (by rw [hf]; decide)
          obtain ⟨gD, gS⟩ := gD hl
          refine wpOp_step rfl (fun K hK => ?_)
          go_simp
          refine hK _ _ ?_
          refine ⟨_, _, _, _, _, _, _, _, _, _, _, _, _, _, _, _, _, _, _, rfl, fun _ => ⟨gD, gS⟩, fun h => gG.1 h, fun h e => (gG.2.1 h hl), fun h => gG.2.2.1 h, fun h => gG.2.2.2.1 h, fun h e => (gG.2.2.2.2.1 h hl), fun h => gG.2.2.2.2.2.1 h, fun h => gG.2.2.2.2.2.2.1 h, fun h e => (gG.2.2.2.2.2.2.2.1 h hl), fun h => gG.2.2.2.2.2.2.2.2.1 h, fun _ => rfl, fun h e => (gG.2.2.2.2.2.2.2.2.2.2.1 h hl), fun h => gG.2.2.2.2.2.2.2.2.2.2.2.1 h, fun h => gG.2.2.2.2.2.2.2.2.2.2.2.2.1 h, fun h e => (gG.2.2.2.2.2.2.2.2.2.2.2.2.2.1 h hl), fun h => gG.2.2.2.2.2.2.2.2.2.2.2.2.2.2.1 h, fun h => gG.2.2.2.2.2.2.2.2.2.2.2.2.2.2.2.1 h, fun h e => (gG.2.2.2.2.2.2.2.2.2.2.2.2.2.2.2.2.1 h hl), fun h => absurd (show f 17 = true from h) (by rw [hl]; decide), fun h => absurd (hcl 18 (by decide) (show f 18 = true from h) 17 (by decide)) (by rw [hl]; decide), fun h => gG.2.2.2.2.2.2.2.2.2.2.2.2.2.2.2.2.2.2.2 h⟩
        refine below_succ ?_ ?_
        · intro f az u hf hd hcl hI
          obtain ⟨x3, x39, x40, x41, x42, x43, x44, x45, x46, x47, x48, x49, x50, x51, x52, x53, x54, x55, x56, rfl, gD, gG⟩ := hI
          subst hmk
          have hl : f 17 = false := by
            cases h15 : f 17 with
            | false => rfl
            | true => exact absurd (hcl 15 (by decide) (hcl 16 (by decide) (hcl 17 (by decide) h15 16 (by decide)) 15 (by decide)) 8 (by decide)) (by rw [hf]; decide)
          obtain ⟨gD, gS⟩ := gD hl
          have e6 := gG.2.2.2.2.2.2.1 (hd 6 (by decide))
          subst e6
          have e7 := gG.2.2.2.2.2.2.2.1 (hd 7 (by decide)) hl
          obtain ⟨v46, v46x, rfl, v46p, v46s, v46l, v46b, v46c⟩ := e7
          refine wpOp_step rfl (fun K hK => ?_)
          go_simp
          go_at_call 76
          refine (pick_fl (w0 := w4) v46x 4 v46l.symm (by omega) (by omega) gD v46p v46s v46c).mono ?_
          rintro e wn ⟨v, rfl, hv, hd2, hon⟩
          have hst := Stay.only hon
          try go_simp
          refine hK _ _ ?_
          refine ⟨_, _, _, _, _, _, _, _, _, _, _, _, _, _, _, _, _, _, _, rfl, fun _ => ⟨hd2, (gS.trans hst)⟩, fun h => gG.1 h, fun h e => (gG.2.1 h hl).stay hst, fun h => gG.2.2.1 h, fun h => gG.2.2.2.1 h, fun h e => (gG.2.2.2.2.1 h hl).stay hst, fun h => gG.2.2.2.2.2.1 h, fun h => gG.2.2.2.2.2.2.1 h, fun h e => (gG.2.2.2.2.2.2.2.1 h hl).stay hst, fun _ => ⟨v, rfl, v46b v hv⟩, fun h => gG.2.2.2.2.2.2.2.2.2.1 h, fun h e => (gG.2.2.2.2.2.2.2.2.2.2.1 h hl).stay hst, fun h => gG.2.2.2.2.2.2.2.2.2.2.2.1 h, fun h => gG.2.2.2.2.2.2.2.2.2.2.2.2.1 h, fun h e => (gG.2.2.2.2.2.2.2.2.2.2.2.2.2.1 h hl).stay hst, fun h => gG.2.2.2.2.2.2.2.2.2.2.2.2.2.2.1 h, fun h => gG.2.2.2.2.2.2.2.2.2.2.2.2.2.2.2.1 h, fun h e => (gG.2.2.2.2.2.2.2.2.2.2.2.2.2.2.2.2.1 h hl).stay hst, fun h => absurd (show f 17 = true from h) (by rw [hl]; decide), fun h => absurd (hcl 18 (by decide) (show f 18 = true from h) 17 (by decide)) (by rw [hl]; decide), fun h => gG.2.2.2.2.2.2.2.2.2.2.2.2.2.2.2.2.2.2.2 h⟩
        refine below_succ ?_ ?_
        · intro f az u hf hd hcl hI
          obtain ⟨x3, x39, x40, x41, x42, x43, x44, x45, x46, x47, x48, x49, x50, x51, x52, x53, x54, x55, x56, rfl, gD, gG⟩ := hI
          subst hmk
          have hl : f 17 = false := by
            cases h15 : f 17 with
            | false => rfl
            | true => exact absurd (hcl 8 (by decide) (hcl 15 (by decide) (hcl 16 (by decide) (hcl 17 (by decide) h15 16 (by decide)) 15 (by decide)) 8 (by decide)) 7 (by decide)) (by rw [hf]; decide)
          obtain ⟨gD, gS⟩ := gD hl
          refine wpOp_step rfl (fun K hK => ?_)
          go_simp
          refine hK _ _ ?_
          refine ⟨_, _, _, _, _, _, _, _, _, _, _, _, _, _, _, _, _, _, _, rfl, fun _ => ⟨gD.alloc _, (gS.trans (Stay.alloc p u _ _))⟩, fun h => gG.1 h, fun h e => (gG.2.1 h hl).stay (Stay.alloc p u _ _), fun h => gG.2.2.1 h, fun h => gG.2.2.2.1 h, fun h e => (gG.2.2.2.2.1 h hl).stay (Stay.alloc p u _ _), fun h => gG.2.2.2.2.2.1 h, fun h => gG.2.2.2.2.2.2.1 h, fun _ _ => PK.new [0, 1, 10000, 10001] _ _ rfl gD (by intro y hy; simp at hy; omega), fun h => gG.2.2.2.2.2.2.2.2.1 h, fun h => gG.2.2.2.2.2.2.2.2.2.1 h, fun h e => (gG.2.2.2.2.2.2.2.2.2.2.1 h hl).stay (Stay.alloc p u _ _), fun h => gG.2.2.2.2.2.2.2.2.2.2.2.1 h, fun h => gG.2.2.2.2.2.2.2.2.2.2.2.2.1 h, fun h e => (gG.2.2.2.2.2.2.2.2.2.2.2.2.2.1 h hl).stay (Stay.alloc p u _ _), fun h => gG.2.2.2.2.2.2.2.2.2.2.2.2.2.2.1 h, fun h => gG.2.2.2.2.2.2.2.2.2.2.2.2.2.2.2.1 h, fun h e => (gG.2.2.2.2.2.2.2.2.2.2.2.2.2.2.2.2.1 h hl).stay (Stay.alloc p u _ _), fun h => absurd (show f 17 = true from h) (by rw [hl]; decide), fun h => absurd (hcl 18 (by decide) (show f 18 = true from h) 17 (by decide)) (by rw [hl]; decide), fun h => gG.2.2.2.2.2.2.2.2.2.2.2.2.2.2.2.2.2.2.2 h⟩
        refine below_succ ?_ ?_
        · intro f az u hf hd hcl hI
          obtain ⟨x3, x39, x40, x41, x42, x43, x44, x45, x46, x47, x48, x49, x50, x51, x52, x53, x54, x55, x56, rfl, gD, gG⟩ := hI
          subst hmk
          have hl : f 17 = false := by
            cases h15 : f 17 with
            | false => rfl
            | true => exact absurd (hcl 8 (by decide) (hcl 15 (by decide) (hcl 16 (by decide) (hcl 17 (by decide) h15 16 (by decide)) 15 (by decide)) 8 (by decide)) 6 (by decide)) (by rw [hf]; decide)
          obtain ⟨gD, gS⟩ := gD hl
          refine wpOp_step rfl (fun K hK => ?_)
          go_simp
          refine hK _ _ ?_
          refine ⟨_, _, _, _, _, _, _, _, _, _, _, _, _, _, _, _, _, _, _, rfl, fun _ => ⟨gD, gS⟩, fun h => gG.1 h, fun h e => (gG.2.1 h hl), fun h => gG.2.2.1 h, fun h => gG.2.2.2.1 h, fun h e => (gG.2.2.2.2.1 h hl), fun h => gG.2.2.2.2.2.1 h, fun _ => rfl, fun h e => (gG.2.2.2.2.2.2.2.1 h hl), fun h => gG.2.2.2.2.2.2.2.2.1 h, fun h => gG.2.2.2.2.2.2.2.2.2.1 h, fun h e => (gG.2.2.2.2.2.2.2.2.2.2.1 h hl), fun h => gG.2.2.2.2.2.2.2.2.2.2.2.1 h, fun h => gG.2.2.2.2.2.2.2.2.2.2.2.2.1 h, fun h e => (gG.2.2.2.2.2.2.2.2.2.2.2.2.2.1 h hl), fun h => gG.2.2.2.2.2.2.2.2.2.2.2.2.2.2.1 h, fun h => gG.2.2.2.2.2.2.2.2.2.2.2.2.2.2.2.1 h, fun h e => (gG.2.2.2.2.2.2.2.2.2.2.2.2.2.2.2.2.1 h hl), fun h => absurd (show f 17 = true from h) (by rw [hl]; decide), fun h => absurd (hcl 18 (by decide) (show f 18 = true from h) 17 (by decide)) (by rw [hl]; decide), fun h => gG.2.2.2.2.2.2.2.2.2.2.2.2.2.2.2.2.2.2.2 h⟩
        refine below_succ ?_ ?_
        · intro f az u hf hd hcl hI
          obtain ⟨x3, x39, x40, x41, x42, x43, x44, x45, x46, x47, x48, x49, x50, x51, x52, x53, x54, x55, x56, rfl, gD, gG⟩ := hI
          subst hmk
          have hl : f 17 = false := by
            cases h15 : f 17 with
            | false => rfl
            | true => exact absurd (hcl 15 (by decide) (hcl 16 (by decide) (hcl 17 (by decide) h15 16 (by decide)) 15 (by decide)) 5 (by decide)) (by rw [hf]; decide)
          obtain ⟨gD, gS⟩ := gD hl
          have e4 := gG.2.2.2.2.1 (hd 4 (by decide)) hl
          obtain ⟨v43, v43k, v43s, rfl, v43p, v43z, v430, v43c⟩ := e4
          refine wpOp_step rfl (fun K hK => ?_)
          go_simp
          refine hK _ _ ?_
          refine ⟨_, _, _, _, _, _, _, _, _, _, _, _, _, _, _, _, _, _, _, rfl, fun _ => ⟨gD, gS⟩, fun h => gG.1 h, fun h e => (gG.2.1 h hl), fun h => gG.2.2.1 h, fun h => gG.2.2.2.1 h, fun h e => (gG.2.2.2.2.1 h hl), fun _ => ⟨v43s, v430, rfl⟩, fun h => gG.2.2.2.2.2.2.1 h, fun h e => (gG.2.2.2.2.2.2.2.1 h hl), fun h => gG.2.2.2.2.2.2.2.2.1 h, fun h => gG.2.2.2.2.2.2.2.2.2.1 h, fun h e => (gG.2.2.2.2.2.2.2.2.2.2.1 h hl), fun h => gG.2.2.2.2.2.2.2.2.2.2.2.1 h, fun h => gG.2.2.2.2.2.2.2.2.2.2.2.2.1 h, fun h e => (gG.2.2.2.2.2.2.2.2.2.2.2.2.2.1 h hl), fun h => gG.2.2.2.2.2.2.2.2.2.2.2.2.2.2.1 h, fun h => gG.2.2.2.2.2.2.2.2.2.2.2.2.2.2.2.1 h, fun h e => (gG.2.2.2.2.2.2.2.2.2.2.2.2.2.2.2.2.1 h hl), fun h => absurd (show f 17 = true from h) (by rw [hl]; decide), fun h => absurd (hcl 18 (by decide) (show f 18 = true from h) 17 (by decide)) (by rw [hl]; decide), fun h => gG.2.2.2.2.2.2.2.2.2.2.2.2.2.2.2.2.2.2.2 h⟩
        refine below_succ ?_ ?_
        · intro f az u hf hd hcl hI
          obtain ⟨x3, x39, x40, x41, x42, x43, x44, x45, x46, x47, x48, x49, x50, x51, x52, x53, x54, x55, x56, rfl, gD, gG⟩ := hI
          subst hmk
          have hl : f 17 = false := by
            cases h15 : f 17 with
            | false => rfl
            | true => exact absurd (hcl 5 (by decide) (hcl 15 (by decide) (hcl 16 (by decide) (hcl 17 (by decide) h15 16 (by decide)) 15 (by decide)) 5 (by decide)) 4 (by decide)) (by rw [hf]; decide)
          obtain ⟨gD, gS⟩ := gD hl
          have e1 := gG.2.1 (hd 1 (by decide)) hl
          obtain ⟨v40, rfl, v40p, v40s, v40c⟩ := e1
          have e3 := gG.2.2.2.1 (hd 3 (by decide))
          obtain ⟨v42, rfl, v420, v421⟩ := e3
          obtain ⟨k, rfl⟩ := Int.eq_ofNat_of_zero_le v420
          have hk : k < 3 := by omega
          have hki : (k : Int) < 3 := by omega
          obtain ⟨s, hs, hc⟩ := v40c k hk
          refine wpOp_step rfl (fun K hK => ?_)
          go_simp
          refine hK _ _ ?_
          refine ⟨_, _, _, _, _, _, _, _, _, _, _, _, _, _, _, _, _, _, _, rfl, fun _ => ⟨gD, gS⟩, fun h => gG.1 h, fun h e => (gG.2.1 h hl), fun h => gG.2.2.1 h, fun h => gG.2.2.2.1 h, fun _ _ => ⟨v40, k, s, by simp, v40p, v40s, hs, hc⟩, fun h => gG.2.2.2.2.2.1 h, fun h => gG.2.2.2.2.2.2.1 h, fun h e => (gG.2.2.2.2.2.2.2.1 h hl), fun h => gG.2.2.2.2.2.2.2.2.1 h, fun h => gG.2.2.2.2.2.2.2.2.2.1 h, fun h e => (gG.2.2.2.2.2.2.2.2.2.2.1 h hl), fun h => gG.2.2.2.2.2.2.2.2.2.2.2.1 h, fun h => gG.2.2.2.2.2.2.2.2.2.2.2.2.1 h, fun h e => (gG.2.2.2.2.2.2.2.2.2.2.2.2.2.1 h hl), fun h => gG.2.2.2.2.2.2.2.2.2.2.2.2.2.2.1 h, fun h => gG.2.2.2.2.2.2.2.2.2.2.2.2.2.2.2.1 h, fun h e => (gG.2.2.2.2.2.2.2.2.2.2.2.2.2.2.2.2.1 h hl), fun h => absurd (show f 17 = true from h) (by rw [hl]; decide), fun h => absurd (hcl 18 (by decide) (show f 18 = true from h) 17 (by decide)) (by rw [hl]; decide), fun h => gG.2.2.2.2.2.2.2.2.2.2.2.2.2.2.2.2.2.2.2 h⟩
        refine below_succ ?_ ?_
        · intro f az u hf hd hcl hI
          obtain ⟨x3, x39, x40, x41, x42, x43, x44, x45, x46, x47, x48, x49, x50, x51, x52, x53, x54, x55, x56, rfl, gD, gG⟩ := hI
          subst hmk
          have hl : f 17 = false := by
            cases h15 : f 17 with
            | false => rfl
            | true => exact absurd (hcl 8 (by decide) (hcl 15 (by decide) (hcl 16 (by decide) (hcl 17 (by decide) h15 16 (by decide)) 15 (by decide)) 8 (by decide)) 3 (by decide)) (by rw [hf]; decide)
          obtain ⟨gD, gS⟩ := gD hl
          have e2 := gG.2.2.1 (hd 2 (by decide))
          subst e2
          refine wpOp_step rfl (fun K hK => ?_)
          go_simp
          go_at_call 77
          refine (next_fl 3 (w0 := w4) gD (by omega)).mono ?_
          rintro e wn ⟨v, rfl, r0, r1, hd2, hon⟩
          have hst := Stay.only hon
          try go_simp
          refine hK _ _ ?_
          refine ⟨_, _, _, _, _, _, _, _, _, _, _, _, _, _, _, _, _, _, _, rfl, fun _ => ⟨hd2, (gS.trans hst)⟩, fun h => gG.1 h, fun h e => (gG.2.1 h hl).stay hst, fun h => gG.2.2.1 h, fun _ => ⟨v, rfl, by omega, by omega⟩, fun h e => (gG.2.2.2.2.1 h hl).stay hst, fun h => gG.2.2.2.2.2.1 h, fun h => gG.2.2.2.2.2.2.1 h, fun h e => (gG.2.2.2.2.2.2.2.1 h hl).stay hst, fun h => gG.2.2.2.2.2.2.2.2.1 h, fun h => gG.2.2.2.2.2.2.2.2.2.1 h, fun h e => (gG.2.2.2.2.2.2.2.2.2.2.1 h hl).stay hst, fun h => gG.2.2.2.2.2.2.2.2.2.2.2.1 h, fun h => gG.2.2.2.2.2.2.2.2.2.2.2.2.1 h, fun h e => (gG.2.2.2.2.2.2.2.2.2.2.2.2.2.1 h hl).stay hst, fun h => gG.2.2.2.2.2.2.2.2.2.2.2.2.2.2.1 h, fun h => gG.2.2.2.2.2.2.2.2.2.2.2.2.2.2.2.1 h, fun h e => (gG.2.2.2.2.2.2.2.2.2.2.2.2.2.2.2.2.1 h hl).stay hst, fun h => absurd (show f 17 = true from h) (by rw [hl]; decide), fun h => absurd (hcl 18 (by decide) (show f 18 = true from h) 17 (by decide)) (by rw [hl]; decide), fun h => gG.2.2.2.2.2.2.2.2.2.2.2.2.2.2.2.2.2.2.2 h⟩
        refine below_succ ?_ ?_
        · intro f az u hf hd hcl hI
          obtain ⟨x3, x39, x40, x41, x42, x43, x44, x45, x46, x47, x48, x49, x50, x51, x52, x53, x54, x55, x56, rfl, gD, gG⟩ := hI
          subst hmk
          have hl : f 17 = false := by
            cases h15 : f 17 with
            | false => rfl
            | true => exact absurd (hcl 3 (by decide) (hcl 8 (by decide) (hcl 15 (by decide) (hcl 16 (by decide) (hcl 17 (by decide) h15 16 (by decide)) 15 (by decide)) 8 (by decide)) 3 (by decide)) 2 (by decide)) (by rw [hf]; decide)
          obtain ⟨gD, gS⟩ := gD hl
          refine wpOp_step rfl (fun K hK => ?_)
          go_simp
          refine hK _ _ ?_
          refine ⟨_, _, _, _, _, _, _, _, _, _, _, _, _, _, _, _, _, _, _, rfl, fun _ => ⟨gD, gS⟩, fun h => gG.1 h, fun h e => (gG.2.1 h hl), fun _ => rfl, fun h => gG.2.2.2.1 h, fun h e => (gG.2.2.2.2.1 h hl), fun h => gG.2.2.2.2.2.1 h, fun h => gG.2.2.2.2.2.2.1 h, fun h e => (gG.2.2.2.2.2.2.2.1 h hl), fun h => gG.2.2.2.2.2.2.2.2.1 h, fun h => gG.2.2.2.2.2.2.2.2.2.1 h, fun h e => (gG.2.2.2.2.2.2.2.2.2.2.1 h hl), fun h => gG.2.2.2.2.2.2.2.2.2.2.2.1 h, fun h => gG.2.2.2.2.2.2.2.2.2.2.2.2.1 h, fun h e => (gG.2.2.2.2.2.2.2.2.2.2.2.2.2.1 h hl), fun h => gG.2.2.2.2.2.2.2.2.2.2.2.2.2.2.1 h, fun h => gG.2.2.2.2.2.2.2.2.2.2.2.2.2.2.2.1 h, fun h e => (gG.2.2.2.2.2.2.2.2.2.2.2.2.2.2.2.2.1 h hl), fun h => absurd (show f 17 = true from h) (by rw [hl]; decide), fun h => absurd (hcl 18 (by decide) (show f 18 = true from h) 17 (by decide)) (by rw [hl]; decide), fun h => gG.2.2.2.2.2.2.2.2.2.2.2.2.2.2.2.2.2.2.2 h⟩
        refine below_succ ?_ ?_
        · intro f az u hf hd hcl hI
          obtain ⟨x3, x39, x40, x41, x42, x43, x44, x45, x46, x47, x48, x49, x50, x51, x52, x53, x54, x55, x56, rfl, gD, gG⟩ := hI
          subst hmk
          have hl : f 17 = false := by
            cases h15 : f 17 with
            | false => rfl
            | true => exact absurd (hcl 4 (by decide) (hcl 5 (by decide) (hcl 15 (by decide) (hcl 16 (by decide) (hcl 17 (by decide) h15 16 (by decide)) 15 (by decide)) 5 (by decide)) 4 (by decide)) 1 (by decide)) (by rw [hf]; decide)
          obtain ⟨gD, gS⟩ := gD hl
          refine wpOp_step rfl (fun K hK => ?_)
          go_simp
          refine hK _ _ ?_
          refine ⟨_, _, _, _, _, _, _, _, _, _, _, _, _, _, _, _, _, _, _, rfl, fun _ => ⟨gD.alloc _, (gS.trans (Stay.alloc p u _ _))⟩, fun h => gG.1 h, fun _ _ => PS.new gD litB1_at, fun h => gG.2.2.1 h, fun h => gG.2.2.2.1 h, fun h e => (gG.2.2.2.2.1 h hl).stay (Stay.alloc p u _ _), fun h => gG.2.2.2.2.2.1 h, fun h => gG.2.2.2.2.2.2.1 h, fun h e => (gG.2.2.2.2.2.2.2.1 h hl).stay (Stay.alloc p u _ _), fun h => gG.2.2.2.2.2.2.2.2.1 h, fun h => gG.2.2.2.2.2.2.2.2.2.1 h, fun h e => (gG.2.2.2.2.2.2.2.2.2.2.1 h hl).stay (Stay.alloc p u _ _), fun h => gG.2.2.2.2.2.2.2.2.2.2.2.1 h, fun h => gG.2.2.2.2.2.2.2.2.2.2.2.2.1 h, fun h e => (gG.2.2.2.2.2.2.2.2.2.2.2.2.2.1 h hl).stay (Stay.alloc p u _ _), fun h => gG.2.2.2.2.2.2.2.2.2.2.2.2.2.2.1 h, fun h => gG.2.2.2.2.2.2.2.2.2.2.2.2.2.2.2.1 h, fun h e => (gG.2.2.2.2.2.2.2.2.2.2.2.2.2.2.2.2.1 h hl).stay (Stay.alloc p u _ _), fun h => absurd (show f 17 = true from h) (by rw [hl]; decide), fun h => absurd (hcl 18 (by decide) (show f 18 = true from h) 17 (by decide)) (by rw [hl]; decide), fun h => gG.2.2.2.2.2.2.2.2.2.2.2.2.2.2.2.2.2.2.2 h⟩
        refine below_succ ?_ ?_
        · intro f az u hf hd hcl hI
          obtain ⟨x3, x39, x40, x41, x42, x43, x44, x45, x46, x47, x48, x49, x50, x51, x52, x53, x54, x55, x56, rfl, gD, gG⟩ := hI
          subst hmk
          have hl : f 17 = false := by
            cases h15 : f 17 with
            | false => rfl
            | true => exact absurd (hcl 17 (by decide) h15 0 (by decide)) (by rw [hf]; decide)
          obtain ⟨gD, gS⟩ := gD hl
          have ov := gG.2.2.2.2.2.2.2.2.2.2.2.2.2.2.2.2.2.2.2 (by
            cases h15 : f 18 with
            | false => rfl
            | true => exact absurd (hcl 18 (by decide) h15 0 (by decide)) (by rw [hf]; decide))
          subst ov
          refine wpOp_step rfl (fun K hK => ?_)
          go_simp
          refine hK _ _ ?_
          refine ⟨_, _, _, _, _, _, _, _, _, _, _, _, _, _, _, _, _, _, _, rfl, fun _ => ⟨gD, gS⟩, fun _ => rfl, fun h e => (gG.2.1 h hl), fun h => gG.2.2.1 h, fun h => gG.2.2.2.1 h, fun h e => (gG.2.2.2.2.1 h hl), fun h => gG.2.2.2.2.2.1 h, fun h => gG.2.2.2.2.2.2.1 h, fun h e => (gG.2.2.2.2.2.2.2.1 h hl), fun h => gG.2.2.2.2.2.2.2.2.1 h, fun h => gG.2.2.2.2.2.2.2.2.2.1 h, fun h e => (gG.2.2.2.2.2.2.2.2.2.2.1 h hl), fun h => gG.2.2.2.2.2.2.2.2.2.2.2.1 h, fun h => gG.2.2.2.2.2.2.2.2.2.2.2.2.1 h, fun h e => (gG.2.2.2.2.2.2.2.2.2.2.2.2.2.1 h hl), fun h => gG.2.2.2.2.2.2.2.2.2.2.2.2.2.2.1 h, fun h => gG.2.2.2.2.2.2.2.2.2.2.2.2.2.2.2.1 h, fun h e => (gG.2.2.2.2.2.2.2.2.2.2.2.2.2.2.2.2.1 h hl), fun h => absurd (show f 17 = true from h) (by rw [hl]; decide), fun h => absurd (hcl 18 (by decide) (show f 18 = true from h) 17 (by decide)) (by rw [hl]; decide), fun h => gG.2.2.2.2.2.2.2.2.2.2.2.2.2.2.2.2.2.2.2 h⟩
        exact below_zero
      · intro f az u hf hI
        obtain ⟨x3, x39, x40, x41, x42, x43, x44, x45, x46, x47, x48, x49, x50, x51, x52, x53, x54, x55, x56, rfl, gD, g0, g1, g2, g3, g4, g5, g6, g7, g8, g9, g10, g11, g12, g13, g14, g15, g16, g17, g18, o18⟩ := hI
        subst hmk
        obtain ⟨c, hc, hO6, hD6⟩ := g18 (hf 18 (by decide))
        have O6 := Lib.hid hO6
        have D6 := Lib.hid hD6
        have K6 := Lib.hid (ok_appT HK.out hc)
        clear hf gD hO6 hD6 O4 D4 HK DA g0 g1 g2 g3 g4 g5 g6 g7 g8 g9 g10 g11 g12 g13 g14 g15 g16 g17 g18 o18
        go_wp2
        go_ret
        exact ⟨_, _, rfl, O6.out, by rw [List.length_append, List.length_singleton]; omega, K6.out, D6.out⟩
    have hkI : (j : Int) < 4 := by omega
    go_wp2_with fail
    refine (next_dr 4 HD.out (by omega)).mono ?_
    rintro e w2 ⟨b, rfl, b0, b1, hd, hg⟩
    have D2 := Lib.hid hd
    have O2 := Lib.hid (HO.out.dr hg hpw)
    have P2 := Lib.hid (HP.out.stay (Stay.grown hg hg.size))
    clear hd hg HD HO HP
    by_cases hb : 0 < b
    rotate_left
    · obtain rfl : b = 0 := by omega
      go_wp2
      go_roundg (4 - (j + 1))
      case measure => omega
      case rel => exact ⟨xs, j + 1, by go_num, rfl, by omega, by omega, O2, D2, HK, P2, HN⟩
    have hxl : xs.length ≤ 1000000 := by omega
    have DA : Hid (Dr w2 p w2) := Lib.hid (Dr.refl D2.out.1)
    have hsz : w.heap.size ≤ w2.heap.size := D2.out.size
    go_wp2
    obtain ⟨mk, hmk⟩ : ∃ mk : Value → Value → Value → Value → Value → Value → Value → Value → Value → Value → Value → Value → Value → Value → Value → Value → Value → Value → Act, mk = (fun x3 x18 x19 x20 x21 x22 x23 x24 x25 x26 x27 x28 x29 x30 x31 x32 x33 x34 => (⟨#[Value.pointer (some ⟨p, 0, none⟩), undef, Value.slice none 0 0, x3, Value.slice (some ⟨N, 0, none⟩) 4 4, Value.int .i64 ((j : Nat) : Int), undef, Value.slice (some ⟨w.heap.size, 0, none⟩) 0 0, Value.slice (some ⟨N, 0, none⟩) 4 4, Value.int .i64 ((j : Nat) : Int), Value.slice (some ⟨N, 0, none⟩) 4 4, Value.int .i64 4, Value.bool true, u13, u14, Value.pointer (some ⟨p, 0, none⟩), Value.int .i64 b, Value.bool true, x18, x19, x20, x21, x22, x23, x24, x25, x26, x27, x28, x29, x30, x31, x32, x33, x34, undef, undef, undef, undef, undef, undef, undef, undef, undef, undef, undef, undef, undef, undef, undef, undef, undef, undef, undef, undef, undef, undef, undef, undef, undef, undef, undef, undef, undef, undef, undef, undef, undef, undef, undef, undef, undef, undef, undef, undef, undef, undef], []⟩ : Act)) := ⟨_, rfl⟩
    refine wp_region_inv (by kernel_rfl) ([[], [], [], [1, 2], [3], [], [5], [6], [], [8, 6], [9], [], [11, 9], [12], [4, 7, 10, 13], [14], [0, 15, 12], [16, 16, 0, 1, 2, 3, 4, 5, 6, 7, 8, 9, 10, 11, 12, 13, 14, 15, 16]] : List (List Nat)) (by kernel_rfl) (by kernel_rfl) (fun f az u => ∃ x3 x18 x19 x20 x21 x22 x23 x24 x25 x26 x27 x28 x29 x30 x31 x32 x33 x34 : Value, az = mk x3 x18 x19 x20 x21 x22 x23 x24 x25 x26 x27 x28 x29 x30 x31 x32 x33 x34 ∧ (f 16 = false → Dr w2 p u ∧ Stay p w2 u) ∧ (f 0 = true → x18 = u3) ∧ (f 1 = true → f 16 = false → PS p u x19 4) ∧ (f 2 = true → ∃ h : Int, x20 = .int .i64 h ∧ (0 : Int) ≤ h ∧ h ≤ 3) ∧ (f 3 = true → f 16 = false → PI p u x21) ∧ (f 4 = true → ∃ s : ByteArray, s.size ≤ 20 ∧ x22 = .string s) ∧ (f 5 = true → x23 = .pointer (some ⟨p, 0, none⟩)) ∧ (f 6 = true → ∃ h : Int, x24 = .int .i64 h ∧ (0 : Int) ≤ h ∧ h ≤ 399) ∧ (f 7 = true → ∃ h : Int, x25 = .int .i64 h ∧ (100 : Int) ≤ h ∧ h ≤ 499) ∧ (f 8 = true → x26 = .pointer (some ⟨p, 0, none⟩)) ∧ (f 9 = true → ∃ h : Int, x27 = .int .i64 h ∧ (0 : Int) ≤ h ∧ h ≤ 8999) ∧ (f 10 = true → ∃ h : Int, x28 = .int .i64 h ∧ (1000 : Int) ≤ h ∧ h ≤ 9999) ∧ (f 11 = true → x29 = .pointer (some ⟨p, 0, none⟩)) ∧ (f 12 = true → ∃ h : Int, x30 = .int .i64 h ∧ (0 : Int) ≤ h ∧ h ≤ 2) ∧ (f 13 = true → ∃ h : Int, x31 = .int .i64 h ∧ (1 : Int) ≤ h ∧ h ≤ 3) ∧ (f 14 = true → ∃ c : Term, okTerm c ∧ x32 = .agg #[.string c.part, .int .i64 c.days, .int .i64 c.tens, .int .i64 c.claims]) ∧ (f 15 = true → f 16 = false → PO eTerm okTerm p u x33) ∧ (f 16 = true → PA eTerm okTerm w p w.heap.size 72 xs u x34 ∧ PS p u (.slice (some ⟨N, 0, none⟩) 4 4) 4 ∧ (x34).ownBlock ≠ some N) ∧ (f 17 = true → PA eTerm okTerm w p w.heap.size 72 xs u x3 ∧ PS p u (.slice (some ⟨N, 0, none⟩) 4 4) 4 ∧ (x3).ownBlock ≠ some N) ∧ (f 17 = false → x3 = u3)) ?_ ?_ ?_
    · subst hmk
      exact ⟨_, _, _, _, _, _, _, _, _, _, _, _, _, _, _, _, _, _, rfl, fun _ => ⟨DA.out.drew, (Stay.refl _ _).drew⟩, fun h => (by cases h), fun h => (by cases h), fun h => (by cases h), fun h => (by cases h), fun h => (by cases h), fun h => (by cases h), fun h => (by cases h), fun h => (by cases h), fun h => (by cases h), fun h => (by cases h), fun h => (by cases h), fun h => (by cases h), fun h => (by cases h), fun h => (by cases h), fun h => (by cases h), fun h => (by cases h), fun h => (by cases h), fun h => (by cases h), fun _ => rfl⟩
    · show ∀ i, i < 18 → _
      refine below_succ ?_ ?_
      · intro f az u hf hd hcl hI
        obtain ⟨x3, x18, x19, x20, x21, x22, x23, x24, x25, x26, x27, x28, x29, x30, x31, x32, x33, x34, rfl, gD, gG⟩ := hI
        subst hmk
        have hl : f 16 = true := hd 16 (by decide)
        refine wpOp_step rfl (fun K hK => ?_)
        go_simp
        refine hK _ _ ?_
        refine ⟨_, _, _, _, _, _, _, _, _, _, _, _, _, _, _, _, _, _, rfl, fun h => absurd h (by simp [hl]), fun h => gG.1 h, fun h e => absurd e (by simp [hl]), fun h => gG.2.2.1 h, fun h e => absurd e (by simp [hl]), fun h => gG.2.2.2.2.1 h, fun h => gG.2.2.2.2.2.1 h, fun h => gG.2.2.2.2.2.2.1 h, fun h => gG.2.2.2.2.2.2.2.1 h, fun h => gG.2.2.2.2.2.2.2.2.1 h, fun h => gG.2.2.2.2.2.2.2.2.2.1 h, fun h => gG.2.2.2.2.2.2.2.2.2.2.1 h, fun h => gG.2.2.2.2.2.2.2.2.2.2.2.1 h, fun h => gG.2.2.2.2.2.2.2.2.2.2.2.2.1 h, fun h => gG.2.2.2.2.2.2.2.2.2.2.2.2.2.1 h, fun h => gG.2.2.2.2.2.2.2.2.2.2.2.2.2.2.1 h, fun h e => absurd e (by simp [hl]), fun h => gG.2.2.2.2.2.2.2.2.2.2.2.2.2.2.2.2.1 h, fun _ => gG.2.2.2.2.2.2.2.2.2.2.2.2.2.2.2.2.1 (hd 16 (by decide)), fun h => absurd h (by simp)⟩
      refine below_succ ?_ ?_
      · intro f az u hf hd hcl hI
        obtain ⟨x3, x18, x19, x20, x21, x22, x23, x24, x25, x26, x27, x28, x29, x30, x31, x32, x33, x34, rfl, gD, gG⟩ := hI
        subst hmk
        obtain ⟨gD, gS⟩ := gD hf
        have e0 := gG.1 (hd 0 (by decide))
        subst e0
        have e15 := gG.2.2.2.2.2.2.2.2.2.2.2.2.2.2.2.1 (hd 15 (by decide)) hf
        obtain ⟨v33, v33v, rfl, v33p, v33o, v33s⟩ := e15
        refine wpOp_step rfl (fun K hK => ?_)
        refine wp_app_all eTerm _ _ 35 (by rfl) 72 (.agg #[.string ⟨#[]⟩, .int .i64 0, .int .i64 0, .int .i64 0]) 40 Try.underlying35 info_Term rfl (by decide) (by decide) w.heap.size _ xs (by rfl) (by exact (O2.out).dr gD.2.1 hpw) _ [v33v] (by rfl) (by exact v33s) (by simp only [List.length_cons, List.length_nil]; omega) (by have := gD.size; omega) ?_
        intro v6 w6 hO6 hB6 hG6 hor6
        refine hK _ _ ?_
        refine ⟨_, _, _, _, _, _, _, _, _, _, _, _, _, _, _, _, _, _, rfl, fun h => absurd h (by simp), fun h => gG.1 h, fun h e => absurd e (by simp), fun h => gG.2.2.1 h, fun h e => absurd e (by simp), fun h => gG.2.2.2.2.1 h, fun h => gG.2.2.2.2.2.1 h, fun h => gG.2.2.2.2.2.2.1 h, fun h => gG.2.2.2.2.2.2.2.1 h, fun h => gG.2.2.2.2.2.2.2.2.1 h, fun h => gG.2.2.2.2.2.2.2.2.2.1 h, fun h => gG.2.2.2.2.2.2.2.2.2.2.1 h, fun h => gG.2.2.2.2.2.2.2.2.2.2.2.1 h, fun h => gG.2.2.2.2.2.2.2.2.2.2.2.2.1 h, fun h => gG.2.2.2.2.2.2.2.2.2.2.2.2.2.1 h, fun h => gG.2.2.2.2.2.2.2.2.2.2.2.2.2.2.1 h, fun h e => absurd e (by simp), fun _ => ⟨⟨v33v, v33o, hO6, (D2.out.trans gD).below hB6⟩, (P2.out.stay gS).far hG6 HN.out, own_new HN.out (P2.out.stay gS).lt hor6⟩, fun h => absurd (hcl 17 (by decide) (show f 17 = true from h) 16 (by decide)) (by rw [hf]; decide), fun h => gG.2.2.2.2.2.2.2.2.2.2.2.2.2.2.2.2.2.2 h⟩
      refine below_succ ?_ ?_
      · intro f az u hf hd hcl hI
        obtain ⟨x3, x18, x19, x20, x21, x22, x23, x24, x25, x26, x27, x28, x29, x30, x31, x32, x33, x34, rfl, gD, gG⟩ := hI
        subst hmk
        have hl : f 16 = false := by
          cases h15 : f 16 with
          | false => rfl
          | true => exact absurd (hcl 16 (by decide) h15 15 (by decide)) (by rw [hf]; decide)
        obtain ⟨gD, gS⟩ := gD hl
        have e14 := gG.2.2.2.2.2.2.2.2.2.2.2.2.2.2.1 (hd 14 (by decide))
        obtain ⟨v32, v320, rfl⟩ := e14
        refine wpOp_step rfl (fun K hK => ?_)
        go_simp
        refine hK _ _ ?_
        refine ⟨_, _, _, _, _, _, _, _, _, _, _, _, _, _, _, _, _, _, rfl, fun _ => ⟨gD.alloc _, (gS.trans (Stay.alloc p u _ _))⟩, fun h => gG.1 h, fun h e => (gG.2.1 h hl).stay (Stay.alloc p u _ _), fun h => gG.2.2.1 h, fun h e => (gG.2.2.2.1 h hl).stay (Stay.alloc p u _ _), fun h => gG.2.2.2.2.1 h, fun h => gG.2.2.2.2.2.1 h, fun h => gG.2.2.2.2.2.2.1 h, fun h => gG.2.2.2.2.2.2.2.1 h, fun h => gG.2.2.2.2.2.2.2.2.1 h, fun h => gG.2.2.2.2.2.2.2.2.2.1 h, fun h => gG.2.2.2.2.2.2.2.2.2.2.1 h, fun h => gG.2.2.2.2.2.2.2.2.2.2.2.1 h, fun h => gG.2.2.2.2.2.2.2.2.2.2.2.2.1 h, fun h => gG.2.2.2.2.2.2.2.2.2.2.2.2.2.1 h, fun h => gG.2.2.2.2.2.2.2.2.2.2.2.2.2.2.1 h, fun _ _ => PO.new _ _ v32 rfl gD v320, fun h => absurd (show f 16 = true from h) (by rw [hl]; decide), fun h => absurd (hcl 17 (by decide) (show f 17 = true from h) 16 (by decide)) (by rw [hl]; decide), fun h => gG.2.2.2.2.2.2.2.2.2.2.2.2.2.2.2.2.2.2 h⟩
      refine below_succ ?_ ?_
      · intro f az u hf hd hcl hI
        obtain ⟨x3, x18, x19, x20, x21, x22, x23, x24, x25, x26, x27, x28, x29, x30, x31, x32, x33, x34, rfl, gD, gG⟩ := hI
        subst hmk
        have hl : f 16 = false := by
          cases h15 : f 16 with
          | false => rfl
          | true => exact absurd (hcl 15 (by decide) (hcl 16 (by decide) h15 15 (by decide)) 14 (by decide)) (by rw [hf]; decide)
        obtain ⟨gD, gS⟩ := gD hl
        have e4 := gG.2.2.2.2.1 (hd 4 (by decide))
        obtain ⟨v22, v220, rfl⟩ := e4
        have e7 := gG.2.2.2.2.2.2.2.1 (hd 7 (by decide))
        obtain ⟨v25, rfl, v250, v251⟩ := e7
        have e10 := gG.2.2.2.2.2.2.2.2.2.2.1 (hd 10 (by decide))
        obtain ⟨v28, rfl, v280, v281⟩ := e10
        have e13 := gG.2.2.2.2.2.2.2.2.2.2.2.2.2.1 (hd 13 (by decide))
        obtain ⟨v31, rfl, v310, v311⟩ := e13
        refine wpOp_step rfl (fun K hK => ?_)
        go_simp
        refine hK _ _ ?_
        refine ⟨_, _, _, _, _, _, _, _, _, _, _, _, _, _, _, _, _, _, rfl, fun _ => ⟨gD, gS⟩, fun h => gG.1 h, fun h e => (gG.2.1 h hl), fun h => gG.2.2.1 h, fun h e => (gG.2.2.2.1 h hl), fun h => gG.2.2.2.2.1 h, fun h => gG.2.2.2.2.2.1 h, fun h => gG.2.2.2.2.2.2.1 h, fun h => gG.2.2.2.2.2.2.2.1 h, fun h => gG.2.2.2.2.2.2.2.2.1 h, fun h => gG.2.2.2.2.2.2.2.2.2.1 h, fun h => gG.2.2.2.2.2.2.2.2.2.2.1 h, fun h => gG.2.2.2.2.2.2.2.2.2.2.2.1 h, fun h => gG.2.2.2.2.2.2.2.2.2.2.2.2.1 h, fun h => gG.2.2.2.2.2.2.2.2.2.2.2.2.2.1 h, fun _ => ⟨⟨v22, v25, v28, v31⟩, (by show (ByteArray.size _) ≤ _; exact Nat.le_trans v220 (by decide)), rfl⟩, fun h e => (gG.2.2.2.2.2.2.2.2.2.2.2.2.2.2.2.1 h hl), fun h => absurd (show f 16 = true from h) (by rw [hl]; decide), fun h => absurd (hcl 17 (by decide) (show f 17 = true from h) 16 (by decide)) (by rw [hl]; decide), fun h => gG.2.2.2.2.2.2.2.2.2.2.2.2.2.2.2.2.2.2 h⟩
      refine below_succ ?_ ?_
      · intro f az u hf hd hcl hI
        obtain ⟨x3, x18, x19, x20, x21, x22, x23, x24, x25, x26, x27, x28, x29, x30, x31, x32, x33, x34, rfl, gD, gG⟩ := hI
        subst hmk
        have hl : f 16 = false := by
          cases h15 : f 16 with
          | false => rfl
          | true => exact absurd (hcl 14 (by decide) (hcl 15 (by decide) (hcl 16 (by decide) h15 15 (by decide)) 14 (by decide)) 13 (by decide)) (by rw [hf]; decide)
        obtain ⟨gD, gS⟩ := gD hl
        have e12 := gG.2.2.2.2.2.2.2.2.2.2.2.2.1 (hd 12 (by decide))
        obtain ⟨v30, rfl, v300, v301⟩ := e12
        have hw : IntKind.i64.wrap (1 + v30) = 1 + v30 := IntWalk.i64_in _ (by omega)
        refine wpOp_step rfl (fun K hK => ?_)
        go_simp
        refine hK _ _ ?_
        refine ⟨_, _, _, _, _, _, _, _, _, _, _, _, _, _, _, _, _, _, rfl, fun _ => ⟨gD, gS⟩, fun h => gG.1 h, fun h e => (gG.2.1 h hl), fun h => gG.2.2.1 h, fun h e => (gG.2.2.2.1 h hl), fun h => gG.2.2.2.2.1 h, fun h => gG.2.2.2.2.2.1 h, fun h => gG.2.2.2.2.2.2.1 h, fun h => gG.2.2.2.2.2.2.2.1 h, fun h => gG.2.2.2.2.2.2.2.2.1 h, fun h => gG.2.2.2.2.2.2.2.2.2.1 h, fun h => gG.2.2.2.2.2.2.2.2.2.2.1 h, fun h => gG.2.2.2.2.2.2.2.2.2.2.2.1 h, fun h => gG.2.2.2.2.2.2.2.2.2.2.2.2.1 h, fun _ => ⟨1 + v30, by first | rfl | (rw [hw]), by omega, by omega⟩, fun h => gG.2.2.2.2.2.2.2.2.2.2.2.2.2.2.1 h, fun h e => (gG.2.2.2.2.2.2.2.2.2.2.2.2.2.2.2.1 h hl), fun h => absurd (show f 16 = true from h) (by rw [hl]; decide), fun h => absurd (hcl 17 (by decide) (show f 17 = true from h) 16 (by decide)) (by rw [hl]; decide), fun h => gG.2.2.2.2.2.2.2.2.2.2.2.2.2.2.2.2.2.2 h⟩
      refine below_succ ?_ ?_
      · intro f az u hf hd hcl hI
        obtain ⟨x3, x18, x19, x20, x21, x22, x23, x24, x25, x26, x27, x28, x29, x30, x31, x32, x33, x34, rfl, gD, gG⟩ := hI
        subst hmk
        have hl : f 16 = false := by
          cases h15 : f 16 with
          | false => rfl
          | true => exact absurd (hcl 16 (by decide) h15 12 (by decide)) (by rw [hf]; decide)
        obtain ⟨gD, gS⟩ := gD hl
        have e11 := gG.2.2.2.2.2.2.2.2.2.2.2.1 (hd 11 (by decide))
        subst e11
        refine wpOp_step rfl (fun K hK => ?_)
        go_simp
        go_at_call 77
        refine (next_fl 3 (w0 := w2) gD (by omega)).mono ?_
        rintro e wn ⟨v, rfl, r0, r1, hd2, hon⟩
        have hst := Stay.only hon
        try go_simp
        refine hK _ _ ?_
        refine ⟨_, _, _, _, _, _, _, _, _, _, _, _, _, _, _, _, _, _, rfl, fun _ => ⟨hd2, (gS.trans hst)⟩, fun h => gG.1 h, fun h e => (gG.2.1 h hl).stay hst, fun h => gG.2.2.1 h, fun h e => (gG.2.2.2.1 h hl).stay hst, fun h => gG.2.2.2.2.1 h, fun h => gG.2.2.2.2.2.1 h, fun h => gG.2.2.2.2.2.2.1 h, fun h => gG.2.2.2.2.2.2.2.1 h, fun h => gG.2.2.2.2.2.2.2.2.1 h, fun h => gG.2.2.2.2.2.2.2.2.2.1 h, fun h => gG.2.2.2.2.2.2.2.2.2.2.1 h, fun h => gG.2.2.2.2.2.2.2.2.2.2.2.1 h, fun _ => ⟨v, rfl, by omega, by omega⟩, fun h => gG.2.2.2.2.2.2.2.2.2.2.2.2.2.1 h, fun h => gG.2.2.2.2.2.2.2.2.2.2.2.2.2.2.1 h, fun h e => (gG.2.2.2.2.2.2.2.2.2.2.2.2.2.2.2.1 h hl).stay hst, fun h => absurd (show f 16 = true from h) (by rw [hl]; decide), fun h => absurd (hcl 17 (by decide) (show f 17 = true from h) 16 (by decide)) (by rw [hl]; decide), fun h => gG.2.2.2.2.2.2.2.2.2.2.2.2.2.2.2.2.2.2 h⟩
      refine below_succ ?_ ?_
      · intro f az u hf hd hcl hI
        obtain ⟨x3, x18, x19, x20, x21, x22, x23, x24, x25, x26, x27, x28, x29, x30, x31, x32, x33, x34, rfl, gD, gG⟩ := hI
        subst hmk
        have hl : f 16 = false := by
          cases h15 : f 16 with
          | false => rfl
          | true => exact absurd (hcl 12 (by decide) (hcl 16 (by decide) h15 12 (by decide)) 11 (by decide)) (by rw [hf]; decide)
        obtain ⟨gD, gS⟩ := gD hl
        refine wpOp_step rfl (fun K hK => ?_)
        go_simp
        refine hK _ _ ?_
        refine ⟨_, _, _, _, _, _, _, _, _, _, _, _, _, _, _, _, _, _, rfl, fun _ => ⟨gD, gS⟩, fun h => gG.1 h, fun h e => (gG.2.1 h hl), fun h => gG.2.2.1 h, fun h e => (gG.2.2.2.1 h hl), fun h => gG.2.2.2.2.1 h, fun h => gG.2.2.2.2.2.1 h, fun h => gG.2.2.2.2.2.2.1 h, fun h => gG.2.2.2.2.2.2.2.1 h, fun h => gG.2.2.2.2.2.2.2.2.1 h, fun h => gG.2.2.2.2.2.2.2.2.2.1 h, fun h => gG.2.2.2.2.2.2.2.2.2.2.1 h, fun _ => rfl, fun h => gG.2.2.2.2.2.2.2.2.2.2.2.2.1 h, fun h => gG.2.2.2.2.2.2.2.2.2.2.2.2.2.1 h, fun h => gG.2.2.2.2.2.2.2.2.2.2.2.2.2.2.1 h, fun h e => (gG.2.2.2.2.2.2.2.2.2.2.2.2.2.2.2.1 h hl), fun h => absurd (show f 16 = true from h) (by rw [hl]; decide), fun h => absurd (hcl 17 (by decide) (show f 17 = true from h) 16 (by decide)) (by rw [hl]; decide), fun h => gG.2.2.2.2.2.2.2.2.2.2.2.2.2.2.2.2.2.2 h⟩
      refine below_succ ?_ ?_
      · intro f az u hf hd hcl hI
        obtain ⟨x3, x18, x19, x20, x21, x22, x23, x24, x25, x26, x27, x28, x29, x30, x31, x32, x33, x34, rfl, gD, gG⟩ := hI
        subst hmk
        have hl : f 16 = false := by
          cases h15 : f 16 with
          | false => rfl
          | true => exact absurd (hcl 14 (by decide) (hcl 15 (by decide) (hcl 16 (by decide) h15 15 (by decide)) 14 (by decide)) 10 (by decide)) (by rw [hf]; decide)
        obtain ⟨gD, gS⟩ := gD hl
        have e9 := gG.2.2.2.2.2.2.2.2.2.1 (hd 9 (by decide))
        obtain ⟨v27, rfl, v270, v271⟩ := e9
        have hw : IntKind.i64.wrap (1000 + v27) = 1000 + v27 := IntWalk.i64_in _ (by omega)
        refine wpOp_step rfl (fun K hK => ?_)
        go_simp
        refine hK _ _ ?_
        refine ⟨_, _, _, _, _, _, _, _, _, _, _, _, _, _, _, _, _, _, rfl, fun _ => ⟨gD, gS⟩, fun h => gG.1 h, fun h e => (gG.2.1 h hl), fun h => gG.2.2.1 h, fun h e => (gG.2.2.2.1 h hl), fun h => gG.2.2.2.2.1 h, fun h => gG.2.2.2.2.2.1 h, fun h => gG.2.2.2.2.2.2.1 h, fun h => gG.2.2.2.2.2.2.2.1 h, fun h => gG.2.2.2.2.2.2.2.2.1 h, fun h => gG.2.2.2.2.2.2.2.2.2.1 h, fun _ => ⟨1000 + v27, by first | rfl | (rw [hw]), by omega, by omega⟩, fun h => gG.2.2.2.2.2.2.2.2.2.2.2.1 h, fun h => gG.2.2.2.2.2.2.2.2.2.2.2.2.1 h, fun h => gG.2.2.2.2.2.2.2.2.2.2.2.2.2.1 h, fun h => gG.2.2.2.2.2.2.2.2.2.2.2.2.2.2.1 h, fun h e => (gG.2.2.2.2.2.2.2.2.2.2.2.2.2.2.2.1 h hl), fun h => absurd (show f 16 = true from h) (by rw [hl]; decide), fun h => absurd (hcl 17 (by decide) (show f 17 = true from h) 16 (by decide)) (by rw [hl]; decide), fun h => gG.2.2.2.2.2.2.2.2.2.2.2.2.2.2.2.2.2.2 h⟩
      refine below_succ ?_ ?_
      · intro f az u hf hd hcl hI
        obtain ⟨x3, x18, x19, x20, x21, x22, x23, x24, x25, x26, x27, x28, x29, x30, x31, x32, x33, x34, rfl, gD, gG⟩ := hI
        subst hmk
        have hl : f 16 = false := by
          cases h15 : f 16 with
          | false => rfl
          | true => exact absurd (hcl 12 (by decide) (hcl 16 (by decide) h15 12 (by decide)) 9 (by decide)) (by rw [hf]; decide)
        obtain ⟨gD, gS⟩ := gD hl
        have e8 := gG.2.2.2.2.2.2.2.2.1 (hd 8 (by decide))
        subst e8
        refine wpOp_step rfl (fun K hK => ?_)
        go_simp
        go_at_call 77
        refine (next_fl 9000 (w0 := w2) gD (by omega)).mono ?_
        rintro e wn ⟨v, rfl, r0, r1, hd2, hon⟩
        have hst := Stay.only hon
        try go_simp
        refine hK _ _ ?_
        refine ⟨_, _, _, _, _, _, _, _, _, _, _, _, _, _, _, _, _, _, rfl, fun _ => ⟨hd2, (gS.trans hst)⟩, fun h => gG.1 h, fun h e => (gG.2.1 h hl).stay hst, fun h => gG.2.2.1 h, fun h e => (gG.2.2.2.1 h hl).stay hst, fun h => gG.2.2.2.2.1 h, fun h => gG.2.2.2.2.2.1 h, fun h => gG.2.2.2.2.2.2.1 h, fun h => gG.2.2.2.2.2.2.2.1 h, fun h => gG.2.2.2.2.2.2.2.2.1 h, fun _ => ⟨v, rfl, by omega, by omega⟩, fun h => gG.2.2.2.2.2.2.2.2.2.2.1 h, fun h => gG.2.2.2.2.2.2.2.2.2.2.2.1 h, fun h => gG.2.2.2.2.2.2.2.2.2.2.2.2.1 h, fun h => gG.2.2.2.2.2.2.2.2.2.2.2.2.2.1 h, fun h => gG.2.2.2.2.2.2.2.2.2.2.2.2.2.2.1 h, fun h e => (gG.2.2.2.2.2.2.2.2.2.2.2.2.2.2.2.1 h hl).stay hst, fun h => absurd (show f 16 = true from h) (by rw [hl]; decide), fun h => absurd (hcl 17 (by decide) (show f 17 = true from h) 16 (by decide)) (by rw [hl]; decide), fun h => gG.2.2.2.2.2.2.2.2.2.2.2.2.2.2.2.2.2.2 h⟩
      refine below_succ ?_ ?_
      · intro f az u hf hd hcl hI
        obtain ⟨x3, x18, x19, x20, x21, x22, x23, x24, x25, x26, x27, x28, x29, x30, x31, x32, x33, x34, rfl, gD, gG⟩ := hI
        subst hmk
        have hl : f 16 = false := by
          cases h15 : f 16 with
          | false => rfl
          | true => exact absurd (hcl 9 (by decide) (hcl 12 (by decide) (hcl 16 (by decide) h15 12 (by decide)) 9 (by decide)) 8 (by decide)) (by rw [hf]; decide)
        obtain ⟨gD, gS⟩ := gD hl
        refine wpOp_step rfl (fun K hK => ?_)
        go_simp
        refine hK _ _ ?_
        refine ⟨_, _, _, _, _, _, _, _, _, _, _, _, _, _, _, _, _, _, rfl, fun _ => ⟨gD, gS⟩, fun h => gG.1 h, fun h e => (gG.2.1 h hl), fun h => gG.2.2.1 h, fun h e => (gG.2.2.2.1 h hl), fun h => gG.2.2.2.2.1 h, fun h => gG.2.2.2.2.2.1 h, fun h => gG.2.2.2.2.2.2.1 h, fun h => gG.2.2.2.2.2.2.2.1 h, fun _ => rfl, fun h => gG.2.2.2.2.2.2.2.2.2.1 h, fun h => gG.2.2.2.2.2.2.2.2.2.2.1 h, fun h => gG.2.2.2.2.2.2.2.2.2.2.2.1 h, fun h => gG.2.2.2.2.2.2.2.2.2.2.2.2.1 h, fun h => gG.2.2.2.2.2.2.2.2.2.2.2.2.2.1 h, fun h => gG.2.2.2.2.2.2.2.2.2.2.2.2.2.2.1 h, fun h e => (gG.2.2.2.2.2.2.2.2.2.2.2.2.2.2.2.1 h hl), fun h => absurd (show f 16 = true from h) (by rw [hl]; decide), fun h => absurd (hcl 17 (by decide) (show f 17 = true from h) 16 (by decide)) (by rw [hl]; decide), fun h => gG.2.2.2.2.2.2.2.2.2.2.2.2.2.2.2.2.2.2 h⟩
      refine below_succ ?_ ?_
      · intro f az u hf hd hcl hI
        obtain ⟨x3, x18, x19, x20, x21, x22, x23, x24, x25, x26, x27, x28, x29, x30, x31, x32, x33, x34, rfl, gD, gG⟩ := hI
        subst hmk
        have hl : f 16 = false := by
          cases h15 : f 16 with
          | false => rfl
          | true => exact absurd (hcl 14 (by decide) (hcl 15 (by decide) (hcl 16 (by decide) h15 15 (by decide)) 14 (by decide)) 7 (by decide)) (by rw [hf]; decide)
        obtain ⟨gD, gS⟩ := gD hl
        have e6 := gG.2.2.2.2.2.2.1 (hd 6 (by decide))
        obtain ⟨v24, rfl, v240, v241⟩ := e6
        have hw : IntKind.i64.wrap (100 + v24) = 100 + v24 := IntWalk.i64_in _ (by omega)
        refine wpOp_step rfl (fun K hK => ?_)
        go_simp
        refine hK _ _ ?_
        refine ⟨_, _, _, _, _, _, _, _, _, _, _, _, _, _, _, _, _, _, rfl, fun _ => ⟨gD, gS⟩, fun h => gG.1 h, fun h e => (gG.2.1 h hl), fun h => gG.2.2.1 h, fun h e => (gG.2.2.2.1 h hl), fun h => gG.2.2.2.2.1 h, fun h => gG.2.2.2.2.2.1 h, fun h => gG.2.2.2.2.2.2.1 h, fun _ => ⟨100 + v24, by first | rfl | (rw [hw]), by omega, by omega⟩, fun h => gG.2.2.2.2.2.2.2.2.1 h, fun h => gG.2.2.2.2.2.2.2.2.2.1 h, fun h => gG.2.2.2.2.2.2.2.2.2.2.1 h, fun h => gG.2.2.2.2.2.2.2.2.2.2.2.1 h, fun h => gG.2.2.2.2.2.2.2.2.2.2.2.2.1 h, fun h => gG.2.2.2.2.2.2.2.2.2.2.2.2.2.1 h, fun h => gG.2.2.2.2.2.2.2.2.2.2.2.2.2.2.1 h, fun h e => (gG.2.2.2.2.2.2.2.2.2.2.2.2.2.2.2.1 h hl), fun h => absurd (show f 16 = true from h) (by rw [hl]; decide), fun h => absurd (hcl 17 (by decide) (show f 17 = true from h) 16 (by decide)) (by rw [hl]; decide), fun h => gG.2.2.2.2.2.2.2.2.2.2.2.2.2.2.2.2.2.2 h⟩
      refine below_succ ?_ ?_
      · intro f az u hf hd hcl hI
        obtain ⟨x3, x18, x19, x20, x21, x22, x23, x24, x25, x26, x27, x28, x29, x30, x31, x32, x33, x34, rfl, gD, gG⟩ := hI
        subst hmk
        have hl : f 16 = false := by
          cases h15 : f 16 with
          | false => rfl
          | true => exact absurd (hcl 9 (by decide) (hcl 12 (by decide) (hcl 16 (by decide) h15 12 (by decide)) 9 (by decide)) 6 (by decide)) (by rw [hf]; decide)
        obtain ⟨gD, gS⟩ := gD hl
        have e5 := gG.2.2.2.2.2.1 (hd 5 (by decide))
        subst e5
        refine wpOp_step rfl (fun K hK => ?_)
        go_simp
        go_at_call 77
        refine (next_fl 400 (w0 := w2) gD (by omega)).mono ?_
        rintro e wn ⟨v, rfl, r0, r1, hd2, hon⟩
        have hst := Stay.only hon
        try go_simp
        refine hK _ _ ?_
        refine ⟨_, _, _, _, _, _, _, _, _, _, _, _, _, _, _, _, _, _, rfl, fun _ => ⟨hd2, (gS.trans hst)⟩, fun h => gG.1 h, fun h e => (gG.2.1 h hl).stay hst, fun h => gG.2.2.1 h, fun h e => (gG.2.2.2.1 h hl).stay hst, fun h => gG.2.2.2.2.1 h, fun h => gG.2.2.2.2.2.1 h, fun _ => ⟨v, rfl, by omega, by omega⟩, fun h => gG.2.2.2.2.2.2.2.1 h, fun h => gG.2.2.2.2.2.2.2.2.1 h, fun h => gG.2.2.2.2.2.2.2.2.2.1 h, fun h => gG.2.2.2.2.2.2.2.2.2.2.1 h, fun h => gG.2.2.2.2.2.2.2.2.2.2.2.1 h, fun h => gG.2.2.2.2.2.2.2.2.2.2.2.2.1 h, fun h => gG.2.2.2.2.2.2.2.2.2.2.2.2.2.1 h, fun h => gG.2.2.2.2.2.2.2.2.2.2.2.2.2.2.1 h, fun h e => (gG.2.2.2.2.2.2.2.2.2.2.2.2.2.2.2.1 h hl).stay hst, fun h => absurd (show f 16 = true from h) (by rw [hl]; decide), fun h => absurd (hcl 17 (by decide) (show f 17 = true from h) 16 (by decide)) (by rw [hl]; decide), fun h => gG.2.2.2.2.2.2.2.2.2.2.2.2.2.2.2.2.2.2 h⟩
      refine below_succ ?_ ?_
      · intro f az u hf hd hcl hI
        obtain ⟨x3, x18, x19, x20, x21, x22, x23, x24, x25, x26, x27, x28, x29, x30, x31, x32, x33, x34, rfl, gD, gG⟩ := hI
        subst hmk
        have hl : f 16 = false := by
          cases h15 : f 16 with
          | false => rfl
          | true => exact absurd (hcl 6 (by decide) (hcl 9 (by decide) (hcl 12 (by decide) (hcl 16 (by decide) h15 12 (by decide)) 9 (by decide)) 6 (by decide)) 5 (by decide)) (by rw [hf]; decide)
        obtain ⟨gD, gS⟩ := gD hl
        refine wpOp_step rfl (fun K hK => ?_)
        go_simp
        refine hK _ _ ?_
        refine ⟨_, _, _, _, _, _, _, _, _, _, _, _, _, _, _, _, _, _, rfl, fun _ => ⟨gD, gS⟩, fun h => gG.1 h, fun h e => (gG.2.1 h hl), fun h => gG.2.2.1 h, fun h e => (gG.2.2.2.1 h hl), fun h => gG.2.2.2.2.1 h, fun _ => rfl, fun h => gG.2.2.2.2.2.2.1 h, fun h => gG.2.2.2.2.2.2.2.1 h, fun h => gG.2.2.2.2.2.2.2.2.1 h, fun h => gG.2.2.2.2.2.2.2.2.2.1 h, fun h => gG.2.2.2.2.2.2.2.2.2.2.1 h, fun h => gG.2.2.2.2.2.2.2.2.2.2.2.1 h, fun h => gG.2.2.2.2.2.2.2.2.2.2.2.2.1 h, fun h => gG.2.2.2.2.2.2.2.2.2.2.2.2.2.1 h, fun h => gG.2.2.2.2.2.2.2.2.2.2.2.2.2.2.1 h, fun h e => (gG.2.2.2.2.2.2.2.2.2.2.2.2.2.2.2.1 h hl), fun h => absurd (show f 16 = true from h) (by rw [hl]; decide), fun h => absurd (hcl 17 (by decide) (show f 17 = true from h) 16 (by decide)) (by rw [hl]; decide), fun h => gG.2.2.2.2.2.2.2.2.2.2.2.2.2.2.2.2.2.2 h⟩
      refine below_succ ?_ ?_
      · intro f az u hf hd hcl hI
        obtain ⟨x3, x18, x19, x20, x21, x22, x23, x24, x25, x26, x27, x28, x29, x30, x31, x32, x33, x34, rfl, gD, gG⟩ := hI
        subst hmk
        have hl : f 16 = false := by
          cases h15 : f 16 with
          | false => rfl
          | true => exact absurd (hcl 14 (by decide) (hcl 15 (by decide) (hcl 16 (by decide) h15 15 (by decide)) 14 (by decide)) 4 (by decide)) (by rw [hf]; decide)
        obtain ⟨gD, gS⟩ := gD hl
        have e3 := gG.2.2.2.1 (hd 3 (by decide)) hl
        obtain ⟨v21, v21k, v21s, rfl, v21p, v21z, v210, v21c⟩ := e3
        refine wpOp_step rfl (fun K hK => ?_)
        go_simp
        refine hK _ _ ?_
        refine ⟨_, _, _, _, _, _, _, _, _, _, _, _, _, _, _, _, _, _, rfl, fun _ => ⟨gD, gS⟩, fun h => gG.1 h, fun h e => (gG.2.1 h hl), fun h => gG.2.2.1 h, fun h e => (gG.2.2.2.1 h hl), fun _ => ⟨v21s, v210, rfl⟩, fun h => gG.2.2.2.2.2.1 h, fun h => gG.2.2.2.2.2.2.1 h, fun h => gG.2.2.2.2.2.2.2.1 h, fun h => gG.2.2.2.2.2.2.2.2.1 h, fun h => gG.2.2.2.2.2.2.2.2.2.1 h, fun h => gG.2.2.2.2.2.2.2.2.2.2.1 h, fun h => gG.2.2.2.2.2.2.2.2.2.2.2.1 h, fun h => gG.2.2.2.2.2.2.2.2.2.2.2.2.1 h, fun h => gG.2.2.2.2.2.2.2.2.2.2.2.2.2.1 h, fun h => gG.2.2.2.2.2.2.2.2.2.2.2.2.2.2.1 h, fun h e => (gG.2.2.2.2.2.2.2.2.2.2.2.2.2.2.2.1 h hl), fun h => absurd (show f 16 = true from h) (by rw [hl]; decide), fun h => absurd (hcl 17 (by decide) (show f 17 = true from h) 16 (by decide)) (by rw [hl]; decide), fun h => gG.2.2.2.2.2.2.2.2.2.2.2.2.2.2.2.2.2.2 h⟩
      refine below_succ ?_ ?_
      · intro f az u hf hd hcl hI
        obtain ⟨x3, x18, x19, x20, x21, x22, x23, x24, x25, x26, x27, x28, x29, x30, x31, x32, x33, x34, rfl, gD, gG⟩ := hI
        subst hmk
        have hl : f 16 = false := by
          cases h15 : f 16 with
          | false => rfl
          | true => exact absurd (hcl 4 (by decide) (hcl 14 (by decide) (hcl 15 (by decide) (hcl 16 (by decide) h15 15 (by decide)) 14 (by decide)) 4 (by decide)) 3 (by decide)) (by rw [hf]; decide)
        obtain ⟨gD, gS⟩ := gD hl
        have e1 := gG.2.1 (hd 1 (by decide)) hl
        obtain ⟨v19, rfl, v19p, v19s, v19c⟩ := e1
        have e2 := gG.2.2.1 (hd 2 (by decide))
        obtain ⟨v20, rfl, v200, v201⟩ := e2
        obtain ⟨k, rfl⟩ := Int.eq_ofNat_of_zero_le v200
        have hk : k < 4 := by omega
        have hki : (k : Int) < 4 := by omega
        obtain ⟨s, hs, hc⟩ := v19c k hk
        refine wpOp_step rfl (fun K hK => ?_)
        go_simp
        refine hK _ _ ?_
        refine ⟨_, _, _, _, _, _, _, _, _, _, _, _, _, _, _, _, _, _, rfl, fun _ => ⟨gD, gS⟩, fun h => gG.1 h, fun h e => (gG.2.1 h hl), fun h => gG.2.2.1 h, fun _ _ => ⟨v19, k, s, by simp, v19p, v19s, hs, hc⟩, fun h => gG.2.2.2.2.1 h, fun h => gG.2.2.2.2.2.1 h, fun h => gG.2.2.2.2.2.2.1 h, fun h => gG.2.2.2.2.2.2.2.1 h, fun h => gG.2.2.2.2.2.2.2.2.1 h, fun h => gG.2.2.2.2.2.2.2.2.2.1 h, fun h => gG.2.2.2.2.2.2.2.2.2.2.1 h, fun h => gG.2.2.2.2.2.2.2.2.2.2.2.1 h, fun h => gG.2.2.2.2.2.2.2.2.2.2.2.2.1 h, fun h => gG.2.2.2.2.2.2.2.2.2.2.2.2.2.1 h, fun h => gG.2.2.2.2.2.2.2.2.2.2.2.2.2.2.1 h, fun h e => (gG.2.2.2.2.2.2.2.2.2.2.2.2.2.2.2.1 h hl), fun h => absurd (show f 16 = true from h) (by rw [hl]; decide), fun h => absurd (hcl 17 (by decide) (show f 17 = true from h) 16 (by decide)) (by rw [hl]; decide), fun h => gG.2.2.2.2.2.2.2.2.2.2.2.2.2.2.2.2.2.2 h⟩
      refine below_succ ?_ ?_
      · intro f az u hf hd hcl hI
        obtain ⟨x3, x18, x19, x20, x21, x22, x23, x24, x25, x26, x27, x28, x29, x30, x31, x32, x33, x34, rfl, gD, gG⟩ := hI
        subst hmk
        have hl : f 16 = false := by
          cases h15 : f 16 with
          | false => rfl
          | true => exact absurd (hcl 3 (by decide) (hcl 4 (by decide) (hcl 14 (by decide) (hcl 15 (by decide) (hcl 16 (by decide) h15 15 (by decide)) 14 (by decide)) 4 (by decide)) 3 (by decide)) 2 (by decide)) (by rw [hf]; decide)
        obtain ⟨gD, gS⟩ := gD hl
        refine wpOp_step rfl (fun K hK => ?_)
        go_simp
        refine hK _ _ ?_
        refine ⟨_, _, _, _, _, _, _, _, _, _, _, _, _, _, _, _, _, _, rfl, fun _ => ⟨gD, gS⟩, fun h => gG.1 h, fun h e => (gG.2.1 h hl), fun _ => ⟨_, rfl, by omega, by omega⟩, fun h e => (gG.2.2.2.1 h hl), fun h => gG.2.2.2.2.1 h, fun h => gG.2.2.2.2.2.1 h, fun h => gG.2.2.2.2.2.2.1 h, fun h => gG.2.2.2.2.2.2.2.1 h, fun h => gG.2.2.2.2.2.2.2.2.1 h, fun h => gG.2.2.2.2.2.2.2.2.2.1 h, fun h => gG.2.2.2.2.2.2.2.2.2.2.1 h, fun h => gG.2.2.2.2.2.2.2.2.2.2.2.1 h, fun h => gG.2.2.2.2.2.2.2.2.2.2.2.2.1 h, fun h => gG.2.2.2.2.2.2.2.2.2.2.2.2.2.1 h, fun h => gG.2.2.2.2.2.2.2.2.2.2.2.2.2.2.1 h, fun h e => (gG.2.2.2.2.2.2.2.2.2.2.2.2.2.2.2.1 h hl), fun h => absurd (show f 16 = true from h) (by rw [hl]; decide), fun h => absurd (hcl 17 (by decide) (show f 17 = true from h) 16 (by decide)) (by rw [hl]; decide), fun h => gG.2.2.2.2.2.2.2.2.2.2.2.2.2.2.2.2.2.2 h⟩
      refine below_succ ?_ ?_
      · intro f az u hf hd hcl hI
        obtain ⟨x3, x18, x19, x20, x21, x22, x23, x24, x25, x26, x27, x28, x29, x30, x31, x32, x33, x34, rfl, gD, gG⟩ := hI
        subst hmk
        have hl : f 16 = false := by
          cases h15 : f 16 with
          | false => rfl
          | true => exact absurd (hcl 3 (by decide) (hcl 4 (by decide) (hcl 14 (by decide) (hcl 15 (by decide) (hcl 16 (by decide) h15 15 (by decide)) 14 (by decide)) 4 (by decide)) 3 (by decide)) 1 (by decide)) (by rw [hf]; decide)
        obtain ⟨gD, gS⟩ := gD hl
        refine wpOp_step rfl (fun K hK => ?_)
        go_simp
        refine hK _ _ ?_
        refine ⟨_, _, _, _, _, _, _, _, _, _, _, _, _, _, _, _, _, _, rfl, fun _ => ⟨gD, gS⟩, fun h => gG.1 h, fun _ _ => ((P2.out).stay gS), fun h => gG.2.2.1 h, fun h e => (gG.2.2.2.1 h hl), fun h => gG.2.2.2.2.1 h, fun h => gG.2.2.2.2.2.1 h, fun h => gG.2.2.2.2.2.2.1 h, fun h => gG.2.2.2.2.2.2.2.1 h, fun h => gG.2.2.2.2.2.2.2.2.1 h, fun h => gG.2.2.2.2.2.2.2.2.2.1 h, fun h => gG.2.2.2.2.2.2.2.2.2.2.1 h, fun h => gG.2.2.2.2.2.2.2.2.2.2.2.1 h, fun h => gG.2.2.2.2.2.2.2.2.2.2.2.2.1 h, fun h => gG.2.2.2.2.2.2.2.2.2.2.2.2.2.1 h, fun h => gG.2.2.2.2.2.2.2.2.2.2.2.2.2.2.1 h, fun h e => (gG.2.2.2.2.2.2.2.2.2.2.2.2.2.2.2.1 h hl), fun h => absurd (show f 16 = true from h) (by rw [hl]; decide), fun h => absurd (hcl 17 (by decide) (show f 17 = true from h) 16 (by decide)) (by rw [hl]; decide), fun h => gG.2.2.2.2.2.2.2.2.2.2.2.2.2.2.2.2.2.2 h⟩
      refine below_succ ?_ ?_
      · intro f az u hf hd hcl hI
        obtain ⟨x3, x18, x19, x20, x21, x22, x23, x24, x25, x26, x27, x28, x29, x30, x31, x32, x33, x34, rfl, gD, gG⟩ := hI
        subst hmk
        have hl : f 16 = false := by
          cases h15 : f 16 with
          | false => rfl
          | true => exact absurd (hcl 16 (by decide) h15 0 (by decide)) (by rw [hf]; decide)
        obtain ⟨gD, gS⟩ := gD hl
        have ov := gG.2.2.2.2.2.2.2.2.2.2.2.2.2.2.2.2.2.2 (by
          cases h15 : f 17 with
          | false => rfl
          | true => exact absurd (hcl 17 (by decide) h15 0 (by decide)) (by rw [hf]; decide))
        subst ov
        refine wpOp_step rfl (fun K hK => ?_)
        go_simp
        refine hK _ _ ?_
        refine ⟨_, _, _, _, _, _, _, _, _, _, _, _, _, _, _, _, _, _, rfl, fun _ => ⟨gD, gS⟩, fun _ => rfl, fun h e => (gG.2.1 h hl), fun h => gG.2.2.1 h, fun h e => (gG.2.2.2.1 h hl), fun h => gG.2.2.2.2.1 h, fun h => gG.2.2.2.2.2.1 h, fun h => gG.2.2.2.2.2.2.1 h, fun h => gG.2.2.2.2.2.2.2.1 h, fun h => gG.2.2.2.2.2.2.2.2.1 h, fun h => gG.2.2.2.2.2.2.2.2.2.1 h, fun h => gG.2.2.2.2.2.2.2.2.2.2.1 h, fun h => gG.2.2.2.2.2.2.2.2.2.2.2.1 h, fun h => gG.2.2.2.2.2.2.2.2.2.2.2.2.1 h, fun h => gG.2.2.2.2.2.2.2.2.2.2.2.2.2.1 h, fun h => gG.2.2.2.2.2.2.2.2.2.2.2.2.2.2.1 h, fun h e => (gG.2.2.2.2.2.2.2.2.2.2.2.2.2.2.2.1 h hl), fun h => absurd (show f 16 = true from h) (by rw [hl]; decide), fun h => absurd (hcl 17 (by decide) (show f 17 = true from h) 16 (by decide)) (by rw [hl]; decide), fun h => gG.2.2.2.2.2.2.2.2.2.2.2.2.2.2.2.2.2.2 h⟩
      exact below_zero
    · intro f az u hf hI
      obtain ⟨x3, x18, x19, x20, x21, x22, x23, x24, x25, x26, x27, x28, x29, x30, x31, x32, x33, x34, rfl, gD, g0, g1, g2, g3, g4, g5, g6, g7, g8, g9, g10, g11, g12, g13, g14, g15, g16, g17, o17⟩ := hI
      subst hmk
      obtain ⟨⟨c, hc, hO6, hD6⟩, gx⟩ := g17 (hf 17 (by decide))
      have O6 := Lib.hid hO6
      have D6 := Lib.hid hD6
      have K6 := Lib.hid (ok_appT HK.out hc)
      clear hf gD hO6 hD6 O2 D2 HK DA g0 g1 g2 g3 g4 g5 g6 g7 g8 g9 g10 g11 g12 g13 g14 g15 g16 g17 o17
      go_wp2
      go_roundg (4 - (j + 1))
      case measure => omega
      case rel => exact ⟨_, j + 1, by go_num, rfl, by omega, by rw [List.length_append, List.length_singleton]; omega, O6, D6, K6, Lib.hid gx.1, Lib.hid gx.2⟩
end Go.Proofs.Ytnpfgngfolgdfaa
