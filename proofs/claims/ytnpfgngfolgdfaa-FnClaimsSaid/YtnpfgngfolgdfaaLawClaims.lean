/- The walk of the statement on claims (P28). No statement of the seat is proved here. -/
import Derived.Test.YtnpfgngfolgdfaaClaimLaw
import Derived.Test.YtnpfgngfolgdfaaDrawV
import Derived.Test.YtnpfgngfolgdfaaLikes28
import Derived.Test.YtnpfgngfolgdfaaLaws
import Derived.Deep.RegionHeld3
namespace Go.Proofs.Ytnpfgngfolgdfaa
open Go.RowKit

set_option maxHeartbeats 16000000 in
set_option maxRecDepth 20000 in
theorem walk_FnClaims (a0 : Option Addr) (len0 cap0 : Nat) (z0 : List Int) (w : World) (p0 : IsRow .u8 w a0 len0 cap0 z0) :
    Calls Try.prog 12 #[.slice a0 len0 cap0] w fun e w' => e = .returned (.bool true) ∧ Below w.heap.size w w' := by
  obtain ⟨hcap, hby⟩ := p0.bytes
  have hmax := p0.max
  by_cases hbig : 4096 < len0
  · have HD : Hid (decide (4096 < len0) = true) := Lib.hid (decide_eq_true hbig)
    go_enter Try.func12, Try.ntmps12
    go_wp2_with fail
    refine (big_any a0 len0 cap0 w hmax).mono ?_
    rintro e w1 ⟨rfl, rfl⟩
    rw [HD.out]
    go_wp2
    go_ret
    exact ⟨rfl, Below.refl _ _⟩
  have HD : Hid (decide (4096 < len0) = false) := Lib.hid (decide_eq_false hbig)
  have hl4 : len0 ≤ 4096 := by omega
  have HBY := Lib.hid hby
  go_enter Try.func12, Try.ntmps12
  go_wp2_with fail
  refine (big_any a0 len0 cap0 w hmax).mono ?_
  rintro e w1 ⟨rfl, rfl⟩
  rw [HD.out]
  go_wp2_with fail
  refine (DrawLastDay_any a0 len0 cap0 w hl4 hcap hby).mono ?_
  rintro e w2 ⟨v, T, s, sold, rfl, ho, hTl, hTk, hs20, hsd, hb⟩
  have BW := Lib.hid hb
  have V := Lib.hid (Sl.of_own ho (by unfold big40; omega))
  have HK := Lib.hid hTk
  have hTl2 : T.length ≤ 1048576 := by omega
  have hs2 : s.size ≤ 1048576 := by omega
  have wsd : Hid ((Lit.int .i64 sold).wf = true) := Lib.hid (wf_in (by omega) (by omega))
  obtain ⟨d, dc, hLD⟩ : ∃ a c, LastDay_r T s sold = (a, c) := ⟨_, _, rfl⟩
  have HLD := Lib.hid hLD
  clear ho hTk p0 hbig hmax hby hb hLD
  go_wp2_with fail
  refine (iLastDay_law v T s sold w2 V.out hTl2 HK.out hs2 wsd.out).mono ?_
  rw [HLD.out]
  rintro e w3 ⟨rfl, hb⟩
  replace V := Lib.hid (V.out.below hb)
  replace BW := Lib.hid (Below.step BW.out hb)
  clear hb
  go_wp2_with fail
  refine (sLastDay_law v T s sold w3 V.out hTl2 HK.out hs2 wsd.out).mono ?_
  rw [HLD.out]
  rintro e w4 ⟨rfl, hb⟩
  replace V := Lib.hid (V.out.below hb)
  replace BW := Lib.hid (Below.step BW.out hb)
  clear hb
  go_wp2_with fail
  refine (DrawAddClaim_any a0 len0 cap0 w4 hl4 hcap (Bytes.below HBY.out BW.out)).mono ?_
  rintro e w5 ⟨cl, C, c, rfl, ho, hCl, hCk, hck, hb⟩
  have U0 := Lib.hid (Sl.of_own ho (by unfold big40; omega))
  have HKC := Lib.hid hCk
  have HKc := Lib.hid hck
  have hCl2 : C.length ≤ 1048576 := by omega
  obtain ⟨a, ac, hAC⟩ : ∃ a k, AddClaim_r C c = (a, k) := ⟨_, _, rfl⟩
  have hal : a.length ≤ 1048576 := by have := AddClaim_len C c; rw [hAC] at this; exact this
  have HKA := Lib.hid (add_okC hAC hCk hck)
  have HAC := Lib.hid hAC
  replace V := Lib.hid (V.out.below hb)
  replace BW := Lib.hid (Below.step BW.out hb)
  have hbx : ∀ j, (w5.alloc (.cells #[.string c.part, .int .i64 c.sold, .int .i64 c.day, .int .i64 c.tens] 47)).cell? ⟨w5.heap.size, j, none⟩ = #[Value.string c.part, .int .i64 c.sold, .int .i64 c.day, .int .i64 c.tens][j]? := fun j => box_new _ _ _ j
  have KX : Hid (∀ W, Below (w5.alloc (.cells #[.string c.part, .int .i64 c.sold, .int .i64 c.day, .int .i64 c.tens] 47)).heap.size (w5.alloc (.cells #[.string c.part, .int .i64 c.sold, .int .i64 c.day, .int .i64 c.tens] 47)) W → W.cell? ⟨w5.heap.size, 0, none⟩ = some (.string c.part) ∧ W.cell? ⟨w5.heap.size, 1, none⟩ = some (.int .i64 c.sold) ∧ W.cell? ⟨w5.heap.size, 2, none⟩ = some (.int .i64 c.day) ∧ W.cell? ⟨w5.heap.size, 3, none⟩ = some (.int .i64 c.tens)) := Lib.hid (fun W h => ⟨(h.cell (p := ⟨w5.heap.size, 0, none⟩) (by simp)).trans ((hbx 0).trans rfl), (h.cell (p := ⟨w5.heap.size, 1, none⟩) (by simp)).trans ((hbx 1).trans rfl), (h.cell (p := ⟨w5.heap.size, 2, none⟩) (by simp)).trans ((hbx 2).trans rfl), (h.cell (p := ⟨w5.heap.size, 3, none⟩) (by simp)).trans ((hbx 3).trans rfl)⟩)
  have hb2 : Below w5.heap.size w5 (w5.alloc (.cells #[.string c.part, .int .i64 c.sold, .int .i64 c.day, .int .i64 c.tens] 47)) := (Below.refl _ _).alloc (Nat.le_refl _) _
  replace V := Lib.hid (V.out.below hb2)
  have U := Lib.hid (U0.out.below hb2)
  replace BW := Lib.hid (Below.step BW.out hb2)
  have EX : Hid (Below (w5.alloc (.cells #[.string c.part, .int .i64 c.sold, .int .i64 c.day, .int .i64 c.tens] 47)).heap.size (w5.alloc (.cells #[.string c.part, .int .i64 c.sold, .int .i64 c.day, .int .i64 c.tens] 47)) (w5.alloc (.cells #[.string c.part, .int .i64 c.sold, .int .i64 c.day, .int .i64 c.tens] 47))) := Lib.hid (Below.refl _ _)
  obtain ⟨x0, x1, x2, x3⟩ := KX.out _ EX.out
  clear hb ho hCk hck hAC hbx hb2 U0
  go_wp2_with fail
  generalize w5.alloc (.cells #[.string c.part, .int .i64 c.sold, .int .i64 c.day, .int .i64 c.tens] 47) = wX at *
  generalize w5.heap.size = X at *
  refine (iAddClaim_law cl C c wX U.out hCl2 HKC.out HKc.out).mono ?_
  rw [HAC.out]
  rintro e w6 ⟨m0, rfl, ho, hb⟩
  clear x0 x1 x2 x3
  replace V := Lib.hid (V.out.below hb)
  replace U := Lib.hid (U.out.below hb)
  replace BW := Lib.hid (Below.step BW.out hb)
  replace EX := Lib.hid (Below.step EX.out hb)
  have M0 := Lib.hid (Sl.of_own ho (big_of hal))
  clear ho hb
  obtain ⟨x0, x1, x2, x3⟩ := KX.out _ EX.out
  go_wp2_with fail
  refine (sAddClaim_law cl C c w6 U.out hCl2 HKC.out HKc.out).mono ?_
  rw [HAC.out]
  rintro e w7 ⟨m1, rfl, ho, hb⟩
  clear x0 x1 x2 x3
  replace V := Lib.hid (V.out.below hb)
  replace U := Lib.hid (U.out.below hb)
  replace M0 := Lib.hid (M0.out.below hb)
  replace BW := Lib.hid (Below.step BW.out hb)
  replace EX := Lib.hid (Below.step EX.out hb)
  have M1 := Lib.hid (Sl.of_own ho (big_of hal))
  clear ho hb
  go_wp2_with fail
  refine (likeClaims_same m0 m1 a w7 M0.out M1.out).mono ?_
  rintro e w8 ⟨rfl, hb⟩
  replace V := Lib.hid (V.out.below hb)
  replace U := Lib.hid (U.out.below hb)
  replace M0 := Lib.hid (M0.out.below hb)
  replace M1 := Lib.hid (M1.out.below hb)
  replace BW := Lib.hid (Below.step BW.out hb)
  replace EX := Lib.hid (Below.step EX.out hb)
  clear hb
  obtain ⟨x0, x1, x2, x3⟩ := KX.out _ EX.out
  -- region 11
  by_cases hac : ac = 0
  rotate_left
  · have hab : (ac == 0) = false := beq_eq_false_iff_ne.2 hac
    clear x0 x1 x2 x3
    have DA : Hid (Below w8.heap.size w8 w8) := Lib.hid (Below.refl _ _)
    go_wp2
    obtain ⟨mk, hmk⟩ : ∃ mk : Value → Value → Value → Value → Value → Value → Value → Value → Value → Value → Value → Value → Value → Value → Value → Value → Value → Value → Value → Value → Value → Value → Value → Value → Value → Act, mk = (fun x78 x79 x80 x81 x82 x83 x84 x85 x86 x87 x88 x89 x90 x91 x92 x93 x94 x95 x96 x97 x98 x99 x100 x101 x102 => (⟨#[Value.slice a0 len0 cap0, undef, Value.bool false, v, Value.string s, Value.int .i64 sold, Value.int .i64 d, Value.int .i64 dc, Value.int .i64 d, Value.int .i64 dc, cl, Value.pointer (some ⟨X, 0, none⟩), m0, Value.int .i64 ac, m1, Value.int .i64 ac, undef, undef, undef, undef, Value.slice a0 len0 cap0, Value.bool false, Value.tuple #[v, Value.string s, Value.int .i64 sold], Value.slice a0 len0 cap0, Value.tuple #[v, Value.string s, Value.int .i64 sold], v, Value.string s, Value.int .i64 sold, Value.tuple #[Value.int .i64 d, Value.int .i64 dc], v, Value.string s, Value.int .i64 sold, Value.tuple #[Value.int .i64 d, Value.int .i64 dc], Value.int .i64 d, Value.int .i64 dc, Value.tuple #[Value.int .i64 d, Value.int .i64 dc], v, Value.string s, Value.int .i64 sold, Value.tuple #[Value.int .i64 d, Value.int .i64 dc], Value.int .i64 d, Value.int .i64 dc, Value.tuple #[cl, Value.agg #[Value.string c.part, Value.int .i64 c.sold, Value.int .i64 c.day, Value.int .i64 c.tens]], Value.slice a0 len0 cap0, Value.tuple #[cl, Value.agg #[Value.string c.part, Value.int .i64 c.sold, Value.int .i64 c.day, Value.int .i64 c.tens]], cl, Value.agg #[Value.string c.part, Value.int .i64 c.sold, Value.int .i64 c.day, Value.int .i64 c.tens], Value.tuple #[m0, Value.int .i64 ac], cl, Value.agg #[Value.string c.part, Value.int .i64 c.sold, Value.int .i64 c.day, Value.int .i64 c.tens], Value.tuple #[m0, Value.int .i64 ac], m0, Value.int .i64 ac, Value.tuple #[m1, Value.int .i64 ac], cl, Value.agg #[Value.string c.part, Value.int .i64 c.sold, Value.int .i64 c.day, Value.int .i64 c.tens], Value.tuple #[m1, Value.int .i64 ac], m1, Value.int .i64 ac, Value.int .i64 dc, Value.int .i64 dc, Value.bool false, Value.bool false, Value.int .i64 d, Value.int .i64 d, Value.bool false, Value.bool false, Value.bool false, Value.int .i64 ac, Value.int .i64 ac, Value.bool false, Value.bool false, Value.bool false, m0, m1, Value.bool true, Value.bool false, Value.bool false, x78, x79, x80, x81, x82, x83, x84, x85, x86, x87, x88, x89, x90, x91, x92, x93, x94, x95, x96, x97, x98, x99, x100, x101, x102, undef, undef, undef, undef, undef, undef, undef, undef, undef, undef, undef, undef, undef, undef, undef, undef, undef, undef, undef, undef, undef, undef, undef, undef, undef, undef, undef, undef, undef, undef, undef, undef, undef, undef, undef, undef, undef, undef, undef, undef, undef, undef, undef, undef, undef, undef, undef, undef, undef, undef, undef], []⟩ : Act)) := ⟨_, rfl⟩
    refine wp_region_inv (by kernel_rfl) ([[], [0], [1], [2], [3, 2, 2], [4, 2], [5, 4, 2], [6], [7, 6], [6], [9, 6], [10, 6], [8, 11, 6], [6, 12, 2], [13, 6, 2], [14], [14], [16, 14], [17, 14], [15, 18, 14], [19, 14], [14], [20, 21, 14], [14, 22, 2], [2, 23]] : List (List Nat)) (by kernel_rfl) (by kernel_rfl) (fun f az u => ∃ x78 x79 x80 x81 x82 x83 x84 x85 x86 x87 x88 x89 x90 x91 x92 x93 x94 x95 x96 x97 x98 x99 x100 x101 x102 : Value, az = mk x78 x79 x80 x81 x82 x83 x84 x85 x86 x87 x88 x89 x90 x91 x92 x93 x94 x95 x96 x97 x98 x99 x100 x101 x102 ∧ (Below w8.heap.size w8 u) ∧ (f 0 = true → x78 = .int .i64 ac) ∧ (f 1 = true → x79 = .bool false) ∧ (f 2 = true → x80 = .bool false) ∧ (f 3 = true → x81 = undef) ∧ (f 4 = true → x82 = undef) ∧ (f 5 = true → x83 = undef) ∧ (f 6 = true → x84 = undef) ∧ (f 7 = true → x85 = undef) ∧ (f 8 = true → x86 = undef) ∧ (f 9 = true → x87 = undef) ∧ (f 10 = true → x88 = undef) ∧ (f 11 = true → x89 = undef) ∧ (f 12 = true → x90 = undef) ∧ (f 13 = true → x91 = undef) ∧ (f 14 = true → x92 = undef) ∧ (f 15 = true → x93 = undef) ∧ (f 16 = true → x94 = undef) ∧ (f 17 = true → x95 = undef) ∧ (f 18 = true → x96 = undef) ∧ (f 19 = true → x97 = undef) ∧ (f 20 = true → x98 = undef) ∧ (f 21 = true → x99 = undef) ∧ (f 22 = true → x100 = undef) ∧ (f 23 = true → x101 = undef) ∧ (f 24 = true → x102 = .bool false)) ?_ ?_ ?_
    · subst hmk
      exact ⟨_, _, _, _, _, _, _, _, _, _, _, _, _, _, _, _, _, _, _, _, _, _, _, _, _, rfl, DA.out.drew, fun h => (by cases h), fun h => (by cases h), fun h => (by cases h), fun h => (by cases h), fun h => (by cases h), fun h => (by cases h), fun h => (by cases h), fun h => (by cases h), fun h => (by cases h), fun h => (by cases h), fun h => (by cases h), fun h => (by cases h), fun h => (by cases h), fun h => (by cases h), fun h => (by cases h), fun h => (by cases h), fun h => (by cases h), fun h => (by cases h), fun h => (by cases h), fun h => (by cases h), fun h => (by cases h), fun h => (by cases h), fun h => (by cases h), fun h => (by cases h), fun h => (by cases h)⟩
    · show ∀ i, i < 25 → _
      refine below_succ ?_ ?_
      · intro f az u hf hd hcl hI
        obtain ⟨x78, x79, x80, x81, x82, x83, x84, x85, x86, x87, x88, x89, x90, x91, x92, x93, x94, x95, x96, x97, x98, x99, x100, x101, x102, rfl, gD, gG⟩ := hI
        subst hmk
        have e2 := gG.2.2.1 (hd 2 (by decide))
        subst e2
        have e23 := gG.2.2.2.2.2.2.2.2.2.2.2.2.2.2.2.2.2.2.2.2.2.2.2.1 (hd 23 (by decide))
        subst e23
        refine wpOp_step rfl (fun K hK => ?_)
        go_simp
        refine hK _ _ ?_
        refine ⟨_, _, _, _, _, _, _, _, _, _, _, _, _, _, _, _, _, _, _, _, _, _, _, _, _, rfl, gD, fun h => gG.1 h, fun h => gG.2.1 h, fun h => gG.2.2.1 h, fun h => gG.2.2.2.1 h, fun h => gG.2.2.2.2.1 h, fun h => gG.2.2.2.2.2.1 h, fun h => gG.2.2.2.2.2.2.1 h, fun h => gG.2.2.2.2.2.2.2.1 h, fun h => gG.2.2.2.2.2.2.2.2.1 h, fun h => gG.2.2.2.2.2.2.2.2.2.1 h, fun h => gG.2.2.2.2.2.2.2.2.2.2.1 h, fun h => gG.2.2.2.2.2.2.2.2.2.2.2.1 h, fun h => gG.2.2.2.2.2.2.2.2.2.2.2.2.1 h, fun h => gG.2.2.2.2.2.2.2.2.2.2.2.2.2.1 h, fun h => gG.2.2.2.2.2.2.2.2.2.2.2.2.2.2.1 h, fun h => gG.2.2.2.2.2.2.2.2.2.2.2.2.2.2.2.1 h, fun h => gG.2.2.2.2.2.2.2.2.2.2.2.2.2.2.2.2.1 h, fun h => gG.2.2.2.2.2.2.2.2.2.2.2.2.2.2.2.2.2.1 h, fun h => gG.2.2.2.2.2.2.2.2.2.2.2.2.2.2.2.2.2.2.1 h, fun h => gG.2.2.2.2.2.2.2.2.2.2.2.2.2.2.2.2.2.2.2.1 h, fun h => gG.2.2.2.2.2.2.2.2.2.2.2.2.2.2.2.2.2.2.2.2.1 h, fun h => gG.2.2.2.2.2.2.2.2.2.2.2.2.2.2.2.2.2.2.2.2.2.1 h, fun h => gG.2.2.2.2.2.2.2.2.2.2.2.2.2.2.2.2.2.2.2.2.2.2.1 h, fun h => gG.2.2.2.2.2.2.2.2.2.2.2.2.2.2.2.2.2.2.2.2.2.2.2.1 h, fun _ => (by first | rfl | simp)⟩
      refine below_succ ?_ ?_
      · intro f az u hf hd hcl hI
        obtain ⟨x78, x79, x80, x81, x82, x83, x84, x85, x86, x87, x88, x89, x90, x91, x92, x93, x94, x95, x96, x97, x98, x99, x100, x101, x102, rfl, gD, gG⟩ := hI
        subst hmk
        have e2 := gG.2.2.1 (hd 2 (by decide))
        subst e2
        refine wpOp_step rfl (fun K hK => ?_)
        refine skip_op rfl ?_
        try go_simp
        refine hK _ _ ?_
        refine ⟨_, _, _, _, _, _, _, _, _, _, _, _, _, _, _, _, _, _, _, _, _, _, _, _, _, rfl, gD, fun h => gG.1 h, fun h => gG.2.1 h, fun h => gG.2.2.1 h, fun h => gG.2.2.2.1 h, fun h => gG.2.2.2.2.1 h, fun h => gG.2.2.2.2.2.1 h, fun h => gG.2.2.2.2.2.2.1 h, fun h => gG.2.2.2.2.2.2.2.1 h, fun h => gG.2.2.2.2.2.2.2.2.1 h, fun h => gG.2.2.2.2.2.2.2.2.2.1 h, fun h => gG.2.2.2.2.2.2.2.2.2.2.1 h, fun h => gG.2.2.2.2.2.2.2.2.2.2.2.1 h, fun h => gG.2.2.2.2.2.2.2.2.2.2.2.2.1 h, fun h => gG.2.2.2.2.2.2.2.2.2.2.2.2.2.1 h, fun h => gG.2.2.2.2.2.2.2.2.2.2.2.2.2.2.1 h, fun h => gG.2.2.2.2.2.2.2.2.2.2.2.2.2.2.2.1 h, fun h => gG.2.2.2.2.2.2.2.2.2.2.2.2.2.2.2.2.1 h, fun h => gG.2.2.2.2.2.2.2.2.2.2.2.2.2.2.2.2.2.1 h, fun h => gG.2.2.2.2.2.2.2.2.2.2.2.2.2.2.2.2.2.2.1 h, fun h => gG.2.2.2.2.2.2.2.2.2.2.2.2.2.2.2.2.2.2.2.1 h, fun h => gG.2.2.2.2.2.2.2.2.2.2.2.2.2.2.2.2.2.2.2.2.1 h, fun h => gG.2.2.2.2.2.2.2.2.2.2.2.2.2.2.2.2.2.2.2.2.2.1 h, fun h => gG.2.2.2.2.2.2.2.2.2.2.2.2.2.2.2.2.2.2.2.2.2.2.1 h, fun _ => rfl, fun h => gG.2.2.2.2.2.2.2.2.2.2.2.2.2.2.2.2.2.2.2.2.2.2.2.2 h⟩
      refine below_succ ?_ ?_
      · intro f az u hf hd hcl hI
        obtain ⟨x78, x79, x80, x81, x82, x83, x84, x85, x86, x87, x88, x89, x90, x91, x92, x93, x94, x95, x96, x97, x98, x99, x100, x101, x102, rfl, gD, gG⟩ := hI
        subst hmk
        have e14 := gG.2.2.2.2.2.2.2.2.2.2.2.2.2.2.1 (hd 14 (by decide))
        subst e14
        refine wpOp_step rfl (fun K hK => ?_)
        refine skip_op rfl ?_
        try go_simp
        refine hK _ _ ?_
        refine ⟨_, _, _, _, _, _, _, _, _, _, _, _, _, _, _, _, _, _, _, _, _, _, _, _, _, rfl, gD, fun h => gG.1 h, fun h => gG.2.1 h, fun h => gG.2.2.1 h, fun h => gG.2.2.2.1 h, fun h => gG.2.2.2.2.1 h, fun h => gG.2.2.2.2.2.1 h, fun h => gG.2.2.2.2.2.2.1 h, fun h => gG.2.2.2.2.2.2.2.1 h, fun h => gG.2.2.2.2.2.2.2.2.1 h, fun h => gG.2.2.2.2.2.2.2.2.2.1 h, fun h => gG.2.2.2.2.2.2.2.2.2.2.1 h, fun h => gG.2.2.2.2.2.2.2.2.2.2.2.1 h, fun h => gG.2.2.2.2.2.2.2.2.2.2.2.2.1 h, fun h => gG.2.2.2.2.2.2.2.2.2.2.2.2.2.1 h, fun h => gG.2.2.2.2.2.2.2.2.2.2.2.2.2.2.1 h, fun h => gG.2.2.2.2.2.2.2.2.2.2.2.2.2.2.2.1 h, fun h => gG.2.2.2.2.2.2.2.2.2.2.2.2.2.2.2.2.1 h, fun h => gG.2.2.2.2.2.2.2.2.2.2.2.2.2.2.2.2.2.1 h, fun h => gG.2.2.2.2.2.2.2.2.2.2.2.2.2.2.2.2.2.2.1 h, fun h => gG.2.2.2.2.2.2.2.2.2.2.2.2.2.2.2.2.2.2.2.1 h, fun h => gG.2.2.2.2.2.2.2.2.2.2.2.2.2.2.2.2.2.2.2.2.1 h, fun h => gG.2.2.2.2.2.2.2.2.2.2.2.2.2.2.2.2.2.2.2.2.2.1 h, fun _ => rfl, fun h => gG.2.2.2.2.2.2.2.2.2.2.2.2.2.2.2.2.2.2.2.2.2.2.2.1 h, fun h => gG.2.2.2.2.2.2.2.2.2.2.2.2.2.2.2.2.2.2.2.2.2.2.2.2 h⟩
      refine below_succ ?_ ?_
      · intro f az u hf hd hcl hI
        obtain ⟨x78, x79, x80, x81, x82, x83, x84, x85, x86, x87, x88, x89, x90, x91, x92, x93, x94, x95, x96, x97, x98, x99, x100, x101, x102, rfl, gD, gG⟩ := hI
        subst hmk
        have e14 := gG.2.2.2.2.2.2.2.2.2.2.2.2.2.2.1 (hd 14 (by decide))
        subst e14
        refine wpOp_step rfl (fun K hK => ?_)
        refine skip_op rfl ?_
        try go_simp
        refine hK _ _ ?_
        refine ⟨_, _, _, _, _, _, _, _, _, _, _, _, _, _, _, _, _, _, _, _, _, _, _, _, _, rfl, gD, fun h => gG.1 h, fun h => gG.2.1 h, fun h => gG.2.2.1 h, fun h => gG.2.2.2.1 h, fun h => gG.2.2.2.2.1 h, fun h => gG.2.2.2.2.2.1 h, fun h => gG.2.2.2.2.2.2.1 h, fun h => gG.2.2.2.2.2.2.2.1 h, fun h => gG.2.2.2.2.2.2.2.2.1 h, fun h => gG.2.2.2.2.2.2.2.2.2.1 h, fun h => gG.2.2.2.2.2.2.2.2.2.2.1 h, fun h => gG.2.2.2.2.2.2.2.2.2.2.2.1 h, fun h => gG.2.2.2.2.2.2.2.2.2.2.2.2.1 h, fun h => gG.2.2.2.2.2.2.2.2.2.2.2.2.2.1 h, fun h => gG.2.2.2.2.2.2.2.2.2.2.2.2.2.2.1 h, fun h => gG.2.2.2.2.2.2.2.2.2.2.2.2.2.2.2.1 h, fun h => gG.2.2.2.2.2.2.2.2.2.2.2.2.2.2.2.2.1 h, fun h => gG.2.2.2.2.2.2.2.2.2.2.2.2.2.2.2.2.2.1 h, fun h => gG.2.2.2.2.2.2.2.2.2.2.2.2.2.2.2.2.2.2.1 h, fun h => gG.2.2.2.2.2.2.2.2.2.2.2.2.2.2.2.2.2.2.2.1 h, fun h => gG.2.2.2.2.2.2.2.2.2.2.2.2.2.2.2.2.2.2.2.2.1 h, fun _ => rfl, fun h => gG.2.2.2.2.2.2.2.2.2.2.2.2.2.2.2.2.2.2.2.2.2.2.1 h, fun h => gG.2.2.2.2.2.2.2.2.2.2.2.2.2.2.2.2.2.2.2.2.2.2.2.1 h, fun h => gG.2.2.2.2.2.2.2.2.2.2.2.2.2.2.2.2.2.2.2.2.2.2.2.2 h⟩
      refine below_succ ?_ ?_
      · intro f az u hf hd hcl hI
        obtain ⟨x78, x79, x80, x81, x82, x83, x84, x85, x86, x87, x88, x89, x90, x91, x92, x93, x94, x95, x96, x97, x98, x99, x100, x101, x102, rfl, gD, gG⟩ := hI
        subst hmk
        have e14 := gG.2.2.2.2.2.2.2.2.2.2.2.2.2.2.1 (hd 14 (by decide))
        subst e14
        refine wpOp_step rfl (fun K hK => ?_)
        refine skip_op rfl ?_
        try go_simp
        refine hK _ _ ?_
        refine ⟨_, _, _, _, _, _, _, _, _, _, _, _, _, _, _, _, _, _, _, _, _, _, _, _, _, rfl, gD, fun h => gG.1 h, fun h => gG.2.1 h, fun h => gG.2.2.1 h, fun h => gG.2.2.2.1 h, fun h => gG.2.2.2.2.1 h, fun h => gG.2.2.2.2.2.1 h, fun h => gG.2.2.2.2.2.2.1 h, fun h => gG.2.2.2.2.2.2.2.1 h, fun h => gG.2.2.2.2.2.2.2.2.1 h, fun h => gG.2.2.2.2.2.2.2.2.2.1 h, fun h => gG.2.2.2.2.2.2.2.2.2.2.1 h, fun h => gG.2.2.2.2.2.2.2.2.2.2.2.1 h, fun h => gG.2.2.2.2.2.2.2.2.2.2.2.2.1 h, fun h => gG.2.2.2.2.2.2.2.2.2.2.2.2.2.1 h, fun h => gG.2.2.2.2.2.2.2.2.2.2.2.2.2.2.1 h, fun h => gG.2.2.2.2.2.2.2.2.2.2.2.2.2.2.2.1 h, fun h => gG.2.2.2.2.2.2.2.2.2.2.2.2.2.2.2.2.1 h, fun h => gG.2.2.2.2.2.2.2.2.2.2.2.2.2.2.2.2.2.1 h, fun h => gG.2.2.2.2.2.2.2.2.2.2.2.2.2.2.2.2.2.2.1 h, fun h => gG.2.2.2.2.2.2.2.2.2.2.2.2.2.2.2.2.2.2.2.1 h, fun _ => rfl, fun h => gG.2.2.2.2.2.2.2.2.2.2.2.2.2.2.2.2.2.2.2.2.2.1 h, fun h => gG.2.2.2.2.2.2.2.2.2.2.2.2.2.2.2.2.2.2.2.2.2.2.1 h, fun h => gG.2.2.2.2.2.2.2.2.2.2.2.2.2.2.2.2.2.2.2.2.2.2.2.1 h, fun h => gG.2.2.2.2.2.2.2.2.2.2.2.2.2.2.2.2.2.2.2.2.2.2.2.2 h⟩
      refine below_succ ?_ ?_
      · intro f az u hf hd hcl hI
        obtain ⟨x78, x79, x80, x81, x82, x83, x84, x85, x86, x87, x88, x89, x90, x91, x92, x93, x94, x95, x96, x97, x98, x99, x100, x101, x102, rfl, gD, gG⟩ := hI
        subst hmk
        have e14 := gG.2.2.2.2.2.2.2.2.2.2.2.2.2.2.1 (hd 14 (by decide))
        subst e14
        refine wpOp_step rfl (fun K hK => ?_)
        refine skip_op rfl ?_
        try go_simp
        refine hK _ _ ?_
        refine ⟨_, _, _, _, _, _, _, _, _, _, _, _, _, _, _, _, _, _, _, _, _, _, _, _, _, rfl, gD, fun h => gG.1 h, fun h => gG.2.1 h, fun h => gG.2.2.1 h, fun h => gG.2.2.2.1 h, fun h => gG.2.2.2.2.1 h, fun h => gG.2.2.2.2.2.1 h, fun h => gG.2.2.2.2.2.2.1 h, fun h => gG.2.2.2.2.2.2.2.1 h, fun h => gG.2.2.2.2.2.2.2.2.1 h, fun h => gG.2.2.2.2.2.2.2.2.2.1 h, fun h => gG.2.2.2.2.2.2.2.2.2.2.1 h, fun h => gG.2.2.2.2.2.2.2.2.2.2.2.1 h, fun h => gG.2.2.2.2.2.2.2.2.2.2.2.2.1 h, fun h => gG.2.2.2.2.2.2.2.2.2.2.2.2.2.1 h, fun h => gG.2.2.2.2.2.2.2.2.2.2.2.2.2.2.1 h, fun h => gG.2.2.2.2.2.2.2.2.2.2.2.2.2.2.2.1 h, fun h => gG.2.2.2.2.2.2.2.2.2.2.2.2.2.2.2.2.1 h, fun h => gG.2.2.2.2.2.2.2.2.2.2.2.2.2.2.2.2.2.1 h, fun h => gG.2.2.2.2.2.2.2.2.2.2.2.2.2.2.2.2.2.2.1 h, fun _ => rfl, fun h => gG.2.2.2.2.2.2.2.2.2.2.2.2.2.2.2.2.2.2.2.2.1 h, fun h => gG.2.2.2.2.2.2.2.2.2.2.2.2.2.2.2.2.2.2.2.2.2.1 h, fun h => gG.2.2.2.2.2.2.2.2.2.2.2.2.2.2.2.2.2.2.2.2.2.2.1 h, fun h => gG.2.2.2.2.2.2.2.2.2.2.2.2.2.2.2.2.2.2.2.2.2.2.2.1 h, fun h => gG.2.2.2.2.2.2.2.2.2.2.2.2.2.2.2.2.2.2.2.2.2.2.2.2 h⟩
      refine below_succ ?_ ?_
      · intro f az u hf hd hcl hI
        obtain ⟨x78, x79, x80, x81, x82, x83, x84, x85, x86, x87, x88, x89, x90, x91, x92, x93, x94, x95, x96, x97, x98, x99, x100, x101, x102, rfl, gD, gG⟩ := hI
        subst hmk
        have e14 := gG.2.2.2.2.2.2.2.2.2.2.2.2.2.2.1 (hd 14 (by decide))
        subst e14
        refine wpOp_step rfl (fun K hK => ?_)
        refine skip_op rfl ?_
        try go_simp
        refine hK _ _ ?_
        refine ⟨_, _, _, _, _, _, _, _, _, _, _, _, _, _, _, _, _, _, _, _, _, _, _, _, _, rfl, gD, fun h => gG.1 h, fun h => gG.2.1 h, fun h => gG.2.2.1 h, fun h => gG.2.2.2.1 h, fun h => gG.2.2.2.2.1 h, fun h => gG.2.2.2.2.2.1 h, fun h => gG.2.2.2.2.2.2.1 h, fun h => gG.2.2.2.2.2.2.2.1 h, fun h => gG.2.2.2.2.2.2.2.2.1 h, fun h => gG.2.2.2.2.2.2.2.2.2.1 h, fun h => gG.2.2.2.2.2.2.2.2.2.2.1 h, fun h => gG.2.2.2.2.2.2.2.2.2.2.2.1 h, fun h => gG.2.2.2.2.2.2.2.2.2.2.2.2.1 h, fun h => gG.2.2.2.2.2.2.2.2.2.2.2.2.2.1 h, fun h => gG.2.2.2.2.2.2.2.2.2.2.2.2.2.2.1 h, fun h => gG.2.2.2.2.2.2.2.2.2.2.2.2.2.2.2.1 h, fun h => gG.2.2.2.2.2.2.2.2.2.2.2.2.2.2.2.2.1 h, fun h => gG.2.2.2.2.2.2.2.2.2.2.2.2.2.2.2.2.2.1 h, fun _ => rfl, fun h => gG.2.2.2.2.2.2.2.2.2.2.2.2.2.2.2.2.2.2.2.1 h, fun h => gG.2.2.2.2.2.2.2.2.2.2.2.2.2.2.2.2.2.2.2.2.1 h, fun h => gG.2.2.2.2.2.2.2.2.2.2.2.2.2.2.2.2.2.2.2.2.2.1 h, fun h => gG.2.2.2.2.2.2.2.2.2.2.2.2.2.2.2.2.2.2.2.2.2.2.1 h, fun h => gG.2.2.2.2.2.2.2.2.2.2.2.2.2.2.2.2.2.2.2.2.2.2.2.1 h, fun h => gG.2.2.2.2.2.2.2.2.2.2.2.2.2.2.2.2.2.2.2.2.2.2.2.2 h⟩
      refine below_succ ?_ ?_
      · intro f az u hf hd hcl hI
        obtain ⟨x78, x79, x80, x81, x82, x83, x84, x85, x86, x87, x88, x89, x90, x91, x92, x93, x94, x95, x96, x97, x98, x99, x100, x101, x102, rfl, gD, gG⟩ := hI
        subst hmk
        have e14 := gG.2.2.2.2.2.2.2.2.2.2.2.2.2.2.1 (hd 14 (by decide))
        subst e14
        refine wpOp_step rfl (fun K hK => ?_)
        refine skip_op rfl ?_
        try go_simp
        refine hK _ _ ?_
        refine ⟨_, _, _, _, _, _, _, _, _, _, _, _, _, _, _, _, _, _, _, _, _, _, _, _, _, rfl, gD, fun h => gG.1 h, fun h => gG.2.1 h, fun h => gG.2.2.1 h, fun h => gG.2.2.2.1 h, fun h => gG.2.2.2.2.1 h, fun h => gG.2.2.2.2.2.1 h, fun h => gG.2.2.2.2.2.2.1 h, fun h => gG.2.2.2.2.2.2.2.1 h, fun h => gG.2.2.2.2.2.2.2.2.1 h, fun h => gG.2.2.2.2.2.2.2.2.2.1 h, fun h => gG.2.2.2.2.2.2.2.2.2.2.1 h, fun h => gG.2.2.2.2.2.2.2.2.2.2.2.1 h, fun h => gG.2.2.2.2.2.2.2.2.2.2.2.2.1 h, fun h => gG.2.2.2.2.2.2.2.2.2.2.2.2.2.1 h, fun h => gG.2.2.2.2.2.2.2.2.2.2.2.2.2.2.1 h, fun h => gG.2.2.2.2.2.2.2.2.2.2.2.2.2.2.2.1 h, fun h => gG.2.2.2.2.2.2.2.2.2.2.2.2.2.2.2.2.1 h, fun _ => rfl, fun h => gG.2.2.2.2.2.2.2.2.2.2.2.2.2.2.2.2.2.2.1 h, fun h => gG.2.2.2.2.2.2.2.2.2.2.2.2.2.2.2.2.2.2.2.1 h, fun h => gG.2.2.2.2.2.2.2.2.2.2.2.2.2.2.2.2.2.2.2.2.1 h, fun h => gG.2.2.2.2.2.2.2.2.2.2.2.2.2.2.2.2.2.2.2.2.2.1 h, fun h => gG.2.2.2.2.2.2.2.2.2.2.2.2.2.2.2.2.2.2.2.2.2.2.1 h, fun h => gG.2.2.2.2.2.2.2.2.2.2.2.2.2.2.2.2.2.2.2.2.2.2.2.1 h, fun h => gG.2.2.2.2.2.2.2.2.2.2.2.2.2.2.2.2.2.2.2.2.2.2.2.2 h⟩
      refine below_succ ?_ ?_
      · intro f az u hf hd hcl hI
        obtain ⟨x78, x79, x80, x81, x82, x83, x84, x85, x86, x87, x88, x89, x90, x91, x92, x93, x94, x95, x96, x97, x98, x99, x100, x101, x102, rfl, gD, gG⟩ := hI
        subst hmk
        have e14 := gG.2.2.2.2.2.2.2.2.2.2.2.2.2.2.1 (hd 14 (by decide))
        subst e14
        refine wpOp_step rfl (fun K hK => ?_)
        refine skip_op rfl ?_
        try go_simp
        refine hK _ _ ?_
        refine ⟨_, _, _, _, _, _, _, _, _, _, _, _, _, _, _, _, _, _, _, _, _, _, _, _, _, rfl, gD, fun h => gG.1 h, fun h => gG.2.1 h, fun h => gG.2.2.1 h, fun h => gG.2.2.2.1 h, fun h => gG.2.2.2.2.1 h, fun h => gG.2.2.2.2.2.1 h, fun h => gG.2.2.2.2.2.2.1 h, fun h => gG.2.2.2.2.2.2.2.1 h, fun h => gG.2.2.2.2.2.2.2.2.1 h, fun h => gG.2.2.2.2.2.2.2.2.2.1 h, fun h => gG.2.2.2.2.2.2.2.2.2.2.1 h, fun h => gG.2.2.2.2.2.2.2.2.2.2.2.1 h, fun h => gG.2.2.2.2.2.2.2.2.2.2.2.2.1 h, fun h => gG.2.2.2.2.2.2.2.2.2.2.2.2.2.1 h, fun h => gG.2.2.2.2.2.2.2.2.2.2.2.2.2.2.1 h, fun h => gG.2.2.2.2.2.2.2.2.2.2.2.2.2.2.2.1 h, fun _ => rfl, fun h => gG.2.2.2.2.2.2.2.2.2.2.2.2.2.2.2.2.2.1 h, fun h => gG.2.2.2.2.2.2.2.2.2.2.2.2.2.2.2.2.2.2.1 h, fun h => gG.2.2.2.2.2.2.2.2.2.2.2.2.2.2.2.2.2.2.2.1 h, fun h => gG.2.2.2.2.2.2.2.2.2.2.2.2.2.2.2.2.2.2.2.2.1 h, fun h => gG.2.2.2.2.2.2.2.2.2.2.2.2.2.2.2.2.2.2.2.2.2.1 h, fun h => gG.2.2.2.2.2.2.2.2.2.2.2.2.2.2.2.2.2.2.2.2.2.2.1 h, fun h => gG.2.2.2.2.2.2.2.2.2.2.2.2.2.2.2.2.2.2.2.2.2.2.2.1 h, fun h => gG.2.2.2.2.2.2.2.2.2.2.2.2.2.2.2.2.2.2.2.2.2.2.2.2 h⟩
      refine below_succ ?_ ?_
      · intro f az u hf hd hcl hI
        obtain ⟨x78, x79, x80, x81, x82, x83, x84, x85, x86, x87, x88, x89, x90, x91, x92, x93, x94, x95, x96, x97, x98, x99, x100, x101, x102, rfl, gD, gG⟩ := hI
        subst hmk
        have e14 := gG.2.2.2.2.2.2.2.2.2.2.2.2.2.2.1 (hd 14 (by decide))
        subst e14
        refine wpOp_step rfl (fun K hK => ?_)
        refine skip_op rfl ?_
        try go_simp
        refine hK _ _ ?_
        refine ⟨_, _, _, _, _, _, _, _, _, _, _, _, _, _, _, _, _, _, _, _, _, _, _, _, _, rfl, gD, fun h => gG.1 h, fun h => gG.2.1 h, fun h => gG.2.2.1 h, fun h => gG.2.2.2.1 h, fun h => gG.2.2.2.2.1 h, fun h => gG.2.2.2.2.2.1 h, fun h => gG.2.2.2.2.2.2.1 h, fun h => gG.2.2.2.2.2.2.2.1 h, fun h => gG.2.2.2.2.2.2.2.2.1 h, fun h => gG.2.2.2.2.2.2.2.2.2.1 h, fun h => gG.2.2.2.2.2.2.2.2.2.2.1 h, fun h => gG.2.2.2.2.2.2.2.2.2.2.2.1 h, fun h => gG.2.2.2.2.2.2.2.2.2.2.2.2.1 h, fun h => gG.2.2.2.2.2.2.2.2.2.2.2.2.2.1 h, fun h => gG.2.2.2.2.2.2.2.2.2.2.2.2.2.2.1 h, fun _ => rfl, fun h => gG.2.2.2.2.2.2.2.2.2.2.2.2.2.2.2.2.1 h, fun h => gG.2.2.2.2.2.2.2.2.2.2.2.2.2.2.2.2.2.1 h, fun h => gG.2.2.2.2.2.2.2.2.2.2.2.2.2.2.2.2.2.2.1 h, fun h => gG.2.2.2.2.2.2.2.2.2.2.2.2.2.2.2.2.2.2.2.1 h, fun h => gG.2.2.2.2.2.2.2.2.2.2.2.2.2.2.2.2.2.2.2.2.1 h, fun h => gG.2.2.2.2.2.2.2.2.2.2.2.2.2.2.2.2.2.2.2.2.2.1 h, fun h => gG.2.2.2.2.2.2.2.2.2.2.2.2.2.2.2.2.2.2.2.2.2.2.1 h, fun h => gG.2.2.2.2.2.2.2.2.2.2.2.2.2.2.2.2.2.2.2.2.2.2.2.1 h, fun h => gG.2.2.2.2.2.2.2.2.2.2.2.2.2.2.2.2.2.2.2.2.2.2.2.2 h⟩
      refine below_succ ?_ ?_
      · intro f az u hf hd hcl hI
        obtain ⟨x78, x79, x80, x81, x82, x83, x84, x85, x86, x87, x88, x89, x90, x91, x92, x93, x94, x95, x96, x97, x98, x99, x100, x101, x102, rfl, gD, gG⟩ := hI
        subst hmk
        have e2 := gG.2.2.1 (hd 2 (by decide))
        subst e2
        refine wpOp_step rfl (fun K hK => ?_)
        refine skip_op rfl ?_
        try go_simp
        refine hK _ _ ?_
        refine ⟨_, _, _, _, _, _, _, _, _, _, _, _, _, _, _, _, _, _, _, _, _, _, _, _, _, rfl, gD, fun h => gG.1 h, fun h => gG.2.1 h, fun h => gG.2.2.1 h, fun h => gG.2.2.2.1 h, fun h => gG.2.2.2.2.1 h, fun h => gG.2.2.2.2.2.1 h, fun h => gG.2.2.2.2.2.2.1 h, fun h => gG.2.2.2.2.2.2.2.1 h, fun h => gG.2.2.2.2.2.2.2.2.1 h, fun h => gG.2.2.2.2.2.2.2.2.2.1 h, fun h => gG.2.2.2.2.2.2.2.2.2.2.1 h, fun h => gG.2.2.2.2.2.2.2.2.2.2.2.1 h, fun h => gG.2.2.2.2.2.2.2.2.2.2.2.2.1 h, fun h => gG.2.2.2.2.2.2.2.2.2.2.2.2.2.1 h, fun _ => rfl, fun h => gG.2.2.2.2.2.2.2.2.2.2.2.2.2.2.2.1 h, fun h => gG.2.2.2.2.2.2.2.2.2.2.2.2.2.2.2.2.1 h, fun h => gG.2.2.2.2.2.2.2.2.2.2.2.2.2.2.2.2.2.1 h, fun h => gG.2.2.2.2.2.2.2.2.2.2.2.2.2.2.2.2.2.2.1 h, fun h => gG.2.2.2.2.2.2.2.2.2.2.2.2.2.2.2.2.2.2.2.1 h, fun h => gG.2.2.2.2.2.2.2.2.2.2.2.2.2.2.2.2.2.2.2.2.1 h, fun h => gG.2.2.2.2.2.2.2.2.2.2.2.2.2.2.2.2.2.2.2.2.2.1 h, fun h => gG.2.2.2.2.2.2.2.2.2.2.2.2.2.2.2.2.2.2.2.2.2.2.1 h, fun h => gG.2.2.2.2.2.2.2.2.2.2.2.2.2.2.2.2.2.2.2.2.2.2.2.1 h, fun h => gG.2.2.2.2.2.2.2.2.2.2.2.2.2.2.2.2.2.2.2.2.2.2.2.2 h⟩
      refine below_succ ?_ ?_
      · intro f az u hf hd hcl hI
        obtain ⟨x78, x79, x80, x81, x82, x83, x84, x85, x86, x87, x88, x89, x90, x91, x92, x93, x94, x95, x96, x97, x98, x99, x100, x101, x102, rfl, gD, gG⟩ := hI
        subst hmk
        have e2 := gG.2.2.1 (hd 2 (by decide))
        subst e2
        refine wpOp_step rfl (fun K hK => ?_)
        refine skip_op rfl ?_
        try go_simp
        refine hK _ _ ?_
        refine ⟨_, _, _, _, _, _, _, _, _, _, _, _, _, _, _, _, _, _, _, _, _, _, _, _, _, rfl, gD, fun h => gG.1 h, fun h => gG.2.1 h, fun h => gG.2.2.1 h, fun h => gG.2.2.2.1 h, fun h => gG.2.2.2.2.1 h, fun h => gG.2.2.2.2.2.1 h, fun h => gG.2.2.2.2.2.2.1 h, fun h => gG.2.2.2.2.2.2.2.1 h, fun h => gG.2.2.2.2.2.2.2.2.1 h, fun h => gG.2.2.2.2.2.2.2.2.2.1 h, fun h => gG.2.2.2.2.2.2.2.2.2.2.1 h, fun h => gG.2.2.2.2.2.2.2.2.2.2.2.1 h, fun h => gG.2.2.2.2.2.2.2.2.2.2.2.2.1 h, fun _ => rfl, fun h => gG.2.2.2.2.2.2.2.2.2.2.2.2.2.2.1 h, fun h => gG.2.2.2.2.2.2.2.2.2.2.2.2.2.2.2.1 h, fun h => gG.2.2.2.2.2.2.2.2.2.2.2.2.2.2.2.2.1 h, fun h => gG.2.2.2.2.2.2.2.2.2.2.2.2.2.2.2.2.2.1 h, fun h => gG.2.2.2.2.2.2.2.2.2.2.2.2.2.2.2.2.2.2.1 h, fun h => gG.2.2.2.2.2.2.2.2.2.2.2.2.2.2.2.2.2.2.2.1 h, fun h => gG.2.2.2.2.2.2.2.2.2.2.2.2.2.2.2.2.2.2.2.2.1 h, fun h => gG.2.2.2.2.2.2.2.2.2.2.2.2.2.2.2.2.2.2.2.2.2.1 h, fun h => gG.2.2.2.2.2.2.2.2.2.2.2.2.2.2.2.2.2.2.2.2.2.2.1 h, fun h => gG.2.2.2.2.2.2.2.2.2.2.2.2.2.2.2.2.2.2.2.2.2.2.2.1 h, fun h => gG.2.2.2.2.2.2.2.2.2.2.2.2.2.2.2.2.2.2.2.2.2.2.2.2 h⟩
      refine below_succ ?_ ?_
      · intro f az u hf hd hcl hI
        obtain ⟨x78, x79, x80, x81, x82, x83, x84, x85, x86, x87, x88, x89, x90, x91, x92, x93, x94, x95, x96, x97, x98, x99, x100, x101, x102, rfl, gD, gG⟩ := hI
        subst hmk
        have e6 := gG.2.2.2.2.2.2.1 (hd 6 (by decide))
        subst e6
        refine wpOp_step rfl (fun K hK => ?_)
        refine skip_op rfl ?_
        try go_simp
        refine hK _ _ ?_
        refine ⟨_, _, _, _, _, _, _, _, _, _, _, _, _, _, _, _, _, _, _, _, _, _, _, _, _, rfl, gD, fun h => gG.1 h, fun h => gG.2.1 h, fun h => gG.2.2.1 h, fun h => gG.2.2.2.1 h, fun h => gG.2.2.2.2.1 h, fun h => gG.2.2.2.2.2.1 h, fun h => gG.2.2.2.2.2.2.1 h, fun h => gG.2.2.2.2.2.2.2.1 h, fun h => gG.2.2.2.2.2.2.2.2.1 h, fun h => gG.2.2.2.2.2.2.2.2.2.1 h, fun h => gG.2.2.2.2.2.2.2.2.2.2.1 h, fun h => gG.2.2.2.2.2.2.2.2.2.2.2.1 h, fun _ => rfl, fun h => gG.2.2.2.2.2.2.2.2.2.2.2.2.2.1 h, fun h => gG.2.2.2.2.2.2.2.2.2.2.2.2.2.2.1 h, fun h => gG.2.2.2.2.2.2.2.2.2.2.2.2.2.2.2.1 h, fun h => gG.2.2.2.2.2.2.2.2.2.2.2.2.2.2.2.2.1 h, fun h => gG.2.2.2.2.2.2.2.2.2.2.2.2.2.2.2.2.2.1 h, fun h => gG.2.2.2.2.2.2.2.2.2.2.2.2.2.2.2.2.2.2.1 h, fun h => gG.2.2.2.2.2.2.2.2.2.2.2.2.2.2.2.2.2.2.2.1 h, fun h => gG.2.2.2.2.2.2.2.2.2.2.2.2.2.2.2.2.2.2.2.2.1 h, fun h => gG.2.2.2.2.2.2.2.2.2.2.2.2.2.2.2.2.2.2.2.2.2.1 h, fun h => gG.2.2.2.2.2.2.2.2.2.2.2.2.2.2.2.2.2.2.2.2.2.2.1 h, fun h => gG.2.2.2.2.2.2.2.2.2.2.2.2.2.2.2.2.2.2.2.2.2.2.2.1 h, fun h => gG.2.2.2.2.2.2.2.2.2.2.2.2.2.2.2.2.2.2.2.2.2.2.2.2 h⟩
      refine below_succ ?_ ?_
      · intro f az u hf hd hcl hI
        obtain ⟨x78, x79, x80, x81, x82, x83, x84, x85, x86, x87, x88, x89, x90, x91, x92, x93, x94, x95, x96, x97, x98, x99, x100, x101, x102, rfl, gD, gG⟩ := hI
        subst hmk
        have e6 := gG.2.2.2.2.2.2.1 (hd 6 (by decide))
        subst e6
        refine wpOp_step rfl (fun K hK => ?_)
        refine skip_op rfl ?_
        try go_simp
        refine hK _ _ ?_
        refine ⟨_, _, _, _, _, _, _, _, _, _, _, _, _, _, _, _, _, _, _, _, _, _, _, _, _, rfl, gD, fun h => gG.1 h, fun h => gG.2.1 h, fun h => gG.2.2.1 h, fun h => gG.2.2.2.1 h, fun h => gG.2.2.2.2.1 h, fun h => gG.2.2.2.2.2.1 h, fun h => gG.2.2.2.2.2.2.1 h, fun h => gG.2.2.2.2.2.2.2.1 h, fun h => gG.2.2.2.2.2.2.2.2.1 h, fun h => gG.2.2.2.2.2.2.2.2.2.1 h, fun h => gG.2.2.2.2.2.2.2.2.2.2.1 h, fun _ => rfl, fun h => gG.2.2.2.2.2.2.2.2.2.2.2.2.1 h, fun h => gG.2.2.2.2.2.2.2.2.2.2.2.2.2.1 h, fun h => gG.2.2.2.2.2.2.2.2.2.2.2.2.2.2.1 h, fun h => gG.2.2.2.2.2.2.2.2.2.2.2.2.2.2.2.1 h, fun h => gG.2.2.2.2.2.2.2.2.2.2.2.2.2.2.2.2.1 h, fun h => gG.2.2.2.2.2.2.2.2.2.2.2.2.2.2.2.2.2.1 h, fun h => gG.2.2.2.2.2.2.2.2.2.2.2.2.2.2.2.2.2.2.1 h, fun h => gG.2.2.2.2.2.2.2.2.2.2.2.2.2.2.2.2.2.2.2.1 h, fun h => gG.2.2.2.2.2.2.2.2.2.2.2.2.2.2.2.2.2.2.2.2.1 h, fun h => gG.2.2.2.2.2.2.2.2.2.2.2.2.2.2.2.2.2.2.2.2.2.1 h, fun h => gG.2.2.2.2.2.2.2.2.2.2.2.2.2.2.2.2.2.2.2.2.2.2.1 h, fun h => gG.2.2.2.2.2.2.2.2.2.2.2.2.2.2.2.2.2.2.2.2.2.2.2.1 h, fun h => gG.2.2.2.2.2.2.2.2.2.2.2.2.2.2.2.2.2.2.2.2.2.2.2.2 h⟩
      refine below_succ ?_ ?_
      · intro f az u hf hd hcl hI
        obtain ⟨x78, x79, x80, x81, x82, x83, x84, x85, x86, x87, x88, x89, x90, x91, x92, x93, x94, x95, x96, x97, x98, x99, x100, x101, x102, rfl, gD, gG⟩ := hI
        subst hmk
        have e6 := gG.2.2.2.2.2.2.1 (hd 6 (by decide))
        subst e6
        refine wpOp_step rfl (fun K hK => ?_)
        refine skip_op rfl ?_
        try go_simp
        refine hK _ _ ?_
        refine ⟨_, _, _, _, _, _, _, _, _, _, _, _, _, _, _, _, _, _, _, _, _, _, _, _, _, rfl, gD, fun h => gG.1 h, fun h => gG.2.1 h, fun h => gG.2.2.1 h, fun h => gG.2.2.2.1 h, fun h => gG.2.2.2.2.1 h, fun h => gG.2.2.2.2.2.1 h, fun h => gG.2.2.2.2.2.2.1 h, fun h => gG.2.2.2.2.2.2.2.1 h, fun h => gG.2.2.2.2.2.2.2.2.1 h, fun h => gG.2.2.2.2.2.2.2.2.2.1 h, fun _ => rfl, fun h => gG.2.2.2.2.2.2.2.2.2.2.2.1 h, fun h => gG.2.2.2.2.2.2.2.2.2.2.2.2.1 h, fun h => gG.2.2.2.2.2.2.2.2.2.2.2.2.2.1 h, fun h => gG.2.2.2.2.2.2.2.2.2.2.2.2.2.2.1 h, fun h => gG.2.2.2.2.2.2.2.2.2.2.2.2.2.2.2.1 h, fun h => gG.2.2.2.2.2.2.2.2.2.2.2.2.2.2.2.2.1 h, fun h => gG.2.2.2.2.2.2.2.2.2.2.2.2.2.2.2.2.2.1 h, fun h => gG.2.2.2.2.2.2.2.2.2.2.2.2.2.2.2.2.2.2.1 h, fun h => gG.2.2.2.2.2.2.2.2.2.2.2.2.2.2.2.2.2.2.2.1 h, fun h => gG.2.2.2.2.2.2.2.2.2.2.2.2.2.2.2.2.2.2.2.2.1 h, fun h => gG.2.2.2.2.2.2.2.2.2.2.2.2.2.2.2.2.2.2.2.2.2.1 h, fun h => gG.2.2.2.2.2.2.2.2.2.2.2.2.2.2.2.2.2.2.2.2.2.2.1 h, fun h => gG.2.2.2.2.2.2.2.2.2.2.2.2.2.2.2.2.2.2.2.2.2.2.2.1 h, fun h => gG.2.2.2.2.2.2.2.2.2.2.2.2.2.2.2.2.2.2.2.2.2.2.2.2 h⟩
      refine below_succ ?_ ?_
      · intro f az u hf hd hcl hI
        obtain ⟨x78, x79, x80, x81, x82, x83, x84, x85, x86, x87, x88, x89, x90, x91, x92, x93, x94, x95, x96, x97, x98, x99, x100, x101, x102, rfl, gD, gG⟩ := hI
        subst hmk
        have e6 := gG.2.2.2.2.2.2.1 (hd 6 (by decide))
        subst e6
        refine wpOp_step rfl (fun K hK => ?_)
        refine skip_op rfl ?_
        try go_simp
        refine hK _ _ ?_
        refine ⟨_, _, _, _, _, _, _, _, _, _, _, _, _, _, _, _, _, _, _, _, _, _, _, _, _, rfl, gD, fun h => gG.1 h, fun h => gG.2.1 h, fun h => gG.2.2.1 h, fun h => gG.2.2.2.1 h, fun h => gG.2.2.2.2.1 h, fun h => gG.2.2.2.2.2.1 h, fun h => gG.2.2.2.2.2.2.1 h, fun h => gG.2.2.2.2.2.2.2.1 h, fun h => gG.2.2.2.2.2.2.2.2.1 h, fun _ => rfl, fun h => gG.2.2.2.2.2.2.2.2.2.2.1 h, fun h => gG.2.2.2.2.2.2.2.2.2.2.2.1 h, fun h => gG.2.2.2.2.2.2.2.2.2.2.2.2.1 h, fun h => gG.2.2.2.2.2.2.2.2.2.2.2.2.2.1 h, fun h => gG.2.2.2.2.2.2.2.2.2.2.2.2.2.2.1 h, fun h => gG.2.2.2.2.2.2.2.2.2.2.2.2.2.2.2.1 h, fun h => gG.2.2.2.2.2.2.2.2.2.2.2.2.2.2.2.2.1 h, fun h => gG.2.2.2.2.2.2.2.2.2.2.2.2.2.2.2.2.2.1 h, fun h => gG.2.2.2.2.2.2.2.2.2.2.2.2.2.2.2.2.2.2.1 h, fun h => gG.2.2.2.2.2.2.2.2.2.2.2.2.2.2.2.2.2.2.2.1 h, fun h => gG.2.2.2.2.2.2.2.2.2.2.2.2.2.2.2.2.2.2.2.2.1 h, fun h => gG.2.2.2.2.2.2.2.2.2.2.2.2.2.2.2.2.2.2.2.2.2.1 h, fun h => gG.2.2.2.2.2.2.2.2.2.2.2.2.2.2.2.2.2.2.2.2.2.2.1 h, fun h => gG.2.2.2.2.2.2.2.2.2.2.2.2.2.2.2.2.2.2.2.2.2.2.2.1 h, fun h => gG.2.2.2.2.2.2.2.2.2.2.2.2.2.2.2.2.2.2.2.2.2.2.2.2 h⟩
      refine below_succ ?_ ?_
      · intro f az u hf hd hcl hI
        obtain ⟨x78, x79, x80, x81, x82, x83, x84, x85, x86, x87, x88, x89, x90, x91, x92, x93, x94, x95, x96, x97, x98, x99, x100, x101, x102, rfl, gD, gG⟩ := hI
        subst hmk
        have e6 := gG.2.2.2.2.2.2.1 (hd 6 (by decide))
        subst e6
        refine wpOp_step rfl (fun K hK => ?_)
        refine skip_op rfl ?_
        try go_simp
        refine hK _ _ ?_
        refine ⟨_, _, _, _, _, _, _, _, _, _, _, _, _, _, _, _, _, _, _, _, _, _, _, _, _, rfl, gD, fun h => gG.1 h, fun h => gG.2.1 h, fun h => gG.2.2.1 h, fun h => gG.2.2.2.1 h, fun h => gG.2.2.2.2.1 h, fun h => gG.2.2.2.2.2.1 h, fun h => gG.2.2.2.2.2.2.1 h, fun h => gG.2.2.2.2.2.2.2.1 h, fun _ => rfl, fun h => gG.2.2.2.2.2.2.2.2.2.1 h, fun h => gG.2.2.2.2.2.2.2.2.2.2.1 h, fun h => gG.2.2.2.2.2.2.2.2.2.2.2.1 h, fun h => gG.2.2.2.2.2.2.2.2.2.2.2.2.1 h, fun h => gG.2.2.2.2.2.2.2.2.2.2.2.2.2.1 h, fun h => gG.2.2.2.2.2.2.2.2.2.2.2.2.2.2.1 h, fun h => gG.2.2.2.2.2.2.2.2.2.2.2.2.2.2.2.1 h, fun h => gG.2.2.2.2.2.2.2.2.2.2.2.2.2.2.2.2.1 h, fun h => gG.2.2.2.2.2.2.2.2.2.2.2.2.2.2.2.2.2.1 h, fun h => gG.2.2.2.2.2.2.2.2.2.2.2.2.2.2.2.2.2.2.1 h, fun h => gG.2.2.2.2.2.2.2.2.2.2.2.2.2.2.2.2.2.2.2.1 h, fun h => gG.2.2.2.2.2.2.2.2.2.2.2.2.2.2.2.2.2.2.2.2.1 h, fun h => gG.2.2.2.2.2.2.2.2.2.2.2.2.2.2.2.2.2.2.2.2.2.1 h, fun h => gG.2.2.2.2.2.2.2.2.2.2.2.2.2.2.2.2.2.2.2.2.2.2.1 h, fun h => gG.2.2.2.2.2.2.2.2.2.2.2.2.2.2.2.2.2.2.2.2.2.2.2.1 h, fun h => gG.2.2.2.2.2.2.2.2.2.2.2.2.2.2.2.2.2.2.2.2.2.2.2.2 h⟩
      refine below_succ ?_ ?_
      · intro f az u hf hd hcl hI
        obtain ⟨x78, x79, x80, x81, x82, x83, x84, x85, x86, x87, x88, x89, x90, x91, x92, x93, x94, x95, x96, x97, x98, x99, x100, x101, x102, rfl, gD, gG⟩ := hI
        subst hmk
        have e6 := gG.2.2.2.2.2.2.1 (hd 6 (by decide))
        subst e6
        refine wpOp_step rfl (fun K hK => ?_)
        refine skip_op rfl ?_
        try go_simp
        refine hK _ _ ?_
        refine ⟨_, _, _, _, _, _, _, _, _, _, _, _, _, _, _, _, _, _, _, _, _, _, _, _, _, rfl, gD, fun h => gG.1 h, fun h => gG.2.1 h, fun h => gG.2.2.1 h, fun h => gG.2.2.2.1 h, fun h => gG.2.2.2.2.1 h, fun h => gG.2.2.2.2.2.1 h, fun h => gG.2.2.2.2.2.2.1 h, fun _ => rfl, fun h => gG.2.2.2.2.2.2.2.2.1 h, fun h => gG.2.2.2.2.2.2.2.2.2.1 h, fun h => gG.2.2.2.2.2.2.2.2.2.2.1 h, fun h => gG.2.2.2.2.2.2.2.2.2.2.2.1 h, fun h => gG.2.2.2.2.2.2.2.2.2.2.2.2.1 h, fun h => gG.2.2.2.2.2.2.2.2.2.2.2.2.2.1 h, fun h => gG.2.2.2.2.2.2.2.2.2.2.2.2.2.2.1 h, fun h => gG.2.2.2.2.2.2.2.2.2.2.2.2.2.2.2.1 h, fun h => gG.2.2.2.2.2.2.2.2.2.2.2.2.2.2.2.2.1 h, fun h => gG.2.2.2.2.2.2.2.2.2.2.2.2.2.2.2.2.2.1 h, fun h => gG.2.2.2.2.2.2.2.2.2.2.2.2.2.2.2.2.2.2.1 h, fun h => gG.2.2.2.2.2.2.2.2.2.2.2.2.2.2.2.2.2.2.2.1 h, fun h => gG.2.2.2.2.2.2.2.2.2.2.2.2.2.2.2.2.2.2.2.2.1 h, fun h => gG.2.2.2.2.2.2.2.2.2.2.2.2.2.2.2.2.2.2.2.2.2.1 h, fun h => gG.2.2.2.2.2.2.2.2.2.2.2.2.2.2.2.2.2.2.2.2.2.2.1 h, fun h => gG.2.2.2.2.2.2.2.2.2.2.2.2.2.2.2.2.2.2.2.2.2.2.2.1 h, fun h => gG.2.2.2.2.2.2.2.2.2.2.2.2.2.2.2.2.2.2.2.2.2.2.2.2 h⟩
      refine below_succ ?_ ?_
      · intro f az u hf hd hcl hI
        obtain ⟨x78, x79, x80, x81, x82, x83, x84, x85, x86, x87, x88, x89, x90, x91, x92, x93, x94, x95, x96, x97, x98, x99, x100, x101, x102, rfl, gD, gG⟩ := hI
        subst hmk
        have e2 := gG.2.2.1 (hd 2 (by decide))
        subst e2
        refine wpOp_step rfl (fun K hK => ?_)
        refine skip_op rfl ?_
        try go_simp
        refine hK _ _ ?_
        refine ⟨_, _, _, _, _, _, _, _, _, _, _, _, _, _, _, _, _, _, _, _, _, _, _, _, _, rfl, gD, fun h => gG.1 h, fun h => gG.2.1 h, fun h => gG.2.2.1 h, fun h => gG.2.2.2.1 h, fun h => gG.2.2.2.2.1 h, fun h => gG.2.2.2.2.2.1 h, fun _ => rfl, fun h => gG.2.2.2.2.2.2.2.1 h, fun h => gG.2.2.2.2.2.2.2.2.1 h, fun h => gG.2.2.2.2.2.2.2.2.2.1 h, fun h => gG.2.2.2.2.2.2.2.2.2.2.1 h, fun h => gG.2.2.2.2.2.2.2.2.2.2.2.1 h, fun h => gG.2.2.2.2.2.2.2.2.2.2.2.2.1 h, fun h => gG.2.2.2.2.2.2.2.2.2.2.2.2.2.1 h, fun h => gG.2.2.2.2.2.2.2.2.2.2.2.2.2.2.1 h, fun h => gG.2.2.2.2.2.2.2.2.2.2.2.2.2.2.2.1 h, fun h => gG.2.2.2.2.2.2.2.2.2.2.2.2.2.2.2.2.1 h, fun h => gG.2.2.2.2.2.2.2.2.2.2.2.2.2.2.2.2.2.1 h, fun h => gG.2.2.2.2.2.2.2.2.2.2.2.2.2.2.2.2.2.2.1 h, fun h => gG.2.2.2.2.2.2.2.2.2.2.2.2.2.2.2.2.2.2.2.1 h, fun h => gG.2.2.2.2.2.2.2.2.2.2.2.2.2.2.2.2.2.2.2.2.1 h, fun h => gG.2.2.2.2.2.2.2.2.2.2.2.2.2.2.2.2.2.2.2.2.2.1 h, fun h => gG.2.2.2.2.2.2.2.2.2.2.2.2.2.2.2.2.2.2.2.2.2.2.1 h, fun h => gG.2.2.2.2.2.2.2.2.2.2.2.2.2.2.2.2.2.2.2.2.2.2.2.1 h, fun h => gG.2.2.2.2.2.2.2.2.2.2.2.2.2.2.2.2.2.2.2.2.2.2.2.2 h⟩
      refine below_succ ?_ ?_
      · intro f az u hf hd hcl hI
        obtain ⟨x78, x79, x80, x81, x82, x83, x84, x85, x86, x87, x88, x89, x90, x91, x92, x93, x94, x95, x96, x97, x98, x99, x100, x101, x102, rfl, gD, gG⟩ := hI
        subst hmk
        have e2 := gG.2.2.1 (hd 2 (by decide))
        subst e2
        refine wpOp_step rfl (fun K hK => ?_)
        refine skip_op rfl ?_
        try go_simp
        refine hK _ _ ?_
        refine ⟨_, _, _, _, _, _, _, _, _, _, _, _, _, _, _, _, _, _, _, _, _, _, _, _, _, rfl, gD, fun h => gG.1 h, fun h => gG.2.1 h, fun h => gG.2.2.1 h, fun h => gG.2.2.2.1 h, fun h => gG.2.2.2.2.1 h, fun _ => rfl, fun h => gG.2.2.2.2.2.2.1 h, fun h => gG.2.2.2.2.2.2.2.1 h, fun h => gG.2.2.2.2.2.2.2.2.1 h, fun h => gG.2.2.2.2.2.2.2.2.2.1 h, fun h => gG.2.2.2.2.2.2.2.2.2.2.1 h, fun h => gG.2.2.2.2.2.2.2.2.2.2.2.1 h, fun h => gG.2.2.2.2.2.2.2.2.2.2.2.2.1 h, fun h => gG.2.2.2.2.2.2.2.2.2.2.2.2.2.1 h, fun h => gG.2.2.2.2.2.2.2.2.2.2.2.2.2.2.1 h, fun h => gG.2.2.2.2.2.2.2.2.2.2.2.2.2.2.2.1 h, fun h => gG.2.2.2.2.2.2.2.2.2.2.2.2.2.2.2.2.1 h, fun h => gG.2.2.2.2.2.2.2.2.2.2.2.2.2.2.2.2.2.1 h, fun h => gG.2.2.2.2.2.2.2.2.2.2.2.2.2.2.2.2.2.2.1 h, fun h => gG.2.2.2.2.2.2.2.2.2.2.2.2.2.2.2.2.2.2.2.1 h, fun h => gG.2.2.2.2.2.2.2.2.2.2.2.2.2.2.2.2.2.2.2.2.1 h, fun h => gG.2.2.2.2.2.2.2.2.2.2.2.2.2.2.2.2.2.2.2.2.2.1 h, fun h => gG.2.2.2.2.2.2.2.2.2.2.2.2.2.2.2.2.2.2.2.2.2.2.1 h, fun h => gG.2.2.2.2.2.2.2.2.2.2.2.2.2.2.2.2.2.2.2.2.2.2.2.1 h, fun h => gG.2.2.2.2.2.2.2.2.2.2.2.2.2.2.2.2.2.2.2.2.2.2.2.2 h⟩
      refine below_succ ?_ ?_
      · intro f az u hf hd hcl hI
        obtain ⟨x78, x79, x80, x81, x82, x83, x84, x85, x86, x87, x88, x89, x90, x91, x92, x93, x94, x95, x96, x97, x98, x99, x100, x101, x102, rfl, gD, gG⟩ := hI
        subst hmk
        have e2 := gG.2.2.1 (hd 2 (by decide))
        subst e2
        refine wpOp_step rfl (fun K hK => ?_)
        refine skip_op rfl ?_
        try go_simp
        refine hK _ _ ?_
        refine ⟨_, _, _, _, _, _, _, _, _, _, _, _, _, _, _, _, _, _, _, _, _, _, _, _, _, rfl, gD, fun h => gG.1 h, fun h => gG.2.1 h, fun h => gG.2.2.1 h, fun h => gG.2.2.2.1 h, fun _ => rfl, fun h => gG.2.2.2.2.2.1 h, fun h => gG.2.2.2.2.2.2.1 h, fun h => gG.2.2.2.2.2.2.2.1 h, fun h => gG.2.2.2.2.2.2.2.2.1 h, fun h => gG.2.2.2.2.2.2.2.2.2.1 h, fun h => gG.2.2.2.2.2.2.2.2.2.2.1 h, fun h => gG.2.2.2.2.2.2.2.2.2.2.2.1 h, fun h => gG.2.2.2.2.2.2.2.2.2.2.2.2.1 h, fun h => gG.2.2.2.2.2.2.2.2.2.2.2.2.2.1 h, fun h => gG.2.2.2.2.2.2.2.2.2.2.2.2.2.2.1 h, fun h => gG.2.2.2.2.2.2.2.2.2.2.2.2.2.2.2.1 h, fun h => gG.2.2.2.2.2.2.2.2.2.2.2.2.2.2.2.2.1 h, fun h => gG.2.2.2.2.2.2.2.2.2.2.2.2.2.2.2.2.2.1 h, fun h => gG.2.2.2.2.2.2.2.2.2.2.2.2.2.2.2.2.2.2.1 h, fun h => gG.2.2.2.2.2.2.2.2.2.2.2.2.2.2.2.2.2.2.2.1 h, fun h => gG.2.2.2.2.2.2.2.2.2.2.2.2.2.2.2.2.2.2.2.2.1 h, fun h => gG.2.2.2.2.2.2.2.2.2.2.2.2.2.2.2.2.2.2.2.2.2.1 h, fun h => gG.2.2.2.2.2.2.2.2.2.2.2.2.2.2.2.2.2.2.2.2.2.2.1 h, fun h => gG.2.2.2.2.2.2.2.2.2.2.2.2.2.2.2.2.2.2.2.2.2.2.2.1 h, fun h => gG.2.2.2.2.2.2.2.2.2.2.2.2.2.2.2.2.2.2.2.2.2.2.2.2 h⟩
      refine below_succ ?_ ?_
      · intro f az u hf hd hcl hI
        obtain ⟨x78, x79, x80, x81, x82, x83, x84, x85, x86, x87, x88, x89, x90, x91, x92, x93, x94, x95, x96, x97, x98, x99, x100, x101, x102, rfl, gD, gG⟩ := hI
        subst hmk
        have e2 := gG.2.2.1 (hd 2 (by decide))
        subst e2
        refine wpOp_step rfl (fun K hK => ?_)
        refine skip_op rfl ?_
        try go_simp
        refine hK _ _ ?_
        refine ⟨_, _, _, _, _, _, _, _, _, _, _, _, _, _, _, _, _, _, _, _, _, _, _, _, _, rfl, gD, fun h => gG.1 h, fun h => gG.2.1 h, fun h => gG.2.2.1 h, fun _ => rfl, fun h => gG.2.2.2.2.1 h, fun h => gG.2.2.2.2.2.1 h, fun h => gG.2.2.2.2.2.2.1 h, fun h => gG.2.2.2.2.2.2.2.1 h, fun h => gG.2.2.2.2.2.2.2.2.1 h, fun h => gG.2.2.2.2.2.2.2.2.2.1 h, fun h => gG.2.2.2.2.2.2.2.2.2.2.1 h, fun h => gG.2.2.2.2.2.2.2.2.2.2.2.1 h, fun h => gG.2.2.2.2.2.2.2.2.2.2.2.2.1 h, fun h => gG.2.2.2.2.2.2.2.2.2.2.2.2.2.1 h, fun h => gG.2.2.2.2.2.2.2.2.2.2.2.2.2.2.1 h, fun h => gG.2.2.2.2.2.2.2.2.2.2.2.2.2.2.2.1 h, fun h => gG.2.2.2.2.2.2.2.2.2.2.2.2.2.2.2.2.1 h, fun h => gG.2.2.2.2.2.2.2.2.2.2.2.2.2.2.2.2.2.1 h, fun h => gG.2.2.2.2.2.2.2.2.2.2.2.2.2.2.2.2.2.2.1 h, fun h => gG.2.2.2.2.2.2.2.2.2.2.2.2.2.2.2.2.2.2.2.1 h, fun h => gG.2.2.2.2.2.2.2.2.2.2.2.2.2.2.2.2.2.2.2.2.1 h, fun h => gG.2.2.2.2.2.2.2.2.2.2.2.2.2.2.2.2.2.2.2.2.2.1 h, fun h => gG.2.2.2.2.2.2.2.2.2.2.2.2.2.2.2.2.2.2.2.2.2.2.1 h, fun h => gG.2.2.2.2.2.2.2.2.2.2.2.2.2.2.2.2.2.2.2.2.2.2.2.1 h, fun h => gG.2.2.2.2.2.2.2.2.2.2.2.2.2.2.2.2.2.2.2.2.2.2.2.2 h⟩
      refine below_succ ?_ ?_
      · intro f az u hf hd hcl hI
        obtain ⟨x78, x79, x80, x81, x82, x83, x84, x85, x86, x87, x88, x89, x90, x91, x92, x93, x94, x95, x96, x97, x98, x99, x100, x101, x102, rfl, gD, gG⟩ := hI
        subst hmk
        have ef := gG.2.1 (hd 1 (by decide))
        subst ef
        refine wpOp_step rfl (fun K hK => ?_)
        go_simp
        refine hK _ _ ?_
        refine ⟨_, _, _, _, _, _, _, _, _, _, _, _, _, _, _, _, _, _, _, _, _, _, _, _, _, rfl, gD, fun h => gG.1 h, fun h => gG.2.1 h, fun _ => rfl, fun h => gG.2.2.2.1 h, fun h => gG.2.2.2.2.1 h, fun h => gG.2.2.2.2.2.1 h, fun h => gG.2.2.2.2.2.2.1 h, fun h => gG.2.2.2.2.2.2.2.1 h, fun h => gG.2.2.2.2.2.2.2.2.1 h, fun h => gG.2.2.2.2.2.2.2.2.2.1 h, fun h => gG.2.2.2.2.2.2.2.2.2.2.1 h, fun h => gG.2.2.2.2.2.2.2.2.2.2.2.1 h, fun h => gG.2.2.2.2.2.2.2.2.2.2.2.2.1 h, fun h => gG.2.2.2.2.2.2.2.2.2.2.2.2.2.1 h, fun h => gG.2.2.2.2.2.2.2.2.2.2.2.2.2.2.1 h, fun h => gG.2.2.2.2.2.2.2.2.2.2.2.2.2.2.2.1 h, fun h => gG.2.2.2.2.2.2.2.2.2.2.2.2.2.2.2.2.1 h, fun h => gG.2.2.2.2.2.2.2.2.2.2.2.2.2.2.2.2.2.1 h, fun h => gG.2.2.2.2.2.2.2.2.2.2.2.2.2.2.2.2.2.2.1 h, fun h => gG.2.2.2.2.2.2.2.2.2.2.2.2.2.2.2.2.2.2.2.1 h, fun h => gG.2.2.2.2.2.2.2.2.2.2.2.2.2.2.2.2.2.2.2.2.1 h, fun h => gG.2.2.2.2.2.2.2.2.2.2.2.2.2.2.2.2.2.2.2.2.2.1 h, fun h => gG.2.2.2.2.2.2.2.2.2.2.2.2.2.2.2.2.2.2.2.2.2.2.1 h, fun h => gG.2.2.2.2.2.2.2.2.2.2.2.2.2.2.2.2.2.2.2.2.2.2.2.1 h, fun h => gG.2.2.2.2.2.2.2.2.2.2.2.2.2.2.2.2.2.2.2.2.2.2.2.2 h⟩
      refine below_succ ?_ ?_
      · intro f az u hf hd hcl hI
        obtain ⟨x78, x79, x80, x81, x82, x83, x84, x85, x86, x87, x88, x89, x90, x91, x92, x93, x94, x95, x96, x97, x98, x99, x100, x101, x102, rfl, gD, gG⟩ := hI
        subst hmk
        have e0 := gG.1 (hd 0 (by decide))
        subst e0
        refine wpOp_step rfl (fun K hK => ?_)
        go_simp
        refine hK _ _ ?_
        refine ⟨_, _, _, _, _, _, _, _, _, _, _, _, _, _, _, _, _, _, _, _, _, _, _, _, _, rfl, gD, fun h => gG.1 h, fun _ => (by first | rfl | simp), fun h => gG.2.2.1 h, fun h => gG.2.2.2.1 h, fun h => gG.2.2.2.2.1 h, fun h => gG.2.2.2.2.2.1 h, fun h => gG.2.2.2.2.2.2.1 h, fun h => gG.2.2.2.2.2.2.2.1 h, fun h => gG.2.2.2.2.2.2.2.2.1 h, fun h => gG.2.2.2.2.2.2.2.2.2.1 h, fun h => gG.2.2.2.2.2.2.2.2.2.2.1 h, fun h => gG.2.2.2.2.2.2.2.2.2.2.2.1 h, fun h => gG.2.2.2.2.2.2.2.2.2.2.2.2.1 h, fun h => gG.2.2.2.2.2.2.2.2.2.2.2.2.2.1 h, fun h => gG.2.2.2.2.2.2.2.2.2.2.2.2.2.2.1 h, fun h => gG.2.2.2.2.2.2.2.2.2.2.2.2.2.2.2.1 h, fun h => gG.2.2.2.2.2.2.2.2.2.2.2.2.2.2.2.2.1 h, fun h => gG.2.2.2.2.2.2.2.2.2.2.2.2.2.2.2.2.2.1 h, fun h => gG.2.2.2.2.2.2.2.2.2.2.2.2.2.2.2.2.2.2.1 h, fun h => gG.2.2.2.2.2.2.2.2.2.2.2.2.2.2.2.2.2.2.2.1 h, fun h => gG.2.2.2.2.2.2.2.2.2.2.2.2.2.2.2.2.2.2.2.2.1 h, fun h => gG.2.2.2.2.2.2.2.2.2.2.2.2.2.2.2.2.2.2.2.2.2.1 h, fun h => gG.2.2.2.2.2.2.2.2.2.2.2.2.2.2.2.2.2.2.2.2.2.2.1 h, fun h => gG.2.2.2.2.2.2.2.2.2.2.2.2.2.2.2.2.2.2.2.2.2.2.2.1 h, fun h => gG.2.2.2.2.2.2.2.2.2.2.2.2.2.2.2.2.2.2.2.2.2.2.2.2 h⟩
      refine below_succ ?_ ?_
      · intro f az u hf hd hcl hI
        obtain ⟨x78, x79, x80, x81, x82, x83, x84, x85, x86, x87, x88, x89, x90, x91, x92, x93, x94, x95, x96, x97, x98, x99, x100, x101, x102, rfl, gD, gG⟩ := hI
        subst hmk
        refine wpOp_step rfl (fun K hK => ?_)
        go_simp
        refine hK _ _ ?_
        refine ⟨_, _, _, _, _, _, _, _, _, _, _, _, _, _, _, _, _, _, _, _, _, _, _, _, _, rfl, gD, fun _ => rfl, fun h => gG.2.1 h, fun h => gG.2.2.1 h, fun h => gG.2.2.2.1 h, fun h => gG.2.2.2.2.1 h, fun h => gG.2.2.2.2.2.1 h, fun h => gG.2.2.2.2.2.2.1 h, fun h => gG.2.2.2.2.2.2.2.1 h, fun h => gG.2.2.2.2.2.2.2.2.1 h, fun h => gG.2.2.2.2.2.2.2.2.2.1 h, fun h => gG.2.2.2.2.2.2.2.2.2.2.1 h, fun h => gG.2.2.2.2.2.2.2.2.2.2.2.1 h, fun h => gG.2.2.2.2.2.2.2.2.2.2.2.2.1 h, fun h => gG.2.2.2.2.2.2.2.2.2.2.2.2.2.1 h, fun h => gG.2.2.2.2.2.2.2.2.2.2.2.2.2.2.1 h, fun h => gG.2.2.2.2.2.2.2.2.2.2.2.2.2.2.2.1 h, fun h => gG.2.2.2.2.2.2.2.2.2.2.2.2.2.2.2.2.1 h, fun h => gG.2.2.2.2.2.2.2.2.2.2.2.2.2.2.2.2.2.1 h, fun h => gG.2.2.2.2.2.2.2.2.2.2.2.2.2.2.2.2.2.2.1 h, fun h => gG.2.2.2.2.2.2.2.2.2.2.2.2.2.2.2.2.2.2.2.1 h, fun h => gG.2.2.2.2.2.2.2.2.2.2.2.2.2.2.2.2.2.2.2.2.1 h, fun h => gG.2.2.2.2.2.2.2.2.2.2.2.2.2.2.2.2.2.2.2.2.2.1 h, fun h => gG.2.2.2.2.2.2.2.2.2.2.2.2.2.2.2.2.2.2.2.2.2.2.1 h, fun h => gG.2.2.2.2.2.2.2.2.2.2.2.2.2.2.2.2.2.2.2.2.2.2.2.1 h, fun h => gG.2.2.2.2.2.2.2.2.2.2.2.2.2.2.2.2.2.2.2.2.2.2.2.2 h⟩
      exact below_zero
    · intro f az u hf hI
      obtain ⟨x78, x79, x80, x81, x82, x83, x84, x85, x86, x87, x88, x89, x90, x91, x92, x93, x94, x95, x96, x97, x98, x99, x100, x101, x102, rfl, gD, g0, g1, g2, g3, g4, g5, g6, g7, g8, g9, g10, g11, g12, g13, g14, g15, g16, g17, g18, g19, g20, g21, g22, g23, g24⟩ := hI
      subst hmk
      have et := g24 (hf 24 (by decide))
      subst et
      have HF : Hid (Below w.heap.size w u) := Lib.hid (Below.step BW.out gD)
      replace V : Hid (Sl eTerm u v T) := Lib.hid (V.out.below gD)
      clear hf gD BW EX U M0 M1 DA g0 g1 g2 g3 g4 g5 g6 g7 g8 g9 g10 g11 g12 g13 g14 g15 g16 g17 g18 g19 g20 g21 g22 g23 g24
      generalize u = wn at *
      by_cases hd0 : dc = 0
      rotate_left
      · have hdb : (dc == 0) = false := beq_eq_false_iff_ne.2 hd0
        go_wp2
        go_ret
        exact ⟨rfl, HF.out⟩
      subst hd0
      obtain ⟨d0, d1, hsz, hv1, hv2⟩ := last_day HLD.out rfl
      have HV1 := Lib.hid hv1
      have HV2 := Lib.hid hv2
      have HS1 : Hid (∀ (W : World) (y : Int), Sl eClaim (W.alloc (.cells #[.string s, .int .i64 sold, .int .i64 y, .int .i64 0] 47)) (.slice (some ⟨W.heap.size, 0, none⟩) 1 1) [⟨s, sold, y, 0⟩]) := Lib.hid (fun W y => Sl.one_new eClaim W ⟨s, sold, y, 0⟩ _ _ rfl)
      have HO1 : Hid (∀ y : Int, ∀ x ∈ [(⟨s, sold, y, 0⟩ : Claim)], okClaim x) := Lib.hid (fun y x hx => by rw [List.mem_singleton.1 hx]; show s.size ≤ 9223372036854775807; omega)
      clear hv1 hv2 hsz
      go_wp2_with fail
      refine (iVerdictsOf_law v T _ [⟨s, sold, d, 0⟩] (wn.alloc (.cells #[.string s, .int .i64 sold, .int .i64 d, .int .i64 0] 47)) (V.out.alloc _) hTl2 HK.out (HS1.out _ _) (by simp) (HO1.out _)).mono ?_
      rw [HV1.out]
      rintro e wq ⟨q, rfl, ho, hb⟩
      have BQ : Hid (Below w.heap.size w wq) := Lib.hid (Below.step (Below.step HF.out ((Below.refl wn.heap.size wn).alloc (Nat.le_refl _) (.cells #[.string s, .int .i64 sold, .int .i64 d, .int .i64 0] 47))) hb)
      replace V := Lib.hid ((V.out.alloc (.cells #[.string s, .int .i64 sold, .int .i64 d, .int .i64 0] 47)).below hb)
      obtain ⟨Aq, capq, rfl, _, _, hsq⟩ := Ints.shape (Sl.of_own ho (by decide))
      obtain ⟨bq, oq, rfl, hlq, hcq⟩ := hsq (by decide)
      have cq : wq.cell? ⟨bq, oq, none⟩ = some (.int .i64 0) := hcq 0 (by decide)
      clear ho hb hsq hcq
      have e1 : ([0] : List Int).length = 1 := rfl
      rw [e1] at *
      by_cases hd9 : d = 100000
      · subst hd9
        go_wp2
        go_ret
        exact ⟨rfl, BQ.out⟩
      have hd9b : (d == 100000) = false := beq_eq_false_iff_ne.2 hd9
      have hwd : IntKind.i64.wrap (d + 1) = d + 1 := IntWalk.i64_in _ (by omega)
      have HV2b := Lib.hid (HV2.out hd9)
      go_wp2_with fail
      refine (iVerdictsOf_law v T _ [⟨s, sold, d + 1, 0⟩] (wq.alloc (.cells #[.string s, .int .i64 sold, .int .i64 (d + 1), .int .i64 0] 47)) (V.out.alloc _) hTl2 HK.out (HS1.out _ _) (by simp) (HO1.out _)).mono ?_
      rw [HV2b.out]
      rintro e wz ⟨z, rfl, ho, hb⟩
      have BZ : Hid (Below w.heap.size w wz) := Lib.hid (Below.step (Below.step BQ.out ((Below.refl wq.heap.size wq).alloc (Nat.le_refl _) (.cells #[.string s, .int .i64 sold, .int .i64 (d + 1), .int .i64 0] 47))) hb)
      obtain ⟨Az, capz, rfl, _, _, hsz⟩ := Ints.shape (Sl.of_own ho (by decide))
      obtain ⟨bz, oz, rfl, hlz, hcz⟩ := hsz (by decide)
      have cz : wz.cell? ⟨bz, oz, none⟩ = some (.int .i64 2) := hcz 0 (by decide)
      have e2 : ([2] : List Int).length = 1 := rfl
      rw [e2] at *
      clear ho hb hsz hcz cq
      go_wp2
      go_ret
      exact ⟨rfl, BZ.out⟩
  subst hac
  obtain ⟨happ, hara⟩ := add_ok HAC.out rfl
  have hll : a.length = C.length + 1 := by rw [happ, List.length_append, List.length_singleton]
  obtain ⟨A1, cap1, rfl, _, _, hs1⟩ := M0.out.shape
  obtain ⟨b1, o1, rfl, hl1, hcell1⟩ := hs1 (by omega)
  have hCl3 : C.length < a.length := by omega
  have hget : a[C.length] = c := by
    subst happ
    simp
  have CM : Hid (∀ W, Below w8.heap.size w8 W → (W.cell? ⟨b1, o1 + C.length * 4, none⟩ = some (.string c.part) ∧ W.cell? ⟨b1, o1 + C.length * 4 + 1, none⟩ = some (.int .i64 c.sold) ∧ W.cell? ⟨b1, o1 + C.length * 4 + 2, none⟩ = some (.int .i64 c.day) ∧ W.cell? ⟨b1, o1 + C.length * 4 + 3, none⟩ = some (.int .i64 c.tens)) ∧ W.cell? ⟨X, 0, none⟩ = some (.string c.part) ∧ W.cell? ⟨X, 1, none⟩ = some (.int .i64 c.sold) ∧ W.cell? ⟨X, 2, none⟩ = some (.int .i64 c.day) ∧ W.cell? ⟨X, 3, none⟩ = some (.int .i64 c.tens)) := Lib.hid (fun W hbt => by
    have z0 : W.cell? ⟨b1, o1 + C.length * 4, none⟩ = some (.string a[C.length].part) := (hbt.cell (p := ⟨b1, o1 + C.length * 4, none⟩) hl1).trans (by simpa [eClaim, Nat.add_assoc] using hcell1 C.length hCl3 0 _ (by decide) rfl)
    have z1 : W.cell? ⟨b1, o1 + C.length * 4 + 1, none⟩ = some (.int .i64 a[C.length].sold) := (hbt.cell (p := ⟨b1, o1 + C.length * 4 + 1, none⟩) hl1).trans (by simpa [eClaim, Nat.add_assoc] using hcell1 C.length hCl3 1 _ (by decide) rfl)
    have z2 : W.cell? ⟨b1, o1 + C.length * 4 + 2, none⟩ = some (.int .i64 a[C.length].day) := (hbt.cell (p := ⟨b1, o1 + C.length * 4 + 2, none⟩) hl1).trans (by simpa [eClaim, Nat.add_assoc] using hcell1 C.length hCl3 2 _ (by decide) rfl)
    have z3 : W.cell? ⟨b1, o1 + C.length * 4 + 3, none⟩ = some (.int .i64 a[C.length].tens) := (hbt.cell (p := ⟨b1, o1 + C.length * 4 + 3, none⟩) hl1).trans (by simpa [eClaim, Nat.add_assoc] using hcell1 C.length hCl3 3 _ (by decide) rfl)
    rw [hget] at z0 z1 z2 z3
    exact ⟨⟨z0, z1, z2, z3⟩, KX.out W (Below.step EX.out hbt)⟩)
  have ARC : Hid (∀ W, Below w8.heap.size w8 W → Calls Try.prog 20 #[.slice (some ⟨b1, o1, none⟩) a.length cap1] W fun e w' => e = .returned (.bool true) ∧ Below w8.heap.size w8 w') := Lib.hid (fun W h => (iAreClaims_law _ a W (M0.out.below h) hal HKA.out).mono fun _ _ hh => ⟨by rw [hh.1]; exact ret_bool hara, Below.step h hh.2⟩)
  obtain ⟨A2, cap2, rfl, _, _, _⟩ := U.out.shape
  obtain ⟨A3, cap3, rfl, _, _, _⟩ := M1.out.shape
  have BR1 : Below w8.heap.size w8 w8.drew := (Below.refl _ _).drew
  have V8 : Hid (∀ W, Below w8.heap.size w8 W → Sl eTerm W v T) := Lib.hid (fun W h => V.out.below h)
  have BW8 : Hid (∀ W, Below w8.heap.size w8 W → Below w.heap.size w W) := Lib.hid (fun W h => Below.step BW.out h)
  rw [hll] at *
  have i0 : (0 : Int) ≤ (C.length : Int) := by omega
  have i1 : (C.length : Int) < ((C.length + 1 : Nat) : Int) := by omega
  have hw1 : IntKind.i64.wrap ((C.length : Int) + 1) = ((C.length + 1 : Nat) : Int) := by rw [show (C.length : Int) + 1 = ((C.length + 1 : Nat) : Int) by omega]; exact IntWalk.i64_in _ (by omega)
  have hw2 : IntKind.i64.wrap (((C.length + 1 : Nat) : Int) - 1) = (C.length : Int) := by rw [show ((C.length + 1 : Nat) : Int) - 1 = (C.length : Int) by omega]; exact IntWalk.i64_in _ (by omega)
  have i1b : (C.length : Int) < (C.length : Int) + 1 := by omega
  have hw3 : IntKind.i64.wrap (C.length : Int) = (C.length : Int) := IntWalk.i64_in _ (by omega)
  have hw4 : IntKind.i64.wrap ((C.length : Int) + 1) = (C.length : Int) + 1 := IntWalk.i64_in _ (by omega)
  have hw5 : IntKind.i64.wrap ((C.length : Int) + 1 - 1) = (C.length : Int) := by rw [show (C.length : Int) + 1 - 1 = (C.length : Int) by omega]; exact hw3
  clear x0 x1 x2 x3 hs1 hcell1 happ hara hget hCl3 V BW M1 U EX
  go_wp2
  go_region_held3 (fun W => (W.cell? ⟨b1, o1 + C.length * 4, none⟩ = some (.string c.part) ∧ W.cell? ⟨b1, o1 + C.length * 4 + 1, none⟩ = some (.int .i64 c.sold) ∧ W.cell? ⟨b1, o1 + C.length * 4 + 2, none⟩ = some (.int .i64 c.day) ∧ W.cell? ⟨b1, o1 + C.length * 4 + 3, none⟩ = some (.int .i64 c.tens)) ∧ W.cell? ⟨X, 0, none⟩ = some (.string c.part) ∧ W.cell? ⟨X, 1, none⟩ = some (.int .i64 c.sold) ∧ W.cell? ⟨X, 2, none⟩ = some (.int .i64 c.day) ∧ W.cell? ⟨X, 3, none⟩ = some (.int .i64 c.tens)) (first | exact CM.out _ BR1 | exact CM.out _ hb) (first
      | (go_at_call 20; refine (ARC.out _ ?_).mono ?_; (first | assumption); rintro e wn ⟨rfl, hb⟩))
  all_goals
    have HF := Lib.hid (BW8.out _ hb)
    have V := Lib.hid (V8.out _ hb)
    by_cases hd0 : dc = 0
    rotate_left
    · have hdb : (dc == 0) = false := beq_eq_false_iff_ne.2 hd0
      go_wp2
      go_ret
      exact ⟨rfl, HF.out⟩
    subst hd0
    obtain ⟨d0, d1, hsz, hv1, hv2⟩ := last_day HLD.out rfl
    have HV1 := Lib.hid hv1
    have HV2 := Lib.hid hv2
    have HS1 : Hid (∀ (W : World) (y : Int), Sl eClaim (W.alloc (.cells #[.string s, .int .i64 sold, .int .i64 y, .int .i64 0] 47)) (.slice (some ⟨W.heap.size, 0, none⟩) 1 1) [⟨s, sold, y, 0⟩]) := Lib.hid (fun W y => Sl.one_new eClaim W ⟨s, sold, y, 0⟩ _ _ rfl)
    have HO1 : Hid (∀ y : Int, ∀ x ∈ [(⟨s, sold, y, 0⟩ : Claim)], okClaim x) := Lib.hid (fun y x hx => by rw [List.mem_singleton.1 hx]; show s.size ≤ 9223372036854775807; omega)
    clear hv1 hv2 hsz
    go_wp2_with fail
    refine (iVerdictsOf_law v T _ [⟨s, sold, d, 0⟩] (wn.alloc (.cells #[.string s, .int .i64 sold, .int .i64 d, .int .i64 0] 47)) (V.out.alloc _) hTl2 HK.out (HS1.out _ _) (by simp) (HO1.out _)).mono ?_
    rw [HV1.out]
    rintro e wq ⟨q, rfl, ho, hb⟩
    have BQ : Hid (Below w.heap.size w wq) := Lib.hid (Below.step (Below.step HF.out ((Below.refl wn.heap.size wn).alloc (Nat.le_refl _) (.cells #[.string s, .int .i64 sold, .int .i64 d, .int .i64 0] 47))) hb)
    replace V := Lib.hid ((V.out.alloc (.cells #[.string s, .int .i64 sold, .int .i64 d, .int .i64 0] 47)).below hb)
    obtain ⟨Aq, capq, rfl, _, _, hsq⟩ := Ints.shape (Sl.of_own ho (by decide))
    obtain ⟨bq, oq, rfl, hlq, hcq⟩ := hsq (by decide)
    have cq : wq.cell? ⟨bq, oq, none⟩ = some (.int .i64 0) := hcq 0 (by decide)
    clear ho hb hsq hcq
    have e1 : ([0] : List Int).length = 1 := rfl
    rw [e1] at *
    by_cases hd9 : d = 100000
    · subst hd9
      go_wp2
      go_ret
      exact ⟨rfl, BQ.out⟩
    have hd9b : (d == 100000) = false := beq_eq_false_iff_ne.2 hd9
    have hwd : IntKind.i64.wrap (d + 1) = d + 1 := IntWalk.i64_in _ (by omega)
    have HV2b := Lib.hid (HV2.out hd9)
    go_wp2_with fail
    refine (iVerdictsOf_law v T _ [⟨s, sold, d + 1, 0⟩] (wq.alloc (.cells #[.string s, .int .i64 sold, .int .i64 (d + 1), .int .i64 0] 47)) (V.out.alloc _) hTl2 HK.out (HS1.out _ _) (by simp) (HO1.out _)).mono ?_
    rw [HV2b.out]
    rintro e wz ⟨z, rfl, ho, hb⟩
    have BZ : Hid (Below w.heap.size w wz) := Lib.hid (Below.step (Below.step BQ.out ((Below.refl wq.heap.size wq).alloc (Nat.le_refl _) (.cells #[.string s, .int .i64 sold, .int .i64 (d + 1), .int .i64 0] 47))) hb)
    obtain ⟨Az, capz, rfl, _, _, hsz⟩ := Ints.shape (Sl.of_own ho (by decide))
    obtain ⟨bz, oz, rfl, hlz, hcz⟩ := hsz (by decide)
    have cz : wz.cell? ⟨bz, oz, none⟩ = some (.int .i64 2) := hcz 0 (by decide)
    have e2 : ([2] : List Int).length = 1 := rfl
    rw [e2] at *
    clear ho hb hsz hcz cq
    go_wp2
    go_ret
    exact ⟨rfl, BZ.out⟩
end Go.Proofs.Ytnpfgngfolgdfaa
