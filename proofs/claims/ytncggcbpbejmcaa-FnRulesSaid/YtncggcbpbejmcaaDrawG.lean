/- What the reference's draws of lists of used parts and of grades hand out (chapter 25). No statement of the seat is proved here. -/
import Derived.Test.YtncggcbpbejmcaaDrawU
import Derived.Test.YtncggcbpbejmcaaDrawR
import Derived.Test.YtncggcbpbejmcaaCells
namespace Go.Proofs.Ytncggcbpbejmcaa
open Go.RowKit

theorem Bytes.below {w w' : World} {A : Option Addr} {n : Nat} (h : Bytes w A n w.heap.size) (hb : Below w.heap.size w w') : Bytes w' A n w'.heap.size := fun hn => by
  obtain ⟨b, off, e, hbp, hx⟩ := h hn
  refine ⟨b, off, e, Nat.lt_of_lt_of_le hbp hb.size, fun j hj => ?_⟩
  obtain ⟨x, hx1, hx2⟩ := hx j hj
  exact ⟨x, hx1, (hb.cell (p := ⟨b, off + j, none⟩) hbp).trans hx2⟩
theorem ok_appU {xs : List Used} {y : Used} (h : ∀ x ∈ xs, okUsed x) (hy : okUsed y) : ∀ x ∈ xs ++ [y], okUsed x := by
  intro x hx
  rcases List.mem_append.1 hx with hx | hx
  · exact h x hx
  · rw [List.mem_singleton.1 hx]; exact hy
set_option maxHeartbeats 8000000 in
set_option maxRecDepth 20000 in
theorem l25List_any (p : Nat) (w : World) (hs : Src w p) :
    Calls Try.prog 88 #[.pointer (some ⟨p, 0, none⟩)] w fun e w' => ∃ v xs, e = .returned v ∧ Own eUsed w' w.heap.size 33 v xs ∧ xs.length ≤ 1000 ∧ (∀ x ∈ xs, okUsed x) ∧ Dr w p w' := by
  have hpw := hs.lt
  have D0 : Hid (Dr w p (w.alloc (.cells #[] 33))) := Lib.hid ((Dr.refl hs).alloc _)
  have O0 : Hid (Own eUsed (w.alloc (.cells #[] 33)) w.heap.size 33 (.slice (some ⟨w.heap.size, 0, none⟩) 0 0) []) := Lib.hid (Own.empty eUsed w _ _ (Nat.le_refl _))
  have K0 : Hid (∀ x ∈ ([] : List Used), okUsed x) := Lib.hid (by simp)
  clear hs
  go_enter Try.func88, Try.ntmps88
  go_wp2_with fail
  refine (next_dr 7 D0.out (by omega)).mono ?_
  rintro e w1 ⟨n0, rfl, n1, n2, hd, hg⟩
  have D1 := Lib.hid hd
  have O1 := Lib.hid (O0.out.dr hg hpw)
  obtain ⟨M, rfl⟩ := Int.eq_ofNat_of_zero_le n1
  have hM : M ≤ 6 := by omega
  clear hd hg D0 O0 n1 n2
  go_wp2
  go_loopg [3, 4] M (fun gk v n wr => ∃ (xs : List Used), n = .int .i64 (gk : Nat) ∧ xs.length + gk ≤ M ∧ Hid (Own eUsed wr w.heap.size 33 v xs) ∧ Hid (Dr w p wr) ∧ Hid (∀ x ∈ xs, okUsed x))
  case atStart => exact ⟨[], rfl, by simp, O1, D1, K0⟩
  case round =>
    rename Nat => k
    obtain ⟨xs, rfl, l1, HO, HD, HK⟩ := hrel
    clear O1 D1 K0
    by_cases hk : 0 < k
    · obtain ⟨k, rfl⟩ : ∃ j, k = j + 1 := ⟨k - 1, by omega⟩
      have hkI : (0 : Int) < ((k + 1 : Nat) : Int) := by omega
      have hkw : IntKind.i64.wrap (((k + 1 : Nat) : Int) - 1) = (k : Int) := by rw [show ((k + 1 : Nat) : Int) - 1 = (k : Int) by omega]; exact IntWalk.i64_in _ (by omega)
      have hxl : xs.length ≤ 1000000000 := by omega
      go_wp2_with fail
      refine (l25Used_dr w p _ HD.out).mono ?_
      rintro e w2 ⟨⟨nm, hr, pl, rs, dn⟩, rfl, hx, hd, hg⟩
      have D2 := Lib.hid hd
      have O2 := Lib.hid (HO.out.dr hg hpw)
      have HOK : Hid (okUsed ⟨nm, hr, pl, rs, dn⟩) := Lib.hid hx
      have hsz := hd.size
      clear hd hg HD HO hx
      go_wp2_with (at_builtin; refine wpList_app eUsed rfl _ _ 58 (by rfl) 33 (.agg #[.string ⟨#[]⟩, .int .i64 0, .int .i64 0, .int .i64 0, .int .i64 0]) 48 Try.underlying58 info_Used rfl (by decide) (by decide) w.heap.size _ xs (by rfl) (by exact O2.out) (by exact hxl) (by exact hsz) ⟨nm, hr, pl, rs, dn⟩ _ (by rfl) _ (by rfl) (by first | rfl | simp) ?_)
      intro v6 w6 hO6 hB6 _ _ _
      have O6 := Lib.hid hO6
      have D6 := Lib.hid (D2.out.below hB6)
      have K6 := Lib.hid (ok_appU HK.out HOK.out)
      clear hO6 hB6 D2 O2
      go_wp2
      go_roundg k
      case measure => omega
      case rel => exact ⟨_, by go_num, by rw [List.length_append, List.length_singleton]; omega, O6, D6, K6⟩
    · obtain rfl : k = 0 := by omega
      clear hk
      have hxl5 : xs.length ≤ 6 := by omega
      obtain ⟨A0x, cap, rfl, _, _, _⟩ := Sl.shape (Sl.of_own HO.out (by unfold big40; omega))
      go_wp2_with fail
      refine (next_dr 40 HD.out (by omega)).mono ?_
      rintro e w2 ⟨c, rfl, c1, c2, hd, hg⟩
      have D2 := Lib.hid hd
      have O2 := Lib.hid (HO.out.dr hg hpw)
      have hsz := hd.size
      clear hd hg HD HO
      by_cases h0 : c = 0
      rotate_left
      · have h0b : (c == 0) = false := beq_eq_false_iff_ne.2 h0
        go_wp2
        go_ret
        exact ⟨_, _, rfl, O2.out, by omega, HK.out, D2.out⟩
      subst h0
      have hp2 : p < w2.heap.size := D2.out.1.lt
      have D3 : Hid (Dr w p (w2.alloc (.cells #[.string ⟨#[104, 117, 98]⟩, .int .i64 10, .int .i64 0, .int .i64 0, .int .i64 0] 33))) := Lib.hid (D2.out.alloc _)
      have O3 : Hid (Own eUsed (w2.alloc (.cells #[.string ⟨#[104, 117, 98]⟩, .int .i64 10, .int .i64 0, .int .i64 0, .int .i64 0] 33)) w.heap.size 33 (.slice A0x xs.length cap) xs) := Lib.hid (O2.out.alloc _)
      have hbx : ∀ j, (w2.alloc (.cells #[.string ⟨#[104, 117, 98]⟩, .int .i64 10, .int .i64 0, .int .i64 0, .int .i64 0] 33)).cell? ⟨w2.heap.size, j, none⟩ = #[Value.string ⟨#[104, 117, 98]⟩, .int .i64 10, .int .i64 0, .int .i64 0, .int .i64 0][j]? := fun j => box_new _ _ _ j
      have NE0 : Hid ((Value.slice A0x xs.length cap).ownBlock ≠ some w2.heap.size) := Lib.hid (fun e => by have := (World.ownsRow.lt O2.out _ e).2; omega)
      have C0 : Hid ((w2.alloc (.cells #[.string ⟨#[104, 117, 98]⟩, .int .i64 10, .int .i64 0, .int .i64 0, .int .i64 0] 33)).cell? ⟨w2.heap.size, 0, none⟩ = some (.string ⟨#[104, 117, 98]⟩) ∧ (w2.alloc (.cells #[.string ⟨#[104, 117, 98]⟩, .int .i64 10, .int .i64 0, .int .i64 0, .int .i64 0] 33)).cell? ⟨w2.heap.size, 1, none⟩ = some (.int .i64 10) ∧ (w2.alloc (.cells #[.string ⟨#[104, 117, 98]⟩, .int .i64 10, .int .i64 0, .int .i64 0, .int .i64 0] 33)).cell? ⟨w2.heap.size, 2, none⟩ = some (.int .i64 0) ∧ (w2.alloc (.cells #[.string ⟨#[104, 117, 98]⟩, .int .i64 10, .int .i64 0, .int .i64 0, .int .i64 0] 33)).cell? ⟨w2.heap.size, 3, none⟩ = some (.int .i64 0) ∧ (w2.alloc (.cells #[.string ⟨#[104, 117, 98]⟩, .int .i64 10, .int .i64 0, .int .i64 0, .int .i64 0] 33)).cell? ⟨w2.heap.size, 4, none⟩ = some (.int .i64 0)) := Lib.hid ⟨(hbx 0).trans rfl, (hbx 1).trans rfl, (hbx 2).trans rfl, (hbx 3).trans rfl, (hbx 4).trans rfl⟩
      have HX : Hid (w2.heap.size < (w2.alloc (.cells #[.string ⟨#[104, 117, 98]⟩, .int .i64 10, .int .i64 0, .int .i64 0, .int .i64 0] 33)).heap.size) := Lib.hid (by simp)
      clear hbx D2 O2
      go_wp2
      generalize w2.alloc (.cells #[.string ⟨#[104, 117, 98]⟩, .int .i64 10, .int .i64 0, .int .i64 0, .int .i64 0] 33) = wB at *
      generalize w2.heap.size = X at *
      have hXp : X ≠ p := by omega
      go_loopg [3] (62 - xs.length) (fun gk v wr => ∃ ys : List Used, gk = 62 - ys.length ∧ ys.length ≤ 61 ∧ Hid (Own eUsed wr w.heap.size 33 v ys) ∧ Hid (Dr w p wr) ∧ Hid (∀ x ∈ ys, okUsed x) ∧ Hid (v.ownBlock ≠ some X) ∧ Hid (X < wr.heap.size) ∧ Hid (wr.cell? ⟨X, 0, none⟩ = some (.string ⟨#[104, 117, 98]⟩) ∧ wr.cell? ⟨X, 1, none⟩ = some (.int .i64 10) ∧ wr.cell? ⟨X, 2, none⟩ = some (.int .i64 0) ∧ wr.cell? ⟨X, 3, none⟩ = some (.int .i64 0) ∧ wr.cell? ⟨X, 4, none⟩ = some (.int .i64 0)))
      case atStart => exact ⟨xs, rfl, by omega, O3, D3, HK, NE0, HX, C0⟩
      case round =>
        obtain ⟨ys, rfl, l1, HO, HD, HK2, NE, HXR, CR⟩ := hrel
        clear O3 D3 HK NE0 HX C0
        obtain ⟨A2, cap2, rfl, _, _, _⟩ := Sl.shape (Sl.of_own HO.out (by unfold big40; omega))
        have HL1 : (ys.length : Int) ≤ 61 := by omega
        go_wp2_with fail
        refine (next_dr 2 HD.out (by omega)).mono ?_
        rintro e w3 ⟨b, rfl, b1, b2, hd, hg⟩
        have hne : some X ≠ some p := fun e => hXp (Option.some.inj e)
        have hX3 : X < w3.heap.size := Nat.lt_of_lt_of_le HXR.out hg.size
        have x0 := (hg.cell_far ⟨X, 0, none⟩ HXR.out hne).trans CR.out.1
        have x1 := (hg.cell_far ⟨X, 1, none⟩ HXR.out hne).trans CR.out.2.1
        have x2 := (hg.cell_far ⟨X, 2, none⟩ HXR.out hne).trans CR.out.2.2.1
        have x3 := (hg.cell_far ⟨X, 3, none⟩ HXR.out hne).trans CR.out.2.2.2.1
        have x4 := (hg.cell_far ⟨X, 4, none⟩ HXR.out hne).trans CR.out.2.2.2.2
        have C3 : Hid (w3.cell? ⟨X, 0, none⟩ = some (.string ⟨#[104, 117, 98]⟩) ∧ w3.cell? ⟨X, 1, none⟩ = some (.int .i64 10) ∧ w3.cell? ⟨X, 2, none⟩ = some (.int .i64 0) ∧ w3.cell? ⟨X, 3, none⟩ = some (.int .i64 0) ∧ w3.cell? ⟨X, 4, none⟩ = some (.int .i64 0)) := Lib.hid ⟨x0, x1, x2, x3, x4⟩
        have D3 := Lib.hid hd
        have O3 := Lib.hid (HO.out.dr hg hpw)
        have hsz3 := hd.size
        clear hd hg HD HO CR HXR
        by_cases hb : (ys.length : Int) < 60 + b
        · have hl12 : ys.length ≤ 60 := by omega
          have hxl : ys.length ≤ 1000000000 := by omega
          go_wp2_with (at_builtin; refine wpList_app eUsed rfl _ _ 58 (by rfl) 33 (.agg #[.string ⟨#[]⟩, .int .i64 0, .int .i64 0, .int .i64 0, .int .i64 0]) 48 Try.underlying58 info_Used rfl (by decide) (by decide) w.heap.size _ ys (by rfl) (by exact O3.out) (by exact hxl) (by exact hsz3) ⟨⟨#[104, 117, 98]⟩, 10, 0, 0, 0⟩ _ (by rfl) _ (by rfl) (by first | rfl | simp) ?_)
          intro v5 w5 hO5 hB5 hG5 hor5 _
          have O5 := Lib.hid hO5
          have D5 := Lib.hid (D3.out.below hB5)
          have K5 := Lib.hid (ok_appU HK2.out (show okUsed ⟨⟨#[104, 117, 98]⟩, 10, 0, 0, 0⟩ by show (⟨#[104, 117, 98]⟩ : ByteArray).size ≤ 9223372036854775807; decide))
          have NE5 : Hid (v5.ownBlock ≠ some X) := Lib.hid (fun e => by
            rcases hor5 with h | h
            · exact NE.out (h.symm.trans e)
            · rw [e] at h; simp at h; omega)
          have HX5 : Hid (X < w5.heap.size) := Lib.hid (Nat.lt_of_lt_of_le hX3 hG5.size)
          have C5 : Hid (w5.cell? ⟨X, 0, none⟩ = some (.string ⟨#[104, 117, 98]⟩) ∧ w5.cell? ⟨X, 1, none⟩ = some (.int .i64 10) ∧ w5.cell? ⟨X, 2, none⟩ = some (.int .i64 0) ∧ w5.cell? ⟨X, 3, none⟩ = some (.int .i64 0) ∧ w5.cell? ⟨X, 4, none⟩ = some (.int .i64 0)) := Lib.hid (by
            have hne5 : some X ≠ (Value.slice A2 ys.length cap2).ownBlock := fun e => NE.out e.symm
            exact ⟨(hG5.cell_far ⟨X, 0, none⟩ hX3 hne5).trans C3.out.1, (hG5.cell_far ⟨X, 1, none⟩ hX3 hne5).trans C3.out.2.1, (hG5.cell_far ⟨X, 2, none⟩ hX3 hne5).trans C3.out.2.2.1, (hG5.cell_far ⟨X, 3, none⟩ hX3 hne5).trans C3.out.2.2.2.1, (hG5.cell_far ⟨X, 4, none⟩ hX3 hne5).trans C3.out.2.2.2.2⟩)
          clear hO5 hB5 hG5 hor5 D3 O3
          go_wp2
          go_roundg (62 - (ys.length + 1))
          case measure => omega
          case rel => exact ⟨_, by rw [List.length_append, List.length_singleton], by rw [List.length_append, List.length_singleton]; omega, O5, D5, K5, NE5, HX5, C5⟩
        · go_wp2
          go_ret
          exact ⟨_, _, rfl, O3.out, by omega, HK2.out, D3.out⟩
set_option maxHeartbeats 4000000 in
set_option maxRecDepth 20000 in
theorem DrawCountGrades_any (A : Option Addr) (n cap : Nat) (w : World) (hn : n ≤ 4096) (hc : n ≤ cap) (hb : Bytes w A n w.heap.size) :
    Calls Try.prog 83 #[.slice A n cap] w fun e w' => ∃ v R u L, e = .returned (.tuple #[v, u]) ∧ Own eRule w' w.heap.size 78 v R ∧ R.length ≤ 1000 ∧ Own eUsed w' w.heap.size 33 u L ∧ L.length ≤ 1000 ∧ (∀ x ∈ L, okUsed x) ∧ Below w.heap.size w w' := by
  go_enter Try.func83, Try.ntmps83
  go_wp2_with fail
  refine (l01From_any A n cap w hn hc hb).mono ?_
  rintro e w1 ⟨p, rfl, hp, hs1, hb1⟩
  have D1 := Lib.hid (Dr.refl hs1)
  have B1 := Lib.hid hb1
  have hz1 := hb1.size
  have hp1 : p < w1.heap.size := hs1.lt
  clear hs1 hb1 hb
  go_wp2_with fail
  refine (l25Rules_any p w1 D1.out.1).mono ?_
  rintro e w2 ⟨v, R, rfl, ho, hl, hd⟩
  have D2 := Lib.hid (D1.out.trans hd)
  have O2 := Lib.hid ho
  have S2 : Hid (Src w2 p) := Lib.hid hd.1
  have hz2 := hd.size
  clear ho hd D1
  go_wp2_with fail
  refine (l25List_any p w2 S2.out).mono ?_
  rintro e w3 ⟨u, L, rfl, ho, hl2, hk, hd⟩
  have D3 := Lib.hid (D2.out.trans hd)
  have O3 := Lib.hid (ho.mono hz2)
  have O2b := Lib.hid (O2.out.dr hd.2.1 hp1)
  have HK := Lib.hid hk
  clear ho hd D2 S2 O2 hk
  go_wp2
  go_ret2
  exact ⟨v, R, u, L, rfl, O2b.out.mono hz1, hl, O3.out.mono hz1, hl2, HK.out, D3.out.to_below B1.out hp⟩
theorem DrawBestUsed_any (A : Option Addr) (n cap : Nat) (w : World) (hn : n ≤ 4096) (hc : n ≤ cap) (hb : Bytes w A n w.heap.size) :
    Calls Try.prog 54 #[.slice A n cap] w fun e w' => ∃ v R u L, e = .returned (.tuple #[v, u]) ∧ Own eRule w' w.heap.size 78 v R ∧ R.length ≤ 1000 ∧ Own eUsed w' w.heap.size 33 u L ∧ L.length ≤ 1000 ∧ (∀ x ∈ L, okUsed x) ∧ Below w.heap.size w w' := by
  go_enter Try.func54, Try.ntmps54
  go_wp2_with fail
  refine (DrawCountGrades_any A n cap w hn hc hb).mono ?_
  rintro e w1 ⟨v, R, u, L, rfl, h1, h2, h3, h4, h5, h6⟩
  have H := Lib.hid (And.intro h1 (And.intro h2 (And.intro h3 (And.intro h4 (And.intro h5 h6)))))
  clear h1 h2 h3 h4 h5 h6 hb
  go_wp2
  go_ret2
  exact ⟨v, R, u, L, rfl, H.out⟩
set_option maxHeartbeats 4000000 in
set_option maxRecDepth 20000 in
theorem DrawGradeOf_any (A : Option Addr) (n cap : Nat) (w : World) (hn : n ≤ 4096) (hc : n ≤ cap) (hb : Bytes w A n w.heap.size) :
    Calls Try.prog 55 #[.slice A n cap] w fun e w' => ∃ v R x, e = .returned (.tuple #[v, .agg #[.string x.name, .int .i64 x.hours, .int .i64 x.play, .int .i64 x.rust, .int .i64 x.dents]]) ∧ Own eRule w' w.heap.size 78 v R ∧ R.length ≤ 1000 ∧ okUsed x ∧ Below w.heap.size w w' := by
  have hb0 : Below w.heap.size w (w.alloc (.cells #[.string ⟨#[]⟩, .int .i64 0, .int .i64 0, .int .i64 0, .int .i64 0] 33)) := (Below.refl _ _).alloc (Nat.le_refl _) _
  have hbA := Lib.hid (Bytes.below hb hb0)
  have HB0 := Lib.hid hb0
  have hzw : (w.alloc (.cells #[.string ⟨#[]⟩, .int .i64 0, .int .i64 0, .int .i64 0, .int .i64 0] 33)).heap.size = w.heap.size + 1 := by simp
  have hbx : ∀ j, (w.alloc (.cells #[.string ⟨#[]⟩, .int .i64 0, .int .i64 0, .int .i64 0, .int .i64 0] 33)).cell? ⟨w.heap.size, j, none⟩ = #[Value.string ⟨#[]⟩, .int .i64 0, .int .i64 0, .int .i64 0, .int .i64 0][j]? := fun j => box_new _ _ _ j
  have hfr : ∀ j, (w.alloc (.cells #[.string ⟨#[]⟩, .int .i64 0, .int .i64 0, .int .i64 0, .int .i64 0] 33)).frozen? ⟨w.heap.size, j, none⟩ = false := fun j => frozen_box _ _ _ _ (frozen_out _ _ (Nat.le_refl _))
  have HBX := Lib.hid hbx
  have HFR := Lib.hid hfr
  clear hb hb0 hbx hfr
  go_enter Try.func55, Try.ntmps55
  go_wp2_with fail
  generalize w.alloc (.cells #[.string ⟨#[]⟩, .int .i64 0, .int .i64 0, .int .i64 0, .int .i64 0] 33) = wA at *
  refine (l01From_any A n cap wA hn hc hbA.out).mono ?_
  rintro e w1 ⟨p, rfl, hp, hs1, hb1⟩
  have D1 := Lib.hid (Dr.refl hs1)
  have B1 := Lib.hid hb1
  have hz1 := hb1.size
  have hp1 : p < w1.heap.size := hs1.lt
  clear hs1 hb1
  go_wp2_with fail
  refine (l25Rules_any p w1 D1.out.1).mono ?_
  rintro e w2 ⟨v, R, rfl, ho, hl, hd⟩
  have D2 := Lib.hid (D1.out.trans hd)
  have O2 := Lib.hid ho
  have hz2 := hd.size
  clear ho hd D1
  go_wp2_with fail
  refine (l25Used_dr w1 p w2 D2.out).mono ?_
  rintro e w3 ⟨⟨nm, hr, pl, rs, dn⟩, rfl, hx, hd, hg⟩
  have D3 := Lib.hid hd
  have O3 := Lib.hid (O2.out.dr hg hp1)
  have HXO := Lib.hid hx
  clear hd hg hx D2 O2
  have hr0 : w.heap.size < w1.heap.size := by omega
  have hrp : w.heap.size ≠ p := by omega
  have hne : some w.heap.size ≠ some p := fun e => hrp (Option.some.inj e)
  have hcx : ∀ j v, wA.cell? ⟨w.heap.size, j, none⟩ = some v → w3.cell? ⟨w.heap.size, j, none⟩ = some v := fun j v hv => (D3.out.2.1.cell_far ⟨w.heap.size, j, none⟩ hr0 hne).trans ((B1.out.cell (p := ⟨w.heap.size, j, none⟩) (by simp only []; omega)).trans hv)
  have hff : ∀ j, w3.frozen? ⟨w.heap.size, j, none⟩ = false := fun j => (D3.out.2.1.frozen_far _ hr0 hne).trans ((B1.out.frozen (by simp only []; omega)).trans (HFR.out j))
  have r0 := hcx 0 _ ((HBX.out 0).trans (show _ = some (Value.string ⟨#[]⟩) from rfl))
  have r1 := hcx 1 _ ((HBX.out 1).trans (show _ = some (Value.int .i64 0) from rfl))
  have r2 := hcx 2 _ ((HBX.out 2).trans (show _ = some (Value.int .i64 0) from rfl))
  have r3 := hcx 3 _ ((HBX.out 3).trans (show _ = some (Value.int .i64 0) from rfl))
  have r4 := hcx 4 _ ((HBX.out 4).trans (show _ = some (Value.int .i64 0) from rfl))
  have rf0 := hff 0
  have rf1 := hff 1
  have rf2 := hff 2
  have rf3 := hff 3
  have rf4 := hff 4
  have HBW : Hid (Below w.heap.size w w3) := Lib.hid ((HB0.out.trans (B1.out.mono (by omega))).grown D3.out.2.1 (by omega) (fun k hk => by cases hk; omega))
  have HBF := Lib.hid (((((HBW.out.setCell (p := ⟨w.heap.size, 0, none⟩) (Nat.le_refl _) (.string nm)).setCell (p := ⟨w.heap.size, 1, none⟩) (Nat.le_refl _) (.int .i64 hr)).setCell (p := ⟨w.heap.size, 2, none⟩) (Nat.le_refl _) (.int .i64 pl)).setCell (p := ⟨w.heap.size, 3, none⟩) (Nat.le_refl _) (.int .i64 rs)).setCell (p := ⟨w.heap.size, 4, none⟩) (Nat.le_refl _) (.int .i64 dn))
  have far : ∀ (W : World) (j : Nat) (u : Value), Own eRule W w1.heap.size 78 v R → Own eRule (W.setCell ⟨w.heap.size, j, none⟩ u) w1.heap.size 78 v R := fun W j u h => World.ownsRow.kept h (grown_set _ _ _ _) (own_apart2 h hr0)
  have HOF := Lib.hid ((far _ 4 (.int .i64 dn) (far _ 3 (.int .i64 rs) (far _ 2 (.int .i64 pl) (far _ 1 (.int .i64 hr) (far _ 0 (.string nm) O3.out))))).mono (base' := w.heap.size) (by omega))
  have U := used_cells (v0 := .string nm) (v1 := .int .i64 hr) (v2 := .int .i64 pl) (v3 := .int .i64 rs) (v4 := .int .i64 dn) r0 r1 r2 r3 r4
  obtain ⟨u0, u1, u2, u3, u4⟩ := U
  clear hcx hff far O3 D3 HBX HFR hbA
  go_wp2
  refine bodyPost_ret (v := .tuple #[v, .agg #[.string (⟨nm, hr, pl, rs, dn⟩ : Used).name, .int .i64 (⟨nm, hr, pl, rs, dn⟩ : Used).hours, .int .i64 (⟨nm, hr, pl, rs, dn⟩ : Used).play, .int .i64 (⟨nm, hr, pl, rs, dn⟩ : Used).rust, .int .i64 (⟨nm, hr, pl, rs, dn⟩ : Used).dents]]) (by simp [results, Try.results55, go_sem, u0, u1, u2, u3, u4]) rfl ⟨v, R, ⟨nm, hr, pl, rs, dn⟩, rfl, HOF.out, hl, HXO.out, HBF.out⟩
end Go.Proofs.Ytncggcbpbejmcaa
