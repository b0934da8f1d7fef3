/- What the reference's draws of parts and joints hand out (chapters 16 to 18). No statement of the seat is proved here. -/
import Derived.Test.YtblaojjpclipaaaGoodP
import Derived.Test.YtblaojjpclipaaaM1
namespace Go.Proofs.Ytblaojjpclipaaa
open Go.RowKit

/-- parts of the call's own -/
def OwnPs (w : World) (base : Nat) (v : Value) (ps : List Part) : Prop := ∃ ss : List PC, Own eP w base 52 v ss ∧ ss.length = ps.length ∧
  ∀ (k : Nat) (s : PC) (x : Part), ss[k]? = some s → ps[k]? = some x → (s.code = x.code ∧ s.slot = x.slot ∧ s.price = x.price ∧ s.grams = x.grams) ∧ Own ePort w base 105 s.sl x.ports
section
variable {w w' : World} {base : Nat} {v : Value} {ps : List Part}
theorem OwnPs.empty (w : World) (base : Nat) (h : base ≤ w.heap.size) : OwnPs (w.alloc (.cells #[] 52)) base (.slice (some ⟨w.heap.size, 0, none⟩) 0 0) [] := ⟨[], Own.empty _ _ _ _ h, rfl, fun k s x e _ => by simp at e⟩
theorem OwnPs.dr {p : Nat} (h : OwnPs w base v ps) (hg : w.grownBy w' (some p)) (hp : p < base) : OwnPs w' base v ps := by
  obtain ⟨ss, h1, h2, h3⟩ := h
  exact ⟨ss, h1.dr hg hp, h2, fun k s x e1 e2 => ⟨(h3 k s x e1 e2).1, (h3 k s x e1 e2).2.dr hg hp⟩⟩
theorem OwnPs.below (h : OwnPs w base v ps) (hb : Below w.heap.size w w') : OwnPs w' base v ps := by
  obtain ⟨ss, h1, h2, h3⟩ := h
  exact ⟨ss, h1.below hb, h2, fun k s x e1 e2 => ⟨(h3 k s x e1 e2).1, (h3 k s x e1 e2).2.below hb⟩⟩
theorem OwnPs.mono (h : OwnPs w base v ps) {base' : Nat} (hb : base' ≤ base) : OwnPs w base' v ps := by
  obtain ⟨ss, h1, h2, h3⟩ := h
  exact ⟨ss, h1.mono hb, h2, fun k s x e1 e2 => ⟨(h3 k s x e1 e2).1, (h3 k s x e1 e2).2.mono hb⟩⟩
theorem OwnPs.len (h : OwnPs w base v ps) : ∃ a cap, v = .slice a ps.length cap := by
  obtain ⟨ss, h1, h2, _⟩ := h
  obtain ⟨a, c, e⟩ := slice_ofR h1
  exact ⟨a, c, by rw [← h2]; exact e⟩
theorem OwnPs.app {ss : List PC} {s : PC} {x : Part} {v' : Value} (h1 : Own eP w base 52 v ss) (h2 : ss.length = ps.length) (h3 : ∀ (k : Nat) (s : PC) (x : Part), ss[k]? = some s → ps[k]? = some x → (s.code = x.code ∧ s.slot = x.slot ∧ s.price = x.price ∧ s.grams = x.grams) ∧ Own ePort w base 105 s.sl x.ports)
    (he : s.code = x.code ∧ s.slot = x.slot ∧ s.price = x.price ∧ s.grams = x.grams) (hc : Own ePort w base 105 s.sl x.ports) (hn : Own eP w' base 52 v' (ss ++ [s])) (hg : w.grownBy w' v.ownBlock) : OwnPs w' base v' (ps ++ [x]) := by
  refine ⟨ss ++ [s], hn, by simp [h2], fun k s' x' e1 e2 => ?_⟩
  rcases Nat.lt_or_ge k ss.length with hk | hk
  · rw [List.getElem?_append_left hk] at e1
    rw [List.getElem?_append_left (by omega)] at e2
    obtain ⟨r1, r2⟩ := h3 k s' x' e1 e2
    exact ⟨r1, Own.kept r2 hg (own_ne_row h1 r2 (by decide))⟩
  · rw [List.getElem?_append_right hk] at e1
    rw [List.getElem?_append_right (by omega)] at e2
    have hk0 : k - ss.length = 0 := by
      rcases Nat.eq_zero_or_pos (k - ss.length) with h0 | h0
      · exact h0
      · rw [List.getElem?_eq_none (by simp; omega)] at e1; cases e1
    rw [hk0] at e1
    rw [show k - ps.length = 0 by omega] at e2
    simp at e1 e2
    subst e1 e2
    exact ⟨he, Own.kept hc hg (own_ne_row h1 hc (by decide))⟩
theorem OwnPs.rd (h : OwnPs w base v ps) (hn : ps.length ≤ 1000) (hl : ∀ x ∈ ps, x.ports.length ≤ 3) : RdP w v ps := by
  obtain ⟨ss, h1, h2, h3⟩ := h
  refine ⟨ss, Sl.of_own h1 (by unfold big40; omega), h2, fun k s x e1 e2 => ?_⟩
  obtain ⟨⟨q1, q2, q3, q4⟩, q5⟩ := h3 k s x e1 e2
  have hx := hl x (List.mem_of_getElem? e2)
  exact ⟨q1, q2, q3, q4, Sl.of_own q5 (by unfold big40; omega)⟩
end
/-- what is known of drawn parts -/
def okDr (ps : List Part) : Prop := ∀ x ∈ ps, x.code.size ≤ 1048576 ∧ x.ports.length ≤ 3
theorem okDr_app {ps : List Part} {y : Part} (h : okDr ps) (h1 : y.code.size ≤ 1048576) (h2 : y.ports.length ≤ 3) : okDr (ps ++ [y]) := by
  intro x hx
  rcases List.mem_append.1 hx with hx | hx
  · exact h x hx
  · rw [List.mem_singleton.1 hx]; exact ⟨h1, h2⟩
set_option maxHeartbeats 16000000 in
set_option maxRecDepth 20000 in
theorem l16List_any (p : Nat) (w : World) (hs : Src w p) :
    Calls Try.prog 60 #[.pointer (some ⟨p, 0, none⟩)] w fun e w' => ∃ v ps, e = .returned v ∧ OwnPs w' w.heap.size v ps ∧ ps.length ≤ 100 ∧ okDr ps ∧ Dr w p w' := by
  have hpw := hs.lt
  have D0 : Hid (Dr w p (w.alloc (.cells #[] 52))) := Lib.hid ((Dr.refl hs).alloc _)
  have O0 : Hid (OwnPs (w.alloc (.cells #[] 52)) w.heap.size (.slice (some ⟨w.heap.size, 0, none⟩) 0 0) []) := Lib.hid (OwnPs.empty w _ (Nat.le_refl _))
  have K0 : Hid (okDr []) := Lib.hid (fun x hx => by simp at hx)
  have hzA : (w.alloc (.cells #[] 52)).heap.size = w.heap.size + 1 := by simp
  clear hs
  go_enter Try.func60, Try.ntmps60
  go_wp2_with fail
  refine (l16Names_ps w p _ D0.out).mono ?_
  rintro e w1 ⟨N, rfl, hps, hN, hd, hg⟩
  have D1 := Lib.hid hd
  have O1 := Lib.hid (O0.out.dr hg hpw)
  have P1 := Lib.hid hps
  have NE0 : Hid ((Value.slice (some ⟨w.heap.size, 0, none⟩) 0 0).ownBlock ≠ some N) := Lib.hid (fun e => by simp [Value.ownBlock] at e; omega)
  have hNw : w.heap.size ≤ N := by omega
  clear hd hg hps D0 O0 hN hzA
  go_wp2
  go_loopg [3, 5] 8 (fun gk v i wr => ∃ (xs : List Part) (j : Nat), i = .int .i64 (j : Nat) ∧ gk = 8 - j ∧ j ≤ 8 ∧ xs.length ≤ j ∧ Hid (OwnPs wr w.heap.size v xs) ∧ Hid (Dr w p wr) ∧ Hid (okDr xs) ∧ Hid (PS p wr (.slice (some ⟨N, 0, none⟩) 8 8) 8) ∧ Hid (v.ownBlock ≠ some N))
  case atStart => exact ⟨[], 0, rfl, rfl, by omega, by simp, O1, D1, K0, P1, NE0⟩
  case round =>
    rename Nat => gg
    obtain ⟨xs, j, rfl, rfl, hj8, l1, HO, HD, HK, HP, HN⟩ := hrel
    clear O1 D1 K0 P1 NE0
    by_cases hk : j < 8
    · have hkI : (j : Int) < 8 := by omega
      have hk0 : (0 : Int) ≤ (j : Int) := by omega
      go_wp2_with fail
      refine (next_dr 3 HD.out (by omega)).mono ?_
      rintro e w2 ⟨b, rfl, b0, b1, hd, hg⟩
      have D2 := Lib.hid hd
      have O2 := Lib.hid (HO.out.dr hg hpw)
      have P2 := Lib.hid (HP.out.stay (Stay.grown hg hg.size))
      clear hd hg HD HO HP
      by_cases hb : 0 < b
      rotate_left
      · obtain rfl : b = 0 := by omega
        go_wp2
        go_roundg (8 - (j + 1))
        case measure => omega
        case rel => exact ⟨xs, j + 1, by go_num, rfl, by omega, by omega, O2, D2, HK, P2, HN⟩
      have hp2 := P2.out
      obtain ⟨N', eN, hNp, hNs, hNc⟩ := hp2
      obtain rfl : N = N' := by cases eN; rfl
      obtain ⟨s, hs20, hNk⟩ := hNc j hk
      clear hNc eN
      go_wp2_with fail
      refine (l16Good_dr w p w2 s D2.out).mono ?_
      rintro e w3 ⟨sl, pr, gr, ports, pa, pcap, rfl, hpo, hpl, hd, hg⟩
      have D3 := Lib.hid hd
      have hszp : w.heap.size ≤ w2.heap.size := D2.out.size
      have PO3 := Lib.hid (hpo.mono (base' := w.heap.size) hszp)
      have O3 := Lib.hid (O2.out.dr hg hpw)
      have hsz3 := hd.size
      have HPL := Lib.hid hpl
      have P3 := Lib.hid (P2.out.stay (Stay.grown hg hg.size))
      clear hd hg hpo hpl D2 O2 P2 hNk
      obtain ⟨ss, k1, k2, k3⟩ := O3.out
      have K1 := Lib.hid k1
      have K2 := Lib.hid k2
      have K3 := Lib.hid k3
      have hss9 : ss.length ≤ 1000000000 := by rw [k2]; omega
      clear k1 k2 k3
      go_wp2_with (at_builtin; refine wpList_app eP rfl _ _ 29 (by rfl) 52 (.agg #[.string ⟨#[]⟩, .int .i64 0, .slice none 0 0, .int .i64 0, .int .i64 0]) 64 Try.underlying29 info_Part rfl (by decide) (by decide) w.heap.size _ ss (by rfl) (by exact K1.out) (by exact hss9) (by exact hsz3) ⟨s, sl, pa, ports.length, pcap, pr, gr⟩ _ (by rfl) _ (by rfl) (by first | rfl | simp) ?_)
      intro v6 w6 hO6 hB6 hG6 hor6 _
      have O6 : Hid (OwnPs w6 w.heap.size v6 (xs ++ [⟨s, sl, ports, pr, gr⟩])) := Lib.hid (OwnPs.app (s := ⟨s, sl, pa, ports.length, pcap, pr, gr⟩) (x := ⟨s, sl, ports, pr, gr⟩) K1.out K2.out K3.out ⟨rfl, rfl, rfl, rfl⟩ PO3.out hO6 hG6)
      have D6 := Lib.hid (D3.out.below hB6)
      have K6 := Lib.hid (okDr_app (y := ⟨s, sl, ports, pr, gr⟩) HK.out (show s.size ≤ 1048576 by omega) HPL.out)
      have P6 := Lib.hid (P3.out.far hG6 HN.out)
      have N6 := Lib.hid (own_new2 HN.out P3.out.lt hor6)
      clear hO6 hB6 hG6 hor6 D3 O3 P3 K1 K2 K3 PO3
      go_wp2
      go_roundg (8 - (j + 1))
      case measure => omega
      case rel => exact ⟨_, j + 1, by go_num, rfl, by omega, by rw [List.length_append, List.length_singleton]; omega, O6, D6, K6, P6, N6⟩
    obtain rfl : j = 8 := by omega
    clear hk
    go_wp2_with fail
    refine (next_dr 40 HD.out (by omega)).mono ?_
    rintro e w4 ⟨c, rfl, c1, c2, hd, hg⟩
    have D4 := Lib.hid hd
    have O4 := Lib.hid (HO.out.dr hg hpw)
    have hxl8 : xs.length ≤ 8 := by omega
    clear hd hg HD HO HP HN
    by_cases h0 : c = 0
    · subst h0
      go_wp2_with fail
      refine (l16Good_dr w p w4 ⟨#[97, 110, 99, 104, 111, 114]⟩ D4.out).mono ?_
      rintro e w6 ⟨sl, pr, gr, ports, pa, pcap, rfl, hpo, hpl, hd, hg⟩
      have D6 := Lib.hid hd
      have hszp : w.heap.size ≤ w4.heap.size := D4.out.size
      have PO6 := Lib.hid (hpo.mono (base' := w.heap.size) hszp)
      have O6 := Lib.hid (O4.out.dr hg hpw)
      have hsz6 := hd.size
      have HPL := Lib.hid hpl
      clear hd hg hpo hpl D4 O4
      obtain ⟨ss, k1, k2, k3⟩ := O6.out
      have K1 := Lib.hid k1
      have K2 := Lib.hid k2
      have K3 := Lib.hid k3
      have hss9 : ss.length ≤ 1000000000 := by rw [k2]; omega
      clear k1 k2 k3
      go_wp2_with (at_builtin; refine wpList_app eP rfl _ _ 29 (by rfl) 52 (.agg #[.string ⟨#[]⟩, .int .i64 0, .slice none 0 0, .int .i64 0, .int .i64 0]) 64 Try.underlying29 info_Part rfl (by decide) (by decide) w.heap.size _ ss (by rfl) (by exact K1.out) (by exact hss9) (by exact hsz6) ⟨⟨#[97, 110, 99, 104, 111, 114]⟩, sl, pa, ports.length, pcap, pr, gr⟩ _ (by rfl) _ (by rfl) (by first | rfl | simp) ?_)
      intro v8 w8 hO6 hB6 hG6 hor6 _
      have O8 : Hid (OwnPs w8 w.heap.size v8 (xs ++ [⟨⟨#[97, 110, 99, 104, 111, 114]⟩, sl, ports, pr, gr⟩])) := Lib.hid (OwnPs.app (s := ⟨⟨#[97, 110, 99, 104, 111, 114]⟩, sl, pa, ports.length, pcap, pr, gr⟩) (x := ⟨⟨#[97, 110, 99, 104, 111, 114]⟩, sl, ports, pr, gr⟩) K1.out K2.out K3.out ⟨rfl, rfl, rfl, rfl⟩ PO6.out hO6 hG6)
      have D8 := Lib.hid (D6.out.below hB6)
      have K8 := Lib.hid (okDr_app (y := ⟨⟨#[97, 110, 99, 104, 111, 114]⟩, sl, ports, pr, gr⟩) HK.out (show (⟨#[97, 110, 99, 104, 111, 114]⟩ : ByteArray).size ≤ 1048576 by decide) HPL.out)
      clear hO6 hB6 hG6 hor6 D6 O6 K1 K2 K3 PO6
      go_wp2
      go_ret
      exact ⟨_, _, rfl, O8.out, by rw [List.length_append, List.length_singleton]; omega, K8.out, D8.out⟩
    have h0b : (c == 0) = false := beq_eq_false_iff_ne.2 h0
    by_cases h1 : c = 1
    · subst h1
      clear h0b h0
      obtain ⟨A0x, cap, rfl⟩ := O4.out.len
      go_wp2
      go_loopg [3, 6] (18 - xs.length) (fun gk v k wr => ∃ (ys : List Part) (j : Nat), k = .int .i64 (j : Nat) ∧ gk = 18 - ys.length ∧ j ≤ ys.length ∧ ys.length ≤ 17 ∧ Hid (OwnPs wr w.heap.size v ys) ∧ Hid (Dr w p wr) ∧ Hid (okDr ys))
      case atStart => exact ⟨xs, 0, rfl, rfl, by omega, by omega, O4, D4, HK⟩
      case round =>
        obtain ⟨ys, j, rfl, rfl, hj, l2, HO, HD, HK2⟩ := hrel
        clear O4 D4 HK
        obtain ⟨A2, cap2, rfl⟩ := HO.out.len
        have HL1 : (ys.length : Int) ≤ 17 := by omega
        go_wp2_with fail
        refine (next_dr 2 HD.out (by omega)).mono ?_
        rintro e w5 ⟨b, rfl, b1, b2, hd, hg⟩
        have D5 := Lib.hid hd
        have O5 := Lib.hid (HO.out.dr hg hpw)
        clear hd hg HD HO
        by_cases hb : (ys.length : Int) < 16 + b
        · have hl12 : ys.length ≤ 16 := by omega
          have hj0 : (0 : Int) ≤ (j : Int) := by omega
          have hj1 : (j : Int) ≤ (j : Int) + 1 := by omega
          have hj2 : (j : Int) + 1 ≤ 17 := by omega
          have hjw : IntKind.i64.wrap ((j : Int) + 1) = (j : Int) + 1 := IntWalk.i64_in _ (by omega)
          have HST : Hid ((⟨#[120]⟩ ++ (⟨#[97, 98, 99, 100, 101, 102, 103, 104, 105, 106, 107, 108, 109, 110, 111, 112, 113]⟩ : ByteArray).extract j (j + 1)).size ≤ 1048576) := Lib.hid (by
            have h1 : (⟨#[120]⟩ : ByteArray).size = 1 := rfl
            have h2 : (⟨#[97, 98, 99, 100, 101, 102, 103, 104, 105, 106, 107, 108, 109, 110, 111, 112, 113]⟩ : ByteArray).size = 17 := rfl
            rw [ByteArray.size_append, ByteArray.size_extract, h1, h2]
            omega)
          go_wp2_with fail
          generalize ⟨#[120]⟩ ++ (⟨#[97, 98, 99, 100, 101, 102, 103, 104, 105, 106, 107, 108, 109, 110, 111, 112, 113]⟩ : ByteArray).extract j (j + 1) = st at *
          refine (l16Good_dr w p w5 st D5.out).mono ?_
          rintro e w6 ⟨sl, pr, gr, ports, pa, pcap, rfl, hpo, hpl, hd, hg⟩
          have D6 := Lib.hid hd
          have hszp : w.heap.size ≤ w5.heap.size := D5.out.size
          have PO6 := Lib.hid (hpo.mono (base' := w.heap.size) hszp)
          have O6 := Lib.hid (O5.out.dr hg hpw)
          have hsz6 := hd.size
          have HPL := Lib.hid hpl
          clear hd hg hpo hpl D5 O5
          obtain ⟨ss, k1, k2, k3⟩ := O6.out
          have K1 := Lib.hid k1
          have K2 := Lib.hid k2
          have K3 := Lib.hid k3
          have hss9 : ss.length ≤ 1000000000 := by rw [k2]; omega
          clear k1 k2 k3
          go_wp2_with (at_builtin; refine wpList_app eP rfl _ _ 29 (by rfl) 52 (.agg #[.string ⟨#[]⟩, .int .i64 0, .slice none 0 0, .int .i64 0, .int .i64 0]) 64 Try.underlying29 info_Part rfl (by decide) (by decide) w.heap.size _ ss (by rfl) (by exact K1.out) (by exact hss9) (by exact hsz6) ⟨st, sl, pa, ports.length, pcap, pr, gr⟩ _ (by rfl) _ (by rfl) (by first | rfl | simp) ?_)
          intro v8 w8 hO6 hB6 hG6 hor6 _
          have O8 : Hid (OwnPs w8 w.heap.size v8 (ys ++ [⟨st, sl, ports, pr, gr⟩])) := Lib.hid (OwnPs.app (s := ⟨st, sl, pa, ports.length, pcap, pr, gr⟩) (x := ⟨st, sl, ports, pr, gr⟩) K1.out K2.out K3.out ⟨rfl, rfl, rfl, rfl⟩ PO6.out hO6 hG6)
          have D8 := Lib.hid (D6.out.below hB6)
          have K8 := Lib.hid (okDr_app (y := ⟨st, sl, ports, pr, gr⟩) HK2.out HST.out HPL.out)
          clear hO6 hB6 hG6 hor6 D6 O6 K1 K2 K3 PO6
          go_wp2
          go_roundg (18 - (ys.length + 1))
          case measure => omega
          case rel => exact ⟨_, j + 1, by go_num, by rw [List.length_append, List.length_singleton], by rw [List.length_append, List.length_singleton]; omega, by rw [List.length_append, List.length_singleton]; omega, O8, D8, K8⟩
        · go_wp2
          go_ret
          exact ⟨_, _, rfl, O5.out, by omega, HK2.out, D5.out⟩
    have h1b : (c == 1) = false := beq_eq_false_iff_ne.2 h1
    go_wp2
    go_ret
    exact ⟨_, _, rfl, O4.out, by omega, HK.out, D4.out⟩
set_option maxHeartbeats 16000000 in
set_option maxRecDepth 20000 in
theorem l17DrawJoints_any (p : Nat) (w : World) (hs : Src w p) :
    Calls Try.prog 61 #[.pointer (some ⟨p, 0, none⟩)] w fun e w' => ∃ v js, e = .returned v ∧ Own eJoint w' w.heap.size 47 v js ∧ js.length ≤ 1000 ∧ Dr w p w' := by
  have hpw := hs.lt
  have D0 : Hid (Dr w p (w.alloc (.cells #[] 47))) := Lib.hid ((Dr.refl hs).alloc _)
  have O0 : Hid (Own eJoint (w.alloc (.cells #[] 47)) w.heap.size 47 (.slice (some ⟨w.heap.size, 0, none⟩) 0 0) []) := Lib.hid (Own.empty eJoint w _ _ (Nat.le_refl _))
  clear hs
  go_enter Try.func61, Try.ntmps61
  go_wp2_with fail
  refine (next_dr 4 D0.out (by omega)).mono ?_
  rintro e w1 ⟨n0, rfl, n1, n2, hd, hg⟩
  have D1 := Lib.hid hd
  have O1 := Lib.hid (O0.out.dr hg hpw)
  obtain ⟨M, rfl⟩ := Int.eq_ofNat_of_zero_le n1
  have hM : M ≤ 3 := by omega
  clear hd hg D0 O0 n1 n2
  go_wp2
  go_loopg [3, 4] M (fun gk v n wr => ∃ (xs : List Joint), n = .int .i64 (gk : Nat) ∧ xs.length + gk = M ∧ Hid (Own eJoint wr w.heap.size 47 v xs) ∧ Hid (Dr w p wr))
  case atStart => exact ⟨[], rfl, by simp, O1, D1⟩
  case round =>
    rename Nat => k
    obtain ⟨xs, rfl, l1, HO, HD⟩ := hrel
    clear O1 D1
    by_cases hk : 0 < k
    · obtain ⟨k, rfl⟩ : ∃ j, k = j + 1 := ⟨k - 1, by omega⟩
      have hkI : (0 : Int) < ((k + 1 : Nat) : Int) := by omega
      have hkw : IntKind.i64.wrap (((k + 1 : Nat) : Int) - 1) = (k : Int) := by rw [show ((k + 1 : Nat) : Int) - 1 = (k : Int) by omega]; exact IntWalk.i64_in _ (by omega)
      have hxl9 : xs.length ≤ 1000000000 := by omega
      go_wp2_with fail
      refine (next_dr 2 HD.out (by omega)).mono ?_
      rintro e w3 ⟨a, rfl, a0, a1, hd, hg⟩
      have D3 := Lib.hid hd
      have O3 := Lib.hid (HO.out.dr hg hpw)
      have hs3 := hd.size
      clear hd hg HD HO
      have hwa : IntKind.i64.wrap (a + 1) = a + 1 := IntWalk.i64_in _ (by omega)
      have hwb : IntKind.i64.wrap (2 - a) = 2 - a := IntWalk.i64_in _ (by omega)
      go_wp2_with fail
      refine (next_dr (2 - a) D3.out (by omega)).mono ?_
      rintro e w4 ⟨b, rfl, b0, b1, hd, hg⟩
      have D4 := Lib.hid hd
      have O4 := Lib.hid (O3.out.dr hg hpw)
      have hs4 := hd.size
      clear hd hg D3 O3
      have hwc : IntKind.i64.wrap (a + 1 + b) = a + 1 + b := IntWalk.i64_in _ (by omega)
      go_wp2_with fail
      refine (next_dr 3 D4.out (by omega)).mono ?_
      rintro e w5 ⟨c, rfl, c0, c1, hd, hg⟩
      have D5 := Lib.hid hd
      have O5 := Lib.hid (O4.out.dr hg hpw)
      have hs5 := hd.size
      clear hd hg D4 O4
      go_wp2_with (at_builtin; refine wpList_app eJoint rfl _ _ 30 (by rfl) 47 (.agg #[.int .i64 0, .int .i64 0, .int .i64 0]) 24 Try.underlying30 info_Joint rfl (by decide) (by decide) w.heap.size _ xs (by rfl) (by exact O5.out) (by exact hxl9) (by exact hs5) ⟨a, a + 1 + b, c⟩ _ (by rfl) _ (by rfl) (by first | rfl | simp) ?_)
      intro v8 w8 hO8 hB8 _ _ _
      have O8 := Lib.hid hO8
      have D8 := Lib.hid (D5.out.below hB8)
      clear hO8 hB8 O5 D5
      go_wp2
      go_roundg k
      case measure => omega
      case rel => exact ⟨_, by go_num, by rw [List.length_append, List.length_singleton]; omega, O8, D8⟩
    obtain rfl : k = 0 := by omega
    clear hk
    have hxl3 : xs.length ≤ 3 := by omega
    have hxl9 : xs.length ≤ 1000000000 := by omega
    go_wp2_with fail
    refine (next_dr 40 HD.out (by omega)).mono ?_
    rintro e w4 ⟨c, rfl, c0, c1, hd, hg⟩
    have D4 := Lib.hid hd
    have O4 := Lib.hid (HO.out.dr hg hpw)
    have hs4 := hd.size
    clear hd hg HD HO
    by_cases h0 : c = 0
    · subst h0
      clear c0 c1
      go_wp2_with fail
      refine (next_dr 9 D4.out (by omega)).mono ?_
      rintro e w5 ⟨a, rfl, a0, a1, hd, hg⟩
      have D5 := Lib.hid hd
      have O5 := Lib.hid (O4.out.dr hg hpw)
      have hs5 := hd.size
      clear hd hg D4 O4
      have hwa : IntKind.i64.wrap (a - 1) = a - 1 := IntWalk.i64_in _ (by omega)
      go_wp2_with fail
      refine (next_dr 9 D5.out (by omega)).mono ?_
      rintro e w6 ⟨b, rfl, b0, b1, hd, hg⟩
      have D6 := Lib.hid hd
      have O6 := Lib.hid (O5.out.dr hg hpw)
      have hs6 := hd.size
      clear hd hg D5 O5
      go_wp2_with fail
      refine (next_dr 11 D6.out (by omega)).mono ?_
      rintro e w7 ⟨d, rfl, d0, d1, hd, hg⟩
      have D7 := Lib.hid hd
      have O7 := Lib.hid (O6.out.dr hg hpw)
      have hs7 := hd.size
      clear hd hg D6 O6
      go_wp2_with (at_builtin; refine wpList_app eJoint rfl _ _ 30 (by rfl) 47 (.agg #[.int .i64 0, .int .i64 0, .int .i64 0]) 24 Try.underlying30 info_Joint rfl (by decide) (by decide) w.heap.size _ xs (by rfl) (by exact O7.out) (by exact hxl9) (by exact hs7) ⟨a - 1, b, d⟩ _ (by rfl) _ (by rfl) (by first | rfl | simp) ?_)
      intro v8 w8 hO8 hB8 _ _ _
      have O8 := Lib.hid hO8
      have D8 := Lib.hid (D7.out.below hB8)
      clear hO8 hB8 O7 D7
      go_wp2
      go_ret
      exact ⟨_, _, rfl, O8.out, by rw [List.length_append, List.length_singleton]; omega, D8.out⟩
    have h0b : (c == 0) = false := beq_eq_false_iff_ne.2 h0
    by_cases h1 : c = 1
    · subst h1
      clear h0b h0 c0 c1
      obtain ⟨A0x, cap, rfl⟩ := slice_ofR O4.out
      go_wp2
      go_loopg [3] (14 - xs.length) (fun gk v wr => ∃ ys : List Joint, gk = 14 - ys.length ∧ ys.length ≤ 13 ∧ Hid (Own eJoint wr w.heap.size 47 v ys) ∧ Hid (Dr w p wr))
      case atStart => exact ⟨xs, rfl, by omega, O4, D4⟩
      case round =>
        obtain ⟨ys, rfl, l2, HO, HD⟩ := hrel
        clear O4 D4
        obtain ⟨A2, cap2, rfl⟩ := slice_ofR HO.out
        have HL1 : (ys.length : Int) ≤ 13 := by omega
        go_wp2_with fail
        refine (next_dr 2 HD.out (by omega)).mono ?_
        rintro e w5 ⟨b, rfl, b0, b1, hd, hg⟩
        have D5 := Lib.hid hd
        have O5 := Lib.hid (HO.out.dr hg hpw)
        have hs5 := hd.size
        clear hd hg HD HO
        by_cases hb : (ys.length : Int) < 12 + b
        · have hl12 : ys.length ≤ 12 := by omega
          have hyl : ys.length ≤ 1000000000 := by omega
          go_wp2_with (at_builtin; refine wpList_app eJoint rfl _ _ 30 (by rfl) 47 (.agg #[.int .i64 0, .int .i64 0, .int .i64 0]) 24 Try.underlying30 info_Joint rfl (by decide) (by decide) w.heap.size _ ys (by rfl) (by exact O5.out) (by exact hyl) (by exact hs5) ⟨0, 1, 0⟩ _ (by rfl) _ (by rfl) (by first | rfl | simp) ?_)
          intro v8 w8 hO8 hB8 _ _ _
          have O8 := Lib.hid hO8
          have D8 := Lib.hid (D5.out.below hB8)
          clear hO8 hB8 O5 D5
          go_wp2
          go_roundg (14 - (ys.length + 1))
          case measure => omega
          case rel => exact ⟨_, by rw [List.length_append, List.length_singleton], by rw [List.length_append, List.length_singleton]; omega, O8, D8⟩
        · go_wp2
          go_ret
          exact ⟨_, _, rfl, O5.out, by omega, D5.out⟩
    have h1b : (c == 1) = false := beq_eq_false_iff_ne.2 h1
    go_wp2
    go_ret
    exact ⟨_, _, rfl, O4.out, by omega, D4.out⟩
set_option maxHeartbeats 4000000 in
set_option maxRecDepth 20000 in
theorem l18Draw_any (p : Nat) (w : World) (hs : Src w p) :
    Calls Try.prog 36 #[.pointer (some ⟨p, 0, none⟩)] w fun e w' => ∃ v u ps js, e = .returned (.tuple #[v, u]) ∧ OwnPs w' w.heap.size v ps ∧ ps.length ≤ 100 ∧ okDr ps ∧ Own eJoint w' w.heap.size 47 u js ∧ js.length ≤ 1000 ∧ Dr w p w' := by
  have HS := Lib.hid hs
  have hpw := hs.lt
  clear hs
  go_enter Try.func36, Try.ntmps36
  go_wp2_with fail
  refine (l16List_any p w HS.out).mono ?_
  rintro e w1 ⟨v, ps, rfl, ho, hl, hk, hd⟩
  have O1 := Lib.hid ho
  have K1 := Lib.hid hk
  have D1 := Lib.hid hd
  clear ho hk hd
  go_wp2_with fail
  refine (l17DrawJoints_any p w1 D1.out.1).mono ?_
  rintro e w2 ⟨u, js, rfl, ho, hjl, hd⟩
  have O2 := Lib.hid (O1.out.dr hd.2.1 hpw)
  have J2 := Lib.hid (ho.mono (base' := w.heap.size) D1.out.size)
  have D2 := Lib.hid (D1.out.trans hd)
  clear ho hd O1 D1
  go_wp2
  go_ret2
  exact ⟨_, _, ps, js, rfl, O2.out, hl, K1.out, J2.out, hjl, D2.out⟩
set_option maxHeartbeats 4000000 in
set_option maxRecDepth 20000 in
theorem DrawCheapestBicycle_any (A : Option Addr) (n cap : Nat) (w : World) (hn : n ≤ 4096) (hc : n ≤ cap) (hb : Bytes w A n w.heap.size) :
    Calls Try.prog 8 #[.slice A n cap] w fun e w' => ∃ v u ps js, e = .returned (.tuple #[v, u]) ∧ OwnPs w' w.heap.size v ps ∧ ps.length ≤ 100 ∧ okDr ps ∧ Own eJoint w' w.heap.size 47 u js ∧ js.length ≤ 1000 ∧ Below w.heap.size w w' := by
  have HBB := Lib.hid hb
  clear hb
  go_enter Try.func8, Try.ntmps8
  go_wp2_with fail
  refine (l01From_any A n cap w hn hc HBB.out).mono ?_
  rintro e w1 ⟨p, rfl, hp, hs1, hb1⟩
  have S1 := Lib.hid hs1
  have B1 := Lib.hid hb1
  clear hs1 hb1
  go_wp2_with fail
  refine (l18Draw_any p w1 S1.out).mono ?_
  rintro e w2 ⟨v, u, ps, js, rfl, ho, hl, hk, hj, hjl, hd⟩
  have O2 := Lib.hid (ho.mono (base' := w.heap.size) B1.out.size)
  have J2 := Lib.hid (hj.mono (base' := w.heap.size) B1.out.size)
  have B2 := Lib.hid (hd.to_below B1.out hp)
  have HK := Lib.hid hk
  clear ho hj hd hk
  go_wp2
  go_ret2
  exact ⟨v, u, ps, js, rfl, O2.out, hl, HK.out, J2.out, hjl, B2.out⟩
end Go.Proofs.Ytblaojjpclipaaa
