/- The contract of l18Search (chapter 18). No statement of the seat is proved here. -/
import Derived.Test.YtblaojjpclipaaaSlotsS
import Derived.Test.YtblaojjpclipaaaBikes
namespace Go.Proofs.Ytblaojjpclipaaa
open Go.RowKit

theorem ne_app {v v' u : Value} {N : Nat} (h : u.ownBlock = none ∨ u.ownBlock ≠ v.ownBlock) (hlt : ∀ k, u.ownBlock = some k → k < N) (ho : v'.ownBlock = v.ownBlock ∨ N ≤ v'.ownBlock.getD N) : u.ownBlock = none ∨ u.ownBlock ≠ v'.ownBlock := by
  rcases h with h | h
  · exact .inl h
  · cases hu : u.ownBlock with
    | none => exact .inl rfl
    | some k =>
      refine .inr (fun e => ?_)
      rcases ho with ho | ho
      · exact h (by rw [hu, e, ho])
      · rw [← e] at ho
        have := hlt k hu
        simp at ho
        omega
theorem ob_app {v v' : Value} {N M : Nat} (h : ∀ k, v.ownBlock = some k → M ≤ k) (hNM : M ≤ N) (ho : v'.ownBlock = v.ownBlock ∨ N ≤ v'.ownBlock.getD N) : ∀ k, v'.ownBlock = some k → M ≤ k := fun k hk => by
  rcases ho with ho | ho
  · exact h k (by rw [← ho, hk])
  · rw [hk] at ho
    simp at ho
    omega
theorem ne_low {u v : Value} {N : Nat} (hu : ∀ k, u.ownBlock = some k → N ≤ k) (hv : ∀ k, v.ownBlock = some k → k < N) : u.ownBlock = none ∨ u.ownBlock ≠ v.ownBlock := by
  cases h : u.ownBlock with
  | none => exact .inl rfl
  | some k =>
    refine .inr (fun e => ?_)
    have h1 := hu k h
    have h2 := hv k e.symm
    omega
/-- another list of builds is written -/
theorem OwnL.far {w w' : World} {base b1 : Nat} {g : Option Nat} {v v1 : Value} {bs : List (List ByteArray)} {cs1 : List Tri} (h : OwnL w base g v bs) (h1 : Own eT w b1 33 v1 cs1) (hg : w.grownBy w' v1.ownBlock) (hne : v.ownBlock = none ∨ v.ownBlock ≠ v1.ownBlock) : OwnL w' base g v bs := by
  obtain ⟨cs, k1, k2, k3⟩ := h
  exact ⟨cs, Own.kept k1 hg hne, k2, fun k c b e1 e2 => ⟨Own.kept (k3 k c b e1 e2).1 hg (own_ne_row h1 (k3 k c b e1 e2).1 (by decide)), (k3 k c b e1 e2).2⟩⟩
theorem OwnL.lt {w : World} {base : Nat} {g : Option Nat} {v : Value} {bs : List (List ByteArray)} (h : OwnL w base g v bs) : ∀ k, v.ownBlock = some k → k < w.heap.size := fun k hk => (World.ownsRow.lt h.choose_spec.1 k hk).2
/-- the k-th build of a list -/
theorem OwnL.at_ {w : World} {base : Nat} {g : Option Nat} {v : Value} {bs : List (List ByteArray)} (h : OwnL w base g v bs) (k : Nat) (hk : k < bs.length) : ∃ (gm cap : Nat) (c : Tri), v = .slice (some ⟨gm, 0, none⟩) bs.length cap ∧ gm < w.heap.size ∧ w.cell? ⟨gm, k, none⟩ = some (.slice c.a c.n c.cap) ∧ Own eS w base 9 c.v bs[k] ∧ bs[k].length = 8 := by
  obtain ⟨cs, k1, k2, k3⟩ := h
  obtain ⟨gm, cap, rfl, _, hl⟩ := World.ownsRow.form k1 (by omega)
  have hkc : k < cs.length := by omega
  obtain ⟨c0, _⟩ := Own.cell1 (f := fun t : Tri => Value.slice t.a t.n t.cap) rfl k1 k hkc rfl
  obtain ⟨r1, r2, _⟩ := k3 k cs[k] bs[k] (by simp [hkc]) (by simp [hk])
  exact ⟨gm, cap, cs[k], by rw [k2], hl, c0, r1, r2⟩
theorem Ix.at_ {ps qs : List Part} {is : List Int} (h : Ix ps is qs) : is.length = qs.length ∧ ∀ (k : Nat) (hk : k < is.length), ∃ (i : Nat) (hi : i < ps.length) (hq : k < qs.length), is[k] = i ∧ qs[k] = ps[i] := by
  obtain ⟨h1, h2⟩ := h
  subst h1
  refine ⟨by simp, fun k hk => ?_⟩
  obtain ⟨l1, l2⟩ := h2 is[k] (List.getElem_mem hk)
  refine ⟨is[k].toNat, by omega, by simpa using hk, by omega, ?_⟩
  rw [List.getElem_map, getD_at _ _ _ (by omega)]
theorem sl_none (w : World) (A : Option Addr) (c : Nat) : Sl eI w (.slice A 0 c) [] := ⟨rfl, Nat.zero_le _, A, c, rfl, Nat.zero_le _, fun h => absurd h (by simp)⟩
theorem sl_tail {w : World} {b off n cap : Nat} {s : Int} {r : List Int} (h : Sl eI w (.slice (some ⟨b, off, none⟩) n cap) (s :: r)) : Sl eI w (.slice (some ⟨b, off + 1, none⟩) (n - 1) (cap - 1)) r := by
  obtain ⟨A', cap', e, hc, hm, h3⟩ := Ints.shape h
  cases e
  obtain ⟨b2, off2, e2, hb, hx⟩ := h3 (by simp)
  cases e2
  simp only [List.length_cons] at hc hm hx ⊢
  refine ⟨eI.len _, by unfold big40; omega, some ⟨b, off + 1, none⟩, cap - 1, rfl, by omega, fun _ => ⟨b, off + 1, rfl, hb, fun j u hu => ?_⟩⟩
  rw [eI_all, List.getElem?_map] at hu
  rcases hj : r[j]? with _ | x
  · rw [hj] at hu; cases hu
  · rw [hj] at hu
    cases hu
    obtain ⟨hlt, hv⟩ := List.getElem?_eq_some_iff.1 hj
    have := hx (1 + j) (by omega)
    rw [Nat.add_assoc, this]
    congr 2
    rw [← hv]
    simp [Nat.add_comm 1 j]
set_option maxHeartbeats 16000000 in
set_option maxRecDepth 20000 in
theorem l18Search_any (ps : List Part) (js : List Joint) (pv jv : Value) (hO : Both ps js) (base : Nat) : ∀ (sl : List Int) (v sv : Value) (b : List ByteArray) (w : World),
    RdP w pv ps → Sl eJoint w jv js → Own eS w base 9 v b → base ≤ w.heap.size → Sl eI w sv sl → okS sl → Fit ps b → (srch ps js sl b).length ≤ 65536 →
    Calls Try.prog 69 #[pv, jv, v, sv] w fun e w' => ∃ u p n is, e = .returned (.tuple #[u, p, .int .i64 n]) ∧ OwnL w' base none u (srch ps js sl b) ∧ (∀ k, u.ownBlock = some k → w.heap.size ≤ k) ∧ Own eI w' w.heap.size 2 p is ∧ is.length = (srch ps js sl b).length ∧ Below w.heap.size w w' := by
  intro sl
  induction sl with
  | nil =>
    intro v sv b w hp hj hv hbs hs _ hf _
    obtain ⟨g, cap, rfl, hg, _⟩ := World.ownsRow.form hv (by rw [hf.1]; decide)
    obtain ⟨A, scap, rfl, _, _, _⟩ := Ints.shape hs
    have hA : Below w.heap.size w (w.alloc (.cells #[.slice (some ⟨g, 0, none⟩) b.length cap] 33)) := (Below.refl _ _).alloc (Nat.le_refl _) _
    have HB := Lib.hid (hA.alloc hA.size (.cells #[.int .i64 0] 2))
    have hL1 : Own eT (w.alloc (.cells #[.slice (some ⟨g, 0, none⟩) b.length cap] 33)) base 33 (.slice (some ⟨w.heap.size, 0, none⟩) 1 1) [⟨some ⟨g, 0, none⟩, b.length, cap⟩] := World.ownsRow_lit w #[.slice (some ⟨g, 0, none⟩) b.length cap] 1 hbs (by unfold maxLen; omega) rfl
    have OL : Hid (OwnL ((w.alloc (.cells #[.slice (some ⟨g, 0, none⟩) b.length cap] 33)).alloc (.cells #[.int .i64 0] 2)) base none (.slice (some ⟨w.heap.size, 0, none⟩) 1 1) [b]) := Lib.hid ⟨[⟨some ⟨g, 0, none⟩, b.length, cap⟩], hL1.alloc _, rfl, fun k c y e1 e2 => by
      match k, e1, e2 with
      | 0, e1, e2 =>
        cases e1
        cases e2
        exact ⟨(hv.alloc _).alloc _, hf.1, fun j h => by cases h⟩
      | k + 1, e1, e2 => simp at e1⟩
    have OI : Hid (Own eI ((w.alloc (.cells #[.slice (some ⟨g, 0, none⟩) b.length cap] 33)).alloc (.cells #[.int .i64 0] 2)) w.heap.size 2 (.slice (some ⟨w.heap.size + 1, 0, none⟩) 1 1) [0]) := Lib.hid (by
      have h := World.ownsRow_lit (base := w.heap.size) (size := 1) (e := 2) (w.alloc (.cells #[.slice (some ⟨g, 0, none⟩) b.length cap] 33)) #[.int .i64 0] 1 hA.size (by unfold maxLen; omega) rfl
      rw [World.size_alloc] at h
      exact h)
    clear hp hj hv hs hf hA hL1
    go_enter Try.func69, Try.ntmps69
    go_wp2
    go_ret3
    exact ⟨_, _, 0, [0], rfl, OL.out, fun k hk => by cases hk; exact Nat.le_refl _, OI.out, rfl, HB.out⟩
  | cons s r ih =>
    intro v sv b w hp hj hv hbs hs hok hf hl
    obtain ⟨A, scap, rfl, hscap, hsm, hsc⟩ := Ints.shape hs
    obtain ⟨gs, offs, rfl, hgs, hcs⟩ := hsc (by simp)
    have hcs0 := hcs 0 (by simp)
    simp only [List.getElem_cons_zero, Nat.add_zero] at hcs0
    obtain ⟨hokr, hnot, hs0, hs7⟩ := hok.tail
    have CS : Hid (∀ W, Below w.heap.size w W → W.cell? ⟨gs, offs, none⟩ = some (.int .i64 s)) := Lib.hid (fun W h => (h.cell (p := ⟨gs, offs, none⟩) hgs).trans hcs0)
    have TL : Hid (∀ W, Below w.heap.size w W → Sl eI W (.slice (some ⟨gs, offs + 1, none⟩) ((s :: r).length - 1) (scap - 1)) r) := Lib.hid (fun W h => (sl_tail hs).below h)
    have HP := Lib.hid hp
    have HJ := Lib.hid hj
    have HV := Lib.hid hv
    have HF := Lib.hid hf
    have HL := Lib.hid hl
    have HIH := Lib.hid ih
    have HOKR := Lib.hid hokr
    have HBS := Lib.hid hbs
    have hsl : 1 ≤ (s :: r).length := by simp
    have HR1 : Hid ((s :: r).length - 1 = r.length) := Lib.hid (by simp)
    have HRL : Hid ((s :: r).length = r.length + 1) := Lib.hid (by simp)
    clear hp hj hv hs hf hl ih hok hnot hokr hsc hcs hcs0
    generalize hN : (s :: r).length = N at *
    have hA : Below w.heap.size w (w.alloc (.cells #[] 33)) := (Below.refl _ _).alloc (Nat.le_refl _) _
    have B1 := Lib.hid (hA.alloc hA.size (.cells #[] 2))
    have hbsA : base ≤ (w.alloc (.cells #[] 33)).heap.size := by simp; omega
    have OL0 : Hid (OwnL ((w.alloc (.cells #[] 33)).alloc (.cells #[] 2)) base none (.slice (some ⟨w.heap.size, 0, none⟩) 0 0) []) := Lib.hid ((OwnL.empty w base none hbs).below ((Below.refl _ _).alloc (Nat.le_refl _) _))
    have OI0 : Hid (Own eI ((w.alloc (.cells #[] 33)).alloc (.cells #[] 2)) w.heap.size 2 (.slice (some ⟨w.heap.size + 1, 0, none⟩) 0 0) []) := Lib.hid (by
      have h := Own.empty eI (w.alloc (.cells #[] 33)) w.heap.size 2 hA.size
      rw [World.size_alloc] at h
      exact h)
    have hsz1 : ((w.alloc (.cells #[] 33)).alloc (.cells #[] 2)).heap.size = w.heap.size + 2 := by simp
    have hNi : ((N : Int) == 0) = false := by simp; omega
    have hNp : (0 : Int) < (N : Int) := by omega
    have hNn : 0 < N := by omega
    have cs1 := CS.out _ B1.out
    clear hA hN
    go_enter Try.func69, Try.ntmps69
    go_wp2_with fail
    generalize (w.alloc (.cells #[] 33)).alloc (.cells #[] 2) = w1 at *
    refine (l16In_any pv ps s w1 (HP.out.below B1.out) hO.n16).mono ?_
    rintro e w2 ⟨sm, is, rfl, hsm2, hix, hi16, hb2⟩
    have B2 := Lib.hid (Below.step B1.out hb2)
    have SM2 := Lib.hid hsm2
    have hixa := hix.at_
    have HIXL := Lib.hid hixa.1
    have HIX := Lib.hid hixa.2
    have OL2 := Lib.hid (OL0.out.below hb2)
    have OI2 := Lib.hid (OI0.out.below hb2)
    have hz2 := hb2.size
    obtain ⟨sma, smc, rfl⟩ := slice_ofR hsm2
    have NE0 : Hid ((Value.slice sma is.length smc).ownBlock = none ∨ (Value.slice sma is.length smc).ownBlock ≠ (Value.slice (some ⟨w.heap.size + 1, 0, none⟩) 0 0).ownBlock) := Lib.hid (ne_low (N := w1.heap.size) (fun k hk => (World.ownsRow.lt hsm2 k hk).1) (fun k hk => by simp [Value.ownBlock] at hk; omega))
    have OB0 : Hid (∀ k, (Value.slice (some ⟨w.heap.size, 0, none⟩) 0 0).ownBlock = some k → w.heap.size ≤ k) := Lib.hid (fun k hk => by cases hk; exact Nat.le_refl _)
    clear hsm2 hix hixa hb2 OL0 OI0 B1 hz2 cs1
    go_wp2
    go_loopg [11, 12, 13, 15] is.length (fun gi u t x i wr => ∃ (k : Nat) (n : Int) (ats : List Int), k ≤ is.length ∧ gi = is.length - k ∧ i = .int .i64 k ∧ x = .int .i64 n ∧ Hid (Below w.heap.size w wr) ∧ Hid (OwnL wr base none u (srchQ ps js s r b ((ps.filter (inS s)).take k))) ∧ Hid (∀ k, u.ownBlock = some k → w.heap.size ≤ k) ∧ Hid (Own eI wr w.heap.size 2 t ats) ∧ Hid (ats.length = (srchQ ps js s r b ((ps.filter (inS s)).take k)).length) ∧ Hid (Own eI wr w.heap.size 2 (.slice sma is.length smc) is) ∧ Hid ((Value.slice sma is.length smc).ownBlock = none ∨ (Value.slice sma is.length smc).ownBlock ≠ t.ownBlock))
    case atStart => exact ⟨0, 0, [], Nat.zero_le _, rfl, rfl, rfl, B2, by rw [List.take_zero, srchQ_nil]; exact OL2, OB0, OI2, Lib.hid rfl, Lib.hid (SM2.out.mono (by omega)), NE0⟩
    case round =>
      obtain ⟨k, n, ats, hk, rfl, rfl, rfl, HB, HOL, HOB, HAT, HATL, HSM, HNE⟩ := hrel
      clear OL2 OB0 OI2 SM2 NE0 B2
      by_cases hlt : k < is.length
      rotate_left
      · obtain rfl : k = is.length := by omega
        have HE : Hid (srchQ ps js s r b ((ps.filter (inS s)).take is.length) = srch ps js (s :: r) b) := Lib.hid (by rw [HIXL.out, List.take_of_length_le (Nat.le_refl _)]; rfl)
        rw [HE.out] at HOL HATL
        go_wp2
        go_ret3
        exact ⟨_, _, _, ats, rfl, HOL.out, HOB.out, HAT.out, HATL.out, HB.out⟩
      obtain ⟨i, hi, hq, hii, hqi⟩ := HIX.out k hlt
      obtain ⟨gm, smc2, esm, hgm, hgml⟩ := World.ownsRow.form HSM.out (by omega)
      injection esm with e1 _ e3
      subst e1 e3
      obtain ⟨cm, _⟩ := Own.cellI HSM.out k hlt
      rw [hii] at cm
      obtain ⟨gp, offp, capp, rfl, hgp⟩ := RdP.some_ HP.out (by omega)
      obtain ⟨A1, C1, hat⟩ := RdP.at_ HP.out i hi
      have HAX := Lib.hid hat
      have hpm : ps[i] ∈ ps := List.getElem_mem hi
      have HFX : Hid (Fit ps (b.set s.toNat ps[i].code)) := Lib.hid (Fit.set HF.out hpm _)
      have HTK : Hid (srchQ ps js s r b ((ps.filter (inS s)).take (k + 1)) = srchQ ps js s r b ((ps.filter (inS s)).take k) ++ srchP ps js s r b ps[i]) := Lib.hid (by rw [List.take_succ_eq_append_getElem hq, srchQ_app, srchQ_one, hqi])
      have HLE : Hid ((srchQ ps js s r b ((ps.filter (inS s)).take (k + 1))).length ≤ 65536) := Lib.hid (by
        refine Nat.le_trans ?_ HL.out
        rw [srch_cons]
        conv => rhs; rw [← List.take_append_drop (k + 1) (ps.filter (inS s))]
        rw [srchQ_app, List.length_append]
        exact Nat.le_add_right _ _)
      generalize srchQ ps js s r b ((ps.filter (inS s)).take k) = L0 at *
      have CX : Hid (∀ W, Below w.heap.size w W → W.cell? ⟨gp, offp + i * 5, none⟩ = some (.string ps[i].code)) := Lib.hid (fun W h => (HAX.out W h).1)
      have hL1 := HTK.out
      clear hii hqi hq hpm hat HAX
      generalize hGL : srchQ ps js s r b ((ps.filter (inS s)).take (k + 1)) = L1 at *
      have HGL := Lib.hid hGL
      clear hGL
      generalize ps[i] = x at *
      obtain ⟨xc, xs, xp, xr, xg⟩ := x
      simp only at *
      have hP0 : anyBr ps (b.set s.toNat xc) js = true → L1 = L0 := fun h => by rw [hL1, srchP_no h, List.append_nil]
      have hP1 : anyBr ps (b.set s.toNat xc) js = false → L1 = L0 ++ srch ps js r (b.set s.toNat xc) := fun h => by rw [hL1, srchP_yes h]
      have HP0 := Lib.hid hP0
      have HP1 := Lib.hid hP1
      clear hL1 HTK hP0 hP1
      have hki : (k : Int) < (is.length : Int) := by omega
      have hk0 : (0 : Int) ≤ (k : Int) := by omega
      have hkw : IntKind.i64.wrap ((k : Int) + 1) = (k : Int) + 1 := IntWalk.i64_in _ (by omega)
      have hiI : (i : Int) < (ps.length : Int) := by omega
      have hi0 : (0 : Int) ≤ (i : Int) := by omega
      have HCM := Lib.hid cm
      clear cm
      go_wp2
      generalize wrap64 (n + 1) = n1 at *
      have BR : Below wr.heap.size wr wr.drew := (Below.refl _ _).drew
      have hwr : w.heap.size ≤ wr.heap.size := HB.out.size
      have KEEP : Hid (∀ W, Below wr.heap.size wr W → W.cell? ⟨gs, offs, none⟩ = some (.int .i64 s) ∧ W.cell? ⟨gm, k, none⟩ = some (.int .i64 (i : Int)) ∧ W.cell? ⟨gp, offp + i * 5, none⟩ = some (.string xc)) := Lib.hid (fun W h => ⟨CS.out W (Below.step HB.out h), (h.cell (p := ⟨gm, k, none⟩) hgml).trans HCM.out, CX.out W (Below.step HB.out h)⟩)
      have CW : Hid (∀ W, Below wr.heap.size wr W → Calls Try.prog 87 #[v, .int .i64 s, .string xc] W fun e w' => (∃ a c, e = .returned (.slice a 8 c) ∧ Own eS w' wr.heap.size 9 (.slice a 8 c) (b.set s.toNat xc)) ∧ Below wr.heap.size wr w') := Lib.hid (fun W h => by
        refine (l17With_any v b s xc W (Sl.of_own (HV.out.below (Below.step HB.out h)) (by rw [HF.out.1]; unfold big40; omega)) HF.out.1 hs0 hs7).mono ?_
        rintro e w' ⟨u, rfl, ho, hb⟩
        obtain ⟨a, c, rfl⟩ := slice_ofR ho
        rw [set_len HF.out.1] at ho
        refine ⟨⟨a, c, by rw [set_len HF.out.1], ho.mono h.size⟩, Below.step h hb⟩)
      go_region_held3 (fun W => W.cell? ⟨gs, offs, none⟩ = some (.int .i64 s) ∧ W.cell? ⟨gm, k, none⟩ = some (.int .i64 (i : Int)) ∧ W.cell? ⟨gp, offp + i * 5, none⟩ = some (.string xc)) (exact KEEP.out _ (by assumption))
        (first | (go_at_call 87; refine (CW.out _ ?_).mono ?_; (first | assumption); rintro e wn ⟨⟨aw, cw, rfl, hown⟩, hb⟩))
      have BN := Lib.hid (Below.step HB.out hb)
      have WO := Lib.hid (hown.mono (base' := base) (Nat.le_trans HBS.out hwr))
      have OLn := Lib.hid (HOL.out.below hb)
      have OIn := Lib.hid (HAT.out.below hb)
      have SMn := Lib.hid (HSM.out.below hb)
      clear hb hown HOL HAT HSM HB KEEP CW BR hwr HCM
      go_wp2_with fail
      refine (l17Joints_any _ jv _ ps js (b.set s.toNat xc) wn (HP.out.below BN.out) (HJ.out.below BN.out) (Sl.of_own WO.out (by rw [set_len HF.out.1]; unfold big40; omega)) HFX.out hO.jok hO.n12 hO.cne).mono ?_
      rintro e w4 ⟨aj, nj, cj, rfl, hnj, hb4⟩
      have B4 := Lib.hid (Below.step BN.out hb4)
      have W4 := Lib.hid (WO.out.below hb4)
      have OL4 := Lib.hid (OLn.out.below hb4)
      have OI4 := Lib.hid (OIn.out.below hb4)
      have SM4 := Lib.hid (SMn.out.below hb4)
      clear hb4 BN WO OLn OIn SMn
      rcases hbr : anyBr ps (b.set s.toNat xc) js
      rotate_left
      · rw [hbr] at hnj
        have hnj2 : (0 : Int) < (nj : Int) := by have := of_decide_eq_true hnj; omega
        have HL10 := Lib.hid (HP0.out hbr)
        clear hnj hbr
        go_wp2
        go_roundg (is.length - (k + 1))
        case measure => omega
        case rel => exact ⟨k + 1, _, ats, by omega, rfl, by go_num, rfl, B4, by rw [HGL.out, HL10.out]; exact OL4, HOB, OI4, by rw [HGL.out, HL10.out]; exact HATL, SM4, HNE⟩
      rw [hbr] at hnj
      have hnj2 : ¬ (0 : Int) < (nj : Int) := by have := of_decide_eq_false hnj; omega
      have HL11 := Lib.hid (HP1.out hbr)
      have HBS4 : Hid (base ≤ w4.heap.size) := Lib.hid (Nat.le_trans HBS.out B4.out.size)
      have HLM : Hid ((srch ps js r (b.set s.toNat xc)).length ≤ 65536) := Lib.hid (by have := HLE.out; rw [HL11.out, List.length_append] at this; omega)
      clear hnj hbr HP0 HP1
      by_cases hc1 : 1 < scap
      · have hc1i : (1 : Int) < (scap : Int) := by omega
        have hN1 : (1 : Int) ≤ (N : Int) := by omega
        have HCALL := Lib.hid (HIH.out _ _ (b.set s.toNat xc) w4 (HP.out.below B4.out) (HJ.out.below B4.out) W4.out HBS4.out (TL.out _ B4.out) HOKR.out HFX.out HLM.out)
        go_wp2_with fail
        refine HCALL.out.mono ?_
        rintro e w5 ⟨um, pl, n5, pis, rfl, hol5, hob5, hpl5, hpll, hb5⟩
        have B5 := Lib.hid (Below.step B4.out hb5)
        have OL5 := Lib.hid (OL4.out.below hb5)
        have OI5 := Lib.hid (OI4.out.below hb5)
        have SM5 := Lib.hid (SM4.out.below hb5)
        have NEU : Hid (um.ownBlock = none ∨ um.ownBlock ≠ u11.ownBlock) := Lib.hid (ne_low hob5 (OL4.out.lt))
        have NEP : Hid (pl.ownBlock = none ∨ pl.ownBlock ≠ u12.ownBlock) := Lib.hid (ne_low (fun k hk => (World.ownsRow.lt hpl5 k hk).1) (fun k hk => (World.ownsRow.lt OI4.out k hk).2))
        have PL5 := Lib.hid (hpl5.mono (base' := w.heap.size) B4.out.size)
        have UM5 := Lib.hid hol5
        have HPLL := Lib.hid hpll
        obtain ⟨uma, umc, eum⟩ := hol5.len
        obtain ⟨pla, plc, epl⟩ := slice_ofR hpl5
        rw [hpll] at epl
        subst eum epl
        generalize srch ps js r (b.set s.toNat xc) = more at *
        have hml := HLM.out
        clear hol5 hob5 hpl5 hpll hb5 B4 W4 OL4 OI4 SM4 HCALL
        go_wp2
        go_loopg [11, 12, 20] more.length (fun gj u t j wq => ∃ (m : Nat) (ats2 : List Int), m ≤ more.length ∧ gj = more.length - m ∧ j = .int .i64 m ∧ Hid (Below w.heap.size w wq) ∧ Hid (OwnL wq base none u (L0 ++ more.take m)) ∧ Hid (∀ k, u.ownBlock = some k → w.heap.size ≤ k) ∧ Hid (Own eI wq w.heap.size 2 t ats2) ∧ Hid (ats2.length = L0.length + m) ∧ Hid (OwnL wq base none (.slice uma more.length umc) more) ∧ Hid (Own eI wq w.heap.size 2 (.slice pla more.length plc) pis) ∧ Hid (Own eI wq w.heap.size 2 (.slice (some ⟨gm, 0, none⟩) is.length smc) is) ∧ Hid ((Value.slice uma more.length umc).ownBlock = none ∨ (Value.slice uma more.length umc).ownBlock ≠ u.ownBlock) ∧ Hid ((Value.slice pla more.length plc).ownBlock = none ∨ (Value.slice pla more.length plc).ownBlock ≠ t.ownBlock) ∧ Hid ((Value.slice (some ⟨gm, 0, none⟩) is.length smc).ownBlock = none ∨ (Value.slice (some ⟨gm, 0, none⟩) is.length smc).ownBlock ≠ t.ownBlock))
        case atStart => exact ⟨0, ats, Nat.zero_le _, rfl, rfl, B5, by rw [List.take_zero, List.append_nil]; exact OL5, HOB, OI5, HATL, UM5, PL5, SM5, NEU, NEP, HNE⟩
        case round =>
          clear B5 OL5 OI5 UM5 PL5 SM5 NEU NEP HOB HATL HNE
          obtain ⟨m, ats2, hm, rfl, rfl, HB, HOL, HOB, HAT, HATL, HUM, HPL, HSM, NU, NP, NS⟩ := hrel
          by_cases hmlt : m < more.length
          rotate_left
          · obtain rfl : m = more.length := by omega
            have HE : Hid (L0 ++ more.take more.length = L1) := Lib.hid (by rw [List.take_of_length_le (Nat.le_refl _), HL11.out])
            have HLN : Hid (ats2.length = L1.length) := Lib.hid (by rw [HATL.out, HL11.out, List.length_append])
            rw [HE.out] at HOL
            go_wp2
            go_roundg (is.length - (k + 1))
            case measure => omega
            case rel => exact ⟨k + 1, _, ats2, by omega, rfl, by go_num, rfl, HB, by rw [HGL.out]; exact HOL, HOB, HAT, by rw [HGL.out]; exact HLN, HSM, NS⟩
          obtain ⟨gu, ucap, c, eu, hgu, cu, hcu, hc8⟩ := HUM.out.at_ m hmlt
          injection eu with e1 _ e3
          subst e1 e3
          have hpm2 : m < pis.length := by rw [HPLL.out]; exact hmlt
          obtain ⟨gpl, pcap2, epl, hgpl, hgpll⟩ := World.ownsRow.form HPL.out (by omega)
          injection epl with e1 e2 e3
          subst e1 e3
          clear e2
          have hpl2 : Own eI wr w.heap.size 2 (.slice (some ⟨gpl, 0, none⟩) more.length plc) pis := HPL.out
          obtain ⟨cpl, _⟩ := Own.cellI hpl2 m hpm2
          obtain ⟨cs, k1, k2, k3⟩ := HOL.out
          have K1 := Lib.hid k1
          have hmi : (m : Int) < (more.length : Int) := by omega
          have hm0 : (0 : Int) ≤ (m : Int) := by omega
          have hmw : IntKind.i64.wrap ((m : Int) + 1) = (m : Int) + 1 := IntWalk.i64_in _ (by omega)
          have hL0 : L0.length + more.length ≤ 65536 := by
            have h := HLE.out
            rw [HL11.out, List.length_append] at h
            exact h
          have hcs9 : cs.length ≤ 1000000000 := by rw [k2, List.length_append, List.length_take]; omega
          have hbw : base ≤ wr.heap.size := Nat.le_trans HBS.out HB.out.size
          have hww : w.heap.size ≤ wr.heap.size := HB.out.size
          have K2 := Lib.hid k2
          have K3 := Lib.hid k3
          have HCU := Lib.hid hcu
          have HC8 := Lib.hid hc8
          have hTK : Hid (more.take (m + 1) = more.take m ++ [more[m]]) := Lib.hid (List.take_succ_eq_append_getElem hmlt)
          obtain ⟨pz, hpz⟩ : ∃ pz, pis[m] = pz := ⟨_, rfl⟩
          rw [hpz] at cpl
          have CPL := Lib.hid cpl
          obtain ⟨ca, cn, cc⟩ := c
          clear k1 k2 k3 hcu hc8 hpz cpl hpl2
          simp only at cu
          go_wp2_with (at_builtin; refine wpList_app eT rfl _ _ 72 (by rfl) 33 (.slice none 0 0) 24 Try.underlying72 info_strs rfl (by decide) (by decide) base _ cs (by rfl) (by exact K1.out) (by exact hcs9) (by exact hbw) ⟨ca, cn, cc⟩ _ (by rfl) _ (by rfl) (by first | rfl | simp) ?_)
          intro v6 w6 hO6 hB6 hG6 hor6 hs6
          have OL6 : Hid (OwnL w6 base none v6 (L0 ++ more.take (m + 1))) := Lib.hid (by
            have h := OwnL.app K1.out K2.out K3.out HCU.out HC8.out (fun j h => by cases h) hO6 hG6
            rw [hTK.out, ← List.append_assoc]
            exact h)
          have OB6 := Lib.hid (ob_app HOB.out hww hor6)
          have UM6 := Lib.hid (HUM.out.far K1.out hG6 NU.out)
          have PL6 := Lib.hid (Own.kept HPL.out hG6 (own_ne_row K1.out HPL.out (by decide)))
          have SM6 := Lib.hid (Own.kept HSM.out hG6 (own_ne_row K1.out HSM.out (by decide)))
          have AT6 := Lib.hid (Own.kept HAT.out hG6 (own_ne_row K1.out HAT.out (by decide)))
          have NU6 := Lib.hid (ne_app NU.out HUM.out.lt hor6)
          have B6 := Lib.hid (HB.out.grown hG6 hww HOB.out)
          have cpl6 : w6.cell? ⟨gpl, m, none⟩ = some (.int .i64 pz) := (hG6.cell_far ⟨gpl, m, none⟩ hgpll (by
            rcases own_ne_row K1.out HPL.out (by decide) with h | h
            · simp [Value.ownBlock] at h
            · exact h)).trans CPL.out
          have hsz6 : w.heap.size ≤ w6.heap.size := B6.out.size
          have hat9 : ats2.length ≤ 1000000000 := by rw [HATL.out]; omega
          clear hO6 hB6 hG6 hor6 HOL HOB HUM HPL HSM HAT NU HB K1 K2 K3 HCU HC8 hTK cu CPL
          go_wp2_with (at_builtin; refine wpList_app eI rfl _ _ 24 (by rfl) 2 (.int .i64 0) 8 Try.underlying24 info_i64 rfl (by decide) (by decide) w.heap.size _ ats2 (by rfl) (by exact AT6.out) (by exact hat9) (by exact hsz6) _ _ (by rfl) _ (by rfl) (by first | rfl | simp) ?_)
          intro v7 w7 hO7 hB7 hG7 hor7 hs7
          have OL7 := Lib.hid (OL6.out.keptT AT6.out hG7 (by decide) (by decide))
          have UM7 := Lib.hid (UM6.out.keptT AT6.out hG7 (by decide) (by decide))
          have PL7 := Lib.hid (Own.kept PL6.out hG7 NP.out)
          have SM7 := Lib.hid (Own.kept SM6.out hG7 NS.out)
          have NP7 := Lib.hid (ne_app NP.out (fun k hk => (World.ownsRow.lt PL6.out k hk).2) hor7)
          have NS7 := Lib.hid (ne_app NS.out (fun k hk => (World.ownsRow.lt SM6.out k hk).2) hor7)
          have B7 := Lib.hid (B6.out.trans hB7)
          have OI7 := Lib.hid hO7
          clear hO7 hB7 hG7 hor7 OL6 UM6 PL6 SM6 NP NS B6 AT6 cpl6
          go_wp2
          go_roundg (more.length - (m + 1))
          case measure => omega
          case rel => exact ⟨m + 1, _, by omega, rfl, by go_num, B7, OL7, OB6, OI7, Lib.hid (by rw [List.length_append, List.length_singleton, HATL.out]; omega), UM7, PL7, SM7, NU6, NP7, NS7⟩
      · obtain rfl : r = [] := List.eq_nil_of_length_eq_zero (by have := HRL.out; omega)
        obtain rfl : N = 1 := by have := HRL.out; simpa using this
        obtain rfl : scap = 1 := by omega
        go_wp2_with fail
        refine (HIH.out _ _ (b.set s.toNat xc) w4 (HP.out.below B4.out) (HJ.out.below B4.out) W4.out HBS4.out (sl_none _ _ _) HOKR.out HFX.out HLM.out).mono ?_
        rintro e w5 ⟨um, pl, n5, pis, rfl, hol5, hob5, hpl5, hpll, hb5⟩
        have B5 := Lib.hid (Below.step B4.out hb5)
        have OL5 := Lib.hid (OL4.out.below hb5)
        have OI5 := Lib.hid (OI4.out.below hb5)
        have SM5 := Lib.hid (SM4.out.below hb5)
        have NEU : Hid (um.ownBlock = none ∨ um.ownBlock ≠ u11.ownBlock) := Lib.hid (ne_low hob5 (OL4.out.lt))
        have NEP : Hid (pl.ownBlock = none ∨ pl.ownBlock ≠ u12.ownBlock) := Lib.hid (ne_low (fun k hk => (World.ownsRow.lt hpl5 k hk).1) (fun k hk => (World.ownsRow.lt OI4.out k hk).2))
        have PL5 := Lib.hid (hpl5.mono (base' := w.heap.size) B4.out.size)
        have UM5 := Lib.hid hol5
        have HPLL := Lib.hid hpll
        obtain ⟨uma, umc, eum⟩ := hol5.len
        obtain ⟨pla, plc, epl⟩ := slice_ofR hpl5
        rw [hpll] at epl
        subst eum epl
        generalize srch ps js [] (b.set s.toNat xc) = more at *
        have hml := HLM.out
        clear hol5 hob5 hpl5 hpll hb5 B4 W4 OL4 OI4 SM4 
        go_wp2
        go_loopg [11, 12, 20] more.length (fun gj u t j wq => ∃ (m : Nat) (ats2 : List Int), m ≤ more.length ∧ gj = more.length - m ∧ j = .int .i64 m ∧ Hid (Below w.heap.size w wq) ∧ Hid (OwnL wq base none u (L0 ++ more.take m)) ∧ Hid (∀ k, u.ownBlock = some k → w.heap.size ≤ k) ∧ Hid (Own eI wq w.heap.size 2 t ats2) ∧ Hid (ats2.length = L0.length + m) ∧ Hid (OwnL wq base none (.slice uma more.length umc) more) ∧ Hid (Own eI wq w.heap.size 2 (.slice pla more.length plc) pis) ∧ Hid (Own eI wq w.heap.size 2 (.slice (some ⟨gm, 0, none⟩) is.length smc) is) ∧ Hid ((Value.slice uma more.length umc).ownBlock = none ∨ (Value.slice uma more.length umc).ownBlock ≠ u.ownBlock) ∧ Hid ((Value.slice pla more.length plc).ownBlock = none ∨ (Value.slice pla more.length plc).ownBlock ≠ t.ownBlock) ∧ Hid ((Value.slice (some ⟨gm, 0, none⟩) is.length smc).ownBlock = none ∨ (Value.slice (some ⟨gm, 0, none⟩) is.length smc).ownBlock ≠ t.ownBlock))
        case atStart => exact ⟨0, ats, Nat.zero_le _, rfl, rfl, B5, by rw [List.take_zero, List.append_nil]; exact OL5, HOB, OI5, HATL, UM5, PL5, SM5, NEU, NEP, HNE⟩
        case round =>
          clear B5 OL5 OI5 UM5 PL5 SM5 NEU NEP HOB HATL HNE
          obtain ⟨m, ats2, hm, rfl, rfl, HB, HOL, HOB, HAT, HATL, HUM, HPL, HSM, NU, NP, NS⟩ := hrel
          by_cases hmlt : m < more.length
          rotate_left
          · obtain rfl : m = more.length := by omega
            have HE : Hid (L0 ++ more.take more.length = L1) := Lib.hid (by rw [List.take_of_length_le (Nat.le_refl _), HL11.out])
            have HLN : Hid (ats2.length = L1.length) := Lib.hid (by rw [HATL.out, HL11.out, List.length_append])
            rw [HE.out] at HOL
            go_wp2
            go_roundg (is.length - (k + 1))
            case measure => omega
            case rel => exact ⟨k + 1, _, ats2, by omega, rfl, by go_num, rfl, HB, by rw [HGL.out]; exact HOL, HOB, HAT, by rw [HGL.out]; exact HLN, HSM, NS⟩
          obtain ⟨gu, ucap, c, eu, hgu, cu, hcu, hc8⟩ := HUM.out.at_ m hmlt
          injection eu with e1 _ e3
          subst e1 e3
          have hpm2 : m < pis.length := by rw [HPLL.out]; exact hmlt
          obtain ⟨gpl, pcap2, epl, hgpl, hgpll⟩ := World.ownsRow.form HPL.out (by omega)
          injection epl with e1 e2 e3
          subst e1 e3
          clear e2
          have hpl2 : Own eI wr w.heap.size 2 (.slice (some ⟨gpl, 0, none⟩) more.length plc) pis := HPL.out
          obtain ⟨cpl, _⟩ := Own.cellI hpl2 m hpm2
          obtain ⟨cs, k1, k2, k3⟩ := HOL.out
          have K1 := Lib.hid k1
          have hmi : (m : Int) < (more.length : Int) := by omega
          have hm0 : (0 : Int) ≤ (m : Int) := by omega
          have hmw : IntKind.i64.wrap ((m : Int) + 1) = (m : Int) + 1 := IntWalk.i64_in _ (by omega)
          have hL0 : L0.length + more.length ≤ 65536 := by
            have h := HLE.out
            rw [HL11.out, List.length_append] at h
            exact h
          have hcs9 : cs.length ≤ 1000000000 := by rw [k2, List.length_append, List.length_take]; omega
          have hbw : base ≤ wr.heap.size := Nat.le_trans HBS.out HB.out.size
          have hww : w.heap.size ≤ wr.heap.size := HB.out.size
          have K2 := Lib.hid k2
          have K3 := Lib.hid k3
          have HCU := Lib.hid hcu
          have HC8 := Lib.hid hc8
          have hTK : Hid (more.take (m + 1) = more.take m ++ [more[m]]) := Lib.hid (List.take_succ_eq_append_getElem hmlt)
          obtain ⟨pz, hpz⟩ : ∃ pz, pis[m] = pz := ⟨_, rfl⟩
          rw [hpz] at cpl
          have CPL := Lib.hid cpl
          obtain ⟨ca, cn, cc⟩ := c
          clear k1 k2 k3 hcu hc8 hpz cpl hpl2
          simp only at cu
          go_wp2_with (at_builtin; refine wpList_app eT rfl _ _ 72 (by rfl) 33 (.slice none 0 0) 24 Try.underlying72 info_strs rfl (by decide) (by decide) base _ cs (by rfl) (by exact K1.out) (by exact hcs9) (by exact hbw) ⟨ca, cn, cc⟩ _ (by rfl) _ (by rfl) (by first | rfl | simp) ?_)
          intro v6 w6 hO6 hB6 hG6 hor6 hs6
          have OL6 : Hid (OwnL w6 base none v6 (L0 ++ more.take (m + 1))) := Lib.hid (by
            have h := OwnL.app K1.out K2.out K3.out HCU.out HC8.out (fun j h => by cases h) hO6 hG6
            rw [hTK.out, ← List.append_assoc]
            exact h)
          have OB6 := Lib.hid (ob_app HOB.out hww hor6)
          have UM6 := Lib.hid (HUM.out.far K1.out hG6 NU.out)
          have PL6 := Lib.hid (Own.kept HPL.out hG6 (own_ne_row K1.out HPL.out (by decide)))
          have SM6 := Lib.hid (Own.kept HSM.out hG6 (own_ne_row K1.out HSM.out (by decide)))
          have AT6 := Lib.hid (Own.kept HAT.out hG6 (own_ne_row K1.out HAT.out (by decide)))
          have NU6 := Lib.hid (ne_app NU.out HUM.out.lt hor6)
          have B6 := Lib.hid (HB.out.grown hG6 hww HOB.out)
          have cpl6 : w6.cell? ⟨gpl, m, none⟩ = some (.int .i64 pz) := (hG6.cell_far ⟨gpl, m, none⟩ hgpll (by
            rcases own_ne_row K1.out HPL.out (by decide) with h | h
            · simp [Value.ownBlock] at h
            · exact h)).trans CPL.out
          have hsz6 : w.heap.size ≤ w6.heap.size := B6.out.size
          have hat9 : ats2.length ≤ 1000000000 := by rw [HATL.out]; omega
          clear hO6 hB6 hG6 hor6 HOL HOB HUM HPL HSM HAT NU HB K1 K2 K3 HCU HC8 hTK cu CPL
          go_wp2_with (at_builtin; refine wpList_app eI rfl _ _ 24 (by rfl) 2 (.int .i64 0) 8 Try.underlying24 info_i64 rfl (by decide) (by decide) w.heap.size _ ats2 (by rfl) (by exact AT6.out) (by exact hat9) (by exact hsz6) _ _ (by rfl) _ (by rfl) (by first | rfl | simp) ?_)
          intro v7 w7 hO7 hB7 hG7 hor7 hs7
          have OL7 := Lib.hid (OL6.out.keptT AT6.out hG7 (by decide) (by decide))
          have UM7 := Lib.hid (UM6.out.keptT AT6.out hG7 (by decide) (by decide))
          have PL7 := Lib.hid (Own.kept PL6.out hG7 NP.out)
          have SM7 := Lib.hid (Own.kept SM6.out hG7 NS.out)
          have NP7 := Lib.hid (ne_app NP.out (fun k hk => (World.ownsRow.lt PL6.out k hk).2) hor7)
          have NS7 := Lib.hid (ne_app NS.out (fun k hk => (World.ownsRow.lt SM6.out k hk).2) hor7)
          have B7 := Lib.hid (B6.out.trans hB7)
          have OI7 := Lib.hid hO7
          clear hO7 hB7 hG7 hor7 OL6 UM6 PL6 SM6 NP NS B6 AT6 cpl6
          go_wp2
          go_roundg (more.length - (m + 1))
          case measure => omega
          case rel => exact ⟨m + 1, _, by omega, rfl, by go_num, B7, OL7, OB6, OI7, Lib.hid (by rw [List.length_append, List.length_singleton, HATL.out]; omega), UM7, PL7, SM7, NU6, NP7, NS7⟩
end Go.Proofs.Ytblaojjpclipaaa
