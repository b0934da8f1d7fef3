/- The contract of impl.UncoveredTorques. No statement of the seat is proved here. -/
import Derived.Test.YtijmafppdbllfaaUncP
import Derived.Test.YtijmafppdbllfaaOwnI
import Derived.Test.YtijmafppdbllfaaStar
namespace Go.Proofs.Ytijmafppdbllfaa
open Go.RowKit
attribute [local go_sem ↓] Go.wp_at_zero Go.wp_at_succ

/-- a row of truths -/
def rowB (n : Nat) (f : Nat → Bool) : List Value := (List.range n).map fun i => Value.bool (f i)
theorem rowB_len (n : Nat) (f : Nat → Bool) : (rowB n f).length = n := by simp [rowB]
theorem rowB_at (n : Nat) (f : Nat → Bool) (k : Nat) (h : k < n) : (rowB n f)[k]? = some (.bool (f k)) := by simp [rowB, h]
theorem rowB_set (n : Nat) (f : Nat → Bool) (k : Nat) : (rowB n f).set k (.bool true) = rowB n (fun i => f i || i == k) := by
  apply List.ext_getElem?
  intro i
  by_cases hi : i < n
  · rw [rowB_at _ _ _ hi]
    by_cases hk : i = k
    · subst hk
      rw [List.getElem?_set_self (by rw [rowB_len]; exact hi)]
      simp
    · rw [List.getElem?_set_ne (Ne.symm hk), rowB_at _ _ _ hi]
      simp [hk]
  · rw [List.getElem?_eq_none (by rw [List.length_set, rowB_len]; omega), List.getElem?_eq_none (by rw [rowB_len]; omega)]
theorem rowB_zero (n : Nat) : List.replicate n (Value.bool false) = rowB n (fun _ => false) := by
  apply List.ext_getElem?
  intro i
  by_cases hi : i < n
  · rw [rowB_at _ _ _ hi]; simp [hi]
  · rw [List.getElem?_eq_none (by simp; omega), List.getElem?_eq_none (by rw [rowB_len]; omega)]
theorem areWr_bd {xs : List Wrench} (h : areWrenches xs = true) : xs.length ≤ 60 ∧ ∀ (k : Nat) (hk : k < xs.length), (1 ≤ xs[k].least ∧ xs[k].least ≤ 2000) ∧ (1 ≤ xs[k].most ∧ xs[k].most ≤ 2000) := by
  unfold areWrenches at h
  rw [Bool.and_eq_true, decide_eq_true_eq, List.all_eq_true] at h
  refine ⟨h.1, fun k hk => ?_⟩
  have := h.2 _ (List.getElem_mem hk)
  unfold wrI at this
  simp only [Bool.and_eq_true, inR_iff] at this
  exact ⟨this.1.1, this.1.2⟩
/-- the closed form of the loop over all torques: the state behind k torques, the torque 2001 held for covered -/
def Gap2 (xs : List Wrench) (k : Nat) (out : List (Int × Int)) (first : Int) : Prop := (k ≤ 2000 ∧ Gaps xs k out first) ∨ (k = 2001 ∧ out = unc xs 2000 ∧ first = 0)
def cov2 (xs : List Wrench) (k : Nat) : Bool := decide (k = 2001) || cov xs k
theorem cov2_in {xs : List Wrench} {k : Nat} (h : k < 2000) : cov2 xs (k + 1) = cov xs ((k : Int) + 1) := by unfold cov2; rw [decide_eq_false (by omega)]; rfl
theorem Gap2.first {xs : List Wrench} {k : Nat} {out : List (Int × Int)} {first : Int} (h : Gap2 xs k out first) : 0 ≤ first ∧ first ≤ 2000 := by
  rcases h with ⟨h1, h2 | h2⟩ | ⟨_, _, h2⟩ <;> omega
theorem Gap2.len {xs : List Wrench} {k : Nat} {out : List (Int × Int)} {first : Int} (h : Gap2 xs k out first) : out.length ≤ 2000 := by
  rcases h with ⟨h1, h2 | h2⟩ | ⟨_, h2, _⟩
  · rw [h2.2.1]; have := unc_len xs k; omega
  · have := unc_len xs k; rw [h2.2.2.1] at this; simp at this; omega
  · rw [h2]; exact unc_len xs 2000
theorem Gap2.keep {xs : List Wrench} {k : Nat} {out : List (Int × Int)} (h : Gap2 xs k out 0) (hk : k ≤ 2000) (hc : cov2 xs (k + 1) = true) : Gap2 xs (k + 1) out 0 := by
  rcases h with ⟨_, h⟩ | ⟨h, _⟩
  · by_cases h2 : k = 2000
    · subst h2; exact .inr ⟨rfl, h.fin0, rfl⟩
    · rw [cov2_in (by omega)] at hc
      exact .inl ⟨by omega, h.keep hc⟩
  · omega
theorem Gap2.shut {xs : List Wrench} {k : Nat} {out : List (Int × Int)} {first : Int} (h : Gap2 xs k out first) (hf : 0 < first) (hk : k ≤ 2000) (hc : cov2 xs (k + 1) = true) : Gap2 xs (k + 1) (out ++ [(first, (k : Int))]) 0 := by
  rcases h with ⟨_, h⟩ | ⟨h, _⟩
  · by_cases h2 : k = 2000
    · subst h2; exact .inr ⟨rfl, h.fin hf, rfl⟩
    · rw [cov2_in (by omega)] at hc
      exact .inl ⟨by omega, h.shut hf hc⟩
  · omega
theorem Gap2.open_ {xs : List Wrench} {k : Nat} {out : List (Int × Int)} (h : Gap2 xs k out 0) (hk : k ≤ 2000) (hc : cov2 xs (k + 1) = false) : Gap2 xs (k + 1) out ((k : Int) + 1) := by
  rcases h with ⟨_, h⟩ | ⟨h, _⟩
  · by_cases h2 : k = 2000
    · subst h2; simp [cov2] at hc
    · rw [cov2_in (by omega)] at hc
      exact .inl ⟨by omega, h.open_ hc⟩
  · omega
theorem Gap2.go {xs : List Wrench} {k : Nat} {out : List (Int × Int)} {first : Int} (h : Gap2 xs k out first) (hf : 0 < first) (hk : k ≤ 2000) (hc : cov2 xs (k + 1) = false) : Gap2 xs (k + 1) out first := by
  rcases h with ⟨_, h⟩ | ⟨h, _⟩
  · by_cases h2 : k = 2000
    · subst h2; simp [cov2] at hc
    · rw [cov2_in (by omega)] at hc
      exact .inl ⟨by omega, h.go hf hc⟩
  · omega
theorem Gap2.fin {xs : List Wrench} {out : List (Int × Int)} {first : Int} (h : Gap2 xs 2001 out first) : out = unc xs 2000 := by
  rcases h with ⟨h, _⟩ | ⟨_, h, _⟩
  · omega
  · exact h
set_option maxHeartbeats 8000000 in
set_option maxRecDepth 20000 in
theorem iUncoveredTorques_law (v : Value) (xs : List Wrench) (w : World) (hv : Sl eWrench w v xs) (_ : xs.length ≤ 1048576) :
    Calls Try.prog 42 #[v] w fun e w' => ∃ x, e = .returned (.tuple #[x, .int .i64 (UncoveredTorques_r xs).2]) ∧ OwnP w' w.heap.size x (UncoveredTorques_r xs).1 ∧ Below w.heap.size w w' := by
  obtain ⟨j0, hj, hy0, hy1, hy2⟩ := info_parts info_bool
  rcases hA : areWrenches xs
  · have HR := Lib.hid (Unc_bad hA)
    have HA := Lib.hid hA
    clear hA
    rw [HR.out]
    go_enter Try.func42, Try.ntmps42
    go_wp2_with fail
    refine (areWrenches_any v xs w hv).mono ?_
    rintro e w1 ⟨rfl, hb⟩
    rw [HA.out]
    go_wp2
    go_ret2
    exact ⟨_, rfl, OwnP.nil_ _ _, hb⟩
  have HR := Lib.hid (Unc_ok hA)
  have HA := Lib.hid hA
  obtain ⟨hl60, hbd⟩ := areWr_bd hA
  have HBD := Lib.hid hbd
  clear hA hbd
  go_enter Try.func42, Try.ntmps42
  go_wp2_with fail
  refine (areWrenches_any v xs w hv).mono ?_
  rintro e w1 ⟨rfl, hb⟩
  rw [HA.out]
  have hv1 := hv.below hb
  have HB1 := Lib.hid hb
  have hsz1 := hb.size
  obtain ⟨A, cap, rfl, hcp, _, hc⟩ := hv1.shape
  have HC := Lib.hid hc
  clear hv hv1 hb hc
  go_wp2_with (at_make; refine wpList_make_full _ rfl _ _ 75 rfl w1.heap.size 4 j0 (.bool false) 1 Try.underlying75 hj hy0 hy1 .i64 .i64 _ _ 2002 rfl rfl rfl rfl ?c1 ?c2 (Nat.le_refl _) ?_)
  case c1 => rw [hy2]; omega
  case c2 => unfold maxLen; omega
  intro w2 hown hgrow
  have hr0 := own_made _ _ _ _ _ _ hown
  rw [rowB_zero] at hr0
  have HR0 := Lib.hid hr0
  have HB2 : Hid (Below w.heap.size w w2) := Lib.hid (HB1.out.grown hgrow hsz1 (by simp))
  have HB12 : Hid (Below w1.heap.size w1 w2) := Lib.hid ((Below.refl _ _).grown hgrow (Nat.le_refl _) (by simp))
  have hs2 : w1.heap.size < w2.heap.size := (hown.lt _ rfl).2
  clear hr0 hown hgrow
  go_wp2
  go_loopg [17] xs.length (fun gi i wr => ∃ (k : Nat) (f : Nat → Bool), k ≤ xs.length ∧ gi = xs.length - k ∧ i = .int .i64 k ∧ Hid (∀ i, i < 2002 → f i = (xs.take k).any (inW i)) ∧ Hid (wr.ownsRow w1.heap.size 4 1 (.slice (some ⟨w1.heap.size, 0, none⟩) 2002 2002) 2002 (rowB 2002 f)) ∧ Hid (Below w1.heap.size w1 wr) ∧ w1.heap.size < wr.heap.size)
  case atStart => exact ⟨0, _, Nat.zero_le _, rfl, rfl, Lib.hid (by simp), HR0, HB12, hs2⟩
  case round =>
    obtain ⟨k, f, hk, rfl, rfl, HF, HO, HB, hs⟩ := hrel
    clear HR0 HB12 HB2 hs2
    by_cases hlt : k < xs.length
    · obtain ⟨bb, off, rfl, hbb, hcell⟩ := HC.out (by omega)
      have c0 : wr.cell? ⟨bb, off + k * 2, none⟩ = some (.int .i64 xs[k].least) := (HB.out.cell (p := ⟨bb, off + k * 2, none⟩) hbb).trans (by simpa [eWrench, Nat.add_assoc] using hcell k hlt 0 _ (by decide) rfl)
      have c1 : wr.cell? ⟨bb, off + k * 2 + 1, none⟩ = some (.int .i64 xs[k].most) := (HB.out.cell (p := ⟨bb, off + k * 2 + 1, none⟩) hbb).trans (by simpa [eWrench, Nat.add_assoc] using hcell k hlt 1 _ (by decide) rfl)
      obtain ⟨⟨l1, l2⟩, m1, m2⟩ := HBD.out k hlt
      have HTK : Hid (∀ i : Nat, (xs.take (k + 1)).any (inW i) = ((xs.take k).any (inW i) || inW i xs[k])) := Lib.hid (fun i => by rw [List.take_succ_eq_append_getElem hlt, List.any_append]; simp)
      have HIW : Hid (∀ i : Nat, inW i xs[k] = inR i xs[k].least xs[k].most) := Lib.hid (fun i => rfl)
      clear hcell
      generalize xs[k].least = le at *
      generalize xs[k].most = mo at *
      obtain ⟨L, rfl⟩ := Int.eq_ofNat_of_zero_le (show 0 ≤ le by omega)
      obtain ⟨M, rfl⟩ := Int.eq_ofNat_of_zero_le (show 0 ≤ mo by omega)
      have hki : (k : Int) < (xs.length : Int) := by omega
      have hbx : ∀ j, (wr.alloc (.cells #[.int .i64 L, .int .i64 M] 59)).cell? ⟨wr.heap.size, j, none⟩ = #[Value.int .i64 L, .int .i64 M][j]? := fun j => box_new _ _ _ j
      have b0 := (hbx 0).trans (show _ = some (Value.int .i64 L) from rfl)
      have b1 := (hbx 1).trans (show _ = some (Value.int .i64 M) from rfl)
      have HO1 : Hid ((wr.alloc (.cells #[.int .i64 L, .int .i64 M] 59)).ownsRow w1.heap.size 4 1 (.slice (some ⟨w1.heap.size, 0, none⟩) 2002 2002) 2002 (rowB 2002 f)) := Lib.hid (HO.out.alloc _)
      have HB3 : Hid (Below w1.heap.size w1 (wr.alloc (.cells #[.int .i64 L, .int .i64 M] 59))) := Lib.hid (HB.out.alloc (Nat.le_of_lt hs) _)
      have hs3 : wr.heap.size < (wr.alloc (.cells #[.int .i64 L, .int .i64 M] 59)).heap.size := by simp
      have bB := hs
      clear hbx HO HB hs
      go_wp2
      generalize wr.alloc (.cells #[.int .i64 L, .int .i64 M] 59) = w3 at *
      generalize wr.heap.size = B at *
      have hL0 : (0 : Int) ≤ (L : Int) := by omega
      go_loopg [7] (2002 - L) (fun gi i wr => ∃ (q : Nat) (f' : Nat → Bool), L ≤ q ∧ q ≤ 2001 ∧ gi = 2002 - q ∧ i = .int .i64 q ∧ Hid (∀ i, i < 2002 → f' i = (f i || (decide (L ≤ i) && decide (i < q) && decide (i ≤ M)))) ∧ Hid (wr.ownsRow w1.heap.size 4 1 (.slice (some ⟨w1.heap.size, 0, none⟩) 2002 2002) 2002 (rowB 2002 f')) ∧ wr.cell? ⟨B, 1, none⟩ = some (.int .i64 M) ∧ Hid (Below w1.heap.size w1 wr) ∧ w1.heap.size < wr.heap.size)
      case atStart => exact ⟨L, f, Nat.le_refl _, by omega, rfl, rfl, Lib.hid (fun i hi => by simp; omega), HO1, b1, HB3, by omega⟩
      case round =>
        rename Nat => gi2
        obtain ⟨q, f', hLq, hq, rfl, rfl, HF2, HO, hbox, HB, hs⟩ := hrel
        clear HO1 b0 b1 HB3 hs3
        have hq0 : (0 : Int) ≤ (q : Int) := by omega
        by_cases hqM : q ≤ M
        · have hqMI : (q : Int) ≤ (M : Int) := by omega
          have hq2002 : (q : Int) < 2002 := by omega
          have hcl : wr.cell? ⟨w1.heap.size, q, none⟩ = some (.bool (f' q)) := by rw [HO.out.cellAt q (by omega), rowB_at _ _ _ (by omega)]
          have hfr : wr.frozen? ⟨w1.heap.size, q, none⟩ = false := HO.out.frozenAt q
          obtain ⟨hst1, hst2⟩ := HO.out.stored q (.bool true)
          rw [rowB_set] at hst1
          have HS1 := Lib.hid hst1
          have hbx : (wr.setCell ⟨w1.heap.size, q, none⟩ (.bool true)).cell? ⟨B, 1, none⟩ = some (.int .i64 M) := (World.cell?_setCell_other _ _ _ _ (by simp <;> omega)).trans hbox
          have HB5 : Hid (Below w1.heap.size w1 (wr.setCell ⟨w1.heap.size, q, none⟩ (.bool true))) := Lib.hid (HB.out.setCell (by simp) _)
          have hs5 : w1.heap.size < (wr.setCell ⟨w1.heap.size, q, none⟩ (.bool true)).heap.size := by simpa using hs
          have HF3 : Hid (∀ i, i < 2002 → (f' i || i == q) = (f i || (decide (L ≤ i) && decide (i < q + 1) && decide (i ≤ M)))) := Lib.hid (fun i hi => by
            rw [HF2.out i hi]
            by_cases e : i = q
            · subst e
              simp [hLq, hqM]
            · have e1 : (i == q) = false := beq_eq_false_iff_ne.2 e
              have e2 : decide (i < q + 1) = decide (i < q) := by rw [decide_eq_decide]; omega
              rw [e1, e2, Bool.or_false])
          clear hst1 hst2 HO HB HF2
          go_wp2
          go_roundg (2002 - (q + 1))
          case measure => omega
          case rel => exact ⟨q + 1, _, by omega, by omega, rfl, by go_num, HF3, HS1, hbx, HB5, hs5⟩
        · have hqMI : ¬ ((q : Int) ≤ (M : Int)) := by omega
          have HF3 : Hid (∀ i, i < 2002 → f' i = (xs.take (k + 1)).any (inW i)) := Lib.hid (fun i hi => by
            rw [HF2.out i hi, HF.out i hi, HTK.out i, HIW.out i]
            congr 1
            unfold inR
            by_cases h1 : L ≤ i
            · by_cases h2 : i ≤ M
              · have h3 : i < q := by omega
                simp [h1, h2, h3]
              · simp [h2]
            · simp [h1])
          clear HF2
          go_wp2
          go_roundg (xs.length - (k + 1))
          case measure => omega
          case rel => exact ⟨k + 1, f', by omega, rfl, by go_num, HF3, HO, HB, hs⟩
    · obtain rfl : k = xs.length := by omega
      have HF2 : Hid (∀ i, i < 2002 → f i = cov xs i) := Lib.hid (fun i hi => by rw [HF.out i hi, List.take_of_length_le (Nat.le_refl _)]; rfl)
      have hki : ¬ ((xs.length : Int) < (xs.length : Int)) := by omega
      have hcl : wr.cell? ⟨w1.heap.size, 2001, none⟩ = some (.bool (f 2001)) := by rw [HO.out.cellAt 2001 (by omega), rowB_at _ _ _ (by omega)]
      have hfr : wr.frozen? ⟨w1.heap.size, 2001, none⟩ = false := HO.out.frozenAt 2001
      obtain ⟨hst1, _⟩ := HO.out.stored 2001 (.bool true)
      rw [rowB_set] at hst1
      have HB5 : Hid (Below w1.heap.size w1 (wr.setCell ⟨w1.heap.size, 2001, none⟩ (.bool true))) := Lib.hid (HB.out.setCell (by simp) _)
      have hs5 : w1.heap.size < (wr.setCell ⟨w1.heap.size, 2001, none⟩ (.bool true)).heap.size := by simpa using hs
      have HCV : Hid (∀ i, i < 2002 → ∃ b, (rowB 2002 (fun i => f i || i == 2001))[i]? = some (.bool b) ∧ b = cov2 xs i) := Lib.hid (fun i hi => by
        refine ⟨_, rowB_at _ _ _ hi, ?_⟩
        show (f i || i == 2001) = cov2 xs i
        rw [HF2.out i hi]
        unfold cov2
        by_cases e : i = 2001
        · subst e; simp
        · rw [beq_eq_false_iff_ne.2 e, decide_eq_false e, Bool.or_false, Bool.false_or])
      have HS1 := Lib.hid hst1
      have HN0 : Hid (OwnP (wr.setCell ⟨w1.heap.size, 2001, none⟩ (.bool true)) w.heap.size (.slice none 0 0) []) := Lib.hid (OwnP.nil_ _ _)
      have HG0 : Hid (Gap2 xs 0 [] 0) := Lib.hid (.inl ⟨by omega, Gaps.zero xs⟩)
      clear hst1 HO HB HF HF2
      go_wp2
      generalize wr.setCell ⟨w1.heap.size, 2001, none⟩ (.bool true) = w4 at *
      clear hcl hfr
      go_loopg [8, 9, 10] 2001 (fun gi v fi t wr => ∃ (k : Nat) (out : List (Int × Int)) (first : Int), k ≤ 2001 ∧ gi = 2001 - k ∧ fi = .int .i64 first ∧ t = .int .i64 ((k : Int) + 1) ∧ Hid (Gap2 xs k out first) ∧ Hid (OwnP wr w.heap.size v out) ∧ Hid (wr.ownsRow w1.heap.size 4 1 (.slice (some ⟨w1.heap.size, 0, none⟩) 2002 2002) 2002 (rowB 2002 (fun i => f i || i == 2001))) ∧ Hid (Below w.heap.size w1 wr) ∧ w1.heap.size < wr.heap.size)
      case atStart => exact ⟨0, [], 0, Nat.zero_le _, rfl, rfl, by go_num, HG0, HN0, HS1, Lib.hid (HB5.out.mono hsz1), hs5⟩
      case round =>
        obtain ⟨k, out, first, hk, rfl, rfl, rfl, HG, HP, HO, HB, hs⟩ := hrel
        clear HG0 HN0 HS1 HB5 hs5
        obtain ⟨fi0, fi1⟩ := HG.out.first
        have hkw : IntKind.i64.wrap ((k : Int) + 1 + 1) = (k : Int) + 1 + 1 := IntWalk.i64_in _ (by omega)
        have hkw2 : IntKind.i64.wrap ((k : Int) + 1 - 1) = (k : Int) := by rw [show (k : Int) + 1 - 1 = (k : Int) by omega]; exact IntWalk.i64_in _ (by omega)
        by_cases hlt : k ≤ 2000
        · have hle : (k : Int) + 1 ≤ 2001 := by omega
          have hk0 : (0 : Int) ≤ (k : Int) + 1 := by omega
          have hk2 : (k : Int) + 1 < 2002 := by omega
          obtain ⟨cv, hcv1, hcv2⟩ := HCV.out (k + 1) (by omega)
          have hcl : wr.cell? ⟨w1.heap.size, k + 1, none⟩ = some (.bool cv) := by rw [HO.out.cellAt (k + 1) (by omega), hcv1]
          have hkn : ((k : Int) + 1).toNat = k + 1 := by omega
          have HCV2 := Lib.hid hcv2
          clear hcv1 hcv2
          by_cases hf : 0 < first
          · have hfz : (first == 0) = false := beq_eq_false_iff_ne.2 (by omega)
            cases cv
            · have HN := Lib.hid (HG.out.go hf hlt HCV2.out.symm)
              go_wp2
              go_roundg (2001 - (k + 1))
              case measure => omega
              case rel => exact ⟨k + 1, out, first, by omega, rfl, rfl, by go_num, HN, HP, HO, HB, hs⟩
            · have HN := Lib.hid (HG.out.shut hf hlt HCV2.out.symm)
              obtain ⟨bs, g1, g2, g4, g3⟩ := HP.out
              have hol := HG.out.len
              have hbl : bs.length ≤ 1000000000 := by omega
              have hsw : w.heap.size ≤ wr.heap.size := by omega
              have G1 := Lib.hid g1
              have G2 := Lib.hid g2
              have G3 := Lib.hid g3
              have G4 := Lib.hid g4
              clear g1 g2 g3 g4 hol
              go_wp2_with (at_builtin; refine wpList_app eB rfl _ _ 45 (by rfl) 22 (.slice none 0 0) 24 Try.underlying45 info_rowI rfl (by decide) (by decide) w.heap.size _ bs (by rfl) (by exact G1.out.alloc _) (by exact hbl) (by simp; omega) wr.heap.size _ (by rfl) _ (by rfl) (by simp) ?_)
              intro v5 w5 hO5 hB5 hG5 _ _
              have HOP : Hid (OwnP w5 w.heap.size v5 (out ++ [(first, (k : Int))])) := Lib.hid (OwnP.app G1.out G2.out G4.out G3.out hsw hO5 hG5)
              have HO5 := Lib.hid (World.ownsRow.kept (World.ownsRow.alloc HO.out _) hG5 (own_ne_type G1.out HO.out (by decide)))
              have HB6 : Hid (Below w.heap.size w1 w5) := Lib.hid ((HB.out.alloc hsw _).trans hB5)
              have hs6 : w1.heap.size < w5.heap.size := by have := hG5.size; simp at this; omega
              clear hO5 hB5 hG5 G1 G2 G3 G4 hbl
              go_wp2
              go_roundg (2001 - (k + 1))
              case measure => omega
              case rel => exact ⟨k + 1, _, 0, by omega, rfl, rfl, by go_num, HN, HOP, HO5, HB6, hs6⟩
          · obtain rfl : first = 0 := by omega
            cases cv
            · have HN := Lib.hid (HG.out.open_ hlt HCV2.out.symm)
              go_wp2
              go_roundg (2001 - (k + 1))
              case measure => omega
              case rel => exact ⟨k + 1, out, (k : Int) + 1, by omega, rfl, rfl, by go_num, HN, HP, HO, HB, hs⟩
            · have HN := Lib.hid (HG.out.keep hlt HCV2.out.symm)
              go_wp2
              go_roundg (2001 - (k + 1))
              case measure => omega
              case rel => exact ⟨k + 1, out, 0, by omega, rfl, rfl, by go_num, HN, HP, HO, HB, hs⟩
        · obtain rfl : k = 2001 := by omega
          have hle : ¬ (((2001 : Nat) : Int) + 1 ≤ 2001) := by omega
          go_wp2
          go_ret2
          rw [HR.out]
          exact ⟨_, rfl, by have h := HP.out; rw [HG.out.fin] at h; exact h, HB1.out.trans HB.out⟩
end Go.Proofs.Ytijmafppdbllfaa
