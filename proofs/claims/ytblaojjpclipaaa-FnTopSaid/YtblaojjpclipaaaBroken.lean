/- Contracts of the functions that say whether a joint of a build is broken (chapter 17). No statement of the seat is proved here. -/
import Derived.Test.YtblaojjpclipaaaOpen
import Derived.Deep.RegionHeld3
namespace Go.Proofs.Ytblaojjpclipaaa
open Go.RowKit

def partOf (ps : List Part) (c : ByteArray) : Part := ps.getD (firstAt (isCode c) ps).toNat zPart
def brokenB (ps : List Part) (b : List ByteArray) (j : Joint) : Bool := !openB b j && !jOut j.kind (partOf ps (getC b j.b)).ports (partOf ps (getC b j.a)).ports
/-- a build's texts are parts' codes, or empty -/
def Fit (ps : List Part) (b : List ByteArray) : Prop := b.length = 8 ∧ ∀ c ∈ b, emp c = true ∨ 0 ≤ firstAt (isCode c) ps
theorem getC_mem {b : List ByteArray} (h8 : b.length = 8) {i : Int} (h7 : i ≤ 7) : getC b i ∈ b := by
  have hk : i.toNat < b.length := by omega
  unfold getC
  rw [getD_at _ _ _ hk]
  exact List.getElem_mem hk
theorem part_at {ps : List Part} {c : ByteArray} (h : 0 ≤ firstAt (isCode c) ps) : ∃ (k : Nat) (hk : k < ps.length), firstAt (isCode c) ps = k ∧ partOf ps c = ps[k] ∧ isCode c ps[k] = true := by
  obtain ⟨k, hk, e, h1, _⟩ := firstAt_get (p := isCode c) (xs := ps) (by omega)
  refine ⟨k, hk, e, ?_, h1⟩
  unfold partOf
  rw [e, Int.toNat_natCast, getD_at _ _ _ hk]
abbrev PCells (W : World) (b o : Nat) (x : Part) (a : Option Addr) (c : Nat) : Prop := W.cell? ⟨b, o, none⟩ = some (.string x.code) ∧ W.cell? ⟨b, o + 1, none⟩ = some (.int .i64 x.slot) ∧ W.cell? ⟨b, o + 2, none⟩ = some (.slice a x.ports.length c) ∧ W.cell? ⟨b, o + 3, none⟩ = some (.int .i64 x.price) ∧ W.cell? ⟨b, o + 4, none⟩ = some (.int .i64 x.grams)
set_option maxHeartbeats 16000000 in
set_option maxRecDepth 20000 in
theorem isBroken_any (pv v : Value) (ps : List Part) (b : List ByteArray) (j : Joint) (w : World) (hp : RdP w pv ps) (hv : Sl eS w v b) (hf : Fit ps b) (hj : okJ j) :
    Calls Try.prog 97 #[pv, v, .agg #[.int .i64 j.a, .int .i64 j.b, .int .i64 j.kind]] w fun e w' => e = .returned (.bool (brokenB ps b j)) ∧ Below w.heap.size w w' := by
  have hb0 : Below w.heap.size w (w.alloc (.cells #[.int .i64 j.a, .int .i64 j.b, .int .i64 j.kind] 47)) := (Below.refl _ _).alloc (Nat.le_refl _) _
  have hop := isOpen_any v b j (w.alloc (.cells #[.int .i64 j.a, .int .i64 j.b, .int .i64 j.kind] 47)) (hv.below hb0) hf.1 hj
  have HJ := Lib.hid hj
  have HF := Lib.hid hf
  have hbx : ∀ i, (w.alloc (.cells #[.int .i64 j.a, .int .i64 j.b, .int .i64 j.kind] 47)).cell? ⟨w.heap.size, i, none⟩ = #[Value.int .i64 j.a, .int .i64 j.b, .int .i64 j.kind][i]? := fun i => box_new _ _ _ i
  have b0 := (hbx 0).trans (show _ = some (Value.int .i64 j.a) from rfl)
  have b1 := (hbx 1).trans (show _ = some (Value.int .i64 j.b) from rfl)
  have b2 := (hbx 2).trans (show _ = some (Value.int .i64 j.kind) from rfl)
  have HP := Lib.hid (hp.below hb0)
  have HV := Lib.hid (hv.below hb0)
  have hsz : (w.alloc (.cells #[.int .i64 j.a, .int .i64 j.b, .int .i64 j.kind] 47)).heap.size = w.heap.size + 1 := by simp
  have HB0 := Lib.hid hb0
  cases ho : openB b j
  rotate_left
  · have HO := Lib.hid ho
    rw [ho] at hop
    have HOP := Lib.hid hop
    clear hj hf hbx hop ho hp hv hb0 hsz HP HV HF HJ
    obtain ⟨ja, jb, kd⟩ := j
    simp only at *
    go_enter Try.func97, Try.ntmps97
    go_wp2_with fail
    refine HOP.out.mono ?_
    rintro e w1 ⟨rfl, hb⟩
    have HB1 := Lib.hid (Below.step HB0.out hb)
    clear hb
    go_wp2
    go_ret
    exact ⟨ret_bool (by unfold brokenB; rw [HO.out]; rfl), HB1.out⟩
  have HO := Lib.hid ho
  rw [ho] at hop
  have HOP := Lib.hid hop
  have ho2 := ho
  unfold openB at ho2
  rw [Bool.or_eq_false_iff] at ho2
  obtain ⟨k1, hk1, e1, p1, _⟩ := part_at (ps := ps) (c := getC b j.a) ((hf.2 _ (getC_mem hf.1 hj.2.1)).resolve_left (by rw [ho2.1]; decide))
  obtain ⟨k2, hk2, e2, p2, _⟩ := part_at (ps := ps) (c := getC b j.b) ((hf.2 _ (getC_mem hf.1 hj.2.2.2)).resolve_left (by rw [ho2.2]; decide))
  have HR : Hid (brokenB ps b j = !jOut j.kind ps[k2].ports ps[k1].ports) := Lib.hid (by unfold brokenB; rw [ho, p1, p2]; rfl)
  obtain ⟨g, off, cap, rfl, hcap, hg, hcell⟩ := build_at HV.out hf.1
  obtain ⟨gp, offp, capp, rfl, hgp⟩ := RdP.some_ HP.out (by omega)
  obtain ⟨A1, C1, at1⟩ := HP.out.at_ k1 hk1
  obtain ⟨A2, C2, at2⟩ := HP.out.at_ k2 hk2
  have hcA := hcell j.a hj.1 hj.2.1
  have hcB := hcell j.b hj.2.2.1 hj.2.2.2
  have hfc := fun (s : ByteArray) (W : World) (hW : Below (w.alloc (.cells #[.int .i64 j.a, .int .i64 j.b, .int .i64 j.kind] 47)).heap.size (w.alloc (.cells #[.int .i64 j.a, .int .i64 j.b, .int .i64 j.kind] 47)) W) => findPart_any _ ps s W (HP.out.below hW)
  have HCA := Lib.hid hcA
  have HCB := Lib.hid hcB
  have HA1 := Lib.hid at1
  have HA2 := Lib.hid at2
  have HE1 := Lib.hid e1
  have HE2 := Lib.hid e2
  have HFC := Lib.hid hfc
  clear hbx ho ho2 hop hp hv hf hcell hcA hcB at1 at2 e1 e2 p1 p2 hfc HF HP HV hb0 
  obtain ⟨ja, jb, kd⟩ := j
  simp only at *
  generalize ps[k1] = x1 at *
  generalize ps[k2] = x2 at *
  generalize getC b ja = s at *
  generalize getC b jb = t at *
  have h0 := HJ.out.1
  have h1 := HJ.out.2.1
  have h2 := HJ.out.2.2.1
  have h3 := HJ.out.2.2.2
  simp only at h0 h1 h2 h3
  obtain ⟨a, rfl⟩ : ∃ a : Nat, ja = a := ⟨ja.toNat, by omega⟩
  obtain ⟨c, rfl⟩ : ∃ c : Nat, jb = c := ⟨jb.toNat, by omega⟩
  simp only [Int.toNat_natCast] at HCA HCB
  go_enter Try.func97, Try.ntmps97
  go_wp2_with fail
  generalize w.alloc (.cells #[.int .i64 (a : Int), .int .i64 (c : Int), .int .i64 kd] 47) = wB at *
  have KB : Hid (∀ W, Below wB.heap.size wB W → W.cell? ⟨w.heap.size, 0, none⟩ = some (.int .i64 (a : Int)) ∧ W.cell? ⟨w.heap.size, 1, none⟩ = some (.int .i64 (c : Int)) ∧ W.cell? ⟨w.heap.size, 2, none⟩ = some (.int .i64 kd)) := Lib.hid (fun W h => ⟨(h.cell (p := ⟨w.heap.size, 0, none⟩) (by show w.heap.size < wB.heap.size; omega)).trans b0, (h.cell (p := ⟨w.heap.size, 1, none⟩) (by show w.heap.size < wB.heap.size; omega)).trans b1, (h.cell (p := ⟨w.heap.size, 2, none⟩) (by show w.heap.size < wB.heap.size; omega)).trans b2⟩)
  obtain ⟨X, hX⟩ : ∃ X, w.heap.size = X := ⟨_, rfl⟩
  rw [hX] at KB hsz ⊢
  have FIN : Hid (∀ W, Below wB.heap.size wB W → Below X w W) := Lib.hid (fun W h => by rw [← hX]; exact Below.step HB0.out h)
  refine HOP.out.mono ?_
  rintro e w1 ⟨rfl, hb⟩
  have HBW := Lib.hid hb
  clear hb b0 b1 b2 HOP
  go_wp2
  have KEEP : Hid (∀ W, Below wB.heap.size wB W → (W.cell? ⟨X, 0, none⟩ = some (.int .i64 (a : Int)) ∧ W.cell? ⟨X, 1, none⟩ = some (.int .i64 (c : Int)) ∧ W.cell? ⟨X, 2, none⟩ = some (.int .i64 kd)) ∧ (W.cell? ⟨g, off + a, none⟩ = some (.string s) ∧ W.cell? ⟨g, off + c, none⟩ = some (.string t)) ∧ PCells W gp (offp + k1 * 5) x1 A1 C1 ∧ PCells W gp (offp + k2 * 5) x2 A2 C2) := Lib.hid (fun W h => by
    obtain ⟨q0, q1, q2, q3, q4, _⟩ := HA1.out W h
    obtain ⟨r0, r1, r2, r3, r4, _⟩ := HA2.out W h
    exact ⟨KB.out W h, ⟨HCA.out W h, HCB.out W h⟩, ⟨q0, q1, q2, q3, q4⟩, r0, r1, r2, r3, r4⟩)
  have CJ : Hid (∀ W, Below wB.heap.size wB W → Calls Try.prog 53 #[.agg #[.string x1.code, .int .i64 x1.slot, .slice A1 x1.ports.length C1, .int .i64 x1.price, .int .i64 x1.grams], .agg #[.string x2.code, .int .i64 x2.slot, .slice A2 x2.ports.length C2, .int .i64 x2.price, .int .i64 x2.grams], .int .i64 kd] W fun e w' => e = .returned (.bool (jOut kd x2.ports x1.ports)) ∧ Below wB.heap.size wB w') := Lib.hid (fun W h => (doJoin_any x1 x2 A1 A2 C1 C2 kd W (HA1.out W h).2.2.2.2.2 (HA2.out W h).2.2.2.2.2).mono fun _ _ hh => ⟨hh.1, Below.step h hh.2⟩)
  have CF1 : Hid (∀ W, Below wB.heap.size wB W → Calls Try.prog 49 #[.slice (some ⟨gp, offp, none⟩) ps.length capp, .string s] W fun e w' => e = .returned (.int .i64 (k1 : Int)) ∧ Below wB.heap.size wB w') := Lib.hid (fun W h => (HFC.out s W h).mono fun _ _ hh => ⟨by rw [hh.1, HE1.out], Below.step h hh.2⟩)
  have CF2 : Hid (∀ W, Below wB.heap.size wB W → Calls Try.prog 49 #[.slice (some ⟨gp, offp, none⟩) ps.length capp, .string t] W fun e w' => e = .returned (.int .i64 (k2 : Int)) ∧ Below wB.heap.size wB w') := Lib.hid (fun W h => (HFC.out t W h).mono fun _ _ hh => ⟨by rw [hh.1, HE2.out], Below.step h hh.2⟩)
  have i1 : (k1 : Int) < (ps.length : Int) := by omega
  have i2 : (k2 : Int) < (ps.length : Int) := by omega
  have i3 : (0 : Int) ≤ (k1 : Int) := by omega
  have i4 : (0 : Int) ≤ (k2 : Int) := by omega
  have i5 : (a : Int) < 8 := by omega
  have i6 : (c : Int) < 8 := by omega
  have hBR : Below wB.heap.size wB w1.drew := HBW.out.drew
  go_region_held3 (fun W => (W.cell? ⟨X, 0, none⟩ = some (.int .i64 (a : Int)) ∧ W.cell? ⟨X, 1, none⟩ = some (.int .i64 (c : Int)) ∧ W.cell? ⟨X, 2, none⟩ = some (.int .i64 kd)) ∧ (W.cell? ⟨g, off + a, none⟩ = some (.string s) ∧ W.cell? ⟨g, off + c, none⟩ = some (.string t)) ∧ PCells W gp (offp + k1 * 5) x1 A1 C1 ∧ PCells W gp (offp + k2 * 5) x2 A2 C2) (exact KEEP.out _ (by assumption))
    (first
      | (go_at_call 49; (first | with_reducible refine (CF1.out _ ?_).mono ?_ | with_reducible refine (CF2.out _ ?_).mono ?_); (first | assumption); rintro e wn ⟨rfl, hb⟩)
      | (go_at_call 53; refine (CJ.out _ ?_).mono ?_; (first | assumption); rintro e wn ⟨rfl, hb⟩))
  all_goals
    have HN := Lib.hid (FIN.out _ hb)
    go_wp2
    go_ret
    exact ⟨ret_bool HR.out.symm, by rw [hX]; exact HN.out⟩
def stateB (ps : List Part) (b : List ByteArray) (j : Joint) : Int := if openB b j = true then 0 else if brokenB ps b j = true then 1 else 2
theorem find_emp {ps : List Part} (h : ∀ x ∈ ps, emp x.code = false) {s : ByteArray} (hs : emp s = true) : firstAt (isCode s) ps = -1 := by
  refine firstAt_none (List.any_eq_false.2 fun x hx hc => ?_)
  have h1 := h x hx
  unfold isCode at hc
  rw [beq_iff_eq] at hc
  unfold emp at hs h1
  rw [hc, hs] at h1
  cases h1
set_option maxHeartbeats 16000000 in
set_option maxRecDepth 20000 in
theorem l17State_any (pv v : Value) (ps : List Part) (b : List ByteArray) (j : Joint) (w : World) (hp : RdP w pv ps) (hv : Sl eS w v b) (hf : Fit ps b) (hj : okJ j) (hne : ∀ x ∈ ps, emp x.code = false) :
    Calls Try.prog 96 #[pv, .agg #[.int .i64 j.a, .int .i64 j.b, .int .i64 j.kind], v] w fun e w' => e = .returned (.int .i64 (stateB ps b j)) ∧ Below w.heap.size w w' := by
  have hb0 : Below w.heap.size w (w.alloc (.cells #[.int .i64 j.a, .int .i64 j.b, .int .i64 j.kind] 47)) := (Below.refl _ _).alloc (Nat.le_refl _) _
  have HJ := Lib.hid hj
  have HF := Lib.hid hf
  have hbx : ∀ i, (w.alloc (.cells #[.int .i64 j.a, .int .i64 j.b, .int .i64 j.kind] 47)).cell? ⟨w.heap.size, i, none⟩ = #[Value.int .i64 j.a, .int .i64 j.b, .int .i64 j.kind][i]? := fun i => box_new _ _ _ i
  have b0 := (hbx 0).trans (show _ = some (Value.int .i64 j.a) from rfl)
  have b1 := (hbx 1).trans (show _ = some (Value.int .i64 j.b) from rfl)
  have b2 := (hbx 2).trans (show _ = some (Value.int .i64 j.kind) from rfl)
  have HP := Lib.hid (hp.below hb0)
  have HV := Lib.hid (hv.below hb0)
  have hsz : (w.alloc (.cells #[.int .i64 j.a, .int .i64 j.b, .int .i64 j.kind] 47)).heap.size = w.heap.size + 1 := by simp
  have HB0 := Lib.hid hb0
  obtain ⟨g, off, cap, rfl, hcap, hg, hcell⟩ := build_at HV.out hf.1
  have HCA := Lib.hid (hcell j.a hj.1 hj.2.1)
  have HCB := Lib.hid (hcell j.b hj.2.2.1 hj.2.2.2)
  have HFC := Lib.hid (fun (s : ByteArray) (W : World) (hW : Below (w.alloc (.cells #[.int .i64 j.a, .int .i64 j.b, .int .i64 j.kind] 47)).heap.size (w.alloc (.cells #[.int .i64 j.a, .int .i64 j.b, .int .i64 j.kind] 47)) W) => l16Find_any _ ps s W (HP.out.below hW))
  have FA : Hid (emp (getC b j.a) = false → ∃ (k : Nat) (hk : k < ps.length), firstAt (isCode (getC b j.a)) ps = k ∧ partOf ps (getC b j.a) = ps[k] ∧ isCode (getC b j.a) ps[k] = true) := Lib.hid (fun h => part_at ((hf.2 _ (getC_mem hf.1 hj.2.1)).resolve_left (by rw [h]; decide)))
  have FB : Hid (emp (getC b j.b) = false → ∃ (k : Nat) (hk : k < ps.length), firstAt (isCode (getC b j.b)) ps = k ∧ partOf ps (getC b j.b) = ps[k] ∧ isCode (getC b j.b) ps[k] = true) := Lib.hid (fun h => part_at ((hf.2 _ (getC_mem hf.1 hj.2.2.2)).resolve_left (by rw [h]; decide)))
  have EA : Hid (emp (getC b j.a) = true → firstAt (isCode (getC b j.a)) ps = -1) := Lib.hid (find_emp hne)
  have EB : Hid (emp (getC b j.b) = true → firstAt (isCode (getC b j.b)) ps = -1) := Lib.hid (find_emp hne)
  have EO : Hid (openB b j = (emp (getC b j.a) || emp (getC b j.b))) := Lib.hid rfl
  have ER : Hid (stateB ps b j = if openB b j = true then 0 else if (!openB b j && !jOut j.kind (partOf ps (getC b j.b)).ports (partOf ps (getC b j.a)).ports) = true then 1 else 2) := Lib.hid rfl
  clear hbx hp hv hf hcell hb0 hne HF
  obtain ⟨ja, jb, kd⟩ := j
  simp only at *
  generalize getC b ja = s at *
  generalize getC b jb = t at *
  have h0 := HJ.out.1
  have h1 := HJ.out.2.1
  have h2 := HJ.out.2.2.1
  have h3 := HJ.out.2.2.2
  simp only at h0 h1 h2 h3
  obtain ⟨a, rfl⟩ : ∃ a : Nat, ja = a := ⟨ja.toNat, by omega⟩
  obtain ⟨c, rfl⟩ : ∃ c : Nat, jb = c := ⟨jb.toNat, by omega⟩
  simp only [Int.toNat_natCast] at HCA HCB
  have i5 : (a : Int) < 8 := by omega
  have i6 : (c : Int) < 8 := by omega
  go_enter Try.func96, Try.ntmps96
  go_wp2_with fail
  generalize w.alloc (.cells #[.int .i64 (a : Int), .int .i64 (c : Int), .int .i64 kd] 47) = wB at *
  have KB : Hid (∀ W, Below wB.heap.size wB W → W.cell? ⟨w.heap.size, 0, none⟩ = some (.int .i64 (a : Int)) ∧ W.cell? ⟨w.heap.size, 1, none⟩ = some (.int .i64 (c : Int)) ∧ W.cell? ⟨w.heap.size, 2, none⟩ = some (.int .i64 kd)) := Lib.hid (fun W h => ⟨(h.cell (p := ⟨w.heap.size, 0, none⟩) (by show w.heap.size < wB.heap.size; omega)).trans b0, (h.cell (p := ⟨w.heap.size, 1, none⟩) (by show w.heap.size < wB.heap.size; omega)).trans b1, (h.cell (p := ⟨w.heap.size, 2, none⟩) (by show w.heap.size < wB.heap.size; omega)).trans b2⟩)
  obtain ⟨X, hX⟩ : ∃ X, w.heap.size = X := ⟨_, rfl⟩
  rw [hX] at KB hsz ⊢
  have FIN : Hid (∀ W, Below wB.heap.size wB W → Below X w W) := Lib.hid (fun W h => by rw [← hX]; exact Below.step HB0.out h)
  clear b0 b1 b2
  have KEEP : Hid (∀ W, Below wB.heap.size wB W → (W.cell? ⟨X, 0, none⟩ = some (.int .i64 (a : Int)) ∧ W.cell? ⟨X, 1, none⟩ = some (.int .i64 (c : Int)) ∧ W.cell? ⟨X, 2, none⟩ = some (.int .i64 kd)) ∧ (W.cell? ⟨g, off + a, none⟩ = some (.string s) ∧ W.cell? ⟨g, off + c, none⟩ = some (.string t))) := Lib.hid (fun W h => ⟨KB.out W h, HCA.out W h, HCB.out W h⟩)
  obtain ⟨fa, hfa⟩ : ∃ fa, firstAt (isCode s) ps = fa := ⟨_, rfl⟩
  obtain ⟨fb, hfb⟩ : ∃ fb, firstAt (isCode t) ps = fb := ⟨_, rfl⟩
  have CF1 : Hid (∀ W, Below wB.heap.size wB W → Calls Try.prog 51 #[pv, .string s] W fun e w' => e = .returned (.int .i64 fa) ∧ Below wB.heap.size wB w') := Lib.hid (fun W h => (HFC.out s W h).mono fun _ _ hh => ⟨by rw [hh.1, hfa], hh.2 ▸ h⟩)
  have CF2 : Hid (∀ W, Below wB.heap.size wB W → Calls Try.prog 51 #[pv, .string t] W fun e w' => e = .returned (.int .i64 fb) ∧ Below wB.heap.size wB w') := Lib.hid (fun W h => (HFC.out t W h).mono fun _ _ hh => ⟨by rw [hh.1, hfb], hh.2 ▸ h⟩)
  rw [hfa] at EA FA
  rw [hfb] at EB FB
  have HX := Lib.hid hX
  clear hfa hfb hX HFC
  have hBR : Below wB.heap.size wB wB.drew := (Below.refl _ _).drew
  go_region_held3 (fun W => (W.cell? ⟨X, 0, none⟩ = some (.int .i64 (a : Int)) ∧ W.cell? ⟨X, 1, none⟩ = some (.int .i64 (c : Int)) ∧ W.cell? ⟨X, 2, none⟩ = some (.int .i64 kd)) ∧ (W.cell? ⟨g, off + a, none⟩ = some (.string s) ∧ W.cell? ⟨g, off + c, none⟩ = some (.string t))) (exact KEEP.out _ (by assumption))
    (first | (go_at_call 51; (first | with_reducible refine (CF1.out _ ?_).mono ?_ | with_reducible refine (CF2.out _ ?_).mono ?_); (first | assumption); rintro e wn ⟨rfl, hb⟩))
  all_goals
    have HN := Lib.hid hb
    clear KEEP CF1 CF2 hBR
    rcases hea : emp s
    rotate_left
    · obtain rfl := EA.out hea
      have HEA := Lib.hid hea
      clear hea
      have HF2 := Lib.hid (FIN.out _ HN.out)
      go_wp2
      go_ret
      exact ⟨ret_int (by rw [ER.out, EO.out, HEA.out]; rfl), by rw [HX.out]; exact HF2.out⟩
    obtain ⟨k1, hk1, rfl, p1, _⟩ := FA.out hea
    rcases heb : emp t
    rotate_left
    · obtain rfl := EB.out heb
      have HEA := Lib.hid hea
      have HEB := Lib.hid heb
      clear hea heb
      have HF2 := Lib.hid (FIN.out _ HN.out)
      have i3 : (0 : Int) ≤ (k1 : Int) := by omega
      go_wp2
      go_ret
      exact ⟨ret_int (by rw [ER.out, EO.out, HEA.out, HEB.out]; rfl), by rw [HX.out]; exact HF2.out⟩
    obtain ⟨k2, hk2, rfl, p2, _⟩ := FB.out heb
    have HR : Hid (stateB ps b ⟨a, c, kd⟩ = if jOut kd ps[k2].ports ps[k1].ports = true then 2 else 1) := Lib.hid (by
      rw [ER.out, EO.out, hea, heb, p1, p2]
      cases jOut kd ps[k2].ports ps[k1].ports <;> rfl)
    obtain ⟨gp, offp, capp, rfl, hgp⟩ := RdP.some_ HP.out (by omega)
    obtain ⟨A1, C1, at1⟩ := HP.out.at_ k1 hk1
    obtain ⟨A2, C2, at2⟩ := HP.out.at_ k2 hk2
    have HA1 := Lib.hid at1
    have HA2 := Lib.hid at2
    clear hea heb p1 p2 at1 at2 EA EB FA FB ER EO
    have i1 : (k1 : Int) < (ps.length : Int) := by omega
    have i2 : (k2 : Int) < (ps.length : Int) := by omega
    have i3 : (0 : Int) ≤ (k1 : Int) := by omega
    have i4 : (0 : Int) ≤ (k2 : Int) := by omega
    generalize ps[k1] = x1 at *
    generalize ps[k2] = x2 at *
    have KEEP : Hid (∀ W, Below wB.heap.size wB W → (W.cell? ⟨X, 0, none⟩ = some (.int .i64 (a : Int)) ∧ W.cell? ⟨X, 1, none⟩ = some (.int .i64 (c : Int)) ∧ W.cell? ⟨X, 2, none⟩ = some (.int .i64 kd)) ∧ PCells W gp (offp + k1 * 5) x1 A1 C1 ∧ PCells W gp (offp + k2 * 5) x2 A2 C2) := Lib.hid (fun W h => by
      obtain ⟨q0, q1, q2, q3, q4, _⟩ := HA1.out W h
      obtain ⟨r0, r1, r2, r3, r4, _⟩ := HA2.out W h
      exact ⟨KB.out W h, ⟨q0, q1, q2, q3, q4⟩, r0, r1, r2, r3, r4⟩)
    have CJ : Hid (∀ W, Below wB.heap.size wB W → Calls Try.prog 98 #[.agg #[.string x1.code, .int .i64 x1.slot, .slice A1 x1.ports.length C1, .int .i64 x1.price, .int .i64 x1.grams], .agg #[.string x2.code, .int .i64 x2.slot, .slice A2 x2.ports.length C2, .int .i64 x2.price, .int .i64 x2.grams], .int .i64 kd] W fun e w' => e = .returned (.bool (jOut kd x2.ports x1.ports)) ∧ Below wB.heap.size wB w') := Lib.hid (fun W h => (l16Join_any x1 x2 A1 A2 C1 C2 kd W (HA1.out W h).2.2.2.2.2 (HA2.out W h).2.2.2.2.2).mono fun _ _ hh => ⟨hh.1, Below.step h hh.2⟩)
    have hBR : Below wB.heap.size wB wn.drew := HN.out.drew
    clear HA1 HA2 KB HCA HCB
    cases hj : jOut kd x2.ports x1.ports
    all_goals
      rw [hj] at CJ HR
      clear hj
      go_wp2
      go_region_held3 (fun W => (W.cell? ⟨X, 0, none⟩ = some (.int .i64 (a : Int)) ∧ W.cell? ⟨X, 1, none⟩ = some (.int .i64 (c : Int)) ∧ W.cell? ⟨X, 2, none⟩ = some (.int .i64 kd)) ∧ PCells W gp (offp + k1 * 5) x1 A1 C1 ∧ PCells W gp (offp + k2 * 5) x2 A2 C2) (exact KEEP.out _ (by assumption))
        (first | (go_at_call 98; refine (CJ.out _ ?_).mono ?_; (first | assumption); rintro e wm ⟨rfl, hb2⟩))
      all_goals
        have HF2 := Lib.hid (FIN.out _ hb2)
        go_wp2
        go_ret
        exact ⟨ret_int (by rw [HR.out]; rfl), by rw [HX.out]; exact HF2.out⟩
end Go.Proofs.Ytblaojjpclipaaa
