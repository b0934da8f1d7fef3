/- The contract of search.run (chapter 18). No statement of the seat is proved here. -/
import Derived.Test.YtblaojjpclipaaaBrk
import Derived.Test.YtblaojjpclipaaaSrch
import Derived.Deep.RegionLaw
namespace Go.Proofs.Ytblaojjpclipaaa
open Go.RowKit

theorem slice_ofR {α : Type} {E : Enc α} {w : World} {base : Nat} {t : TypeId} {v : Value} {xs : List α} (h : Own E w base t v xs) : ∃ a c, v = .slice a xs.length c := by
  rcases h.2 with ⟨rfl, e⟩ | ⟨g, cap, cur, rfl, _⟩
  · rw [e]; exact ⟨_, _, rfl⟩
  · exact ⟨_, _, rfl⟩
def nb : Nat → Int
  | 0 => 0
  | d + 1 => 16 * (1 + nb d)
theorem nb_pos : ∀ d, 0 ≤ nb d
  | 0 => Int.le_refl _
  | d + 1 => by have := nb_pos d; simp only [nb]; omega
def sR (pv jv sv bv : Tri) (n : Int) (fv : Tri) : SR := ⟨pv, jv, sv, bv, n, -1, false, false, fv⟩
theorem grown_none {a b c : World} {r : Option Nat} (h : a.grownBy b none) (k : b.grownBy c r) : a.grownBy c r :=
  ⟨k.os.trans h.os, k.tape.trans h.tape, k.output.trans h.output, Nat.le_trans h.size k.size, fun i hi hne => (k.block i (Nat.lt_of_lt_of_le hi h.size) hne).trans (h.block i hi (by simp))⟩
theorem below_of_subR {wB W : World} {o : Obj} (h : Below wB.heap.size (wB.alloc o).drew W) : Below wB.heap.size wB W := ((Below.refl _ _).alloc (Nat.le_refl _) o).drew.trans h
/-- what the search is asked for -/
structure Ask (wS : World) (ps : List Part) (js : List Joint) (sl : List Int) (pv jv : Tri) : Prop where
  hp : RdP wS pv.v ps
  hj : Sl eJoint wS jv.v js
  n16 : ps.length ≤ 16
  n12 : js.length ≤ 12
  jok : ∀ j ∈ js, okJ j
  sok : okS sl
  s8 : sl.length ≤ 8
set_option maxHeartbeats 16000000 in
set_option maxRecDepth 20000 in
/-- all slots are filled: a build more is found -/
theorem run_end (ps : List Part) (js : List Joint) (sl : List Int) (pv jv sv bv fv : Tri) (wS : World) (S : Nat) (n : Int) (w : World) (b : List ByteArray) (bs : List (List ByteArray)) (hS : St w wS.heap.size S (sR pv jv sv bv n fv) b bs sl) (hB : Below wS.heap.size wS w) (h8 : b.length = 8) (hl : bs.length + 1 ≤ 1000000000) (hs8 : sl.length ≤ 8) :
    Calls Try.prog 84 #[.pointer (some ⟨S, 0, none⟩), .int .i64 sl.length] w fun e w' => (∃ r, e = .returned r) ∧ ∃ fv', St w' wS.heap.size S (sR pv jv sv bv n fv') b (bs ++ [b]) sl ∧ Below wS.heap.size wS w' := by
  have HS := Lib.hid hS
  have HB := Lib.hid hB
  obtain ⟨g, cap, hbv, hg, hgl⟩ := hS.bnew h8
  simp only [sR] at hbv
  subst hbv
  obtain ⟨fa0, fcap0, hfv⟩ := hS.fnd.len
  simp only [sR] at hfv
  obtain ⟨sa0, scap0, hsv⟩ := slice_ofR hS.slt
  simp only [sR] at hsv
  unfold Tri.v at hfv hsv
  obtain ⟨pa, pn, pc⟩ := pv
  obtain ⟨ja, jn, jc⟩ := jv
  obtain ⟨sa, sn, scap⟩ := sv
  obtain ⟨fa, fn, fcap⟩ := fv
  simp only at hfv hsv
  injection hfv with q1 q2 q3
  subst q1 q2 q3
  injection hsv with q1 q2 q3
  subst q1 q2 q3
  have hlt := hS.lt
  have H8 := Lib.hid h8
  obtain ⟨x0, x1, x2, x3, x4, x5, x6, x7, x8⟩ := hS.cells
  simp only [sR] at x0 x1 x2 x3 x4 x5 x6 x7 x8
  clear hS hB h8
  go_enter Try.func84, Try.ntmps84
  go_wp2
  obtain ⟨cs, k1, k2, k3⟩ := HS.out.fnd
  have K1 := Lib.hid k1
  have K3 := Lib.hid k3
  have hwS : wS.heap.size ≤ w.heap.size := HS.out.low
  have OWN1 : Hid (Own eS (w.alloc (.cells #[] 9)).drew w.heap.size 9 (.slice (some ⟨w.heap.size, 0, none⟩) 0 0) []) := Lib.hid (Own.drew (Own.empty eS w w.heap.size 9 (Nat.le_refl _)))
  have LST1 : Hid (Sl eS (w.alloc (.cells #[] 9)).drew (.slice (some ⟨g, 0, none⟩) 8 cap) b) := Lib.hid (Sl.drew ((Sl.of_own HS.out.bld (by rw [H8.out]; unfold big40; omega)).alloc _))
  have SZ1 : Hid (w.heap.size ≤ (w.alloc (.cells #[] 9)).drew.heap.size) := Lib.hid (by simp)
  have L1 : Hid (([] : List ByteArray).length + b.length ≤ 1000000000) := Lib.hid (by rw [H8.out]; decide)
  have L2 : Hid (∀ s : Tri, cs.length + [s].length ≤ 1000000000) := Lib.hid (fun s => by rw [k2]; simp; omega)
  have KB : Hid (∀ W, Below w.heap.size (w.alloc (.cells #[] 9)).drew W → Below w.heap.size w W) := Lib.hid (fun W h => below_of_subR h)
  have SZA : Hid (∀ (W : World) (o : Obj), (w.alloc (.cells #[] 9)).drew.heap.size ≤ W.heap.size → wS.heap.size ≤ (W.alloc o).heap.size) := Lib.hid (fun W o h => by have := SZ1.out; simp; omega)
  have OWA : Hid (∀ (W : World) (o : Obj), Below w.heap.size (w.alloc (.cells #[] 9)).drew W → Own eT (W.alloc o) wS.heap.size 33 (.slice fa bs.length fcap) cs) := Lib.hid (fun W o h => (K1.out.below (KB.out W h)).alloc o)
  have ONE : Hid (∀ (W : World) (s : Tri), Sl eT (W.alloc (.cells #[.slice s.a s.n s.cap] 33)) (.slice (some ⟨W.heap.size, 0, none⟩) 1 1) [s]) := Lib.hid (fun W s => Sl.one_new eT W s _ _ rfl)
  have KEEP : Hid (∀ W, Below w.heap.size w W → W.cell? ⟨S, 3, none⟩ = some (.slice (some ⟨g, 0, none⟩) 8 cap) ∧ W.cell? ⟨S, 8, none⟩ = some (.slice fa bs.length fcap)) := Lib.hid (fun W h => ⟨(h.cell (p := ⟨S, 3, none⟩) hlt.2).trans x3, (h.cell (p := ⟨S, 8, none⟩) hlt.2).trans x8⟩)
  have FRZ : Hid (∀ (W1 W : World) (o : Obj), Below w.heap.size (w.alloc (.cells #[] 9)).drew W1 → (W1.alloc o).grownBy W (.slice fa bs.length fcap : Value).ownBlock → W.cell? ⟨S, 3, none⟩ = some (.slice (some ⟨g, 0, none⟩) 8 cap) ∧ W.cell? ⟨S, 8, none⟩ = some (.slice fa bs.length fcap) ∧ W.frozen? ⟨S, 8, none⟩ = false) := Lib.hid (fun W1 W o h hg => by
    have hb2 := KB.out W1 h
    have hX := (HS.out.below hb2).box
    have hF := K1.out.below hb2
    have hg1 := grown_none (World.grownBy_alloc W1 o none) hg
    have hX2 := Own.kept hX hg1 (own_ne_row hF hX (by decide))
    have c3 := hX2.cellsAt 0 (by simp) 3 (by decide)
    have c8 := hX2.cellsAt 0 (by simp) 8 (by decide)
    exact ⟨c3, c8, World.ownsRow.frozenAt hX2 8⟩)
  have K2 := Lib.hid k2
  clear k1 k2 k3 x0 x1 x2 x3 x4 x5 x6 x7 x8
  obtain ⟨y3, y8⟩ := KEEP.out _ (Below.refl w.heap.size w).drew
  obtain ⟨y3a, y8a⟩ := KEEP.out _ ((Below.refl w.heap.size w).alloc (Nat.le_refl _) (.cells #[] 9)).drew
  go_region_law (first
    | (refine step_app_all eS rfl _ _ 33 (by rfl) 9 (.string ⟨#[]⟩) 16 Try.underlying33 info_str rfl (by decide) (by decide) w.heap.size _ [] (by rfl) OWN1.out _ b (by rfl) LST1.out L1.out SZ1.out ?_; intro v1 wv1 hown1 hbl hg1 hor1; replace hown1 : Own eS wv1 w.heap.size 9 v1 b := hown1; obtain ⟨a1, c1, rfl⟩ := slice_ofR hown1; obtain ⟨y3b, y8b⟩ := KEEP.out _ (KB.out _ hbl); obtain ⟨y3c, y8c⟩ := KEEP.out _ ((KB.out _ hbl).alloc (KB.out _ hbl).size (.cells #[.slice a1 b.length c1] 33)))
    | (refine step_app_all eT rfl _ _ 72 (by rfl) 33 (.slice none 0 0) 24 Try.underlying72 info_strs rfl (by decide) (by decide) wS.heap.size _ cs (by rfl) (OWA.out wv1 _ hbl) _ [⟨a1, b.length, c1⟩] (by rfl) (ONE.out wv1 ⟨a1, b.length, c1⟩) (L2.out _) (SZA.out _ _ hbl.size) ?_; intro v2 wv2 hown2 hbl2 hg2 hor2; obtain ⟨f3, f8, ff8⟩ := FRZ.out _ _ _ hbl hg2; obtain ⟨a2, c2, rfl⟩ := slice_ofR hown2))
  all_goals
    have hb2 := KB.out _ hbl
    have hS1 := HS.out.below hb2
    have hg3 := grown_none (World.grownBy_alloc wv1 _ none) hg2
    have hF1 := K1.out.below hb2
    rw [show (cs ++ [(⟨a1, b.length, c1⟩ : Tri)]).length = cs.length + 1 by simp] at hown2
    have hlow := (World.ownsRow.lt hown1)
    have HG := Lib.hid (St.grow (w := wv1) (t := ⟨a2, cs.length + 1, c2⟩) (c := ⟨a1, b.length, c1⟩) hS1 hF1 K2.out (fun k c y e1 e2 => ⟨(K3.out k c y e1 e2).1.below hb2, (K3.out k c y e1 e2).2⟩) (hown1.mono hwS) H8.out (fun j hj e => by
      have h1 := (hlow j e).1
      have h2 : g = j := by simpa [sR, Tri.v, Value.ownBlock] using hj
      omega) hown2 hg3)
    have HBN := Lib.hid (((Below.step HB.out hb2).grown hg3 hS1.low (fun k hk => (World.ownsRow.lt hF1 k hk).1)).setCell (p := ⟨S, 8, none⟩) hlt.1 (.slice a2 (cs.length + 1) c2))
    clear hown1 hbl hg1 hor1 hown2 hbl2 hg2 hor2 f3 f8 ff8 hb2 hS1 hg3 hF1 hlow y3 y8 y3a y8a y3b y8b y3c y8c
    clear OWN1 LST1 L1 SZ1 L2 KB SZA OWA ONE KEEP FRZ
    go_wp2
    exact bodyPost_ret (results_none rfl _ _ _) rfl ⟨⟨_, rfl⟩, ⟨a2, cs.length + 1, c2⟩, HG.out, HBN.out⟩
end Go.Proofs.Ytblaojjpclipaaa
