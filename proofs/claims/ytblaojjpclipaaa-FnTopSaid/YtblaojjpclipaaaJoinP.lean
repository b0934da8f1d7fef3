/- Contracts of both functions that say whether two parts join at a kind (chapter 16). No statement of the seat is proved here. -/
import Derived.Test.YtblaojjpclipaaaM3
namespace Go.Proofs.Ytblaojjpclipaaa
open Go.RowKit

def jHit (p q : Port) (kd : Int) : Bool := decide (p.kind = kd) && decide (q.kind = kd)
def jRes (p q : Port) : Bool := decide (p.size = q.size) && !(p.plug == q.plug)
def jIn (p : Port) (kd : Int) : List Port → Option Bool
  | [] => none
  | q :: r => if jHit p q kd = true then some (jRes p q) else jIn p kd r
/-- the first two ports of a kind join -/
def jOut (kd : Int) (qs : List Port) : List Port → Bool
  | [] => false
  | p :: r => (jIn p kd qs).getD (jOut kd qs r)
theorem jOut_drop {kd : Int} {qs ps : List Port} {k : Nat} (hk : k < ps.length) : jOut kd qs (ps.drop k) = (jIn ps[k] kd qs).getD (jOut kd qs (ps.drop (k + 1))) := by
  rw [List.drop_eq_getElem_cons hk]; rfl
theorem jIn_drop {p : Port} {kd : Int} {qs : List Port} {k : Nat} (hk : k < qs.length) : jIn p kd (qs.drop k) = if jHit p qs[k] kd = true then some (jRes p qs[k]) else jIn p kd (qs.drop (k + 1)) := by
  rw [List.drop_eq_getElem_cons hk]; rfl
theorem two_box (w : World) (A B : Array Value) (t : TypeId) : (∀ j, ((w.alloc (.cells A t)).alloc (.cells B t)).drew.cell? ⟨w.heap.size, j, none⟩ = A[j]?) ∧ ∀ j, ((w.alloc (.cells A t)).alloc (.cells B t)).drew.cell? ⟨w.heap.size + 1, j, none⟩ = B[j]? := by
  refine ⟨fun j => (World.cell?_alloc_lt _ _ _ (by simp)).trans (box_new w A t j), fun j => ?_⟩
  have h := box_new (w.alloc (.cells A t)) B t j
  rw [World.size_alloc] at h
  exact h
theorem two_below (w : World) (o p : Obj) (x : World) (h : x = ((w.alloc o).alloc p).drew := by rfl) : Below w.heap.size w x := by
  subst h
  have h1 : Below w.heap.size w (w.alloc o) := (Below.refl _ _).alloc (Nat.le_refl _) _
  exact (h1.alloc h1.size _).drew
set_option maxHeartbeats 16000000 in
set_option maxRecDepth 20000 in
theorem doJoin_any (x y : Part) (a b : Option Addr) (ca cb : Nat) (kd : Int) (w : World) (ha : Sl ePort w (.slice a x.ports.length ca) x.ports) (hb : Sl ePort w (.slice b y.ports.length cb) y.ports) :
    Calls Try.prog 53 #[.agg #[.string x.code, .int .i64 x.slot, .slice a x.ports.length ca, .int .i64 x.price, .int .i64 x.grams], .agg #[.string y.code, .int .i64 y.slot, .slice b y.ports.length cb, .int .i64 y.price, .int .i64 y.grams], .int .i64 kd] w fun e w' => e = .returned (.bool (jOut kd y.ports x.ports)) ∧ Below w.heap.size w w' := by
  obtain ⟨cd, sl, ps, pr, gr⟩ := x
  obtain ⟨cd2, sl2, qs, pr2, gr2⟩ := y
  simp only at *
  obtain ⟨A, cap, e1, _, hm, hc⟩ := ha.shape
  injection e1 with e1 _ e3
  subst e1
  subst e3
  obtain ⟨A2, cap2, e1, _, hm2, hc2⟩ := hb.shape
  injection e1 with e1 _ e3
  subst e1
  subst e3
  have hA : Below w.heap.size w (w.alloc (.cells #[.string cd, .int .i64 sl, .slice a ps.length ca, .int .i64 pr, .int .i64 gr] 52)) := (Below.refl _ _).alloc (Nat.le_refl _) _
  have HB := Lib.hid (hA.alloc hA.size (.cells #[.string cd2, .int .i64 sl2, .slice b qs.length cb, .int .i64 pr2, .int .i64 gr2] 52))
  have b0 : ((w.alloc (.cells #[.string cd, .int .i64 sl, .slice a ps.length ca, .int .i64 pr, .int .i64 gr] 52)).alloc (.cells #[.string cd2, .int .i64 sl2, .slice b qs.length cb, .int .i64 pr2, .int .i64 gr2] 52)).cell? ⟨w.heap.size, 2, none⟩ = some (.slice a ps.length ca) := (World.cell?_alloc_lt _ _ _ (by simp)).trans ((box_new _ _ _ 2).trans rfl)
  have b1 : ((w.alloc (.cells #[.string cd, .int .i64 sl, .slice a ps.length ca, .int .i64 pr, .int .i64 gr] 52)).alloc (.cells #[.string cd2, .int .i64 sl2, .slice b qs.length cb, .int .i64 pr2, .int .i64 gr2] 52)).cell? ⟨w.heap.size + 1, 2, none⟩ = some (.slice b qs.length cb) := by
    have := box_new (w.alloc (.cells #[.string cd, .int .i64 sl, .slice a ps.length ca, .int .i64 pr, .int .i64 gr] 52)) #[.string cd2, .int .i64 sl2, .slice b qs.length cb, .int .i64 pr2, .int .i64 gr2] 52 2
    rw [World.size_alloc] at this
    exact this.trans rfl
  have hsz : ((w.alloc (.cells #[.string cd, .int .i64 sl, .slice a ps.length ca, .int .i64 pr, .int .i64 gr] 52)).alloc (.cells #[.string cd2, .int .i64 sl2, .slice b qs.length cb, .int .i64 pr2, .int .i64 gr2] 52)).heap.size = w.heap.size + 2 := by simp
  have HC := Lib.hid hc
  have HC2 := Lib.hid hc2
  clear hA ha hb hc hc2
  go_enter Try.func53, Try.ntmps53
  go_wp2
  generalize (w.alloc (.cells #[.string cd, .int .i64 sl, .slice a ps.length ca, .int .i64 pr, .int .i64 gr] 52)).alloc (.cells #[.string cd2, .int .i64 sl2, .slice b qs.length cb, .int .i64 pr2, .int .i64 gr2] 52) = w1 at *
  have KX : Hid (∀ W, Below w1.heap.size w1 W → W.cell? ⟨w.heap.size, 2, none⟩ = some (.slice a ps.length ca) ∧ W.cell? ⟨w.heap.size + 1, 2, none⟩ = some (.slice b qs.length cb)) := Lib.hid (fun W h => ⟨(h.cell (p := ⟨w.heap.size, 2, none⟩) (by show w.heap.size < w1.heap.size; omega)).trans b0, (h.cell (p := ⟨w.heap.size + 1, 2, none⟩) (by show w.heap.size + 1 < w1.heap.size; omega)).trans b1⟩)
  have FIN : Hid (∀ W, Below w1.heap.size w1 W → Below w.heap.size w W) := Lib.hid (fun W h => HB.out.trans (h.mono (by omega)))
  clear b0 b1 HB
  have E0 : Hid (Below w1.heap.size w1 w1) := Lib.hid (Below.refl _ _)
  generalize w.heap.size + 1 = X2 at *
  obtain ⟨X, hX⟩ : ∃ X, w.heap.size = X := ⟨_, rfl⟩
  rw [hX] at KX hsz ⊢
  have HX := Lib.hid hX
  clear hX hsz
  go_loopg [14] ps.length (fun gi ii wr => ∃ i : Nat, i ≤ ps.length ∧ gi = ps.length - i ∧ ii = .int .i64 i ∧ Hid (jOut kd qs ps = jOut kd qs (ps.drop i)) ∧ Hid (Below w1.heap.size w1 wr))
  case atStart => exact ⟨0, Nat.zero_le _, rfl, rfl, Lib.hid rfl, E0⟩
  case round =>
    obtain ⟨i, hi, rfl, rfl, HJ, HB⟩ := hrel
    clear E0
    have hxw := KX.out _ HB.out
    obtain ⟨x0, x1⟩ := hxw
    by_cases hip : i < ps.length
    rotate_left
    · obtain rfl : i = ps.length := by omega
      have HF := Lib.hid (FIN.out _ HB.out)
      go_wp2
      go_ret
      exact ⟨ret_bool (by rw [HJ.out, List.drop_length]; rfl), HF.out⟩
    obtain ⟨b1, off1, rfl, hbl, hcell⟩ := HC.out (by omega)
    have hbw : Below w.heap.size w wr := FIN.out _ HB.out
    have c0 : wr.cell? ⟨b1, off1 + i * 3, none⟩ = some (.int .i64 ps[i].kind) := (hbw.cell (p := ⟨b1, off1 + i * 3, none⟩) hbl).trans (by simpa [ePort, Nat.add_assoc] using hcell i hip 0 _ (by decide) rfl)
    have c1 : wr.cell? ⟨b1, off1 + i * 3 + 1, none⟩ = some (.int .i64 ps[i].size) := (hbw.cell (p := ⟨b1, off1 + i * 3 + 1, none⟩) hbl).trans (by simpa [ePort, Nat.add_assoc] using hcell i hip 1 _ (by decide) rfl)
    have c2 : wr.cell? ⟨b1, off1 + i * 3 + 2, none⟩ = some (.bool ps[i].plug) := (hbw.cell (p := ⟨b1, off1 + i * 3 + 2, none⟩) hbl).trans (by simpa [ePort, Nat.add_assoc] using hcell i hip 2 _ (by decide) rfl)
    have CK : Hid (∀ W, Below w1.heap.size w1 W → W.cell? ⟨b1, off1 + i * 3, none⟩ = some (.int .i64 ps[i].kind) ∧ W.cell? ⟨b1, off1 + i * 3 + 1, none⟩ = some (.int .i64 ps[i].size) ∧ W.cell? ⟨b1, off1 + i * 3 + 2, none⟩ = some (.bool ps[i].plug)) := Lib.hid (fun W h => by
      have hW := FIN.out _ h
      have k0 : W.cell? ⟨b1, off1 + i * 3, none⟩ = some (.int .i64 ps[i].kind) := (hW.cell (p := ⟨b1, off1 + i * 3, none⟩) hbl).trans (by simpa [ePort, Nat.add_assoc] using hcell i hip 0 _ (by decide) rfl)
      have k1 : W.cell? ⟨b1, off1 + i * 3 + 1, none⟩ = some (.int .i64 ps[i].size) := (hW.cell (p := ⟨b1, off1 + i * 3 + 1, none⟩) hbl).trans (by simpa [ePort, Nat.add_assoc] using hcell i hip 1 _ (by decide) rfl)
      have k2 : W.cell? ⟨b1, off1 + i * 3 + 2, none⟩ = some (.bool ps[i].plug) := (hW.cell (p := ⟨b1, off1 + i * 3 + 2, none⟩) hbl).trans (by simpa [ePort, Nat.add_assoc] using hcell i hip 2 _ (by decide) rfl)
      exact ⟨k0, k1, k2⟩)
    have HD : Hid (jOut kd qs (ps.drop i) = (jIn ps[i] kd qs).getD (jOut kd qs (ps.drop (i + 1)))) := Lib.hid (jOut_drop hip)
    clear hcell hbw
    have hii : (i : Int) < (ps.length : Int) := by omega
    have hi0 : (0 : Int) ≤ (i : Int) := by omega
    have hiw : IntKind.i64.wrap ((i : Int) + 1) = (i : Int) + 1 := IntWalk.i64_in _ (by omega)
    generalize ps[i] = p at *
    obtain ⟨pk, pz, pl⟩ := p
    simp only at *
    have b0 : (wr.alloc (.cells #[.int .i64 pk, .int .i64 pz, .bool pl] 105)).cell? ⟨wr.heap.size, 0, none⟩ = some (.int .i64 pk) := (box_new _ _ _ 0).trans rfl
    have b1 : (wr.alloc (.cells #[.int .i64 pk, .int .i64 pz, .bool pl] 105)).cell? ⟨wr.heap.size, 1, none⟩ = some (.int .i64 pz) := (box_new _ _ _ 1).trans rfl
    have b2 : (wr.alloc (.cells #[.int .i64 pk, .int .i64 pz, .bool pl] 105)).cell? ⟨wr.heap.size, 2, none⟩ = some (.bool pl) := (box_new _ _ _ 2).trans rfl
    have HB2 := Lib.hid (HB.out.alloc HB.out.size (.cells #[.int .i64 pk, .int .i64 pz, .bool pl] 105))
    have hbs : wr.heap.size < (wr.alloc (.cells #[.int .i64 pk, .int .i64 pz, .bool pl] 105)).heap.size := by simp
    have y1 := (KX.out _ HB2.out).2
    go_wp2
    clear c0 c1 c2 x0 x1 y1 CK
    generalize wr.alloc (.cells #[.int .i64 pk, .int .i64 pz, .bool pl] 105) = w2 at *
    generalize wr.heap.size = Y at *
    have KY : Hid (∀ W, Below w2.heap.size w2 W → W.cell? ⟨Y, 0, none⟩ = some (.int .i64 pk) ∧ W.cell? ⟨Y, 1, none⟩ = some (.int .i64 pz) ∧ W.cell? ⟨Y, 2, none⟩ = some (.bool pl)) := Lib.hid (fun W h => ⟨(h.cell (p := ⟨Y, 0, none⟩) hbs).trans b0, (h.cell (p := ⟨Y, 1, none⟩) hbs).trans b1, (h.cell (p := ⟨Y, 2, none⟩) hbs).trans b2⟩)
    have B12 : Hid (∀ W, Below w2.heap.size w2 W → Below w1.heap.size w1 W) := Lib.hid (fun W h => Below.step HB2.out h)
    clear b0 b1 b2 hbs HB HB2
    go_loopg [21] qs.length (fun gd kk wr => ∃ k : Nat, k ≤ qs.length ∧ gd = qs.length - k ∧ kk = .int .i64 k ∧ Hid (jIn ⟨pk, pz, pl⟩ kd qs = jIn ⟨pk, pz, pl⟩ kd (qs.drop k)) ∧ Hid (Below w2.heap.size w2 wr))
    case atStart => exact ⟨0, Nat.zero_le _, rfl, rfl, Lib.hid rfl, Lib.hid (Below.refl _ _)⟩
    case round =>
      obtain ⟨k, hk, rfl, rfl, HI, HB⟩ := hrel
      have HB1 := Lib.hid (B12.out _ HB.out)
      obtain ⟨x0, x1⟩ := KX.out _ HB1.out
      by_cases hlt : k < qs.length
      rotate_left
      · obtain rfl : k = qs.length := by omega
        go_wp2
        go_roundg (ps.length - (i + 1))
        case measure => omega
        case rel => exact ⟨i + 1, by omega, rfl, by go_num, Lib.hid (by rw [HJ.out, HD.out, HI.out, List.drop_length]; rfl), HB1⟩
      obtain ⟨b2, off2, rfl, hbl2, hcell2⟩ := HC2.out (by omega)
      have hbw : Below w.heap.size w wr := FIN.out _ HB1.out
      have d0 : wr.cell? ⟨b2, off2 + k * 3, none⟩ = some (.int .i64 qs[k].kind) := (hbw.cell (p := ⟨b2, off2 + k * 3, none⟩) hbl2).trans (by simpa [ePort, Nat.add_assoc] using hcell2 k hlt 0 _ (by decide) rfl)
      have d1 : wr.cell? ⟨b2, off2 + k * 3 + 1, none⟩ = some (.int .i64 qs[k].size) := (hbw.cell (p := ⟨b2, off2 + k * 3 + 1, none⟩) hbl2).trans (by simpa [ePort, Nat.add_assoc] using hcell2 k hlt 1 _ (by decide) rfl)
      have d2 : wr.cell? ⟨b2, off2 + k * 3 + 2, none⟩ = some (.bool qs[k].plug) := (hbw.cell (p := ⟨b2, off2 + k * 3 + 2, none⟩) hbl2).trans (by simpa [ePort, Nat.add_assoc] using hcell2 k hlt 2 _ (by decide) rfl)
      have HD2 : Hid (jIn ⟨pk, pz, pl⟩ kd (qs.drop k) = if jHit ⟨pk, pz, pl⟩ qs[k] kd = true then some (jRes ⟨pk, pz, pl⟩ qs[k]) else jIn ⟨pk, pz, pl⟩ kd (qs.drop (k + 1))) := Lib.hid (jIn_drop hlt)
      clear hcell2
      have hki : (k : Int) < (qs.length : Int) := by omega
      have hk0 : (0 : Int) ≤ (k : Int) := by omega
      have hkw : IntKind.i64.wrap ((k : Int) + 1) = (k : Int) + 1 := IntWalk.i64_in _ (by omega)
      generalize qs[k] = q at *
      obtain ⟨qk, qz, ql⟩ := q
      simp only at *
      obtain ⟨z0, z1, z2⟩ := KY.out _ HB.out
      have hbq : Below w2.heap.size w2 (wr.alloc (.cells #[.int .i64 qk, .int .i64 qz, .bool ql] 105)) := HB.out.alloc HB.out.size _
      obtain ⟨y0, y1, y2⟩ := KY.out _ hbq
      have t0 : (wr.alloc (.cells #[.int .i64 qk, .int .i64 qz, .bool ql] 105)).cell? ⟨wr.heap.size, 0, none⟩ = some (.int .i64 qk) := (box_new _ _ _ 0).trans rfl
      have t1 : (wr.alloc (.cells #[.int .i64 qk, .int .i64 qz, .bool ql] 105)).cell? ⟨wr.heap.size, 1, none⟩ = some (.int .i64 qz) := (box_new _ _ _ 1).trans rfl
      have t2 : (wr.alloc (.cells #[.int .i64 qk, .int .i64 qz, .bool ql] 105)).cell? ⟨wr.heap.size, 2, none⟩ = some (.bool ql) := (box_new _ _ _ 2).trans rfl
      have HBN := Lib.hid hbq
      have HN := Lib.hid (FIN.out _ (B12.out _ hbq))
      clear HB HB1 hbw hbq
      by_cases hK : pk = kd
      rotate_left
      · have gK : (pk == kd) = false := by simp [hK]
        have HKK := Lib.hid hK
        clear hK
        go_wp2
        go_roundg (qs.length - (k + 1))
        case measure => omega
        case rel => exact ⟨k + 1, by omega, rfl, by go_num, Lib.hid (by rw [HI.out, HD2.out]; simp [jHit, HKK.out]), HBN⟩
      have gK : (pk == kd) = true := by simp [hK]
      have HKK := Lib.hid hK
      clear hK
      by_cases hQ : qk = kd
      rotate_left
      · have gQ : (qk == kd) = false := by simp [hQ]
        have HQQ := Lib.hid hQ
        clear hQ
        go_wp2
        go_roundg (qs.length - (k + 1))
        case measure => omega
        case rel => exact ⟨k + 1, by omega, rfl, by go_num, Lib.hid (by rw [HI.out, HD2.out]; simp [jHit, HQQ.out]), HBN⟩
      have gQ : (qk == kd) = true := by simp [hQ]
      have HQQ := Lib.hid hQ
      clear hQ
      by_cases hZ : pz = qz
      · have gZ : (pz == qz) = true := by simp [hZ]
        have HZ := Lib.hid hZ
        clear hZ
        go_wp2
        go_ret
        exact ⟨ret_bool (by rw [HJ.out, HD.out, HI.out, HD2.out]; simp [jHit, jRes, HKK.out, HQQ.out, HZ.out]), HN.out⟩
      · have gZ : (pz == qz) = false := by simp [hZ]
        have HZ := Lib.hid hZ
        clear hZ
        go_wp2
        go_ret
        exact ⟨ret_bool (by rw [HJ.out, HD.out, HI.out, HD2.out]; simp [jHit, jRes, HKK.out, HQQ.out, HZ.out]), HN.out⟩
set_option maxHeartbeats 16000000 in
set_option maxRecDepth 20000 in
theorem l16Join_any (x y : Part) (a b : Option Addr) (ca cb : Nat) (kd : Int) (w : World) (ha : Sl ePort w (.slice a x.ports.length ca) x.ports) (hb : Sl ePort w (.slice b y.ports.length cb) y.ports) :
    Calls Try.prog 98 #[.agg #[.string x.code, .int .i64 x.slot, .slice a x.ports.length ca, .int .i64 x.price, .int .i64 x.grams], .agg #[.string y.code, .int .i64 y.slot, .slice b y.ports.length cb, .int .i64 y.price, .int .i64 y.grams], .int .i64 kd] w fun e w' => e = .returned (.bool (jOut kd y.ports x.ports)) ∧ Below w.heap.size w w' := by
  obtain ⟨cd, sl, ps, pr, gr⟩ := x
  obtain ⟨cd2, sl2, qs, pr2, gr2⟩ := y
  simp only at *
  obtain ⟨A, cap, e1, _, hm, hc⟩ := ha.shape
  injection e1 with e1 _ e3
  subst e1
  subst e3
  obtain ⟨A2, cap2, e1, _, hm2, hc2⟩ := hb.shape
  injection e1 with e1 _ e3
  subst e1
  subst e3
  have hA : Below w.heap.size w (w.alloc (.cells #[.string cd, .int .i64 sl, .slice a ps.length ca, .int .i64 pr, .int .i64 gr] 52)) := (Below.refl _ _).alloc (Nat.le_refl _) _
  have HB := Lib.hid (hA.alloc hA.size (.cells #[.string cd2, .int .i64 sl2, .slice b qs.length cb, .int .i64 pr2, .int .i64 gr2] 52))
  have b0 : ((w.alloc (.cells #[.string cd, .int .i64 sl, .slice a ps.length ca, .int .i64 pr, .int .i64 gr] 52)).alloc (.cells #[.string cd2, .int .i64 sl2, .slice b qs.length cb, .int .i64 pr2, .int .i64 gr2] 52)).cell? ⟨w.heap.size, 2, none⟩ = some (.slice a ps.length ca) := (World.cell?_alloc_lt _ _ _ (by simp)).trans ((box_new _ _ _ 2).trans rfl)
  have b1 : ((w.alloc (.cells #[.string cd, .int .i64 sl, .slice a ps.length ca, .int .i64 pr, .int .i64 gr] 52)).alloc (.cells #[.string cd2, .int .i64 sl2, .slice b qs.length cb, .int .i64 pr2, .int .i64 gr2] 52)).cell? ⟨w.heap.size + 1, 2, none⟩ = some (.slice b qs.length cb) := by
    have := box_new (w.alloc (.cells #[.string cd, .int .i64 sl, .slice a ps.length ca, .int .i64 pr, .int .i64 gr] 52)) #[.string cd2, .int .i64 sl2, .slice b qs.length cb, .int .i64 pr2, .int .i64 gr2] 52 2
    rw [World.size_alloc] at this
    exact this.trans rfl
  have hsz : ((w.alloc (.cells #[.string cd, .int .i64 sl, .slice a ps.length ca, .int .i64 pr, .int .i64 gr] 52)).alloc (.cells #[.string cd2, .int .i64 sl2, .slice b qs.length cb, .int .i64 pr2, .int .i64 gr2] 52)).heap.size = w.heap.size + 2 := by simp
  have HC := Lib.hid hc
  have HC2 := Lib.hid hc2
  clear hA ha hb hc hc2
  go_enter Try.func98, Try.ntmps98
  go_wp2
  generalize (w.alloc (.cells #[.string cd, .int .i64 sl, .slice a ps.length ca, .int .i64 pr, .int .i64 gr] 52)).alloc (.cells #[.string cd2, .int .i64 sl2, .slice b qs.length cb, .int .i64 pr2, .int .i64 gr2] 52) = w1 at *
  have KX : Hid (∀ W, Below w1.heap.size w1 W → W.cell? ⟨w.heap.size, 2, none⟩ = some (.slice a ps.length ca) ∧ W.cell? ⟨w.heap.size + 1, 2, none⟩ = some (.slice b qs.length cb)) := Lib.hid (fun W h => ⟨(h.cell (p := ⟨w.heap.size, 2, none⟩) (by show w.heap.size < w1.heap.size; omega)).trans b0, (h.cell (p := ⟨w.heap.size + 1, 2, none⟩) (by show w.heap.size + 1 < w1.heap.size; omega)).trans b1⟩)
  have FIN : Hid (∀ W, Below w1.heap.size w1 W → Below w.heap.size w W) := Lib.hid (fun W h => HB.out.trans (h.mono (by omega)))
  clear b0 b1 HB
  have E0 : Hid (Below w1.heap.size w1 w1) := Lib.hid (Below.refl _ _)
  generalize w.heap.size + 1 = X2 at *
  obtain ⟨X, hX⟩ : ∃ X, w.heap.size = X := ⟨_, rfl⟩
  rw [hX] at KX hsz ⊢
  have HX := Lib.hid hX
  clear hX hsz
  go_loopg [7] ps.length (fun gi ii wr => ∃ i : Nat, i ≤ ps.length ∧ gi = ps.length - i ∧ ii = .int .i64 i ∧ Hid (jOut kd qs ps = jOut kd qs (ps.drop i)) ∧ Hid (Below w1.heap.size w1 wr))
  case atStart => exact ⟨0, Nat.zero_le _, rfl, rfl, Lib.hid rfl, E0⟩
  case round =>
    obtain ⟨i, hi, rfl, rfl, HJ, HB⟩ := hrel
    clear E0
    have hxw := KX.out _ HB.out
    obtain ⟨x0, x1⟩ := hxw
    by_cases hip : i < ps.length
    rotate_left
    · obtain rfl : i = ps.length := by omega
      have HF := Lib.hid (FIN.out _ HB.out)
      go_wp2
      go_ret
      exact ⟨ret_bool (by rw [HJ.out, List.drop_length]; rfl), HF.out⟩
    obtain ⟨b1, off1, rfl, hbl, hcell⟩ := HC.out (by omega)
    have hbw : Below w.heap.size w wr := FIN.out _ HB.out
    have c0 : wr.cell? ⟨b1, off1 + i * 3, none⟩ = some (.int .i64 ps[i].kind) := (hbw.cell (p := ⟨b1, off1 + i * 3, none⟩) hbl).trans (by simpa [ePort, Nat.add_assoc] using hcell i hip 0 _ (by decide) rfl)
    have c1 : wr.cell? ⟨b1, off1 + i * 3 + 1, none⟩ = some (.int .i64 ps[i].size) := (hbw.cell (p := ⟨b1, off1 + i * 3 + 1, none⟩) hbl).trans (by simpa [ePort, Nat.add_assoc] using hcell i hip 1 _ (by decide) rfl)
    have c2 : wr.cell? ⟨b1, off1 + i * 3 + 2, none⟩ = some (.bool ps[i].plug) := (hbw.cell (p := ⟨b1, off1 + i * 3 + 2, none⟩) hbl).trans (by simpa [ePort, Nat.add_assoc] using hcell i hip 2 _ (by decide) rfl)
    have CK : Hid (∀ W, Below w1.heap.size w1 W → W.cell? ⟨b1, off1 + i * 3, none⟩ = some (.int .i64 ps[i].kind) ∧ W.cell? ⟨b1, off1 + i * 3 + 1, none⟩ = some (.int .i64 ps[i].size) ∧ W.cell? ⟨b1, off1 + i * 3 + 2, none⟩ = some (.bool ps[i].plug)) := Lib.hid (fun W h => by
      have hW := FIN.out _ h
      have k0 : W.cell? ⟨b1, off1 + i * 3, none⟩ = some (.int .i64 ps[i].kind) := (hW.cell (p := ⟨b1, off1 + i * 3, none⟩) hbl).trans (by simpa [ePort, Nat.add_assoc] using hcell i hip 0 _ (by decide) rfl)
      have k1 : W.cell? ⟨b1, off1 + i * 3 + 1, none⟩ = some (.int .i64 ps[i].size) := (hW.cell (p := ⟨b1, off1 + i * 3 + 1, none⟩) hbl).trans (by simpa [ePort, Nat.add_assoc] using hcell i hip 1 _ (by decide) rfl)
      have k2 : W.cell? ⟨b1, off1 + i * 3 + 2, none⟩ = some (.bool ps[i].plug) := (hW.cell (p := ⟨b1, off1 + i * 3 + 2, none⟩) hbl).trans (by simpa [ePort, Nat.add_assoc] using hcell i hip 2 _ (by decide) rfl)
      exact ⟨k0, k1, k2⟩)
    have HD : Hid (jOut kd qs (ps.drop i) = (jIn ps[i] kd qs).getD (jOut kd qs (ps.drop (i + 1)))) := Lib.hid (jOut_drop hip)
    clear hcell hbw
    have hii : (i : Int) < (ps.length : Int) := by omega
    have hi0 : (0 : Int) ≤ (i : Int) := by omega
    have hiw : IntKind.i64.wrap ((i : Int) + 1) = (i : Int) + 1 := IntWalk.i64_in _ (by omega)
    generalize ps[i] = p at *
    obtain ⟨pk, pz, pl⟩ := p
    simp only at *
    go_wp2
    clear c0 c1 c2 x0 x1
    have B12 : Hid (∀ W, Below wr.heap.size wr W → Below w1.heap.size w1 W) := Lib.hid (fun W h => Below.step HB.out h)
    clear HB
    generalize wr = w2 at *
    go_loopg [8] qs.length (fun gd kk wr => ∃ k : Nat, k ≤ qs.length ∧ gd = qs.length - k ∧ kk = .int .i64 k ∧ Hid (jIn ⟨pk, pz, pl⟩ kd qs = jIn ⟨pk, pz, pl⟩ kd (qs.drop k)) ∧ Hid (Below w2.heap.size w2 wr))
    case atStart => exact ⟨0, Nat.zero_le _, rfl, rfl, Lib.hid rfl, Lib.hid (Below.refl _ _)⟩
    case round =>
      obtain ⟨k, hk, rfl, rfl, HI, HB⟩ := hrel
      have HB1 := Lib.hid (B12.out _ HB.out)
      obtain ⟨x0, x1⟩ := KX.out _ HB1.out
      by_cases hlt : k < qs.length
      rotate_left
      · obtain rfl : k = qs.length := by omega
        go_wp2
        go_roundg (ps.length - (i + 1))
        case measure => omega
        case rel => exact ⟨i + 1, by omega, rfl, by go_num, Lib.hid (by rw [HJ.out, HD.out, HI.out, List.drop_length]; rfl), HB1⟩
      obtain ⟨b2, off2, rfl, hbl2, hcell2⟩ := HC2.out (by omega)
      have hbw : Below w.heap.size w wr := FIN.out _ HB1.out
      have d0 : wr.cell? ⟨b2, off2 + k * 3, none⟩ = some (.int .i64 qs[k].kind) := (hbw.cell (p := ⟨b2, off2 + k * 3, none⟩) hbl2).trans (by simpa [ePort, Nat.add_assoc] using hcell2 k hlt 0 _ (by decide) rfl)
      have d1 : wr.cell? ⟨b2, off2 + k * 3 + 1, none⟩ = some (.int .i64 qs[k].size) := (hbw.cell (p := ⟨b2, off2 + k * 3 + 1, none⟩) hbl2).trans (by simpa [ePort, Nat.add_assoc] using hcell2 k hlt 1 _ (by decide) rfl)
      have d2 : wr.cell? ⟨b2, off2 + k * 3 + 2, none⟩ = some (.bool qs[k].plug) := (hbw.cell (p := ⟨b2, off2 + k * 3 + 2, none⟩) hbl2).trans (by simpa [ePort, Nat.add_assoc] using hcell2 k hlt 2 _ (by decide) rfl)
      have HD2 : Hid (jIn ⟨pk, pz, pl⟩ kd (qs.drop k) = if jHit ⟨pk, pz, pl⟩ qs[k] kd = true then some (jRes ⟨pk, pz, pl⟩ qs[k]) else jIn ⟨pk, pz, pl⟩ kd (qs.drop (k + 1))) := Lib.hid (jIn_drop hlt)
      clear hcell2
      have hki : (k : Int) < (qs.length : Int) := by omega
      have hk0 : (0 : Int) ≤ (k : Int) := by omega
      have hkw : IntKind.i64.wrap ((k : Int) + 1) = (k : Int) + 1 := IntWalk.i64_in _ (by omega)
      generalize qs[k] = q at *
      obtain ⟨qk, qz, ql⟩ := q
      simp only at *
      have KEEP : Hid (∀ W, Below wr.heap.size wr W → (W.cell? ⟨X, 2, none⟩ = some (.slice (some ⟨b1, off1, none⟩) ps.length ca) ∧ W.cell? ⟨X2, 2, none⟩ = some (.slice (some ⟨b2, off2, none⟩) qs.length cb)) ∧ (W.cell? ⟨b1, off1 + i * 3, none⟩ = some (.int .i64 pk) ∧ W.cell? ⟨b1, off1 + i * 3 + 1, none⟩ = some (.int .i64 pz) ∧ W.cell? ⟨b1, off1 + i * 3 + 2, none⟩ = some (.bool pl)) ∧ W.cell? ⟨b2, off2 + k * 3, none⟩ = some (.int .i64 qk) ∧ W.cell? ⟨b2, off2 + k * 3 + 1, none⟩ = some (.int .i64 qz) ∧ W.cell? ⟨b2, off2 + k * 3 + 2, none⟩ = some (.bool ql)) := Lib.hid (fun W h => ⟨KX.out W (Below.step HB1.out h), CK.out W (Below.step HB1.out h), (h.cell (p := ⟨b2, off2 + k * 3, none⟩) (Nat.lt_of_lt_of_le hbl2 hbw.size)).trans d0, (h.cell (p := ⟨b2, off2 + k * 3 + 1, none⟩) (Nat.lt_of_lt_of_le hbl2 hbw.size)).trans d1, (h.cell (p := ⟨b2, off2 + k * 3 + 2, none⟩) (Nat.lt_of_lt_of_le hbl2 hbw.size)).trans d2⟩)
      go_wp2
      clear d0 d1 d2 x0 x1
      have BR : Below wr.heap.size wr wr.drew := (Below.refl _ _).drew
      go_region_held3 (fun W => (W.cell? ⟨X, 2, none⟩ = some (.slice (some ⟨b1, off1, none⟩) ps.length ca) ∧ W.cell? ⟨X2, 2, none⟩ = some (.slice (some ⟨b2, off2, none⟩) qs.length cb)) ∧ (W.cell? ⟨b1, off1 + i * 3, none⟩ = some (.int .i64 pk) ∧ W.cell? ⟨b1, off1 + i * 3 + 1, none⟩ = some (.int .i64 pz) ∧ W.cell? ⟨b1, off1 + i * 3 + 2, none⟩ = some (.bool pl)) ∧ W.cell? ⟨b2, off2 + k * 3, none⟩ = some (.int .i64 qk) ∧ W.cell? ⟨b2, off2 + k * 3 + 1, none⟩ = some (.int .i64 qz) ∧ W.cell? ⟨b2, off2 + k * 3 + 2, none⟩ = some (.bool ql)) (first | exact KEEP.out _ BR | exact KEEP.out _ (BR.alloc BR.size _) | exact KEEP.out _ ((BR.alloc BR.size _).alloc (BR.alloc BR.size _).size _)) (fail)
      · have f := two_box wr #[.int .i64 pk, .int .i64 pz, .bool pl] #[.int .i64 qk, .int .i64 qz, .bool ql] 105
        have y0 := (f.1 0).trans (show _ = some (Value.int .i64 pk) from rfl)
        have y1 := (f.1 1).trans (show _ = some (Value.int .i64 pz) from rfl)
        have y2 := (f.1 2).trans (show _ = some (Value.bool pl) from rfl)
        have t0 := (f.2 0).trans (show _ = some (Value.int .i64 qk) from rfl)
        have t1 := (f.2 1).trans (show _ = some (Value.int .i64 qz) from rfl)
        have t2 := (f.2 2).trans (show _ = some (Value.bool ql) from rfl)
        have hbq : Below wr.heap.size wr ((wr.alloc (.cells #[.int .i64 pk, .int .i64 pz, .bool pl] 105)).alloc (.cells #[.int .i64 qk, .int .i64 qz, .bool ql] 105)).drew := two_below wr _ _ _
        have HBN := Lib.hid (Below.step HB.out hbq)
        have HN := Lib.hid (FIN.out _ (B12.out _ HBN.out))
        clear hbq f BR KEEP
        generalize ((wr.alloc (.cells #[.int .i64 pk, .int .i64 pz, .bool pl] 105)).alloc (.cells #[.int .i64 qk, .int .i64 qz, .bool ql] 105)).drew = wB at *
        generalize wr.heap.size + 1 = N1 at *
        by_cases hK : pk = kd
        rotate_left
        · have gK : (pk == kd) = false := by simp [hK]
          have HKK := Lib.hid hK
          clear hK
          go_wp2
          go_roundg (qs.length - (k + 1))
          case measure => omega
          case rel => exact ⟨k + 1, by omega, rfl, by go_num, Lib.hid (by rw [HI.out, HD2.out]; simp [jHit, HKK.out]), HBN⟩
        have gK : (pk == kd) = true := by simp [hK]
        have HKK := Lib.hid hK
        clear hK
        by_cases hQ : qk = kd
        rotate_left
        · have gQ : (qk == kd) = false := by simp [hQ]
          have HQQ := Lib.hid hQ
          clear hQ
          go_wp2
          go_roundg (qs.length - (k + 1))
          case measure => omega
          case rel => exact ⟨k + 1, by omega, rfl, by go_num, Lib.hid (by rw [HI.out, HD2.out]; simp [jHit, HQQ.out]), HBN⟩
        have gQ : (qk == kd) = true := by simp [hQ]
        have HQQ := Lib.hid hQ
        clear hQ
        by_cases hZ : pz = qz
        · have gZ : (pz == qz) = true := by simp [hZ]
          have HZ := Lib.hid hZ
          clear hZ
          go_wp2
          go_ret
          exact ⟨ret_bool (by rw [HJ.out, HD.out, HI.out, HD2.out]; simp [jHit, jRes, HKK.out, HQQ.out, HZ.out]), HN.out⟩
        · have gZ : (pz == qz) = false := by simp [hZ]
          have HZ := Lib.hid hZ
          clear hZ
          go_wp2
          go_ret
          exact ⟨ret_bool (by rw [HJ.out, HD.out, HI.out, HD2.out]; simp [jHit, jRes, HKK.out, HQQ.out, HZ.out]), HN.out⟩
      · have f := two_box wr #[.int .i64 qk, .int .i64 qz, .bool ql] #[.int .i64 pk, .int .i64 pz, .bool pl] 105
        have y0 := (f.2 0).trans (show _ = some (Value.int .i64 pk) from rfl)
        have y1 := (f.2 1).trans (show _ = some (Value.int .i64 pz) from rfl)
        have y2 := (f.2 2).trans (show _ = some (Value.bool pl) from rfl)
        have t0 := (f.1 0).trans (show _ = some (Value.int .i64 qk) from rfl)
        have t1 := (f.1 1).trans (show _ = some (Value.int .i64 qz) from rfl)
        have t2 := (f.1 2).trans (show _ = some (Value.bool ql) from rfl)
        have hbq : Below wr.heap.size wr ((wr.alloc (.cells #[.int .i64 qk, .int .i64 qz, .bool ql] 105)).alloc (.cells #[.int .i64 pk, .int .i64 pz, .bool pl] 105)).drew := two_below wr _ _ _
        have HBN := Lib.hid (Below.step HB.out hbq)
        have HN := Lib.hid (FIN.out _ (B12.out _ HBN.out))
        clear hbq f BR KEEP
        generalize ((wr.alloc (.cells #[.int .i64 qk, .int .i64 qz, .bool ql] 105)).alloc (.cells #[.int .i64 pk, .int .i64 pz, .bool pl] 105)).drew = wB at *
        generalize wr.heap.size + 1 = N1 at *
        by_cases hK : pk = kd
        rotate_left
        · have gK : (pk == kd) = false := by simp [hK]
          have HKK := Lib.hid hK
          clear hK
          go_wp2
          go_roundg (qs.length - (k + 1))
          case measure => omega
          case rel => exact ⟨k + 1, by omega, rfl, by go_num, Lib.hid (by rw [HI.out, HD2.out]; simp [jHit, HKK.out]), HBN⟩
        have gK : (pk == kd) = true := by simp [hK]
        have HKK := Lib.hid hK
        clear hK
        by_cases hQ : qk = kd
        rotate_left
        · have gQ : (qk == kd) = false := by simp [hQ]
          have HQQ := Lib.hid hQ
          clear hQ
          go_wp2
          go_roundg (qs.length - (k + 1))
          case measure => omega
          case rel => exact ⟨k + 1, by omega, rfl, by go_num, Lib.hid (by rw [HI.out, HD2.out]; simp [jHit, HQQ.out]), HBN⟩
        have gQ : (qk == kd) = true := by simp [hQ]
        have HQQ := Lib.hid hQ
        clear hQ
        by_cases hZ : pz = qz
        · have gZ : (pz == qz) = true := by simp [hZ]
          have HZ := Lib.hid hZ
          clear hZ
          go_wp2
          go_ret
          exact ⟨ret_bool (by rw [HJ.out, HD.out, HI.out, HD2.out]; simp [jHit, jRes, HKK.out, HQQ.out, HZ.out]), HN.out⟩
        · have gZ : (pz == qz) = false := by simp [hZ]
          have HZ := Lib.hid hZ
          clear hZ
          go_wp2
          go_ret
          exact ⟨ret_bool (by rw [HJ.out, HD.out, HI.out, HD2.out]; simp [jHit, jRes, HKK.out, HQQ.out, HZ.out]), HN.out⟩
end Go.Proofs.Ytblaojjpclipaaa
