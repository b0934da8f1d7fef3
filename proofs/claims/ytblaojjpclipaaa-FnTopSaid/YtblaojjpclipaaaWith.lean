/- Contracts of the reference's l16In, l17With and l17Joints and of the program's search.broken (chapters 16 to 18). No statement of the seat is proved here. -/
import Derived.Test.YtblaojjpclipaaaBroken
import Derived.Test.YtblaojjpclipaaaAppAll
namespace Go.Proofs.Ytblaojjpclipaaa
open Go.RowKit

def inS (s : Int) (x : Part) : Bool := decide (x.slot = s)
def anyBr (ps : List Part) (b : List ByteArray) (js : List Joint) : Bool := js.any (brokenB ps b)
theorem filter_take_yes {α : Type} {p : α → Bool} {xs : List α} {k : Nat} (hk : k < xs.length) (h : p xs[k] = true) : (xs.take (k + 1)).filter p = (xs.take k).filter p ++ [xs[k]] := by
  rw [List.take_succ_eq_append_getElem hk, List.filter_append]; simp [h]
theorem filter_take_no {α : Type} {p : α → Bool} {xs : List α} {k : Nat} (hk : k < xs.length) (h : p xs[k] = false) : (xs.take (k + 1)).filter p = (xs.take k).filter p := by
  rw [List.take_succ_eq_append_getElem hk, List.filter_append]; simp [h]
theorem stateB_1 {ps : List Part} {b : List ByteArray} {j : Joint} : (stateB ps b j == 1) = brokenB ps b j := by
  unfold stateB
  cases ho : openB b j
  · cases hb : brokenB ps b j <;> simp
  · have : brokenB ps b j = false := by unfold brokenB; rw [ho]; rfl
    rw [this]; simp
/-- the indices of all parts of a slot -/
def Ix (ps : List Part) (is : List Int) (qs : List Part) : Prop := is.map (fun i => ps.getD i.toNat zPart) = qs ∧ ∀ i ∈ is, 0 ≤ i ∧ i < ps.length
set_option maxHeartbeats 4000000 in
set_option maxRecDepth 20000 in
theorem l16In_any (v : Value) (ps : List Part) (s : Int) (w : World) (hv : RdP w v ps) (h16 : ps.length ≤ 16) :
    Calls Try.prog 86 #[v, .int .i64 s] w fun e w' => ∃ u is, e = .returned u ∧ Own eI w' w.heap.size 2 u is ∧ Ix ps is (ps.filter (inS s)) ∧ is.length ≤ 16 ∧ Below w.heap.size w w' := by
  have HV := Lib.hid hv
  obtain ⟨A, cap, rfl, _, hm, hc⟩ := hv.shape
  have B0 : Hid (Below w.heap.size w (w.alloc (.cells #[] 2))) := Lib.hid ((Below.refl _ _).alloc (Nat.le_refl _) _)
  have O0 : Hid (Own eI (w.alloc (.cells #[] 2)) w.heap.size 2 (.slice (some ⟨w.heap.size, 0, none⟩) 0 0) []) := Lib.hid (Own.empty eI w _ _ (Nat.le_refl _))
  have I0 : Hid (Ix ps [] ((ps.take 0).filter (inS s))) := Lib.hid ⟨rfl, fun _ h => absurd h (by simp)⟩
  clear hv
  go_enter Try.func86, Try.ntmps86
  go_wp2
  go_loopg [5, 6] ps.length (fun gi u i wr => ∃ (k : Nat) (is : List Int), k ≤ ps.length ∧ gi = ps.length - k ∧ i = .int .i64 k ∧ is.length ≤ k ∧ Hid (Own eI wr w.heap.size 2 u is) ∧ Hid (Ix ps is ((ps.take k).filter (inS s))) ∧ Hid (Below w.heap.size w wr))
  case atStart => exact ⟨0, [], Nat.zero_le _, rfl, rfl, Nat.le_refl _, O0, I0, B0⟩
  case round =>
    obtain ⟨k, is, hk, rfl, rfl, hl, HO, HI, HB⟩ := hrel
    clear O0 I0 B0
    by_cases hlt : k < ps.length
    rotate_left
    · obtain rfl : k = ps.length := by omega
      have HI2 : Hid (Ix ps is (ps.filter (inS s))) := Lib.hid (by have := HI.out; rwa [List.take_of_length_le (Nat.le_refl _)] at this)
      go_wp2
      go_ret
      exact ⟨_, _, rfl, HO.out, HI2.out, by omega, HB.out⟩
    obtain ⟨b, off, rfl, hbl, _⟩ := hc (by omega)
    obtain ⟨a, c, hat⟩ := HV.out.at_ k hlt
    obtain ⟨c0, c1, c2, c3, c4, _⟩ := hat wr HB.out
    have hkI : (k : Int) < (ps.length : Int) := by omega
    have hk0 : (0 : Int) ≤ (k : Int) := by omega
    have hkw : IntKind.i64.wrap ((k : Int) + 1) = (k : Int) + 1 := IntWalk.i64_in _ (by omega)
    have hsz := HB.out.size
    have hl9 : is.length ≤ 1000000000 := by omega
    have HGD : Hid (ps.getD k zPart = ps[k]) := Lib.hid (getD_at _ _ k hlt)
    clear hat
    by_cases hs : ps[k].slot = s
    · have HN : Hid ((ps.take (k + 1)).filter (inS s) = (ps.take k).filter (inS s) ++ [ps[k]]) := Lib.hid (filter_take_yes hlt (by unfold inS; exact decide_eq_true hs))
      have gs : (ps[k].slot == s) = true := by simp [hs]
      have HS := Lib.hid hs
      clear hs
      generalize ps[k] = x at *
      go_wp2_with (at_builtin; refine wpList_app eI rfl _ _ 24 (by rfl) 2 (.int .i64 0) 8 Try.underlying24 info_i64 rfl (by decide) (by decide) w.heap.size _ is (by rfl) (by exact HO.out) (by exact hl9) (by exact hsz) (k : Int) _ (by rfl) _ (by rfl) (by first | rfl | simp) ?_)
      intro v6 w6 hO6 hB6 _ _ _
      have O6 := Lib.hid hO6
      have B6 := Lib.hid (HB.out.trans hB6)
      clear hO6 hB6 HO HB
      go_wp2
      go_roundg (ps.length - (k + 1))
      case measure => omega
      case rel =>
        refine ⟨k + 1, is ++ [(k : Int)], by omega, rfl, by go_num, by rw [List.length_append, List.length_singleton]; omega, O6, Lib.hid ?_, B6⟩
        obtain ⟨i1, i2⟩ := HI.out
        refine ⟨by rw [HN.out, List.map_append, i1]; simp only [List.map_cons, List.map_nil, Int.toNat_natCast]; rw [HGD.out], fun i hi => ?_⟩
        rcases List.mem_append.1 hi with h | h
        · exact i2 i h
        · rw [List.mem_singleton.1 h]; omega
    · have HN : Hid ((ps.take (k + 1)).filter (inS s) = (ps.take k).filter (inS s)) := Lib.hid (filter_take_no hlt (by unfold inS; exact decide_eq_false hs))
      have gs : (ps[k].slot == s) = false := by simp [hs]
      have HS := Lib.hid hs
      clear hs
      generalize ps[k] = x at *
      go_wp2
      go_roundg (ps.length - (k + 1))
      case measure => omega
      case rel => exact ⟨k + 1, is, by omega, rfl, by go_num, by omega, HO, by rw [HN.out]; exact HI, HB⟩
theorem Own.cell1 {α : Type} {E : Enc α} {w : World} {base g n cap : Nat} {t : TypeId} {xs : List α} {f : α → Value} (hE : E.sz = 1) (h : Own E w base t (.slice (some ⟨g, 0, none⟩) n cap) xs) (k : Nat) (hk : k < xs.length) (hf : E.f xs[k] = [f xs[k]]) : w.cell? ⟨g, k, none⟩ = some (f xs[k]) ∧ w.frozen? ⟨g, k, none⟩ = false := by
  obtain rfl := h.row
  have h0 := h.cellsAt k hk 0 (by omega)
  rw [hE, hf, Nat.mul_one, Nat.add_zero] at h0
  exact ⟨h0, World.ownsRow.frozenAt h k⟩
set_option maxHeartbeats 4000000 in
set_option maxRecDepth 20000 in
theorem l17With_any (v : Value) (b : List ByteArray) (s : Int) (c : ByteArray) (w : World) (hv : Sl eS w v b) (h8 : b.length = 8) (h0 : 0 ≤ s) (h7 : s ≤ 7) :
    Calls Try.prog 87 #[v, .int .i64 s, .string c] w fun e w' => ∃ u, e = .returned u ∧ Own eS w' w.heap.size 9 u (b.set s.toNat c) ∧ Below w.heap.size w w' := by
  have HO : Hid (Own eS (w.alloc (.cells #[] 9)) w.heap.size 9 (.slice (some ⟨w.heap.size, 0, none⟩) 0 0) []) := Lib.hid (Own.empty eS w _ _ (Nat.le_refl _))
  have HV : Hid (Sl eS (w.alloc (.cells #[] 9)) v b) := Lib.hid (hv.alloc _)
  have HB : Hid (Below w.heap.size w (w.alloc (.cells #[] 9))) := Lib.hid ((Below.refl _ _).alloc (Nat.le_refl _) _)
  obtain ⟨k, rfl⟩ : ∃ k : Nat, s = k := ⟨s.toNat, by omega⟩
  have hk8 : k < b.length := by omega
  have hkI : (k : Int) < 8 := by omega
  clear hv h7
  go_enter Try.func87, Try.ntmps87
  go_wp2_with (at_builtin; refine wpList_app_all eS rfl _ _ 33 (by rfl) 9 (.string ⟨#[]⟩) 16 Try.underlying33 info_str rfl (by decide) (by decide) w.heap.size _ [] (by rfl) (by exact HO.out) _ b (by rfl) (by exact HV.out) (by simp only [List.length_nil]; omega) (by simp) ?_)
  intro v2 w2 hO hB _ _
  replace hO : Own eS w2 w.heap.size 9 v2 b := hO
  obtain ⟨g, cap, rfl, hg, hgl⟩ := World.ownsRow.form hO (by omega)
  rw [h8] at hO ⊢
  obtain ⟨c0, f0⟩ := hO.cell1 (f := Value.string) rfl k hk8 rfl
  obtain ⟨q1, q2⟩ := hO.store1 k hk8 0 (by decide) (.string c) c rfl
  rw [show k * eS.sz + 0 = k from by show k * 1 + 0 = k; omega] at q1 q2
  have Q1 := Lib.hid q1
  have B2 := Lib.hid ((HB.out.trans hB).setCell (p := ⟨g, k, none⟩) hg (.string c))
  clear hO hB q1 q2
  go_wp2
  go_ret
  exact ⟨_, rfl, by rw [Int.toNat_natCast]; exact Q1.out, B2.out⟩
set_option maxHeartbeats 4000000 in
set_option maxRecDepth 20000 in
theorem l17Joints_any (pv jv v : Value) (ps : List Part) (js : List Joint) (b : List ByteArray) (w : World) (hp : RdP w pv ps) (hj : Sl eJoint w jv js) (hv : Sl eS w v b) (hf : Fit ps b) (hjs : ∀ j ∈ js, okJ j) (h12 : js.length ≤ 12) (hne : ∀ x ∈ ps, emp x.code = false) :
    Calls Try.prog 88 #[pv, jv, v, .int .i64 1] w fun e w' => ∃ A n cap, e = .returned (.slice A n cap) ∧ decide (0 < n) = anyBr ps b js ∧ Below w.heap.size w w' := by
  have HP := Lib.hid hp
  have HV := Lib.hid hv
  have HF := Lib.hid hf
  have HJS := Lib.hid hjs
  have HNE := Lib.hid hne
  obtain ⟨A, cap, rfl, _, hm, hc⟩ := hj.shape
  have B0 : Hid (Below w.heap.size w (w.alloc (.cells #[] 2))) := Lib.hid ((Below.refl _ _).alloc (Nat.le_refl _) _)
  have O0 : Hid (Own eI (w.alloc (.cells #[] 2)) w.heap.size 2 (.slice (some ⟨w.heap.size, 0, none⟩) 0 0) []) := Lib.hid (Own.empty eI w _ _ (Nat.le_refl _))
  clear hp hj hv hf hjs hne
  go_enter Try.func88, Try.ntmps88
  go_wp2
  go_loopg [9, 10] js.length (fun gi u i wr => ∃ (k : Nat) (is : List Int), k ≤ js.length ∧ gi = js.length - k ∧ i = .int .i64 k ∧ is.length ≤ k ∧ Hid (Own eI wr w.heap.size 2 u is) ∧ Hid (decide (0 < is.length) = (js.take k).any (brokenB ps b)) ∧ Hid (Below w.heap.size w wr))
  case atStart => exact ⟨0, [], Nat.zero_le _, rfl, rfl, Nat.le_refl _, O0, Lib.hid rfl, B0⟩
  case round =>
    obtain ⟨k, is, hk, rfl, rfl, hl, HO, HI, HB⟩ := hrel
    clear O0 B0
    by_cases hlt : k < js.length
    rotate_left
    · obtain rfl : k = js.length := by omega
      have HI2 : Hid (decide (0 < is.length) = anyBr ps b js) := Lib.hid (by have := HI.out; rwa [List.take_of_length_le (Nat.le_refl _)] at this)
      obtain ⟨A', cap', e', _, _, _⟩ := Sl.shape (Sl.of_own HO.out (by unfold big40; omega))
      subst e'
      go_wp2
      go_ret
      exact ⟨A', is.length, cap', rfl, HI2.out, HB.out⟩
    obtain ⟨gj, off, rfl, hbl, hcell⟩ := hc (by omega)
    have hb := HB.out
    have c0 : wr.cell? ⟨gj, off + k * 3, none⟩ = some (.int .i64 js[k].a) := (hb.cell (p := ⟨gj, off + k * 3, none⟩) hbl).trans (by simpa [eJoint, Nat.add_assoc] using hcell k hlt 0 _ (by decide) rfl)
    have c1 : wr.cell? ⟨gj, off + k * 3 + 1, none⟩ = some (.int .i64 js[k].b) := (hb.cell (p := ⟨gj, off + k * 3 + 1, none⟩) hbl).trans (by simpa [eJoint, Nat.add_assoc] using hcell k hlt 1 _ (by decide) rfl)
    have c2 : wr.cell? ⟨gj, off + k * 3 + 2, none⟩ = some (.int .i64 js[k].kind) := (hb.cell (p := ⟨gj, off + k * 3 + 2, none⟩) hbl).trans (by simpa [eJoint, Nat.add_assoc] using hcell k hlt 2 _ (by decide) rfl)
    have hok := HJS.out js[k] (List.getElem_mem hlt)
    have HST := Lib.hid (fun (W : World) (h : Below w.heap.size w W) => l17State_any _ _ ps b js[k] W (HP.out.below h) (HV.out.below h) HF.out hok HNE.out)
    have HNY : Hid (brokenB ps b js[k] = true → (js.take (k + 1)).any (brokenB ps b) = true) := Lib.hid (fun h => any_take_yes hlt h)
    have HNN : Hid (brokenB ps b js[k] = false → (js.take (k + 1)).any (brokenB ps b) = (js.take k).any (brokenB ps b)) := Lib.hid (fun h => any_take_no hlt h)
    have hkI : (k : Int) < (js.length : Int) := by omega
    have hk0 : (0 : Int) ≤ (k : Int) := by omega
    have hkw : IntKind.i64.wrap ((k : Int) + 1) = (k : Int) + 1 := IntWalk.i64_in _ (by omega)
    have hl9 : is.length ≤ 1000000000 := by omega
    clear hcell hok hb
    generalize js[k] = j at *
    obtain ⟨ja, jb, kd⟩ := j
    simp only at *
    have hst := stateB_1 (ps := ps) (b := b) (j := ⟨ja, jb, kd⟩)
    rcases hbr : brokenB ps b ⟨ja, jb, kd⟩
    · rw [hbr] at hst
      have HNX := HNN.out hbr
      have HBR := Lib.hid hbr
      have HNQ := Lib.hid HNX
      clear hbr HNX HNY HNN
      generalize stateB ps b ⟨ja, jb, kd⟩ = st at *
      go_wp2_with fail
      refine (HST.out _ HB.out).mono ?_
      rintro e w3 ⟨rfl, hb3⟩
      have B3 := Lib.hid (Below.step HB.out hb3)
      have O3 := Lib.hid (HO.out.below hb3)
      clear hb3 c0 c1 c2 HB HO HST
      go_wp2
      go_roundg (js.length - (k + 1))
      case measure => omega
      case rel => exact ⟨k + 1, is, by omega, rfl, by go_num, by omega, O3, by rw [HNQ.out]; exact HI, B3⟩
    · rw [hbr] at hst
      have HNX := HNY.out hbr
      have HBR := Lib.hid hbr
      have HNQ := Lib.hid HNX
      clear hbr HNX HNY HNN
      generalize stateB ps b ⟨ja, jb, kd⟩ = st at *
      go_wp2_with fail
      refine (HST.out _ HB.out).mono ?_
      rintro e w3 ⟨rfl, hb3⟩
      have B3 := Lib.hid (Below.step HB.out hb3)
      have O3 := Lib.hid (HO.out.below hb3)
      have hsz := B3.out.size
      clear hb3 c0 c1 c2 HB HO HST
      go_wp2_with (at_builtin; refine wpList_app eI rfl _ _ 24 (by rfl) 2 (.int .i64 0) 8 Try.underlying24 info_i64 rfl (by decide) (by decide) w.heap.size _ is (by rfl) (by exact O3.out) (by exact hl9) (by exact hsz) (k : Int) _ (by rfl) _ (by rfl) (by first | rfl | simp) ?_)
      intro v6 w6 hO6 hB6 _ _ _
      have O6 := Lib.hid hO6
      have B6 := Lib.hid (B3.out.trans hB6)
      clear hO6 hB6 O3 B3
      go_wp2
      go_roundg (js.length - (k + 1))
      case measure => omega
      case rel => exact ⟨k + 1, is ++ [(k : Int)], by omega, rfl, by go_num, by rw [List.length_append, List.length_singleton]; omega, O6, Lib.hid (by rw [HNQ.out, List.length_append, List.length_singleton]; exact decide_eq_true (by omega)), B6⟩
end Go.Proofs.Ytblaojjpclipaaa
