/- Versions that came in as an argument; what weighing them tells. No statement of the seat is proved here. -/
import Derived.Test.YtklllcehndfcpaaVers
import Derived.Test.YtklllcehndfcpaaOLine
namespace Go.Proofs.Ytklllcehndfcpaa
open Go.RowKit Go.ChangeShapes Go.WideShapes Go.Deep

/-- a version that came in: nothing is known yet of its sheet's length -/
def VRaw (w : World) (s : VC) (x : Ver) : Prop := s.p = x.parent ∧ RowS eLine w s.a s.n s.cap x.lines ∧ ∀ l ∈ x.lines, okLine l
theorem VRaw.below {w w' : World} {s : VC} {x : Ver} (h : VRaw w s x) (hb : Below w.heap.size w w') : VRaw w' s x := by
  obtain ⟨h1, ⟨g1, g2, g3, g4⟩, h3⟩ := h
  refine ⟨h1, ⟨g1, g2, g3, fun hp => ?_⟩, h3⟩
  obtain ⟨b, off, e, hl, hc⟩ := g4 hp
  exact ⟨b, off, e, Nat.lt_of_lt_of_le hl hb.size, fun j u hu => (hb.cell (p := ⟨b, off + j, none⟩) hl).trans (hc j u hu)⟩
def RowV (w : World) (a : Option Addr) (len cap : Nat) (vs : List Ver) : Prop := ∃ ss : List VC, RowS eV w a len cap ss ∧ ss.length = vs.length ∧ ∀ (k : Nat) (s : VC) (x : Ver), ss[k]? = some s → vs[k]? = some x → VRaw w s x
section
variable {w : World} {a : Option Addr} {ln cap : Nat} {vs : List Ver}
theorem RowV.len (h : RowV w a ln cap vs) : vs.length = ln := by
  obtain ⟨ss, h1, h2, _⟩ := h
  rw [← h2]; exact h1.len
theorem RowV.max (h : RowV w a ln cap vs) : ln ≤ 9223372036854775807 := by
  obtain ⟨ss, h1, _⟩ := h
  exact h1.max
theorem RowV.ok (h : RowV w a ln cap vs) : ∀ x ∈ vs, okVer x := by
  obtain ⟨ss, h1, h2, h3⟩ := h
  intro x hx
  obtain ⟨k, hk, rfl⟩ := List.getElem_of_mem hx
  exact (h3 k ss[k] vs[k] (by simp [show k < ss.length by omega]) (by simp [hk])).2.2
theorem totV_len : ∀ vs : List Ver, vs.length ≤ totV vs
  | [] => by simp [totV]
  | x :: vs => by have := totV_len vs; simp only [totV, List.map_cons, List.sum_cons, List.length_cons, weighV] at *; omega
theorem totV_mem : ∀ (vs : List Ver) (x : Ver), x ∈ vs → x.lines.length ≤ totV vs
  | v :: vs, x, h => by
    simp only [totV, List.map_cons, List.sum_cons]
    rcases List.mem_cons.1 h with rfl | h
    · unfold weighV; omega
    · have := totV_mem vs x h; unfold totV at this; omega
theorem RowV.rd (h : RowV w a ln cap vs) (ht : totV vs ≤ 1048576) : RdV w (.slice a ln cap) vs := by
  have hl := h.len
  have htl := totV_len vs
  obtain ⟨ss, h1, h2, h3⟩ := h
  refine ⟨ss, h1.sl (by omega), h2, fun k s x hs hx => ?_⟩
  obtain ⟨q1, q2, _⟩ := h3 k s x hs hx
  have hm := totV_mem vs x (List.mem_of_getElem? hx)
  exact ⟨q1, q2.sl (by have := q2.len; omega)⟩
/-- the shape of versions that came in -/
theorem RowV.shape (h : RowV w a ln cap vs) (hp : 0 < vs.length) : ∃ b off, a = some ⟨b, off, none⟩ ∧ b < w.heap.size ∧ ∀ (k : Nat) (hk : k < vs.length), ∃ s : VC, VRaw w s vs[k] ∧ w.cell? ⟨b, off + k * 2, none⟩ = some (.int .i64 s.p) ∧ w.cell? ⟨b, off + k * 2 + 1, none⟩ = some (.slice s.a s.n s.cap) := by
  have hl := h.len
  obtain ⟨ss, ⟨g1, g2, g3, g4⟩, h2, h3⟩ := h
  obtain ⟨b, off, rfl, hb, h5⟩ := g4 (by omega)
  refine ⟨b, off, rfl, hb, fun k hk => ⟨ss[k], h3 k ss[k] vs[k] (by simp [show k < ss.length by omega]) (by simp [hk]), ?_, ?_⟩⟩
  · have e := eV.at_ ss k (by omega) 0 (by decide)
    have := h5 (k * eV.sz + 0) _ (e.trans rfl)
    simpa [eV] using this
  · have e := eV.at_ ss k (by omega) 1 (by decide)
    have := h5 (k * eV.sz + 1) _ (e.trans rfl)
    simpa [eV, Nat.add_assoc] using this
end
theorem list_choose {α β : Type} {R : α → β → Prop} : ∀ ss : List α, (∀ z ∈ ss, ∃ x, R z x) → ∃ vs : List β, ss.length = vs.length ∧ ∀ (k : Nat) (s : α) (x : β), ss[k]? = some s → vs[k]? = some x → R s x
  | [], _ => ⟨[], rfl, fun k s x e _ => by simp at e⟩
  | z :: ss, h => by
    obtain ⟨vs, h1, h2⟩ := list_choose ss (fun y hy => h y (List.mem_cons_of_mem _ hy))
    obtain ⟨x, hx⟩ := h z (List.mem_cons_self ..)
    refine ⟨x :: vs, by simp [h1], fun k s y e1 e2 => ?_⟩
    match k with
    | 0 => simp at e1 e2; subst e1 e2; exact hx
    | k + 1 => exact h2 k s y (by simpa using e1) (by simpa using e2)

section
variable {H : Type} {enc : TypeId × Value → H} {w : World} {base : Nat} {spare : Nat → Bool} {held : Bool}
set_option maxRecDepth 100000 in
theorem cellsVersion {fuel : Nat} {cs : List Value} {y : DataW H × List MemPlace} (h : DataW.trod enc Try.prog w base spare held fuel 55 cs = some y) : ∃ (s : VC) (x : Ver), cs = eV.f s ∧ VRaw w s x := by
  obtain ⟨ys, n, _, _, hlen, hyl, hf⟩ := DataW.trod_struct Try.underlying55 h
  have hC : Try.prog.cellsOf 55 = 2 := by kernel_rfl
  rw [hC] at hlen
  match cs, hlen with
  | [c0, c1], _ =>
    have g0 := hf 0 _ rfl
    have k0 : Try.prog.cellsOf 2 = 1 := by kernel_rfl
    have y0 : 0 < ys.length := by rw [hyl]; decide
    rw [List.getElem?_eq_getElem y0] at g0
    obtain ⟨a0, e0, _, _⟩ := DataW.trod_int Try.underlying2 g0
    simp [k0] at e0
    subst e0
    have g1 := hf 1 _ rfl
    have k1 : Try.prog.cellsOf 42 = 1 := by kernel_rfl
    have y1 : 1 < ys.length := by rw [hyl]; decide
    rw [List.getElem?_eq_getElem y1] at g1
    have g2 : DataW.trod enc Try.prog w base spare held n 42 [c1] = some ys[1] := by simpa [k1] using g1
    obtain ⟨A, l, c, rfl⟩ : ∃ A l c, c1 = .slice A l c := by
      rcases open_slice Try.underlying42 g2 with ⟨hcs, _⟩ | ⟨x, l, c, m, n, D, Pl, hcs, _⟩
      · simp at hcs; exact ⟨_, _, _, hcs⟩
      · simp at hcs; exact ⟨_, _, _, hcs⟩
    obtain ⟨xs, q1, q2⟩ := openLineS g2
    exact ⟨⟨a0, A, l, c⟩, ⟨a0, xs⟩, rfl, rfl, q1, q2⟩
set_option maxRecDepth 100000 in
theorem openVersionS {fuel : Nat} {a : Option Addr} {len cap : Nat} {y : DataW H × List MemPlace} (h : DataW.trod enc Try.prog w base spare held fuel 22 [.slice a len cap] = some y) :
    ∃ vs : List Ver, RowV w a len cap vs ∧ ∀ x ∈ vs, okVer x := by
  rcases open_slice Try.underlying22 h with ⟨hcs, _⟩ | ⟨x, l, c, m, n, D, Pl, hcs, _, hl, hm, hmm, _, hi⟩
  · simp at hcs
    obtain ⟨rfl, rfl, rfl⟩ := hcs
    exact ⟨[], ⟨[], RowS.nil_ _ _, rfl, fun k s x e _ => by simp at e⟩, by simp⟩
  · simp at hcs
    obtain ⟨rfl, rfl, rfl⟩ := hcs
    have hC : Try.prog.cellsOf 55 = eV.sz := by kernel_rfl
    rw [hC] at hi
    obtain ⟨ss, h1, h2⟩ := RowS.of (E := eV) (P := fun s => ∃ x, VRaw w s x) (w := w) (x := x) (ln := len) (cap := cap) (by decide) hl hm (fun i hlt => by
      obtain ⟨cs, h1, h2⟩ := hi i (by rw [hmm]; split <;> omega)
      obtain ⟨s, z, hz, hk⟩ := cellsVersion h2
      obtain ⟨_, _, h3⟩ := World.cells?_some h1
      refine ⟨s, ⟨z, hk⟩, fun j hj => ?_⟩
      rw [h3 j hj, hz])
    obtain ⟨vs, h3, h4⟩ := list_choose ss h2
    have hr : RowV w (some x) len cap vs := ⟨ss, h1, h3, h4⟩
    exact ⟨vs, hr, hr.ok⟩
end
set_option maxHeartbeats 1000000 in
set_option maxRecDepth 10000 in
theorem szVersion_any (s : VC) (x : Ver) (left : Int) (w : World) (h : VRaw w s x) (h0 : 0 ≤ left) (h1 : left ≤ 1048576) :
    Calls Try.prog 36 #[.agg #[.int .i64 s.p, .slice s.a s.n s.cap], .int .i64 left] w fun e w' => ∃ r : Int, e = .returned (.int .i64 r) ∧ (r = -1 ∨ (0 ≤ r ∧ r + x.lines.length ≤ left)) ∧ Below w.heap.size w w' := by
  have hb0 : Below w.heap.size w (w.alloc (.cells #[.int .i64 s.p, .slice s.a s.n s.cap] 55)) := (Below.refl _ _).alloc (Nat.le_refl _) _
  have hmax := h.2.1.max
  have hlen := h.2.1.len
  by_cases hl : (s.n : Int) ≤ left
  rotate_left
  · have HB := Lib.hid hb0
    clear hb0
    go_enter Try.func36, Try.ntmps36
    go_wp2_with fail
    refine (szLineS_big s.a s.n s.cap left _ (by omega) (by omega) hmax (by omega)).mono ?_
    rintro e w' ⟨rfl, rfl⟩
    go_wp2
    go_ret
    exact ⟨_, rfl, .inl rfl, HB.out⟩
  have HS := Lib.hid ((h.2.1.sl (by omega)).below hb0)
  have HQ := Lib.hid h.2.2
  have HB := Lib.hid hb0
  clear hb0 h
  have hsz : w.heap.size ≤ (w.alloc (.cells #[.int .i64 s.p, .slice s.a s.n s.cap] 55)).heap.size := by simp
  have HSZ := Lib.hid hsz
  clear hsz
  go_enter Try.func36, Try.ntmps36
  go_wp2_with fail
  refine (szLineS_ok _ x.lines left _ (by omega) (by omega) HS.out HQ.out).mono ?_
  rintro e w2 ⟨rfl, hb⟩
  have HB2 := Lib.hid (below_step2 HB.out hb HSZ.out)
  clear hb
  by_cases ht : ((totLine x.lines : Nat) : Int) ≤ left
  · rw [szr_pos ht]
    have hge : x.lines.length ≤ totLine x.lines := by unfold totLine; omega
    generalize totLine x.lines = t at *
    go_wp2
    go_ret
    exact ⟨_, rfl, .inr ⟨by omega, by omega⟩, HB2.out⟩
  · rw [szr_neg ht]
    go_wp2
    go_ret
    exact ⟨_, rfl, .inl rfl, HB2.out⟩
theorem totV_take_succ (vs : List Ver) (k : Nat) (h : k < vs.length) : totV (vs.take (k + 1)) = totV (vs.take k) + weighV vs[k] := sum_take_succ weighV vs k h
set_option maxHeartbeats 1000000 in
set_option maxRecDepth 10000 in
theorem szVersionS_any (A : Option Addr) (n cap : Nat) (vs : List Ver) (left : Int) (w : World) (h : RowV w A n cap vs) (h0 : 0 ≤ left) (h1 : left ≤ 1048576) :
    Calls Try.prog 10 #[.slice A n cap, .int .i64 left] w fun e w' => ∃ r : Int, e = .returned (.int .i64 r) ∧ (r = -1 ∨ (0 ≤ r ∧ r + totV vs ≤ left)) ∧ Below w.heap.size w w' := by
  have hmax := h.max
  have hlen := h.len
  by_cases hbig : left < n
  · clear h
    go_enter Try.func10, Try.ntmps10
    go_wp2
    go_ret
    exact ⟨_, rfl, .inl rfl, Below.refl _ _⟩
  have HSH := Lib.hid h.shape
  clear h
  subst hlen
  go_enter Try.func10, Try.ntmps10
  go_wp2
  go_loopg [5, 1] vs.length (fun gi i q wr => ∃ (k : Nat) (l : Int), k ≤ vs.length ∧ gi = vs.length - k ∧ i = .int .i64 k ∧ q = .int .i64 l ∧ 0 ≤ l ∧ l ≤ left ∧ Hid (l + totV (vs.take k) ≤ left - (vs.length - k)) ∧ Below w.heap.size w wr ∧ w.heap.size ≤ wr.heap.size)
  case atStart => exact ⟨0, _, Nat.zero_le _, rfl, rfl, rfl, by omega, by omega, Lib.hid (by simp [totV]), Below.refl _ _, Nat.le_refl _⟩
  case round =>
    obtain ⟨k, l, hk, rfl, rfl, rfl, l0, l1, HL, hb, hs⟩ := hrel
    by_cases hlt : k < vs.length
    · obtain ⟨b, off, rfl, hbl, hcell⟩ := HSH.out (by omega)
      obtain ⟨s, hraw, hc0, hc1⟩ := hcell k hlt
      have c0 := (hb.cell (p := ⟨b, off + k * 2, none⟩) hbl).trans hc0
      have c1 := (hb.cell (p := ⟨b, off + k * 2 + 1, none⟩) hbl).trans hc1
      have HR := Lib.hid (hraw.below hb)
      have HB := Lib.hid hb
      have HT := Lib.hid (totV_take_succ vs k hlt)
      clear hcell hraw hc0 hc1 hb
      go_wp2_with fail
      refine (szVersion_any s vs[k] l wr HR.out l0 (by omega)).mono ?_
      rintro e w2 ⟨r, rfl, hr, hb2⟩
      have hb3 := below_step2 HB.out hb2 hs
      have hs3 := hb3.size
      clear hb2
      rcases hr with rfl | ⟨r0, r1⟩
      · go_wp2
        go_ret
        exact ⟨_, rfl, .inl rfl, hb3⟩
      · have hr2 : ¬ (r < 0) := by omega
        go_wp2
        go_roundg (vs.length - (k + 1))
        case measure => omega
        case rel => exact ⟨k + 1, r, by omega, rfl, by go_num, rfl, by omega, by omega, Lib.hid (by have h1 := HL.out; have h2 := HT.out; rw [h2]; unfold weighV; omega), hb3, hs3⟩
    · obtain rfl : k = vs.length := by omega
      go_wp2
      go_ret
      refine ⟨l, rfl, .inr ⟨l0, ?_⟩, hb⟩
      have h1 := HL.out
      rw [List.take_of_length_le (Nat.le_refl _)] at h1
      omega
end Go.Proofs.Ytklllcehndfcpaa
