/- Texts, marks and parts in memory. No statement of the seat is proved here. -/
import Derived.Test.YtblaojjpclipaaaM1
import Derived.Test.YtblaojjpclipaaaM0
import Derived.Laws.IdiomStrings
import Derived.Deep.DrawnRows
namespace Go.Proofs.Ytblaojjpclipaaa
open Go.RowKit

def dig (n : Nat) : ByteArray := ⟨#[UInt8.ofNat (48 + n % 10)]⟩
/-- the digits of a number ahead of a text; nothing for 0 -/
def dg (n : Nat) (acc : ByteArray) : ByteArray := if h : n = 0 then acc else dg (n / 10) (dig n ++ acc)
termination_by n
decreasing_by omega
theorem dg_zero (acc : ByteArray) : dg 0 acc = acc := by rw [dg]; simp
theorem dg_pos {n : Nat} (h : 0 < n) (acc : ByteArray) : dg n acc = dg (n / 10) (dig n ++ acc) := by rw [dg, dif_neg (by omega)]
theorem dig_size (n : Nat) : (dig n).size = 1 := rfl
theorem dig_conv_at (W : World) (g : Nat) (n : Nat) (hc : W.cell? ⟨g, 0, none⟩ = some (.int .u8 (48 + (n : Int) % 10))) :
    (convert 22 9 (.slice (some ⟨g, 0, none⟩) 1 1)).run Try.prog W = .ok (.string (dig n)) W := by
  refine run_convert_bytes_back _ _ _ 5 _ 1 [UInt8.ofNat (48 + n % 10)] Try.underlying22 Try.underlying5 Try.underlying9 (fun j hj => ?_)
  have : j = 0 := by simp at hj; omega
  subst this
  rw [add_none rfl, hc]
  simp
  omega
theorem dig_after {w w' : World} {n : Nat} {g : Nat} (hb : Below (w.alloc (.cells #[.int .u8 (48 + (n : Int) % 10)] 5)).heap.size (w.alloc (.cells #[.int .u8 (48 + (n : Int) % 10)] 5)) w') (hg : w.heap.size = g) :
    (convert 22 9 (.slice (some ⟨g, 0, none⟩) 1 1)).run Try.prog w' = .ok (.string (dig n)) w' := by
  subst hg
  exact dig_conv_at w' _ n (((box1 hb).1 0).trans rfl)
theorem dig_conv (w : World) (g : Nat) (hg : g = w.heap.size) (n : Nat) (t : Int) (ht : t = 48 + (n : Int) % 10) :
    (convert 22 9 (.slice (some ⟨g, 0, none⟩) 1 1)).run Try.prog (w.alloc (.cells #[.int .u8 t] 5)) = .ok (.string (dig n)) (w.alloc (.cells #[.int .u8 t] 5)) := by
  subst hg ht
  refine run_convert_bytes_back _ _ _ 5 _ 1 [UInt8.ofNat (48 + n % 10)] Try.underlying22 Try.underlying5 Try.underlying9 (fun j hj => ?_)
  have : j = 0 := by simp at hj; omega
  subst this
  rw [add_none rfl, World.cell?_alloc_new]
  simp
  omega
def dgw (n : Nat) (acc : ByteArray) : ByteArray := if n = 0 then dig 0 ++ acc else dg n acc
def dec (n : Nat) : ByteArray := dgw n ⟨#[]⟩
theorem dgw_last {n : Nat} (h : n / 10 = 0) (acc : ByteArray) : dgw n acc = dig n ++ acc := by
  unfold dgw
  split
  · rename_i h0; subst h0; rfl
  · rw [dg_pos (by omega), h, dg_zero]
theorem dgw_more {n : Nat} (h : n / 10 ≠ 0) (acc : ByteArray) : dgw n acc = dgw (n / 10) (dig n ++ acc) := by
  unfold dgw
  rw [if_neg (by omega), if_neg h, dg_pos (by omega)]
theorem dg_app (b : ByteArray) : ∀ (n : Nat) (a : ByteArray), dg n (a ++ b) = dg n a ++ b := by
  intro n
  induction n using Nat.strongRecOn with
  | _ n ih =>
    intro a
    by_cases h : n = 0
    · subst h; rw [dg_zero, dg_zero]
    · rw [dg_pos (by omega) (a ++ b), dg_pos (by omega) a, ← ByteArray.append_assoc, ih _ (by omega)]
theorem dec_small {n : Nat} (h : n < 10) : dec n = dig n := by
  unfold dec
  rw [dgw_last (by omega)]
  exact ByteArray.append_empty
theorem dec_big {n : Nat} (h : 10 ≤ n) : dec n = dec (n / 10) ++ dig n := by
  unfold dec
  rw [dgw_more (by omega)]
  unfold dgw
  rw [if_neg (by omega), if_neg (by omega)]
  have e : dig n ++ ⟨#[]⟩ = ⟨#[]⟩ ++ dig n := by
    rw [show (⟨#[]⟩ : ByteArray) = ByteArray.empty from rfl, ByteArray.append_empty, ByteArray.empty_append]
  rw [e, dg_app]
theorem dec_size : ∀ n, (dec n).size ≤ n + 1 := by
  intro n
  induction n using Nat.strongRecOn with
  | _ n ih =>
    by_cases h : n < 10
    · rw [dec_small h, dig_size]; omega
    · rw [dec_big (by omega), ByteArray.size_append, dig_size]
      have := ih (n / 10) (by omega)
      omega
end Go.Proofs.Ytblaojjpclipaaa
namespace Go.Proofs.Ytblaojjpclipaaa
open Go.RowKit

theorem grown_below {w wr w2 : World} {row : Option Nat} (hg : w.grownBy wr row) (hb : Below wr.heap.size wr w2) : w.grownBy w2 row :=
  ⟨hb.os.trans hg.os, hb.tape.trans hg.tape, hb.output.trans hg.output, Nat.le_trans hg.size hb.size, fun i hi hne => (hb.block i (Nat.lt_of_lt_of_le hi hg.size)).trans (hg.block i hi hne)⟩
theorem grown_step {w wr w2 : World} {row : Option Nat} (h1 : w.grownBy wr row) (h2 : wr.grownBy w2 row) : w.grownBy w2 row :=
  ⟨h2.os.trans h1.os, h2.tape.trans h1.tape, h2.output.trans h1.output, Nat.le_trans h1.size h2.size, fun i hi hne => (h2.block i (Nat.lt_of_lt_of_le hi h1.size) hne).trans (h1.block i hi hne)⟩
section
variable {α : Type} (f : Nat → α) (xs : List α)
/-- the first k marked -/
def mkd (k : Nat) : List α := (List.range k).map f ++ xs.drop k
theorem mkd_len (k : Nat) (h : k ≤ xs.length) : (mkd f xs k).length = xs.length := by simp [mkd]; omega
theorem mkd_zero : mkd f xs 0 = xs := by simp [mkd]
theorem mkd_succ (k : Nat) (h : k < xs.length) : (mkd f xs k).set k (f k) = mkd f xs (k + 1) := by
  unfold mkd
  rw [List.set_append_right _ _ (by simp), List.range_succ, List.map_append, List.append_assoc]
  congr 1
  rw [List.drop_eq_getElem_cons h]
  simp only [List.length_map, List.length_range, Nat.sub_self, List.set_cons_zero]
  rfl
theorem mkd_all : mkd f xs xs.length = (List.range xs.length).map f := by simp [mkd]
end
theorem mkA_len {α : Type} (f : Nat → α) (n : Nat) : ((List.range n).map f).length = n := by simp
theorem mkA_at {α : Type} (f : Nat → α) (n k : Nat) (h : k < ((List.range n).map f).length) : ((List.range n).map f)[k] = f k := by simp
def markT (n : Nat) : ByteArray := ⟨#[109]⟩ ++ dg n ByteArray.empty
end Go.Proofs.Ytblaojjpclipaaa
namespace Go.Proofs.Ytblaojjpclipaaa
open Go.RowKit

def eS : Enc ByteArray := ⟨fun x => [.string x], 1, fun _ => rfl, fun x u hu => by simp at hu; subst hu; rfl⟩
theorem eS_all (xs : List ByteArray) : eS.all xs = xs.map Value.string := by
  induction xs with
  | nil => rfl
  | cons x xs ih => simp only [Enc.all, eS, List.flatMap_cons, List.map_cons] at *; rw [ih]; rfl
theorem info_str : (Try.prog.info? 9).map (fun i => (i.zero, i.size, i.bytes)) = some (some (.string ⟨#[]⟩), 1, 16) := by kernel_rfl
theorem Strs.shape {w : World} {v : Value} {xs : List ByteArray} (h : Sl eS w v xs) : ∃ A cap, v = .slice A xs.length cap ∧ xs.length ≤ cap ∧ xs.length ≤ 1099511627776 ∧
    (0 < xs.length → ∃ b off, A = some ⟨b, off, none⟩ ∧ b < w.heap.size ∧ ∀ (k : Nat) (hk : k < xs.length), w.cell? ⟨b, off + k, none⟩ = some (.string xs[k])) := by
  obtain ⟨A, cap, rfl, hc, hl, h3⟩ := Sl.shape h
  refine ⟨A, cap, rfl, hc, hl, fun hn => ?_⟩
  obtain ⟨b, off, e, hb, hx⟩ := h3 hn
  exact ⟨b, off, e, hb, fun k hk => by simpa [eS] using hx k hk 0 _ (by decide) rfl⟩
def mfS (m : Int) (i : Nat) : ByteArray := markT (m.toNat + i)
def mkStringS (xs : List ByteArray) (m : Int) : List ByteArray := (List.range xs.length).map (mfS m)
def cntStringS (xs : List ByteArray) : Nat := xs.length
theorem mkStringS_len (xs : List ByteArray) (m : Int) : (mkStringS xs m).length = xs.length := mkA_len _ _
theorem cntStringS_le (xs : List ByteArray) (h : xs.length ≤ 1048576) : cntStringS xs ≤ 10000000 := by unfold cntStringS; omega
theorem mfS_eq {m : Int} {k r : Nat} (h : (r : Int) = m + k) (h1 : 1 ≤ m) : mfS m k = markT r := by
  unfold mfS
  have e : m.toNat + k = r := by omega
  rw [e]
end Go.Proofs.Ytblaojjpclipaaa
namespace Go.Proofs.Ytblaojjpclipaaa
open Go.RowKit

structure Part where
  code : ByteArray
  slot : Int
  ports : List Port
  price : Int
  grams : Int
/-- the cells of a part: the ports as address, length and capacity -/
structure PC where
  code : ByteArray
  slot : Int
  a : Option Addr
  n : Nat
  cap : Nat
  price : Int
  grams : Int
def PC.sl (s : PC) : Value := .slice s.a s.n s.cap
def eP : Enc PC := ⟨fun s => [.string s.code, .int .i64 s.slot, .slice s.a s.n s.cap, .int .i64 s.price, .int .i64 s.grams], 5, fun _ => rfl, fun x u hu => by simp at hu; rcases hu with rfl | rfl | rfl | rfl | rfl <;> rfl⟩
def zPart : Part := ⟨ByteArray.empty, 0, [], 0, 0⟩
theorem info_Part : (Try.prog.info? 52).map (fun i => (i.zero, i.size, i.bytes)) = some (some (.agg #[.string ⟨#[]⟩, .int .i64 0, .slice none 0 0, .int .i64 0, .int .i64 0]), 5, 64) := by kernel_rfl
def PAt (w : World) (s : PC) (x : Part) : Prop := s.code = x.code ∧ s.slot = x.slot ∧ s.price = x.price ∧ s.grams = x.grams ∧ Sl ePort w s.sl x.ports
theorem PAt.below {w w' : World} {s : PC} {x : Part} (h : PAt w s x) (hb : Below w.heap.size w w') : PAt w' s x := ⟨h.1, h.2.1, h.2.2.1, h.2.2.2.1, h.2.2.2.2.below hb⟩
/-- parts that can be read -/
def RdP (w : World) (v : Value) (ps : List Part) : Prop := ∃ ss : List PC, Sl eP w v ss ∧ ss.length = ps.length ∧ ∀ (k : Nat) (s : PC) (x : Part), ss[k]? = some s → ps[k]? = some x → PAt w s x
section
variable {w w' : World} {v : Value} {ps : List Part}
theorem RdP.below (h : RdP w v ps) (hb : Below w.heap.size w w') : RdP w' v ps := by
  obtain ⟨ss, h1, h2, h3⟩ := h
  exact ⟨ss, h1.below hb, h2, fun k s x hs hx => (h3 k s x hs hx).below hb⟩
theorem RdP.drewN (h : RdP w v ps) (n : Nat) : RdP (w.drewN n) v ps := h
/-- the shape of parts that can be read -/
theorem RdP.shape (h : RdP w v ps) : ∃ A cap, v = .slice A ps.length cap ∧ ps.length ≤ cap ∧ ps.length ≤ 1099511627776 ∧
    (0 < ps.length → ∃ b off, A = some ⟨b, off, none⟩ ∧ b < w.heap.size ∧ ∀ (k : Nat) (hk : k < ps.length), ∃ a c, w.cell? ⟨b, off + k * 5, none⟩ = some (.string ps[k].code) ∧ w.cell? ⟨b, off + k * 5 + 1, none⟩ = some (.int .i64 ps[k].slot) ∧ w.cell? ⟨b, off + k * 5 + 2, none⟩ = some (.slice a ps[k].ports.length c) ∧ w.cell? ⟨b, off + k * 5 + 3, none⟩ = some (.int .i64 ps[k].price) ∧ w.cell? ⟨b, off + k * 5 + 4, none⟩ = some (.int .i64 ps[k].grams) ∧ Sl ePort w (.slice a ps[k].ports.length c) ps[k].ports) := by
  obtain ⟨ss, h1, h2, h3⟩ := h
  obtain ⟨A, cap, rfl, hc, hm, h4⟩ := h1.shape
  refine ⟨A, cap, by rw [h2], by omega, by omega, fun hp => ?_⟩
  obtain ⟨b, off, rfl, hb, h5⟩ := h4 (by omega)
  refine ⟨b, off, rfl, hb, fun k hk => ?_⟩
  have hks : k < ss.length := by omega
  obtain ⟨q0, q1, q2, q3, q4⟩ := h3 k ss[k] ps[k] (by simp [hks]) (by simp [hk])
  have hn : ss[k].n = ps[k].ports.length := by
    obtain ⟨A', cap', e, _⟩ := q4.shape
    unfold PC.sl at e
    injection e
  have c0 := h5 k hks 0 _ (by decide) (by rfl)
  have c1 := h5 k hks 1 _ (by decide) (by rfl)
  have c2 := h5 k hks 2 _ (by decide) (by rfl)
  have c3 := h5 k hks 3 _ (by decide) (by rfl)
  have c4 := h5 k hks 4 _ (by decide) (by rfl)
  refine ⟨ss[k].a, ss[k].cap, ?_, ?_, ?_, ?_, ?_, ?_⟩
  · rw [← q0]; simpa [eP] using c0
  · rw [← q1]; simpa [eP, Nat.add_assoc] using c1
  · rw [← hn]; simpa [eP, Nat.add_assoc] using c2
  · rw [← q2]; simpa [eP, Nat.add_assoc] using c3
  · rw [← q3]; simpa [eP, Nat.add_assoc] using c4
  · rw [← hn]; exact q4
end
def portB (p : Port) : Bool := inR p.kind 0 9 && inR p.size 0 10000
def portOk (ps : List Port) (i : Nat) : Bool := portB (ps.getD i zPort) && (i == 0 || decide ((ps.getD (i - 1) zPort).kind < (ps.getD i zPort).kind))
def isPartB (x : Part) : Bool := (isWord x.code && inR x.slot 0 7 && decide (x.ports.length ≤ 6) && inR x.price 0 10000000 && inR x.grams 0 100000) && (List.range x.ports.length).all (portOk x.ports)
theorem isPort_any (p : Port) (w : World) : Calls Try.prog 77 #[.agg #[.int .i64 p.kind, .int .i64 p.size, .bool p.plug]] w fun e w' => e = .returned (.bool (portB p)) ∧ Below w.heap.size w w' := by
  obtain ⟨k, s, pl⟩ := p
  have HB := Lib.hid ((Below.refl w.heap.size w).alloc (Nat.le_refl _) (.cells #[.int .i64 k, .int .i64 s, .bool pl] 105))
  rcases h1 : inR k 0 9
  · have H1 := Lib.hid h1
    clear h1
    go_enter Try.func77, Try.ntmps77
    go_wp2_with fail
    refine (within_eq H1.out _).mono ?_
    rintro e w' ⟨rfl, rfl⟩
    go_wp2
    go_ret
    exact ⟨ret_bool (by unfold portB; simp only []; rw [H1.out]; rfl), HB.out⟩
  · have H1 := Lib.hid h1
    clear h1
    go_enter Try.func77, Try.ntmps77
    go_wp2_with fail
    refine (within_eq H1.out _).mono ?_
    rintro e w' ⟨rfl, rfl⟩
    go_wp2_with fail
    refine (within_any _ _ _ _).mono ?_
    rintro e w' ⟨rfl, rfl⟩
    go_wp2
    go_ret
    exact ⟨ret_bool (by unfold portB; simp only []; rw [H1.out]; rfl), HB.out⟩
theorem l16Port_any (p : Port) (w : World) : Calls Try.prog 94 #[.agg #[.int .i64 p.kind, .int .i64 p.size, .bool p.plug]] w fun e w' => e = .returned (.bool (portB p)) ∧ Below w.heap.size w w' := by
  obtain ⟨k, s, pl⟩ := p
  have HB := Lib.hid ((Below.refl w.heap.size w).alloc (Nat.le_refl _) (.cells #[.int .i64 k, .int .i64 s, .bool pl] 105))
  rcases h1 : inR k 0 9
  · have H1 := Lib.hid h1
    clear h1
    go_enter Try.func94, Try.ntmps94
    go_wp2_with fail
    refine (l01In_eq H1.out _).mono ?_
    rintro e w' ⟨rfl, rfl⟩
    go_wp2
    go_ret
    exact ⟨ret_bool (by unfold portB; simp only []; rw [H1.out]; rfl), HB.out⟩
  · have H1 := Lib.hid h1
    clear h1
    go_enter Try.func94, Try.ntmps94
    go_wp2_with fail
    refine (l01In_eq H1.out _).mono ?_
    rintro e w' ⟨rfl, rfl⟩
    go_wp2_with fail
    refine (l01In_any _ _ _ _).mono ?_
    rintro e w' ⟨rfl, rfl⟩
    go_wp2
    go_ret
    exact ⟨ret_bool (by unfold portB; simp only []; rw [H1.out]; rfl), HB.out⟩
theorem isSlot_any (n : Int) (w : World) : Calls Try.prog 76 #[.int .i64 n] w fun e w' => e = .returned (.bool (inR n 0 7)) ∧ w = w' := by
  go_enter Try.func76, Try.ntmps76
  go_wp2_with (go_at_call 27; refine (within_any _ _ _ _).mono ?_; rintro e w' ⟨rfl, rfl⟩)
  go_ret
  exact ⟨rfl, rfl⟩
end Go.Proofs.Ytblaojjpclipaaa
