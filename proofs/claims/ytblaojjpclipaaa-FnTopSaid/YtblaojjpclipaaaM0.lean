/- Plain lemmas on slices, worlds, lists and words. No statement of the seat is proved here. -/
import Derived.Test.YtblaojjpclipaaaRows
import Derived.WalkKit
import Derived.WalkSpells
import Derived.WalkLawsBesides
import Derived.WalkSmall
import Derived.Lib.Hide
import Derived.BigQuiet
import Derived.Deep.QuietTactic
import Derived.Deep.RegionHeld3
import Derived.Deep.AppendLies
import Derived.Deep.DeepFit
import Derived.Deep.DeepCutAuto
import Derived.Deep.LoopGhost
import Derived.Handy
namespace Go.Proofs.Ytblaojjpclipaaa
open Go.RowKit

theorem ret_bool {a b : Bool} (h : a = b) : Ending.returned (.bool a) = .returned (.bool b) := by rw [h]
theorem ret_int {k : IntKind} {a b : Int} (h : a = b) : Ending.returned (.int k a) = .returned (.int k b) := by rw [h]
theorem val_int {k : IntKind} {a b : Int} (h : a = b) : Value.int k a = .int k b := by rw [h]
theorem val_bool {a b : Bool} (h : a = b) : Value.bool a = .bool b := by rw [h]

/-- low to high, as a Bool -/
def inR (n lo hi : Int) : Bool := decide (lo ≤ n) && decide (n ≤ hi)
theorem inR_iff {n lo hi : Int} : inR n lo hi = true ↔ lo ≤ n ∧ n ≤ hi := by simp [inR]
theorem inR_false {n lo hi : Int} : inR n lo hi = false ↔ n < lo ∨ hi < n := by simp [inR]; omega

/-! ### Below, draws -/
theorem below_drewN' {B : Nat} {a w : World} (h : Below B a w) (n : Nat) : Below B a (w.drewN n) := ⟨h.os, h.tape, h.output, h.size, h.block⟩
theorem below_of_drewN {w : World} (n : Nat) : Below w.heap.size w (w.drewN n) := below_drewN' (Below.refl _ _) n
theorem Below.step {W w w' : World} (h : Below W.heap.size W w) (h' : Below w.heap.size w w') : Below W.heap.size W w' := h.trans (h'.mono h.size)

/-! ### A call inside a region that draws its order: the world is 'w' after some draws -/
section
variable {P : Program} {f : FuncId} {args : Array Value} {w : World} {a n : Nat} {v : Value}
theorem q_same (h : Calls P f args (w.drewN n) fun e w' => e = .returned v ∧ w.drewN n = w') : Calls P f args (w.drewN n) fun e w'' => e = .returned v ∧ ∃ m, w'' = w.drewN m :=
  h.mono fun _ _ ⟨he, hm⟩ => ⟨he, n, hm.symm⟩
theorem q_same2 (h : Calls P f args (w.drewN (a + n)) fun e w' => e = .returned v ∧ w.drewN (a + n) = w') : Calls P f args (w.drewN (a + n)) fun e w'' => e = .returned v ∧ ∃ m, w'' = w.drewN (a + m) :=
  h.mono fun _ _ ⟨he, hm⟩ => ⟨he, n, hm.symm⟩
theorem q_draw (h : Calls P f args (w.drewN n) fun e w' => e = .returned v ∧ ∃ m, w' = (w.drewN n).drewN m) : Calls P f args (w.drewN n) fun e w'' => e = .returned v ∧ ∃ m, w'' = w.drewN m :=
  h.mono fun _ _ ⟨he, m, hm⟩ => ⟨he, n + m, by rw [hm, World.drewN_drewN]⟩
theorem q_draw2 (h : Calls P f args (w.drewN (a + n)) fun e w' => e = .returned v ∧ ∃ m, w' = (w.drewN (a + n)).drewN m) : Calls P f args (w.drewN (a + n)) fun e w'' => e = .returned v ∧ ∃ m, w'' = w.drewN (a + m) :=
  h.mono fun _ _ ⟨he, m, hm⟩ => ⟨he, n + m, by rw [hm, World.drewN_drewN, Nat.add_assoc]⟩
end

/-! ### A slice that reads as a list of cells -/
def big40 : Nat := 1099511627776
/-- 'v' is a slice of 'n' elements of 'sz' cells each, which hold 'xs' in 'w' (nil let in). -/
def Rd (w : World) (sz : Nat) (v : Value) (n : Nat) (xs : List Value) : Prop :=
  xs.length = n * sz ∧ n ≤ big40 ∧ ∃ A cap, v = .slice A n cap ∧ n ≤ cap ∧ (0 < n → ∃ b off, A = some ⟨b, off, none⟩ ∧ b < w.heap.size ∧ ∀ j u, xs[j]? = some u → w.cell? ⟨b, off + j, none⟩ = some u)

section
variable {w w' : World} {sz n : Nat} {v : Value} {xs : List Value}
theorem Rd.keep (h : Rd w sz v n xs) (hs : w.heap.size ≤ w'.heap.size) (hk : ∀ p : Addr, p.block < w.heap.size → w'.cell? p = w.cell? p) : Rd w' sz v n xs := by
  obtain ⟨h1, h2, A, cap, rfl, hc, h3⟩ := h
  refine ⟨h1, h2, A, cap, rfl, hc, fun hn => ?_⟩
  obtain ⟨b, off, e, hb, hx⟩ := h3 hn
  exact ⟨b, off, e, Nat.lt_of_lt_of_le hb hs, fun j u hu => (hk _ hb).trans (hx j u hu)⟩
theorem Rd.below (h : Rd w sz v n xs) (hb : Below w.heap.size w w') : Rd w' sz v n xs := h.keep hb.size fun _ hp => hb.cell hp
theorem Rd.drewN (h : Rd w sz v n xs) (k : Nat) : Rd (w.drewN k) sz v n xs := h
theorem Rd.drew (h : Rd w sz v n xs) : Rd w.drew sz v n xs := h
theorem Rd.alloc (h : Rd w sz v n xs) (o : Obj) : Rd (w.alloc o) sz v n xs := h.keep (by simp) fun p hp => World.cell?_alloc_lt w o p hp
theorem Rd.of_own {base : Nat} {e : TypeId} (h : w.ownsRow base e sz v n xs) (hn : n ≤ big40) : Rd w sz v n xs := by
  refine ⟨h.1, hn, ?_⟩
  rcases Nat.eq_zero_or_pos n with rfl | hp
  · rcases h.2 with ⟨rfl, _⟩ | ⟨g, cap, cur, rfl, _⟩
    · exact ⟨none, 0, rfl, Nat.le_refl _, fun h => absurd h (by omega)⟩
    · exact ⟨_, cap, rfl, Nat.zero_le _, fun h => absurd h (by omega)⟩
  · obtain ⟨g, cap, rfl, _, hlt⟩ := h.form hp
    refine ⟨_, cap, rfl, ?_, fun _ => ⟨g, 0, rfl, hlt, fun j u hu => ?_⟩⟩
    · rcases h.2 with ⟨hh, _⟩ | ⟨_, _, _, hh, _, _, hle, _⟩
      · cases hh
      · cases hh; exact hle
    · have := h.cells (g := g) rfl j u hu
      simpa [Addr.add] using (show w.cell? ⟨g, 0 + j, none⟩ = some u by
        have e : ((⟨g, 0, none⟩ : Addr).add j) = ⟨g, 0 + j, none⟩ := by unfold Addr.add; split <;> simp_all
        rw [← e]; exact this)
end

/-- A list of things as cells: each takes 'sz' cells. -/
structure Enc (α : Type) where
  f : α → List Value
  sz : Nat
  hl : ∀ x, (f x).length = sz
  one : ∀ x, ∀ u ∈ f x, u.oneCell' = true

def Enc.all {α : Type} (E : Enc α) (xs : List α) : List Value := xs.flatMap E.f

theorem Enc.len {α : Type} (E : Enc α) (xs : List α) : (E.all xs).length = xs.length * E.sz := by
  induction xs with
  | nil => simp [Enc.all]
  | cons x xs ih => simp only [Enc.all, List.flatMap_cons, List.length_append, E.hl, List.length_cons] at *; rw [ih, Nat.add_mul]; omega

theorem Enc.at_ {α : Type} (E : Enc α) : ∀ (xs : List α) (k : Nat) (hk : k < xs.length) (j : Nat), j < E.sz → (E.all xs)[k * E.sz + j]? = (E.f xs[k])[j]?
  | x :: xs, 0, hk, j, hj => by simp only [Enc.all, List.flatMap_cons, Nat.zero_mul, Nat.zero_add]; rw [List.getElem?_append_left (by rw [E.hl]; exact hj)]; rfl
  | x :: xs, k + 1, hk, j, hj => by
    have ih := Enc.at_ E xs k (by simpa using hk) j hj
    simp only [Enc.all, List.flatMap_cons] at *
    rw [List.getElem?_append_right (by rw [E.hl, Nat.add_mul]; omega), E.hl]
    have e : (k + 1) * E.sz + j - E.sz = k * E.sz + j := by rw [Nat.add_mul]; omega
    rw [e, ih]; rfl

theorem Enc.app {α : Type} (E : Enc α) (xs ys : List α) : E.all (xs ++ ys) = E.all xs ++ E.all ys := by simp [Enc.all]
theorem Enc.one_ {α : Type} (E : Enc α) (x : α) : E.all [x] = E.f x := by simp [Enc.all]
theorem Enc.none_ {α : Type} (E : Enc α) : E.all [] = [] := rfl

/-- 'v' reads in 'w' as the list 'xs'. -/
def Sl {α : Type} (E : Enc α) (w : World) (v : Value) (xs : List α) : Prop := Rd w E.sz v xs.length (E.all xs)
/-- 'v' is a slice of the call's own, from block 'base' on, that holds the list 'xs'. -/
def Own {α : Type} (E : Enc α) (w : World) (base : Nat) (t : TypeId) (v : Value) (xs : List α) : Prop := w.ownsRow base t E.sz v xs.length (E.all xs)

section
variable {α : Type} {E : Enc α} {w w' : World} {v : Value} {xs : List α}
theorem Sl.below (h : Sl E w v xs) (hb : Below w.heap.size w w') : Sl E w' v xs := Rd.below h hb
theorem Sl.alloc (h : Sl E w v xs) (o : Obj) : Sl E (w.alloc o) v xs := Rd.alloc h o
theorem Sl.drewN (h : Sl E w v xs) (k : Nat) : Sl E (w.drewN k) v xs := h
theorem Sl.drew (h : Sl E w v xs) : Sl E w.drew v xs := h
theorem Sl.of_own {base : Nat} {t : TypeId} (h : Own E w base t v xs) (hn : xs.length ≤ big40) : Sl E w v xs := Rd.of_own h hn
theorem Sl.len (h : Sl E w v xs) : xs.length ≤ big40 := h.2.1
/-- the slice's shape, and its cells where there are any -/
theorem Sl.shape (h : Sl E w v xs) : ∃ A cap, v = .slice A xs.length cap ∧ xs.length ≤ cap ∧ xs.length ≤ 1099511627776 ∧
    (0 < xs.length → ∃ b off, A = some ⟨b, off, none⟩ ∧ b < w.heap.size ∧ ∀ (k : Nat) (hk : k < xs.length) (j : Nat) (u : Value), j < E.sz → (E.f xs[k])[j]? = some u → w.cell? ⟨b, off + (k * E.sz + j), none⟩ = some u) := by
  obtain ⟨h1, h2, A, cap, rfl, hc, h3⟩ := h
  refine ⟨A, cap, rfl, hc, h2, fun hn => ?_⟩
  obtain ⟨b, off, e, hb, hx⟩ := h3 hn
  exact ⟨b, off, e, hb, fun k hk j u hj hu => hx _ u ((E.at_ xs k hk j hj).trans hu)⟩
theorem Own.below {base : Nat} {t : TypeId} (h : Own E w base t v xs) (hb : Below w.heap.size w w') : Own E w' base t v xs :=
  World.ownsRow.kept h (row := none) ⟨hb.os, hb.tape, hb.output, hb.size, fun k hk _ => hb.block k hk⟩ (by
    rcases h.2 with ⟨rfl, _⟩ | ⟨g, cap, cur, rfl, _⟩
    · exact .inl rfl
    · exact .inr (by simp [Value.ownBlock]))
end

theorem Own.kept {α : Type} {E : Enc α} {w w' : World} {base : Nat} {t : TypeId} {v : Value} {xs : List α} {row : Option Nat} (h : Own E w base t v xs) (hg : w.grownBy w' row) (hne : v.ownBlock = none ∨ v.ownBlock ≠ row) : Own E w' base t v xs := World.ownsRow.kept h hg hne

/-! ### Lists of integers -/
def eI : Enc Int := ⟨fun x => [.int .i64 x], 1, fun _ => rfl, fun x u hu => by simp at hu; subst hu; rfl⟩
theorem eI_all (xs : List Int) : eI.all xs = xs.map (Value.int .i64) := by
  induction xs with
  | nil => rfl
  | cons x xs ih => simp only [Enc.all, eI, List.flatMap_cons, List.map_cons] at *; rw [ih]; rfl

abbrev Ints (w : World) (v : Value) (xs : List Int) : Prop := Sl eI w v xs
theorem Ints.shape {w : World} {v : Value} {xs : List Int} (h : Ints w v xs) : ∃ A cap, v = .slice A xs.length cap ∧ xs.length ≤ cap ∧ xs.length ≤ 1099511627776 ∧
    (0 < xs.length → ∃ b off, A = some ⟨b, off, none⟩ ∧ b < w.heap.size ∧ ∀ (k : Nat) (hk : k < xs.length), w.cell? ⟨b, off + k, none⟩ = some (.int .i64 xs[k])) := by
  obtain ⟨A, cap, rfl, hc, hl, h3⟩ := Sl.shape h
  refine ⟨A, cap, rfl, hc, hl, fun hn => ?_⟩
  obtain ⟨b, off, e, hb, hx⟩ := h3 hn
  exact ⟨b, off, e, hb, fun k hk => by simpa [eI] using hx k hk 0 _ (by decide) rfl⟩

/-- What is known of a slice of integers that came in: it is nil; or it leads to a row of 'cap' cells, the numbers 'zs' (the first 'len' are its elements), each fitting its kind. -/
def IsRow (k : IntKind) (w : World) (a : Option Addr) (len cap : Nat) (zs : List Int) : Prop :=
  (a = none ∧ len = 0 ∧ cap = 0 ∧ zs = []) ∨
  ∃ x, a = some x ∧ len ≤ cap ∧ cap ≤ maxLen ∧ zs.length = cap ∧ (∀ i, i < zs.length → w.cell? (x.add i) = some (.int k (zs.getD i 0))) ∧ ∀ n ∈ zs, (Lit.int k n).wf = true

theorem IsRow.max {k : IntKind} {w : World} {a : Option Addr} {len cap : Nat} {zs : List Int} (h : IsRow k w a len cap zs) : len ≤ 9223372036854775807 := by
  rcases h with ⟨_, rfl, _⟩ | ⟨x, rfl, h1, h2, _⟩
  · omega
  · unfold maxLen at h2; omega

theorem add_none {x : Addr} {i : Nat} (h : x.spot = none) : x.add i = ⟨x.block, x.off + i, none⟩ := by
  obtain ⟨b, o, s⟩ := x
  simp at h
  subst h
  unfold Addr.add
  split <;> simp_all

theorem IsRow.len {k : IntKind} {w : World} {a : Option Addr} {len cap : Nat} {zs : List Int} (h : IsRow k w a len cap zs) : (zs.take len).length = len := by
  rcases h with ⟨rfl, rfl, rfl, rfl⟩ | ⟨x, rfl, h1, h2, h3, _⟩
  · rfl
  · simp; omega

theorem IsRow.ints {w : World} {a : Option Addr} {len cap : Nat} {zs : List Int} (h : IsRow .i64 w a len cap zs) (hl : len ≤ 1048576) : Ints w (.slice a len cap) (zs.take len) := by
  have hlen := h.len
  refine ⟨by rw [eI_all]; simp [eI], by rw [hlen]; unfold big40; omega, a, cap, by rw [hlen], ?_, fun hn => ?_⟩
  · rcases h with ⟨rfl, rfl, rfl, rfl⟩ | ⟨x, rfl, h1, _⟩ <;> rw [hlen] <;> omega
  · rw [hlen] at hn
    rcases h with ⟨rfl, rfl, rfl, rfl⟩ | ⟨x, rfl, h1, h2, h3, h4, _⟩
    · omega
    · have h0 := h4 0 (by omega)
      have hs : x.spot = none := by
        have := World.cell?_spot h0
        obtain ⟨b, o, s⟩ := x
        simpa [Addr.add] using this
      have hb := World.block_lt_of_cell? _ _ h0
      rw [add_none hs] at hb
      refine ⟨x.block, x.off, by obtain ⟨b, o, s⟩ := x; simp at hs; subst hs; rfl, hb, fun j u hu => ?_⟩
      rw [eI_all] at hu
      have hj : j < ((zs.take len).map (Value.int .i64)).length := by
        rcases Nat.lt_or_ge j ((zs.take len).map (Value.int .i64)).length with h | h
        · exact h
        · rw [List.getElem?_eq_none h] at hu; cases hu
      simp only [List.length_map] at hj
      rw [List.getElem?_eq_getElem (by simpa using hj)] at hu
      have hj2 : j < zs.length := by simp at hj; omega
      have := h4 j hj2
      rw [add_none hs] at this
      rw [this]
      simp only [List.getElem_map, List.getElem_take, Option.some.injEq] at hu
      rw [← hu]
      simp [hj2]

/-- What is known of a slice of structs that came in. -/
def RowS {α : Type} (E : Enc α) (w : World) (a : Option Addr) (len cap : Nat) (xs : List α) : Prop :=
  xs.length = len ∧ len ≤ cap ∧ cap ≤ maxLen ∧ (0 < len → ∃ b off, a = some ⟨b, off, none⟩ ∧ b < w.heap.size ∧ ∀ j u, (E.all xs)[j]? = some u → w.cell? ⟨b, off + j, none⟩ = some u)
section
variable {α : Type} {E : Enc α} {w : World} {a : Option Addr} {ln cap : Nat} {xs : List α}
theorem RowS.len (h : RowS E w a ln cap xs) : xs.length = ln := h.1
theorem RowS.max (h : RowS E w a ln cap xs) : ln ≤ 9223372036854775807 := by have h1 := h.2.1; have h2 := h.2.2.1; unfold maxLen at h2; omega
theorem RowS.nil_ (E : Enc α) (w : World) : RowS E w none 0 0 [] := ⟨rfl, Nat.le_refl _, Nat.zero_le _, fun h => absurd h (by omega)⟩
theorem RowS.sl (h : RowS E w a ln cap xs) (hl : ln ≤ 1048576) : Sl E w (.slice a ln cap) xs := by
  obtain ⟨h1, h2, h3, h4⟩ := h
  subst h1
  exact ⟨E.len xs, by unfold big40; omega, a, cap, rfl, h2, h4⟩
theorem add_add_none {x : Addr} {i j : Nat} (h : x.spot = none) : (x.add i).add j = ⟨x.block, x.off + (i + j), none⟩ := by
  rw [add_none h, add_none rfl]
  simp [Nat.add_assoc]
/-- out of the elements' cells, one by one -/
theorem RowS.of {x : Addr} {P : α → Prop} (hs : 0 < E.sz) (hl : ln ≤ cap) (hm : cap ≤ maxLen) (h : ∀ i, i < ln → ∃ z : α, P z ∧ ∀ j, j < E.sz → w.cell? ((x.add (i * E.sz)).add j) = (E.f z)[j]?) :
    ∃ xs : List α, RowS E w (some x) ln cap xs ∧ ∀ z ∈ xs, P z := by
  have key : ∀ n, n ≤ ln → ∃ xs : List α, xs.length = n ∧ (∀ z ∈ xs, P z) ∧ ∀ (k : Nat) (hk : k < xs.length) (j : Nat), j < E.sz → w.cell? ((x.add (k * E.sz)).add j) = (E.f xs[k])[j]? := by
    intro n
    induction n with
    | zero => exact fun _ => ⟨[], rfl, by simp, by simp⟩
    | succ n ih =>
      intro hn
      obtain ⟨xs, h1, h2, h3⟩ := ih (by omega)
      obtain ⟨z, hz, hc⟩ := h n (by omega)
      refine ⟨xs ++ [z], by simp [h1], ?_, ?_⟩
      · intro y hy
        rcases List.mem_append.1 hy with hy | hy
        · exact h2 y hy
        · rw [List.mem_singleton.1 hy]; exact hz
      · intro k hk j hj
        by_cases hkn : k < xs.length
        · rw [List.getElem_append_left hkn]; exact h3 k hkn j hj
        · have : k = xs.length := by simp at hk; omega
          subst this
          rw [List.getElem_append_right (Nat.le_refl _)]
          simp only [Nat.sub_self, List.getElem_singleton]
          rw [h1]; exact hc j hj
  obtain ⟨xs, h1, h2, h3⟩ := key ln (Nat.le_refl _)
  refine ⟨xs, ⟨h1, hl, hm, fun hp => ?_⟩, h2⟩
  have h00 := h3 0 (by omega) 0 hs
  have hv : (E.f xs[0])[0]? = some ((E.f xs[0])[0]'(by rw [E.hl]; exact hs)) := List.getElem?_eq_getElem _
  rw [hv] at h00
  have hsp : x.spot = none := by
    have := World.cell?_spot h00
    obtain ⟨b, o, s⟩ := x
    simp only [Nat.zero_mul] at this
    simpa [Addr.add] using this
  have hb := World.block_lt_of_cell? _ _ h00
  rw [add_add_none hsp] at hb
  refine ⟨x.block, x.off, by obtain ⟨b, o, s⟩ := x; simp at hsp; subst hsp; rfl, hb, fun j u hu => ?_⟩
  have hj : j < xs.length * E.sz := by
    rcases Nat.lt_or_ge j (E.all xs).length with h | h
    · rwa [E.len] at h
    · rw [List.getElem?_eq_none h] at hu; cases hu
  have hq : j / E.sz < xs.length := by rw [Nat.div_lt_iff_lt_mul hs]; exact hj
  have hr : j % E.sz < E.sz := Nat.mod_lt _ hs
  have e : j = j / E.sz * E.sz + j % E.sz := by rw [Nat.mul_comm]; exact (Nat.div_add_mod j E.sz).symm
  have h4 := E.at_ xs (j / E.sz) hq (j % E.sz) hr
  rw [← e, hu] at h4
  have h5 := h3 (j / E.sz) hq (j % E.sz) hr
  rw [add_add_none hsp, ← e, ← h4] at h5
  exact h5
end

theorem ne_lt {v u : Value} {a b c d : Nat} (h : ∀ k, v.ownBlock = some k → a ≤ k ∧ k < b) (h' : ∀ k, u.ownBlock = some k → c ≤ k ∧ k < d) (hl : b ≤ c ∨ d ≤ a) : v.ownBlock = none ∨ v.ownBlock ≠ u.ownBlock := by
  cases hv : v.ownBlock with
  | none => exact .inl rfl
  | some k =>
    refine .inr (fun e => ?_)
    obtain ⟨h1, h2⟩ := h k hv
    obtain ⟨h3, h4⟩ := h' k e.symm
    omega
theorem big_of {n : Nat} (h : n ≤ 1048576) : n ≤ big40 := by unfold big40; omega
theorem toB_same {P : Program} {f : FuncId} {args : Array Value} {w : World} {Q : Ending → Prop} (h : Calls P f args w fun e w' => Q e ∧ w = w') : Calls P f args w fun e w' => Q e ∧ Below w.heap.size w w' :=
  h.mono fun _ _ ⟨h1, h2⟩ => ⟨h1, by subst h2; exact Below.refl _ _⟩
theorem toB_draw {P : Program} {f : FuncId} {args : Array Value} {w : World} {Q : Ending → Prop} (h : Calls P f args w fun e w' => Q e ∧ ∃ m, w' = w.drewN m) : Calls P f args w fun e w' => Q e ∧ Below w.heap.size w w' :=
  h.mono fun _ _ ⟨h1, m, h2⟩ => ⟨h1, by subst h2; exact below_of_drewN m⟩
theorem wf_i64 {n : Int} (h : (Lit.int .i64 n).wf = true) : -9223372036854775808 ≤ n ∧ n ≤ 9223372036854775807 := bounds_i64 h

/-- The cells of a block that has just been laid, as the law on append asks them. -/
theorem news_new {W : World} {B : Nat} {cs : Array Value} {t : TypeId} (h : B = W.heap.size) : ∀ j u, cs.toList[j]? = some u → (W.alloc (.cells cs t)).cell? ((⟨B, 0, none⟩ : Addr).add j) = some u := by
  intro j u hu
  subst h
  rw [add_none rfl, World.cell?_alloc_new]
  simpa using hu

/-- 'out = append(out, y)': one element more onto a row of the call's own. -/
theorem wpList_app {α : Type} (E : Enc α) {P : Program} {w : World} {ops : Array Oper} {rest : List Oper} {o : Oper} {a : Act} {Q : Exit → Act → World → Prop} (hgd : o.guard = none) (s x : Operand) (t : TypeId)
    (ho : o.op = .call { callee := .builtin .append, args := #[s, x], argTypes := #[t, t] })
    (e : TypeId) (z : Value) (bytes : Nat) (ht : P.underlying t = some (.slice e)) (hinf : (P.info? e).map (fun i => (i.zero, i.size, i.bytes)) = some (some z, E.sz, bytes)) (hzs : z.cells.size = E.sz) (hsz : 0 < E.sz) (hby : bytes ≤ 100)
    (base : Nat) (v : Value) (xs : List α) (hs : a.eval s = v) (hown : Own E w base e v xs) (hn : xs.length ≤ 1000000000) (hbase : base ≤ w.heap.size)
    (y : α) (cells : Array Value) (hc : cells.toList = E.f y) (B : Nat) (hx : a.eval x = .slice (some ⟨B, 0, none⟩) 1 1) (hB : B = w.heap.size)
    (h : ∀ v' w', Own E w' base e v' (xs ++ [y]) → Below base w w' → w.grownBy w' v.ownBlock → (v'.ownBlock = v.ownBlock ∨ w.heap.size ≤ (v'.ownBlock.getD w.heap.size)) → w.heap.size < w'.heap.size → wpList P ops Q rest (a.put o.dst v') w') :
    wpList P ops Q (o :: rest) a (w.alloc (.cells cells e)) := by
  obtain ⟨i0, hi, hz, hz1, hz2⟩ := info_parts hinf
  refine wpList_append_lies (w.alloc (.cells cells e)) hgd s x t ho base e i0 z E.sz bytes ht hi hz hz1 hz2 hzs hsz v xs.length (E.all xs) hs (World.ownsRow.alloc hown _) ⟨B, 0, none⟩ 1 1 (E.f y) hx (by rw [E.hl]; omega) ?_ (E.one y) (by omega) (by unfold maxLen; omega) ?_ (by simp; omega) _ rfl ?_
  · have := news_new (cs := cells) (t := e) hB
    rw [hc] at this
    exact this
  · have : (xs.length + 1) * bytes ≤ (xs.length + 1) * 100 := Nat.mul_le_mul_left _ hby
    omega
  · intro g cap w' h1 h2 h3 h4
    have hsz2 := h2.size
    simp only [World.size_alloc] at hsz2 h3
    have hg : w.grownBy w' v.ownBlock := ⟨h2.os, h2.tape, h2.output, by omega, fun k hk hne => (h2.block k (by simp; omega) hne).trans (Below.heap_alloc w _ k hk)⟩
    refine h _ w' ?_ ⟨hg.os, hg.tape, hg.output, hg.size, fun k hk => hg.block k (by omega) (fun e0 => ?_)⟩ hg ?_ (by omega)
    · unfold Own
      rw [E.app, E.one_, List.length_append]
      exact h1
    · have := (World.ownsRow.lt hown k e0.symm).1
      omega
    · rcases h3 with h3 | h3
      · exact .inl h3.symm
      · right; simp [Value.ownBlock]; omega

/-! ### Plain lists -/
theorem all_false_at {α : Type} (xs : List α) (k : Nat) (h : k < xs.length) (p : α → Bool) (hp : p xs[k] = false) : xs.all p = false := by
  rw [List.all_eq_false]; exact ⟨xs[k], List.getElem_mem h, by simp [hp]⟩
theorem all_take_succ {α : Type} (xs : List α) (k : Nat) (h : k < xs.length) (p : α → Bool) (ha : (xs.take k).all p = true) (hp : p xs[k] = true) : (xs.take (k + 1)).all p = true := by
  rw [List.take_succ_eq_append_getElem h, List.all_append, ha]; simp [hp]
theorem all_of_take {α : Type} (xs : List α) (k : Nat) (h : xs.length ≤ k) (p : α → Bool) (ha : (xs.take k).all p = true) : xs.all p = true := by
  rwa [List.take_of_length_le h] at ha
end Go.Proofs.Ytblaojjpclipaaa
namespace Go.Proofs.Ytblaojjpclipaaa
open Go.RowKit

theorem info_i64 : (Try.prog.info? 2).map (fun i => (i.zero, i.size, i.bytes)) = some (some (.int .i64 0), 1, 8) := by kernel_rfl

theorem l01In_any (n lo hi : Int) (w : World) :
    Calls Try.prog 33 #[.int .i64 n, .int .i64 lo, .int .i64 hi] w fun e w' => e = .returned (.bool (inR n lo hi)) ∧ w = w' := by
  by_cases h1 : lo ≤ n <;> by_cases h2 : n ≤ hi
  all_goals
    go_enter Try.func33, Try.ntmps33
    go_wp2
    go_ret
    simp [h1, h2, inR]
theorem within_any (n lo hi : Int) (w : World) :
    Calls Try.prog 27 #[.int .i64 n, .int .i64 lo, .int .i64 hi] w fun e w' => e = .returned (.bool (inR n lo hi)) ∧ w = w' := by
  by_cases h1 : lo ≤ n <;> by_cases h2 : n ≤ hi
  all_goals
    go_enter Try.func27, Try.ntmps27
    go_wp2
    go_ret
    simp [h1, h2, inR]
/-- |n| -/
def iabs (n : Int) : Int := if n < 0 then -n else n
theorem l01Mod_any (a m : Int) (w : World) (h1 : -1000000000000000000 ≤ a) (h2 : a ≤ 1000000000000000000) (m1 : 1 ≤ m) (m2 : m ≤ 1000000000000000000) :
    Calls Try.prog 80 #[.int .i64 a, .int .i64 m] w fun e w' => e = .returned (.int .i64 (a % m)) ∧ w = w' := by
  have t1 := Int.tmod_lt_of_pos a (show 0 < m by omega)
  have t2 : -m < a.tmod m := by
    have h := Int.tmod_lt_of_pos (-a) (show 0 < m by omega)
    rw [Int.neg_tmod] at h
    omega
  have tz : (m == 0) = false := by simp; omega
  go_enter Try.func80, Try.ntmps80
  go_wp2
  go_ret
  refine ⟨ret_int ?_, rfl⟩
  have : a.tmod m = a - m * (a.tdiv m) := by have := Int.mul_tdiv_add_tmod a m; omega
  rw [this]
  have e : a - m * a.tdiv m + m = a + m * (1 - a.tdiv m) := by rw [Int.mul_sub]; omega
  rw [e, Int.add_mul_emod_self_left]

theorem div_bounds (a b M : Int) (h1 : -M ≤ a) (h2 : a ≤ M) (hb : 1 ≤ b) : -M ≤ a / b ∧ a / b ≤ M := by
  rcases Int.lt_or_le a 0 with h | h
  rotate_left
  · have := Int.ediv_le_self b h
    have := Int.ediv_nonneg h (show 0 ≤ b by omega)
    omega
  · have e := Int.mul_ediv_add_emod a b
    have e1 := Int.emod_nonneg a (show b ≠ 0 by omega)
    have e2 : a / b < 0 := Int.ediv_neg_of_neg_of_pos h (by omega)
    have e3 : b * (a / b) ≤ 1 * (a / b) := Int.mul_le_mul_of_nonpos_right hb (by omega)
    have e4 := Int.emod_lt_of_pos a (show 0 < b by omega)
    refine ⟨?_, by omega⟩
    have : a ≤ a / b := by
      rcases Int.lt_or_le (a / b) a with h' | h'
      rotate_left
      · exact h'
      · exfalso
        have e5 : a / b + 1 ≤ a := by omega
        have e6 : b * (a / b + 1) ≤ b * a := Int.mul_le_mul_of_nonneg_left e5 (by omega)
        have e7 : b * a ≤ 1 * a := Int.mul_le_mul_of_nonpos_right hb (by omega)
        rw [Int.mul_add] at e6
        omega
    omega

theorem ceil_eq (a b : Int) (hb : 1 ≤ b) : -(-a / b) = (a + b - 1) / b := by
  have h1 := Int.mul_ediv_add_emod (-a) b
  have h2 := Int.emod_nonneg (-a) (show b ≠ 0 by omega)
  have h3 := Int.emod_lt_of_pos (-a) (show 0 < b by omega)
  generalize -a / b = q at *
  generalize -a % b = r at *
  have e : a + b - 1 = (b - 1 - r) + b * (-q) := by rw [Int.mul_neg]; omega
  rw [e, Int.add_mul_ediv_left _ _ (by omega), Int.ediv_eq_zero_of_lt (by omega) (by omega)]
  omega
end Go.Proofs.Ytblaojjpclipaaa
namespace Go.Proofs.Ytblaojjpclipaaa
open Go.RowKit

theorem own_made (w : World) (base n : Nat) (t : TypeId) (z v : Value) (h : w.ownsRow base t 1 v n (madeCells #[z] n).toList) : w.ownsRow base t 1 v n (List.replicate n z) := by
  rw [toList_madeCells_one] at h; simpa using h
set_option maxHeartbeats 400000 in
theorem allWithin_any (v : Value) (xs : List Int) (lo hi : Int) (w : World) (hv : Ints w v xs) :
    Calls Try.prog 54 #[v, .int .i64 lo, .int .i64 hi] w fun e w' => e = .returned (.bool (xs.all (inR · lo hi))) ∧ w = w' := by
  obtain ⟨A, cap, rfl, _, hm, hc⟩ := Ints.shape hv
  go_enter Try.func54, Try.ntmps54
  go_wp2
  go_loop [11] (fun i => ∃ k : Nat, k ≤ xs.length ∧ i = .int .i64 k ∧ (xs.take k).all (inR · lo hi) = true) (fun i => xs.length - (intOf i).toNat)
  case atStart => exact ⟨0, Nat.zero_le _, rfl, rfl⟩
  case round =>
    obtain ⟨k, hk, rfl, hall⟩ := hrel
    have HA := Lib.hid hall
    clear hall
    by_cases hlt : k < xs.length
    · obtain ⟨b, off, rfl, _, hcell⟩ := hc (by omega)
      have hck := hcell k hlt
      clear hcell
      go_wp2_with (go_at_call 27; refine (within_any _ _ _ _).mono ?_; rintro e w' ⟨rfl, rfl⟩)
      · go_ret
        have h1 : (!inR xs[k] lo hi) = true := by assumption
        exact ⟨ret_bool (all_false_at xs k hlt _ (by simpa using h1)).symm, rfl⟩
      · have h1 : (!inR xs[k] lo hi) = false := by assumption
        go_round
        case rel => exact ⟨k + 1, by omega, by go_num, all_take_succ xs k hlt _ HA.out (by simpa using h1)⟩
        case measure => simp [intOf]; omega
    · obtain rfl : k = xs.length := by omega
      go_wp2
      go_ret
      exact ⟨ret_bool (all_of_take xs _ (Nat.le_refl _) _ HA.out).symm, rfl⟩


set_option maxHeartbeats 400000 in
theorem l01Has_any (v : Value) (xs : List Int) (x : Int) (w : World) (hv : Ints w v xs) :
    Calls Try.prog 89 #[v, .int .i64 x] w fun e w' => e = .returned (.bool (xs.any (· == x))) ∧ w = w' := by
  obtain ⟨A, cap, rfl, _, hm, hc⟩ := Ints.shape hv
  go_enter Try.func89, Try.ntmps89
  go_wp2
  go_loop [5] (fun i => ∃ k : Nat, k ≤ xs.length ∧ i = .int .i64 k ∧ (xs.take k).all (fun y => !(y == x)) = true) (fun i => xs.length - (intOf i).toNat)
  case atStart => exact ⟨0, Nat.zero_le _, rfl, rfl⟩
  case round =>
    obtain ⟨k, hk, rfl, hall⟩ := hrel
    have HA := Lib.hid hall
    clear hall
    by_cases hlt : k < xs.length
    · obtain ⟨b, off, rfl, _, hcell⟩ := hc (by omega)
      have hck := hcell k hlt
      clear hcell
      rcases hx : (xs[k] == x)
      · go_wp2
        go_round
        case rel => exact ⟨k + 1, by omega, by go_num, all_take_succ xs k hlt _ HA.out (by simp [hx])⟩
        case measure => simp [intOf]; omega
      · go_wp2
        go_ret
        exact ⟨ret_bool (List.any_eq_true.2 ⟨xs[k], List.getElem_mem hlt, hx⟩).symm, rfl⟩
    · obtain rfl : k = xs.length := by omega
      go_wp2
      go_ret
      have h := all_of_take xs _ (Nat.le_refl _) _ HA.out
      exact ⟨ret_bool (by rw [eq_comm, List.any_eq_false]; intro y hy; have := List.all_eq_true.1 h y hy; simpa using this), rfl⟩



end Go.Proofs.Ytblaojjpclipaaa
namespace Go.Proofs.Ytblaojjpclipaaa
open Go.RowKit

theorem within_eq {n lo hi : Int} {b : Bool} (h : inR n lo hi = b) (w : World) : Calls Try.prog 27 #[.int .i64 n, .int .i64 lo, .int .i64 hi] w fun e w' => e = .returned (.bool b) ∧ w = w' := by
  subst h; exact within_any _ _ _ _
theorem l01In_eq {n lo hi : Int} {b : Bool} (h : inR n lo hi = b) (w : World) : Calls Try.prog 33 #[.int .i64 n, .int .i64 lo, .int .i64 hi] w fun e w' => e = .returned (.bool b) ∧ w = w' := by
  subst h; exact l01In_any _ _ _ _
theorem getD_at {α : Type} (xs : List α) (z : α) (k : Nat) (h : k < xs.length) : xs.getD k z = xs[k] := by simp [h]
theorem range_all_succ {p : Nat → Bool} {k : Nat} (h : (List.range k).all p = true) (hk : p k = true) : (List.range (k + 1)).all p = true := by
  rw [List.range_succ, List.all_append, h]; simp [hk]
theorem range_all_false {p : Nat → Bool} {k n : Nat} (h : k < n) (hk : p k = false) : (List.range n).all p = false := by
  rw [List.all_eq_false]; exact ⟨k, List.mem_range.2 h, by simp [hk]⟩

def lowAt (s : ByteArray) (i : Nat) : Bool := if h : i < s.size then inR (s[i].toNat : Int) 97 122 else true
def isWord (s : ByteArray) : Bool := inR s.size 1 16 && (List.range s.size).all (lowAt s)
theorem lowAt_eq {s : ByteArray} {k : Nat} (h : k < s.size) : lowAt s k = inR (s[k].toNat : Int) 97 122 := by unfold lowAt; rw [dif_pos h]

set_option maxHeartbeats 1000000 in
theorem iIsWord_any (s : ByteArray) (w : World) (hs : s.size ≤ 9223372036854775807) :
    Calls Try.prog 75 #[.string s] w fun e w' => e = .returned (.bool (isWord s)) ∧ w = w' := by
  rcases hA : inR s.size 1 16
  · rcases inR_false.1 hA with h | h
    all_goals
      have HA := Lib.hid hA
      clear hA
      go_enter Try.func75, Try.ntmps75
      go_wp2
      go_ret
      exact ⟨ret_bool (by unfold isWord; rw [HA.out]; rfl), rfl⟩
  obtain ⟨h1, h2⟩ := inR_iff.1 hA
  have HA := Lib.hid hA
  clear hA
  go_enter Try.func75, Try.ntmps75
  go_wp2
  go_loop [3] (fun i => ∃ k : Nat, k ≤ s.size ∧ i = .int .i64 k ∧ Hid ((List.range k).all (lowAt s) = true)) (fun i => s.size - (intOf i).toNat)
  case atStart => exact ⟨0, Nat.zero_le _, rfl, Lib.hid rfl⟩
  case round =>
    obtain ⟨k, hk, rfl, HS⟩ := hrel
    by_cases hlt : k < s.size
    · have hd := lowAt_eq hlt
      have hr : (s[k].toNat : Int) ≤ 255 := by have := s[k].toNat_lt; omega
      have HD := Lib.hid hd
      clear hd
      rcases hb : inR (s[k].toNat : Int) 97 122
      · have HB := Lib.hid hb
        rcases inR_false.1 hb with h | h
        all_goals
          clear hb
          go_wp2
          go_ret
          exact ⟨ret_bool (by unfold isWord; rw [range_all_false hlt (by rw [HD.out, HB.out])]; simp), rfl⟩
      · have HB := Lib.hid hb
        obtain ⟨g1, g2⟩ := inR_iff.1 hb
        clear hb
        go_wp2
        go_round
        case rel => exact ⟨k + 1, by omega, by go_num, Lib.hid (range_all_succ HS.out (by rw [HD.out, HB.out]))⟩
        case measure => simp [intOf]; omega
    · obtain rfl : k = s.size := by omega
      go_wp2
      go_ret
      exact ⟨ret_bool (by unfold isWord; rw [HA.out, HS.out]; rfl), rfl⟩
set_option maxHeartbeats 1000000 in
theorem sIsWord_any (s : ByteArray) (w : World) (hs : s.size ≤ 9223372036854775807) :
    Calls Try.prog 95 #[.string s] w fun e w' => e = .returned (.bool (isWord s)) ∧ w = w' := by
  go_enter Try.func95, Try.ntmps95
  go_wp2
  go_loop [3] (fun i => ∃ k : Nat, k ≤ s.size ∧ i = .int .i64 k ∧ Hid ((List.range k).all (lowAt s) = true)) (fun i => s.size - (intOf i).toNat)
  case atStart => exact ⟨0, Nat.zero_le _, rfl, Lib.hid rfl⟩
  case round =>
    obtain ⟨k, hk, rfl, HS⟩ := hrel
    by_cases hlt : k < s.size
    · have hd := lowAt_eq hlt
      have hr : (s[k].toNat : Int) ≤ 255 := by have := s[k].toNat_lt; omega
      have HD := Lib.hid hd
      clear hd
      rcases hb : inR (s[k].toNat : Int) 97 122
      · have HB := Lib.hid hb
        rcases inR_false.1 hb with h | h
        all_goals
          clear hb
          go_wp2
          go_ret
          exact ⟨ret_bool (by unfold isWord; rw [range_all_false hlt (by rw [HD.out, HB.out])]; simp), rfl⟩
      · have HB := Lib.hid hb
        obtain ⟨g1, g2⟩ := inR_iff.1 hb
        clear hb
        go_wp2
        go_round
        case rel => exact ⟨k + 1, by omega, by go_num, Lib.hid (range_all_succ HS.out (by rw [HD.out, HB.out]))⟩
        case measure => simp [intOf]; omega
    · obtain rfl : k = s.size := by omega
      go_wp2_with (go_at_call 33; refine (l01In_any _ _ _ _).mono ?_; rintro e w' ⟨rfl, rfl⟩)
      go_ret
      exact ⟨ret_bool (by unfold isWord; rw [HS.out, Bool.and_true]), rfl⟩
theorem iIsWord_eq {s : ByteArray} {b : Bool} (hs : s.size ≤ 9223372036854775807) (h : isWord s = b) (w : World) : Calls Try.prog 75 #[.string s] w fun e w' => e = .returned (.bool b) ∧ w = w' := by
  subst h; exact iIsWord_any _ _ hs
theorem sIsWord_eq {s : ByteArray} {b : Bool} (hs : s.size ≤ 9223372036854775807) (h : isWord s = b) (w : World) : Calls Try.prog 95 #[.string s] w fun e w' => e = .returned (.bool b) ∧ w = w' := by
  subst h; exact sIsWord_any _ _ hs
end Go.Proofs.Ytblaojjpclipaaa
