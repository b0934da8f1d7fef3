/- The builtin copy where an element has several cells: a law as the kit's for one cell. No statement of the seat is proved here. -/
import Derived.Laws.CopyOwn
import Derived.Test.YtncggcbpbejmcaaAppAll
namespace Go.Proofs.Ytncggcbpbejmcaa
open Go.RowKit

theorem run_copy_cells (P : Program) (w : World) (dT sT ty elem : TypeId) (g o dLen dCap : Nat) (a : Addr) (sLen sCap sz m : Nat) (cur : Array Value) (t : TypeId) (cs : List Value)
    (hu : P.underlying dT = some (.slice elem)) (hs : (P.info? elem).map (·.size) = some sz)
    (hg : w.heap[g]? = some (.cells cur t (0, 0))) (hm : m = Nat.min sLen dLen) (hn : cs.length = m * sz)
    (hsrc : ∀ j v, cs[j]? = some v → w.cell? (a.add j) = some v) (hfit : o + cs.length ≤ cur.size) (h1 : ∀ v ∈ cs, v.oneCell' = true) :
    (Builtin.copy_ #[dT, sT] ty #[.slice (some ⟨g, o, none⟩) dLen dCap, .slice (some a) sLen sCap]).run P w =
      .ok (goInt m) (w.setRow g (cur.toList.take o ++ cs ++ cur.toList.drop (o + cs.length)).toArray) := by
  have hl := run_loadCells_list (P := P) w a cs hsrc
  have hst := run_storeCells_at P g o t cs 0 cur w hg (by simpa using hfit) h1
  cases hq : P.info? elem with
  | none => simp [hq] at hs
  | some i =>
    have hi : i.size = sz := by simpa [hq] using hs
    rw [hn] at hl
    simp [Builtin.copy_, run_underlying hu, Builtin.lenOf, Builtin.firstCells, sizeOf, typeInfo, hq, hi, ← hm, hl, hst]
/-- the cells of the elements from place t on, laid over those from place t + 1 on: the element t stands twice, the last one is gone -/
def shoved {α : Type} (xs : List α) (t : Nat) : List α := xs.take (t + 1) ++ (xs.drop t).take (xs.length - (t + 1))
theorem shoved_len {α : Type} (xs : List α) (t : Nat) (h : t < xs.length) : (shoved xs t).length = xs.length := by simp [shoved]; omega
/-- the part of a slice from an element on -/
theorem Sl.drop {α : Type} {E : Enc α} {w : World} {b off n cap : Nat} {xs : List α} (h : Sl E w (.slice (some ⟨b, off, none⟩) n cap) xs) (k : Nat) (hk : k ≤ n) : Sl E w (.slice (some ⟨b, off + k * E.sz, none⟩) (n - k) (cap - k)) (xs.drop k) := by
  obtain ⟨A', cap', e, hc, hm, h3⟩ := h.shape
  cases e
  have hl : (xs.drop k).length = xs.length - k := by simp
  refine ⟨E.len _, by rw [hl]; unfold big40; omega, some ⟨b, off + k * E.sz, none⟩, cap - k, by rw [hl], by rw [hl]; omega, fun hp => ?_⟩
  rw [hl] at hp
  obtain ⟨_, _, A2, cap2, e2, _, h4⟩ := h
  cases e2
  obtain ⟨b2, off2, e3, hb2, hx⟩ := h4 (by omega)
  cases e3
  refine ⟨b, off + k * E.sz, rfl, hb2, fun j u hu => ?_⟩
  have he : E.all xs = E.all (xs.take k) ++ E.all (xs.drop k) := by unfold Enc.all; rw [← List.flatMap_append, List.take_append_drop]
  have hlt : (E.all (xs.take k)).length = k * E.sz := by rw [E.len, List.length_take, Nat.min_eq_left hk]
  have h5 := hx (k * E.sz + j) u (by rw [he, List.getElem?_append_right (by omega), hlt, show k * E.sz + j - k * E.sz = j by omega]; exact hu)
  rw [Nat.add_assoc]
  exact h5
theorem run_copy_zero (P : Program) (w : World) (dT sT ty elem : TypeId) (d a : Option Addr) (dLen dCap sLen sCap sz : Nat) (hu : P.underlying dT = some (.slice elem)) (hs : (P.info? elem).map (·.size) = some sz) (hn : Nat.min sLen dLen = 0) :
    (Builtin.copy_ #[dT, sT] ty #[.slice d dLen dCap, .slice a sLen sCap]).run P w = .ok (goInt 0) w := by
  cases hq : P.info? elem with
  | none => simp [hq] at hs
  | some i =>
    have hl : ∀ (x : Addr), (loadCells x 0).run P w = .ok #[] w := fun x => by simpa using run_loadCells_list (P := P) w x [] (by simp)
    cases d <;> cases a <;> simp [Builtin.copy_, run_underlying hu, Builtin.lenOf, Builtin.firstCells, sizeOf, typeInfo, hq, hn, storeCells, hl]
theorem Enc.all_append {α : Type} (E : Enc α) (a b : List α) : E.all (a ++ b) = E.all a ++ E.all b := by unfold Enc.all; exact List.flatMap_append
/-- copy(out[t+1:], out[t:]) on a row of the call's own -/
theorem run_shove {α : Type} {E : Enc α} (P : Program) {w : World} {base g n cap : Nat} {t : TypeId} {xs : List α} (h : Own E w base t (.slice (some ⟨g, 0, none⟩) n cap) xs) (k : Nat) (hk : k < n)
    (dT sT ty elem : TypeId) (hu : P.underlying dT = some (.slice elem)) (hs : (P.info? elem).map (·.size) = some E.sz) (dp sp : Option Addr) (dCap sCap : Nat)
    (hpos : 0 < n - (k + 1) → dp = some ⟨g, (k + 1) * E.sz, none⟩ ∧ sp = some ⟨g, k * E.sz, none⟩) :
    ∃ w', (Builtin.copy_ #[dT, sT] ty #[.slice dp (n - (k + 1)) dCap, .slice sp (n - k) sCap]).run P w = .ok (goInt ((n - (k + 1) : Nat) : Int)) w' ∧ Own E w' base t (.slice (some ⟨g, 0, none⟩) n cap) (shoved xs k) ∧ w.grownBy w' (some g) := by
  obtain rfl := h.row
  have hsl := shoved_len xs k hk
  by_cases hz : xs.length - (k + 1) = 0
  · refine ⟨w, ?_, ?_, World.grownBy.refl _ _⟩
    · rw [hz]
      exact run_copy_zero P w dT sT ty elem dp sp 0 dCap _ sCap E.sz hu hs (Nat.min_zero _)
    · have e : shoved xs k = xs := by
        unfold shoved
        rw [hz, List.take_zero, List.append_nil, List.take_of_length_le (by omega)]
      rw [e]; exact h
  · obtain ⟨rfl, rfl⟩ := hpos (by omega)
    have hh : w.ownsRow base t E.sz (.slice (some ⟨g, 0, none⟩) xs.length cap) xs.length (E.all xs) := h
    rcases hh.2 with ⟨h', _⟩ | ⟨g', cap', cur, h', hb, hg, hnc, hcm, hcs, htake⟩
    · simp at h'
    simp only [Value.slice.injEq, Option.some.injEq, Addr.mk.injEq, and_true, true_and] at h'
    obtain ⟨rfl, rfl⟩ := h'
    have hcl : cur.toList.length = cap * E.sz := by rw [Array.length_toList]; exact hcs
    have hlen : (E.all ((xs.drop k).take (xs.length - (k + 1)))).length = (xs.length - (k + 1)) * E.sz := by
      rw [E.len, List.length_take, List.length_drop, Nat.min_eq_left (by omega)]
    have hmul : (k + 1) * E.sz + (xs.length - (k + 1)) * E.sz = xs.length * E.sz := by rw [← Nat.add_mul]; congr 1; omega
    have hle : xs.length * E.sz ≤ cap * E.sz := Nat.mul_le_mul_right _ hnc
    have hsplit : E.all xs = E.all (xs.take k) ++ E.all ((xs.drop k).take (xs.length - (k + 1))) ++ E.all ((xs.drop k).drop (xs.length - (k + 1))) := by
      rw [List.append_assoc, ← Enc.all_append, List.take_append_drop, ← Enc.all_append, List.take_append_drop]
    have hkl : (E.all (xs.take k)).length = k * E.sz := by rw [E.len, List.length_take, Nat.min_eq_left (by omega)]
    have hrun := run_copy_cells P w dT sT ty elem g ((k + 1) * E.sz) (xs.length - (k + 1)) dCap ⟨g, k * E.sz, none⟩ (xs.length - k) sCap E.sz (xs.length - (k + 1)) cur t (E.all ((xs.drop k).take (xs.length - (k + 1)))) hu hs hg
      (by show _ = min (xs.length - k) (xs.length - (k + 1)); omega) hlen (fun j v hv => by
        have hj : j < (E.all ((xs.drop k).take (xs.length - (k + 1)))).length := (List.getElem?_eq_some_iff.1 hv).1
        have ha : (⟨g, k * E.sz, none⟩ : Addr).add j = ⟨g, k * E.sz + j, none⟩ := by unfold Addr.add; split <;> simp_all
        have hkm : k * E.sz ≤ (k + 1) * E.sz := Nat.mul_le_mul_right _ (by omega)
        rw [ha, hh.cellAt _ (by omega), hsplit, List.append_assoc, List.getElem?_append_right (by omega), hkl, show k * E.sz + j - k * E.sz = j by omega, List.getElem?_append_left hj]
        exact hv) (by rw [hlen, hcs]; omega) (fun v hv => by
        unfold Enc.all at hv
        obtain ⟨x, _, hx⟩ := List.mem_flatMap.1 hv
        exact E.one x v hx)
    refine ⟨_, hrun, ⟨E.len _, .inr ⟨g, cap, _, by rw [hsl], hb, setRow_heap w g cur _ t _ hg, by rw [hsl]; exact hnc, hcm, ?_, ?_⟩⟩, ⟨rfl, rfl, rfl, by simp [World.setRow], fun i _ hi => setRow_other w g i _ (fun e => hi (by rw [e]))⟩⟩
    · rw [List.size_toArray, List.length_append, List.length_append, List.length_take, List.length_drop, hcl, hlen]
      omega
    · rw [hsl, List.take_append_of_le_length (by rw [List.length_append, List.length_take, hcl, hlen]; omega), List.take_of_length_le (by rw [List.length_append, List.length_take, hcl, hlen]; omega)]
      unfold shoved
      rw [Enc.all_append]
      congr 1
      have e2 : cur.toList.take ((k + 1) * E.sz) = (E.all xs).take ((k + 1) * E.sz) := by rw [← htake, List.take_take, Nat.min_eq_left (by omega)]
      rw [e2, Enc.take E xs (k + 1) hk]
/-- .. as one step of a region that draws its order -/
theorem step_shove {α : Type} {E : Enc α} {P : Program} {ops : Array Oper} {o : Oper} {a : Act} {w : World} {K : Act → World → Prop} {Q : Exit → Act → World → Prop} {G : Prop} (hgd : o.guard = none) (d s : Operand) (dT sT : TypeId)
    (ho : o.op = .call { callee := .builtin .copy, args := #[d, s], argTypes := #[dT, sT] }) (elem : TypeId) (hu : P.underlying dT = some (.slice elem)) (hsz : (P.info? elem).map (·.size) = some E.sz)
    (base g n cap : Nat) (t : TypeId) (xs : List α) (hown : Own E w base t (.slice (some ⟨g, 0, none⟩) n cap) xs) (k : Nat) (hk : k < n)
    (dp sp : Option Addr) (dLen sLen dCap sCap : Nat) (hd : a.eval d = .slice dp dLen dCap) (hs : a.eval s = .slice sp sLen sCap) (hdl : dLen = n - (k + 1)) (hsl : sLen = n - k)
    (hpos : 0 < n - (k + 1) → dp = some ⟨g, (k + 1) * E.sz, none⟩ ∧ sp = some ⟨g, k * E.sz, none⟩)
    (h : ∀ w', Own E w' base t (.slice (some ⟨g, 0, none⟩) n cap) (shoved xs k) → w.grownBy w' (some g) → K (a.put o.dst (goInt ((n - (k + 1) : Nat) : Int))) w') :
    if Region.wanted o (yielded ops a.tmps) = true then Oper.wp P o a w K Q else G := by
  subst hdl hsl
  have hw : Region.wanted o (yielded ops a.tmps) = true := by simp [Region.wanted, hgd]
  rw [if_pos hw]
  obtain ⟨w', hr, h2, h3⟩ := run_shove P hown k hk dT sT o.type elem hu hsz dp sp dCap sCap hpos
  unfold Oper.wp execOp
  simp only [ho, resolve, invoke, builtin, Sem.run_bind, Sem.run_pure, Result.andThen_ok, List.map_toArray, List.map_cons, List.map_nil, hd, hs, hr]
  exact h w' h2 h3
/-- .. at the list of a region's operations -/
theorem wpList_shove {α : Type} {E : Enc α} {P : Program} {ops : Array Oper} {rest : List Oper} {o : Oper} {a : Act} {w : World} {Q : Exit → Act → World → Prop} (hgd : o.guard = none) (d s : Operand) (dT sT : TypeId)
    (ho : o.op = .call { callee := .builtin .copy, args := #[d, s], argTypes := #[dT, sT] }) (elem : TypeId) (hu : P.underlying dT = some (.slice elem)) (hsz : (P.info? elem).map (·.size) = some E.sz)
    (base g n cap : Nat) (t : TypeId) (xs : List α) (hown : Own E w base t (.slice (some ⟨g, 0, none⟩) n cap) xs) (k : Nat) (hk : k < n)
    (dp sp : Option Addr) (dLen sLen dCap sCap : Nat) (hd : a.eval d = .slice dp dLen dCap) (hs : a.eval s = .slice sp sLen sCap) (hdl : dLen = n - (k + 1)) (hsl : sLen = n - k)
    (hpos : 0 < n - (k + 1) → dp = some ⟨g, (k + 1) * E.sz, none⟩ ∧ sp = some ⟨g, k * E.sz, none⟩)
    (h : ∀ w', Own E w' base t (.slice (some ⟨g, 0, none⟩) n cap) (shoved xs k) → w.grownBy w' (some g) → wpList P ops Q rest (a.put o.dst (goInt ((n - (k + 1) : Nat) : Int))) w') :
    wpList P ops Q (o :: rest) a w := by
  subst hdl hsl
  refine wpList_plain hgd fun K hK => ?_
  obtain ⟨w', hr, h2, h3⟩ := run_shove P hown k hk dT sT o.type elem hu hsz dp sp dCap sCap hpos
  unfold Oper.wp execOp
  simp only [ho, resolve, invoke, builtin, Sem.run_bind, Sem.run_pure, Result.andThen_ok, List.map_toArray, List.map_cons, List.map_nil, hd, hs, hr]
  exact hK _ _ (h w' h2 h3)
end Go.Proofs.Ytncggcbpbejmcaa
