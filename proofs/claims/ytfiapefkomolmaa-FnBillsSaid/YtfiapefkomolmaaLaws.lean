/- Contracts of the small functions of the statements' file: big, likeInts, sum; and what is known of a code that comes in. No statement of the seat is proved here. -/
import Derived.Test.YtfiapefkomolmaaDraw
import Derived.Test.YtfiapefkomolmaaWords
namespace Go.Proofs.Ytfiapefkomolmaa
open Go.RowKit

theorem IsRow.bytes {w : World} {a : Option Addr} {len cap : Nat} {zs : List Int} (h : IsRow .u8 w a len cap zs) : len ≤ cap ∧ Bytes w a len w.heap.size := by
  rcases h with ⟨rfl, rfl, rfl, rfl⟩ | ⟨x, rfl, h1, h2, h3, h4, h5⟩
  · exact ⟨Nat.le_refl _, fun h => absurd h (by omega)⟩
  · refine ⟨h1, fun hp => ?_⟩
    have h0 := h4 0 (by omega)
    have hs : x.spot = none := by
      have := World.cell?_spot h0
      obtain ⟨b, o, s⟩ := x
      simpa [Addr.add] using this
    have hb := World.block_lt_of_cell? _ _ h0
    rw [add_none hs] at hb
    refine ⟨x.block, x.off, by obtain ⟨b, o, s⟩ := x; simp at hs; subst hs; rfl, hb, fun j hj => ?_⟩
    have hc := h4 j (by omega)
    rw [add_none hs] at hc
    have hw := h5 (zs.getD j 0) (by rw [List.getD_eq_getElem?_getD, List.getElem?_eq_getElem (by omega)]; exact List.getElem_mem _)
    have hbd := bounds_u8 hw
    obtain ⟨q, hq⟩ := Int.eq_ofNat_of_zero_le hbd.1
    exact ⟨q, by omega, by rw [hc, hq]⟩
theorem Ints.lit (w : World) (xs : List Int) (cells : Array Value) (t : TypeId) (h : cells.toList = xs.map (Value.int .i64)) (hl : xs.length ≤ 1000) : Ints (w.alloc (.cells cells t)) (.slice (some ⟨w.heap.size, 0, none⟩) xs.length xs.length) xs := by
  refine ⟨by rw [eI_all]; simp [eI], by unfold big40; omega, _, _, rfl, Nat.le_refl _, fun _ => ⟨w.heap.size, 0, rfl, by simp, fun j u hu => ?_⟩⟩
  rw [Nat.zero_add, World.cell?_alloc_new, ← hu, eI_all, ← h]
  simp
theorem big_any (A : Option Addr) (n cap : Nat) (w : World) (hn : n ≤ 9223372036854775807) :
    Calls Try.prog 49 #[.slice A n cap] w fun e w' => e = .returned (.bool (decide (4096 < n))) ∧ w = w' := by
  by_cases h : 4096 < n
  · have e1 : decide (4096 < n) = true := decide_eq_true h
    rw [e1]
    go_enter Try.func49, Try.ntmps49
    go_wp2
    go_ret
    exact ⟨ret_bool (by simp; omega), rfl⟩
  · have e1 : decide (4096 < n) = false := decide_eq_false h
    rw [e1]
    go_enter Try.func49, Try.ntmps49
    go_wp2
    go_ret
    exact ⟨ret_bool (by simp; omega), rfl⟩
end Go.Proofs.Ytfiapefkomolmaa
