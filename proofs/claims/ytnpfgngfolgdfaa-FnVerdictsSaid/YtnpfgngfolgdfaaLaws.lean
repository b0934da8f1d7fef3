/- Contracts of the small functions of the statements' file: big, likeInts, sum; and what is known of a code that comes in. No statement of the seat is proved here. -/
import Derived.Test.YtnpfgngfolgdfaaDraw
import Derived.Test.YtnpfgngfolgdfaaWords
namespace Go.Proofs.Ytnpfgngfolgdfaa
open Go.RowKit

theorem IsRow.bytes {w : World} {a : Option Addr} {len cap : Nat} {zs : List Int} (h : IsRow .u8 w a len cap zs) : len ≤ cap ∧ Bytes w a len w.heap.size := by
  rcases h with ⟨rfl, rfl, rfl, rfl⟩ | ⟨x, rfl, h1, h2, h3, h4, h5⟩
  · exact ⟨Nat.le_refl _, fun h => absurd h (by omega)⟩
  · refine ⟨h1, fun hp => ?_⟩
    have h0 := h4 0 (by omega)
    have hs : x.spot = none := by
      have := World.cell?_spot h0
      obtain ⟨b, o, s⟩ := x
      simpa [Addr.add] using this
    have hb := World.block_lt_of_cell? _ _ h0
    rw [add_none hs] at hb
    refine ⟨x.block, x.off, by obtain ⟨b, o, s⟩ := x; simp at hs; subst hs; rfl, hb, fun j hj => ?_⟩
    have hc := h4 j (by omega)
    rw [add_none hs] at hc
    have hw := h5 (zs.getD j 0) (by rw [List.getD_eq_getElem?_getD, List.getElem?_eq_getElem (by omega)]; exact List.getElem_mem _)
    have hbd := bounds_u8 hw
    obtain ⟨q, hq⟩ := Int.eq_ofNat_of_zero_le hbd.1
    exact ⟨q, by omega, by rw [hc, hq]⟩
theorem Ints.lit (w : World) (xs : List Int) (cells : Array Value) (t : TypeId) (h : cells.toList = xs.map (Value.int .i64)) (hl : xs.length ≤ 1000) : Ints (w.alloc (.cells cells t)) (.slice (some ⟨w.heap.size, 0, none⟩) xs.length xs.length) xs := by
  refine ⟨by rw [eI_all]; simp [eI], by unfold big40; omega, _, _, rfl, Nat.le_refl _, fun _ => ⟨w.heap.size, 0, rfl, by simp, fun j u hu => ?_⟩⟩
  rw [Nat.zero_add, World.cell?_alloc_new, ← hu, eI_all, ← h]
  simp
theorem big_any (A : Option Addr) (n cap : Nat) (w : World) (hn : n ≤ 9223372036854775807) :
    Calls Try.prog 47 #[.slice A n cap] w fun e w' => e = .returned (.bool (decide (4096 < n))) ∧ w = w' := by
  by_cases h : 4096 < n
  · have e1 : decide (4096 < n) = true := decide_eq_true h
    rw [e1]
    go_enter Try.func47, Try.ntmps47
    go_wp2
    go_ret
    exact ⟨ret_bool (by simp; omega), rfl⟩
  · have e1 : decide (4096 < n) = false := decide_eq_false h
    rw [e1]
    go_enter Try.func47, Try.ntmps47
    go_wp2
    go_ret
    exact ⟨ret_bool (by simp; omega), rfl⟩
set_option maxHeartbeats 400000 in
theorem likeInts_same (v u : Value) (xs : List Int) (w : World) (hv : Ints w v xs) (hu : Ints w u xs) :
    Calls Try.prog 53 #[v, u] w fun e w' => e = .returned (.bool true) ∧ ∃ m, w' = w.drewN m := by
  obtain ⟨A, cap, rfl, _, hm, hc⟩ := Ints.shape hv
  obtain ⟨A', cap', rfl, _, hm', hc'⟩ := Ints.shape hu
  go_enter Try.func53, Try.ntmps53
  go_wp2
  go_loopw [5] (fun i wr => ∃ k : Nat, k ≤ xs.length ∧ i = .int .i64 k ∧ Hid (∃ m, wr = w.drewN m)) (fun i _ => xs.length - (intOf i).toNat)
  case atStart => exact ⟨0, Nat.zero_le _, rfl, Lib.hid ⟨0, rfl⟩⟩
  case round =>
    obtain ⟨k, hk, rfl, HW⟩ := hrel
    obtain ⟨m, rfl⟩ := HW.out
    by_cases hlt : k < xs.length
    · obtain ⟨b, off, rfl, _, hcell⟩ := hc (by omega)
      obtain ⟨b', off', rfl, _, hcell'⟩ := hc' (by omega)
      have hck := hcell k hlt
      have hck' := hcell' k hlt
      clear hcell hcell' hc hc'
      go_wp2
      go_quiet (fail)
      go_wp2
      go_roundw
      case rel => exact ⟨k + 1, by omega, by go_num, Lib.hid ⟨_, rfl⟩⟩
      case measure => simp [intOf]; omega
    · go_wp2
      go_ret
      exact ⟨rfl, _, rfl⟩
def sumTo (xs : List Int) : Nat → Int
  | 0 => 0
  | k + 1 => sumTo xs k + xs.getD k 0
theorem sumTo_bd {xs : List Int} {B : Int} (hB : 0 ≤ B) (h : ∀ k, k < xs.length → -B ≤ xs.getD k 0 ∧ xs.getD k 0 ≤ B) : ∀ k, k ≤ xs.length → -(B * k) ≤ sumTo xs k ∧ sumTo xs k ≤ B * k
  | 0, _ => by simp [sumTo]
  | k + 1, hk => by
    have ih := sumTo_bd hB h k (by omega)
    have h1 := h k (by omega)
    rw [sumTo]
    have e : B * ((k + 1 : Nat) : Int) = B * k + B := by rw [Int.natCast_succ, Int.mul_add, Int.mul_one]
    omega
set_option maxHeartbeats 400000 in
theorem sum_any (v : Value) (xs : List Int) (w : World) (hv : Ints w v xs) (hl : xs.length ≤ 1000000) (hb : ∀ k, k < xs.length → -1000000000000 ≤ xs.getD k 0 ∧ xs.getD k 0 ≤ 1000000000000) :
    Calls Try.prog 57 #[v] w fun e w' => e = .returned (.int .i64 (sumTo xs xs.length)) ∧ w = w' := by
  obtain ⟨A, cap, rfl, _, hm, hc⟩ := Ints.shape hv
  have HB := Lib.hid hb
  clear hb
  go_enter Try.func57, Try.ntmps57
  go_wp2
  go_loop [4, 3] (fun i q => ∃ (k : Nat) (n : Int), k ≤ xs.length ∧ i = .int .i64 k ∧ q = .int .i64 n ∧ Hid (sumTo xs k = n)) (fun i _ => xs.length - (intOf i).toNat)
  case atStart => exact ⟨0, 0, Nat.zero_le _, rfl, rfl, Lib.hid rfl⟩
  case round =>
    obtain ⟨k, n, hk, rfl, rfl, HN⟩ := hrel
    by_cases hlt : k < xs.length
    · obtain ⟨b, off, rfl, _, hcell⟩ := hc (by omega)
      have hck := hcell k hlt
      have hbd := HB.out k hlt
      have hge : xs.getD k 0 = xs[k] := getD_at _ _ _ hlt
      have hsb := sumTo_bd (B := 1000000000000) (by omega) HB.out k hk
      rw [HN.out] at hsb
      rw [hge] at hbd
      have HS : Hid (sumTo xs (k + 1) = n + xs[k]) := Lib.hid (by rw [sumTo, HN.out, hge])
      obtain ⟨s1, s2⟩ := hsb
      obtain ⟨d1, d2⟩ := hbd
      clear hcell hc hge
      generalize xs[k] = y at *
      have hw : IntKind.i64.wrap (n + y) = n + y := IntWalk.i64_in _ (by omega)
      go_wp2
      go_round
      case rel => exact ⟨k + 1, _, by omega, by go_num, rfl, HS⟩
      case measure => simp [intOf]; omega
    · obtain rfl : k = xs.length := by omega
      go_wp2
      go_ret
      exact ⟨ret_int HN.out.symm, rfl⟩
end Go.Proofs.Ytnpfgngfolgdfaa
