/- Contracts of the functions that compare lists of strings, overwrite them by marks and look whether the marks stand. No statement of the seat is proved here. -/
import Derived.Test.YtncggcbpbejmcaaMarks
import Derived.Test.YtncggcbpbejmcaaStructs
namespace Go.Proofs.Ytncggcbpbejmcaa
open Go.RowKit

def eS : Enc ByteArray := ⟨fun x => [.string x], 1, fun _ => rfl, fun x u hu => by simp at hu; subst hu; rfl⟩
theorem eS_all (xs : List ByteArray) : eS.all xs = xs.map Value.string := by
  induction xs with
  | nil => rfl
  | cons x xs ih => simp only [Enc.all, eS, List.flatMap_cons, List.map_cons] at *; rw [ih]; rfl
theorem info_str : (Try.prog.info? 9).map (fun i => (i.zero, i.size, i.bytes)) = some (some (.string ⟨#[]⟩), 1, 16) := by kernel_rfl
theorem Strs.shape {w : World} {v : Value} {xs : List ByteArray} (h : Sl eS w v xs) : ∃ A cap, v = .slice A xs.length cap ∧ xs.length ≤ cap ∧ xs.length ≤ 1099511627776 ∧
    (0 < xs.length → ∃ b off, A = some ⟨b, off, none⟩ ∧ b < w.heap.size ∧ ∀ (k : Nat) (hk : k < xs.length), w.cell? ⟨b, off + k, none⟩ = some (.string xs[k])) := by
  obtain ⟨A, cap, rfl, hc, hl, h3⟩ := Sl.shape h
  refine ⟨A, cap, rfl, hc, hl, fun hn => ?_⟩
  obtain ⟨b, off, e, hb, hx⟩ := h3 hn
  exact ⟨b, off, e, hb, fun k hk => by simpa [eS] using hx k hk 0 _ (by decide) rfl⟩
set_option maxHeartbeats 400000 in
theorem eqStringS_same (v u : Value) (xs : List ByteArray) (w : World) (hv : Sl eS w v xs) (hu : Sl eS w u xs) :
    Calls Try.prog 50 #[v, u] w fun e w' => e = .returned (.bool true) ∧ Below w.heap.size w w' := by
  refine toB_draw ?_
  obtain ⟨A, cap, rfl, _, hm, hc⟩ := Strs.shape hv
  obtain ⟨A', cap', rfl, _, hm', hc'⟩ := Strs.shape hu
  go_enter Try.func50, Try.ntmps50
  go_wp2
  go_loopw [5] (fun i wr => ∃ k : Nat, k ≤ xs.length ∧ i = .int .i64 k ∧ Hid (∃ m, wr = w.drewN m)) (fun i _ => xs.length - (intOf i).toNat)
  case atStart => exact ⟨0, Nat.zero_le _, rfl, Lib.hid ⟨0, rfl⟩⟩
  case round =>
    obtain ⟨k, hk, rfl, HW⟩ := hrel
    obtain ⟨m, rfl⟩ := HW.out
    by_cases hlt : k < xs.length
    · obtain ⟨b, off, rfl, _, hcell⟩ := hc (by omega)
      obtain ⟨b', off', rfl, _, hcell'⟩ := hc' (by omega)
      have hck := hcell k hlt
      have hck' := hcell' k hlt
      clear hcell hcell' hc hc'
      go_wp2
      go_quiet (fail)
      go_wp2
      go_roundw
      case rel => exact ⟨k + 1, by omega, by go_num, Lib.hid ⟨_, rfl⟩⟩
      case measure => simp [intOf]; omega
    · go_wp2
      go_ret
      exact ⟨rfl, _, rfl⟩
def mfS (m : Int) (i : Nat) : ByteArray := markT (m.toNat + i)
def mkStringS (xs : List ByteArray) (m : Int) : List ByteArray := (List.range xs.length).map (mfS m)
def cntStringS (xs : List ByteArray) : Nat := xs.length
theorem mkStringS_len (xs : List ByteArray) (m : Int) : (mkStringS xs m).length = xs.length := mkA_len _ _
theorem cntStringS_le (xs : List ByteArray) (h : xs.length ≤ 1048576) : cntStringS xs ≤ 10000000 := by unfold cntStringS; omega
theorem mfS_eq {m : Int} {k r : Nat} (h : (r : Int) = m + k) (h1 : 1 ≤ m) : mfS m k = markT r := by
  unfold mfS
  have e : m.toNat + k = r := by omega
  rw [e]
set_option maxHeartbeats 1000000 in
set_option maxRecDepth 10000 in
theorem markStringS_law (v : Value) (xs : List ByteArray) (m : Int) (base : Nat) (w : World) (hv : Own eS w base 9 v xs) (hn : xs.length ≤ 1048576) (hm0 : 1 ≤ m) (hm1 : m ≤ 1000000000000) :
    Calls Try.prog 51 #[v, .int .i64 m] w fun e w' => e = .returned (.int .i64 (m + (cntStringS xs : Nat))) ∧ Own eS w' base 9 v (mkStringS xs m) ∧ w.grownBy w' v.ownBlock := by
  by_cases hz : xs.length = 0
  · have hx : xs = [] := List.eq_nil_of_length_eq_zero hz
    subst hx
    obtain ⟨A, cap, rfl, _, _, _⟩ := Sl.shape (Sl.of_own hv (by simp [big40]))
    have HV := Lib.hid hv
    clear hv hz
    go_enter Try.func51, Try.ntmps51
    go_wp2
    refine wp_loop_rounds 1 ?_
    rw [rounds_succ]
    go_wp2
    go_ret
    exact ⟨ret_int (by simp [cntStringS]), HV.out, World.grownBy.refl _ _⟩
  · obtain ⟨g, cap, rfl, hbg, hgl⟩ := World.ownsRow.form hv (by omega)
    have hv0 : Own eS w base 9 (.slice (some ⟨g, 0, none⟩) xs.length cap) (mkd (mfS m) xs 0) := by rw [mkd_zero]; exact hv
    have hg0 : w.grownBy w (some g) := World.grownBy.refl _ _
    obtain ⟨mn, rfl⟩ : ∃ mn : Nat, m = (mn : Int) := ⟨m.toNat, by omega⟩
    clear hv hz
    go_enter Try.func51, Try.ntmps51
    go_wp2
    go_loopg [5, 1] xs.length (fun gi i q wr => ∃ (k r : Nat), k ≤ xs.length ∧ gi = xs.length - k ∧ i = .int .i64 k ∧ q = .int .i64 r ∧ Hid ((r : Int) = (mn : Int) + k) ∧ Own eS wr base 9 (.slice (some ⟨g, 0, none⟩) xs.length cap) (mkd (mfS mn) xs k) ∧ w.grownBy wr (some g))
    case atStart => exact ⟨0, mn, Nat.zero_le _, rfl, rfl, rfl, Lib.hid (by omega), hv0, hg0⟩
    case round =>
      obtain ⟨k, r, hk, rfl, rfl, rfl, HR, hown, hg⟩ := hrel
      clear hv0 hg0
      have hr := HR.out
      have hr0 : 0 < r := by omega
      have hr1 : r ≤ 10000000000 * 1000 := by omega
      clear hr
      by_cases hlt : k < xs.length
      · have HX := Lib.hid (mfS_eq HR.out hm0)
        go_wp2_with fail
        refine (markText_law r wr (by omega) (by omega)).mono ?_
        rintro e w2 ⟨rfl, hb2⟩
        replace hg := grown_below hg hb2
        replace hown := hown.below hb2
        clear hb2
        have hown' : w2.ownsRow base 9 1 (.slice (some ⟨g, 0, none⟩) xs.length cap) xs.length ((mkd (mfS mn) xs k).map Value.string) := by
          unfold Own at hown; rw [mkd_len _ _ _ hk, eS_all] at hown; exact hown
        obtain ⟨o0, hd0⟩ : ∃ u, w2.cell? ⟨g, k, none⟩ = some u := by
          rw [hown'.cellAt k (by omega), List.getElem?_eq_getElem (by rw [List.length_map, mkd_len _ _ _ hk]; exact hlt)]
          exact ⟨_, rfl⟩
        have hf0 : w2.frozen? ⟨g, k, none⟩ = false := hown'.frozenAt k
        have HN := Lib.hid (hown'.stored k (.string (markT r)))
        have HG := Lib.hid hg
        clear hown hown' hg
        go_wp2
        go_roundg (xs.length - (k + 1))
        case measure => omega
        case rel =>
          refine ⟨k + 1, r + 1, by omega, rfl, by go_num, by go_num, Lib.hid (by have := HR.out; omega), ?_, grown_step HG.out HN.out.2⟩
          unfold Own
          rw [mkd_len _ _ _ (by omega), eS_all, ← mkd_succ _ _ k hlt, List.map_set, HX.out]
          exact HN.out.1
      · obtain rfl : k = xs.length := by omega
        have HO := Lib.hid hown
        have HG := Lib.hid hg
        clear hown hg
        go_wp2
        go_ret
        refine ⟨ret_int (by have := HR.out; unfold cntStringS; omega), ?_, HG.out⟩
        have h := HO.out
        rw [mkd_all] at h
        unfold Own at h ⊢
        rw [mkA_len] at h
        rw [mkStringS_len]
        exact h
set_option maxHeartbeats 1000000 in
set_option maxRecDepth 10000 in
theorem heldStringS_law (v : Value) (xs : List ByteArray) (m : Int) (w : World) (hv : Sl eS w v (mkStringS xs m)) (hn : xs.length ≤ 1048576) (hm0 : 1 ≤ m) (hm1 : m ≤ 1000000000000) :
    Calls Try.prog 52 #[v, .int .i64 m] w fun e w' => e = .returned (.int .i64 (m + (cntStringS xs : Nat))) ∧ Below w.heap.size w w' := by
  obtain ⟨A, cap, e0, _, _, hc⟩ := Strs.shape hv
  rw [mkStringS_len] at e0
  subst e0
  obtain ⟨mn, rfl⟩ : ∃ mn : Nat, m = (mn : Int) := ⟨m.toNat, by omega⟩
  clear hv
  go_enter Try.func52, Try.ntmps52
  go_wp2
  go_loopg [5, 1] xs.length (fun gi i q wr => ∃ (k r : Nat), k ≤ xs.length ∧ gi = xs.length - k ∧ i = .int .i64 k ∧ q = .int .i64 r ∧ Hid ((r : Int) = (mn : Int) + k) ∧ Below w.heap.size w wr ∧ w.heap.size ≤ wr.heap.size)
  case atStart => exact ⟨0, mn, Nat.zero_le _, rfl, rfl, rfl, Lib.hid (by omega), Below.refl _ _, Nat.le_refl _⟩
  case round =>
    obtain ⟨k, r, hk, rfl, rfl, rfl, HR, hb, hs⟩ := hrel
    have hr := HR.out
    have hr0 : 0 < r := by omega
    have hr1 : r ≤ 10000000000 * 1000 := by omega
    clear hr
    by_cases hlt : k < xs.length
    · have hlt2 : k < (mkStringS xs mn).length := by rw [mkStringS_len]; exact hlt
      obtain ⟨b, off, rfl, hbl, hcell⟩ := hc (by omega)
      have hat : (mkStringS xs mn)[k] = markT r := (mkA_at _ _ k hlt2).trans (mfS_eq HR.out hm0)
      have c0 : wr.cell? ⟨b, off + k, none⟩ = some (.string (markT r)) := (hb.cell (p := ⟨b, off + k, none⟩) hbl).trans (by have h := hcell k hlt2; rw [hat] at h; exact h)
      clear hc hcell hat hlt2
      have hblw : b < wr.heap.size := Nat.lt_of_lt_of_le hbl hs
      have HB := Lib.hid hb
      clear hb
      go_wp2
      go_region_held3 (fun w' => w'.cell? ⟨b, off + k, none⟩ = some (.string (markT r))) (first | exact c0 | exact (hb3.cell (p := ⟨b, off + k, none⟩) hblw).trans c0)
        (first | (go_at_call 82; refine (markText_law r _ (by omega) (by omega)).mono ?_; rintro e w3 ⟨rfl, hb3⟩))
      have hb4 := below_step2 HB.out.drew hb3 hs
      have hs4 := hb4.size
      clear hb3
      go_wp2
      go_roundg (xs.length - (k + 1))
      case measure => omega
      case rel => exact ⟨k + 1, r + 1, by omega, rfl, by go_num, by go_num, Lib.hid (by have := HR.out; omega), hb4, hs4⟩
    · obtain rfl : k = xs.length := by omega
      have HB := Lib.hid hb
      clear hb
      go_wp2
      go_ret
      exact ⟨ret_int (by have := HR.out; unfold cntStringS; omega), HB.out⟩
end Go.Proofs.Ytncggcbpbejmcaa
