/- The contract of the reference's function that sets a key in a sheet (chapter 29). No statement of the seat is proved here. -/
import Derived.Test.YtklllcehndfcpaaSetP
namespace Go.Proofs.Ytklllcehndfcpaa
open Go.RowKit
set_option maxHeartbeats 8000000 in
set_option maxRecDepth 20000 in
theorem l29Set_any (v : Value) (ls : List Line) (key : ByteArray) (value : Int) (w : World) (hv : Sl eLine w v ls) (hls : ls.length ≤ 1048576) :
    Calls Try.prog 61 #[v, .string key, .int .i64 value] w fun e w' => ∃ u, e = .returned u ∧ Own eLine w' w.heap.size 72 u (setF ls key value) ∧ Below w.heap.size w w' := by
  obtain ⟨A, cap, rfl, _, hm, hc⟩ := hv.shape
  have HLC := Lib.hid hc
  have HLS := Lib.hid hls
  have HO0 : Hid (Own eLine (w.alloc (.cells #[] 72)) w.heap.size 72 (.slice (some ⟨w.heap.size, 0, none⟩) 0 0) []) := Lib.hid (Own.empty _ _ _ _ (Nat.le_refl _))
  have HB0 : Hid (Below w.heap.size w (w.alloc (.cells #[] 72))) := Lib.hid ((Below.refl _ _).alloc (Nat.le_refl _) _)
  have HE0 : Hid ([] ++ setG key value (ls.drop 0) (value == -1) = setF ls key value) := Lib.hid rfl
  clear hv hc hls
  go_enter Try.func61, Try.ntmps61
  go_wp2
  go_loopg [7, 8, 9] ls.length (fun gi u pl i wr => ∃ (k : Nat) (p : Bool) (out : List Line), k ≤ ls.length ∧ gi = ls.length - k ∧ pl = .bool p ∧ i = .int .i64 k ∧ Hid (out ++ setG key value (ls.drop k) p = setF ls key value) ∧ Hid (out.length ≤ 2 * k) ∧ Hid (Own eLine wr w.heap.size 72 u out) ∧ Hid (Below w.heap.size w wr) ∧ w.heap.size ≤ wr.heap.size)
  case atStart => exact ⟨0, (value == -1), [], Nat.zero_le _, rfl, rfl, rfl, HE0, Lib.hid (by simp), HO0, HB0, HB0.out.size⟩
  case round =>
    obtain ⟨k, p, out, hk, rfl, rfl, rfl, HE, HLN, HO, HB, hs⟩ := hrel
    clear HO0 HB0 HE0
    by_cases hlt : k < ls.length
    · obtain ⟨lb, loff, rfl, hlb, hlcell⟩ := HLC.out (by omega)
      have c0 : wr.cell? ⟨lb, loff + k * 2, none⟩ = some (.string ls[k].key) := (HB.out.cell (p := ⟨lb, loff + k * 2, none⟩) hlb).trans (by simpa [eLine, Nat.add_assoc] using hlcell k hlt 0 _ (by decide) rfl)
      have c1 : wr.cell? ⟨lb, loff + k * 2 + 1, none⟩ = some (.int .i64 ls[k].value) := (HB.out.cell (p := ⟨lb, loff + k * 2 + 1, none⟩) hlb).trans (by simpa [eLine, Nat.add_assoc] using hlcell k hlt 1 _ (by decide) rfl)
      have HST := Lib.hid (setG_step hlt HE.out)
      have HKB : Hid (k ≤ 1048576) := Lib.hid (by have := HLS.out; omega)
      clear hlcell
      generalize ls[k] = x at *
      obtain ⟨lk, lv⟩ := x
      simp only at *
      have C0 := Lib.hid c0
      have C1 := Lib.hid c1
      have GP : Hid True := Lib.hid trivial
      have HO1 := HO
      have HB1 := HB
      have hs1 := hs
      rcases p
      · have g1 := GP.out
        rcases hq : Op.bytesLess lk.toList key.toList
        · have KLE : Hid (keyLe key lk = true) := Lib.hid (by unfold keyLe keyLt; rw [hq]; rfl)
          go_wp2_with (at_builtin; refine wpList_app eLine rfl _ _ 46 (by rfl) 72 (.agg #[.string ⟨#[]⟩, .int .i64 0]) 24 Try.underlying46 info_Line rfl (by decide) (by decide) w.heap.size _ out (by rfl) (by exact HO1.out) (by exact (by have := HLN.out; have := HKB.out; omega)) (by exact hs1) ⟨key, value⟩ _ (by rfl) _ (by rfl) (by first | rfl | simp) ?_)
          intro v1 w1x hown1 hbw1 hg1 hor1 hs1
          have z0 : w1x.cell? ⟨lb, loff + k * 2, none⟩ = some (.string lk) := (hbw1.cell (p := ⟨lb, loff + k * 2, none⟩) hlb).trans C0.out
          have z1 : w1x.cell? ⟨lb, loff + k * 2 + 1, none⟩ = some (.int .i64 lv) := (hbw1.cell (p := ⟨lb, loff + k * 2 + 1, none⟩) hlb).trans C1.out
          have HOA := Lib.hid hown1
          have HBA := Lib.hid (HB1.out.trans hbw1)
          have hsA := HBA.out.size
          clear hown1 hbw1 hg1 hor1 hs1
          rcases he : (lk.toList == key.toList)
          · have KP : Hid (isKeyP key ⟨lk, lv⟩ = false) := Lib.hid he
            go_wp2_with (at_builtin; refine wpList_app eLine rfl _ _ 46 (by rfl) 72 (.agg #[.string ⟨#[]⟩, .int .i64 0]) 24 Try.underlying46 info_Line rfl (by decide) (by decide) w.heap.size _ (out ++ [(⟨key, value⟩ : Line)]) (by rfl) (by exact HOA.out) (by exact (by have := HLN.out; have := HKB.out; simp only [List.length_append, List.length_cons, List.length_nil]; omega)) (by exact hsA) ⟨lk, lv⟩ _ (by rfl) _ (by rfl) (by first | rfl | simp) ?_)
            intro v2 w2x hown2 hbw2 hg2 hor2 hs2
            have HE2 : Hid (out ++ [(⟨key, value⟩ : Line), ⟨lk, lv⟩] ++ setG key value (ls.drop (k + 1)) true = setF ls key value) := Lib.hid (by have h := HST.out; rw [KLE.out, KP.out] at h; simpa using h)
            have HL2 : Hid ((out ++ [(⟨key, value⟩ : Line), ⟨lk, lv⟩]).length ≤ 2 * (k + 1)) := Lib.hid (by have := HLN.out; first | omega | (simp only [List.length_append, List.length_cons, List.length_nil]; omega))
            have HON : Hid (Own eLine _ w.heap.size 72 _ (out ++ [(⟨key, value⟩ : Line), ⟨lk, lv⟩])) := Lib.hid (by simpa using hown2)
            have HBN := Lib.hid (HBA.out.trans hbw2)
            have hsN := HBN.out.size
            clear HE HST HLN hown2 hbw2 hg2 hor2 hs2 HOA HBA HO HB HO1 HB1
            go_wp2
            go_roundg (ls.length - (k + 1))
            case measure => omega
            case rel => exact ⟨k + 1, true, _, by omega, rfl, rfl, by go_num, HE2, HL2, HON, HBN, hsN⟩
          · have KP : Hid (isKeyP key ⟨lk, lv⟩ = true) := Lib.hid he
            have HE2 : Hid (out ++ [(⟨key, value⟩ : Line)] ++ setG key value (ls.drop (k + 1)) true = setF ls key value) := Lib.hid (by have h := HST.out; rw [KLE.out, KP.out] at h; simpa using h)
            have HL2 : Hid ((out ++ [(⟨key, value⟩ : Line)]).length ≤ 2 * (k + 1)) := Lib.hid (by have := HLN.out; first | omega | (simp only [List.length_append, List.length_cons, List.length_nil]; omega))
            have HON : Hid (Own eLine _ w.heap.size 72 _ (out ++ [(⟨key, value⟩ : Line)])) := Lib.hid (HOA.out)
            have HBN := Lib.hid (HBA.out)
            have hsN := HBN.out.size
            clear HE HST HLN HOA HBA HO HB HO1 HB1
            go_wp2
            go_roundg (ls.length - (k + 1))
            case measure => omega
            case rel => exact ⟨k + 1, true, _, by omega, rfl, rfl, by go_num, HE2, HL2, HON, HBN, hsN⟩
        · have KLE : Hid (keyLe key lk = false) := Lib.hid (by unfold keyLe keyLt; rw [hq]; rfl)
          rcases he : (lk.toList == key.toList)
          · have KP : Hid (isKeyP key ⟨lk, lv⟩ = false) := Lib.hid he
            go_wp2_with (at_builtin; refine wpList_app eLine rfl _ _ 46 (by rfl) 72 (.agg #[.string ⟨#[]⟩, .int .i64 0]) 24 Try.underlying46 info_Line rfl (by decide) (by decide) w.heap.size _ out (by rfl) (by exact HO1.out) (by exact (by have := HLN.out; have := HKB.out; omega)) (by exact hs1) ⟨lk, lv⟩ _ (by rfl) _ (by rfl) (by first | rfl | simp) ?_)
            intro v2 w2x hown2 hbw2 hg2 hor2 hs2
            have hsz := HB1.out.size
            have HE2 : Hid (out ++ [(⟨lk, lv⟩ : Line)] ++ setG key value (ls.drop (k + 1)) false = setF ls key value) := Lib.hid (by have h := HST.out; rw [KLE.out, KP.out] at h; simpa using h)
            have HL2 : Hid ((out ++ [(⟨lk, lv⟩ : Line)]).length ≤ 2 * (k + 1)) := Lib.hid (by have := HLN.out; first | omega | (simp only [List.length_append, List.length_cons, List.length_nil]; omega))
            have HON : Hid (Own eLine _ w.heap.size 72 _ (out ++ [(⟨lk, lv⟩ : Line)])) := Lib.hid (hown2)
            have HBN := Lib.hid (HB1.out.trans hbw2)
            have hsN := HBN.out.size
            clear HE HST HLN hown2 hbw2 hg2 hor2 hs2 hsz HO HB HO1 HB1
            go_wp2
            go_roundg (ls.length - (k + 1))
            case measure => omega
            case rel => exact ⟨k + 1, false, _, by omega, rfl, rfl, by go_num, HE2, HL2, HON, HBN, hsN⟩
          · have KP : Hid (isKeyP key ⟨lk, lv⟩ = true) := Lib.hid he
            have HE2 : Hid (out ++ setG key value (ls.drop (k + 1)) false = setF ls key value) := Lib.hid (by have h := HST.out; rw [KLE.out, KP.out] at h; simpa using h)
            have HL2 : Hid ((out).length ≤ 2 * (k + 1)) := Lib.hid (by have := HLN.out; first | omega | (simp only [List.length_append, List.length_cons, List.length_nil]; omega))
            have HON : Hid (Own eLine _ w.heap.size 72 _ (out)) := Lib.hid (HO1.out)
            have HBN := Lib.hid (HB1.out)
            have hsN := HBN.out.size
            clear HE HST HLN HO HB HO1 HB1
            go_wp2
            go_roundg (ls.length - (k + 1))
            case measure => omega
            case rel => exact ⟨k + 1, false, _, by omega, rfl, rfl, by go_num, HE2, HL2, HON, HBN, hsN⟩
      · have g1 := GP.out
        rcases he : (lk.toList == key.toList)
        · have KP : Hid (isKeyP key ⟨lk, lv⟩ = false) := Lib.hid he
          go_wp2_with (at_builtin; refine wpList_app eLine rfl _ _ 46 (by rfl) 72 (.agg #[.string ⟨#[]⟩, .int .i64 0]) 24 Try.underlying46 info_Line rfl (by decide) (by decide) w.heap.size _ out (by rfl) (by exact HO1.out) (by exact (by have := HLN.out; have := HKB.out; omega)) (by exact hs1) ⟨lk, lv⟩ _ (by rfl) _ (by rfl) (by first | rfl | simp) ?_)
          intro v2 w2x hown2 hbw2 hg2 hor2 hs2
          have hsz := HB1.out.size
          have HE2 : Hid (out ++ [(⟨lk, lv⟩ : Line)] ++ setG key value (ls.drop (k + 1)) true = setF ls key value) := Lib.hid (by have h := HST.out; rw [KP.out] at h; simpa using h)
          have HL2 : Hid ((out ++ [(⟨lk, lv⟩ : Line)]).length ≤ 2 * (k + 1)) := Lib.hid (by have := HLN.out; first | omega | (simp only [List.length_append, List.length_cons, List.length_nil]; omega))
          have HON : Hid (Own eLine _ w.heap.size 72 _ (out ++ [(⟨lk, lv⟩ : Line)])) := Lib.hid (hown2)
          have HBN := Lib.hid (HB1.out.trans hbw2)
          have hsN := HBN.out.size
          clear HE HST HLN hown2 hbw2 hg2 hor2 hs2 hsz HO HB HO1 HB1
          go_wp2
          go_roundg (ls.length - (k + 1))
          case measure => omega
          case rel => exact ⟨k + 1, true, _, by omega, rfl, rfl, by go_num, HE2, HL2, HON, HBN, hsN⟩
        · have KP : Hid (isKeyP key ⟨lk, lv⟩ = true) := Lib.hid he
          have HE2 : Hid (out ++ setG key value (ls.drop (k + 1)) true = setF ls key value) := Lib.hid (by have h := HST.out; rw [KP.out] at h; simpa using h)
          have HL2 : Hid ((out).length ≤ 2 * (k + 1)) := Lib.hid (by have := HLN.out; first | omega | (simp only [List.length_append, List.length_cons, List.length_nil]; omega))
          have HON : Hid (Own eLine _ w.heap.size 72 _ (out)) := Lib.hid (HO1.out)
          have HBN := Lib.hid (HB1.out)
          have hsN := HBN.out.size
          clear HE HST HLN HO HB HO1 HB1
          go_wp2
          go_roundg (ls.length - (k + 1))
          case measure => omega
          case rel => exact ⟨k + 1, true, _, by omega, rfl, rfl, by go_num, HE2, HL2, HON, HBN, hsN⟩
    · obtain rfl : k = ls.length := by omega
      have HE1 := HE.out
      rw [List.drop_eq_nil_of_le (Nat.le_refl _)] at HE1
      have HE2 := Lib.hid HE1
      clear HE HE1
      rcases p
      · have HF : Hid (out ++ [(⟨key, value⟩ : Line)] = setF ls key value) := Lib.hid HE2.out
        have hln : out.length ≤ 1000000000 := by have := HLN.out; have := HLS.out; omega
        go_wp2_with (at_builtin; refine wpList_app eLine rfl _ _ 46 (by rfl) 72 (.agg #[.string ⟨#[]⟩, .int .i64 0]) 24 Try.underlying46 info_Line rfl (by decide) (by decide) w.heap.size _ out (by rfl) (by exact HO.out) (by exact hln) (by exact hs) ⟨key, value⟩ _ (by rfl) _ (by rfl) (by first | rfl | simp) ?_)
        intro v2 w2x hown2 hbw2 hg2 hor2 hs2
        have HOF : Hid (Own eLine w2x w.heap.size 72 v2 (setF ls key value)) := Lib.hid (by rw [← HF.out]; exact hown2)
        have HBF := Lib.hid (HB.out.trans hbw2)
        have hsF := HBF.out.size
        clear hown2 hbw2 hg2 hor2 hs2 HO HB HE2 HF HLN
        go_wp2
        go_ret
        exact ⟨_, rfl, HOF.out, HBF.out⟩
      · have HF : Hid (out = setF ls key value) := Lib.hid (by have h := HE2.out; simpa [setG] using h)
        have HOF : Hid (Own eLine wr w.heap.size 72 u7 (setF ls key value)) := Lib.hid (by rw [← HF.out]; exact HO.out)
        have HBF := HB
        have hsF := HBF.out.size
        clear HO HB HE2 HF HLN
        go_wp2
        go_ret
        exact ⟨_, rfl, HOF.out, HBF.out⟩
end Go.Proofs.Ytklllcehndfcpaa
