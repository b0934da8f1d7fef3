/- The contract of spec.ReadItem. No statement of the seat is proved here. -/
import Derived.Deep.DrawnRows
import Derived.Test.YtfiapefkomolmaaReadQ
namespace Go.Proofs.Ytfiapefkomolmaa
open Go.RowKit

attribute [local go_sem ↓] Go.wp_at_zero Go.wp_at_succ

theorem first_uniq {s : ByteArray} {c m n : Nat} (h1 : bt s m = c) (h2 : ∀ i, i < m → bt s i ≠ c) (h3 : bt s n = c) (h4 : ∀ i, i < n → bt s i ≠ c) : m = n := by
  rcases Nat.lt_trichotomy m n with h | h | h
  · exact absurd h1 (h4 m h)
  · exact h
  · exact absurd h3 (h2 n h)
set_option maxHeartbeats 8000000 in
set_option maxRecDepth 20000 in
theorem sReadItem_law (s : ByteArray) (w : World) (hs : s.size ≤ 1048576) :
    Calls Try.prog 36 #[.string s] w fun e w' => e = ReadItem_e s ∧ Below w.heap.size w w' := by
  have hzc : ∀ j, (w.alloc (.cells #[.string ⟨#[]⟩, .int .i64 0, .int .i64 0, .bool false] 40)).cell? ⟨w.heap.size, j, none⟩ = #[Value.string (⟨#[]⟩ : ByteArray), .int .i64 0, .int .i64 0, .bool false][j]? := fun j => box_new _ _ _ j
  have hzf : ∀ j, (w.alloc (.cells #[.string ⟨#[]⟩, .int .i64 0, .int .i64 0, .bool false] 40)).frozen? ⟨w.heap.size, j, none⟩ = false := fun j => frozen_box _ _ _ _ (frozen_out _ _ (Nat.le_refl _))
  have HBW : Hid (Below w.heap.size w (w.alloc (.cells #[.string ⟨#[]⟩, .int .i64 0, .int .i64 0, .bool false] 40))) := Lib.hid ((Below.refl _ _).alloc (by simp) _)
  have hsW : w.heap.size < (w.alloc (.cells #[.string ⟨#[]⟩, .int .i64 0, .int .i64 0, .bool false] 40)).heap.size := by simp
  have cz0 : (w.alloc (.cells #[.string ⟨#[]⟩, .int .i64 0, .int .i64 0, .bool false] 40)).cell? ⟨w.heap.size, 0, none⟩ = some (.string ⟨#[]⟩) := (hzc 0).trans rfl
  have czf0 : (w.alloc (.cells #[.string ⟨#[]⟩, .int .i64 0, .int .i64 0, .bool false] 40)).frozen? ⟨w.heap.size, 0, none⟩ = false := hzf 0
  have cz1 : (w.alloc (.cells #[.string ⟨#[]⟩, .int .i64 0, .int .i64 0, .bool false] 40)).cell? ⟨w.heap.size, 1, none⟩ = some (.int .i64 0) := (hzc 1).trans rfl
  have czf1 : (w.alloc (.cells #[.string ⟨#[]⟩, .int .i64 0, .int .i64 0, .bool false] 40)).frozen? ⟨w.heap.size, 1, none⟩ = false := hzf 1
  have cz2 : (w.alloc (.cells #[.string ⟨#[]⟩, .int .i64 0, .int .i64 0, .bool false] 40)).cell? ⟨w.heap.size, 2, none⟩ = some (.int .i64 0) := (hzc 2).trans rfl
  have czf2 : (w.alloc (.cells #[.string ⟨#[]⟩, .int .i64 0, .int .i64 0, .bool false] 40)).frozen? ⟨w.heap.size, 2, none⟩ = false := hzf 2
  have cz3 : (w.alloc (.cells #[.string ⟨#[]⟩, .int .i64 0, .int .i64 0, .bool false] 40)).cell? ⟨w.heap.size, 3, none⟩ = some (.bool false) := (hzc 3).trans rfl
  have czf3 : (w.alloc (.cells #[.string ⟨#[]⟩, .int .i64 0, .int .i64 0, .bool false] 40)).frozen? ⟨w.heap.size, 3, none⟩ = false := hzf 3
  clear hzc hzf
  go_enter Try.func36, Try.ntmps36
  go_wp2
  generalize w.alloc (.cells #[.string ⟨#[]⟩, .int .i64 0, .int .i64 0, .bool false] 40) = W at *
  go_loop [4] (fun i => ∃ k : Nat, k ≤ s.size ∧ i = .int .i64 k ∧ Hid (∀ i, i < k → bt s i ≠ 64)) (fun i => s.size - (intOf i).toNat)
  case atStart => exact ⟨0, Nat.zero_le _, rfl, Lib.hid (fun i h => by omega)⟩
  case round =>
    obtain ⟨k, hk, rfl, HY4⟩ := hrel
    by_cases hlt : k < s.size
    · rcases q1 : ((s[k].toNat : Int) != 64)
      · have y3 : bt s k = 64 := by
          rw [bt_eq hlt]
          have := bne_eq_false_iff_eq.1 q1
          omega
        have y4 := HY4.out
        have Y3 := Lib.hid y3
        clear y3 y4
        go_wp2
        go_loop [5] (fun i => ∃ j : Nat, j ≤ k ∧ i = .int .i64 j ∧ Hid (∀ i, i < j → bt s i ≠ 120)) (fun i => k - (intOf i).toNat)
        case atStart => exact ⟨0, Nat.zero_le _, rfl, Lib.hid (fun i h => by omega)⟩
        case round =>
        obtain ⟨j, hj, rfl, HY2⟩ := hrel
        by_cases hjk : j < k
        rotate_left
        · obtain rfl : j = k := by omega
          have HR := Lib.hid (ReadItem_bad (s := s) (by
            rintro ⟨x, hx, hxs⟩
            have P := parts_of hx
            rw [hxs] at P
            have h1 := first_uniq P.b3 P.b4 Y3.out HY4.out
            exact HY2.out _ (by have := P.ha; omega) P.b1))
          have n9 : ((j : Int) == (j : Int)) = true := by simp
          have hw3 : IntKind.i64.wrap ((j : Int) + 2) = (j : Int) + 2 := IntWalk.i64_in _ (by omega)
          by_cases n3 : (s.size : Int) < (j : Int) + 2
          · skip
            go_wp2
            refine bodyPost_ret (v := .tuple #[.agg #[.string (ReadItem_r s).1.name, .int .i64 (ReadItem_r s).1.pieces, .int .i64 (ReadItem_r s).1.cents, .bool (ReadItem_r s).1.work], .int .i64 (ReadItem_r s).2]) (by rw [HR.out]; simp [results, Try.results36, go_sem, zItem, cz0, cz1, cz2, cz3]; try rfl) rfl ⟨rfl, ?_⟩
            exact ((((HBW.out.setCell (by simp) _).setCell (by simp) _).setCell (by simp) _).setCell (by simp) _)
          · skip
            go_wp2
            refine bodyPost_ret (v := .tuple #[.agg #[.string (ReadItem_r s).1.name, .int .i64 (ReadItem_r s).1.pieces, .int .i64 (ReadItem_r s).1.cents, .bool (ReadItem_r s).1.work], .int .i64 (ReadItem_r s).2]) (by rw [HR.out]; simp [results, Try.results36, go_sem, zItem, cz0, cz1, cz2, cz3]; try rfl) rfl ⟨rfl, ?_⟩
            exact ((((HBW.out.setCell (by simp) _).setCell (by simp) _).setCell (by simp) _).setCell (by simp) _)
        have hjs : j < s.size := by omega
        rcases q2 : ((s[j].toNat : Int) != 120)
        rotate_left
        · have HQ : Hid (bt s j ≠ 120) := Lib.hid (by
            rw [bt_eq hjs]
            have := bne_iff_ne.1 q2
            omega)
          go_wp2
          go_round
          case rel => exact ⟨j + 1, by omega, by go_num, Lib.hid (fun i hi => by
            by_cases h : i = j
            · rw [h]; exact HQ.out
            · exact HY2.out i (by omega))⟩
          case measure => simp [intOf]; omega
        have y1 : bt s j = 120 := by
          rw [bt_eq hjs]
          have := bne_eq_false_iff_eq.1 q2
          omega
        have y2 := HY2.out
        have y3 := Y3.out
        have y4 := HY4.out
        by_cases hv : ∃ x, isItemB x = true ∧ txtI x = s
        rotate_left
        · have HR := Lib.hid (ReadItem_bad hv)
          have HV := Lib.hid hv
          clear hv HY2 HY4 Y3
          have hw3 : IntKind.i64.wrap ((k : Int) + 2) = (k : Int) + 2 := IntWalk.i64_in _ (by omega)
          have n2 : ((j : Int) == (k : Int)) = false := beq_eq_false_iff_ne.2 (by omega)
          by_cases n3 : (s.size : Int) < (k : Int) + 2
          · clear y1 y2 y3 y4
            go_wp2
            refine bodyPost_ret (v := .tuple #[.agg #[.string (ReadItem_r s).1.name, .int .i64 (ReadItem_r s).1.pieces, .int .i64 (ReadItem_r s).1.cents, .bool (ReadItem_r s).1.work], .int .i64 (ReadItem_r s).2]) (by rw [HR.out]; simp [results, Try.results36, go_sem, zItem, cz0, cz1, cz2, cz3]; try rfl) rfl ⟨rfl, ?_⟩
            exact ((((HBW.out.setCell (by simp) _).setCell (by simp) _).setCell (by simp) _).setCell (by simp) _)
          obtain ⟨n, hn⟩ : ∃ n : Nat, s.size = n + 1 := ⟨s.size - 1, by omega⟩
          have hlt12 : j < k := hjk
          have f1 : (0 : Int) ≤ (j : Int) := by omega
          have f2 : (j : Int) ≤ (s.size : Int) := by omega
          have f3 : IntKind.i64.wrap ((k : Int) + 1) = (k : Int) + 1 := IntWalk.i64_in _ (by omega)
          have f4 : IntKind.i64.wrap ((s.size : Int) - 1) = (n : Int) := by rw [IntWalk.i64_in _ (by omega)]; omega
          have f5 : (k : Int) + 1 ≤ (n : Int) := by omega
          have f6 : (n : Int) ≤ (s.size : Int) := by omega
          have f7 : IntKind.i64.wrap ((j : Int) + 1) = (j : Int) + 1 := IntWalk.i64_in _ (by omega)
          have f8 : (j : Int) + 1 ≤ (k : Int) := by omega
          have f9 : (k : Int) ≤ (s.size : Int) := by omega
          have f11 : (0 : Int) ≤ (j : Int) + 1 := by omega
          have f12 : (0 : Int) ≤ (k : Int) := by omega
          have HN := Lib.hid hn
          clear hn y1 y2 y3 y4
          go_wp2_with fail
          refine Calls.mono (l01Value_any _ W (by rw [ByteArray.size_extract]; omega)) ?_
          rintro e W ⟨⟨r1, b1, rfl⟩, hb1⟩
          replace cz0 := (hb1.cell (p := ⟨w.heap.size, 0, none⟩) hsW).trans cz0
          replace czf0 := (hb1.frozen (p := ⟨w.heap.size, 0, none⟩) hsW).trans czf0
          replace cz1 := (hb1.cell (p := ⟨w.heap.size, 1, none⟩) hsW).trans cz1
          replace czf1 := (hb1.frozen (p := ⟨w.heap.size, 1, none⟩) hsW).trans czf1
          replace cz2 := (hb1.cell (p := ⟨w.heap.size, 2, none⟩) hsW).trans cz2
          replace czf2 := (hb1.frozen (p := ⟨w.heap.size, 2, none⟩) hsW).trans czf2
          replace cz3 := (hb1.cell (p := ⟨w.heap.size, 3, none⟩) hsW).trans cz3
          replace czf3 := (hb1.frozen (p := ⟨w.heap.size, 3, none⟩) hsW).trans czf3
          replace HBW := Lib.hid (below_step2 HBW.out hb1 (Nat.le_of_lt hsW))
          replace hsW := Nat.lt_of_lt_of_le hsW hb1.size
          clear hb1
          go_wp2_with fail
          refine Calls.mono (l01Value_any _ W (by rw [ByteArray.size_extract]; omega)) ?_
          rintro e W ⟨⟨r2, b2, rfl⟩, hb1⟩
          replace cz0 := (hb1.cell (p := ⟨w.heap.size, 0, none⟩) hsW).trans cz0
          replace czf0 := (hb1.frozen (p := ⟨w.heap.size, 0, none⟩) hsW).trans czf0
          replace cz1 := (hb1.cell (p := ⟨w.heap.size, 1, none⟩) hsW).trans cz1
          replace czf1 := (hb1.frozen (p := ⟨w.heap.size, 1, none⟩) hsW).trans czf1
          replace cz2 := (hb1.cell (p := ⟨w.heap.size, 2, none⟩) hsW).trans cz2
          replace czf2 := (hb1.frozen (p := ⟨w.heap.size, 2, none⟩) hsW).trans czf2
          replace cz3 := (hb1.cell (p := ⟨w.heap.size, 3, none⟩) hsW).trans cz3
          replace czf3 := (hb1.frozen (p := ⟨w.heap.size, 3, none⟩) hsW).trans czf3
          replace HBW := Lib.hid (below_step2 HBW.out hb1 (Nat.le_of_lt hsW))
          replace hsW := Nat.lt_of_lt_of_le hsW hb1.size
          clear hb1
          have hnn : n < s.size := by have := HN.out; omega
          have hnI : (n : Int) < (s.size : Int) := by omega
          have hn0 : (0 : Int) ≤ (n : Int) := by omega
          go_wp2
          go_region_held3 (fun _ => True) (trivial) (fail)
          all_goals
            have hok : (s.extract (j + 1) k).size ≤ 9223372036854775807 := by rw [ByteArray.size_extract]; omega
            generalize s.extract (j + 1) k = nm at *
            generalize ((s[n].toNat : Int) == 119) = wk at *
            have x0 : (W.alloc (.cells #[.string nm, .int .i64 r1, .int .i64 r2, .bool wk] 40)).drew.cell? ⟨W.heap.size, 0, none⟩ = some (.string nm) := (box_new _ _ _ 0).trans rfl
            have x1 : (W.alloc (.cells #[.string nm, .int .i64 r1, .int .i64 r2, .bool wk] 40)).drew.cell? ⟨W.heap.size, 1, none⟩ = some (.int .i64 r1) := (box_new _ _ _ 1).trans rfl
            have x2 : (W.alloc (.cells #[.string nm, .int .i64 r1, .int .i64 r2, .bool wk] 40)).drew.cell? ⟨W.heap.size, 2, none⟩ = some (.int .i64 r2) := (box_new _ _ _ 2).trans rfl
            have x3 : (W.alloc (.cells #[.string nm, .int .i64 r1, .int .i64 r2, .bool wk] 40)).drew.cell? ⟨W.heap.size, 3, none⟩ = some (.bool wk) := (box_new _ _ _ 3).trans rfl
            have z0 : (W.alloc (.cells #[.string nm, .int .i64 r1, .int .i64 r2, .bool wk] 40)).drew.cell? ⟨w.heap.size, 0, none⟩ = some (.string ⟨#[]⟩) := (box_old W _ _ hsW).trans cz0
            have zf0 : (W.alloc (.cells #[.string nm, .int .i64 r1, .int .i64 r2, .bool wk] 40)).drew.frozen? ⟨w.heap.size, 0, none⟩ = false := frozen_box _ _ _ _ czf0
            have z1 : (W.alloc (.cells #[.string nm, .int .i64 r1, .int .i64 r2, .bool wk] 40)).drew.cell? ⟨w.heap.size, 1, none⟩ = some (.int .i64 0) := (box_old W _ _ hsW).trans cz1
            have zf1 : (W.alloc (.cells #[.string nm, .int .i64 r1, .int .i64 r2, .bool wk] 40)).drew.frozen? ⟨w.heap.size, 1, none⟩ = false := frozen_box _ _ _ _ czf1
            have z2 : (W.alloc (.cells #[.string nm, .int .i64 r1, .int .i64 r2, .bool wk] 40)).drew.cell? ⟨w.heap.size, 2, none⟩ = some (.int .i64 0) := (box_old W _ _ hsW).trans cz2
            have zf2 : (W.alloc (.cells #[.string nm, .int .i64 r1, .int .i64 r2, .bool wk] 40)).drew.frozen? ⟨w.heap.size, 2, none⟩ = false := frozen_box _ _ _ _ czf2
            have z3 : (W.alloc (.cells #[.string nm, .int .i64 r1, .int .i64 r2, .bool wk] 40)).drew.cell? ⟨w.heap.size, 3, none⟩ = some (.bool false) := (box_old W _ _ hsW).trans cz3
            have zf3 : (W.alloc (.cells #[.string nm, .int .i64 r1, .int .i64 r2, .bool wk] 40)).drew.frozen? ⟨w.heap.size, 3, none⟩ = false := frozen_box _ _ _ _ czf3
            have HB2 : Hid (Below w.heap.size w (W.alloc (.cells #[.string nm, .int .i64 r1, .int .i64 r2, .bool wk] 40)).drew) := Lib.hid (HBW.out.alloc (Nat.le_of_lt hsW) _).drew
            have hg2 : w.heap.size < (W.alloc (.cells #[.string nm, .int .i64 r1, .int .i64 r2, .bool wk] 40)).drew.heap.size := by simp; omega
            have hgx : W.heap.size < (W.alloc (.cells #[.string nm, .int .i64 r1, .int .i64 r2, .bool wk] 40)).drew.heap.size := by simp
            generalize (W.alloc (.cells #[.string nm, .int .i64 r1, .int .i64 r2, .bool wk] 40)).drew = V at *
            clear cz0 czf0 cz1 czf1 cz2 czf2 cz3 czf3 HBW hsW
            generalize W.heap.size = gx at *
            rcases b1
            · clear x0 x1 x2 x3
              go_wp2
              refine bodyPost_ret (v := .tuple #[.agg #[.string (ReadItem_r s).1.name, .int .i64 (ReadItem_r s).1.pieces, .int .i64 (ReadItem_r s).1.cents, .bool (ReadItem_r s).1.work], .int .i64 (ReadItem_r s).2]) (by rw [HR.out]; simp [results, Try.results36, go_sem, zItem, z0, z1, z2, z3]; try rfl) rfl ⟨rfl, ?_⟩
              exact ((((HB2.out.setCell (by simp) _).setCell (by simp) _).setCell (by simp) _).setCell (by simp) _)
            rcases b2
            · clear x0 x1 x2 x3
              go_wp2
              refine bodyPost_ret (v := .tuple #[.agg #[.string (ReadItem_r s).1.name, .int .i64 (ReadItem_r s).1.pieces, .int .i64 (ReadItem_r s).1.cents, .bool (ReadItem_r s).1.work], .int .i64 (ReadItem_r s).2]) (by rw [HR.out]; simp [results, Try.results36, go_sem, zItem, z0, z1, z2, z3]; try rfl) rfl ⟨rfl, ?_⟩
              exact ((((HB2.out.setCell (by simp) _).setCell (by simp) _).setCell (by simp) _).setCell (by simp) _)
            go_wp2_with fail
            refine (sItem_any ⟨nm, r1, r2, wk⟩ V hok).mono ?_
            rintro e V2 ⟨rfl, hb2⟩
            replace x0 := (hb2.cell (p := ⟨gx, 0, none⟩) hgx).trans x0
            replace z0 := (hb2.cell (p := ⟨w.heap.size, 0, none⟩) hg2).trans z0
            replace zf0 := (hb2.frozen (p := ⟨w.heap.size, 0, none⟩) hg2).trans zf0
            replace x1 := (hb2.cell (p := ⟨gx, 1, none⟩) hgx).trans x1
            replace z1 := (hb2.cell (p := ⟨w.heap.size, 1, none⟩) hg2).trans z1
            replace zf1 := (hb2.frozen (p := ⟨w.heap.size, 1, none⟩) hg2).trans zf1
            replace x2 := (hb2.cell (p := ⟨gx, 2, none⟩) hgx).trans x2
            replace z2 := (hb2.cell (p := ⟨w.heap.size, 2, none⟩) hg2).trans z2
            replace zf2 := (hb2.frozen (p := ⟨w.heap.size, 2, none⟩) hg2).trans zf2
            replace x3 := (hb2.cell (p := ⟨gx, 3, none⟩) hgx).trans x3
            replace z3 := (hb2.cell (p := ⟨w.heap.size, 3, none⟩) hg2).trans z3
            replace zf3 := (hb2.frozen (p := ⟨w.heap.size, 3, none⟩) hg2).trans zf3
            replace HB2 := Lib.hid (below_step2 HB2.out hb2 (Nat.le_of_lt hg2))
            replace hgx := Nat.lt_of_lt_of_le hgx hb2.size
            replace hg2 := Nat.lt_of_lt_of_le hg2 hb2.size
            clear hb2
            rcases hI : isItemB ⟨nm, r1, r2, wk⟩
            · clear x0 x1 x2 x3 hI
              go_wp2
              refine bodyPost_ret (v := .tuple #[.agg #[.string (ReadItem_r s).1.name, .int .i64 (ReadItem_r s).1.pieces, .int .i64 (ReadItem_r s).1.cents, .bool (ReadItem_r s).1.work], .int .i64 (ReadItem_r s).2]) (by rw [HR.out]; simp [results, Try.results36, go_sem, zItem, z0, z1, z2, z3]; try rfl) rfl ⟨rfl, ?_⟩
              exact ((((HB2.out.setCell (by simp) _).setCell (by simp) _).setCell (by simp) _).setCell (by simp) _)
            have hne : txtI ⟨nm, r1, r2, wk⟩ ≠ s := fun e => HV.out ⟨_, hI, e⟩
            go_wp2_with fail
            refine (l27Text_any ⟨nm, r1, r2, wk⟩ V2 hI).mono ?_
            rintro e V3 ⟨rfl, hb3⟩
            replace x0 := (hb3.cell (p := ⟨gx, 0, none⟩) hgx).trans x0
            replace z0 := (hb3.cell (p := ⟨w.heap.size, 0, none⟩) hg2).trans z0
            replace zf0 := (hb3.frozen (p := ⟨w.heap.size, 0, none⟩) hg2).trans zf0
            replace x1 := (hb3.cell (p := ⟨gx, 1, none⟩) hgx).trans x1
            replace z1 := (hb3.cell (p := ⟨w.heap.size, 1, none⟩) hg2).trans z1
            replace zf1 := (hb3.frozen (p := ⟨w.heap.size, 1, none⟩) hg2).trans zf1
            replace x2 := (hb3.cell (p := ⟨gx, 2, none⟩) hgx).trans x2
            replace z2 := (hb3.cell (p := ⟨w.heap.size, 2, none⟩) hg2).trans z2
            replace zf2 := (hb3.frozen (p := ⟨w.heap.size, 2, none⟩) hg2).trans zf2
            replace x3 := (hb3.cell (p := ⟨gx, 3, none⟩) hgx).trans x3
            replace z3 := (hb3.cell (p := ⟨w.heap.size, 3, none⟩) hg2).trans z3
            replace zf3 := (hb3.frozen (p := ⟨w.heap.size, 3, none⟩) hg2).trans zf3
            replace HB2 := Lib.hid (below_step2 HB2.out hb3 (Nat.le_of_lt hg2))
            replace hgx := Nat.lt_of_lt_of_le hgx hb3.size
            replace hg2 := Nat.lt_of_lt_of_le hg2 hb3.size
            clear hb3
            have HN2 := Lib.hid hne
            clear hI hne
            generalize txtI ⟨nm, r1, r2, wk⟩ = tx at *
            rcases g1 : (tx.toList == s.toList)
            · clear x0 x1 x2 x3
              go_wp2
              refine bodyPost_ret (v := .tuple #[.agg #[.string (ReadItem_r s).1.name, .int .i64 (ReadItem_r s).1.pieces, .int .i64 (ReadItem_r s).1.cents, .bool (ReadItem_r s).1.work], .int .i64 (ReadItem_r s).2]) (by rw [HR.out]; simp [results, Try.results36, go_sem, zItem, z0, z1, z2, z3]; try rfl) rfl ⟨rfl, ?_⟩
              exact ((((HB2.out.setCell (by simp) _).setCell (by simp) _).setCell (by simp) _).setCell (by simp) _)
            · exact absurd (toList_inj (eq_of_beq g1)) HN2.out
        obtain ⟨x, hx, hxs⟩ := hv
        have HR := Lib.hid (ReadItem_ok hx hxs)
        have P := parts_of hx
        rw [hxs] at P
        have HT := Lib.hid hxs
        have HI := Lib.hid hx
        obtain ⟨⟨m0, m1⟩, ⟨p0, p1⟩, c0, c1⟩ := isItem_bd hx
        obtain ⟨nm, pc, ct, wk⟩ := x
        simp only at *
        obtain ⟨p, rfl⟩ := Int.eq_ofNat_of_zero_le (show 0 ≤ pc by omega)
        obtain ⟨q, rfl⟩ := Int.eq_ofNat_of_zero_le (show 0 ≤ ct by omega)
        rw [Int.toNat_natCast, Int.toNat_natCast] at P
        clear hx hxs HY2 HY4 Y3
        obtain ⟨a1, a2, P⟩ : ∃ a1 a2, Parts s (dec p) nm (dec q) wk a1 a2 := ⟨_, _, P⟩
        obtain ⟨hc, ha, hsz, t1, t2, t3, t4, t5, e1, e2, e3⟩ := P
        have dp := dec_pos p
        have dq := dec_pos q
        obtain rfl : a2 = k := first_uniq t3 t4 y3 y4
        obtain rfl : a1 = j := first_uniq t1 (fun i hi => (t2 i hi).1) y1 y2
        obtain ⟨n, hn⟩ : ∃ n : Nat, s.size = n + 1 := ⟨s.size - 1, by omega⟩
        have hnn : n < s.size := by omega
        have q119 : ((s[n].toNat : Int) == 119) = wk := by
          rw [show s.size - 1 = n by omega, bt_eq hnn] at t5
          rw [t5]
          cases wk <;> rfl
        rw [show s.size - 1 = n by omega] at e3
        have E1 := Lib.hid e1
        have E2 := Lib.hid e2
        have E3 := Lib.hid e3
        have n1 : ¬ ((a1 : Int) < 0) := by omega
        have n2 : ((a1 : Int) == (a2 : Int)) = false := beq_eq_false_iff_ne.2 (by omega)
        have hw3 : IntKind.i64.wrap ((a2 : Int) + 2) = (a2 : Int) + 2 := IntWalk.i64_in _ (by omega)
        have n3 : ¬ ((s.size : Int) < (a2 : Int) + 2) := by omega
        have hlt12 : a1 < a2 := by omega
        have hok : nm.size ≤ 9223372036854775807 := by omega
        have dp7 := dec_7 (n := p) (by omega)
        have dq7 := dec_7 (n := q) (by omega)
        have f1 : (0 : Int) ≤ (a1 : Int) := by omega
        have f2 : (a1 : Int) ≤ (s.size : Int) := by omega
        have f3 : IntKind.i64.wrap ((a2 : Int) + 1) = (a2 : Int) + 1 := IntWalk.i64_in _ (by omega)
        have f4 : IntKind.i64.wrap ((s.size : Int) - 1) = (n : Int) := by rw [IntWalk.i64_in _ (by omega)]; omega
        have f5 : (a2 : Int) + 1 ≤ (n : Int) := by omega
        have f6 : (n : Int) ≤ (s.size : Int) := by omega
        have f7 : IntKind.i64.wrap ((a1 : Int) + 1) = (a1 : Int) + 1 := IntWalk.i64_in _ (by omega)
        have f8 : (a1 : Int) + 1 ≤ (a2 : Int) := by omega
        have f9 : (a2 : Int) ≤ (s.size : Int) := by omega
        have f11 : (0 : Int) ≤ (a1 : Int) + 1 := by omega
        have f12 : (0 : Int) ≤ (a2 : Int) := by omega
        have hnI : (n : Int) < (s.size : Int) := by omega
        have hn0 : (0 : Int) ≤ (n : Int) := by omega
        clear hc ha hsz t1 t2 t3 t4 t5 e1 e2 e3 hn y1 y2 y3 y4
        go_wp2_with fail
        rw [E1.out]
        refine (l01Value_ok (dec p) p W (dp) (dp7) (bt_dec p) (dval_dec p) rfl (by omega)).mono ?_
        rintro e W ⟨rfl, hb1⟩
        replace cz0 := (hb1.cell (p := ⟨w.heap.size, 0, none⟩) hsW).trans cz0
        replace czf0 := (hb1.frozen (p := ⟨w.heap.size, 0, none⟩) hsW).trans czf0
        replace cz1 := (hb1.cell (p := ⟨w.heap.size, 1, none⟩) hsW).trans cz1
        replace czf1 := (hb1.frozen (p := ⟨w.heap.size, 1, none⟩) hsW).trans czf1
        replace cz2 := (hb1.cell (p := ⟨w.heap.size, 2, none⟩) hsW).trans cz2
        replace czf2 := (hb1.frozen (p := ⟨w.heap.size, 2, none⟩) hsW).trans czf2
        replace cz3 := (hb1.cell (p := ⟨w.heap.size, 3, none⟩) hsW).trans cz3
        replace czf3 := (hb1.frozen (p := ⟨w.heap.size, 3, none⟩) hsW).trans czf3
        replace HBW := Lib.hid (below_step2 HBW.out hb1 (Nat.le_of_lt hsW))
        replace hsW := Nat.lt_of_lt_of_le hsW hb1.size
        clear hb1
        go_wp2_with fail
        rw [E3.out]
        refine (l01Value_ok (dec q) q W (dq) (dq7) (bt_dec q) (dval_dec q) rfl (by omega)).mono ?_
        rintro e W ⟨rfl, hb1⟩
        replace cz0 := (hb1.cell (p := ⟨w.heap.size, 0, none⟩) hsW).trans cz0
        replace czf0 := (hb1.frozen (p := ⟨w.heap.size, 0, none⟩) hsW).trans czf0
        replace cz1 := (hb1.cell (p := ⟨w.heap.size, 1, none⟩) hsW).trans cz1
        replace czf1 := (hb1.frozen (p := ⟨w.heap.size, 1, none⟩) hsW).trans czf1
        replace cz2 := (hb1.cell (p := ⟨w.heap.size, 2, none⟩) hsW).trans cz2
        replace czf2 := (hb1.frozen (p := ⟨w.heap.size, 2, none⟩) hsW).trans czf2
        replace cz3 := (hb1.cell (p := ⟨w.heap.size, 3, none⟩) hsW).trans cz3
        replace czf3 := (hb1.frozen (p := ⟨w.heap.size, 3, none⟩) hsW).trans czf3
        replace HBW := Lib.hid (below_step2 HBW.out hb1 (Nat.le_of_lt hsW))
        replace hsW := Nat.lt_of_lt_of_le hsW hb1.size
        clear hb1
        go_wp2
        go_region_held3 (fun _ => True) (trivial) (fail)
        all_goals
          rw [E2.out]
          have x0 : (W.alloc (.cells #[.string nm, .int .i64 (p : Int), .int .i64 (q : Int), .bool wk] 40)).drew.cell? ⟨W.heap.size, 0, none⟩ = some (.string nm) := (box_new _ _ _ 0).trans rfl
          have x1 : (W.alloc (.cells #[.string nm, .int .i64 (p : Int), .int .i64 (q : Int), .bool wk] 40)).drew.cell? ⟨W.heap.size, 1, none⟩ = some (.int .i64 (p : Int)) := (box_new _ _ _ 1).trans rfl
          have x2 : (W.alloc (.cells #[.string nm, .int .i64 (p : Int), .int .i64 (q : Int), .bool wk] 40)).drew.cell? ⟨W.heap.size, 2, none⟩ = some (.int .i64 (q : Int)) := (box_new _ _ _ 2).trans rfl
          have x3 : (W.alloc (.cells #[.string nm, .int .i64 (p : Int), .int .i64 (q : Int), .bool wk] 40)).drew.cell? ⟨W.heap.size, 3, none⟩ = some (.bool wk) := (box_new _ _ _ 3).trans rfl
          have z0 : (W.alloc (.cells #[.string nm, .int .i64 (p : Int), .int .i64 (q : Int), .bool wk] 40)).drew.cell? ⟨w.heap.size, 0, none⟩ = some (.string ⟨#[]⟩) := (box_old W _ _ hsW).trans cz0
          have zf0 : (W.alloc (.cells #[.string nm, .int .i64 (p : Int), .int .i64 (q : Int), .bool wk] 40)).drew.frozen? ⟨w.heap.size, 0, none⟩ = false := frozen_box _ _ _ _ czf0
          have z1 : (W.alloc (.cells #[.string nm, .int .i64 (p : Int), .int .i64 (q : Int), .bool wk] 40)).drew.cell? ⟨w.heap.size, 1, none⟩ = some (.int .i64 0) := (box_old W _ _ hsW).trans cz1
          have zf1 : (W.alloc (.cells #[.string nm, .int .i64 (p : Int), .int .i64 (q : Int), .bool wk] 40)).drew.frozen? ⟨w.heap.size, 1, none⟩ = false := frozen_box _ _ _ _ czf1
          have z2 : (W.alloc (.cells #[.string nm, .int .i64 (p : Int), .int .i64 (q : Int), .bool wk] 40)).drew.cell? ⟨w.heap.size, 2, none⟩ = some (.int .i64 0) := (box_old W _ _ hsW).trans cz2
          have zf2 : (W.alloc (.cells #[.string nm, .int .i64 (p : Int), .int .i64 (q : Int), .bool wk] 40)).drew.frozen? ⟨w.heap.size, 2, none⟩ = false := frozen_box _ _ _ _ czf2
          have z3 : (W.alloc (.cells #[.string nm, .int .i64 (p : Int), .int .i64 (q : Int), .bool wk] 40)).drew.cell? ⟨w.heap.size, 3, none⟩ = some (.bool false) := (box_old W _ _ hsW).trans cz3
          have zf3 : (W.alloc (.cells #[.string nm, .int .i64 (p : Int), .int .i64 (q : Int), .bool wk] 40)).drew.frozen? ⟨w.heap.size, 3, none⟩ = false := frozen_box _ _ _ _ czf3
          have HB2 : Hid (Below w.heap.size w (W.alloc (.cells #[.string nm, .int .i64 (p : Int), .int .i64 (q : Int), .bool wk] 40)).drew) := Lib.hid (HBW.out.alloc (Nat.le_of_lt hsW) _).drew
          have hg2 : w.heap.size < (W.alloc (.cells #[.string nm, .int .i64 (p : Int), .int .i64 (q : Int), .bool wk] 40)).drew.heap.size := by simp; omega
          have hgx : W.heap.size < (W.alloc (.cells #[.string nm, .int .i64 (p : Int), .int .i64 (q : Int), .bool wk] 40)).drew.heap.size := by simp
          generalize (W.alloc (.cells #[.string nm, .int .i64 (p : Int), .int .i64 (q : Int), .bool wk] 40)).drew = V at *
          clear cz0 czf0 cz1 czf1 cz2 czf2 cz3 czf3 HBW hsW
          generalize W.heap.size = gx at *
          go_wp2_with fail
          refine (sItem_any ⟨nm, p, q, wk⟩ V hok).mono ?_
          rintro e V2 ⟨rfl, hb2⟩
          rw [HI.out]
          replace x0 := (hb2.cell (p := ⟨gx, 0, none⟩) hgx).trans x0
          replace z0 := (hb2.cell (p := ⟨w.heap.size, 0, none⟩) hg2).trans z0
          replace zf0 := (hb2.frozen (p := ⟨w.heap.size, 0, none⟩) hg2).trans zf0
          replace x1 := (hb2.cell (p := ⟨gx, 1, none⟩) hgx).trans x1
          replace z1 := (hb2.cell (p := ⟨w.heap.size, 1, none⟩) hg2).trans z1
          replace zf1 := (hb2.frozen (p := ⟨w.heap.size, 1, none⟩) hg2).trans zf1
          replace x2 := (hb2.cell (p := ⟨gx, 2, none⟩) hgx).trans x2
          replace z2 := (hb2.cell (p := ⟨w.heap.size, 2, none⟩) hg2).trans z2
          replace zf2 := (hb2.frozen (p := ⟨w.heap.size, 2, none⟩) hg2).trans zf2
          replace x3 := (hb2.cell (p := ⟨gx, 3, none⟩) hgx).trans x3
          replace z3 := (hb2.cell (p := ⟨w.heap.size, 3, none⟩) hg2).trans z3
          replace zf3 := (hb2.frozen (p := ⟨w.heap.size, 3, none⟩) hg2).trans zf3
          replace HB2 := Lib.hid (below_step2 HB2.out hb2 (Nat.le_of_lt hg2))
          replace hgx := Nat.lt_of_lt_of_le hgx hb2.size
          replace hg2 := Nat.lt_of_lt_of_le hg2 hb2.size
          clear hb2
          go_wp2_with fail
          refine (l27Text_any ⟨nm, p, q, wk⟩ V2 HI.out).mono ?_
          rintro e V3 ⟨rfl, hb3⟩
          rw [HT.out]
          replace x0 := (hb3.cell (p := ⟨gx, 0, none⟩) hgx).trans x0
          replace z0 := (hb3.cell (p := ⟨w.heap.size, 0, none⟩) hg2).trans z0
          replace zf0 := (hb3.frozen (p := ⟨w.heap.size, 0, none⟩) hg2).trans zf0
          replace x1 := (hb3.cell (p := ⟨gx, 1, none⟩) hgx).trans x1
          replace z1 := (hb3.cell (p := ⟨w.heap.size, 1, none⟩) hg2).trans z1
          replace zf1 := (hb3.frozen (p := ⟨w.heap.size, 1, none⟩) hg2).trans zf1
          replace x2 := (hb3.cell (p := ⟨gx, 2, none⟩) hgx).trans x2
          replace z2 := (hb3.cell (p := ⟨w.heap.size, 2, none⟩) hg2).trans z2
          replace zf2 := (hb3.frozen (p := ⟨w.heap.size, 2, none⟩) hg2).trans zf2
          replace x3 := (hb3.cell (p := ⟨gx, 3, none⟩) hgx).trans x3
          replace z3 := (hb3.cell (p := ⟨w.heap.size, 3, none⟩) hg2).trans z3
          replace zf3 := (hb3.frozen (p := ⟨w.heap.size, 3, none⟩) hg2).trans zf3
          replace HB2 := Lib.hid (below_step2 HB2.out hb3 (Nat.le_of_lt hg2))
          replace hgx := Nat.lt_of_lt_of_le hgx hb3.size
          replace hg2 := Nat.lt_of_lt_of_le hg2 hb3.size
          clear hb3
          go_wp2
          refine bodyPost_ret (v := .tuple #[.agg #[.string (ReadItem_r s).1.name, .int .i64 (ReadItem_r s).1.pieces, .int .i64 (ReadItem_r s).1.cents, .bool (ReadItem_r s).1.work], .int .i64 (ReadItem_r s).2]) (by rw [HR.out]; simp [results, Try.results36, go_sem, z0, z1, z2, z3]; try rfl) rfl ⟨rfl, ?_⟩
          exact ((((HB2.out.setCell (by simp) _).setCell (by simp) _).setCell (by simp) _).setCell (by simp) _)
      · have HQ : Hid (bt s k ≠ 64) := Lib.hid (by
          rw [bt_eq hlt]
          have := bne_iff_ne.1 q1
          omega)
        go_wp2
        go_round
        case rel => exact ⟨k + 1, by omega, by go_num, Lib.hid (fun i hi => by
          by_cases h : i = k
          · rw [h]; exact HQ.out
          · exact HY4.out i (by omega))⟩
        case measure => simp [intOf]; omega
    · obtain rfl : k = s.size := by omega
      have HR := Lib.hid (ReadItem_bad (s := s) (by
        rintro ⟨x, hx, hxs⟩
        have P := parts_of hx
        rw [hxs] at P
        exact HY4.out _ (by have := P.hs; omega) P.b3))
      have hw3 : IntKind.i64.wrap ((s.size : Int) + 2) = (s.size : Int) + 2 := IntWalk.i64_in _ (by omega)
      have n3 : (s.size : Int) < (s.size : Int) + 2 := by omega
      go_wp2
      go_loop [5] (fun i => ∃ j : Nat, j ≤ s.size ∧ i = .int .i64 j) (fun i => s.size - (intOf i).toNat)
      case atStart => exact ⟨0, Nat.zero_le _, rfl⟩
      case round =>
      obtain ⟨j, hj, rfl⟩ := hrel
      by_cases hjs : j < s.size
      · rcases q2 : ((s[j].toNat : Int) != 120)
        · skip
          go_wp2
          refine bodyPost_ret (v := .tuple #[.agg #[.string (ReadItem_r s).1.name, .int .i64 (ReadItem_r s).1.pieces, .int .i64 (ReadItem_r s).1.cents, .bool (ReadItem_r s).1.work], .int .i64 (ReadItem_r s).2]) (by rw [HR.out]; simp [results, Try.results36, go_sem, zItem, cz0, cz1, cz2, cz3]; try rfl) rfl ⟨rfl, ?_⟩
          exact ((((HBW.out.setCell (by simp) _).setCell (by simp) _).setCell (by simp) _).setCell (by simp) _)
        · go_wp2
          go_round
          case rel => exact ⟨j + 1, by omega, by go_num⟩
          case measure => simp [intOf]; omega
      · skip
        go_wp2
        refine bodyPost_ret (v := .tuple #[.agg #[.string (ReadItem_r s).1.name, .int .i64 (ReadItem_r s).1.pieces, .int .i64 (ReadItem_r s).1.cents, .bool (ReadItem_r s).1.work], .int .i64 (ReadItem_r s).2]) (by rw [HR.out]; simp [results, Try.results36, go_sem, zItem, cz0, cz1, cz2, cz3]; try rfl) rfl ⟨rfl, ?_⟩
        exact ((((HBW.out.setCell (by simp) _).setCell (by simp) _).setCell (by simp) _).setCell (by simp) _)
end Go.Proofs.Ytfiapefkomolmaa
