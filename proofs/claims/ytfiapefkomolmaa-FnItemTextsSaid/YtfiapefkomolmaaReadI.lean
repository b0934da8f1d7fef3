/- The contract of impl.ReadItem. No statement of the seat is proved here. -/
import Derived.Deep.DrawnRows
import Derived.Test.YtfiapefkomolmaaReadQ
namespace Go.Proofs.Ytfiapefkomolmaa
open Go.RowKit

attribute [local go_sem ↓] Go.wp_at_zero Go.wp_at_succ

set_option maxHeartbeats 8000000 in
set_option maxRecDepth 20000 in
theorem iReadItem_law (s : ByteArray) (w : World) (hs : s.size ≤ 1048576) :
    Calls Try.prog 37 #[.string s] w fun e w' => e = ReadItem_e s ∧ Below w.heap.size w w' := by
  have hzc : ∀ j, (w.alloc (.cells #[.string ⟨#[]⟩, .int .i64 0, .int .i64 0, .bool false] 40)).cell? ⟨w.heap.size, j, none⟩ = #[Value.string (⟨#[]⟩ : ByteArray), .int .i64 0, .int .i64 0, .bool false][j]? := fun j => box_new _ _ _ j
  have hzf : ∀ j, (w.alloc (.cells #[.string ⟨#[]⟩, .int .i64 0, .int .i64 0, .bool false] 40)).frozen? ⟨w.heap.size, j, none⟩ = false := fun j => frozen_box _ _ _ _ (frozen_out _ _ (Nat.le_refl _))
  have HBW : Hid (Below w.heap.size w (w.alloc (.cells #[.string ⟨#[]⟩, .int .i64 0, .int .i64 0, .bool false] 40))) := Lib.hid ((Below.refl _ _).alloc (by simp) _)
  have hsW : w.heap.size < (w.alloc (.cells #[.string ⟨#[]⟩, .int .i64 0, .int .i64 0, .bool false] 40)).heap.size := by simp
  have cz0 : (w.alloc (.cells #[.string ⟨#[]⟩, .int .i64 0, .int .i64 0, .bool false] 40)).cell? ⟨w.heap.size, 0, none⟩ = some (.string ⟨#[]⟩) := (hzc 0).trans rfl
  have czf0 : (w.alloc (.cells #[.string ⟨#[]⟩, .int .i64 0, .int .i64 0, .bool false] 40)).frozen? ⟨w.heap.size, 0, none⟩ = false := hzf 0
  have cz1 : (w.alloc (.cells #[.string ⟨#[]⟩, .int .i64 0, .int .i64 0, .bool false] 40)).cell? ⟨w.heap.size, 1, none⟩ = some (.int .i64 0) := (hzc 1).trans rfl
  have czf1 : (w.alloc (.cells #[.string ⟨#[]⟩, .int .i64 0, .int .i64 0, .bool false] 40)).frozen? ⟨w.heap.size, 1, none⟩ = false := hzf 1
  have cz2 : (w.alloc (.cells #[.string ⟨#[]⟩, .int .i64 0, .int .i64 0, .bool false] 40)).cell? ⟨w.heap.size, 2, none⟩ = some (.int .i64 0) := (hzc 2).trans rfl
  have czf2 : (w.alloc (.cells #[.string ⟨#[]⟩, .int .i64 0, .int .i64 0, .bool false] 40)).frozen? ⟨w.heap.size, 2, none⟩ = false := hzf 2
  have cz3 : (w.alloc (.cells #[.string ⟨#[]⟩, .int .i64 0, .int .i64 0, .bool false] 40)).cell? ⟨w.heap.size, 3, none⟩ = some (.bool false) := (hzc 3).trans rfl
  have czf3 : (w.alloc (.cells #[.string ⟨#[]⟩, .int .i64 0, .int .i64 0, .bool false] 40)).frozen? ⟨w.heap.size, 3, none⟩ = false := hzf 3
  clear hzc hzf
  go_enter Try.func37, Try.ntmps37
  go_wp2
  generalize w.alloc (.cells #[.string ⟨#[]⟩, .int .i64 0, .int .i64 0, .bool false] 40) = W at *
  go_loop [6, 4, 5] (fun i p q => ∃ (k : Nat) (z1 z2 : Int), k ≤ s.size ∧ i = .int .i64 k ∧ p = .int .i64 z1 ∧ q = .int .i64 z2 ∧ Hid (QF s 120 k z1) ∧ Hid (QF s 64 k z2)) (fun i _ _ => s.size - (intOf i).toNat)
  case atStart => exact ⟨0, -1, -1, Nat.zero_le _, rfl, rfl, rfl, Lib.hid (QF.z _ _), Lib.hid (QF.z _ _)⟩
  case round =>
    obtain ⟨k, z1, z2, hk, rfl, rfl, rfl, HQ1, HQ2⟩ := hrel
    by_cases hlt : k < s.size
    · clear cz0 cz1 cz2 cz3 czf0 czf1 czf2 czf3
      rcases q1 : ((s[k].toNat : Int) == 120) <;> rcases q2 : ((s[k].toNat : Int) == 64)
      · have HH := Lib.hid (And.intro q1 q2)
        go_wp2
        go_round
        case rel => exact ⟨k + 1, z1, z2, by omega, by go_num, rfl, rfl, Lib.hid (HQ1.out.no hlt HH.out.1), Lib.hid (HQ2.out.no hlt HH.out.2)⟩
        case measure => simp [intOf]; omega
      · have HH := Lib.hid (And.intro q1 q2)
        by_cases n2 : z2 < 0
        · have N2 := Lib.hid n2
          go_wp2
          go_round
          case rel => exact ⟨k + 1, z1, (k : Int), by omega, by go_num, rfl, rfl, Lib.hid (HQ1.out.no hlt HH.out.1), Lib.hid (HQ2.out.hit hlt HH.out.2 N2.out)⟩
          case measure => simp [intOf]; omega
        · have N2 := Lib.hid n2
          go_wp2
          go_round
          case rel => exact ⟨k + 1, z1, z2, by omega, by go_num, rfl, rfl, Lib.hid (HQ1.out.no hlt HH.out.1), Lib.hid (HQ2.out.keep N2.out)⟩
          case measure => simp [intOf]; omega
      · have HH := Lib.hid (And.intro q1 q2)
        by_cases n1 : z1 < 0
        · have N1 := Lib.hid n1
          go_wp2
          go_round
          case rel => exact ⟨k + 1, (k : Int), z2, by omega, by go_num, rfl, rfl, Lib.hid (HQ1.out.hit hlt HH.out.1 N1.out), Lib.hid (HQ2.out.no hlt HH.out.2)⟩
          case measure => simp [intOf]; omega
        · have N1 := Lib.hid n1
          go_wp2
          go_round
          case rel => exact ⟨k + 1, z1, z2, by omega, by go_num, rfl, rfl, Lib.hid (HQ1.out.keep N1.out), Lib.hid (HQ2.out.no hlt HH.out.2)⟩
          case measure => simp [intOf]; omega
      · have HH := Lib.hid (And.intro q1 q2)
        by_cases n1 : z1 < 0
        · have N1 := Lib.hid n1
          by_cases n2 : z2 < 0
          · have N2 := Lib.hid n2
            go_wp2
            go_round
            case rel => exact ⟨k + 1, (k : Int), (k : Int), by omega, by go_num, rfl, rfl, Lib.hid (HQ1.out.hit hlt HH.out.1 N1.out), Lib.hid (HQ2.out.hit hlt HH.out.2 N2.out)⟩
            case measure => simp [intOf]; omega
          · have N2 := Lib.hid n2
            go_wp2
            go_round
            case rel => exact ⟨k + 1, (k : Int), z2, by omega, by go_num, rfl, rfl, Lib.hid (HQ1.out.hit hlt HH.out.1 N1.out), Lib.hid (HQ2.out.keep N2.out)⟩
            case measure => simp [intOf]; omega
        · have N1 := Lib.hid n1
          by_cases n2 : z2 < 0
          · have N2 := Lib.hid n2
            go_wp2
            go_round
            case rel => exact ⟨k + 1, z1, (k : Int), by omega, by go_num, rfl, rfl, Lib.hid (HQ1.out.keep N1.out), Lib.hid (HQ2.out.hit hlt HH.out.2 N2.out)⟩
            case measure => simp [intOf]; omega
          · have N2 := Lib.hid n2
            go_wp2
            go_round
            case rel => exact ⟨k + 1, z1, z2, by omega, by go_num, rfl, rfl, Lib.hid (HQ1.out.keep N1.out), Lib.hid (HQ2.out.keep N2.out)⟩
            case measure => simp [intOf]; omega
    · obtain rfl : k = s.size := by omega
      by_cases hv : ∃ x, isItemB x = true ∧ txtI x = s
      · obtain ⟨x, hx, hxs⟩ := hv
        have HR := Lib.hid (ReadItem_ok hx hxs)
        have P := parts_of hx
        rw [hxs] at P
        have HT := Lib.hid hxs
        have HI := Lib.hid hx
        obtain ⟨_, ⟨p0, p1⟩, c0, c1⟩ := isItem_bd hx
        obtain ⟨nm, pc, ct, wk⟩ := x
        simp only at *
        obtain ⟨p, rfl⟩ := Int.eq_ofNat_of_zero_le (show 0 ≤ pc by omega)
        obtain ⟨q, rfl⟩ := Int.eq_ofNat_of_zero_le (show 0 ≤ ct by omega)
        rw [Int.toNat_natCast, Int.toNat_natCast] at P
        clear hx hxs
        obtain ⟨a1, a2, P⟩ : ∃ a1 a2, Parts s (dec p) nm (dec q) wk a1 a2 := ⟨_, _, P⟩
        obtain ⟨hc, ha, hsz, t1, t2, t3, t4, t5, e1, e2, e3⟩ := P
        have dp := dec_pos p
        have dq := dec_pos q
        obtain rfl := HQ1.out.at (n := a1) (by omega) (by rw [t1]; rfl) (fun i hi => by have := (t2 i hi).1; omega)
        obtain rfl := HQ2.out.at (n := a2) (by omega) (by rw [t3]; rfl) (fun i hi => by have := t4 i hi; omega)
        obtain ⟨n, hn⟩ : ∃ n : Nat, s.size = n + 1 := ⟨s.size - 1, by omega⟩
        have hnn : n < s.size := by omega
        have q119 : ((s[n].toNat : Int) == 119) = wk := by
          rw [show s.size - 1 = n by omega, bt_eq hnn] at t5
          rw [t5]
          cases wk <;> rfl
        rw [show s.size - 1 = n by omega] at e3
        have E1 := Lib.hid e1
        have E2 := Lib.hid e2
        have E3 := Lib.hid e3
        have n1 : ¬ ((a1 : Int) < 0) := by omega
        have n2 : ¬ ((a2 : Int) < (a1 : Int)) := by omega
        have hw3 : IntKind.i64.wrap ((a2 : Int) + 3) = (a2 : Int) + 3 := IntWalk.i64_in _ (by omega)
        have n3 : ¬ ((s.size : Int) < (a2 : Int) + 3) := by omega
        have hlt12 : a1 < a2 := by omega
        have hok : nm.size ≤ 9223372036854775807 := by omega
        have dp7 := dec_7 (n := p) (by omega)
        have dq7 := dec_7 (n := q) (by omega)
        have f1 : (0 : Int) ≤ (a1 : Int) := by omega
        have f2 : (a1 : Int) ≤ (s.size : Int) := by omega
        have f3 : IntKind.i64.wrap ((a2 : Int) + 1) = (a2 : Int) + 1 := IntWalk.i64_in _ (by omega)
        have f4 : IntKind.i64.wrap ((s.size : Int) - 1) = (n : Int) := by rw [IntWalk.i64_in _ (by omega)]; omega
        have f5 : (a2 : Int) + 1 ≤ (n : Int) := by omega
        have f6 : (n : Int) ≤ (s.size : Int) := by omega
        have f7 : IntKind.i64.wrap ((a1 : Int) + 1) = (a1 : Int) + 1 := IntWalk.i64_in _ (by omega)
        have f8 : (a1 : Int) + 1 ≤ (a2 : Int) := by omega
        have f9 : (a2 : Int) ≤ (s.size : Int) := by omega
        have f11 : (0 : Int) ≤ (a1 : Int) + 1 := by omega
        have f12 : (0 : Int) ≤ (a2 : Int) := by omega
        have hnI : (n : Int) < (s.size : Int) := by omega
        have hn0 : (0 : Int) ≤ (n : Int) := by omega
        clear hc ha hsz t1 t2 t3 t4 t5 e1 e2 e3 hn HQ1 HQ2
        go_wp2_with fail
        rw [E1.out]
        refine (readDec_ok (dec p) p W (dp) (dp7) (bt_dec p) (dec_first p) (dval_dec p)).mono ?_
        rintro e _ ⟨rfl, rfl⟩
        go_wp2_with fail
        rw [E3.out]
        refine (readDec_ok (dec q) q W (dq) (dq7) (bt_dec q) (dec_first q) (dval_dec q)).mono ?_
        rintro e _ ⟨rfl, rfl⟩
        go_wp2
        go_region_held3 (fun _ => True) (trivial) (fail)
        all_goals
          rw [E2.out]
          have x0 : (W.alloc (.cells #[.string nm, .int .i64 (p : Int), .int .i64 (q : Int), .bool wk] 40)).drew.cell? ⟨W.heap.size, 0, none⟩ = some (.string nm) := (box_new _ _ _ 0).trans rfl
          have x1 : (W.alloc (.cells #[.string nm, .int .i64 (p : Int), .int .i64 (q : Int), .bool wk] 40)).drew.cell? ⟨W.heap.size, 1, none⟩ = some (.int .i64 (p : Int)) := (box_new _ _ _ 1).trans rfl
          have x2 : (W.alloc (.cells #[.string nm, .int .i64 (p : Int), .int .i64 (q : Int), .bool wk] 40)).drew.cell? ⟨W.heap.size, 2, none⟩ = some (.int .i64 (q : Int)) := (box_new _ _ _ 2).trans rfl
          have x3 : (W.alloc (.cells #[.string nm, .int .i64 (p : Int), .int .i64 (q : Int), .bool wk] 40)).drew.cell? ⟨W.heap.size, 3, none⟩ = some (.bool wk) := (box_new _ _ _ 3).trans rfl
          have z0 : (W.alloc (.cells #[.string nm, .int .i64 (p : Int), .int .i64 (q : Int), .bool wk] 40)).drew.cell? ⟨w.heap.size, 0, none⟩ = some (.string ⟨#[]⟩) := (box_old W _ _ hsW).trans cz0
          have zf0 : (W.alloc (.cells #[.string nm, .int .i64 (p : Int), .int .i64 (q : Int), .bool wk] 40)).drew.frozen? ⟨w.heap.size, 0, none⟩ = false := frozen_box _ _ _ _ czf0
          have z1 : (W.alloc (.cells #[.string nm, .int .i64 (p : Int), .int .i64 (q : Int), .bool wk] 40)).drew.cell? ⟨w.heap.size, 1, none⟩ = some (.int .i64 0) := (box_old W _ _ hsW).trans cz1
          have zf1 : (W.alloc (.cells #[.string nm, .int .i64 (p : Int), .int .i64 (q : Int), .bool wk] 40)).drew.frozen? ⟨w.heap.size, 1, none⟩ = false := frozen_box _ _ _ _ czf1
          have z2 : (W.alloc (.cells #[.string nm, .int .i64 (p : Int), .int .i64 (q : Int), .bool wk] 40)).drew.cell? ⟨w.heap.size, 2, none⟩ = some (.int .i64 0) := (box_old W _ _ hsW).trans cz2
          have zf2 : (W.alloc (.cells #[.string nm, .int .i64 (p : Int), .int .i64 (q : Int), .bool wk] 40)).drew.frozen? ⟨w.heap.size, 2, none⟩ = false := frozen_box _ _ _ _ czf2
          have z3 : (W.alloc (.cells #[.string nm, .int .i64 (p : Int), .int .i64 (q : Int), .bool wk] 40)).drew.cell? ⟨w.heap.size, 3, none⟩ = some (.bool false) := (box_old W _ _ hsW).trans cz3
          have zf3 : (W.alloc (.cells #[.string nm, .int .i64 (p : Int), .int .i64 (q : Int), .bool wk] 40)).drew.frozen? ⟨w.heap.size, 3, none⟩ = false := frozen_box _ _ _ _ czf3
          have HB2 : Hid (Below w.heap.size w (W.alloc (.cells #[.string nm, .int .i64 (p : Int), .int .i64 (q : Int), .bool wk] 40)).drew) := Lib.hid (HBW.out.alloc (Nat.le_of_lt hsW) _).drew
          have hg2 : w.heap.size < (W.alloc (.cells #[.string nm, .int .i64 (p : Int), .int .i64 (q : Int), .bool wk] 40)).drew.heap.size := by simp; omega
          have hgx : W.heap.size < (W.alloc (.cells #[.string nm, .int .i64 (p : Int), .int .i64 (q : Int), .bool wk] 40)).drew.heap.size := by simp
          generalize (W.alloc (.cells #[.string nm, .int .i64 (p : Int), .int .i64 (q : Int), .bool wk] 40)).drew = V at *
          clear cz0 czf0 cz1 czf1 cz2 czf2 cz3 czf3 HBW hsW
          generalize W.heap.size = gx at *
          go_wp2_with fail
          refine (iItem_any ⟨nm, p, q, wk⟩ V hok).mono ?_
          rintro e V2 ⟨rfl, hb2⟩
          rw [HI.out]
          replace x0 := (hb2.cell (p := ⟨gx, 0, none⟩) hgx).trans x0
          replace z0 := (hb2.cell (p := ⟨w.heap.size, 0, none⟩) hg2).trans z0
          replace zf0 := (hb2.frozen (p := ⟨w.heap.size, 0, none⟩) hg2).trans zf0
          replace x1 := (hb2.cell (p := ⟨gx, 1, none⟩) hgx).trans x1
          replace z1 := (hb2.cell (p := ⟨w.heap.size, 1, none⟩) hg2).trans z1
          replace zf1 := (hb2.frozen (p := ⟨w.heap.size, 1, none⟩) hg2).trans zf1
          replace x2 := (hb2.cell (p := ⟨gx, 2, none⟩) hgx).trans x2
          replace z2 := (hb2.cell (p := ⟨w.heap.size, 2, none⟩) hg2).trans z2
          replace zf2 := (hb2.frozen (p := ⟨w.heap.size, 2, none⟩) hg2).trans zf2
          replace x3 := (hb2.cell (p := ⟨gx, 3, none⟩) hgx).trans x3
          replace z3 := (hb2.cell (p := ⟨w.heap.size, 3, none⟩) hg2).trans z3
          replace zf3 := (hb2.frozen (p := ⟨w.heap.size, 3, none⟩) hg2).trans zf3
          replace HB2 := Lib.hid (below_step2 HB2.out hb2 (Nat.le_of_lt hg2))
          replace hgx := Nat.lt_of_lt_of_le hgx hb2.size
          replace hg2 := Nat.lt_of_lt_of_le hg2 hb2.size
          clear hb2
          go_wp2_with fail
          refine (itemText_any ⟨nm, p, q, wk⟩ V2 HI.out).mono ?_
          rintro e V3 ⟨rfl, hb3⟩
          rw [HT.out]
          replace x0 := (hb3.cell (p := ⟨gx, 0, none⟩) hgx).trans x0
          replace z0 := (hb3.cell (p := ⟨w.heap.size, 0, none⟩) hg2).trans z0
          replace zf0 := (hb3.frozen (p := ⟨w.heap.size, 0, none⟩) hg2).trans zf0
          replace x1 := (hb3.cell (p := ⟨gx, 1, none⟩) hgx).trans x1
          replace z1 := (hb3.cell (p := ⟨w.heap.size, 1, none⟩) hg2).trans z1
          replace zf1 := (hb3.frozen (p := ⟨w.heap.size, 1, none⟩) hg2).trans zf1
          replace x2 := (hb3.cell (p := ⟨gx, 2, none⟩) hgx).trans x2
          replace z2 := (hb3.cell (p := ⟨w.heap.size, 2, none⟩) hg2).trans z2
          replace zf2 := (hb3.frozen (p := ⟨w.heap.size, 2, none⟩) hg2).trans zf2
          replace x3 := (hb3.cell (p := ⟨gx, 3, none⟩) hgx).trans x3
          replace z3 := (hb3.cell (p := ⟨w.heap.size, 3, none⟩) hg2).trans z3
          replace zf3 := (hb3.frozen (p := ⟨w.heap.size, 3, none⟩) hg2).trans zf3
          replace HB2 := Lib.hid (below_step2 HB2.out hb3 (Nat.le_of_lt hg2))
          replace hgx := Nat.lt_of_lt_of_le hgx hb3.size
          replace hg2 := Nat.lt_of_lt_of_le hg2 hb3.size
          clear hb3
          go_wp2
          refine bodyPost_ret (v := .tuple #[.agg #[.string (ReadItem_r s).1.name, .int .i64 (ReadItem_r s).1.pieces, .int .i64 (ReadItem_r s).1.cents, .bool (ReadItem_r s).1.work], .int .i64 (ReadItem_r s).2]) (by rw [HR.out]; simp [results, Try.results37, go_sem, z0, z1, z2, z3]; try rfl) rfl ⟨rfl, ?_⟩
          exact ((((HB2.out.setCell (by simp) _).setCell (by simp) _).setCell (by simp) _).setCell (by simp) _)
      · have HR := Lib.hid (ReadItem_bad hv)
        have HV := Lib.hid hv
        clear hv
        obtain ⟨m1, m2⟩ := HQ1.out.bd
        obtain ⟨m3, m4⟩ := HQ2.out.bd
        by_cases n1 : z1 < 0
        · clear m1 m2 m3 m4
          go_wp2
          refine bodyPost_ret (v := .tuple #[.agg #[.string (ReadItem_r s).1.name, .int .i64 (ReadItem_r s).1.pieces, .int .i64 (ReadItem_r s).1.cents, .bool (ReadItem_r s).1.work], .int .i64 (ReadItem_r s).2]) (by rw [HR.out]; simp [results, Try.results37, go_sem, zItem, cz0, cz1, cz2, cz3]; try rfl) rfl ⟨rfl, ?_⟩
          exact ((((HBW.out.setCell (by simp) _).setCell (by simp) _).setCell (by simp) _).setCell (by simp) _)
        by_cases n2 : z2 < z1
        · clear m1 m2 m3 m4
          go_wp2
          refine bodyPost_ret (v := .tuple #[.agg #[.string (ReadItem_r s).1.name, .int .i64 (ReadItem_r s).1.pieces, .int .i64 (ReadItem_r s).1.cents, .bool (ReadItem_r s).1.work], .int .i64 (ReadItem_r s).2]) (by rw [HR.out]; simp [results, Try.results37, go_sem, zItem, cz0, cz1, cz2, cz3]; try rfl) rfl ⟨rfl, ?_⟩
          exact ((((HBW.out.setCell (by simp) _).setCell (by simp) _).setCell (by simp) _).setCell (by simp) _)
        have hw3 : IntKind.i64.wrap (z2 + 3) = z2 + 3 := IntWalk.i64_in _ (by omega)
        by_cases n3 : (s.size : Int) < z2 + 3
        · 
          go_wp2
          refine bodyPost_ret (v := .tuple #[.agg #[.string (ReadItem_r s).1.name, .int .i64 (ReadItem_r s).1.pieces, .int .i64 (ReadItem_r s).1.cents, .bool (ReadItem_r s).1.work], .int .i64 (ReadItem_r s).2]) (by rw [HR.out]; simp [results, Try.results37, go_sem, zItem, cz0, cz1, cz2, cz3]; try rfl) rfl ⟨rfl, ?_⟩
          exact ((((HBW.out.setCell (by simp) _).setCell (by simp) _).setCell (by simp) _).setCell (by simp) _)
        have hne := QF.ne HQ1.out HQ2.out
        obtain ⟨a1, rfl⟩ := Int.eq_ofNat_of_zero_le (show 0 ≤ z1 by omega)
        obtain ⟨a2, rfl⟩ := Int.eq_ofNat_of_zero_le (show 0 ≤ z2 by omega)
        obtain ⟨n, hn⟩ : ∃ n : Nat, s.size = n + 1 := ⟨s.size - 1, by omega⟩
        have hlt12 : a1 < a2 := by
          rcases Nat.lt_or_ge a1 a2 with h | h
          · exact h
          · exact absurd (hne (by omega)) (by omega)
        have f1 : (0 : Int) ≤ (a1 : Int) := by omega
        have f2 : (a1 : Int) ≤ (s.size : Int) := by omega
        have f3 : IntKind.i64.wrap ((a2 : Int) + 1) = (a2 : Int) + 1 := IntWalk.i64_in _ (by omega)
        have f4 : IntKind.i64.wrap ((s.size : Int) - 1) = (n : Int) := by rw [IntWalk.i64_in _ (by omega)]; omega
        have f5 : (a2 : Int) + 1 ≤ (n : Int) := by omega
        have f6 : (n : Int) ≤ (s.size : Int) := by omega
        have f7 : IntKind.i64.wrap ((a1 : Int) + 1) = (a1 : Int) + 1 := IntWalk.i64_in _ (by omega)
        have f8 : (a1 : Int) + 1 ≤ (a2 : Int) := by omega
        have f9 : (a2 : Int) ≤ (s.size : Int) := by omega
        have f11 : (0 : Int) ≤ (a1 : Int) + 1 := by omega
        have f12 : (0 : Int) ≤ (a2 : Int) := by omega
        have HN := Lib.hid hn
        clear hne m1 m2 m3 m4 HQ1 HQ2 hn
        go_wp2_with fail
        refine Calls.mono (readDec_any _ W ?sz) ?_
        case sz => rw [ByteArray.size_extract]; omega
        rintro e _ ⟨⟨r1, b1, rfl⟩, rfl⟩
        go_wp2_with fail
        refine Calls.mono (readDec_any _ W ?sz) ?_
        case sz => rw [ByteArray.size_extract]; omega
        rintro e _ ⟨⟨r2, b2, rfl⟩, rfl⟩
        have hnn : n < s.size := by have := HN.out; omega
        have hnI : (n : Int) < (s.size : Int) := by omega
        have hn0 : (0 : Int) ≤ (n : Int) := by omega
        go_wp2
        have SP : Hid (∀ W' : World, W' = W.drew → Below w.heap.size w W' ∧ w.heap.size < W'.heap.size) := Lib.hid (fun W' h => by subst h; exact ⟨HBW.out.drew, hsW⟩)
        go_region_held3 (fun _ => True) (trivial) (fail)
        all_goals
          have hok : (s.extract (a1 + 1) a2).size ≤ 9223372036854775807 := by rw [ByteArray.size_extract]; omega
          generalize s.extract (a1 + 1) a2 = nm at *
          generalize ((s[n].toNat : Int) == 119) = wk at *
          have x0 : (W.alloc (.cells #[.string nm, .int .i64 r1, .int .i64 r2, .bool wk] 40)).drew.cell? ⟨W.heap.size, 0, none⟩ = some (.string nm) := (box_new _ _ _ 0).trans rfl
          have x1 : (W.alloc (.cells #[.string nm, .int .i64 r1, .int .i64 r2, .bool wk] 40)).drew.cell? ⟨W.heap.size, 1, none⟩ = some (.int .i64 r1) := (box_new _ _ _ 1).trans rfl
          have x2 : (W.alloc (.cells #[.string nm, .int .i64 r1, .int .i64 r2, .bool wk] 40)).drew.cell? ⟨W.heap.size, 2, none⟩ = some (.int .i64 r2) := (box_new _ _ _ 2).trans rfl
          have x3 : (W.alloc (.cells #[.string nm, .int .i64 r1, .int .i64 r2, .bool wk] 40)).drew.cell? ⟨W.heap.size, 3, none⟩ = some (.bool wk) := (box_new _ _ _ 3).trans rfl
          have z0 : (W.alloc (.cells #[.string nm, .int .i64 r1, .int .i64 r2, .bool wk] 40)).drew.cell? ⟨w.heap.size, 0, none⟩ = some (.string ⟨#[]⟩) := (box_old W _ _ hsW).trans cz0
          have zf0 : (W.alloc (.cells #[.string nm, .int .i64 r1, .int .i64 r2, .bool wk] 40)).drew.frozen? ⟨w.heap.size, 0, none⟩ = false := frozen_box _ _ _ _ czf0
          have z1 : (W.alloc (.cells #[.string nm, .int .i64 r1, .int .i64 r2, .bool wk] 40)).drew.cell? ⟨w.heap.size, 1, none⟩ = some (.int .i64 0) := (box_old W _ _ hsW).trans cz1
          have zf1 : (W.alloc (.cells #[.string nm, .int .i64 r1, .int .i64 r2, .bool wk] 40)).drew.frozen? ⟨w.heap.size, 1, none⟩ = false := frozen_box _ _ _ _ czf1
          have z2 : (W.alloc (.cells #[.string nm, .int .i64 r1, .int .i64 r2, .bool wk] 40)).drew.cell? ⟨w.heap.size, 2, none⟩ = some (.int .i64 0) := (box_old W _ _ hsW).trans cz2
          have zf2 : (W.alloc (.cells #[.string nm, .int .i64 r1, .int .i64 r2, .bool wk] 40)).drew.frozen? ⟨w.heap.size, 2, none⟩ = false := frozen_box _ _ _ _ czf2
          have z3 : (W.alloc (.cells #[.string nm, .int .i64 r1, .int .i64 r2, .bool wk] 40)).drew.cell? ⟨w.heap.size, 3, none⟩ = some (.bool false) := (box_old W _ _ hsW).trans cz3
          have zf3 : (W.alloc (.cells #[.string nm, .int .i64 r1, .int .i64 r2, .bool wk] 40)).drew.frozen? ⟨w.heap.size, 3, none⟩ = false := frozen_box _ _ _ _ czf3
          have HB2 : Hid (Below w.heap.size w (W.alloc (.cells #[.string nm, .int .i64 r1, .int .i64 r2, .bool wk] 40)).drew) := Lib.hid (HBW.out.alloc (Nat.le_of_lt hsW) _).drew
          have hg2 : w.heap.size < (W.alloc (.cells #[.string nm, .int .i64 r1, .int .i64 r2, .bool wk] 40)).drew.heap.size := by simp; omega
          have hgx : W.heap.size < (W.alloc (.cells #[.string nm, .int .i64 r1, .int .i64 r2, .bool wk] 40)).drew.heap.size := by simp
          generalize (W.alloc (.cells #[.string nm, .int .i64 r1, .int .i64 r2, .bool wk] 40)).drew = V at *
          clear cz0 czf0 cz1 czf1 cz2 czf2 cz3 czf3 HBW hsW
          generalize W.heap.size = gx at *
          rcases b1
          · clear x0 x1 x2 x3
            go_wp2
            refine bodyPost_ret (v := .tuple #[.agg #[.string (ReadItem_r s).1.name, .int .i64 (ReadItem_r s).1.pieces, .int .i64 (ReadItem_r s).1.cents, .bool (ReadItem_r s).1.work], .int .i64 (ReadItem_r s).2]) (by rw [HR.out]; simp [results, Try.results37, go_sem, zItem, z0, z1, z2, z3]; try rfl) rfl ⟨rfl, ?_⟩
            exact ((((HB2.out.setCell (by simp) _).setCell (by simp) _).setCell (by simp) _).setCell (by simp) _)
          rcases b2
          · clear x0 x1 x2 x3
            go_wp2
            refine bodyPost_ret (v := .tuple #[.agg #[.string (ReadItem_r s).1.name, .int .i64 (ReadItem_r s).1.pieces, .int .i64 (ReadItem_r s).1.cents, .bool (ReadItem_r s).1.work], .int .i64 (ReadItem_r s).2]) (by rw [HR.out]; simp [results, Try.results37, go_sem, zItem, z0, z1, z2, z3]; try rfl) rfl ⟨rfl, ?_⟩
            exact ((((HB2.out.setCell (by simp) _).setCell (by simp) _).setCell (by simp) _).setCell (by simp) _)
          go_wp2_with fail
          refine (iItem_any ⟨nm, r1, r2, wk⟩ V hok).mono ?_
          rintro e V2 ⟨rfl, hb2⟩
          replace x0 := (hb2.cell (p := ⟨gx, 0, none⟩) hgx).trans x0
          replace z0 := (hb2.cell (p := ⟨w.heap.size, 0, none⟩) hg2).trans z0
          replace zf0 := (hb2.frozen (p := ⟨w.heap.size, 0, none⟩) hg2).trans zf0
          replace x1 := (hb2.cell (p := ⟨gx, 1, none⟩) hgx).trans x1
          replace z1 := (hb2.cell (p := ⟨w.heap.size, 1, none⟩) hg2).trans z1
          replace zf1 := (hb2.frozen (p := ⟨w.heap.size, 1, none⟩) hg2).trans zf1
          replace x2 := (hb2.cell (p := ⟨gx, 2, none⟩) hgx).trans x2
          replace z2 := (hb2.cell (p := ⟨w.heap.size, 2, none⟩) hg2).trans z2
          replace zf2 := (hb2.frozen (p := ⟨w.heap.size, 2, none⟩) hg2).trans zf2
          replace x3 := (hb2.cell (p := ⟨gx, 3, none⟩) hgx).trans x3
          replace z3 := (hb2.cell (p := ⟨w.heap.size, 3, none⟩) hg2).trans z3
          replace zf3 := (hb2.frozen (p := ⟨w.heap.size, 3, none⟩) hg2).trans zf3
          replace HB2 := Lib.hid (below_step2 HB2.out hb2 (Nat.le_of_lt hg2))
          replace hgx := Nat.lt_of_lt_of_le hgx hb2.size
          replace hg2 := Nat.lt_of_lt_of_le hg2 hb2.size
          clear hb2
          rcases hI : isItemB ⟨nm, r1, r2, wk⟩
          · clear x0 x1 x2 x3 hI
            go_wp2
            refine bodyPost_ret (v := .tuple #[.agg #[.string (ReadItem_r s).1.name, .int .i64 (ReadItem_r s).1.pieces, .int .i64 (ReadItem_r s).1.cents, .bool (ReadItem_r s).1.work], .int .i64 (ReadItem_r s).2]) (by rw [HR.out]; simp [results, Try.results37, go_sem, zItem, z0, z1, z2, z3]; try rfl) rfl ⟨rfl, ?_⟩
            exact ((((HB2.out.setCell (by simp) _).setCell (by simp) _).setCell (by simp) _).setCell (by simp) _)
          have hne : txtI ⟨nm, r1, r2, wk⟩ ≠ s := fun e => HV.out ⟨_, hI, e⟩
          go_wp2_with fail
          refine (itemText_any ⟨nm, r1, r2, wk⟩ V2 hI).mono ?_
          rintro e V3 ⟨rfl, hb3⟩
          replace x0 := (hb3.cell (p := ⟨gx, 0, none⟩) hgx).trans x0
          replace z0 := (hb3.cell (p := ⟨w.heap.size, 0, none⟩) hg2).trans z0
          replace zf0 := (hb3.frozen (p := ⟨w.heap.size, 0, none⟩) hg2).trans zf0
          replace x1 := (hb3.cell (p := ⟨gx, 1, none⟩) hgx).trans x1
          replace z1 := (hb3.cell (p := ⟨w.heap.size, 1, none⟩) hg2).trans z1
          replace zf1 := (hb3.frozen (p := ⟨w.heap.size, 1, none⟩) hg2).trans zf1
          replace x2 := (hb3.cell (p := ⟨gx, 2, none⟩) hgx).trans x2
          replace z2 := (hb3.cell (p := ⟨w.heap.size, 2, none⟩) hg2).trans z2
          replace zf2 := (hb3.frozen (p := ⟨w.heap.size, 2, none⟩) hg2).trans zf2
          replace x3 := (hb3.cell (p := ⟨gx, 3, none⟩) hgx).trans x3
          replace z3 := (hb3.cell (p := ⟨w.heap.size, 3, none⟩) hg2).trans z3
          replace zf3 := (hb3.frozen (p := ⟨w.heap.size, 3, none⟩) hg2).trans zf3
          replace HB2 := Lib.hid (below_step2 HB2.out hb3 (Nat.le_of_lt hg2))
          replace hgx := Nat.lt_of_lt_of_le hgx hb3.size
          replace hg2 := Nat.lt_of_lt_of_le hg2 hb3.size
          clear hb3
          have HN2 := Lib.hid hne
          clear hI hne
          generalize txtI ⟨nm, r1, r2, wk⟩ = tx at *
          rcases g1 : (tx.toList == s.toList)
          · clear x0 x1 x2 x3
            go_wp2
            refine bodyPost_ret (v := .tuple #[.agg #[.string (ReadItem_r s).1.name, .int .i64 (ReadItem_r s).1.pieces, .int .i64 (ReadItem_r s).1.cents, .bool (ReadItem_r s).1.work], .int .i64 (ReadItem_r s).2]) (by rw [HR.out]; simp [results, Try.results37, go_sem, zItem, z0, z1, z2, z3]; try rfl) rfl ⟨rfl, ?_⟩
            exact ((((HB2.out.setCell (by simp) _).setCell (by simp) _).setCell (by simp) _).setCell (by simp) _)
          · exact absurd (toList_inj (eq_of_beq g1)) HN2.out
end Go.Proofs.Ytfiapefkomolmaa
