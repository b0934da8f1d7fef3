/- Contracts of Rebuild (chapter 25). No statement of the seat is proved here. -/
import Derived.Test.YtncggcbpbejmcaaUsed
import Derived.Test.YtncggcbpbejmcaaBox
namespace Go.Proofs.Ytncggcbpbejmcaa
open Go.RowKit

def rebuiltF (x : Used) (p d : Int) : Used := ⟨x.name, x.hours, min x.play p, 0, max 0 (x.dents - d)⟩
theorem irebuilt_any (x : Used) (p d : Int) (w : World) (h1 : -1000000000000000000 ≤ x.dents) (h2 : x.dents ≤ 1000000000000000000) (h3 : -1000000000000000000 ≤ d) (h4 : d ≤ 1000000000000000000) :
    Calls Try.prog 77 #[.agg #[.string x.name, .int .i64 x.hours, .int .i64 x.play, .int .i64 x.rust, .int .i64 x.dents], .int .i64 p, .int .i64 d] w fun e w' => e = .returned (.agg #[.string (rebuiltF x p d).name, .int .i64 (rebuiltF x p d).hours, .int .i64 (rebuiltF x p d).play, .int .i64 (rebuiltF x p d).rust, .int .i64 (rebuiltF x p d).dents]) ∧ Below w.heap.size w w' := by
  have HR : Hid (∀ m e, m = min x.play p → e = max 0 (x.dents - d) → rebuiltF x p d = ⟨x.name, x.hours, m, 0, e⟩) := Lib.hid (fun m e hm he => by rw [hm, he]; rfl)
  generalize rebuiltF x p d = r at *
  obtain ⟨r0, r1, r2, r3, r4⟩ := r
  obtain ⟨nm, hr, pl, ru, de⟩ := x
  simp only at *
  have hw : IntKind.i64.wrap (de - d) = de - d := IntWalk.i64_in _ (by omega)
  go_enter Try.func77, Try.ntmps77
  go_wp2
  all_goals
    refine bodyPost_ret (v := .agg #[.string r0, .int .i64 r1, .int .i64 r2, .int .i64 r3, .int .i64 r4]) (by first | (have h := HR.out pl 0 (by omega) (by omega); cases h; simp [results, Try.results77, go_sem]) | (have h := HR.out pl (de - d) (by omega) (by omega); cases h; simp [results, Try.results77, go_sem]) | (have h := HR.out p 0 (by omega) (by omega); cases h; simp [results, Try.results77, go_sem]) | (have h := HR.out p (de - d) (by omega) (by omega); cases h; simp [results, Try.results77, go_sem])) rfl ⟨rfl, ?_⟩
    go_grown
theorem srebuilt_any (x : Used) (p d : Int) (w : World) (h1 : -1000000000000000000 ≤ x.dents) (h2 : x.dents ≤ 1000000000000000000) (h3 : -1000000000000000000 ≤ d) (h4 : d ≤ 1000000000000000000) :
    Calls Try.prog 76 #[.agg #[.string x.name, .int .i64 x.hours, .int .i64 x.play, .int .i64 x.rust, .int .i64 x.dents], .int .i64 p, .int .i64 d] w fun e w' => e = .returned (.agg #[.string (rebuiltF x p d).name, .int .i64 (rebuiltF x p d).hours, .int .i64 (rebuiltF x p d).play, .int .i64 (rebuiltF x p d).rust, .int .i64 (rebuiltF x p d).dents]) ∧ Below w.heap.size w w' := by
  have HR : Hid (∀ m e, m = min x.play p → e = max 0 (x.dents - d) → rebuiltF x p d = ⟨x.name, x.hours, m, 0, e⟩) := Lib.hid (fun m e hm he => by rw [hm, he]; rfl)
  generalize rebuiltF x p d = r at *
  obtain ⟨r0, r1, r2, r3, r4⟩ := r
  obtain ⟨nm, hr, pl, ru, de⟩ := x
  simp only at *
  have hw : IntKind.i64.wrap (de - d) = de - d := IntWalk.i64_in _ (by omega)
  go_enter Try.func76, Try.ntmps76
  go_wp2
  all_goals
    refine bodyPost_ret (v := .agg #[.string r0, .int .i64 r1, .int .i64 r2, .int .i64 r3, .int .i64 r4]) (by first | (have h := HR.out pl 0 (by omega) (by omega); cases h; simp [results, Try.results76, go_sem]) | (have h := HR.out pl (de - d) (by omega) (by omega); cases h; simp [results, Try.results76, go_sem]) | (have h := HR.out p 0 (by omega) (by omega); cases h; simp [results, Try.results76, go_sem]) | (have h := HR.out p (de - d) (by omega) (by omega); cases h; simp [results, Try.results76, go_sem])) rfl ⟨rfl, ?_⟩
    go_grown

theorem isUsed_bd {x : Used} (h : isUsed x = true) : (0 ≤ x.hours ∧ x.hours ≤ 100000) ∧ (0 ≤ x.play ∧ x.play ≤ 5000) ∧ (0 ≤ x.rust ∧ x.rust ≤ 10) ∧ 0 ≤ x.dents ∧ x.dents ≤ 20 := by
  unfold isUsed at h
  rw [Bool.and_eq_true, List.all_eq_true] at h
  have h0 := inR_iff.1 (h.2 0 (by simp))
  have h1 := inR_iff.1 (h.2 1 (by simp))
  have h2 := inR_iff.1 (h.2 2 (by simp))
  have h3 := inR_iff.1 (h.2 3 (by simp))
  exact ⟨h0, h1, h2, h3⟩
def Rebuild_r (x : Used) (p d : Int) : Used × Int := if isUsed x then (if inR p 0 5000 && inR d 0 20 then (rebuiltF x p d, 0) else (zUsed, 2)) else (zUsed, 1)
abbrev Rebuild_e (x : Used) (p d : Int) : Ending := .returned (.tuple #[.agg #[.string (Rebuild_r x p d).1.name, .int .i64 (Rebuild_r x p d).1.hours, .int .i64 (Rebuild_r x p d).1.play, .int .i64 (Rebuild_r x p d).1.rust, .int .i64 (Rebuild_r x p d).1.dents], .int .i64 (Rebuild_r x p d).2])
set_option maxHeartbeats 2000000 in
theorem iRebuild_any (x : Used) (p d : Int) (w : World) (hx : okUsed x) :
    Calls Try.prog 25 #[.agg #[.string x.name, .int .i64 x.hours, .int .i64 x.play, .int .i64 x.rust, .int .i64 x.dents], .int .i64 p, .int .i64 d] w fun e w' => e = Rebuild_e x p d ∧ Below w.heap.size w w' := by
  rcases hA : isUsed x
  · have HR : Hid (Rebuild_r x p d = (zUsed, 1)) := Lib.hid (by unfold Rebuild_r; rw [hA]; rfl)
    have HA := Lib.hid hA
    clear hA
    go_enter Try.func25, Try.ntmps25
    go_wp2_with fail
    refine (iIsUsed_any x _ hx).mono ?_
    rintro e w1 ⟨rfl, hb1⟩
    rw [HA.out]
    obtain ⟨bc1, _, bc2, bf2, hbw, hs1⟩ := box2 hb1
    clear hb1
    have cx0 : w1.cell? ⟨w.heap.size, 0, none⟩ = some (.string x.name) := (bc1 0).trans rfl
    have cx1 : w1.cell? ⟨w.heap.size, 1, none⟩ = some (.int .i64 x.hours) := (bc1 1).trans rfl
    have cx2 : w1.cell? ⟨w.heap.size, 2, none⟩ = some (.int .i64 x.play) := (bc1 2).trans rfl
    have cx3 : w1.cell? ⟨w.heap.size, 3, none⟩ = some (.int .i64 x.rust) := (bc1 3).trans rfl
    have cx4 : w1.cell? ⟨w.heap.size, 4, none⟩ = some (.int .i64 x.dents) := (bc1 4).trans rfl
    have cz0 : w1.cell? ⟨w.heap.size + 1, 0, none⟩ = some (.string ⟨#[]⟩) := (bc2 0).trans rfl
    have czf0 : w1.frozen? ⟨w.heap.size + 1, 0, none⟩ = false := bf2 0
    have cz1 : w1.cell? ⟨w.heap.size + 1, 1, none⟩ = some (.int .i64 0) := (bc2 1).trans rfl
    have czf1 : w1.frozen? ⟨w.heap.size + 1, 1, none⟩ = false := bf2 1
    have cz2 : w1.cell? ⟨w.heap.size + 1, 2, none⟩ = some (.int .i64 0) := (bc2 2).trans rfl
    have czf2 : w1.frozen? ⟨w.heap.size + 1, 2, none⟩ = false := bf2 2
    have cz3 : w1.cell? ⟨w.heap.size + 1, 3, none⟩ = some (.int .i64 0) := (bc2 3).trans rfl
    have czf3 : w1.frozen? ⟨w.heap.size + 1, 3, none⟩ = false := bf2 3
    have cz4 : w1.cell? ⟨w.heap.size + 1, 4, none⟩ = some (.int .i64 0) := (bc2 4).trans rfl
    have czf4 : w1.frozen? ⟨w.heap.size + 1, 4, none⟩ = false := bf2 4
    clear bc1 bc2 bf2
    go_wp2
    refine bodyPost_ret (v := .tuple #[.agg #[.string (Rebuild_r x p d).1.name, .int .i64 (Rebuild_r x p d).1.hours, .int .i64 (Rebuild_r x p d).1.play, .int .i64 (Rebuild_r x p d).1.rust, .int .i64 (Rebuild_r x p d).1.dents], .int .i64 (Rebuild_r x p d).2]) (by rw [HR.out]; simp [results, Try.results25, go_sem, zUsed, cz0, cz1, cz2, cz3, cz4]; try rfl) rfl ⟨rfl, ?_⟩
    exact (((((hbw.setCell (by simp) _).setCell (by simp) _).setCell (by simp) _).setCell (by simp) _).setCell (by simp) _)
  rcases h1 : inR p 0 5000
  · have HR : Hid (Rebuild_r x p d = (zUsed, 2)) := Lib.hid (by unfold Rebuild_r; rw [hA, h1]; rfl)
    have HA := Lib.hid hA
    have H1 := Lib.hid h1
    clear hA h1
    go_enter Try.func25, Try.ntmps25
    go_wp2_with fail
    refine (iIsUsed_any x _ hx).mono ?_
    rintro e w1 ⟨rfl, hb1⟩
    rw [HA.out]
    obtain ⟨bc1, _, bc2, bf2, hbw, hs1⟩ := box2 hb1
    clear hb1
    have cx0 : w1.cell? ⟨w.heap.size, 0, none⟩ = some (.string x.name) := (bc1 0).trans rfl
    have cx1 : w1.cell? ⟨w.heap.size, 1, none⟩ = some (.int .i64 x.hours) := (bc1 1).trans rfl
    have cx2 : w1.cell? ⟨w.heap.size, 2, none⟩ = some (.int .i64 x.play) := (bc1 2).trans rfl
    have cx3 : w1.cell? ⟨w.heap.size, 3, none⟩ = some (.int .i64 x.rust) := (bc1 3).trans rfl
    have cx4 : w1.cell? ⟨w.heap.size, 4, none⟩ = some (.int .i64 x.dents) := (bc1 4).trans rfl
    have cz0 : w1.cell? ⟨w.heap.size + 1, 0, none⟩ = some (.string ⟨#[]⟩) := (bc2 0).trans rfl
    have czf0 : w1.frozen? ⟨w.heap.size + 1, 0, none⟩ = false := bf2 0
    have cz1 : w1.cell? ⟨w.heap.size + 1, 1, none⟩ = some (.int .i64 0) := (bc2 1).trans rfl
    have czf1 : w1.frozen? ⟨w.heap.size + 1, 1, none⟩ = false := bf2 1
    have cz2 : w1.cell? ⟨w.heap.size + 1, 2, none⟩ = some (.int .i64 0) := (bc2 2).trans rfl
    have czf2 : w1.frozen? ⟨w.heap.size + 1, 2, none⟩ = false := bf2 2
    have cz3 : w1.cell? ⟨w.heap.size + 1, 3, none⟩ = some (.int .i64 0) := (bc2 3).trans rfl
    have czf3 : w1.frozen? ⟨w.heap.size + 1, 3, none⟩ = false := bf2 3
    have cz4 : w1.cell? ⟨w.heap.size + 1, 4, none⟩ = some (.int .i64 0) := (bc2 4).trans rfl
    have czf4 : w1.frozen? ⟨w.heap.size + 1, 4, none⟩ = false := bf2 4
    clear bc1 bc2 bf2
    go_wp2_with (first | (go_at_call_of 67 p; refine (within_eq H1.out _).mono ?_; rintro e w' ⟨rfl, rfl⟩))
    refine bodyPost_ret (v := .tuple #[.agg #[.string (Rebuild_r x p d).1.name, .int .i64 (Rebuild_r x p d).1.hours, .int .i64 (Rebuild_r x p d).1.play, .int .i64 (Rebuild_r x p d).1.rust, .int .i64 (Rebuild_r x p d).1.dents], .int .i64 (Rebuild_r x p d).2]) (by rw [HR.out]; simp [results, Try.results25, go_sem, zUsed, cz0, cz1, cz2, cz3, cz4]; try rfl) rfl ⟨rfl, ?_⟩
    exact (((((hbw.setCell (by simp) _).setCell (by simp) _).setCell (by simp) _).setCell (by simp) _).setCell (by simp) _)
  rcases h2 : inR d 0 20
  · have HR : Hid (Rebuild_r x p d = (zUsed, 2)) := Lib.hid (by unfold Rebuild_r; rw [hA, h1, h2]; rfl)
    have HA := Lib.hid hA
    have H1 := Lib.hid h1
    have H2 := Lib.hid h2
    clear hA h1 h2
    go_enter Try.func25, Try.ntmps25
    go_wp2_with fail
    refine (iIsUsed_any x _ hx).mono ?_
    rintro e w1 ⟨rfl, hb1⟩
    rw [HA.out]
    obtain ⟨bc1, _, bc2, bf2, hbw, hs1⟩ := box2 hb1
    clear hb1
    have cx0 : w1.cell? ⟨w.heap.size, 0, none⟩ = some (.string x.name) := (bc1 0).trans rfl
    have cx1 : w1.cell? ⟨w.heap.size, 1, none⟩ = some (.int .i64 x.hours) := (bc1 1).trans rfl
    have cx2 : w1.cell? ⟨w.heap.size, 2, none⟩ = some (.int .i64 x.play) := (bc1 2).trans rfl
    have cx3 : w1.cell? ⟨w.heap.size, 3, none⟩ = some (.int .i64 x.rust) := (bc1 3).trans rfl
    have cx4 : w1.cell? ⟨w.heap.size, 4, none⟩ = some (.int .i64 x.dents) := (bc1 4).trans rfl
    have cz0 : w1.cell? ⟨w.heap.size + 1, 0, none⟩ = some (.string ⟨#[]⟩) := (bc2 0).trans rfl
    have czf0 : w1.frozen? ⟨w.heap.size + 1, 0, none⟩ = false := bf2 0
    have cz1 : w1.cell? ⟨w.heap.size + 1, 1, none⟩ = some (.int .i64 0) := (bc2 1).trans rfl
    have czf1 : w1.frozen? ⟨w.heap.size + 1, 1, none⟩ = false := bf2 1
    have cz2 : w1.cell? ⟨w.heap.size + 1, 2, none⟩ = some (.int .i64 0) := (bc2 2).trans rfl
    have czf2 : w1.frozen? ⟨w.heap.size + 1, 2, none⟩ = false := bf2 2
    have cz3 : w1.cell? ⟨w.heap.size + 1, 3, none⟩ = some (.int .i64 0) := (bc2 3).trans rfl
    have czf3 : w1.frozen? ⟨w.heap.size + 1, 3, none⟩ = false := bf2 3
    have cz4 : w1.cell? ⟨w.heap.size + 1, 4, none⟩ = some (.int .i64 0) := (bc2 4).trans rfl
    have czf4 : w1.frozen? ⟨w.heap.size + 1, 4, none⟩ = false := bf2 4
    clear bc1 bc2 bf2
    go_wp2_with (first | (go_at_call_of 67 p; refine (within_eq H1.out _).mono ?_; rintro e w' ⟨rfl, rfl⟩) | (go_at_call_of 67 d; refine (within_eq H2.out _).mono ?_; rintro e w' ⟨rfl, rfl⟩))
    refine bodyPost_ret (v := .tuple #[.agg #[.string (Rebuild_r x p d).1.name, .int .i64 (Rebuild_r x p d).1.hours, .int .i64 (Rebuild_r x p d).1.play, .int .i64 (Rebuild_r x p d).1.rust, .int .i64 (Rebuild_r x p d).1.dents], .int .i64 (Rebuild_r x p d).2]) (by rw [HR.out]; simp [results, Try.results25, go_sem, zUsed, cz0, cz1, cz2, cz3, cz4]; try rfl) rfl ⟨rfl, ?_⟩
    exact (((((hbw.setCell (by simp) _).setCell (by simp) _).setCell (by simp) _).setCell (by simp) _).setCell (by simp) _)
  · have HR : Hid (Rebuild_r x p d = (rebuiltF x p d, 0)) := Lib.hid (by unfold Rebuild_r; rw [hA, h1, h2]; rfl)
    have HA := Lib.hid hA
    have H1 := Lib.hid h1
    have H2 := Lib.hid h2
    have hxb := isUsed_bd hA
    have hd := inR_iff.1 h2
    clear hA h1 h2
    go_enter Try.func25, Try.ntmps25
    go_wp2_with fail
    refine (iIsUsed_any x _ hx).mono ?_
    rintro e w1 ⟨rfl, hb1⟩
    rw [HA.out]
    obtain ⟨bc1, _, bc2, bf2, hbw, hs1⟩ := box2 hb1
    clear hb1
    have cx0 : w1.cell? ⟨w.heap.size, 0, none⟩ = some (.string x.name) := (bc1 0).trans rfl
    have cx1 : w1.cell? ⟨w.heap.size, 1, none⟩ = some (.int .i64 x.hours) := (bc1 1).trans rfl
    have cx2 : w1.cell? ⟨w.heap.size, 2, none⟩ = some (.int .i64 x.play) := (bc1 2).trans rfl
    have cx3 : w1.cell? ⟨w.heap.size, 3, none⟩ = some (.int .i64 x.rust) := (bc1 3).trans rfl
    have cx4 : w1.cell? ⟨w.heap.size, 4, none⟩ = some (.int .i64 x.dents) := (bc1 4).trans rfl
    have cz0 : w1.cell? ⟨w.heap.size + 1, 0, none⟩ = some (.string ⟨#[]⟩) := (bc2 0).trans rfl
    have czf0 : w1.frozen? ⟨w.heap.size + 1, 0, none⟩ = false := bf2 0
    have cz1 : w1.cell? ⟨w.heap.size + 1, 1, none⟩ = some (.int .i64 0) := (bc2 1).trans rfl
    have czf1 : w1.frozen? ⟨w.heap.size + 1, 1, none⟩ = false := bf2 1
    have cz2 : w1.cell? ⟨w.heap.size + 1, 2, none⟩ = some (.int .i64 0) := (bc2 2).trans rfl
    have czf2 : w1.frozen? ⟨w.heap.size + 1, 2, none⟩ = false := bf2 2
    have cz3 : w1.cell? ⟨w.heap.size + 1, 3, none⟩ = some (.int .i64 0) := (bc2 3).trans rfl
    have czf3 : w1.frozen? ⟨w.heap.size + 1, 3, none⟩ = false := bf2 3
    have cz4 : w1.cell? ⟨w.heap.size + 1, 4, none⟩ = some (.int .i64 0) := (bc2 4).trans rfl
    have czf4 : w1.frozen? ⟨w.heap.size + 1, 4, none⟩ = false := bf2 4
    clear bc1 bc2 bf2
    go_wp2_with (first | (go_at_call_of 67 p; refine (within_eq H1.out _).mono ?_; rintro e w' ⟨rfl, rfl⟩) | (go_at_call_of 67 d; refine (within_eq H2.out _).mono ?_; rintro e w' ⟨rfl, rfl⟩))
    refine (irebuilt_any x p d w1 (by omega) (by omega) (by omega) (by omega)).mono ?_
    rintro e w2 ⟨rfl, hb2⟩
    replace cz0 := (hb2.cell (p := ⟨w.heap.size + 1, 0, none⟩) (by simp only []; omega)).trans cz0
    replace czf0 := (hb2.frozen (p := ⟨w.heap.size + 1, 0, none⟩) (by simp only []; omega)).trans czf0
    replace cz1 := (hb2.cell (p := ⟨w.heap.size + 1, 1, none⟩) (by simp only []; omega)).trans cz1
    replace czf1 := (hb2.frozen (p := ⟨w.heap.size + 1, 1, none⟩) (by simp only []; omega)).trans czf1
    replace cz2 := (hb2.cell (p := ⟨w.heap.size + 1, 2, none⟩) (by simp only []; omega)).trans cz2
    replace czf2 := (hb2.frozen (p := ⟨w.heap.size + 1, 2, none⟩) (by simp only []; omega)).trans czf2
    replace cz3 := (hb2.cell (p := ⟨w.heap.size + 1, 3, none⟩) (by simp only []; omega)).trans cz3
    replace czf3 := (hb2.frozen (p := ⟨w.heap.size + 1, 3, none⟩) (by simp only []; omega)).trans czf3
    replace cz4 := (hb2.cell (p := ⟨w.heap.size + 1, 4, none⟩) (by simp only []; omega)).trans cz4
    replace czf4 := (hb2.frozen (p := ⟨w.heap.size + 1, 4, none⟩) (by simp only []; omega)).trans czf4
    replace hbw := Below.step hbw hb2
    have hs2 := hb2.size
    clear hb2
    go_wp2
    refine bodyPost_ret (v := .tuple #[.agg #[.string (Rebuild_r x p d).1.name, .int .i64 (Rebuild_r x p d).1.hours, .int .i64 (Rebuild_r x p d).1.play, .int .i64 (Rebuild_r x p d).1.rust, .int .i64 (Rebuild_r x p d).1.dents], .int .i64 (Rebuild_r x p d).2]) (by rw [HR.out]; simp [results, Try.results25, go_sem, zUsed, cz0, cz1, cz2, cz3, cz4]; try rfl) rfl ⟨rfl, ?_⟩
    exact (((((hbw.setCell (by simp) _).setCell (by simp) _).setCell (by simp) _).setCell (by simp) _).setCell (by simp) _)
set_option maxHeartbeats 2000000 in
theorem sRebuild_any (x : Used) (p d : Int) (w : World) (hx : okUsed x) :
    Calls Try.prog 24 #[.agg #[.string x.name, .int .i64 x.hours, .int .i64 x.play, .int .i64 x.rust, .int .i64 x.dents], .int .i64 p, .int .i64 d] w fun e w' => e = Rebuild_e x p d ∧ Below w.heap.size w w' := by
  rcases hA : isUsed x
  · have HR : Hid (Rebuild_r x p d = (zUsed, 1)) := Lib.hid (by unfold Rebuild_r; rw [hA]; rfl)
    have HA := Lib.hid hA
    clear hA
    go_enter Try.func24, Try.ntmps24
    go_wp2_with fail
    refine (sIsUsed_any x _ hx).mono ?_
    rintro e w1 ⟨rfl, hb1⟩
    rw [HA.out]
    obtain ⟨bc1, _, bc2, bf2, hbw, hs1⟩ := box2 hb1
    clear hb1
    have cx0 : w1.cell? ⟨w.heap.size, 0, none⟩ = some (.string x.name) := (bc1 0).trans rfl
    have cx1 : w1.cell? ⟨w.heap.size, 1, none⟩ = some (.int .i64 x.hours) := (bc1 1).trans rfl
    have cx2 : w1.cell? ⟨w.heap.size, 2, none⟩ = some (.int .i64 x.play) := (bc1 2).trans rfl
    have cx3 : w1.cell? ⟨w.heap.size, 3, none⟩ = some (.int .i64 x.rust) := (bc1 3).trans rfl
    have cx4 : w1.cell? ⟨w.heap.size, 4, none⟩ = some (.int .i64 x.dents) := (bc1 4).trans rfl
    have cz0 : w1.cell? ⟨w.heap.size + 1, 0, none⟩ = some (.string ⟨#[]⟩) := (bc2 0).trans rfl
    have czf0 : w1.frozen? ⟨w.heap.size + 1, 0, none⟩ = false := bf2 0
    have cz1 : w1.cell? ⟨w.heap.size + 1, 1, none⟩ = some (.int .i64 0) := (bc2 1).trans rfl
    have czf1 : w1.frozen? ⟨w.heap.size + 1, 1, none⟩ = false := bf2 1
    have cz2 : w1.cell? ⟨w.heap.size + 1, 2, none⟩ = some (.int .i64 0) := (bc2 2).trans rfl
    have czf2 : w1.frozen? ⟨w.heap.size + 1, 2, none⟩ = false := bf2 2
    have cz3 : w1.cell? ⟨w.heap.size + 1, 3, none⟩ = some (.int .i64 0) := (bc2 3).trans rfl
    have czf3 : w1.frozen? ⟨w.heap.size + 1, 3, none⟩ = false := bf2 3
    have cz4 : w1.cell? ⟨w.heap.size + 1, 4, none⟩ = some (.int .i64 0) := (bc2 4).trans rfl
    have czf4 : w1.frozen? ⟨w.heap.size + 1, 4, none⟩ = false := bf2 4
    clear bc1 bc2 bf2
    go_wp2
    refine bodyPost_ret (v := .tuple #[.agg #[.string (Rebuild_r x p d).1.name, .int .i64 (Rebuild_r x p d).1.hours, .int .i64 (Rebuild_r x p d).1.play, .int .i64 (Rebuild_r x p d).1.rust, .int .i64 (Rebuild_r x p d).1.dents], .int .i64 (Rebuild_r x p d).2]) (by rw [HR.out]; simp [results, Try.results24, go_sem, zUsed, cz0, cz1, cz2, cz3, cz4]; try rfl) rfl ⟨rfl, ?_⟩
    exact (((((hbw.setCell (by simp) _).setCell (by simp) _).setCell (by simp) _).setCell (by simp) _).setCell (by simp) _)
  rcases h1 : inR p 0 5000
  · have HR : Hid (Rebuild_r x p d = (zUsed, 2)) := Lib.hid (by unfold Rebuild_r; rw [hA, h1]; rfl)
    have HA := Lib.hid hA
    have H1 := Lib.hid h1
    clear hA h1
    go_enter Try.func24, Try.ntmps24
    go_wp2_with fail
    refine (sIsUsed_any x _ hx).mono ?_
    rintro e w1 ⟨rfl, hb1⟩
    rw [HA.out]
    obtain ⟨bc1, _, bc2, bf2, hbw, hs1⟩ := box2 hb1
    clear hb1
    have cx0 : w1.cell? ⟨w.heap.size, 0, none⟩ = some (.string x.name) := (bc1 0).trans rfl
    have cx1 : w1.cell? ⟨w.heap.size, 1, none⟩ = some (.int .i64 x.hours) := (bc1 1).trans rfl
    have cx2 : w1.cell? ⟨w.heap.size, 2, none⟩ = some (.int .i64 x.play) := (bc1 2).trans rfl
    have cx3 : w1.cell? ⟨w.heap.size, 3, none⟩ = some (.int .i64 x.rust) := (bc1 3).trans rfl
    have cx4 : w1.cell? ⟨w.heap.size, 4, none⟩ = some (.int .i64 x.dents) := (bc1 4).trans rfl
    have cz0 : w1.cell? ⟨w.heap.size + 1, 0, none⟩ = some (.string ⟨#[]⟩) := (bc2 0).trans rfl
    have czf0 : w1.frozen? ⟨w.heap.size + 1, 0, none⟩ = false := bf2 0
    have cz1 : w1.cell? ⟨w.heap.size + 1, 1, none⟩ = some (.int .i64 0) := (bc2 1).trans rfl
    have czf1 : w1.frozen? ⟨w.heap.size + 1, 1, none⟩ = false := bf2 1
    have cz2 : w1.cell? ⟨w.heap.size + 1, 2, none⟩ = some (.int .i64 0) := (bc2 2).trans rfl
    have czf2 : w1.frozen? ⟨w.heap.size + 1, 2, none⟩ = false := bf2 2
    have cz3 : w1.cell? ⟨w.heap.size + 1, 3, none⟩ = some (.int .i64 0) := (bc2 3).trans rfl
    have czf3 : w1.frozen? ⟨w.heap.size + 1, 3, none⟩ = false := bf2 3
    have cz4 : w1.cell? ⟨w.heap.size + 1, 4, none⟩ = some (.int .i64 0) := (bc2 4).trans rfl
    have czf4 : w1.frozen? ⟨w.heap.size + 1, 4, none⟩ = false := bf2 4
    clear bc1 bc2 bf2
    go_wp2_with (first | (go_at_call_of 65 p; refine (l01In_eq H1.out _).mono ?_; rintro e w' ⟨rfl, rfl⟩))
    refine bodyPost_ret (v := .tuple #[.agg #[.string (Rebuild_r x p d).1.name, .int .i64 (Rebuild_r x p d).1.hours, .int .i64 (Rebuild_r x p d).1.play, .int .i64 (Rebuild_r x p d).1.rust, .int .i64 (Rebuild_r x p d).1.dents], .int .i64 (Rebuild_r x p d).2]) (by rw [HR.out]; simp [results, Try.results24, go_sem, zUsed, cz0, cz1, cz2, cz3, cz4]; try rfl) rfl ⟨rfl, ?_⟩
    exact (((((hbw.setCell (by simp) _).setCell (by simp) _).setCell (by simp) _).setCell (by simp) _).setCell (by simp) _)
  rcases h2 : inR d 0 20
  · have HR : Hid (Rebuild_r x p d = (zUsed, 2)) := Lib.hid (by unfold Rebuild_r; rw [hA, h1, h2]; rfl)
    have HA := Lib.hid hA
    have H1 := Lib.hid h1
    have H2 := Lib.hid h2
    clear hA h1 h2
    go_enter Try.func24, Try.ntmps24
    go_wp2_with fail
    refine (sIsUsed_any x _ hx).mono ?_
    rintro e w1 ⟨rfl, hb1⟩
    rw [HA.out]
    obtain ⟨bc1, _, bc2, bf2, hbw, hs1⟩ := box2 hb1
    clear hb1
    have cx0 : w1.cell? ⟨w.heap.size, 0, none⟩ = some (.string x.name) := (bc1 0).trans rfl
    have cx1 : w1.cell? ⟨w.heap.size, 1, none⟩ = some (.int .i64 x.hours) := (bc1 1).trans rfl
    have cx2 : w1.cell? ⟨w.heap.size, 2, none⟩ = some (.int .i64 x.play) := (bc1 2).trans rfl
    have cx3 : w1.cell? ⟨w.heap.size, 3, none⟩ = some (.int .i64 x.rust) := (bc1 3).trans rfl
    have cx4 : w1.cell? ⟨w.heap.size, 4, none⟩ = some (.int .i64 x.dents) := (bc1 4).trans rfl
    have cz0 : w1.cell? ⟨w.heap.size + 1, 0, none⟩ = some (.string ⟨#[]⟩) := (bc2 0).trans rfl
    have czf0 : w1.frozen? ⟨w.heap.size + 1, 0, none⟩ = false := bf2 0
    have cz1 : w1.cell? ⟨w.heap.size + 1, 1, none⟩ = some (.int .i64 0) := (bc2 1).trans rfl
    have czf1 : w1.frozen? ⟨w.heap.size + 1, 1, none⟩ = false := bf2 1
    have cz2 : w1.cell? ⟨w.heap.size + 1, 2, none⟩ = some (.int .i64 0) := (bc2 2).trans rfl
    have czf2 : w1.frozen? ⟨w.heap.size + 1, 2, none⟩ = false := bf2 2
    have cz3 : w1.cell? ⟨w.heap.size + 1, 3, none⟩ = some (.int .i64 0) := (bc2 3).trans rfl
    have czf3 : w1.frozen? ⟨w.heap.size + 1, 3, none⟩ = false := bf2 3
    have cz4 : w1.cell? ⟨w.heap.size + 1, 4, none⟩ = some (.int .i64 0) := (bc2 4).trans rfl
    have czf4 : w1.frozen? ⟨w.heap.size + 1, 4, none⟩ = false := bf2 4
    clear bc1 bc2 bf2
    go_wp2_with (first | (go_at_call_of 65 p; refine (l01In_eq H1.out _).mono ?_; rintro e w' ⟨rfl, rfl⟩) | (go_at_call_of 65 d; refine (l01In_eq H2.out _).mono ?_; rintro e w' ⟨rfl, rfl⟩))
    refine bodyPost_ret (v := .tuple #[.agg #[.string (Rebuild_r x p d).1.name, .int .i64 (Rebuild_r x p d).1.hours, .int .i64 (Rebuild_r x p d).1.play, .int .i64 (Rebuild_r x p d).1.rust, .int .i64 (Rebuild_r x p d).1.dents], .int .i64 (Rebuild_r x p d).2]) (by rw [HR.out]; simp [results, Try.results24, go_sem, zUsed, cz0, cz1, cz2, cz3, cz4]; try rfl) rfl ⟨rfl, ?_⟩
    exact (((((hbw.setCell (by simp) _).setCell (by simp) _).setCell (by simp) _).setCell (by simp) _).setCell (by simp) _)
  · have HR : Hid (Rebuild_r x p d = (rebuiltF x p d, 0)) := Lib.hid (by unfold Rebuild_r; rw [hA, h1, h2]; rfl)
    have HA := Lib.hid hA
    have H1 := Lib.hid h1
    have H2 := Lib.hid h2
    have hxb := isUsed_bd hA
    have hd := inR_iff.1 h2
    clear hA h1 h2
    go_enter Try.func24, Try.ntmps24
    go_wp2_with fail
    refine (sIsUsed_any x _ hx).mono ?_
    rintro e w1 ⟨rfl, hb1⟩
    rw [HA.out]
    obtain ⟨bc1, _, bc2, bf2, hbw, hs1⟩ := box2 hb1
    clear hb1
    have cx0 : w1.cell? ⟨w.heap.size, 0, none⟩ = some (.string x.name) := (bc1 0).trans rfl
    have cx1 : w1.cell? ⟨w.heap.size, 1, none⟩ = some (.int .i64 x.hours) := (bc1 1).trans rfl
    have cx2 : w1.cell? ⟨w.heap.size, 2, none⟩ = some (.int .i64 x.play) := (bc1 2).trans rfl
    have cx3 : w1.cell? ⟨w.heap.size, 3, none⟩ = some (.int .i64 x.rust) := (bc1 3).trans rfl
    have cx4 : w1.cell? ⟨w.heap.size, 4, none⟩ = some (.int .i64 x.dents) := (bc1 4).trans rfl
    have cz0 : w1.cell? ⟨w.heap.size + 1, 0, none⟩ = some (.string ⟨#[]⟩) := (bc2 0).trans rfl
    have czf0 : w1.frozen? ⟨w.heap.size + 1, 0, none⟩ = false := bf2 0
    have cz1 : w1.cell? ⟨w.heap.size + 1, 1, none⟩ = some (.int .i64 0) := (bc2 1).trans rfl
    have czf1 : w1.frozen? ⟨w.heap.size + 1, 1, none⟩ = false := bf2 1
    have cz2 : w1.cell? ⟨w.heap.size + 1, 2, none⟩ = some (.int .i64 0) := (bc2 2).trans rfl
    have czf2 : w1.frozen? ⟨w.heap.size + 1, 2, none⟩ = false := bf2 2
    have cz3 : w1.cell? ⟨w.heap.size + 1, 3, none⟩ = some (.int .i64 0) := (bc2 3).trans rfl
    have czf3 : w1.frozen? ⟨w.heap.size + 1, 3, none⟩ = false := bf2 3
    have cz4 : w1.cell? ⟨w.heap.size + 1, 4, none⟩ = some (.int .i64 0) := (bc2 4).trans rfl
    have czf4 : w1.frozen? ⟨w.heap.size + 1, 4, none⟩ = false := bf2 4
    clear bc1 bc2 bf2
    go_wp2_with (first | (go_at_call_of 65 p; refine (l01In_eq H1.out _).mono ?_; rintro e w' ⟨rfl, rfl⟩) | (go_at_call_of 65 d; refine (l01In_eq H2.out _).mono ?_; rintro e w' ⟨rfl, rfl⟩))
    refine (srebuilt_any x p d w1 (by omega) (by omega) (by omega) (by omega)).mono ?_
    rintro e w2 ⟨rfl, hb2⟩
    replace cz0 := (hb2.cell (p := ⟨w.heap.size + 1, 0, none⟩) (by simp only []; omega)).trans cz0
    replace czf0 := (hb2.frozen (p := ⟨w.heap.size + 1, 0, none⟩) (by simp only []; omega)).trans czf0
    replace cz1 := (hb2.cell (p := ⟨w.heap.size + 1, 1, none⟩) (by simp only []; omega)).trans cz1
    replace czf1 := (hb2.frozen (p := ⟨w.heap.size + 1, 1, none⟩) (by simp only []; omega)).trans czf1
    replace cz2 := (hb2.cell (p := ⟨w.heap.size + 1, 2, none⟩) (by simp only []; omega)).trans cz2
    replace czf2 := (hb2.frozen (p := ⟨w.heap.size + 1, 2, none⟩) (by simp only []; omega)).trans czf2
    replace cz3 := (hb2.cell (p := ⟨w.heap.size + 1, 3, none⟩) (by simp only []; omega)).trans cz3
    replace czf3 := (hb2.frozen (p := ⟨w.heap.size + 1, 3, none⟩) (by simp only []; omega)).trans czf3
    replace cz4 := (hb2.cell (p := ⟨w.heap.size + 1, 4, none⟩) (by simp only []; omega)).trans cz4
    replace czf4 := (hb2.frozen (p := ⟨w.heap.size + 1, 4, none⟩) (by simp only []; omega)).trans czf4
    replace hbw := Below.step hbw hb2
    have hs2 := hb2.size
    clear hb2
    go_wp2
    refine bodyPost_ret (v := .tuple #[.agg #[.string (Rebuild_r x p d).1.name, .int .i64 (Rebuild_r x p d).1.hours, .int .i64 (Rebuild_r x p d).1.play, .int .i64 (Rebuild_r x p d).1.rust, .int .i64 (Rebuild_r x p d).1.dents], .int .i64 (Rebuild_r x p d).2]) (by rw [HR.out]; simp [results, Try.results24, go_sem, zUsed, cz0, cz1, cz2, cz3, cz4]; try rfl) rfl ⟨rfl, ?_⟩
    exact (((((hbw.setCell (by simp) _).setCell (by simp) _).setCell (by simp) _).setCell (by simp) _).setCell (by simp) _)
theorem iRebuild_law (x : Used) (p d : Int) (w : World) (hx : okUsed x) (_ : (Lit.int .i64 p).wf = true) (_ : (Lit.int .i64 d).wf = true) :
    Calls Try.prog 25 #[.agg #[.string x.name, .int .i64 x.hours, .int .i64 x.play, .int .i64 x.rust, .int .i64 x.dents], .int .i64 p, .int .i64 d] w fun e w' => e = Rebuild_e x p d ∧ Below w.heap.size w w' := iRebuild_any x p d w hx
theorem sRebuild_law (x : Used) (p d : Int) (w : World) (hx : okUsed x) (_ : (Lit.int .i64 p).wf = true) (_ : (Lit.int .i64 d).wf = true) :
    Calls Try.prog 24 #[.agg #[.string x.name, .int .i64 x.hours, .int .i64 x.play, .int .i64 x.rust, .int .i64 x.dents], .int .i64 p, .int .i64 d] w fun e w' => e = Rebuild_e x p d ∧ Below w.heap.size w w' := sRebuild_any x p d w hx
end Go.Proofs.Ytncggcbpbejmcaa
