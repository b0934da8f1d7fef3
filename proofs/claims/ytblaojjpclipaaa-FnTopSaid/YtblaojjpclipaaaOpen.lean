/- Builds: eight texts; which joints of a build are open; the contract of the program's isOpen (chapter 17). No statement of the seat is proved here. -/
import Derived.Test.YtblaojjpclipaaaJoinP
import Derived.Test.YtblaojjpclipaaaM1
import Derived.Test.YtblaojjpclipaaaPartF
namespace Go.Proofs.Ytblaojjpclipaaa
open Go.RowKit

def emp (s : ByteArray) : Bool := s.toList.isEmpty
def getC (b : List ByteArray) (i : Int) : ByteArray := b.getD i.toNat ⟨#[]⟩
def openB (b : List ByteArray) (j : Joint) : Bool := emp (getC b j.a) || emp (getC b j.b)
/-- a joint of two slots of a build -/
def okJ (j : Joint) : Prop := 0 ≤ j.a ∧ j.a ≤ 7 ∧ 0 ≤ j.b ∧ j.b ≤ 7
/-- a build in memory: eight texts -/
theorem build_at {w : World} {v : Value} {b : List ByteArray} (h : Sl eS w v b) (h8 : b.length = 8) : ∃ g off cap, v = .slice (some ⟨g, off, none⟩) 8 cap ∧ 8 ≤ cap ∧ g < w.heap.size ∧ ∀ (i : Int), 0 ≤ i → i ≤ 7 → ∀ W, Below w.heap.size w W → W.cell? ⟨g, off + i.toNat, none⟩ = some (.string (getC b i)) := by
  obtain ⟨A, cap, rfl, hcap, _, hc⟩ := Strs.shape h
  obtain ⟨g, off, rfl, hg, hcell⟩ := hc (by omega)
  rw [h8] at hcap
  refine ⟨g, off, cap, by rw [h8], hcap, hg, fun i h0 h7 W hW => ?_⟩
  have hk : i.toNat < b.length := by omega
  refine (hW.cell (p := ⟨g, off + i.toNat, none⟩) hg).trans ?_
  rw [hcell i.toNat hk]
  unfold getC
  rw [getD_at _ _ _ hk]
set_option maxHeartbeats 4000000 in
set_option maxRecDepth 20000 in
theorem isOpen_any (v : Value) (b : List ByteArray) (j : Joint) (w : World) (hv : Sl eS w v b) (h8 : b.length = 8) (hj : okJ j) :
    Calls Try.prog 99 #[v, .agg #[.int .i64 j.a, .int .i64 j.b, .int .i64 j.kind]] w fun e w' => e = .returned (.bool (openB b j)) ∧ Below w.heap.size w w' := by
  obtain ⟨g, off, cap, rfl, hcap, hg, hcell⟩ := build_at hv h8
  obtain ⟨ja, jb, kd⟩ := j
  obtain ⟨h1, h2, h3, h4⟩ := hj
  simp only at *
  obtain ⟨a, rfl⟩ : ∃ a : Nat, ja = a := ⟨ja.toNat, by omega⟩
  obtain ⟨c, rfl⟩ : ∃ c : Nat, jb = c := ⟨jb.toNat, by omega⟩
  have hW : Below w.heap.size w (w.alloc (.cells #[.int .i64 (a : Int), .int .i64 (c : Int), .int .i64 kd] 47)) := (Below.refl _ _).alloc (Nat.le_refl _) _
  have c0 := hcell (a : Int) h1 h2 _ hW
  have c1 := hcell (c : Int) h3 h4 _ hW
  simp only [Int.toNat_natCast] at c0 c1
  have b0 : (w.alloc (.cells #[.int .i64 (a : Int), .int .i64 (c : Int), .int .i64 kd] 47)).cell? ⟨w.heap.size, 0, none⟩ = some (.int .i64 (a : Int)) := (box_new _ _ _ 0).trans rfl
  have b1 : (w.alloc (.cells #[.int .i64 (a : Int), .int .i64 (c : Int), .int .i64 kd] 47)).cell? ⟨w.heap.size, 1, none⟩ = some (.int .i64 (c : Int)) := (box_new _ _ _ 1).trans rfl
  have HB := Lib.hid hW
  have hd : openB b ⟨a, c, kd⟩ = (emp (getC b a) || emp (getC b c)) := rfl
  have HD := Lib.hid hd
  clear hcell hv hW hd
  generalize getC b (a : Int) = s at *
  generalize getC b (c : Int) = t at *
  by_cases hs : s.toList = []
  · have HS : Hid (emp s = true) := Lib.hid (by unfold emp; rw [hs]; rfl)
    go_enter Try.func99, Try.ntmps99
    go_wp2
    go_ret
    exact ⟨ret_bool (by rw [HD.out, HS.out]; rfl), HB.out⟩
  · go_enter Try.func99, Try.ntmps99
    go_wp2
    go_ret
    exact ⟨ret_bool (by rw [HD.out]; rfl), HB.out⟩
end Go.Proofs.Ytblaojjpclipaaa
