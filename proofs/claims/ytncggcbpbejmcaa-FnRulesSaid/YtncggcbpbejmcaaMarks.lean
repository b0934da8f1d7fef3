/- Plain lemmas on lists whose elements are overwritten by marks, one behind the other. No statement of the seat is proved here. -/
import Derived.Test.YtncggcbpbejmcaaText
namespace Go.Proofs.Ytncggcbpbejmcaa
open Go.RowKit

theorem grown_below {w wr w2 : World} {row : Option Nat} (hg : w.grownBy wr row) (hb : Below wr.heap.size wr w2) : w.grownBy w2 row :=
  ⟨hb.os.trans hg.os, hb.tape.trans hg.tape, hb.output.trans hg.output, Nat.le_trans hg.size hb.size, fun i hi hne => (hb.block i (Nat.lt_of_lt_of_le hi hg.size)).trans (hg.block i hi hne)⟩
theorem grown_step {w wr w2 : World} {row : Option Nat} (h1 : w.grownBy wr row) (h2 : wr.grownBy w2 row) : w.grownBy w2 row :=
  ⟨h2.os.trans h1.os, h2.tape.trans h1.tape, h2.output.trans h1.output, Nat.le_trans h1.size h2.size, fun i hi hne => (h2.block i (Nat.lt_of_lt_of_le hi h1.size) hne).trans (h1.block i hi hne)⟩
section
variable {α : Type} (f : Nat → α) (xs : List α)
/-- the first k marked -/
def mkd (k : Nat) : List α := (List.range k).map f ++ xs.drop k
theorem mkd_len (k : Nat) (h : k ≤ xs.length) : (mkd f xs k).length = xs.length := by simp [mkd]; omega
theorem mkd_zero : mkd f xs 0 = xs := by simp [mkd]
theorem mkd_succ (k : Nat) (h : k < xs.length) : (mkd f xs k).set k (f k) = mkd f xs (k + 1) := by
  unfold mkd
  rw [List.set_append_right _ _ (by simp), List.range_succ, List.map_append, List.append_assoc]
  congr 1
  rw [List.drop_eq_getElem_cons h]
  simp only [List.length_map, List.length_range, Nat.sub_self, List.set_cons_zero]
  rfl
theorem mkd_all : mkd f xs xs.length = (List.range xs.length).map f := by simp [mkd]
end
theorem mkA_len {α : Type} (f : Nat → α) (n : Nat) : ((List.range n).map f).length = n := by simp
theorem mkA_at {α : Type} (f : Nat → α) (n k : Nat) (h : k < ((List.range n).map f).length) : ((List.range n).map f)[k] = f k := by simp
def markT (n : Nat) : ByteArray := ⟨#[109]⟩ ++ dg n ByteArray.empty
theorem markText_law (n : Nat) (w : World) (h0 : 0 < n) (h1 : n ≤ 10000000000000) :
    Calls Try.prog 82 #[.int .i64 n] w fun e w' => e = .returned (.string (markT n)) ∧ Below w.heap.size w w' := markText_any n w h0 h1
end Go.Proofs.Ytncggcbpbejmcaa
