/- Contracts of IsWord in the program and in the reference. No statement of the seat is proved here. -/
import Derived.Test.YtijmafppdbllfaaInts
namespace Go.Proofs.Ytijmafppdbllfaa
open Go.RowKit

theorem within_eq {n lo hi : Int} {b : Bool} (h : inR n lo hi = b) (w : World) : Calls Try.prog 60 #[.int .i64 n, .int .i64 lo, .int .i64 hi] w fun e w' => e = .returned (.bool b) ∧ w = w' := by
  subst h; exact within_any _ _ _ _
theorem l01In_eq {n lo hi : Int} {b : Bool} (h : inR n lo hi = b) (w : World) : Calls Try.prog 53 #[.int .i64 n, .int .i64 lo, .int .i64 hi] w fun e w' => e = .returned (.bool b) ∧ w = w' := by
  subst h; exact l01In_any _ _ _ _
theorem getD_at {α : Type} (xs : List α) (z : α) (k : Nat) (h : k < xs.length) : xs.getD k z = xs[k] := by simp [h]
theorem range_all_succ {p : Nat → Bool} {k : Nat} (h : (List.range k).all p = true) (hk : p k = true) : (List.range (k + 1)).all p = true := by
  rw [List.range_succ, List.all_append, h]; simp [hk]
theorem range_all_false {p : Nat → Bool} {k n : Nat} (h : k < n) (hk : p k = false) : (List.range n).all p = false := by
  rw [List.all_eq_false]; exact ⟨k, List.mem_range.2 h, by simp [hk]⟩

def lowAt (s : ByteArray) (i : Nat) : Bool := if h : i < s.size then inR (s[i].toNat : Int) 97 122 else true
def isWord (s : ByteArray) : Bool := inR s.size 1 16 && (List.range s.size).all (lowAt s)
theorem lowAt_eq {s : ByteArray} {k : Nat} (h : k < s.size) : lowAt s k = inR (s[k].toNat : Int) 97 122 := by unfold lowAt; rw [dif_pos h]

end Go.Proofs.Ytijmafppdbllfaa
