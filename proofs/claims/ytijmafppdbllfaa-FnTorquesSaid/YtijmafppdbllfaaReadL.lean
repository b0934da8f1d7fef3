/- The contracts of chapter 26's functions on readings in the form that the laws use. No statement of the seat is proved here. -/
import Derived.Test.YtijmafppdbllfaaStar
namespace Go.Proofs.Ytijmafppdbllfaa
open Go.RowKit

def SteepestPair_r (xs : List Int) : Int × Int × Int := if areReadings xs then ((steep xs xs.length).1, (steep xs xs.length).2, 0) else (0, 0, 1)
theorem SteepPost.out {xs : List Int} {e : Ending} (h : SteepPost xs e) : e = .returned (.tuple #[.int .i64 (SteepestPair_r xs).1, .int .i64 (SteepestPair_r xs).2.1, .int .i64 (SteepestPair_r xs).2.2]) := by
  rw [h]; unfold SteepestPair_r; split <;> rfl
theorem sSteepestPair_law (v : Value) (xs : List Int) (w : World) (hv : Ints w v xs) (_ : xs.length ≤ 1048576) :
    Calls Try.prog 19 #[v] w fun e w' => e = .returned (.tuple #[.int .i64 (SteepestPair_r xs).1, .int .i64 (SteepestPair_r xs).2.1, .int .i64 (SteepestPair_r xs).2.2]) ∧ Below w.heap.size w w' :=
  (toB_draw (sSteepestPair_any v xs w hv)).mono fun _ _ ⟨h1, h2⟩ => ⟨h1.out, h2⟩
theorem iSteepestPair_law (v : Value) (xs : List Int) (w : World) (hv : Ints w v xs) (_ : xs.length ≤ 1048576) :
    Calls Try.prog 20 #[v] w fun e w' => e = .returned (.tuple #[.int .i64 (SteepestPair_r xs).1, .int .i64 (SteepestPair_r xs).2.1, .int .i64 (SteepestPair_r xs).2.2]) ∧ Below w.heap.size w w' :=
  (toB_same (iSteepestPair_any v xs w hv)).mono fun _ _ ⟨h1, h2⟩ => ⟨h1.out, h2⟩

def IsEven_r (xs : List Int) (t p : Int) : Bool × Int := if areReadings xs then (if inR t 1 2000 && inR p 0 100 then (xs.all fun n => !farOff t p n, 0) else (false, 2)) else (false, 1)
theorem EvenPost.out {xs : List Int} {t p : Int} {e : Ending} (h : EvenPost xs t p e) : e = .returned (.tuple #[.bool (IsEven_r xs t p).1, .int .i64 (IsEven_r xs t p).2]) := by
  rw [h]; unfold IsEven_r; split <;> (try split) <;> rfl
theorem sIsEven_law (v : Value) (xs : List Int) (t p : Int) (w : World) (hv : Ints w v xs) (_ : xs.length ≤ 1048576) (_ : (Lit.int .i64 t).wf = true) (_ : (Lit.int .i64 p).wf = true) :
    Calls Try.prog 21 #[v, .int .i64 t, .int .i64 p] w fun e w' => e = .returned (.tuple #[.bool (IsEven_r xs t p).1, .int .i64 (IsEven_r xs t p).2]) ∧ Below w.heap.size w w' :=
  (toB_same (sIsEven_any v xs t p w hv)).mono fun _ _ ⟨h1, h2⟩ => ⟨h1.out, h2⟩
theorem iIsEven_law (v : Value) (xs : List Int) (t p : Int) (w : World) (hv : Ints w v xs) (_ : xs.length ≤ 1048576) (_ : (Lit.int .i64 t).wf = true) (_ : (Lit.int .i64 p).wf = true) :
    Calls Try.prog 22 #[v, .int .i64 t, .int .i64 p] w fun e w' => e = .returned (.tuple #[.bool (IsEven_r xs t p).1, .int .i64 (IsEven_r xs t p).2]) ∧ Below w.heap.size w w' :=
  (toB_same (iIsEven_any v xs t p w hv)).mono fun _ _ ⟨h1, h2⟩ => ⟨h1.out, h2⟩
end Go.Proofs.Ytijmafppdbllfaa
