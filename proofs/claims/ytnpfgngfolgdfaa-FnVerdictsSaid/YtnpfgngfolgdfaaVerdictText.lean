/- Contracts of VerdictText. No statement of the seat is proved here. -/
import Derived.Test.YtnpfgngfolgdfaaWords
namespace Go.Proofs.Ytnpfgngfolgdfaa
open Go.RowKit

def verdictWord (v : Int) : ByteArray := if v = 0 then ⟨#[103, 114, 97, 110, 116, 101, 100]⟩ else if v = 1 then ⟨#[117, 110, 107, 110, 111, 119, 110]⟩ else if v = 2 then ⟨#[108, 97, 116, 101]⟩ else if v = 3 then ⟨#[119, 111, 114, 110]⟩ else ⟨#[117, 115, 101, 100]⟩
def VerdictText_r (v : Int) : ByteArray × Int := if inR v 0 4 then (verdictWord v, 0) else (⟨#[]⟩, 2)

theorem iVerdictText_law (v : Int) (w : World) (_ : (Lit.int .i64 v).wf = true) :
    Calls Try.prog 16 #[.int .i64 v] w fun e w' => e = .returned (.tuple #[.string (VerdictText_r v).1, .int .i64 (VerdictText_r v).2]) ∧ Below w.heap.size w w' := by
  rcases hA : inR v 0 4
  · have hv := inR_false.1 hA
    have hr : VerdictText_r v = (⟨#[]⟩, 2) := by unfold VerdictText_r; rw [hA]; rfl
    rw [hr]
    rcases hv with hv | hv
    all_goals
      go_enter Try.func16, Try.ntmps16
      go_wp2
      go_ret2
      exact ⟨rfl, Below.refl _ _⟩
  · obtain ⟨h1, h2⟩ := inR_iff.1 hA
    rcases (show v = 0 ∨ v = 1 ∨ v = 2 ∨ v = 3 ∨ v = 4 by omega) with rfl | rfl | rfl | rfl | rfl
    all_goals
      go_enter Try.func16, Try.ntmps16
      go_wp2
      go_ret2
      refine ⟨rfl, ?_⟩
      go_grown

theorem sVerdictText_law (v : Int) (w : World) (_ : (Lit.int .i64 v).wf = true) :
    Calls Try.prog 15 #[.int .i64 v] w fun e w' => e = .returned (.tuple #[.string (VerdictText_r v).1, .int .i64 (VerdictText_r v).2]) ∧ Below w.heap.size w w' := by
  rcases hA : inR v 0 4
  · have hv := inR_false.1 hA
    have hr : VerdictText_r v = (⟨#[]⟩, 2) := by unfold VerdictText_r; rw [hA]; rfl
    rw [hr]
    rcases hv with hv | hv
    all_goals
      go_enter Try.func15, Try.ntmps15
      go_wp2_with (go_at_call 58; refine (l01In_any _ _ _ _).mono ?_; rintro e w' ⟨rfl, rfl⟩; rw [hA])
      go_ret2
      exact ⟨rfl, Below.refl _ _⟩
  · obtain ⟨h1, h2⟩ := inR_iff.1 hA
    rcases (show v = 0 ∨ v = 1 ∨ v = 2 ∨ v = 3 ∨ v = 4 by omega) with rfl | rfl | rfl | rfl | rfl
    all_goals
      go_enter Try.func15, Try.ntmps15
      go_wp2_with (go_at_call 58; refine (l01In_any _ _ _ _).mono ?_; rintro e w' ⟨rfl, rfl⟩; rw [hA])
      go_ret2
      refine ⟨rfl, ?_⟩
      go_grown
end Go.Proofs.Ytnpfgngfolgdfaa
