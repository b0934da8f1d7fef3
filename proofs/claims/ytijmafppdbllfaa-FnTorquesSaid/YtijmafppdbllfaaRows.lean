/-
  No cell of these rows narrows 'for every input' (looked for: loops, veiled, ifaces, maps, wideKeys, modest, calm, conditions, laid).
  DERIVED. THE GIVEN ROWS OF THIS SEAT. 12 by the template 'for every input the law returns true; each argument reads behind the call as it read before'; 0 by the template 'total and deterministic' (their statements: YtijmafppdbllfaaTotals.lean).
  GIVEN WITH THE SEED: the statements are not yours to turn. If you find one false, say at which input.
  Laid BY PROGRAM, IN A SANDBOX (cutbox-rows.mjs): the forced cells as the released guide's own fill.sh prints them over the translation 0dd559325044c4be… (all of the seat's roots in one cut). By AI agents, Wed Nov 11 2026. No macro, syntax, notation, axiom, sorry.
-/
import Derived.Test.YtijmafppdbllfaaChecked
import GoSem.Claim
import GoSem.ClaimJoined
import GoSem.ClaimMapViews
import Derived.JoinedTies
import Derived.KernelRfl
namespace Go.Proofs.Ytijmafppdbllfaa
/- THE CELL 'sum', in the pinned program and in every row, IS THE sha256 OF THE DUMP (.gsa) THAT YtijmafppdbllfaaProg.lean LOADS. Nothing in Lean hashes anything: it is a label: what it is worth is what the hold of that sum in a sandbox is worth. -/
noncomputable def Try.pinned : Pinned := { name := "ytijmafppdbllfaa", sum := "0dd559325044c4be411bb94be6fcf69c3af1fc306edefa728a22ad4088644a98", checked := Try.checked }
namespace Rows
def none {H : Type} : Left H := { results := [], args := [] }

/-- 'laws.FnExactAreReadings': WHATEVER THE INPUT: true; the input reads as it did. -/
def fnExactAreReadingsSpec : ChangeSpec := { name := "fnExactAreReadings", fn := fun _ => fun
  | [d] => { results := [.lit (.bool true)], args := [d] }
  | _ => none }
def fnExactAreReadingsRow : OpenClaim := { program := "ytijmafppdbllfaa", sum := "0dd559325044c4be411bb94be6fcf69c3af1fc306edefa728a22ad4088644a98", func := "loop.example/g01050/laws.FnExactAreReadings", spec := "fnExactAreReadings", apart := false }
def FnExactAreReadingsSaid : Prop := fnExactAreReadingsRow.holds Try.pinned (OpenSpec.ofChange fnExactAreReadingsSpec)

/-- ITS FALSE NEIGHBOUR: 'it returns false'. Refute it at one input. -/
def fnExactAreReadingsWrong : ChangeSpec := { name := "fnExactAreReadings", fn := fun _ => fun
  | [d] => { results := [.lit (.bool false)], args := [d] }
  | _ => none }
def FnExactAreReadingsWrongFalsely : Prop := fnExactAreReadingsRow.holds Try.pinned (OpenSpec.ofChange fnExactAreReadingsWrong)

/-- 'laws.FnExactSteepestPair': WHATEVER THE INPUT: true; the input reads as it did. -/
def fnExactSteepestPairSpec : ChangeSpec := { name := "fnExactSteepestPair", fn := fun _ => fun
  | [d] => { results := [.lit (.bool true)], args := [d] }
  | _ => none }
def fnExactSteepestPairRow : OpenClaim := { program := "ytijmafppdbllfaa", sum := "0dd559325044c4be411bb94be6fcf69c3af1fc306edefa728a22ad4088644a98", func := "loop.example/g01050/laws.FnExactSteepestPair", spec := "fnExactSteepestPair", apart := false }
def FnExactSteepestPairSaid : Prop := fnExactSteepestPairRow.holds Try.pinned (OpenSpec.ofChange fnExactSteepestPairSpec)

/-- ITS FALSE NEIGHBOUR: 'it returns false'. Refute it at one input. -/
def fnExactSteepestPairWrong : ChangeSpec := { name := "fnExactSteepestPair", fn := fun _ => fun
  | [d] => { results := [.lit (.bool false)], args := [d] }
  | _ => none }
def FnExactSteepestPairWrongFalsely : Prop := fnExactSteepestPairRow.holds Try.pinned (OpenSpec.ofChange fnExactSteepestPairWrong)

/-- 'laws.FnExactIsEven': WHATEVER THE INPUT: true; the input reads as it did. -/
def fnExactIsEvenSpec : ChangeSpec := { name := "fnExactIsEven", fn := fun _ => fun
  | [d1, d2, d3] => { results := [.lit (.bool true)], args := [d1, d2, d3] }
  | _ => none }
def fnExactIsEvenRow : OpenClaim := { program := "ytijmafppdbllfaa", sum := "0dd559325044c4be411bb94be6fcf69c3af1fc306edefa728a22ad4088644a98", func := "loop.example/g01050/laws.FnExactIsEven", spec := "fnExactIsEven", apart := false }
def FnExactIsEvenSaid : Prop := fnExactIsEvenRow.holds Try.pinned (OpenSpec.ofChange fnExactIsEvenSpec)

/-- ITS FALSE NEIGHBOUR: 'it returns false'. Refute it at one input. -/
def fnExactIsEvenWrong : ChangeSpec := { name := "fnExactIsEven", fn := fun _ => fun
  | [d1, d2, d3] => { results := [.lit (.bool false)], args := [d1, d2, d3] }
  | _ => none }
def FnExactIsEvenWrongFalsely : Prop := fnExactIsEvenRow.holds Try.pinned (OpenSpec.ofChange fnExactIsEvenWrong)

/-- 'laws.FnExactStarOrder': WHATEVER THE INPUT: true; the input reads as it did. -/
def fnExactStarOrderSpec : ChangeSpec := { name := "fnExactStarOrder", fn := fun _ => fun
  | [d] => { results := [.lit (.bool true)], args := [d] }
  | _ => none }
def fnExactStarOrderRow : OpenClaim := { program := "ytijmafppdbllfaa", sum := "0dd559325044c4be411bb94be6fcf69c3af1fc306edefa728a22ad4088644a98", func := "loop.example/g01050/laws.FnExactStarOrder", spec := "fnExactStarOrder", apart := false }
def FnExactStarOrderSaid : Prop := fnExactStarOrderRow.holds Try.pinned (OpenSpec.ofChange fnExactStarOrderSpec)

/-- ITS FALSE NEIGHBOUR: 'it returns false'. Refute it at one input. -/
def fnExactStarOrderWrong : ChangeSpec := { name := "fnExactStarOrder", fn := fun _ => fun
  | [d] => { results := [.lit (.bool false)], args := [d] }
  | _ => none }
def FnExactStarOrderWrongFalsely : Prop := fnExactStarOrderRow.holds Try.pinned (OpenSpec.ofChange fnExactStarOrderWrong)

/-- 'laws.FnExactWrenchFor': WHATEVER THE INPUT: true; the input reads as it did. -/
def fnExactWrenchForSpec : ChangeSpec := { name := "fnExactWrenchFor", fn := fun _ => fun
  | [d1, d2] => { results := [.lit (.bool true)], args := [d1, d2] }
  | _ => none }
def fnExactWrenchForRow : OpenClaim := { program := "ytijmafppdbllfaa", sum := "0dd559325044c4be411bb94be6fcf69c3af1fc306edefa728a22ad4088644a98", func := "loop.example/g01050/laws.FnExactWrenchFor", spec := "fnExactWrenchFor", apart := false }
def FnExactWrenchForSaid : Prop := fnExactWrenchForRow.holds Try.pinned (OpenSpec.ofChange fnExactWrenchForSpec)

/-- ITS FALSE NEIGHBOUR: 'it returns false'. Refute it at one input. -/
def fnExactWrenchForWrong : ChangeSpec := { name := "fnExactWrenchFor", fn := fun _ => fun
  | [d1, d2] => { results := [.lit (.bool false)], args := [d1, d2] }
  | _ => none }
def FnExactWrenchForWrongFalsely : Prop := fnExactWrenchForRow.holds Try.pinned (OpenSpec.ofChange fnExactWrenchForWrong)

/-- 'laws.FnExactNextBolt': WHATEVER THE INPUT: true; the input reads as it did. -/
def fnExactNextBoltSpec : ChangeSpec := { name := "fnExactNextBolt", fn := fun _ => fun
  | [d1, d2] => { results := [.lit (.bool true)], args := [d1, d2] }
  | _ => none }
def fnExactNextBoltRow : OpenClaim := { program := "ytijmafppdbllfaa", sum := "0dd559325044c4be411bb94be6fcf69c3af1fc306edefa728a22ad4088644a98", func := "loop.example/g01050/laws.FnExactNextBolt", spec := "fnExactNextBolt", apart := false }
def FnExactNextBoltSaid : Prop := fnExactNextBoltRow.holds Try.pinned (OpenSpec.ofChange fnExactNextBoltSpec)

/-- ITS FALSE NEIGHBOUR: 'it returns false'. Refute it at one input. -/
def fnExactNextBoltWrong : ChangeSpec := { name := "fnExactNextBolt", fn := fun _ => fun
  | [d1, d2] => { results := [.lit (.bool false)], args := [d1, d2] }
  | _ => none }
def FnExactNextBoltWrongFalsely : Prop := fnExactNextBoltRow.holds Try.pinned (OpenSpec.ofChange fnExactNextBoltWrong)

/-- 'laws.FnExactTightenPlan': WHATEVER THE INPUT: true; the input reads as it did. -/
def fnExactTightenPlanSpec : ChangeSpec := { name := "fnExactTightenPlan", fn := fun _ => fun
  | [d1, d2, d3] => { results := [.lit (.bool true)], args := [d1, d2, d3] }
  | _ => none }
def fnExactTightenPlanRow : OpenClaim := { program := "ytijmafppdbllfaa", sum := "0dd559325044c4be411bb94be6fcf69c3af1fc306edefa728a22ad4088644a98", func := "loop.example/g01050/laws.FnExactTightenPlan", spec := "fnExactTightenPlan", apart := false }
def FnExactTightenPlanSaid : Prop := fnExactTightenPlanRow.holds Try.pinned (OpenSpec.ofChange fnExactTightenPlanSpec)

/-- ITS FALSE NEIGHBOUR: 'it returns false'. Refute it at one input. -/
def fnExactTightenPlanWrong : ChangeSpec := { name := "fnExactTightenPlan", fn := fun _ => fun
  | [d1, d2, d3] => { results := [.lit (.bool false)], args := [d1, d2, d3] }
  | _ => none }
def FnExactTightenPlanWrongFalsely : Prop := fnExactTightenPlanRow.holds Try.pinned (OpenSpec.ofChange fnExactTightenPlanWrong)

/-- 'laws.FnExactLoosenPlan': WHATEVER THE INPUT: true; the input reads as it did. -/
def fnExactLoosenPlanSpec : ChangeSpec := { name := "fnExactLoosenPlan", fn := fun _ => fun
  | [d1, d2, d3] => { results := [.lit (.bool true)], args := [d1, d2, d3] }
  | _ => none }
def fnExactLoosenPlanRow : OpenClaim := { program := "ytijmafppdbllfaa", sum := "0dd559325044c4be411bb94be6fcf69c3af1fc306edefa728a22ad4088644a98", func := "loop.example/g01050/laws.FnExactLoosenPlan", spec := "fnExactLoosenPlan", apart := false }
def FnExactLoosenPlanSaid : Prop := fnExactLoosenPlanRow.holds Try.pinned (OpenSpec.ofChange fnExactLoosenPlanSpec)

/-- ITS FALSE NEIGHBOUR: 'it returns false'. Refute it at one input. -/
def fnExactLoosenPlanWrong : ChangeSpec := { name := "fnExactLoosenPlan", fn := fun _ => fun
  | [d1, d2, d3] => { results := [.lit (.bool false)], args := [d1, d2, d3] }
  | _ => none }
def FnExactLoosenPlanWrongFalsely : Prop := fnExactLoosenPlanRow.holds Try.pinned (OpenSpec.ofChange fnExactLoosenPlanWrong)

/-- 'laws.FnExactUncoveredTorques': WHATEVER THE INPUT: true; the input reads as it did. -/
def fnExactUncoveredTorquesSpec : ChangeSpec := { name := "fnExactUncoveredTorques", fn := fun _ => fun
  | [d] => { results := [.lit (.bool true)], args := [d] }
  | _ => none }
def fnExactUncoveredTorquesRow : OpenClaim := { program := "ytijmafppdbllfaa", sum := "0dd559325044c4be411bb94be6fcf69c3af1fc306edefa728a22ad4088644a98", func := "loop.example/g01050/laws.FnExactUncoveredTorques", spec := "fnExactUncoveredTorques", apart := false }
def FnExactUncoveredTorquesSaid : Prop := fnExactUncoveredTorquesRow.holds Try.pinned (OpenSpec.ofChange fnExactUncoveredTorquesSpec)

/-- ITS FALSE NEIGHBOUR: 'it returns false'. Refute it at one input. -/
def fnExactUncoveredTorquesWrong : ChangeSpec := { name := "fnExactUncoveredTorques", fn := fun _ => fun
  | [d] => { results := [.lit (.bool false)], args := [d] }
  | _ => none }
def FnExactUncoveredTorquesWrongFalsely : Prop := fnExactUncoveredTorquesRow.holds Try.pinned (OpenSpec.ofChange fnExactUncoveredTorquesWrong)

/-- 'laws.FnWrenches': WHATEVER THE INPUT: true; the input reads as it did. -/
def fnWrenchesSpec : ChangeSpec := { name := "fnWrenches", fn := fun _ => fun
  | [d] => { results := [.lit (.bool true)], args := [d] }
  | _ => none }
def fnWrenchesRow : OpenClaim := { program := "ytijmafppdbllfaa", sum := "0dd559325044c4be411bb94be6fcf69c3af1fc306edefa728a22ad4088644a98", func := "loop.example/g01050/laws.FnWrenches", spec := "fnWrenches", apart := false }
def FnWrenchesSaid : Prop := fnWrenchesRow.holds Try.pinned (OpenSpec.ofChange fnWrenchesSpec)

/-- ITS FALSE NEIGHBOUR: 'it returns false'. Refute it at one input. -/
def fnWrenchesWrong : ChangeSpec := { name := "fnWrenches", fn := fun _ => fun
  | [d] => { results := [.lit (.bool false)], args := [d] }
  | _ => none }
def FnWrenchesWrongFalsely : Prop := fnWrenchesRow.holds Try.pinned (OpenSpec.ofChange fnWrenchesWrong)

/-- 'laws.FnTorques': WHATEVER THE INPUT: true; the input reads as it did. -/
def fnTorquesSpec : ChangeSpec := { name := "fnTorques", fn := fun _ => fun
  | [d] => { results := [.lit (.bool true)], args := [d] }
  | _ => none }
def fnTorquesRow : OpenClaim := { program := "ytijmafppdbllfaa", sum := "0dd559325044c4be411bb94be6fcf69c3af1fc306edefa728a22ad4088644a98", func := "loop.example/g01050/laws.FnTorques", spec := "fnTorques", apart := false }
def FnTorquesSaid : Prop := fnTorquesRow.holds Try.pinned (OpenSpec.ofChange fnTorquesSpec)

/-- ITS FALSE NEIGHBOUR: 'it returns false'. Refute it at one input. -/
def fnTorquesWrong : ChangeSpec := { name := "fnTorques", fn := fun _ => fun
  | [d] => { results := [.lit (.bool false)], args := [d] }
  | _ => none }
def FnTorquesWrongFalsely : Prop := fnTorquesRow.holds Try.pinned (OpenSpec.ofChange fnTorquesWrong)

/-- 'laws.FnReadings': WHATEVER THE INPUT: true; the input reads as it did. -/
def fnReadingsSpec : ChangeSpec := { name := "fnReadings", fn := fun _ => fun
  | [d] => { results := [.lit (.bool true)], args := [d] }
  | _ => none }
def fnReadingsRow : OpenClaim := { program := "ytijmafppdbllfaa", sum := "0dd559325044c4be411bb94be6fcf69c3af1fc306edefa728a22ad4088644a98", func := "loop.example/g01050/laws.FnReadings", spec := "fnReadings", apart := false }
def FnReadingsSaid : Prop := fnReadingsRow.holds Try.pinned (OpenSpec.ofChange fnReadingsSpec)

/-- ITS FALSE NEIGHBOUR: 'it returns false'. Refute it at one input. -/
def fnReadingsWrong : ChangeSpec := { name := "fnReadings", fn := fun _ => fun
  | [d] => { results := [.lit (.bool false)], args := [d] }
  | _ => none }
def FnReadingsWrongFalsely : Prop := fnReadingsRow.holds Try.pinned (OpenSpec.ofChange fnReadingsWrong)

/- THE SECOND FORM. 'bulk': how many values and letters a reading holds, each counted each time it is reached (what is shared counts as often as it is met; a slice's spare places count too). A statement '..UptoSaid' is the law's where the arguments, and the package variables that the reading takes, are together of bulk at most 1048576: NARROWER than '..Said'. Prove '..Said' where nothing that the law and all that it calls make is longer than what came in: it says more and counts as full. Else prove '..UptoSaid'. A law counts once. -/
mutual
def uptoBulk {H : Type} : DataW H → Nat
  | .lit (.string bytes) => bytes.length + 1
  | .lit _ => 1
  | .nil => 1
  | .ptr d => uptoBulk d + 1
  | .slice elems spare => uptoBulkAll elems + uptoBulkAll spare + 1
  | .agg parts => uptoBulkAll parts + 1
  | .iface _ d => uptoBulk d + 1
  | .map entries => uptoBulkEntries entries + 1
  | .held _ => 1
def uptoBulkAll {H : Type} : List (DataW H) → Nat
  | [] => 0
  | d :: r => uptoBulk d + uptoBulkAll r
def uptoBulkEntries {H : Type} : List (Lit × DataW H) → Nat
  | [] => 0
  | x :: r => uptoBulkEntry x + uptoBulkEntries r
def uptoBulkEntry {H : Type} : Lit × DataW H → Nat
  | (.string bytes, d) => bytes.length + uptoBulk d + 1
  | (_, d) => uptoBulk d + 1
 end
def uptoSmall : (H : Type) → List (DataW H) → Bool := fun _ ds => decide (uptoBulkAll ds ≤ 1048576)
def OpenSpec.upto (s : _root_.Go.ChangeSpec) : _root_.Go.OpenSpec := { _root_.Go.OpenSpec.ofChange s with cond := some uptoSmall }

/-- 'laws.FnExactAreReadings', WHERE WHAT IT READS IS OF BULK AT MOST 1048576: true; the input reads as it did. -/
def fnExactAreReadingsUptoRow : OpenClaim := { program := "ytijmafppdbllfaa", sum := "0dd559325044c4be411bb94be6fcf69c3af1fc306edefa728a22ad4088644a98", func := "loop.example/g01050/laws.FnExactAreReadings", spec := "fnExactAreReadings", apart := false, narrowed := true }
def FnExactAreReadingsUptoSaid : Prop := fnExactAreReadingsUptoRow.holds Try.pinned (OpenSpec.upto fnExactAreReadingsSpec)

/-- 'laws.FnExactSteepestPair', WHERE WHAT IT READS IS OF BULK AT MOST 1048576: true; the input reads as it did. -/
def fnExactSteepestPairUptoRow : OpenClaim := { program := "ytijmafppdbllfaa", sum := "0dd559325044c4be411bb94be6fcf69c3af1fc306edefa728a22ad4088644a98", func := "loop.example/g01050/laws.FnExactSteepestPair", spec := "fnExactSteepestPair", apart := false, narrowed := true }
def FnExactSteepestPairUptoSaid : Prop := fnExactSteepestPairUptoRow.holds Try.pinned (OpenSpec.upto fnExactSteepestPairSpec)

/-- 'laws.FnExactIsEven', WHERE WHAT IT READS IS OF BULK AT MOST 1048576: true; the input reads as it did. -/
def fnExactIsEvenUptoRow : OpenClaim := { program := "ytijmafppdbllfaa", sum := "0dd559325044c4be411bb94be6fcf69c3af1fc306edefa728a22ad4088644a98", func := "loop.example/g01050/laws.FnExactIsEven", spec := "fnExactIsEven", apart := false, narrowed := true }
def FnExactIsEvenUptoSaid : Prop := fnExactIsEvenUptoRow.holds Try.pinned (OpenSpec.upto fnExactIsEvenSpec)

/-- 'laws.FnExactStarOrder', WHERE WHAT IT READS IS OF BULK AT MOST 1048576: true; the input reads as it did. -/
def fnExactStarOrderUptoRow : OpenClaim := { program := "ytijmafppdbllfaa", sum := "0dd559325044c4be411bb94be6fcf69c3af1fc306edefa728a22ad4088644a98", func := "loop.example/g01050/laws.FnExactStarOrder", spec := "fnExactStarOrder", apart := false, narrowed := true }
def FnExactStarOrderUptoSaid : Prop := fnExactStarOrderUptoRow.holds Try.pinned (OpenSpec.upto fnExactStarOrderSpec)

/-- 'laws.FnExactWrenchFor', WHERE WHAT IT READS IS OF BULK AT MOST 1048576: true; the input reads as it did. -/
def fnExactWrenchForUptoRow : OpenClaim := { program := "ytijmafppdbllfaa", sum := "0dd559325044c4be411bb94be6fcf69c3af1fc306edefa728a22ad4088644a98", func := "loop.example/g01050/laws.FnExactWrenchFor", spec := "fnExactWrenchFor", apart := false, narrowed := true }
def FnExactWrenchForUptoSaid : Prop := fnExactWrenchForUptoRow.holds Try.pinned (OpenSpec.upto fnExactWrenchForSpec)

/-- 'laws.FnExactNextBolt', WHERE WHAT IT READS IS OF BULK AT MOST 1048576: true; the input reads as it did. -/
def fnExactNextBoltUptoRow : OpenClaim := { program := "ytijmafppdbllfaa", sum := "0dd559325044c4be411bb94be6fcf69c3af1fc306edefa728a22ad4088644a98", func := "loop.example/g01050/laws.FnExactNextBolt", spec := "fnExactNextBolt", apart := false, narrowed := true }
def FnExactNextBoltUptoSaid : Prop := fnExactNextBoltUptoRow.holds Try.pinned (OpenSpec.upto fnExactNextBoltSpec)

/-- 'laws.FnExactTightenPlan', WHERE WHAT IT READS IS OF BULK AT MOST 1048576: true; the input reads as it did. -/
def fnExactTightenPlanUptoRow : OpenClaim := { program := "ytijmafppdbllfaa", sum := "0dd559325044c4be411bb94be6fcf69c3af1fc306edefa728a22ad4088644a98", func := "loop.example/g01050/laws.FnExactTightenPlan", spec := "fnExactTightenPlan", apart := false, narrowed := true }
def FnExactTightenPlanUptoSaid : Prop := fnExactTightenPlanUptoRow.holds Try.pinned (OpenSpec.upto fnExactTightenPlanSpec)

/-- 'laws.FnExactLoosenPlan', WHERE WHAT IT READS IS OF BULK AT MOST 1048576: true; the input reads as it did. -/
def fnExactLoosenPlanUptoRow : OpenClaim := { program := "ytijmafppdbllfaa", sum := "0dd559325044c4be411bb94be6fcf69c3af1fc306edefa728a22ad4088644a98", func := "loop.example/g01050/laws.FnExactLoosenPlan", spec := "fnExactLoosenPlan", apart := false, narrowed := true }
def FnExactLoosenPlanUptoSaid : Prop := fnExactLoosenPlanUptoRow.holds Try.pinned (OpenSpec.upto fnExactLoosenPlanSpec)

/-- 'laws.FnExactUncoveredTorques', WHERE WHAT IT READS IS OF BULK AT MOST 1048576: true; the input reads as it did. -/
def fnExactUncoveredTorquesUptoRow : OpenClaim := { program := "ytijmafppdbllfaa", sum := "0dd559325044c4be411bb94be6fcf69c3af1fc306edefa728a22ad4088644a98", func := "loop.example/g01050/laws.FnExactUncoveredTorques", spec := "fnExactUncoveredTorques", apart := false, narrowed := true }
def FnExactUncoveredTorquesUptoSaid : Prop := fnExactUncoveredTorquesUptoRow.holds Try.pinned (OpenSpec.upto fnExactUncoveredTorquesSpec)

/-- 'laws.FnWrenches', WHERE WHAT IT READS IS OF BULK AT MOST 1048576: true; the input reads as it did. -/
def fnWrenchesUptoRow : OpenClaim := { program := "ytijmafppdbllfaa", sum := "0dd559325044c4be411bb94be6fcf69c3af1fc306edefa728a22ad4088644a98", func := "loop.example/g01050/laws.FnWrenches", spec := "fnWrenches", apart := false, narrowed := true }
def FnWrenchesUptoSaid : Prop := fnWrenchesUptoRow.holds Try.pinned (OpenSpec.upto fnWrenchesSpec)

/-- 'laws.FnTorques', WHERE WHAT IT READS IS OF BULK AT MOST 1048576: true; the input reads as it did. -/
def fnTorquesUptoRow : OpenClaim := { program := "ytijmafppdbllfaa", sum := "0dd559325044c4be411bb94be6fcf69c3af1fc306edefa728a22ad4088644a98", func := "loop.example/g01050/laws.FnTorques", spec := "fnTorques", apart := false, narrowed := true }
def FnTorquesUptoSaid : Prop := fnTorquesUptoRow.holds Try.pinned (OpenSpec.upto fnTorquesSpec)

/-- 'laws.FnReadings', WHERE WHAT IT READS IS OF BULK AT MOST 1048576: true; the input reads as it did. -/
def fnReadingsUptoRow : OpenClaim := { program := "ytijmafppdbllfaa", sum := "0dd559325044c4be411bb94be6fcf69c3af1fc306edefa728a22ad4088644a98", func := "loop.example/g01050/laws.FnReadings", spec := "fnReadings", apart := false, narrowed := true }
def FnReadingsUptoSaid : Prop := fnReadingsUptoRow.holds Try.pinned (OpenSpec.upto fnReadingsSpec)

end Rows
end Go.Proofs.Ytijmafppdbllfaa
