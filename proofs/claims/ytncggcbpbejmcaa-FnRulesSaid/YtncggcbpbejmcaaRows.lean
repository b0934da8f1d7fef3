/-
  No cell of these rows narrows 'for every input' (looked for: loops, veiled, ifaces, maps, wideKeys, modest, calm, conditions, laid).
  DERIVED. THE GIVEN ROWS OF THIS SEAT. 12 by the template 'for every input the law returns true; each argument reads behind the call as it read before'; 0 by the template 'total and deterministic' (their statements: YtncggcbpbejmcaaTotals.lean).
  GIVEN WITH THE SEED: the statements are not yours to turn. If you find one false, say at which input.
  Laid BY PROGRAM, IN A SANDBOX (cutbox-rows.mjs): the forced cells as the released guide's own fill.sh prints them over the translation fd8e9a02a2c9d70e… (all of the seat's roots in one cut). By AI agents, Wed Nov 11 2026. No macro, syntax, notation, axiom, sorry.
-/
import Derived.Test.YtncggcbpbejmcaaChecked
import GoSem.Claim
import GoSem.ClaimJoined
import GoSem.ClaimMapViews
import Derived.JoinedTies
import Derived.KernelRfl
namespace Go.Proofs.Ytncggcbpbejmcaa
/- THE CELL 'sum', in the pinned program and in every row, IS THE sha256 OF THE DUMP (.gsa) THAT YtncggcbpbejmcaaProg.lean LOADS. Nothing in Lean hashes anything: it is a label: what it is worth is what the hold of that sum in a sandbox is worth. -/
noncomputable def Try.pinned : Pinned := { name := "ytncggcbpbejmcaa", sum := "fd8e9a02a2c9d70e144f0fa0b0d49322f06aa3ce19272186c6afe8f0f594f844", checked := Try.checked }
namespace Rows
def none {H : Type} : Left H := { results := [], args := [] }

/-- 'laws.FnExactAreRules': WHATEVER THE INPUT: true; the input reads as it did. -/
def fnExactAreRulesSpec : ChangeSpec := { name := "fnExactAreRules", fn := fun _ => fun
  | [d] => { results := [.lit (.bool true)], args := [d] }
  | _ => none }
def fnExactAreRulesRow : OpenClaim := { program := "ytncggcbpbejmcaa", sum := "fd8e9a02a2c9d70e144f0fa0b0d49322f06aa3ce19272186c6afe8f0f594f844", func := "loop.example/g01050/laws.FnExactAreRules", spec := "fnExactAreRules", apart := false }
def FnExactAreRulesSaid : Prop := fnExactAreRulesRow.holds Try.pinned (OpenSpec.ofChange fnExactAreRulesSpec)

/-- ITS FALSE NEIGHBOUR: 'it returns false'. Refute it at one input. -/
def fnExactAreRulesWrong : ChangeSpec := { name := "fnExactAreRules", fn := fun _ => fun
  | [d] => { results := [.lit (.bool false)], args := [d] }
  | _ => none }
def FnExactAreRulesWrongFalsely : Prop := fnExactAreRulesRow.holds Try.pinned (OpenSpec.ofChange fnExactAreRulesWrong)

/-- 'laws.FnExactIsUsed': WHATEVER THE INPUT: true; the input reads as it did. -/
def fnExactIsUsedSpec : ChangeSpec := { name := "fnExactIsUsed", fn := fun _ => fun
  | [d] => { results := [.lit (.bool true)], args := [d] }
  | _ => none }
def fnExactIsUsedRow : OpenClaim := { program := "ytncggcbpbejmcaa", sum := "fd8e9a02a2c9d70e144f0fa0b0d49322f06aa3ce19272186c6afe8f0f594f844", func := "loop.example/g01050/laws.FnExactIsUsed", spec := "fnExactIsUsed", apart := false }
def FnExactIsUsedSaid : Prop := fnExactIsUsedRow.holds Try.pinned (OpenSpec.ofChange fnExactIsUsedSpec)

/-- ITS FALSE NEIGHBOUR: 'it returns false'. Refute it at one input. -/
def fnExactIsUsedWrong : ChangeSpec := { name := "fnExactIsUsed", fn := fun _ => fun
  | [d] => { results := [.lit (.bool false)], args := [d] }
  | _ => none }
def FnExactIsUsedWrongFalsely : Prop := fnExactIsUsedRow.holds Try.pinned (OpenSpec.ofChange fnExactIsUsedWrong)

/-- 'laws.FnExactRebuild': WHATEVER THE INPUT: true; the input reads as it did. -/
def fnExactRebuildSpec : ChangeSpec := { name := "fnExactRebuild", fn := fun _ => fun
  | [d1, d2, d3] => { results := [.lit (.bool true)], args := [d1, d2, d3] }
  | _ => none }
def fnExactRebuildRow : OpenClaim := { program := "ytncggcbpbejmcaa", sum := "fd8e9a02a2c9d70e144f0fa0b0d49322f06aa3ce19272186c6afe8f0f594f844", func := "loop.example/g01050/laws.FnExactRebuild", spec := "fnExactRebuild", apart := false }
def FnExactRebuildSaid : Prop := fnExactRebuildRow.holds Try.pinned (OpenSpec.ofChange fnExactRebuildSpec)

/-- ITS FALSE NEIGHBOUR: 'it returns false'. Refute it at one input. -/
def fnExactRebuildWrong : ChangeSpec := { name := "fnExactRebuild", fn := fun _ => fun
  | [d1, d2, d3] => { results := [.lit (.bool false)], args := [d1, d2, d3] }
  | _ => none }
def FnExactRebuildWrongFalsely : Prop := fnExactRebuildRow.holds Try.pinned (OpenSpec.ofChange fnExactRebuildWrong)

/-- 'laws.FnExactMoveRule': WHATEVER THE INPUT: true; the input reads as it did. -/
def fnExactMoveRuleSpec : ChangeSpec := { name := "fnExactMoveRule", fn := fun _ => fun
  | [d1, d2, d3] => { results := [.lit (.bool true)], args := [d1, d2, d3] }
  | _ => none }
def fnExactMoveRuleRow : OpenClaim := { program := "ytncggcbpbejmcaa", sum := "fd8e9a02a2c9d70e144f0fa0b0d49322f06aa3ce19272186c6afe8f0f594f844", func := "loop.example/g01050/laws.FnExactMoveRule", spec := "fnExactMoveRule", apart := false }
def FnExactMoveRuleSaid : Prop := fnExactMoveRuleRow.holds Try.pinned (OpenSpec.ofChange fnExactMoveRuleSpec)

/-- ITS FALSE NEIGHBOUR: 'it returns false'. Refute it at one input. -/
def fnExactMoveRuleWrong : ChangeSpec := { name := "fnExactMoveRule", fn := fun _ => fun
  | [d1, d2, d3] => { results := [.lit (.bool false)], args := [d1, d2, d3] }
  | _ => none }
def FnExactMoveRuleWrongFalsely : Prop := fnExactMoveRuleRow.holds Try.pinned (OpenSpec.ofChange fnExactMoveRuleWrong)

/-- 'laws.FnExactSilentRules': WHATEVER THE INPUT: true; the input reads as it did. -/
def fnExactSilentRulesSpec : ChangeSpec := { name := "fnExactSilentRules", fn := fun _ => fun
  | [d] => { results := [.lit (.bool true)], args := [d] }
  | _ => none }
def fnExactSilentRulesRow : OpenClaim := { program := "ytncggcbpbejmcaa", sum := "fd8e9a02a2c9d70e144f0fa0b0d49322f06aa3ce19272186c6afe8f0f594f844", func := "loop.example/g01050/laws.FnExactSilentRules", spec := "fnExactSilentRules", apart := false }
def FnExactSilentRulesSaid : Prop := fnExactSilentRulesRow.holds Try.pinned (OpenSpec.ofChange fnExactSilentRulesSpec)

/-- ITS FALSE NEIGHBOUR: 'it returns false'. Refute it at one input. -/
def fnExactSilentRulesWrong : ChangeSpec := { name := "fnExactSilentRules", fn := fun _ => fun
  | [d] => { results := [.lit (.bool false)], args := [d] }
  | _ => none }
def FnExactSilentRulesWrongFalsely : Prop := fnExactSilentRulesRow.holds Try.pinned (OpenSpec.ofChange fnExactSilentRulesWrong)

/-- 'laws.FnExactGradeOf': WHATEVER THE INPUT: true; the input reads as it did. -/
def fnExactGradeOfSpec : ChangeSpec := { name := "fnExactGradeOf", fn := fun _ => fun
  | [d1, d2] => { results := [.lit (.bool true)], args := [d1, d2] }
  | _ => none }
def fnExactGradeOfRow : OpenClaim := { program := "ytncggcbpbejmcaa", sum := "fd8e9a02a2c9d70e144f0fa0b0d49322f06aa3ce19272186c6afe8f0f594f844", func := "loop.example/g01050/laws.FnExactGradeOf", spec := "fnExactGradeOf", apart := false }
def FnExactGradeOfSaid : Prop := fnExactGradeOfRow.holds Try.pinned (OpenSpec.ofChange fnExactGradeOfSpec)

/-- ITS FALSE NEIGHBOUR: 'it returns false'. Refute it at one input. -/
def fnExactGradeOfWrong : ChangeSpec := { name := "fnExactGradeOf", fn := fun _ => fun
  | [d1, d2] => { results := [.lit (.bool false)], args := [d1, d2] }
  | _ => none }
def FnExactGradeOfWrongFalsely : Prop := fnExactGradeOfRow.holds Try.pinned (OpenSpec.ofChange fnExactGradeOfWrong)

/-- 'laws.FnExactCheapestRebuild': WHATEVER THE INPUT: true; the input reads as it did. -/
def fnExactCheapestRebuildSpec : ChangeSpec := { name := "fnExactCheapestRebuild", fn := fun _ => fun
  | [d1, d2, d3] => { results := [.lit (.bool true)], args := [d1, d2, d3] }
  | _ => none }
def fnExactCheapestRebuildRow : OpenClaim := { program := "ytncggcbpbejmcaa", sum := "fd8e9a02a2c9d70e144f0fa0b0d49322f06aa3ce19272186c6afe8f0f594f844", func := "loop.example/g01050/laws.FnExactCheapestRebuild", spec := "fnExactCheapestRebuild", apart := false }
def FnExactCheapestRebuildSaid : Prop := fnExactCheapestRebuildRow.holds Try.pinned (OpenSpec.ofChange fnExactCheapestRebuildSpec)

/-- ITS FALSE NEIGHBOUR: 'it returns false'. Refute it at one input. -/
def fnExactCheapestRebuildWrong : ChangeSpec := { name := "fnExactCheapestRebuild", fn := fun _ => fun
  | [d1, d2, d3] => { results := [.lit (.bool false)], args := [d1, d2, d3] }
  | _ => none }
def FnExactCheapestRebuildWrongFalsely : Prop := fnExactCheapestRebuildRow.holds Try.pinned (OpenSpec.ofChange fnExactCheapestRebuildWrong)

/-- 'laws.FnExactBestUsed': WHATEVER THE INPUT: true; the input reads as it did. -/
def fnExactBestUsedSpec : ChangeSpec := { name := "fnExactBestUsed", fn := fun _ => fun
  | [d1, d2] => { results := [.lit (.bool true)], args := [d1, d2] }
  | _ => none }
def fnExactBestUsedRow : OpenClaim := { program := "ytncggcbpbejmcaa", sum := "fd8e9a02a2c9d70e144f0fa0b0d49322f06aa3ce19272186c6afe8f0f594f844", func := "loop.example/g01050/laws.FnExactBestUsed", spec := "fnExactBestUsed", apart := false }
def FnExactBestUsedSaid : Prop := fnExactBestUsedRow.holds Try.pinned (OpenSpec.ofChange fnExactBestUsedSpec)

/-- ITS FALSE NEIGHBOUR: 'it returns false'. Refute it at one input. -/
def fnExactBestUsedWrong : ChangeSpec := { name := "fnExactBestUsed", fn := fun _ => fun
  | [d1, d2] => { results := [.lit (.bool false)], args := [d1, d2] }
  | _ => none }
def FnExactBestUsedWrongFalsely : Prop := fnExactBestUsedRow.holds Try.pinned (OpenSpec.ofChange fnExactBestUsedWrong)

/-- 'laws.FnExactCountGrades': WHATEVER THE INPUT: true; the input reads as it did. -/
def fnExactCountGradesSpec : ChangeSpec := { name := "fnExactCountGrades", fn := fun _ => fun
  | [d1, d2] => { results := [.lit (.bool true)], args := [d1, d2] }
  | _ => none }
def fnExactCountGradesRow : OpenClaim := { program := "ytncggcbpbejmcaa", sum := "fd8e9a02a2c9d70e144f0fa0b0d49322f06aa3ce19272186c6afe8f0f594f844", func := "loop.example/g01050/laws.FnExactCountGrades", spec := "fnExactCountGrades", apart := false }
def FnExactCountGradesSaid : Prop := fnExactCountGradesRow.holds Try.pinned (OpenSpec.ofChange fnExactCountGradesSpec)

/-- ITS FALSE NEIGHBOUR: 'it returns false'. Refute it at one input. -/
def fnExactCountGradesWrong : ChangeSpec := { name := "fnExactCountGrades", fn := fun _ => fun
  | [d1, d2] => { results := [.lit (.bool false)], args := [d1, d2] }
  | _ => none }
def FnExactCountGradesWrongFalsely : Prop := fnExactCountGradesRow.holds Try.pinned (OpenSpec.ofChange fnExactCountGradesWrong)

/-- 'laws.FnExactChangedParts': WHATEVER THE INPUT: true; the input reads as it did. -/
def fnExactChangedPartsSpec : ChangeSpec := { name := "fnExactChangedParts", fn := fun _ => fun
  | [d1, d2, d3] => { results := [.lit (.bool true)], args := [d1, d2, d3] }
  | _ => none }
def fnExactChangedPartsRow : OpenClaim := { program := "ytncggcbpbejmcaa", sum := "fd8e9a02a2c9d70e144f0fa0b0d49322f06aa3ce19272186c6afe8f0f594f844", func := "loop.example/g01050/laws.FnExactChangedParts", spec := "fnExactChangedParts", apart := false }
def FnExactChangedPartsSaid : Prop := fnExactChangedPartsRow.holds Try.pinned (OpenSpec.ofChange fnExactChangedPartsSpec)

/-- ITS FALSE NEIGHBOUR: 'it returns false'. Refute it at one input. -/
def fnExactChangedPartsWrong : ChangeSpec := { name := "fnExactChangedParts", fn := fun _ => fun
  | [d1, d2, d3] => { results := [.lit (.bool false)], args := [d1, d2, d3] }
  | _ => none }
def FnExactChangedPartsWrongFalsely : Prop := fnExactChangedPartsRow.holds Try.pinned (OpenSpec.ofChange fnExactChangedPartsWrong)

/-- 'laws.FnGrades': WHATEVER THE INPUT: true; the input reads as it did. -/
def fnGradesSpec : ChangeSpec := { name := "fnGrades", fn := fun _ => fun
  | [d] => { results := [.lit (.bool true)], args := [d] }
  | _ => none }
def fnGradesRow : OpenClaim := { program := "ytncggcbpbejmcaa", sum := "fd8e9a02a2c9d70e144f0fa0b0d49322f06aa3ce19272186c6afe8f0f594f844", func := "loop.example/g01050/laws.FnGrades", spec := "fnGrades", apart := false }
def FnGradesSaid : Prop := fnGradesRow.holds Try.pinned (OpenSpec.ofChange fnGradesSpec)

/-- ITS FALSE NEIGHBOUR: 'it returns false'. Refute it at one input. -/
def fnGradesWrong : ChangeSpec := { name := "fnGrades", fn := fun _ => fun
  | [d] => { results := [.lit (.bool false)], args := [d] }
  | _ => none }
def FnGradesWrongFalsely : Prop := fnGradesRow.holds Try.pinned (OpenSpec.ofChange fnGradesWrong)

/-- 'laws.FnRules': WHATEVER THE INPUT: true; the input reads as it did. -/
def fnRulesSpec : ChangeSpec := { name := "fnRules", fn := fun _ => fun
  | [d] => { results := [.lit (.bool true)], args := [d] }
  | _ => none }
def fnRulesRow : OpenClaim := { program := "ytncggcbpbejmcaa", sum := "fd8e9a02a2c9d70e144f0fa0b0d49322f06aa3ce19272186c6afe8f0f594f844", func := "loop.example/g01050/laws.FnRules", spec := "fnRules", apart := false }
def FnRulesSaid : Prop := fnRulesRow.holds Try.pinned (OpenSpec.ofChange fnRulesSpec)

/-- ITS FALSE NEIGHBOUR: 'it returns false'. Refute it at one input. -/
def fnRulesWrong : ChangeSpec := { name := "fnRules", fn := fun _ => fun
  | [d] => { results := [.lit (.bool false)], args := [d] }
  | _ => none }
def FnRulesWrongFalsely : Prop := fnRulesRow.holds Try.pinned (OpenSpec.ofChange fnRulesWrong)

/- THE SECOND FORM. 'bulk': how many values and letters a reading holds, each counted each time it is reached (what is shared counts as often as it is met; a slice's spare places count too). A statement '..UptoSaid' is the law's where the arguments, and the package variables that the reading takes, are together of bulk at most 1048576: NARROWER than '..Said'. Prove '..Said' where nothing that the law and all that it calls make is longer than what came in: it says more and counts as full. Else prove '..UptoSaid'. A law counts once. -/
mutual
def uptoBulk {H : Type} : DataW H → Nat
  | .lit (.string bytes) => bytes.length + 1
  | .lit _ => 1
  | .nil => 1
  | .ptr d => uptoBulk d + 1
  | .slice elems spare => uptoBulkAll elems + uptoBulkAll spare + 1
  | .agg parts => uptoBulkAll parts + 1
  | .iface _ d => uptoBulk d + 1
  | .map entries => uptoBulkEntries entries + 1
  | .held _ => 1
def uptoBulkAll {H : Type} : List (DataW H) → Nat
  | [] => 0
  | d :: r => uptoBulk d + uptoBulkAll r
def uptoBulkEntries {H : Type} : List (Lit × DataW H) → Nat
  | [] => 0
  | x :: r => uptoBulkEntry x + uptoBulkEntries r
def uptoBulkEntry {H : Type} : Lit × DataW H → Nat
  | (.string bytes, d) => bytes.length + uptoBulk d + 1
  | (_, d) => uptoBulk d + 1
 end
def uptoSmall : (H : Type) → List (DataW H) → Bool := fun _ ds => decide (uptoBulkAll ds ≤ 1048576)
def OpenSpec.upto (s : _root_.Go.ChangeSpec) : _root_.Go.OpenSpec := { _root_.Go.OpenSpec.ofChange s with cond := some uptoSmall }

/-- 'laws.FnExactAreRules', WHERE WHAT IT READS IS OF BULK AT MOST 1048576: true; the input reads as it did. -/
def fnExactAreRulesUptoRow : OpenClaim := { program := "ytncggcbpbejmcaa", sum := "fd8e9a02a2c9d70e144f0fa0b0d49322f06aa3ce19272186c6afe8f0f594f844", func := "loop.example/g01050/laws.FnExactAreRules", spec := "fnExactAreRules", apart := false, narrowed := true }
def FnExactAreRulesUptoSaid : Prop := fnExactAreRulesUptoRow.holds Try.pinned (OpenSpec.upto fnExactAreRulesSpec)

/-- 'laws.FnExactIsUsed', WHERE WHAT IT READS IS OF BULK AT MOST 1048576: true; the input reads as it did. -/
def fnExactIsUsedUptoRow : OpenClaim := { program := "ytncggcbpbejmcaa", sum := "fd8e9a02a2c9d70e144f0fa0b0d49322f06aa3ce19272186c6afe8f0f594f844", func := "loop.example/g01050/laws.FnExactIsUsed", spec := "fnExactIsUsed", apart := false, narrowed := true }
def FnExactIsUsedUptoSaid : Prop := fnExactIsUsedUptoRow.holds Try.pinned (OpenSpec.upto fnExactIsUsedSpec)

/-- 'laws.FnExactRebuild', WHERE WHAT IT READS IS OF BULK AT MOST 1048576: true; the input reads as it did. -/
def fnExactRebuildUptoRow : OpenClaim := { program := "ytncggcbpbejmcaa", sum := "fd8e9a02a2c9d70e144f0fa0b0d49322f06aa3ce19272186c6afe8f0f594f844", func := "loop.example/g01050/laws.FnExactRebuild", spec := "fnExactRebuild", apart := false, narrowed := true }
def FnExactRebuildUptoSaid : Prop := fnExactRebuildUptoRow.holds Try.pinned (OpenSpec.upto fnExactRebuildSpec)

/-- 'laws.FnExactMoveRule', WHERE WHAT IT READS IS OF BULK AT MOST 1048576: true; the input reads as it did. -/
def fnExactMoveRuleUptoRow : OpenClaim := { program := "ytncggcbpbejmcaa", sum := "fd8e9a02a2c9d70e144f0fa0b0d49322f06aa3ce19272186c6afe8f0f594f844", func := "loop.example/g01050/laws.FnExactMoveRule", spec := "fnExactMoveRule", apart := false, narrowed := true }
def FnExactMoveRuleUptoSaid : Prop := fnExactMoveRuleUptoRow.holds Try.pinned (OpenSpec.upto fnExactMoveRuleSpec)

/-- 'laws.FnExactSilentRules', WHERE WHAT IT READS IS OF BULK AT MOST 1048576: true; the input reads as it did. -/
def fnExactSilentRulesUptoRow : OpenClaim := { program := "ytncggcbpbejmcaa", sum := "fd8e9a02a2c9d70e144f0fa0b0d49322f06aa3ce19272186c6afe8f0f594f844", func := "loop.example/g01050/laws.FnExactSilentRules", spec := "fnExactSilentRules", apart := false, narrowed := true }
def FnExactSilentRulesUptoSaid : Prop := fnExactSilentRulesUptoRow.holds Try.pinned (OpenSpec.upto fnExactSilentRulesSpec)

/-- 'laws.FnExactGradeOf', WHERE WHAT IT READS IS OF BULK AT MOST 1048576: true; the input reads as it did. -/
def fnExactGradeOfUptoRow : OpenClaim := { program := "ytncggcbpbejmcaa", sum := "fd8e9a02a2c9d70e144f0fa0b0d49322f06aa3ce19272186c6afe8f0f594f844", func := "loop.example/g01050/laws.FnExactGradeOf", spec := "fnExactGradeOf", apart := false, narrowed := true }
def FnExactGradeOfUptoSaid : Prop := fnExactGradeOfUptoRow.holds Try.pinned (OpenSpec.upto fnExactGradeOfSpec)

/-- 'laws.FnExactCheapestRebuild', WHERE WHAT IT READS IS OF BULK AT MOST 1048576: true; the input reads as it did. -/
def fnExactCheapestRebuildUptoRow : OpenClaim := { program := "ytncggcbpbejmcaa", sum := "fd8e9a02a2c9d70e144f0fa0b0d49322f06aa3ce19272186c6afe8f0f594f844", func := "loop.example/g01050/laws.FnExactCheapestRebuild", spec := "fnExactCheapestRebuild", apart := false, narrowed := true }
def FnExactCheapestRebuildUptoSaid : Prop := fnExactCheapestRebuildUptoRow.holds Try.pinned (OpenSpec.upto fnExactCheapestRebuildSpec)

/-- 'laws.FnExactBestUsed', WHERE WHAT IT READS IS OF BULK AT MOST 1048576: true; the input reads as it did. -/
def fnExactBestUsedUptoRow : OpenClaim := { program := "ytncggcbpbejmcaa", sum := "fd8e9a02a2c9d70e144f0fa0b0d49322f06aa3ce19272186c6afe8f0f594f844", func := "loop.example/g01050/laws.FnExactBestUsed", spec := "fnExactBestUsed", apart := false, narrowed := true }
def FnExactBestUsedUptoSaid : Prop := fnExactBestUsedUptoRow.holds Try.pinned (OpenSpec.upto fnExactBestUsedSpec)

/-- 'laws.FnExactCountGrades', WHERE WHAT IT READS IS OF BULK AT MOST 1048576: true; the input reads as it did. -/
def fnExactCountGradesUptoRow : OpenClaim := { program := "ytncggcbpbejmcaa", sum := "fd8e9a02a2c9d70e144f0fa0b0d49322f06aa3ce19272186c6afe8f0f594f844", func := "loop.example/g01050/laws.FnExactCountGrades", spec := "fnExactCountGrades", apart := false, narrowed := true }
def FnExactCountGradesUptoSaid : Prop := fnExactCountGradesUptoRow.holds Try.pinned (OpenSpec.upto fnExactCountGradesSpec)

/-- 'laws.FnExactChangedParts', WHERE WHAT IT READS IS OF BULK AT MOST 1048576: true; the input reads as it did. -/
def fnExactChangedPartsUptoRow : OpenClaim := { program := "ytncggcbpbejmcaa", sum := "fd8e9a02a2c9d70e144f0fa0b0d49322f06aa3ce19272186c6afe8f0f594f844", func := "loop.example/g01050/laws.FnExactChangedParts", spec := "fnExactChangedParts", apart := false, narrowed := true }
def FnExactChangedPartsUptoSaid : Prop := fnExactChangedPartsUptoRow.holds Try.pinned (OpenSpec.upto fnExactChangedPartsSpec)

/-- 'laws.FnGrades', WHERE WHAT IT READS IS OF BULK AT MOST 1048576: true; the input reads as it did. -/
def fnGradesUptoRow : OpenClaim := { program := "ytncggcbpbejmcaa", sum := "fd8e9a02a2c9d70e144f0fa0b0d49322f06aa3ce19272186c6afe8f0f594f844", func := "loop.example/g01050/laws.FnGrades", spec := "fnGrades", apart := false, narrowed := true }
def FnGradesUptoSaid : Prop := fnGradesUptoRow.holds Try.pinned (OpenSpec.upto fnGradesSpec)

/-- 'laws.FnRules', WHERE WHAT IT READS IS OF BULK AT MOST 1048576: true; the input reads as it did. -/
def fnRulesUptoRow : OpenClaim := { program := "ytncggcbpbejmcaa", sum := "fd8e9a02a2c9d70e144f0fa0b0d49322f06aa3ce19272186c6afe8f0f594f844", func := "loop.example/g01050/laws.FnRules", spec := "fnRules", apart := false, narrowed := true }
def FnRulesUptoSaid : Prop := fnRulesUptoRow.holds Try.pinned (OpenSpec.upto fnRulesSpec)

end Rows
end Go.Proofs.Ytncggcbpbejmcaa
