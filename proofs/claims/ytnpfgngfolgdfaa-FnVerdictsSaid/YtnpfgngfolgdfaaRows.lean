/-
  No cell of these rows narrows 'for every input' (looked for: loops, veiled, ifaces, maps, wideKeys, modest, calm, conditions, laid).
  DERIVED. THE GIVEN ROWS OF THIS SEAT. 12 by the template 'for every input the law returns true; each argument reads behind the call as it read before'; 0 by the template 'total and deterministic' (their statements: YtnpfgngfolgdfaaTotals.lean).
  GIVEN WITH THE SEED: the statements are not yours to turn. If you find one false, say at which input.
  Laid BY PROGRAM, IN A SANDBOX (cutbox-rows.mjs): the forced cells as the released guide's own fill.sh prints them over the translation a17e60a00af92664… (all of the seat's roots in one cut). By AI agents, Wed Nov 11 2026. No macro, syntax, notation, axiom, sorry.
-/
import Derived.Test.YtnpfgngfolgdfaaChecked
import GoSem.Claim
import GoSem.ClaimJoined
import GoSem.ClaimMapViews
import Derived.JoinedTies
import Derived.KernelRfl
namespace Go.Proofs.Ytnpfgngfolgdfaa
/- THE CELL 'sum', in the pinned program and in every row, IS THE sha256 OF THE DUMP (.gsa) THAT YtnpfgngfolgdfaaProg.lean LOADS. Nothing in Lean hashes anything: it is a label: what it is worth is what the hold of that sum in a sandbox is worth. -/
noncomputable def Try.pinned : Pinned := { name := "ytnpfgngfolgdfaa", sum := "a17e60a00af9266437c051fcfbe476160c13614d3848852663fba3bb1a122510", checked := Try.checked }
namespace Rows
def none {H : Type} : Left H := { results := [], args := [] }

/-- 'laws.FnExactVerdictText': WHATEVER THE INPUT: true; the input reads as it did. -/
def fnExactVerdictTextSpec : ChangeSpec := { name := "fnExactVerdictText", fn := fun _ => fun
  | [d] => { results := [.lit (.bool true)], args := [d] }
  | _ => none }
def fnExactVerdictTextRow : OpenClaim := { program := "ytnpfgngfolgdfaa", sum := "a17e60a00af9266437c051fcfbe476160c13614d3848852663fba3bb1a122510", func := "loop.example/g01050/laws.FnExactVerdictText", spec := "fnExactVerdictText", apart := false }
def FnExactVerdictTextSaid : Prop := fnExactVerdictTextRow.holds Try.pinned (OpenSpec.ofChange fnExactVerdictTextSpec)

/-- ITS FALSE NEIGHBOUR: 'it returns false'. Refute it at one input. -/
def fnExactVerdictTextWrong : ChangeSpec := { name := "fnExactVerdictText", fn := fun _ => fun
  | [d] => { results := [.lit (.bool false)], args := [d] }
  | _ => none }
def FnExactVerdictTextWrongFalsely : Prop := fnExactVerdictTextRow.holds Try.pinned (OpenSpec.ofChange fnExactVerdictTextWrong)

/-- 'laws.FnExactAreClaims': WHATEVER THE INPUT: true; the input reads as it did. -/
def fnExactAreClaimsSpec : ChangeSpec := { name := "fnExactAreClaims", fn := fun _ => fun
  | [d] => { results := [.lit (.bool true)], args := [d] }
  | _ => none }
def fnExactAreClaimsRow : OpenClaim := { program := "ytnpfgngfolgdfaa", sum := "a17e60a00af9266437c051fcfbe476160c13614d3848852663fba3bb1a122510", func := "loop.example/g01050/laws.FnExactAreClaims", spec := "fnExactAreClaims", apart := false }
def FnExactAreClaimsSaid : Prop := fnExactAreClaimsRow.holds Try.pinned (OpenSpec.ofChange fnExactAreClaimsSpec)

/-- ITS FALSE NEIGHBOUR: 'it returns false'. Refute it at one input. -/
def fnExactAreClaimsWrong : ChangeSpec := { name := "fnExactAreClaims", fn := fun _ => fun
  | [d] => { results := [.lit (.bool false)], args := [d] }
  | _ => none }
def FnExactAreClaimsWrongFalsely : Prop := fnExactAreClaimsRow.holds Try.pinned (OpenSpec.ofChange fnExactAreClaimsWrong)

/-- 'laws.FnExactAreTerms': WHATEVER THE INPUT: true; the input reads as it did. -/
def fnExactAreTermsSpec : ChangeSpec := { name := "fnExactAreTerms", fn := fun _ => fun
  | [d] => { results := [.lit (.bool true)], args := [d] }
  | _ => none }
def fnExactAreTermsRow : OpenClaim := { program := "ytnpfgngfolgdfaa", sum := "a17e60a00af9266437c051fcfbe476160c13614d3848852663fba3bb1a122510", func := "loop.example/g01050/laws.FnExactAreTerms", spec := "fnExactAreTerms", apart := false }
def FnExactAreTermsSaid : Prop := fnExactAreTermsRow.holds Try.pinned (OpenSpec.ofChange fnExactAreTermsSpec)

/-- ITS FALSE NEIGHBOUR: 'it returns false'. Refute it at one input. -/
def fnExactAreTermsWrong : ChangeSpec := { name := "fnExactAreTerms", fn := fun _ => fun
  | [d] => { results := [.lit (.bool false)], args := [d] }
  | _ => none }
def FnExactAreTermsWrongFalsely : Prop := fnExactAreTermsRow.holds Try.pinned (OpenSpec.ofChange fnExactAreTermsWrong)

/-- 'laws.FnExactLastDay': WHATEVER THE INPUT: true; the input reads as it did. -/
def fnExactLastDaySpec : ChangeSpec := { name := "fnExactLastDay", fn := fun _ => fun
  | [d1, d2, d3] => { results := [.lit (.bool true)], args := [d1, d2, d3] }
  | _ => none }
def fnExactLastDayRow : OpenClaim := { program := "ytnpfgngfolgdfaa", sum := "a17e60a00af9266437c051fcfbe476160c13614d3848852663fba3bb1a122510", func := "loop.example/g01050/laws.FnExactLastDay", spec := "fnExactLastDay", apart := false }
def FnExactLastDaySaid : Prop := fnExactLastDayRow.holds Try.pinned (OpenSpec.ofChange fnExactLastDaySpec)

/-- ITS FALSE NEIGHBOUR: 'it returns false'. Refute it at one input. -/
def fnExactLastDayWrong : ChangeSpec := { name := "fnExactLastDay", fn := fun _ => fun
  | [d1, d2, d3] => { results := [.lit (.bool false)], args := [d1, d2, d3] }
  | _ => none }
def FnExactLastDayWrongFalsely : Prop := fnExactLastDayRow.holds Try.pinned (OpenSpec.ofChange fnExactLastDayWrong)

/-- 'laws.FnExactAddClaim': WHATEVER THE INPUT: true; the input reads as it did. -/
def fnExactAddClaimSpec : ChangeSpec := { name := "fnExactAddClaim", fn := fun _ => fun
  | [d1, d2] => { results := [.lit (.bool true)], args := [d1, d2] }
  | _ => none }
def fnExactAddClaimRow : OpenClaim := { program := "ytnpfgngfolgdfaa", sum := "a17e60a00af9266437c051fcfbe476160c13614d3848852663fba3bb1a122510", func := "loop.example/g01050/laws.FnExactAddClaim", spec := "fnExactAddClaim", apart := false }
def FnExactAddClaimSaid : Prop := fnExactAddClaimRow.holds Try.pinned (OpenSpec.ofChange fnExactAddClaimSpec)

/-- ITS FALSE NEIGHBOUR: 'it returns false'. Refute it at one input. -/
def fnExactAddClaimWrong : ChangeSpec := { name := "fnExactAddClaim", fn := fun _ => fun
  | [d1, d2] => { results := [.lit (.bool false)], args := [d1, d2] }
  | _ => none }
def FnExactAddClaimWrongFalsely : Prop := fnExactAddClaimRow.holds Try.pinned (OpenSpec.ofChange fnExactAddClaimWrong)

/-- 'laws.FnExactClaimsLeft': WHATEVER THE INPUT: true; the input reads as it did. -/
def fnExactClaimsLeftSpec : ChangeSpec := { name := "fnExactClaimsLeft", fn := fun _ => fun
  | [d1, d2, d3] => { results := [.lit (.bool true)], args := [d1, d2, d3] }
  | _ => none }
def fnExactClaimsLeftRow : OpenClaim := { program := "ytnpfgngfolgdfaa", sum := "a17e60a00af9266437c051fcfbe476160c13614d3848852663fba3bb1a122510", func := "loop.example/g01050/laws.FnExactClaimsLeft", spec := "fnExactClaimsLeft", apart := false }
def FnExactClaimsLeftSaid : Prop := fnExactClaimsLeftRow.holds Try.pinned (OpenSpec.ofChange fnExactClaimsLeftSpec)

/-- ITS FALSE NEIGHBOUR: 'it returns false'. Refute it at one input. -/
def fnExactClaimsLeftWrong : ChangeSpec := { name := "fnExactClaimsLeft", fn := fun _ => fun
  | [d1, d2, d3] => { results := [.lit (.bool false)], args := [d1, d2, d3] }
  | _ => none }
def FnExactClaimsLeftWrongFalsely : Prop := fnExactClaimsLeftRow.holds Try.pinned (OpenSpec.ofChange fnExactClaimsLeftWrong)

/-- 'laws.FnExactWorstPart': WHATEVER THE INPUT: true; the input reads as it did. -/
def fnExactWorstPartSpec : ChangeSpec := { name := "fnExactWorstPart", fn := fun _ => fun
  | [d1, d2] => { results := [.lit (.bool true)], args := [d1, d2] }
  | _ => none }
def fnExactWorstPartRow : OpenClaim := { program := "ytnpfgngfolgdfaa", sum := "a17e60a00af9266437c051fcfbe476160c13614d3848852663fba3bb1a122510", func := "loop.example/g01050/laws.FnExactWorstPart", spec := "fnExactWorstPart", apart := false }
def FnExactWorstPartSaid : Prop := fnExactWorstPartRow.holds Try.pinned (OpenSpec.ofChange fnExactWorstPartSpec)

/-- ITS FALSE NEIGHBOUR: 'it returns false'. Refute it at one input. -/
def fnExactWorstPartWrong : ChangeSpec := { name := "fnExactWorstPart", fn := fun _ => fun
  | [d1, d2] => { results := [.lit (.bool false)], args := [d1, d2] }
  | _ => none }
def FnExactWorstPartWrongFalsely : Prop := fnExactWorstPartRow.holds Try.pinned (OpenSpec.ofChange fnExactWorstPartWrong)

/-- 'laws.FnExactVerdictsOf': WHATEVER THE INPUT: true; the input reads as it did. -/
def fnExactVerdictsOfSpec : ChangeSpec := { name := "fnExactVerdictsOf", fn := fun _ => fun
  | [d1, d2] => { results := [.lit (.bool true)], args := [d1, d2] }
  | _ => none }
def fnExactVerdictsOfRow : OpenClaim := { program := "ytnpfgngfolgdfaa", sum := "a17e60a00af9266437c051fcfbe476160c13614d3848852663fba3bb1a122510", func := "loop.example/g01050/laws.FnExactVerdictsOf", spec := "fnExactVerdictsOf", apart := false }
def FnExactVerdictsOfSaid : Prop := fnExactVerdictsOfRow.holds Try.pinned (OpenSpec.ofChange fnExactVerdictsOfSpec)

/-- ITS FALSE NEIGHBOUR: 'it returns false'. Refute it at one input. -/
def fnExactVerdictsOfWrong : ChangeSpec := { name := "fnExactVerdictsOf", fn := fun _ => fun
  | [d1, d2] => { results := [.lit (.bool false)], args := [d1, d2] }
  | _ => none }
def FnExactVerdictsOfWrongFalsely : Prop := fnExactVerdictsOfRow.holds Try.pinned (OpenSpec.ofChange fnExactVerdictsOfWrong)

/-- 'laws.FnExactCountVerdicts': WHATEVER THE INPUT: true; the input reads as it did. -/
def fnExactCountVerdictsSpec : ChangeSpec := { name := "fnExactCountVerdicts", fn := fun _ => fun
  | [d1, d2] => { results := [.lit (.bool true)], args := [d1, d2] }
  | _ => none }
def fnExactCountVerdictsRow : OpenClaim := { program := "ytnpfgngfolgdfaa", sum := "a17e60a00af9266437c051fcfbe476160c13614d3848852663fba3bb1a122510", func := "loop.example/g01050/laws.FnExactCountVerdicts", spec := "fnExactCountVerdicts", apart := false }
def FnExactCountVerdictsSaid : Prop := fnExactCountVerdictsRow.holds Try.pinned (OpenSpec.ofChange fnExactCountVerdictsSpec)

/-- ITS FALSE NEIGHBOUR: 'it returns false'. Refute it at one input. -/
def fnExactCountVerdictsWrong : ChangeSpec := { name := "fnExactCountVerdicts", fn := fun _ => fun
  | [d1, d2] => { results := [.lit (.bool false)], args := [d1, d2] }
  | _ => none }
def FnExactCountVerdictsWrongFalsely : Prop := fnExactCountVerdictsRow.holds Try.pinned (OpenSpec.ofChange fnExactCountVerdictsWrong)

/-- 'laws.FnClaims': WHATEVER THE INPUT: true; the input reads as it did. -/
def fnClaimsSpec : ChangeSpec := { name := "fnClaims", fn := fun _ => fun
  | [d] => { results := [.lit (.bool true)], args := [d] }
  | _ => none }
def fnClaimsRow : OpenClaim := { program := "ytnpfgngfolgdfaa", sum := "a17e60a00af9266437c051fcfbe476160c13614d3848852663fba3bb1a122510", func := "loop.example/g01050/laws.FnClaims", spec := "fnClaims", apart := false }
def FnClaimsSaid : Prop := fnClaimsRow.holds Try.pinned (OpenSpec.ofChange fnClaimsSpec)

/-- ITS FALSE NEIGHBOUR: 'it returns false'. Refute it at one input. -/
def fnClaimsWrong : ChangeSpec := { name := "fnClaims", fn := fun _ => fun
  | [d] => { results := [.lit (.bool false)], args := [d] }
  | _ => none }
def FnClaimsWrongFalsely : Prop := fnClaimsRow.holds Try.pinned (OpenSpec.ofChange fnClaimsWrong)

/-- 'laws.FnVerdicts': WHATEVER THE INPUT: true; the input reads as it did. -/
def fnVerdictsSpec : ChangeSpec := { name := "fnVerdicts", fn := fun _ => fun
  | [d] => { results := [.lit (.bool true)], args := [d] }
  | _ => none }
def fnVerdictsRow : OpenClaim := { program := "ytnpfgngfolgdfaa", sum := "a17e60a00af9266437c051fcfbe476160c13614d3848852663fba3bb1a122510", func := "loop.example/g01050/laws.FnVerdicts", spec := "fnVerdicts", apart := false }
def FnVerdictsSaid : Prop := fnVerdictsRow.holds Try.pinned (OpenSpec.ofChange fnVerdictsSpec)

/-- ITS FALSE NEIGHBOUR: 'it returns false'. Refute it at one input. -/
def fnVerdictsWrong : ChangeSpec := { name := "fnVerdicts", fn := fun _ => fun
  | [d] => { results := [.lit (.bool false)], args := [d] }
  | _ => none }
def FnVerdictsWrongFalsely : Prop := fnVerdictsRow.holds Try.pinned (OpenSpec.ofChange fnVerdictsWrong)

/-- 'laws.FnShared': WHATEVER THE INPUT: true; the input reads as it did. -/
def fnSharedSpec : ChangeSpec := { name := "fnShared", fn := fun _ => fun
  | [d] => { results := [.lit (.bool true)], args := [d] }
  | _ => none }
def fnSharedRow : OpenClaim := { program := "ytnpfgngfolgdfaa", sum := "a17e60a00af9266437c051fcfbe476160c13614d3848852663fba3bb1a122510", func := "loop.example/g01050/laws.FnShared", spec := "fnShared", apart := false }
def FnSharedSaid : Prop := fnSharedRow.holds Try.pinned (OpenSpec.ofChange fnSharedSpec)

/-- ITS FALSE NEIGHBOUR: 'it returns false'. Refute it at one input. -/
def fnSharedWrong : ChangeSpec := { name := "fnShared", fn := fun _ => fun
  | [d] => { results := [.lit (.bool false)], args := [d] }
  | _ => none }
def FnSharedWrongFalsely : Prop := fnSharedRow.holds Try.pinned (OpenSpec.ofChange fnSharedWrong)

/- THE SECOND FORM. 'bulk': how many values and letters a reading holds, each counted each time it is reached (what is shared counts as often as it is met; a slice's spare places count too). A statement '..UptoSaid' is the law's where the arguments, and the package variables that the reading takes, are together of bulk at most 1048576: NARROWER than '..Said'. Prove '..Said' where nothing that the law and all that it calls make is longer than what came in: it says more and counts as full. Else prove '..UptoSaid'. A law counts once. -/
mutual
def uptoBulk {H : Type} : DataW H → Nat
  | .lit (.string bytes) => bytes.length + 1
  | .lit _ => 1
  | .nil => 1
  | .ptr d => uptoBulk d + 1
  | .slice elems spare => uptoBulkAll elems + uptoBulkAll spare + 1
  | .agg parts => uptoBulkAll parts + 1
  | .iface _ d => uptoBulk d + 1
  | .map entries => uptoBulkEntries entries + 1
  | .held _ => 1
def uptoBulkAll {H : Type} : List (DataW H) → Nat
  | [] => 0
  | d :: r => uptoBulk d + uptoBulkAll r
def uptoBulkEntries {H : Type} : List (Lit × DataW H) → Nat
  | [] => 0
  | x :: r => uptoBulkEntry x + uptoBulkEntries r
def uptoBulkEntry {H : Type} : Lit × DataW H → Nat
  | (.string bytes, d) => bytes.length + uptoBulk d + 1
  | (_, d) => uptoBulk d + 1
 end
def uptoSmall : (H : Type) → List (DataW H) → Bool := fun _ ds => decide (uptoBulkAll ds ≤ 1048576)
def OpenSpec.upto (s : _root_.Go.ChangeSpec) : _root_.Go.OpenSpec := { _root_.Go.OpenSpec.ofChange s with cond := some uptoSmall }

/-- 'laws.FnExactVerdictText', WHERE WHAT IT READS IS OF BULK AT MOST 1048576: true; the input reads as it did. -/
def fnExactVerdictTextUptoRow : OpenClaim := { program := "ytnpfgngfolgdfaa", sum := "a17e60a00af9266437c051fcfbe476160c13614d3848852663fba3bb1a122510", func := "loop.example/g01050/laws.FnExactVerdictText", spec := "fnExactVerdictText", apart := false, narrowed := true }
def FnExactVerdictTextUptoSaid : Prop := fnExactVerdictTextUptoRow.holds Try.pinned (OpenSpec.upto fnExactVerdictTextSpec)

/-- 'laws.FnExactAreClaims', WHERE WHAT IT READS IS OF BULK AT MOST 1048576: true; the input reads as it did. -/
def fnExactAreClaimsUptoRow : OpenClaim := { program := "ytnpfgngfolgdfaa", sum := "a17e60a00af9266437c051fcfbe476160c13614d3848852663fba3bb1a122510", func := "loop.example/g01050/laws.FnExactAreClaims", spec := "fnExactAreClaims", apart := false, narrowed := true }
def FnExactAreClaimsUptoSaid : Prop := fnExactAreClaimsUptoRow.holds Try.pinned (OpenSpec.upto fnExactAreClaimsSpec)

/-- 'laws.FnExactAreTerms', WHERE WHAT IT READS IS OF BULK AT MOST 1048576: true; the input reads as it did. -/
def fnExactAreTermsUptoRow : OpenClaim := { program := "ytnpfgngfolgdfaa", sum := "a17e60a00af9266437c051fcfbe476160c13614d3848852663fba3bb1a122510", func := "loop.example/g01050/laws.FnExactAreTerms", spec := "fnExactAreTerms", apart := false, narrowed := true }
def FnExactAreTermsUptoSaid : Prop := fnExactAreTermsUptoRow.holds Try.pinned (OpenSpec.upto fnExactAreTermsSpec)

/-- 'laws.FnExactLastDay', WHERE WHAT IT READS IS OF BULK AT MOST 1048576: true; the input reads as it did. -/
def fnExactLastDayUptoRow : OpenClaim := { program := "ytnpfgngfolgdfaa", sum := "a17e60a00af9266437c051fcfbe476160c13614d3848852663fba3bb1a122510", func := "loop.example/g01050/laws.FnExactLastDay", spec := "fnExactLastDay", apart := false, narrowed := true }
def FnExactLastDayUptoSaid : Prop := fnExactLastDayUptoRow.holds Try.pinned (OpenSpec.upto fnExactLastDaySpec)

/-- 'laws.FnExactAddClaim', WHERE WHAT IT READS IS OF BULK AT MOST 1048576: true; the input reads as it did. -/
def fnExactAddClaimUptoRow : OpenClaim := { program := "ytnpfgngfolgdfaa", sum := "a17e60a00af9266437c051fcfbe476160c13614d3848852663fba3bb1a122510", func := "loop.example/g01050/laws.FnExactAddClaim", spec := "fnExactAddClaim", apart := false, narrowed := true }
def FnExactAddClaimUptoSaid : Prop := fnExactAddClaimUptoRow.holds Try.pinned (OpenSpec.upto fnExactAddClaimSpec)

/-- 'laws.FnExactClaimsLeft', WHERE WHAT IT READS IS OF BULK AT MOST 1048576: true; the input reads as it did. -/
def fnExactClaimsLeftUptoRow : OpenClaim := { program := "ytnpfgngfolgdfaa", sum := "a17e60a00af9266437c051fcfbe476160c13614d3848852663fba3bb1a122510", func := "loop.example/g01050/laws.FnExactClaimsLeft", spec := "fnExactClaimsLeft", apart := false, narrowed := true }
def FnExactClaimsLeftUptoSaid : Prop := fnExactClaimsLeftUptoRow.holds Try.pinned (OpenSpec.upto fnExactClaimsLeftSpec)

/-- 'laws.FnExactWorstPart', WHERE WHAT IT READS IS OF BULK AT MOST 1048576: true; the input reads as it did. -/
def fnExactWorstPartUptoRow : OpenClaim := { program := "ytnpfgngfolgdfaa", sum := "a17e60a00af9266437c051fcfbe476160c13614d3848852663fba3bb1a122510", func := "loop.example/g01050/laws.FnExactWorstPart", spec := "fnExactWorstPart", apart := false, narrowed := true }
def FnExactWorstPartUptoSaid : Prop := fnExactWorstPartUptoRow.holds Try.pinned (OpenSpec.upto fnExactWorstPartSpec)

/-- 'laws.FnExactVerdictsOf', WHERE WHAT IT READS IS OF BULK AT MOST 1048576: true; the input reads as it did. -/
def fnExactVerdictsOfUptoRow : OpenClaim := { program := "ytnpfgngfolgdfaa", sum := "a17e60a00af9266437c051fcfbe476160c13614d3848852663fba3bb1a122510", func := "loop.example/g01050/laws.FnExactVerdictsOf", spec := "fnExactVerdictsOf", apart := false, narrowed := true }
def FnExactVerdictsOfUptoSaid : Prop := fnExactVerdictsOfUptoRow.holds Try.pinned (OpenSpec.upto fnExactVerdictsOfSpec)

/-- 'laws.FnExactCountVerdicts', WHERE WHAT IT READS IS OF BULK AT MOST 1048576: true; the input reads as it did. -/
def fnExactCountVerdictsUptoRow : OpenClaim := { program := "ytnpfgngfolgdfaa", sum := "a17e60a00af9266437c051fcfbe476160c13614d3848852663fba3bb1a122510", func := "loop.example/g01050/laws.FnExactCountVerdicts", spec := "fnExactCountVerdicts", apart := false, narrowed := true }
def FnExactCountVerdictsUptoSaid : Prop := fnExactCountVerdictsUptoRow.holds Try.pinned (OpenSpec.upto fnExactCountVerdictsSpec)

/-- 'laws.FnClaims', WHERE WHAT IT READS IS OF BULK AT MOST 1048576: true; the input reads as it did. -/
def fnClaimsUptoRow : OpenClaim := { program := "ytnpfgngfolgdfaa", sum := "a17e60a00af9266437c051fcfbe476160c13614d3848852663fba3bb1a122510", func := "loop.example/g01050/laws.FnClaims", spec := "fnClaims", apart := false, narrowed := true }
def FnClaimsUptoSaid : Prop := fnClaimsUptoRow.holds Try.pinned (OpenSpec.upto fnClaimsSpec)

/-- 'laws.FnVerdicts', WHERE WHAT IT READS IS OF BULK AT MOST 1048576: true; the input reads as it did. -/
def fnVerdictsUptoRow : OpenClaim := { program := "ytnpfgngfolgdfaa", sum := "a17e60a00af9266437c051fcfbe476160c13614d3848852663fba3bb1a122510", func := "loop.example/g01050/laws.FnVerdicts", spec := "fnVerdicts", apart := false, narrowed := true }
def FnVerdictsUptoSaid : Prop := fnVerdictsUptoRow.holds Try.pinned (OpenSpec.upto fnVerdictsSpec)

/-- 'laws.FnShared', WHERE WHAT IT READS IS OF BULK AT MOST 1048576: true; the input reads as it did. -/
def fnSharedUptoRow : OpenClaim := { program := "ytnpfgngfolgdfaa", sum := "a17e60a00af9266437c051fcfbe476160c13614d3848852663fba3bb1a122510", func := "loop.example/g01050/laws.FnShared", spec := "fnShared", apart := false, narrowed := true }
def FnSharedUptoSaid : Prop := fnSharedUptoRow.holds Try.pinned (OpenSpec.upto fnSharedSpec)

end Rows
end Go.Proofs.Ytnpfgngfolgdfaa
