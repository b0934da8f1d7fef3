/-
  No cell of these rows narrows 'for every input' (looked for: loops, veiled, ifaces, maps, wideKeys, modest, calm, conditions, laid).
  DERIVED. THE GIVEN ROWS OF THIS SEAT. 7 by the template 'for every input the law returns true; each argument reads behind the call as it read before'; 0 by the template 'total and deterministic' (their statements: YtklllcehndfcpaaTotals.lean).
  GIVEN WITH THE SEED: the statements are not yours to turn. If you find one false, say at which input.
  Laid BY PROGRAM, IN A SANDBOX (cutbox-rows.mjs): the forced cells as the released guide's own fill.sh prints them over the translation f7aad29fc62da51d… (all of the seat's roots in one cut). By AI agents, Wed Nov 11 2026. No macro, syntax, notation, axiom, sorry.
-/
import Derived.Test.YtklllcehndfcpaaChecked
import GoSem.Claim
import GoSem.ClaimJoined
import GoSem.ClaimMapViews
import Derived.JoinedTies
import Derived.KernelRfl
namespace Go.Proofs.Ytklllcehndfcpaa
/- THE CELL 'sum', in the pinned program and in every row, IS THE sha256 OF THE DUMP (.gsa) THAT YtklllcehndfcpaaProg.lean LOADS. Nothing in Lean hashes anything: it is a label: what it is worth is what the hold of that sum in a sandbox is worth. -/
noncomputable def Try.pinned : Pinned := { name := "ytklllcehndfcpaa", sum := "f7aad29fc62da51dc0a00f2d560ee870feaf33d891e8f4689bdee349640aabca", checked := Try.checked }
namespace Rows
def none {H : Type} : Left H := { results := [], args := [] }

/-- 'laws.FnExactAreVersions': WHATEVER THE INPUT: true; the input reads as it did. -/
def fnExactAreVersionsSpec : ChangeSpec := { name := "fnExactAreVersions", fn := fun _ => fun
  | [d] => { results := [.lit (.bool true)], args := [d] }
  | _ => none }
def fnExactAreVersionsRow : OpenClaim := { program := "ytklllcehndfcpaa", sum := "f7aad29fc62da51dc0a00f2d560ee870feaf33d891e8f4689bdee349640aabca", func := "loop.example/g01050/laws.FnExactAreVersions", spec := "fnExactAreVersions", apart := false }
def FnExactAreVersionsSaid : Prop := fnExactAreVersionsRow.holds Try.pinned (OpenSpec.ofChange fnExactAreVersionsSpec)

/-- ITS FALSE NEIGHBOUR: 'it returns false'. Refute it at one input. -/
def fnExactAreVersionsWrong : ChangeSpec := { name := "fnExactAreVersions", fn := fun _ => fun
  | [d] => { results := [.lit (.bool false)], args := [d] }
  | _ => none }
def FnExactAreVersionsWrongFalsely : Prop := fnExactAreVersionsRow.holds Try.pinned (OpenSpec.ofChange fnExactAreVersionsWrong)

/-- 'laws.FnExactValueOf': WHATEVER THE INPUT: true; the input reads as it did. -/
def fnExactValueOfSpec : ChangeSpec := { name := "fnExactValueOf", fn := fun _ => fun
  | [d1, d2, d3] => { results := [.lit (.bool true)], args := [d1, d2, d3] }
  | _ => none }
def fnExactValueOfRow : OpenClaim := { program := "ytklllcehndfcpaa", sum := "f7aad29fc62da51dc0a00f2d560ee870feaf33d891e8f4689bdee349640aabca", func := "loop.example/g01050/laws.FnExactValueOf", spec := "fnExactValueOf", apart := false }
def FnExactValueOfSaid : Prop := fnExactValueOfRow.holds Try.pinned (OpenSpec.ofChange fnExactValueOfSpec)

/-- ITS FALSE NEIGHBOUR: 'it returns false'. Refute it at one input. -/
def fnExactValueOfWrong : ChangeSpec := { name := "fnExactValueOf", fn := fun _ => fun
  | [d1, d2, d3] => { results := [.lit (.bool false)], args := [d1, d2, d3] }
  | _ => none }
def FnExactValueOfWrongFalsely : Prop := fnExactValueOfRow.holds Try.pinned (OpenSpec.ofChange fnExactValueOfWrong)

/-- 'laws.FnExactCommonVersion': WHATEVER THE INPUT: true; the input reads as it did. -/
def fnExactCommonVersionSpec : ChangeSpec := { name := "fnExactCommonVersion", fn := fun _ => fun
  | [d1, d2, d3] => { results := [.lit (.bool true)], args := [d1, d2, d3] }
  | _ => none }
def fnExactCommonVersionRow : OpenClaim := { program := "ytklllcehndfcpaa", sum := "f7aad29fc62da51dc0a00f2d560ee870feaf33d891e8f4689bdee349640aabca", func := "loop.example/g01050/laws.FnExactCommonVersion", spec := "fnExactCommonVersion", apart := false }
def FnExactCommonVersionSaid : Prop := fnExactCommonVersionRow.holds Try.pinned (OpenSpec.ofChange fnExactCommonVersionSpec)

/-- ITS FALSE NEIGHBOUR: 'it returns false'. Refute it at one input. -/
def fnExactCommonVersionWrong : ChangeSpec := { name := "fnExactCommonVersion", fn := fun _ => fun
  | [d1, d2, d3] => { results := [.lit (.bool false)], args := [d1, d2, d3] }
  | _ => none }
def FnExactCommonVersionWrongFalsely : Prop := fnExactCommonVersionRow.holds Try.pinned (OpenSpec.ofChange fnExactCommonVersionWrong)

/-- 'laws.FnExactHeadsOf': WHATEVER THE INPUT: true; the input reads as it did. -/
def fnExactHeadsOfSpec : ChangeSpec := { name := "fnExactHeadsOf", fn := fun _ => fun
  | [d] => { results := [.lit (.bool true)], args := [d] }
  | _ => none }
def fnExactHeadsOfRow : OpenClaim := { program := "ytklllcehndfcpaa", sum := "f7aad29fc62da51dc0a00f2d560ee870feaf33d891e8f4689bdee349640aabca", func := "loop.example/g01050/laws.FnExactHeadsOf", spec := "fnExactHeadsOf", apart := false }
def FnExactHeadsOfSaid : Prop := fnExactHeadsOfRow.holds Try.pinned (OpenSpec.ofChange fnExactHeadsOfSpec)

/-- ITS FALSE NEIGHBOUR: 'it returns false'. Refute it at one input. -/
def fnExactHeadsOfWrong : ChangeSpec := { name := "fnExactHeadsOf", fn := fun _ => fun
  | [d] => { results := [.lit (.bool false)], args := [d] }
  | _ => none }
def FnExactHeadsOfWrongFalsely : Prop := fnExactHeadsOfRow.holds Try.pinned (OpenSpec.ofChange fnExactHeadsOfWrong)

/-- 'laws.FnExactWayToFirst': WHATEVER THE INPUT: true; the input reads as it did. -/
def fnExactWayToFirstSpec : ChangeSpec := { name := "fnExactWayToFirst", fn := fun _ => fun
  | [d1, d2] => { results := [.lit (.bool true)], args := [d1, d2] }
  | _ => none }
def fnExactWayToFirstRow : OpenClaim := { program := "ytklllcehndfcpaa", sum := "f7aad29fc62da51dc0a00f2d560ee870feaf33d891e8f4689bdee349640aabca", func := "loop.example/g01050/laws.FnExactWayToFirst", spec := "fnExactWayToFirst", apart := false }
def FnExactWayToFirstSaid : Prop := fnExactWayToFirstRow.holds Try.pinned (OpenSpec.ofChange fnExactWayToFirstSpec)

/-- ITS FALSE NEIGHBOUR: 'it returns false'. Refute it at one input. -/
def fnExactWayToFirstWrong : ChangeSpec := { name := "fnExactWayToFirst", fn := fun _ => fun
  | [d1, d2] => { results := [.lit (.bool false)], args := [d1, d2] }
  | _ => none }
def FnExactWayToFirstWrongFalsely : Prop := fnExactWayToFirstRow.holds Try.pinned (OpenSpec.ofChange fnExactWayToFirstWrong)

/-- 'laws.FnExactAddVersion': WHATEVER THE INPUT: true; the input reads as it did. -/
def fnExactAddVersionSpec : ChangeSpec := { name := "fnExactAddVersion", fn := fun _ => fun
  | [d1, d2, d3] => { results := [.lit (.bool true)], args := [d1, d2, d3] }
  | _ => none }
def fnExactAddVersionRow : OpenClaim := { program := "ytklllcehndfcpaa", sum := "f7aad29fc62da51dc0a00f2d560ee870feaf33d891e8f4689bdee349640aabca", func := "loop.example/g01050/laws.FnExactAddVersion", spec := "fnExactAddVersion", apart := false }
def FnExactAddVersionSaid : Prop := fnExactAddVersionRow.holds Try.pinned (OpenSpec.ofChange fnExactAddVersionSpec)

/-- ITS FALSE NEIGHBOUR: 'it returns false'. Refute it at one input. -/
def fnExactAddVersionWrong : ChangeSpec := { name := "fnExactAddVersion", fn := fun _ => fun
  | [d1, d2, d3] => { results := [.lit (.bool false)], args := [d1, d2, d3] }
  | _ => none }
def FnExactAddVersionWrongFalsely : Prop := fnExactAddVersionRow.holds Try.pinned (OpenSpec.ofChange fnExactAddVersionWrong)

/-- 'laws.FnExactSetValue': WHATEVER THE INPUT: true; the input reads as it did. -/
def fnExactSetValueSpec : ChangeSpec := { name := "fnExactSetValue", fn := fun _ => fun
  | [d1, d2, d3, d4] => { results := [.lit (.bool true)], args := [d1, d2, d3, d4] }
  | _ => none }
def fnExactSetValueRow : OpenClaim := { program := "ytklllcehndfcpaa", sum := "f7aad29fc62da51dc0a00f2d560ee870feaf33d891e8f4689bdee349640aabca", func := "loop.example/g01050/laws.FnExactSetValue", spec := "fnExactSetValue", apart := false }
def FnExactSetValueSaid : Prop := fnExactSetValueRow.holds Try.pinned (OpenSpec.ofChange fnExactSetValueSpec)

/-- ITS FALSE NEIGHBOUR: 'it returns false'. Refute it at one input. -/
def fnExactSetValueWrong : ChangeSpec := { name := "fnExactSetValue", fn := fun _ => fun
  | [d1, d2, d3, d4] => { results := [.lit (.bool false)], args := [d1, d2, d3, d4] }
  | _ => none }
def FnExactSetValueWrongFalsely : Prop := fnExactSetValueRow.holds Try.pinned (OpenSpec.ofChange fnExactSetValueWrong)

/- THE SECOND FORM. 'bulk': how many values and letters a reading holds, each counted each time it is reached (what is shared counts as often as it is met; a slice's spare places count too). A statement '..UptoSaid' is the law's where the arguments, and the package variables that the reading takes, are together of bulk at most 1048576: NARROWER than '..Said'. Prove '..Said' where nothing that the law and all that it calls make is longer than what came in: it says more and counts as full. Else prove '..UptoSaid'. A law counts once. -/
mutual
def uptoBulk {H : Type} : DataW H → Nat
  | .lit (.string bytes) => bytes.length + 1
  | .lit _ => 1
  | .nil => 1
  | .ptr d => uptoBulk d + 1
  | .slice elems spare => uptoBulkAll elems + uptoBulkAll spare + 1
  | .agg parts => uptoBulkAll parts + 1
  | .iface _ d => uptoBulk d + 1
  | .map entries => uptoBulkEntries entries + 1
  | .held _ => 1
def uptoBulkAll {H : Type} : List (DataW H) → Nat
  | [] => 0
  | d :: r => uptoBulk d + uptoBulkAll r
def uptoBulkEntries {H : Type} : List (Lit × DataW H) → Nat
  | [] => 0
  | x :: r => uptoBulkEntry x + uptoBulkEntries r
def uptoBulkEntry {H : Type} : Lit × DataW H → Nat
  | (.string bytes, d) => bytes.length + uptoBulk d + 1
  | (_, d) => uptoBulk d + 1
 end
def uptoSmall : (H : Type) → List (DataW H) → Bool := fun _ ds => decide (uptoBulkAll ds ≤ 1048576)
def OpenSpec.upto (s : _root_.Go.ChangeSpec) : _root_.Go.OpenSpec := { _root_.Go.OpenSpec.ofChange s with cond := some uptoSmall }

/-- 'laws.FnExactAreVersions', WHERE WHAT IT READS IS OF BULK AT MOST 1048576: true; the input reads as it did. -/
def fnExactAreVersionsUptoRow : OpenClaim := { program := "ytklllcehndfcpaa", sum := "f7aad29fc62da51dc0a00f2d560ee870feaf33d891e8f4689bdee349640aabca", func := "loop.example/g01050/laws.FnExactAreVersions", spec := "fnExactAreVersions", apart := false, narrowed := true }
def FnExactAreVersionsUptoSaid : Prop := fnExactAreVersionsUptoRow.holds Try.pinned (OpenSpec.upto fnExactAreVersionsSpec)

/-- 'laws.FnExactValueOf', WHERE WHAT IT READS IS OF BULK AT MOST 1048576: true; the input reads as it did. -/
def fnExactValueOfUptoRow : OpenClaim := { program := "ytklllcehndfcpaa", sum := "f7aad29fc62da51dc0a00f2d560ee870feaf33d891e8f4689bdee349640aabca", func := "loop.example/g01050/laws.FnExactValueOf", spec := "fnExactValueOf", apart := false, narrowed := true }
def FnExactValueOfUptoSaid : Prop := fnExactValueOfUptoRow.holds Try.pinned (OpenSpec.upto fnExactValueOfSpec)

/-- 'laws.FnExactCommonVersion', WHERE WHAT IT READS IS OF BULK AT MOST 1048576: true; the input reads as it did. -/
def fnExactCommonVersionUptoRow : OpenClaim := { program := "ytklllcehndfcpaa", sum := "f7aad29fc62da51dc0a00f2d560ee870feaf33d891e8f4689bdee349640aabca", func := "loop.example/g01050/laws.FnExactCommonVersion", spec := "fnExactCommonVersion", apart := false, narrowed := true }
def FnExactCommonVersionUptoSaid : Prop := fnExactCommonVersionUptoRow.holds Try.pinned (OpenSpec.upto fnExactCommonVersionSpec)

/-- 'laws.FnExactHeadsOf', WHERE WHAT IT READS IS OF BULK AT MOST 1048576: true; the input reads as it did. -/
def fnExactHeadsOfUptoRow : OpenClaim := { program := "ytklllcehndfcpaa", sum := "f7aad29fc62da51dc0a00f2d560ee870feaf33d891e8f4689bdee349640aabca", func := "loop.example/g01050/laws.FnExactHeadsOf", spec := "fnExactHeadsOf", apart := false, narrowed := true }
def FnExactHeadsOfUptoSaid : Prop := fnExactHeadsOfUptoRow.holds Try.pinned (OpenSpec.upto fnExactHeadsOfSpec)

/-- 'laws.FnExactWayToFirst', WHERE WHAT IT READS IS OF BULK AT MOST 1048576: true; the input reads as it did. -/
def fnExactWayToFirstUptoRow : OpenClaim := { program := "ytklllcehndfcpaa", sum := "f7aad29fc62da51dc0a00f2d560ee870feaf33d891e8f4689bdee349640aabca", func := "loop.example/g01050/laws.FnExactWayToFirst", spec := "fnExactWayToFirst", apart := false, narrowed := true }
def FnExactWayToFirstUptoSaid : Prop := fnExactWayToFirstUptoRow.holds Try.pinned (OpenSpec.upto fnExactWayToFirstSpec)

/-- 'laws.FnExactAddVersion', WHERE WHAT IT READS IS OF BULK AT MOST 1048576: true; the input reads as it did. -/
def fnExactAddVersionUptoRow : OpenClaim := { program := "ytklllcehndfcpaa", sum := "f7aad29fc62da51dc0a00f2d560ee870feaf33d891e8f4689bdee349640aabca", func := "loop.example/g01050/laws.FnExactAddVersion", spec := "fnExactAddVersion", apart := false, narrowed := true }
def FnExactAddVersionUptoSaid : Prop := fnExactAddVersionUptoRow.holds Try.pinned (OpenSpec.upto fnExactAddVersionSpec)

/-- 'laws.FnExactSetValue', WHERE WHAT IT READS IS OF BULK AT MOST 1048576: true; the input reads as it did. -/
def fnExactSetValueUptoRow : OpenClaim := { program := "ytklllcehndfcpaa", sum := "f7aad29fc62da51dc0a00f2d560ee870feaf33d891e8f4689bdee349640aabca", func := "loop.example/g01050/laws.FnExactSetValue", spec := "fnExactSetValue", apart := false, narrowed := true }
def FnExactSetValueUptoSaid : Prop := fnExactSetValueUptoRow.holds Try.pinned (OpenSpec.upto fnExactSetValueSpec)

end Rows
end Go.Proofs.Ytklllcehndfcpaa
