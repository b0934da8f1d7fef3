/-
  No cell of these rows narrows 'for every input' (looked for: loops, veiled, ifaces, maps, wideKeys, modest, calm, conditions, laid).
  DERIVED. THE GIVEN ROWS OF THIS SEAT. 12 by the template 'for every input the law returns true; each argument reads behind the call as it read before'; 0 by the template 'total and deterministic' (their statements: YtfiapefkomolmaaTotals.lean).
  GIVEN WITH THE SEED: the statements are not yours to turn. If you find one false, say at which input.
  Laid BY PROGRAM, IN A SANDBOX (cutbox-rows.mjs): the forced cells as the released guide's own fill.sh prints them over the translation 6f55c7543dc60c15… (all of the seat's roots in one cut). By AI agents, Wed Nov 11 2026. No macro, syntax, notation, axiom, sorry.
-/
import Derived.Test.YtfiapefkomolmaaChecked
import GoSem.Claim
import GoSem.ClaimJoined
import GoSem.ClaimMapViews
import Derived.JoinedTies
import Derived.KernelRfl
namespace Go.Proofs.Ytfiapefkomolmaa
/- THE CELL 'sum', in the pinned program and in every row, IS THE sha256 OF THE DUMP (.gsa) THAT YtfiapefkomolmaaProg.lean LOADS. Nothing in Lean hashes anything: it is a label: what it is worth is what the hold of that sum in a sandbox is worth. -/
noncomputable def Try.pinned : Pinned := { name := "ytfiapefkomolmaa", sum := "6f55c7543dc60c1523e0d7cb94f533961f0d47cb703b03245c4c9529dbff3ec2", checked := Try.checked }
namespace Rows
def none {H : Type} : Left H := { results := [], args := [] }

/-- 'laws.FnExactSplitTotal': WHATEVER THE INPUT: true; the input reads as it did. -/
def fnExactSplitTotalSpec : ChangeSpec := { name := "fnExactSplitTotal", fn := fun _ => fun
  | [d1, d2] => { results := [.lit (.bool true)], args := [d1, d2] }
  | _ => none }
def fnExactSplitTotalRow : OpenClaim := { program := "ytfiapefkomolmaa", sum := "6f55c7543dc60c1523e0d7cb94f533961f0d47cb703b03245c4c9529dbff3ec2", func := "loop.example/g01050/laws.FnExactSplitTotal", spec := "fnExactSplitTotal", apart := false }
def FnExactSplitTotalSaid : Prop := fnExactSplitTotalRow.holds Try.pinned (OpenSpec.ofChange fnExactSplitTotalSpec)

/-- ITS FALSE NEIGHBOUR: 'it returns false'. Refute it at one input. -/
def fnExactSplitTotalWrong : ChangeSpec := { name := "fnExactSplitTotal", fn := fun _ => fun
  | [d1, d2] => { results := [.lit (.bool false)], args := [d1, d2] }
  | _ => none }
def FnExactSplitTotalWrongFalsely : Prop := fnExactSplitTotalRow.holds Try.pinned (OpenSpec.ofChange fnExactSplitTotalWrong)

/-- 'laws.FnExactAreTiers': WHATEVER THE INPUT: true; the input reads as it did. -/
def fnExactAreTiersSpec : ChangeSpec := { name := "fnExactAreTiers", fn := fun _ => fun
  | [d] => { results := [.lit (.bool true)], args := [d] }
  | _ => none }
def fnExactAreTiersRow : OpenClaim := { program := "ytfiapefkomolmaa", sum := "6f55c7543dc60c1523e0d7cb94f533961f0d47cb703b03245c4c9529dbff3ec2", func := "loop.example/g01050/laws.FnExactAreTiers", spec := "fnExactAreTiers", apart := false }
def FnExactAreTiersSaid : Prop := fnExactAreTiersRow.holds Try.pinned (OpenSpec.ofChange fnExactAreTiersSpec)

/-- ITS FALSE NEIGHBOUR: 'it returns false'. Refute it at one input. -/
def fnExactAreTiersWrong : ChangeSpec := { name := "fnExactAreTiers", fn := fun _ => fun
  | [d] => { results := [.lit (.bool false)], args := [d] }
  | _ => none }
def FnExactAreTiersWrongFalsely : Prop := fnExactAreTiersRow.holds Try.pinned (OpenSpec.ofChange fnExactAreTiersWrong)

/-- 'laws.FnExactItemText': WHATEVER THE INPUT: true; the input reads as it did. -/
def fnExactItemTextSpec : ChangeSpec := { name := "fnExactItemText", fn := fun _ => fun
  | [d] => { results := [.lit (.bool true)], args := [d] }
  | _ => none }
def fnExactItemTextRow : OpenClaim := { program := "ytfiapefkomolmaa", sum := "6f55c7543dc60c1523e0d7cb94f533961f0d47cb703b03245c4c9529dbff3ec2", func := "loop.example/g01050/laws.FnExactItemText", spec := "fnExactItemText", recurses := true, apart := false }
def FnExactItemTextSaid : Prop := fnExactItemTextRow.holds Try.pinned (OpenSpec.ofChange fnExactItemTextSpec)

/-- ITS FALSE NEIGHBOUR: 'it returns false'. Refute it at one input. -/
def fnExactItemTextWrong : ChangeSpec := { name := "fnExactItemText", fn := fun _ => fun
  | [d] => { results := [.lit (.bool false)], args := [d] }
  | _ => none }
def FnExactItemTextWrongFalsely : Prop := fnExactItemTextRow.holds Try.pinned (OpenSpec.ofChange fnExactItemTextWrong)

/-- 'laws.FnExactAreItems': WHATEVER THE INPUT: true; the input reads as it did. -/
def fnExactAreItemsSpec : ChangeSpec := { name := "fnExactAreItems", fn := fun _ => fun
  | [d] => { results := [.lit (.bool true)], args := [d] }
  | _ => none }
def fnExactAreItemsRow : OpenClaim := { program := "ytfiapefkomolmaa", sum := "6f55c7543dc60c1523e0d7cb94f533961f0d47cb703b03245c4c9529dbff3ec2", func := "loop.example/g01050/laws.FnExactAreItems", spec := "fnExactAreItems", apart := false }
def FnExactAreItemsSaid : Prop := fnExactAreItemsRow.holds Try.pinned (OpenSpec.ofChange fnExactAreItemsSpec)

/-- ITS FALSE NEIGHBOUR: 'it returns false'. Refute it at one input. -/
def fnExactAreItemsWrong : ChangeSpec := { name := "fnExactAreItems", fn := fun _ => fun
  | [d] => { results := [.lit (.bool false)], args := [d] }
  | _ => none }
def FnExactAreItemsWrongFalsely : Prop := fnExactAreItemsRow.holds Try.pinned (OpenSpec.ofChange fnExactAreItemsWrong)

/-- 'laws.FnExactSumOf': WHATEVER THE INPUT: true; the input reads as it did. -/
def fnExactSumOfSpec : ChangeSpec := { name := "fnExactSumOf", fn := fun _ => fun
  | [d] => { results := [.lit (.bool true)], args := [d] }
  | _ => none }
def fnExactSumOfRow : OpenClaim := { program := "ytfiapefkomolmaa", sum := "6f55c7543dc60c1523e0d7cb94f533961f0d47cb703b03245c4c9529dbff3ec2", func := "loop.example/g01050/laws.FnExactSumOf", spec := "fnExactSumOf", apart := false }
def FnExactSumOfSaid : Prop := fnExactSumOfRow.holds Try.pinned (OpenSpec.ofChange fnExactSumOfSpec)

/-- ITS FALSE NEIGHBOUR: 'it returns false'. Refute it at one input. -/
def fnExactSumOfWrong : ChangeSpec := { name := "fnExactSumOf", fn := fun _ => fun
  | [d] => { results := [.lit (.bool false)], args := [d] }
  | _ => none }
def FnExactSumOfWrongFalsely : Prop := fnExactSumOfRow.holds Try.pinned (OpenSpec.ofChange fnExactSumOfWrong)

/-- 'laws.FnExactReadItem': WHATEVER THE INPUT: true; the input reads as it did. -/
def fnExactReadItemSpec : ChangeSpec := { name := "fnExactReadItem", fn := fun _ => fun
  | [d] => { results := [.lit (.bool true)], args := [d] }
  | _ => none }
def fnExactReadItemRow : OpenClaim := { program := "ytfiapefkomolmaa", sum := "6f55c7543dc60c1523e0d7cb94f533961f0d47cb703b03245c4c9529dbff3ec2", func := "loop.example/g01050/laws.FnExactReadItem", spec := "fnExactReadItem", recurses := true, apart := false }
def FnExactReadItemSaid : Prop := fnExactReadItemRow.holds Try.pinned (OpenSpec.ofChange fnExactReadItemSpec)

/-- ITS FALSE NEIGHBOUR: 'it returns false'. Refute it at one input. -/
def fnExactReadItemWrong : ChangeSpec := { name := "fnExactReadItem", fn := fun _ => fun
  | [d] => { results := [.lit (.bool false)], args := [d] }
  | _ => none }
def FnExactReadItemWrongFalsely : Prop := fnExactReadItemRow.holds Try.pinned (OpenSpec.ofChange fnExactReadItemWrong)

/-- 'laws.FnExactJoinItems': WHATEVER THE INPUT: true; the input reads as it did. -/
def fnExactJoinItemsSpec : ChangeSpec := { name := "fnExactJoinItems", fn := fun _ => fun
  | [d] => { results := [.lit (.bool true)], args := [d] }
  | _ => none }
def fnExactJoinItemsRow : OpenClaim := { program := "ytfiapefkomolmaa", sum := "6f55c7543dc60c1523e0d7cb94f533961f0d47cb703b03245c4c9529dbff3ec2", func := "loop.example/g01050/laws.FnExactJoinItems", spec := "fnExactJoinItems", apart := false }
def FnExactJoinItemsSaid : Prop := fnExactJoinItemsRow.holds Try.pinned (OpenSpec.ofChange fnExactJoinItemsSpec)

/-- ITS FALSE NEIGHBOUR: 'it returns false'. Refute it at one input. -/
def fnExactJoinItemsWrong : ChangeSpec := { name := "fnExactJoinItems", fn := fun _ => fun
  | [d] => { results := [.lit (.bool false)], args := [d] }
  | _ => none }
def FnExactJoinItemsWrongFalsely : Prop := fnExactJoinItemsRow.holds Try.pinned (OpenSpec.ofChange fnExactJoinItemsWrong)

/-- 'laws.FnExactNextTier': WHATEVER THE INPUT: true; the input reads as it did. -/
def fnExactNextTierSpec : ChangeSpec := { name := "fnExactNextTier", fn := fun _ => fun
  | [d1, d2] => { results := [.lit (.bool true)], args := [d1, d2] }
  | _ => none }
def fnExactNextTierRow : OpenClaim := { program := "ytfiapefkomolmaa", sum := "6f55c7543dc60c1523e0d7cb94f533961f0d47cb703b03245c4c9529dbff3ec2", func := "loop.example/g01050/laws.FnExactNextTier", spec := "fnExactNextTier", apart := false }
def FnExactNextTierSaid : Prop := fnExactNextTierRow.holds Try.pinned (OpenSpec.ofChange fnExactNextTierSpec)

/-- ITS FALSE NEIGHBOUR: 'it returns false'. Refute it at one input. -/
def fnExactNextTierWrong : ChangeSpec := { name := "fnExactNextTier", fn := fun _ => fun
  | [d1, d2] => { results := [.lit (.bool false)], args := [d1, d2] }
  | _ => none }
def FnExactNextTierWrongFalsely : Prop := fnExactNextTierRow.holds Try.pinned (OpenSpec.ofChange fnExactNextTierWrong)

/-- 'laws.FnExactDiscountOf': WHATEVER THE INPUT: true; the input reads as it did. -/
def fnExactDiscountOfSpec : ChangeSpec := { name := "fnExactDiscountOf", fn := fun _ => fun
  | [d1, d2] => { results := [.lit (.bool true)], args := [d1, d2] }
  | _ => none }
def fnExactDiscountOfRow : OpenClaim := { program := "ytfiapefkomolmaa", sum := "6f55c7543dc60c1523e0d7cb94f533961f0d47cb703b03245c4c9529dbff3ec2", func := "loop.example/g01050/laws.FnExactDiscountOf", spec := "fnExactDiscountOf", apart := false }
def FnExactDiscountOfSaid : Prop := fnExactDiscountOfRow.holds Try.pinned (OpenSpec.ofChange fnExactDiscountOfSpec)

/-- ITS FALSE NEIGHBOUR: 'it returns false'. Refute it at one input. -/
def fnExactDiscountOfWrong : ChangeSpec := { name := "fnExactDiscountOf", fn := fun _ => fun
  | [d1, d2] => { results := [.lit (.bool false)], args := [d1, d2] }
  | _ => none }
def FnExactDiscountOfWrongFalsely : Prop := fnExactDiscountOfRow.holds Try.pinned (OpenSpec.ofChange fnExactDiscountOfWrong)

/-- 'laws.FnExactTotalOf': WHATEVER THE INPUT: true; the input reads as it did. -/
def fnExactTotalOfSpec : ChangeSpec := { name := "fnExactTotalOf", fn := fun _ => fun
  | [d1, d2, d3] => { results := [.lit (.bool true)], args := [d1, d2, d3] }
  | _ => none }
def fnExactTotalOfRow : OpenClaim := { program := "ytfiapefkomolmaa", sum := "6f55c7543dc60c1523e0d7cb94f533961f0d47cb703b03245c4c9529dbff3ec2", func := "loop.example/g01050/laws.FnExactTotalOf", spec := "fnExactTotalOf", apart := false }
def FnExactTotalOfSaid : Prop := fnExactTotalOfRow.holds Try.pinned (OpenSpec.ofChange fnExactTotalOfSpec)

/-- ITS FALSE NEIGHBOUR: 'it returns false'. Refute it at one input. -/
def fnExactTotalOfWrong : ChangeSpec := { name := "fnExactTotalOf", fn := fun _ => fun
  | [d1, d2, d3] => { results := [.lit (.bool false)], args := [d1, d2, d3] }
  | _ => none }
def FnExactTotalOfWrongFalsely : Prop := fnExactTotalOfRow.holds Try.pinned (OpenSpec.ofChange fnExactTotalOfWrong)

/-- 'laws.FnItemTexts': WHATEVER THE INPUT: true; the input reads as it did. -/
def fnItemTextsSpec : ChangeSpec := { name := "fnItemTexts", fn := fun _ => fun
  | [d] => { results := [.lit (.bool true)], args := [d] }
  | _ => none }
def fnItemTextsRow : OpenClaim := { program := "ytfiapefkomolmaa", sum := "6f55c7543dc60c1523e0d7cb94f533961f0d47cb703b03245c4c9529dbff3ec2", func := "loop.example/g01050/laws.FnItemTexts", spec := "fnItemTexts", recurses := true, apart := false }
def FnItemTextsSaid : Prop := fnItemTextsRow.holds Try.pinned (OpenSpec.ofChange fnItemTextsSpec)

/-- ITS FALSE NEIGHBOUR: 'it returns false'. Refute it at one input. -/
def fnItemTextsWrong : ChangeSpec := { name := "fnItemTexts", fn := fun _ => fun
  | [d] => { results := [.lit (.bool false)], args := [d] }
  | _ => none }
def FnItemTextsWrongFalsely : Prop := fnItemTextsRow.holds Try.pinned (OpenSpec.ofChange fnItemTextsWrong)

/-- 'laws.FnBills': WHATEVER THE INPUT: true; the input reads as it did. -/
def fnBillsSpec : ChangeSpec := { name := "fnBills", fn := fun _ => fun
  | [d] => { results := [.lit (.bool true)], args := [d] }
  | _ => none }
def fnBillsRow : OpenClaim := { program := "ytfiapefkomolmaa", sum := "6f55c7543dc60c1523e0d7cb94f533961f0d47cb703b03245c4c9529dbff3ec2", func := "loop.example/g01050/laws.FnBills", spec := "fnBills", apart := false }
def FnBillsSaid : Prop := fnBillsRow.holds Try.pinned (OpenSpec.ofChange fnBillsSpec)

/-- ITS FALSE NEIGHBOUR: 'it returns false'. Refute it at one input. -/
def fnBillsWrong : ChangeSpec := { name := "fnBills", fn := fun _ => fun
  | [d] => { results := [.lit (.bool false)], args := [d] }
  | _ => none }
def FnBillsWrongFalsely : Prop := fnBillsRow.holds Try.pinned (OpenSpec.ofChange fnBillsWrong)

/- THE SECOND FORM. 'bulk': how many values and letters a reading holds, each counted each time it is reached (what is shared counts as often as it is met; a slice's spare places count too). A statement '..UptoSaid' is the law's where the arguments, and the package variables that the reading takes, are together of bulk at most 1048576: NARROWER than '..Said'. Prove '..Said' where nothing that the law and all that it calls make is longer than what came in: it says more and counts as full. Else prove '..UptoSaid'. A law counts once. -/
mutual
def uptoBulk {H : Type} : DataW H → Nat
  | .lit (.string bytes) => bytes.length + 1
  | .lit _ => 1
  | .nil => 1
  | .ptr d => uptoBulk d + 1
  | .slice elems spare => uptoBulkAll elems + uptoBulkAll spare + 1
  | .agg parts => uptoBulkAll parts + 1
  | .iface _ d => uptoBulk d + 1
  | .map entries => uptoBulkEntries entries + 1
  | .held _ => 1
def uptoBulkAll {H : Type} : List (DataW H) → Nat
  | [] => 0
  | d :: r => uptoBulk d + uptoBulkAll r
def uptoBulkEntries {H : Type} : List (Lit × DataW H) → Nat
  | [] => 0
  | x :: r => uptoBulkEntry x + uptoBulkEntries r
def uptoBulkEntry {H : Type} : Lit × DataW H → Nat
  | (.string bytes, d) => bytes.length + uptoBulk d + 1
  | (_, d) => uptoBulk d + 1
 end
def uptoSmall : (H : Type) → List (DataW H) → Bool := fun _ ds => decide (uptoBulkAll ds ≤ 1048576)
def OpenSpec.upto (s : _root_.Go.ChangeSpec) : _root_.Go.OpenSpec := { _root_.Go.OpenSpec.ofChange s with cond := some uptoSmall }

/-- 'laws.FnExactSplitTotal', WHERE WHAT IT READS IS OF BULK AT MOST 1048576: true; the input reads as it did. -/
def fnExactSplitTotalUptoRow : OpenClaim := { program := "ytfiapefkomolmaa", sum := "6f55c7543dc60c1523e0d7cb94f533961f0d47cb703b03245c4c9529dbff3ec2", func := "loop.example/g01050/laws.FnExactSplitTotal", spec := "fnExactSplitTotal", apart := false, narrowed := true }
def FnExactSplitTotalUptoSaid : Prop := fnExactSplitTotalUptoRow.holds Try.pinned (OpenSpec.upto fnExactSplitTotalSpec)

/-- 'laws.FnExactAreTiers', WHERE WHAT IT READS IS OF BULK AT MOST 1048576: true; the input reads as it did. -/
def fnExactAreTiersUptoRow : OpenClaim := { program := "ytfiapefkomolmaa", sum := "6f55c7543dc60c1523e0d7cb94f533961f0d47cb703b03245c4c9529dbff3ec2", func := "loop.example/g01050/laws.FnExactAreTiers", spec := "fnExactAreTiers", apart := false, narrowed := true }
def FnExactAreTiersUptoSaid : Prop := fnExactAreTiersUptoRow.holds Try.pinned (OpenSpec.upto fnExactAreTiersSpec)

/-- 'laws.FnExactItemText', WHERE WHAT IT READS IS OF BULK AT MOST 1048576: true; the input reads as it did. -/
def fnExactItemTextUptoRow : OpenClaim := { program := "ytfiapefkomolmaa", sum := "6f55c7543dc60c1523e0d7cb94f533961f0d47cb703b03245c4c9529dbff3ec2", func := "loop.example/g01050/laws.FnExactItemText", spec := "fnExactItemText", recurses := true, apart := false, narrowed := true }
def FnExactItemTextUptoSaid : Prop := fnExactItemTextUptoRow.holds Try.pinned (OpenSpec.upto fnExactItemTextSpec)

/-- 'laws.FnExactAreItems', WHERE WHAT IT READS IS OF BULK AT MOST 1048576: true; the input reads as it did. -/
def fnExactAreItemsUptoRow : OpenClaim := { program := "ytfiapefkomolmaa", sum := "6f55c7543dc60c1523e0d7cb94f533961f0d47cb703b03245c4c9529dbff3ec2", func := "loop.example/g01050/laws.FnExactAreItems", spec := "fnExactAreItems", apart := false, narrowed := true }
def FnExactAreItemsUptoSaid : Prop := fnExactAreItemsUptoRow.holds Try.pinned (OpenSpec.upto fnExactAreItemsSpec)

/-- 'laws.FnExactSumOf', WHERE WHAT IT READS IS OF BULK AT MOST 1048576: true; the input reads as it did. -/
def fnExactSumOfUptoRow : OpenClaim := { program := "ytfiapefkomolmaa", sum := "6f55c7543dc60c1523e0d7cb94f533961f0d47cb703b03245c4c9529dbff3ec2", func := "loop.example/g01050/laws.FnExactSumOf", spec := "fnExactSumOf", apart := false, narrowed := true }
def FnExactSumOfUptoSaid : Prop := fnExactSumOfUptoRow.holds Try.pinned (OpenSpec.upto fnExactSumOfSpec)

/-- 'laws.FnExactReadItem', WHERE WHAT IT READS IS OF BULK AT MOST 1048576: true; the input reads as it did. -/
def fnExactReadItemUptoRow : OpenClaim := { program := "ytfiapefkomolmaa", sum := "6f55c7543dc60c1523e0d7cb94f533961f0d47cb703b03245c4c9529dbff3ec2", func := "loop.example/g01050/laws.FnExactReadItem", spec := "fnExactReadItem", recurses := true, apart := false, narrowed := true }
def FnExactReadItemUptoSaid : Prop := fnExactReadItemUptoRow.holds Try.pinned (OpenSpec.upto fnExactReadItemSpec)

/-- 'laws.FnExactJoinItems', WHERE WHAT IT READS IS OF BULK AT MOST 1048576: true; the input reads as it did. -/
def fnExactJoinItemsUptoRow : OpenClaim := { program := "ytfiapefkomolmaa", sum := "6f55c7543dc60c1523e0d7cb94f533961f0d47cb703b03245c4c9529dbff3ec2", func := "loop.example/g01050/laws.FnExactJoinItems", spec := "fnExactJoinItems", apart := false, narrowed := true }
def FnExactJoinItemsUptoSaid : Prop := fnExactJoinItemsUptoRow.holds Try.pinned (OpenSpec.upto fnExactJoinItemsSpec)

/-- 'laws.FnExactNextTier', WHERE WHAT IT READS IS OF BULK AT MOST 1048576: true; the input reads as it did. -/
def fnExactNextTierUptoRow : OpenClaim := { program := "ytfiapefkomolmaa", sum := "6f55c7543dc60c1523e0d7cb94f533961f0d47cb703b03245c4c9529dbff3ec2", func := "loop.example/g01050/laws.FnExactNextTier", spec := "fnExactNextTier", apart := false, narrowed := true }
def FnExactNextTierUptoSaid : Prop := fnExactNextTierUptoRow.holds Try.pinned (OpenSpec.upto fnExactNextTierSpec)

/-- 'laws.FnExactDiscountOf', WHERE WHAT IT READS IS OF BULK AT MOST 1048576: true; the input reads as it did. -/
def fnExactDiscountOfUptoRow : OpenClaim := { program := "ytfiapefkomolmaa", sum := "6f55c7543dc60c1523e0d7cb94f533961f0d47cb703b03245c4c9529dbff3ec2", func := "loop.example/g01050/laws.FnExactDiscountOf", spec := "fnExactDiscountOf", apart := false, narrowed := true }
def FnExactDiscountOfUptoSaid : Prop := fnExactDiscountOfUptoRow.holds Try.pinned (OpenSpec.upto fnExactDiscountOfSpec)

/-- 'laws.FnExactTotalOf', WHERE WHAT IT READS IS OF BULK AT MOST 1048576: true; the input reads as it did. -/
def fnExactTotalOfUptoRow : OpenClaim := { program := "ytfiapefkomolmaa", sum := "6f55c7543dc60c1523e0d7cb94f533961f0d47cb703b03245c4c9529dbff3ec2", func := "loop.example/g01050/laws.FnExactTotalOf", spec := "fnExactTotalOf", apart := false, narrowed := true }
def FnExactTotalOfUptoSaid : Prop := fnExactTotalOfUptoRow.holds Try.pinned (OpenSpec.upto fnExactTotalOfSpec)

/-- 'laws.FnItemTexts', WHERE WHAT IT READS IS OF BULK AT MOST 1048576: true; the input reads as it did. -/
def fnItemTextsUptoRow : OpenClaim := { program := "ytfiapefkomolmaa", sum := "6f55c7543dc60c1523e0d7cb94f533961f0d47cb703b03245c4c9529dbff3ec2", func := "loop.example/g01050/laws.FnItemTexts", spec := "fnItemTexts", recurses := true, apart := false, narrowed := true }
def FnItemTextsUptoSaid : Prop := fnItemTextsUptoRow.holds Try.pinned (OpenSpec.upto fnItemTextsSpec)

/-- 'laws.FnBills', WHERE WHAT IT READS IS OF BULK AT MOST 1048576: true; the input reads as it did. -/
def fnBillsUptoRow : OpenClaim := { program := "ytfiapefkomolmaa", sum := "6f55c7543dc60c1523e0d7cb94f533961f0d47cb703b03245c4c9529dbff3ec2", func := "loop.example/g01050/laws.FnBills", spec := "fnBills", apart := false, narrowed := true }
def FnBillsUptoSaid : Prop := fnBillsUptoRow.holds Try.pinned (OpenSpec.upto fnBillsSpec)

end Rows
end Go.Proofs.Ytfiapefkomolmaa
