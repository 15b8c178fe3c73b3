/-
  No cell of these rows narrows 'for every input' (looked for: loops, veiled, ifaces, maps, wideKeys, modest, calm, conditions, laid).
  DERIVED. THE GIVEN ROWS OF THIS SEAT. 6 by the template 'for every input the law returns true; each argument reads behind the call as it read before'; 0 by the template 'total and deterministic' (their statements: YtilaipdpbcfhkaaTotals.lean).
  GIVEN WITH THE SEED: the statements are not yours to turn. If you find one false, say at which input.
  Laid BY PROGRAM, IN A SANDBOX (cutbox-rows.mjs): the forced cells as the released guide's own fill.sh prints them over the translation 22ac2e5a306e1c77… (all of the seat's roots in one cut). By AI agents, Wed Nov 11 2026. No macro, syntax, notation, axiom, sorry.
-/
import Derived.Test.YtilaipdpbcfhkaaChecked
import GoSem.Claim
import GoSem.ClaimJoined
import GoSem.ClaimMapViews
import Derived.JoinedTies
import Derived.KernelRfl
namespace Go.Proofs.Ytilaipdpbcfhkaa
/- THE CELL 'sum', in the pinned program and in every row, IS THE sha256 OF THE DUMP (.gsa) THAT YtilaipdpbcfhkaaProg.lean LOADS. Nothing in Lean hashes anything: it is a label: what it is worth is what the hold of that sum in a sandbox is worth. -/
noncomputable def Try.pinned : Pinned := { name := "ytilaipdpbcfhkaa", sum := "22ac2e5a306e1c7741ba15ee619d258f66e9c4eb732f6850385881d782c76640", checked := Try.checked }
namespace Rows
def none {H : Type} : Left H := { results := [], args := [] }

/-- 'moneyerlaw7.LotFair': WHATEVER THE INPUT: true; the input reads as it did. -/
def lotFairSpec : ChangeSpec := { name := "lotFair", fn := fun _ => fun
  | [d1, d2, d3, d4] => { results := [.lit (.bool true)], args := [d1, d2, d3, d4] }
  | _ => none }
def lotFairRow : OpenClaim := { program := "ytilaipdpbcfhkaa", sum := "22ac2e5a306e1c7741ba15ee619d258f66e9c4eb732f6850385881d782c76640", func := "moneyer/moneyerlaw7.LotFair", spec := "lotFair", apart := false }
def LotFairSaid : Prop := lotFairRow.holds Try.pinned (OpenSpec.ofChange lotFairSpec)

/-- ITS FALSE NEIGHBOUR: 'it returns false'. Refute it at one input. -/
def lotFairWrong : ChangeSpec := { name := "lotFair", fn := fun _ => fun
  | [d1, d2, d3, d4] => { results := [.lit (.bool false)], args := [d1, d2, d3, d4] }
  | _ => none }
def LotFairWrongFalsely : Prop := lotFairRow.holds Try.pinned (OpenSpec.ofChange lotFairWrong)

/-- 'moneyerlaw7.FieldPowers': WHATEVER THE INPUT: true; the input reads as it did. -/
def fieldPowersSpec : ChangeSpec := { name := "fieldPowers", fn := fun _ => fun
  | [d1, d2, d3] => { results := [.lit (.bool true)], args := [d1, d2, d3] }
  | _ => none }
def fieldPowersRow : OpenClaim := { program := "ytilaipdpbcfhkaa", sum := "22ac2e5a306e1c7741ba15ee619d258f66e9c4eb732f6850385881d782c76640", func := "moneyer/moneyerlaw7.FieldPowers", spec := "fieldPowers", apart := false }
def FieldPowersSaid : Prop := fieldPowersRow.holds Try.pinned (OpenSpec.ofChange fieldPowersSpec)

/-- ITS FALSE NEIGHBOUR: 'it returns false'. Refute it at one input. -/
def fieldPowersWrong : ChangeSpec := { name := "fieldPowers", fn := fun _ => fun
  | [d1, d2, d3] => { results := [.lit (.bool false)], args := [d1, d2, d3] }
  | _ => none }
def FieldPowersWrongFalsely : Prop := fieldPowersRow.holds Try.pinned (OpenSpec.ofChange fieldPowersWrong)

/-- 'moneyerlaw7.FieldLaws': WHATEVER THE INPUT: true; the input reads as it did. -/
def fieldLawsSpec : ChangeSpec := { name := "fieldLaws", fn := fun _ => fun
  | [d1, d2, d3] => { results := [.lit (.bool true)], args := [d1, d2, d3] }
  | _ => none }
def fieldLawsRow : OpenClaim := { program := "ytilaipdpbcfhkaa", sum := "22ac2e5a306e1c7741ba15ee619d258f66e9c4eb732f6850385881d782c76640", func := "moneyer/moneyerlaw7.FieldLaws", spec := "fieldLaws", apart := false }
def FieldLawsSaid : Prop := fieldLawsRow.holds Try.pinned (OpenSpec.ofChange fieldLawsSpec)

/-- ITS FALSE NEIGHBOUR: 'it returns false'. Refute it at one input. -/
def fieldLawsWrong : ChangeSpec := { name := "fieldLaws", fn := fun _ => fun
  | [d1, d2, d3] => { results := [.lit (.bool false)], args := [d1, d2, d3] }
  | _ => none }
def FieldLawsWrongFalsely : Prop := fieldLawsRow.holds Try.pinned (OpenSpec.ofChange fieldLawsWrong)

/-- 'moneyerlaw7.ShareHides': WHATEVER THE INPUT: true; the input reads as it did. -/
def shareHidesSpec : ChangeSpec := { name := "shareHides", fn := fun _ => fun
  | [d1, d2] => { results := [.lit (.bool true)], args := [d1, d2] }
  | _ => none }
def shareHidesRow : OpenClaim := { program := "ytilaipdpbcfhkaa", sum := "22ac2e5a306e1c7741ba15ee619d258f66e9c4eb732f6850385881d782c76640", func := "moneyer/moneyerlaw7.ShareHides", spec := "shareHides", unfollowed := true, recurses := true, apart := false }
def ShareHidesSaid : Prop := shareHidesRow.holds Try.pinned (OpenSpec.ofChange shareHidesSpec)

/-- ITS FALSE NEIGHBOUR: 'it returns false'. Refute it at one input. -/
def shareHidesWrong : ChangeSpec := { name := "shareHides", fn := fun _ => fun
  | [d1, d2] => { results := [.lit (.bool false)], args := [d1, d2] }
  | _ => none }
def ShareHidesWrongFalsely : Prop := shareHidesRow.holds Try.pinned (OpenSpec.ofChange shareHidesWrong)

/-- 'moneyerlaw7.ShareEnough': WHATEVER THE INPUT: true; the input reads as it did. -/
def shareEnoughSpec : ChangeSpec := { name := "shareEnough", fn := fun _ => fun
  | [d1, d2, d3, d4] => { results := [.lit (.bool true)], args := [d1, d2, d3, d4] }
  | _ => none }
def shareEnoughRow : OpenClaim := { program := "ytilaipdpbcfhkaa", sum := "22ac2e5a306e1c7741ba15ee619d258f66e9c4eb732f6850385881d782c76640", func := "moneyer/moneyerlaw7.ShareEnough", spec := "shareEnough", unfollowed := true, recurses := true, apart := false }
def ShareEnoughSaid : Prop := shareEnoughRow.holds Try.pinned (OpenSpec.ofChange shareEnoughSpec)

/-- ITS FALSE NEIGHBOUR: 'it returns false'. Refute it at one input. -/
def shareEnoughWrong : ChangeSpec := { name := "shareEnough", fn := fun _ => fun
  | [d1, d2, d3, d4] => { results := [.lit (.bool false)], args := [d1, d2, d3, d4] }
  | _ => none }
def ShareEnoughWrongFalsely : Prop := shareEnoughRow.holds Try.pinned (OpenSpec.ofChange shareEnoughWrong)

/-- 'moneyerlaw7.ShareSums': WHATEVER THE INPUT: true; the input reads as it did. -/
def shareSumsSpec : ChangeSpec := { name := "shareSums", fn := fun _ => fun
  | [d1, d2, d3, d4, d5] => { results := [.lit (.bool true)], args := [d1, d2, d3, d4, d5] }
  | _ => none }
def shareSumsRow : OpenClaim := { program := "ytilaipdpbcfhkaa", sum := "22ac2e5a306e1c7741ba15ee619d258f66e9c4eb732f6850385881d782c76640", func := "moneyer/moneyerlaw7.ShareSums", spec := "shareSums", unfollowed := true, recurses := true, apart := false }
def ShareSumsSaid : Prop := shareSumsRow.holds Try.pinned (OpenSpec.ofChange shareSumsSpec)

/-- ITS FALSE NEIGHBOUR: 'it returns false'. Refute it at one input. -/
def shareSumsWrong : ChangeSpec := { name := "shareSums", fn := fun _ => fun
  | [d1, d2, d3, d4, d5] => { results := [.lit (.bool false)], args := [d1, d2, d3, d4, d5] }
  | _ => none }
def ShareSumsWrongFalsely : Prop := shareSumsRow.holds Try.pinned (OpenSpec.ofChange shareSumsWrong)

/- THE SECOND FORM. 'bulk': how many values and letters a reading holds, each counted each time it is reached (what is shared counts as often as it is met; a slice's spare places count too). A statement '..UptoSaid' is the law's where the arguments, and the package variables that the reading takes, are together of bulk at most 1048576: NARROWER than '..Said'. Prove '..Said' where nothing that the law and all that it calls make is longer than what came in: it says more and counts as full. Else prove '..UptoSaid'. A law counts once. -/
mutual
def uptoBulk {H : Type} : DataW H → Nat
  | .lit (.string bytes) => bytes.length + 1
  | .lit _ => 1
  | .nil => 1
  | .ptr d => uptoBulk d + 1
  | .slice elems spare => uptoBulkAll elems + uptoBulkAll spare + 1
  | .agg parts => uptoBulkAll parts + 1
  | .iface _ d => uptoBulk d + 1
  | .map entries => uptoBulkEntries entries + 1
  | .held _ => 1
def uptoBulkAll {H : Type} : List (DataW H) → Nat
  | [] => 0
  | d :: r => uptoBulk d + uptoBulkAll r
def uptoBulkEntries {H : Type} : List (Lit × DataW H) → Nat
  | [] => 0
  | x :: r => uptoBulkEntry x + uptoBulkEntries r
def uptoBulkEntry {H : Type} : Lit × DataW H → Nat
  | (.string bytes, d) => bytes.length + uptoBulk d + 1
  | (_, d) => uptoBulk d + 1
 end
def uptoSmall : (H : Type) → List (DataW H) → Bool := fun _ ds => decide (uptoBulkAll ds ≤ 1048576)
def OpenSpec.upto (s : _root_.Go.ChangeSpec) : _root_.Go.OpenSpec := { _root_.Go.OpenSpec.ofChange s with cond := some uptoSmall }

/-- 'moneyerlaw7.LotFair', WHERE WHAT IT READS IS OF BULK AT MOST 1048576: true; the input reads as it did. -/
def lotFairUptoRow : OpenClaim := { program := "ytilaipdpbcfhkaa", sum := "22ac2e5a306e1c7741ba15ee619d258f66e9c4eb732f6850385881d782c76640", func := "moneyer/moneyerlaw7.LotFair", spec := "lotFair", apart := false, narrowed := true }
def LotFairUptoSaid : Prop := lotFairUptoRow.holds Try.pinned (OpenSpec.upto lotFairSpec)

/-- 'moneyerlaw7.FieldPowers', WHERE WHAT IT READS IS OF BULK AT MOST 1048576: true; the input reads as it did. -/
def fieldPowersUptoRow : OpenClaim := { program := "ytilaipdpbcfhkaa", sum := "22ac2e5a306e1c7741ba15ee619d258f66e9c4eb732f6850385881d782c76640", func := "moneyer/moneyerlaw7.FieldPowers", spec := "fieldPowers", apart := false, narrowed := true }
def FieldPowersUptoSaid : Prop := fieldPowersUptoRow.holds Try.pinned (OpenSpec.upto fieldPowersSpec)

/-- 'moneyerlaw7.FieldLaws', WHERE WHAT IT READS IS OF BULK AT MOST 1048576: true; the input reads as it did. -/
def fieldLawsUptoRow : OpenClaim := { program := "ytilaipdpbcfhkaa", sum := "22ac2e5a306e1c7741ba15ee619d258f66e9c4eb732f6850385881d782c76640", func := "moneyer/moneyerlaw7.FieldLaws", spec := "fieldLaws", apart := false, narrowed := true }
def FieldLawsUptoSaid : Prop := fieldLawsUptoRow.holds Try.pinned (OpenSpec.upto fieldLawsSpec)

/-- 'moneyerlaw7.ShareHides', WHERE WHAT IT READS IS OF BULK AT MOST 1048576: true; the input reads as it did. -/
def shareHidesUptoRow : OpenClaim := { program := "ytilaipdpbcfhkaa", sum := "22ac2e5a306e1c7741ba15ee619d258f66e9c4eb732f6850385881d782c76640", func := "moneyer/moneyerlaw7.ShareHides", spec := "shareHides", unfollowed := true, recurses := true, apart := false, narrowed := true }
def ShareHidesUptoSaid : Prop := shareHidesUptoRow.holds Try.pinned (OpenSpec.upto shareHidesSpec)

/-- 'moneyerlaw7.ShareEnough', WHERE WHAT IT READS IS OF BULK AT MOST 1048576: true; the input reads as it did. -/
def shareEnoughUptoRow : OpenClaim := { program := "ytilaipdpbcfhkaa", sum := "22ac2e5a306e1c7741ba15ee619d258f66e9c4eb732f6850385881d782c76640", func := "moneyer/moneyerlaw7.ShareEnough", spec := "shareEnough", unfollowed := true, recurses := true, apart := false, narrowed := true }
def ShareEnoughUptoSaid : Prop := shareEnoughUptoRow.holds Try.pinned (OpenSpec.upto shareEnoughSpec)

/-- 'moneyerlaw7.ShareSums', WHERE WHAT IT READS IS OF BULK AT MOST 1048576: true; the input reads as it did. -/
def shareSumsUptoRow : OpenClaim := { program := "ytilaipdpbcfhkaa", sum := "22ac2e5a306e1c7741ba15ee619d258f66e9c4eb732f6850385881d782c76640", func := "moneyer/moneyerlaw7.ShareSums", spec := "shareSums", unfollowed := true, recurses := true, apart := false, narrowed := true }
def ShareSumsUptoSaid : Prop := shareSumsUptoRow.holds Try.pinned (OpenSpec.upto shareSumsSpec)

end Rows
end Go.Proofs.Ytilaipdpbcfhkaa
