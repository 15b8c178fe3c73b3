/-
  No cell of these rows narrows 'for every input' (looked for: loops, veiled, ifaces, maps, wideKeys, modest, calm, conditions, laid).
  DERIVED. THE GIVEN ROWS OF THIS SEAT. 7 by the template 'for every input the law returns true; each argument reads behind the call as it read before'; 0 by the template 'total and deterministic' (their statements: YtopddinpmiefjaaTotals.lean).
  GIVEN WITH THE SEED: the statements are not yours to turn. If you find one false, say at which input.
  Laid BY PROGRAM, IN A SANDBOX (cutbox-rows.mjs): the forced cells as the released guide's own fill.sh prints them over the translation 0acae0d13bfe77de… (all of the seat's roots in one cut). By AI agents, Wed Nov 11 2026. No macro, syntax, notation, axiom, sorry.
-/
import Derived.Test.YtopddinpmiefjaaChecked
import GoSem.Claim
import GoSem.ClaimJoined
import GoSem.ClaimMapViews
import Derived.JoinedTies
import Derived.KernelRfl
namespace Go.Proofs.Ytopddinpmiefjaa
/- THE CELL 'sum', in the pinned program and in every row, IS THE sha256 OF THE DUMP (.gsa) THAT YtopddinpmiefjaaProg.lean LOADS. Nothing in Lean hashes anything: it is a label: what it is worth is what the hold of that sum in a sandbox is worth. -/
noncomputable def Try.pinned : Pinned := { name := "ytopddinpmiefjaa", sum := "0acae0d13bfe77de8307a0b8c61e1cf4576e44bb6b1daeaa4ba484518a629b6d", checked := Try.checked }
namespace Rows
def none {H : Type} : Left H := { results := [], args := [] }

/-- 'moneyerlaw1.Names': WHATEVER THE INPUT: true; the input reads as it did. -/
def namesSpec : ChangeSpec := { name := "names", fn := fun _ => fun
  | [] => { results := [.lit (.bool true)], args := [] }
  | _ => none }
def namesRow : OpenClaim := { program := "ytopddinpmiefjaa", sum := "0acae0d13bfe77de8307a0b8c61e1cf4576e44bb6b1daeaa4ba484518a629b6d", func := "moneyer/moneyerlaw1.Names", spec := "names", apart := false }
def NamesSaid : Prop := namesRow.holds Try.pinned (OpenSpec.ofChange namesSpec)

/-- ITS FALSE NEIGHBOUR: 'it returns false'. Refute it at one input. -/
def namesWrong : ChangeSpec := { name := "names", fn := fun _ => fun
  | [] => { results := [.lit (.bool false)], args := [] }
  | _ => none }
def NamesWrongFalsely : Prop := namesRow.holds Try.pinned (OpenSpec.ofChange namesWrong)

/-- 'moneyerlaw1.KeyApart': WHATEVER THE INPUT: true; the input reads as it did. -/
def keyApartSpec : ChangeSpec := { name := "keyApart", fn := fun _ => fun
  | [d1, d2] => { results := [.lit (.bool true)], args := [d1, d2] }
  | _ => none }
def keyApartRow : OpenClaim := { program := "ytopddinpmiefjaa", sum := "0acae0d13bfe77de8307a0b8c61e1cf4576e44bb6b1daeaa4ba484518a629b6d", func := "moneyer/moneyerlaw1.KeyApart", spec := "keyApart", apart := false }
def KeyApartSaid : Prop := keyApartRow.holds Try.pinned (OpenSpec.ofChange keyApartSpec)

/-- ITS FALSE NEIGHBOUR: 'it returns false'. Refute it at one input. -/
def keyApartWrong : ChangeSpec := { name := "keyApart", fn := fun _ => fun
  | [d1, d2] => { results := [.lit (.bool false)], args := [d1, d2] }
  | _ => none }
def KeyApartWrongFalsely : Prop := keyApartRow.holds Try.pinned (OpenSpec.ofChange keyApartWrong)

/-- 'moneyerlaw1.MoneySums': WHATEVER THE INPUT: true; the input reads as it did. -/
def moneySumsSpec : ChangeSpec := { name := "moneySums", fn := fun _ => fun
  | [d1, d2] => { results := [.lit (.bool true)], args := [d1, d2] }
  | _ => none }
def moneySumsRow : OpenClaim := { program := "ytopddinpmiefjaa", sum := "0acae0d13bfe77de8307a0b8c61e1cf4576e44bb6b1daeaa4ba484518a629b6d", func := "moneyer/moneyerlaw1.MoneySums", spec := "moneySums", apart := false }
def MoneySumsSaid : Prop := moneySumsRow.holds Try.pinned (OpenSpec.ofChange moneySumsSpec)

/-- ITS FALSE NEIGHBOUR: 'it returns false'. Refute it at one input. -/
def moneySumsWrong : ChangeSpec := { name := "moneySums", fn := fun _ => fun
  | [d1, d2] => { results := [.lit (.bool false)], args := [d1, d2] }
  | _ => none }
def MoneySumsWrongFalsely : Prop := moneySumsRow.holds Try.pinned (OpenSpec.ofChange moneySumsWrong)

/-- 'moneyerlaw1.MoneyMade': WHATEVER THE INPUT: true; the input reads as it did. -/
def moneyMadeSpec : ChangeSpec := { name := "moneyMade", fn := fun _ => fun
  | [d] => { results := [.lit (.bool true)], args := [d] }
  | _ => none }
def moneyMadeRow : OpenClaim := { program := "ytopddinpmiefjaa", sum := "0acae0d13bfe77de8307a0b8c61e1cf4576e44bb6b1daeaa4ba484518a629b6d", func := "moneyer/moneyerlaw1.MoneyMade", spec := "moneyMade", apart := false }
def MoneyMadeSaid : Prop := moneyMadeRow.holds Try.pinned (OpenSpec.ofChange moneyMadeSpec)

/-- ITS FALSE NEIGHBOUR: 'it returns false'. Refute it at one input. -/
def moneyMadeWrong : ChangeSpec := { name := "moneyMade", fn := fun _ => fun
  | [d] => { results := [.lit (.bool false)], args := [d] }
  | _ => none }
def MoneyMadeWrongFalsely : Prop := moneyMadeRow.holds Try.pinned (OpenSpec.ofChange moneyMadeWrong)

/-- 'moneyerlaw1.SizeApart': WHATEVER THE INPUT: true; the input reads as it did. -/
def sizeApartSpec : ChangeSpec := { name := "sizeApart", fn := fun _ => fun
  | [d1, d2, d3, d4] => { results := [.lit (.bool true)], args := [d1, d2, d3, d4] }
  | _ => none }
def sizeApartRow : OpenClaim := { program := "ytopddinpmiefjaa", sum := "0acae0d13bfe77de8307a0b8c61e1cf4576e44bb6b1daeaa4ba484518a629b6d", func := "moneyer/moneyerlaw1.SizeApart", spec := "sizeApart", apart := false }
def SizeApartSaid : Prop := sizeApartRow.holds Try.pinned (OpenSpec.ofChange sizeApartSpec)

/-- ITS FALSE NEIGHBOUR: 'it returns false'. Refute it at one input. -/
def sizeApartWrong : ChangeSpec := { name := "sizeApart", fn := fun _ => fun
  | [d1, d2, d3, d4] => { results := [.lit (.bool false)], args := [d1, d2, d3, d4] }
  | _ => none }
def SizeApartWrongFalsely : Prop := sizeApartRow.holds Try.pinned (OpenSpec.ofChange sizeApartWrong)

/-- 'moneyerlaw1.SizeMany': WHATEVER THE INPUT: true; the input reads as it did. -/
def sizeManySpec : ChangeSpec := { name := "sizeMany", fn := fun _ => fun
  | [d] => { results := [.lit (.bool true)], args := [d] }
  | _ => none }
def sizeManyRow : OpenClaim := { program := "ytopddinpmiefjaa", sum := "0acae0d13bfe77de8307a0b8c61e1cf4576e44bb6b1daeaa4ba484518a629b6d", func := "moneyer/moneyerlaw1.SizeMany", spec := "sizeMany", apart := false }
def SizeManySaid : Prop := sizeManyRow.holds Try.pinned (OpenSpec.ofChange sizeManySpec)

/-- ITS FALSE NEIGHBOUR: 'it returns false'. Refute it at one input. -/
def sizeManyWrong : ChangeSpec := { name := "sizeMany", fn := fun _ => fun
  | [d] => { results := [.lit (.bool false)], args := [d] }
  | _ => none }
def SizeManyWrongFalsely : Prop := sizeManyRow.holds Try.pinned (OpenSpec.ofChange sizeManyWrong)

/-- 'moneyerlaw1.SizeBack': WHATEVER THE INPUT: true; the input reads as it did. -/
def sizeBackSpec : ChangeSpec := { name := "sizeBack", fn := fun _ => fun
  | [d1, d2, d3, d4] => { results := [.lit (.bool true)], args := [d1, d2, d3, d4] }
  | _ => none }
def sizeBackRow : OpenClaim := { program := "ytopddinpmiefjaa", sum := "0acae0d13bfe77de8307a0b8c61e1cf4576e44bb6b1daeaa4ba484518a629b6d", func := "moneyer/moneyerlaw1.SizeBack", spec := "sizeBack", apart := false }
def SizeBackSaid : Prop := sizeBackRow.holds Try.pinned (OpenSpec.ofChange sizeBackSpec)

/-- ITS FALSE NEIGHBOUR: 'it returns false'. Refute it at one input. -/
def sizeBackWrong : ChangeSpec := { name := "sizeBack", fn := fun _ => fun
  | [d1, d2, d3, d4] => { results := [.lit (.bool false)], args := [d1, d2, d3, d4] }
  | _ => none }
def SizeBackWrongFalsely : Prop := sizeBackRow.holds Try.pinned (OpenSpec.ofChange sizeBackWrong)

/- THE SECOND FORM. 'bulk': how many values and letters a reading holds, each counted each time it is reached (what is shared counts as often as it is met; a slice's spare places count too). A statement '..UptoSaid' is the law's where the arguments, and the package variables that the reading takes, are together of bulk at most 1048576: NARROWER than '..Said'. Prove '..Said' where nothing that the law and all that it calls make is longer than what came in: it says more and counts as full. Else prove '..UptoSaid'. A law counts once. -/
mutual
def uptoBulk {H : Type} : DataW H → Nat
  | .lit (.string bytes) => bytes.length + 1
  | .lit _ => 1
  | .nil => 1
  | .ptr d => uptoBulk d + 1
  | .slice elems spare => uptoBulkAll elems + uptoBulkAll spare + 1
  | .agg parts => uptoBulkAll parts + 1
  | .iface _ d => uptoBulk d + 1
  | .map entries => uptoBulkEntries entries + 1
  | .held _ => 1
def uptoBulkAll {H : Type} : List (DataW H) → Nat
  | [] => 0
  | d :: r => uptoBulk d + uptoBulkAll r
def uptoBulkEntries {H : Type} : List (Lit × DataW H) → Nat
  | [] => 0
  | x :: r => uptoBulkEntry x + uptoBulkEntries r
def uptoBulkEntry {H : Type} : Lit × DataW H → Nat
  | (.string bytes, d) => bytes.length + uptoBulk d + 1
  | (_, d) => uptoBulk d + 1
 end
def uptoSmall : (H : Type) → List (DataW H) → Bool := fun _ ds => decide (uptoBulkAll ds ≤ 1048576)
def OpenSpec.upto (s : _root_.Go.ChangeSpec) : _root_.Go.OpenSpec := { _root_.Go.OpenSpec.ofChange s with cond := some uptoSmall }

/-- 'moneyerlaw1.Names', WHERE WHAT IT READS IS OF BULK AT MOST 1048576: true; the input reads as it did. -/
def namesUptoRow : OpenClaim := { program := "ytopddinpmiefjaa", sum := "0acae0d13bfe77de8307a0b8c61e1cf4576e44bb6b1daeaa4ba484518a629b6d", func := "moneyer/moneyerlaw1.Names", spec := "names", apart := false, narrowed := true }
def NamesUptoSaid : Prop := namesUptoRow.holds Try.pinned (OpenSpec.upto namesSpec)

/-- 'moneyerlaw1.KeyApart', WHERE WHAT IT READS IS OF BULK AT MOST 1048576: true; the input reads as it did. -/
def keyApartUptoRow : OpenClaim := { program := "ytopddinpmiefjaa", sum := "0acae0d13bfe77de8307a0b8c61e1cf4576e44bb6b1daeaa4ba484518a629b6d", func := "moneyer/moneyerlaw1.KeyApart", spec := "keyApart", apart := false, narrowed := true }
def KeyApartUptoSaid : Prop := keyApartUptoRow.holds Try.pinned (OpenSpec.upto keyApartSpec)

/-- 'moneyerlaw1.MoneySums', WHERE WHAT IT READS IS OF BULK AT MOST 1048576: true; the input reads as it did. -/
def moneySumsUptoRow : OpenClaim := { program := "ytopddinpmiefjaa", sum := "0acae0d13bfe77de8307a0b8c61e1cf4576e44bb6b1daeaa4ba484518a629b6d", func := "moneyer/moneyerlaw1.MoneySums", spec := "moneySums", apart := false, narrowed := true }
def MoneySumsUptoSaid : Prop := moneySumsUptoRow.holds Try.pinned (OpenSpec.upto moneySumsSpec)

/-- 'moneyerlaw1.MoneyMade', WHERE WHAT IT READS IS OF BULK AT MOST 1048576: true; the input reads as it did. -/
def moneyMadeUptoRow : OpenClaim := { program := "ytopddinpmiefjaa", sum := "0acae0d13bfe77de8307a0b8c61e1cf4576e44bb6b1daeaa4ba484518a629b6d", func := "moneyer/moneyerlaw1.MoneyMade", spec := "moneyMade", apart := false, narrowed := true }
def MoneyMadeUptoSaid : Prop := moneyMadeUptoRow.holds Try.pinned (OpenSpec.upto moneyMadeSpec)

/-- 'moneyerlaw1.SizeApart', WHERE WHAT IT READS IS OF BULK AT MOST 1048576: true; the input reads as it did. -/
def sizeApartUptoRow : OpenClaim := { program := "ytopddinpmiefjaa", sum := "0acae0d13bfe77de8307a0b8c61e1cf4576e44bb6b1daeaa4ba484518a629b6d", func := "moneyer/moneyerlaw1.SizeApart", spec := "sizeApart", apart := false, narrowed := true }
def SizeApartUptoSaid : Prop := sizeApartUptoRow.holds Try.pinned (OpenSpec.upto sizeApartSpec)

/-- 'moneyerlaw1.SizeMany', WHERE WHAT IT READS IS OF BULK AT MOST 1048576: true; the input reads as it did. -/
def sizeManyUptoRow : OpenClaim := { program := "ytopddinpmiefjaa", sum := "0acae0d13bfe77de8307a0b8c61e1cf4576e44bb6b1daeaa4ba484518a629b6d", func := "moneyer/moneyerlaw1.SizeMany", spec := "sizeMany", apart := false, narrowed := true }
def SizeManyUptoSaid : Prop := sizeManyUptoRow.holds Try.pinned (OpenSpec.upto sizeManySpec)

/-- 'moneyerlaw1.SizeBack', WHERE WHAT IT READS IS OF BULK AT MOST 1048576: true; the input reads as it did. -/
def sizeBackUptoRow : OpenClaim := { program := "ytopddinpmiefjaa", sum := "0acae0d13bfe77de8307a0b8c61e1cf4576e44bb6b1daeaa4ba484518a629b6d", func := "moneyer/moneyerlaw1.SizeBack", spec := "sizeBack", apart := false, narrowed := true }
def SizeBackUptoSaid : Prop := sizeBackUptoRow.holds Try.pinned (OpenSpec.upto sizeBackSpec)

end Rows
end Go.Proofs.Ytopddinpmiefjaa
