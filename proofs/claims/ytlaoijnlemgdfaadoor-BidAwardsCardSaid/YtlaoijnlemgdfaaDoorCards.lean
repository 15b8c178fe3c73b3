/-
  DERIVED. GIVEN WITH THE SEED: THE CARDS: each row of YtlaoijnlemgdfaaDoorRows.lean that lists a variable, with what it lists TIED to the program's text (the seventh form; the later family's looks); each row that meets fmt, with fmt's text TOLD by the authors' own Lean function (tested against real Go, not proved from fmt's source: count such statements apart). THE CARD IS WHAT COUNTS. Prove the row's statement (the work); the ties are given (YtlaoijnlemgdfaaDoorTie.lean); close each card by the builder's one call (the guide's Derived/Test/ToyasCard.lean, 'card_holds'). Laid BY PROGRAM, IN A SANDBOX (cutbox-door.mjs). By AI agents, Wed Nov 11 2026. No macro, syntax, notation, axiom, sorry.
-/
import Derived.Test.YtlaoijnlemgdfaaDoorRows
import GoSem.ClaimSeven
namespace Go.Proofs.YtlaoijnlemgdfaaDoor
namespace Rows

/-- THE TIED CARD OF 'moneyerlaw7.VowTells'. -/
def vowTellsCard : Claim7 := { stood := { row := vowTellsRow, standIns := [], harness := (true, "35cd3b495d64cd78ddbcab06eadd1c7f7d8f987e60a3a7066f32f38af8333a5b"), looks := true }, kinds := [], alts := [], laidByText := true, laidKinds := [.data], laidTests := true, laidLooks := .later }
def VowTellsCardSaid : Prop := Claim7.holds Tryd.pinned (.plain (OpenSpec.ofChange vowTellsSpec)) vowTellsCard

/-- THE TIED CARD OF 'moneyerlaw7.VowBinds'. -/
def vowBindsCard : Claim7 := { stood := { row := vowBindsRow, standIns := [], harness := (true, "35cd3b495d64cd78ddbcab06eadd1c7f7d8f987e60a3a7066f32f38af8333a5b"), looks := true }, kinds := [], alts := [], laidByText := true, laidKinds := [.data], laidTests := true, laidLooks := .later }
def VowBindsCardSaid : Prop := Claim7.holds Tryd.pinned (.plain (OpenSpec.ofChange vowBindsSpec)) vowBindsCard

/-- THE TIED CARD OF 'moneyerlaw7.LotOrders'. -/
def lotOrdersCard : Claim7 := { stood := { row := lotOrdersRow, standIns := [], harness := (true, "35cd3b495d64cd78ddbcab06eadd1c7f7d8f987e60a3a7066f32f38af8333a5b"), looks := true }, kinds := [], alts := [], laidByText := true, laidKinds := [.data, .handle], laidTests := true, laidLooks := .later }
def LotOrdersCardSaid : Prop := Claim7.holds Tryd.pinned (.plain (OpenSpec.ofChange lotOrdersSpec)) lotOrdersCard

/-- THE TIED CARD OF 'moneyerlaw7.LotTells'. -/
def lotTellsCard : Claim7 := { stood := { row := lotTellsRow, standIns := [], harness := (true, "35cd3b495d64cd78ddbcab06eadd1c7f7d8f987e60a3a7066f32f38af8333a5b"), looks := true }, kinds := [], alts := [], laidByText := true, laidKinds := [.data, .handle], laidTests := true, laidLooks := .later }
def LotTellsCardSaid : Prop := Claim7.holds Tryd.pinned (.plain (OpenSpec.ofChange lotTellsSpec)) lotTellsCard

/-- THE TIED CARD OF 'moneyerlaw7.BidTruth'. -/
def bidTruthCard : Claim7 := { stood := { row := bidTruthRow, standIns := [], harness := (true, "35cd3b495d64cd78ddbcab06eadd1c7f7d8f987e60a3a7066f32f38af8333a5b"), looks := true }, kinds := [], alts := [], laidByText := true, laidKinds := [.data], laidTests := true, laidLooks := .later }
def BidTruthCardSaid : Prop := Claim7.holds Tryd.pinned (.plain (OpenSpec.ofChange bidTruthSpec)) bidTruthCard

/-- THE TIED CARD OF 'moneyerlaw7.BidPaid'. -/
def bidPaidCard : Claim7 := { stood := { row := bidPaidRow, standIns := [], harness := (true, "35cd3b495d64cd78ddbcab06eadd1c7f7d8f987e60a3a7066f32f38af8333a5b"), looks := true }, kinds := [], alts := [], laidByText := true, laidKinds := [.data], laidTests := true, laidLooks := .later }
def BidPaidCardSaid : Prop := Claim7.holds Tryd.pinned (.plain (OpenSpec.ofChange bidPaidSpec)) bidPaidCard

/-- THE TIED CARD OF 'moneyerlaw7.BidAwards'. -/
def bidAwardsCard : Claim7 := { stood := { row := bidAwardsRow, standIns := [], harness := (true, "35cd3b495d64cd78ddbcab06eadd1c7f7d8f987e60a3a7066f32f38af8333a5b"), looks := true }, kinds := [], alts := [], laidByText := true, laidKinds := [.data, .handle], laidTests := true, laidLooks := .later }
def BidAwardsCardSaid : Prop := Claim7.holds Tryd.pinned (.plain (OpenSpec.ofChange bidAwardsSpec)) bidAwardsCard

/-- THE TIED CARD OF 'moneyerlaw7.BidOrder'. -/
def bidOrderCard : Claim7 := { stood := { row := bidOrderRow, standIns := [], harness := (true, "35cd3b495d64cd78ddbcab06eadd1c7f7d8f987e60a3a7066f32f38af8333a5b"), looks := true }, kinds := [], alts := [], laidByText := true, laidKinds := [.data, .handle], laidTests := true, laidLooks := .later }
def BidOrderCardSaid : Prop := Claim7.holds Tryd.pinned (.plain (OpenSpec.ofChange bidOrderSpec)) bidOrderCard

/-- THE SECOND FORM's CARD OF 'moneyerlaw7.VowTells'. -/
def vowTellsUptoCard : Claim7 := { stood := { row := vowTellsUptoRow, standIns := [], harness := (true, "35cd3b495d64cd78ddbcab06eadd1c7f7d8f987e60a3a7066f32f38af8333a5b"), looks := true }, kinds := [], alts := [], laidByText := true, laidKinds := [.data], laidTests := true, laidLooks := .later }
def VowTellsUptoCardSaid : Prop := Claim7.holds Tryd.pinned (.plain (OpenSpec.upto vowTellsSpec)) vowTellsUptoCard

/-- THE SECOND FORM's CARD OF 'moneyerlaw7.VowBinds'. -/
def vowBindsUptoCard : Claim7 := { stood := { row := vowBindsUptoRow, standIns := [], harness := (true, "35cd3b495d64cd78ddbcab06eadd1c7f7d8f987e60a3a7066f32f38af8333a5b"), looks := true }, kinds := [], alts := [], laidByText := true, laidKinds := [.data], laidTests := true, laidLooks := .later }
def VowBindsUptoCardSaid : Prop := Claim7.holds Tryd.pinned (.plain (OpenSpec.upto vowBindsSpec)) vowBindsUptoCard

/-- THE SECOND FORM's CARD OF 'moneyerlaw7.LotOrders'. -/
def lotOrdersUptoCard : Claim7 := { stood := { row := lotOrdersUptoRow, standIns := [], harness := (true, "35cd3b495d64cd78ddbcab06eadd1c7f7d8f987e60a3a7066f32f38af8333a5b"), looks := true }, kinds := [], alts := [], laidByText := true, laidKinds := [.data, .handle], laidTests := true, laidLooks := .later }
def LotOrdersUptoCardSaid : Prop := Claim7.holds Tryd.pinned (.plain (OpenSpec.upto lotOrdersSpec)) lotOrdersUptoCard

/-- THE SECOND FORM's CARD OF 'moneyerlaw7.LotTells'. -/
def lotTellsUptoCard : Claim7 := { stood := { row := lotTellsUptoRow, standIns := [], harness := (true, "35cd3b495d64cd78ddbcab06eadd1c7f7d8f987e60a3a7066f32f38af8333a5b"), looks := true }, kinds := [], alts := [], laidByText := true, laidKinds := [.data, .handle], laidTests := true, laidLooks := .later }
def LotTellsUptoCardSaid : Prop := Claim7.holds Tryd.pinned (.plain (OpenSpec.upto lotTellsSpec)) lotTellsUptoCard

/-- THE SECOND FORM's CARD OF 'moneyerlaw7.BidTruth'. -/
def bidTruthUptoCard : Claim7 := { stood := { row := bidTruthUptoRow, standIns := [], harness := (true, "35cd3b495d64cd78ddbcab06eadd1c7f7d8f987e60a3a7066f32f38af8333a5b"), looks := true }, kinds := [], alts := [], laidByText := true, laidKinds := [.data], laidTests := true, laidLooks := .later }
def BidTruthUptoCardSaid : Prop := Claim7.holds Tryd.pinned (.plain (OpenSpec.upto bidTruthSpec)) bidTruthUptoCard

/-- THE SECOND FORM's CARD OF 'moneyerlaw7.BidPaid'. -/
def bidPaidUptoCard : Claim7 := { stood := { row := bidPaidUptoRow, standIns := [], harness := (true, "35cd3b495d64cd78ddbcab06eadd1c7f7d8f987e60a3a7066f32f38af8333a5b"), looks := true }, kinds := [], alts := [], laidByText := true, laidKinds := [.data], laidTests := true, laidLooks := .later }
def BidPaidUptoCardSaid : Prop := Claim7.holds Tryd.pinned (.plain (OpenSpec.upto bidPaidSpec)) bidPaidUptoCard

/-- THE SECOND FORM's CARD OF 'moneyerlaw7.BidAwards'. -/
def bidAwardsUptoCard : Claim7 := { stood := { row := bidAwardsUptoRow, standIns := [], harness := (true, "35cd3b495d64cd78ddbcab06eadd1c7f7d8f987e60a3a7066f32f38af8333a5b"), looks := true }, kinds := [], alts := [], laidByText := true, laidKinds := [.data, .handle], laidTests := true, laidLooks := .later }
def BidAwardsUptoCardSaid : Prop := Claim7.holds Tryd.pinned (.plain (OpenSpec.upto bidAwardsSpec)) bidAwardsUptoCard

/-- THE SECOND FORM's CARD OF 'moneyerlaw7.BidOrder'. -/
def bidOrderUptoCard : Claim7 := { stood := { row := bidOrderUptoRow, standIns := [], harness := (true, "35cd3b495d64cd78ddbcab06eadd1c7f7d8f987e60a3a7066f32f38af8333a5b"), looks := true }, kinds := [], alts := [], laidByText := true, laidKinds := [.data, .handle], laidTests := true, laidLooks := .later }
def BidOrderUptoCardSaid : Prop := Claim7.holds Tryd.pinned (.plain (OpenSpec.upto bidOrderSpec)) bidOrderUptoCard
end Rows
end Go.Proofs.YtlaoijnlemgdfaaDoor
