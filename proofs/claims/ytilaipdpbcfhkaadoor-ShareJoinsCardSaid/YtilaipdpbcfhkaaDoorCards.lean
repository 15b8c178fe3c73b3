/-
  DERIVED. GIVEN WITH THE SEED: THE CARDS: each row of YtilaipdpbcfhkaaDoorRows.lean that lists a variable, with what it lists TIED to the program's text (the seventh form; the later family's looks); each row that meets fmt, with fmt's text TOLD by the authors' own Lean function (tested against real Go, not proved from fmt's source: count such statements apart). THE CARD IS WHAT COUNTS. Prove the row's statement (the work); the ties are given (YtilaipdpbcfhkaaDoorTie.lean); close each card by the builder's one call (the guide's Derived/Test/ToyasCard.lean, 'card_holds'). Laid BY PROGRAM, IN A SANDBOX (cutbox-door.mjs). By AI agents, Wed Nov 11 2026. No macro, syntax, notation, axiom, sorry.
-/
import Derived.Test.YtilaipdpbcfhkaaDoorRows
import GoSem.ClaimSeven
namespace Go.Proofs.YtilaipdpbcfhkaaDoor
namespace Rows

/-- THE TIED CARD OF 'moneyerlaw7.FieldTells'. -/
def fieldTellsCard : Claim7 := { stood := { row := fieldTellsRow, standIns := [], harness := (true, "6df018b203caee62fe051acac010d8929cb676ed1b6f537ce1f808046e4d4523"), looks := true }, kinds := [], alts := [], laidByText := true, laidKinds := [.handle], laidTests := true, laidLooks := .later }
def FieldTellsCardSaid : Prop := Claim7.holds Tryd.pinned (.plain (OpenSpec.ofChange fieldTellsSpec)) fieldTellsCard

/-- THE TIED CARD OF 'moneyerlaw7.ShareTells'. -/
def shareTellsCard : Claim7 := { stood := { row := shareTellsRow, standIns := [], harness := (true, "6df018b203caee62fe051acac010d8929cb676ed1b6f537ce1f808046e4d4523"), looks := true }, kinds := [], alts := [], laidByText := true, laidKinds := [.handle], laidTests := true, laidLooks := .later }
def ShareTellsCardSaid : Prop := Claim7.holds Tryd.pinned (.plain (OpenSpec.ofChange shareTellsSpec)) shareTellsCard

/-- THE TIED CARD OF 'moneyerlaw7.ShareJoins'. -/
def shareJoinsCard : Claim7 := { stood := { row := shareJoinsRow, standIns := [], harness := (true, "6df018b203caee62fe051acac010d8929cb676ed1b6f537ce1f808046e4d4523"), looks := true }, kinds := [], alts := [], laidByText := true, laidKinds := [.handle], laidTests := true, laidLooks := .later }
def ShareJoinsCardSaid : Prop := Claim7.holds Tryd.pinned (.plain (OpenSpec.ofChange shareJoinsSpec)) shareJoinsCard

/-- THE SECOND FORM's CARD OF 'moneyerlaw7.FieldTells'. -/
def fieldTellsUptoCard : Claim7 := { stood := { row := fieldTellsUptoRow, standIns := [], harness := (true, "6df018b203caee62fe051acac010d8929cb676ed1b6f537ce1f808046e4d4523"), looks := true }, kinds := [], alts := [], laidByText := true, laidKinds := [.handle], laidTests := true, laidLooks := .later }
def FieldTellsUptoCardSaid : Prop := Claim7.holds Tryd.pinned (.plain (OpenSpec.upto fieldTellsSpec)) fieldTellsUptoCard

/-- THE SECOND FORM's CARD OF 'moneyerlaw7.ShareTells'. -/
def shareTellsUptoCard : Claim7 := { stood := { row := shareTellsUptoRow, standIns := [], harness := (true, "6df018b203caee62fe051acac010d8929cb676ed1b6f537ce1f808046e4d4523"), looks := true }, kinds := [], alts := [], laidByText := true, laidKinds := [.handle], laidTests := true, laidLooks := .later }
def ShareTellsUptoCardSaid : Prop := Claim7.holds Tryd.pinned (.plain (OpenSpec.upto shareTellsSpec)) shareTellsUptoCard

/-- THE SECOND FORM's CARD OF 'moneyerlaw7.ShareJoins'. -/
def shareJoinsUptoCard : Claim7 := { stood := { row := shareJoinsUptoRow, standIns := [], harness := (true, "6df018b203caee62fe051acac010d8929cb676ed1b6f537ce1f808046e4d4523"), looks := true }, kinds := [], alts := [], laidByText := true, laidKinds := [.handle], laidTests := true, laidLooks := .later }
def ShareJoinsUptoCardSaid : Prop := Claim7.holds Tryd.pinned (.plain (OpenSpec.upto shareJoinsSpec)) shareJoinsUptoCard
end Rows
end Go.Proofs.YtilaipdpbcfhkaaDoor
