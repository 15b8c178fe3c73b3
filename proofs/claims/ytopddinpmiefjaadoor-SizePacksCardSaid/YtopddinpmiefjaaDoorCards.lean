/-
  DERIVED. GIVEN WITH THE SEED: THE CARDS: each row of YtopddinpmiefjaaDoorRows.lean that lists a variable, with what it lists TIED to the program's text (the seventh form; the later family's looks); each row that meets fmt, with fmt's text TOLD by the authors' own Lean function (tested against real Go, not proved from fmt's source: count such statements apart). THE CARD IS WHAT COUNTS. Prove the row's statement (the work); the ties are given (YtopddinpmiefjaaDoorTie.lean); close each card by the builder's one call (the guide's Derived/Test/ToyasCard.lean, 'card_holds'). Laid BY PROGRAM, IN A SANDBOX (cutbox-door.mjs). By AI agents, Wed Nov 11 2026. No macro, syntax, notation, axiom, sorry.
-/
import Derived.Test.YtopddinpmiefjaaDoorRows
import GoSem.ClaimSeven
namespace Go.Proofs.YtopddinpmiefjaaDoor
namespace Rows

/-- THE TIED CARD OF 'moneyerlaw1.MoneyTells'. -/
def moneyTellsCard : Claim7 := { stood := { row := moneyTellsRow, standIns := [], harness := (true, "4f0c2d45a3d10d2093f49ce131f2c3a435a435016ed0226ad07d3867d7c6a962"), looks := true }, kinds := [], alts := [], laidByText := true, laidKinds := [.handle], laidTests := true, laidLooks := .later }
def MoneyTellsCardSaid : Prop := Claim7.holds Tryd.pinned (.plain (OpenSpec.ofChange moneyTellsSpec)) moneyTellsCard

/-- THE TIED CARD OF 'moneyerlaw1.SizeTells'. -/
def sizeTellsCard : Claim7 := { stood := { row := sizeTellsRow, standIns := [], harness := (true, "4f0c2d45a3d10d2093f49ce131f2c3a435a435016ed0226ad07d3867d7c6a962"), looks := true }, kinds := [], alts := [], laidByText := true, laidKinds := [.handle], laidTests := true, laidLooks := .later }
def SizeTellsCardSaid : Prop := Claim7.holds Tryd.pinned (.plain (OpenSpec.ofChange sizeTellsSpec)) sizeTellsCard

/-- THE TIED CARD OF 'moneyerlaw1.SizePacks'. -/
def sizePacksCard : Claim7 := { stood := { row := sizePacksRow, standIns := [], harness := (true, "4f0c2d45a3d10d2093f49ce131f2c3a435a435016ed0226ad07d3867d7c6a962"), looks := true }, kinds := [], alts := [], laidByText := true, laidKinds := [.handle], laidTests := true, laidLooks := .later }
def SizePacksCardSaid : Prop := Claim7.holds Tryd.pinned (.plain (OpenSpec.ofChange sizePacksSpec)) sizePacksCard

/-- THE SECOND FORM's CARD OF 'moneyerlaw1.MoneyTells'. -/
def moneyTellsUptoCard : Claim7 := { stood := { row := moneyTellsUptoRow, standIns := [], harness := (true, "4f0c2d45a3d10d2093f49ce131f2c3a435a435016ed0226ad07d3867d7c6a962"), looks := true }, kinds := [], alts := [], laidByText := true, laidKinds := [.handle], laidTests := true, laidLooks := .later }
def MoneyTellsUptoCardSaid : Prop := Claim7.holds Tryd.pinned (.plain (OpenSpec.upto moneyTellsSpec)) moneyTellsUptoCard

/-- THE SECOND FORM's CARD OF 'moneyerlaw1.SizeTells'. -/
def sizeTellsUptoCard : Claim7 := { stood := { row := sizeTellsUptoRow, standIns := [], harness := (true, "4f0c2d45a3d10d2093f49ce131f2c3a435a435016ed0226ad07d3867d7c6a962"), looks := true }, kinds := [], alts := [], laidByText := true, laidKinds := [.handle], laidTests := true, laidLooks := .later }
def SizeTellsUptoCardSaid : Prop := Claim7.holds Tryd.pinned (.plain (OpenSpec.upto sizeTellsSpec)) sizeTellsUptoCard

/-- THE SECOND FORM's CARD OF 'moneyerlaw1.SizePacks'. -/
def sizePacksUptoCard : Claim7 := { stood := { row := sizePacksUptoRow, standIns := [], harness := (true, "4f0c2d45a3d10d2093f49ce131f2c3a435a435016ed0226ad07d3867d7c6a962"), looks := true }, kinds := [], alts := [], laidByText := true, laidKinds := [.handle], laidTests := true, laidLooks := .later }
def SizePacksUptoCardSaid : Prop := Claim7.holds Tryd.pinned (.plain (OpenSpec.upto sizePacksSpec)) sizePacksUptoCard
end Rows
end Go.Proofs.YtopddinpmiefjaaDoor
