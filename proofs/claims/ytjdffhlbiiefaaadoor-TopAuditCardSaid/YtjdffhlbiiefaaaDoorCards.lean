/-
  DERIVED. GIVEN WITH THE SEED: THE CARDS: each row of YtjdffhlbiiefaaaDoorRows.lean that lists a variable, with what it lists TIED to the program's text (the seventh form; the later family's looks); each row that meets fmt, with fmt's text TOLD by the authors' own Lean function (tested against real Go, not proved from fmt's source: count such statements apart). THE CARD IS WHAT COUNTS. Prove the row's statement (the work); the ties are given (YtjdffhlbiiefaaaDoorTie.lean); close each card by the builder's one call (the guide's Derived/Test/ToyasCard.lean, 'card_holds'). Laid BY PROGRAM, IN A SANDBOX (cutbox-door.mjs). By AI agents, Wed Nov 11 2026. No macro, syntax, notation, axiom, sorry.
-/
import Derived.Test.YtjdffhlbiiefaaaDoorRows
import GoSem.ClaimSeven
namespace Go.Proofs.YtjdffhlbiiefaaaDoor
namespace Rows

/-- THE TIED CARD OF 'moneyertop.TopAudit'. -/
def topAuditCard : Claim7 := { stood := { row := topAuditRow, standIns := [], harness := (true, "98d9e38dd21cf3afaa167807e88bcdcceb3e94309fe22bb98ab73753dafd2a8f"), looks := false }, kinds := [], alts := [], laidByText := true, laidKinds := [.data], laidTests := true, laidLooks := .later }
def TopAuditCardSaid : Prop := Claim7.holds Tryd.pinned (.plain (OpenSpec.ofChange topAuditSpec)) topAuditCard

/-- THE SECOND FORM's CARD OF 'moneyertop.TopAudit'. -/
def topAuditUptoCard : Claim7 := { stood := { row := topAuditUptoRow, standIns := [], harness := (true, "98d9e38dd21cf3afaa167807e88bcdcceb3e94309fe22bb98ab73753dafd2a8f"), looks := false }, kinds := [], alts := [], laidByText := true, laidKinds := [.data], laidTests := true, laidLooks := .later }
def TopAuditUptoCardSaid : Prop := Claim7.holds Tryd.pinned (.plain (OpenSpec.upto topAuditSpec)) topAuditUptoCard
end Rows
end Go.Proofs.YtjdffhlbiiefaaaDoor
