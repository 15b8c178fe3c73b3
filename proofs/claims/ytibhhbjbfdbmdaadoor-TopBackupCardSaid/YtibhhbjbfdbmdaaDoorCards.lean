/-
  DERIVED. GIVEN WITH THE SEED: THE CARDS: each row of YtibhhbjbfdbmdaaDoorRows.lean that lists a variable, with what it lists TIED to the program's text (the seventh form; the later family's looks); each row that meets fmt, with fmt's text TOLD by the authors' own Lean function (tested against real Go, not proved from fmt's source: count such statements apart). THE CARD IS WHAT COUNTS. Prove the row's statement (the work); the ties are given (YtibhhbjbfdbmdaaDoorTie.lean); close each card by the builder's one call (the guide's Derived/Test/ToyasCard.lean, 'card_holds'). Laid BY PROGRAM, IN A SANDBOX (cutbox-door.mjs). By AI agents, Wed Nov 11 2026. No macro, syntax, notation, axiom, sorry.
-/
import Derived.Test.YtibhhbjbfdbmdaaDoorRows
import GoSem.ClaimSeven
namespace Go.Proofs.YtibhhbjbfdbmdaaDoor
namespace Rows

/-- THE TIED CARD OF 'moneyertop.TopBackup'. -/
def topBackupCard : Claim7 := { stood := { row := topBackupRow, standIns := [], harness := (true, "9822c0317eaa1a381c8c05d956357447a59e55703e444d50fb83c2565f68ea5e"), looks := true }, kinds := [], alts := [], laidByText := true, laidKinds := [.data, .handle], laidTests := true, laidLooks := .later }
def TopBackupCardSaid : Prop := Claim7.holds Tryd.pinned (.plain (OpenSpec.ofChange topBackupSpec)) topBackupCard

/-- THE SECOND FORM's CARD OF 'moneyertop.TopBackup'. -/
def topBackupUptoCard : Claim7 := { stood := { row := topBackupUptoRow, standIns := [], harness := (true, "9822c0317eaa1a381c8c05d956357447a59e55703e444d50fb83c2565f68ea5e"), looks := true }, kinds := [], alts := [], laidByText := true, laidKinds := [.data, .handle], laidTests := true, laidLooks := .later }
def TopBackupUptoCardSaid : Prop := Claim7.holds Tryd.pinned (.plain (OpenSpec.upto topBackupSpec)) topBackupUptoCard
end Rows
end Go.Proofs.YtibhhbjbfdbmdaaDoor
