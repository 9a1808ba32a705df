/-
  DERIVED. GIVEN WITH THE SEED: THE CARDS: each row of YtainmiigjiahfaaGreatDoorRows.lean that lists a variable, with what it lists TIED to the program's text (the seventh form; the later family's looks); each row that meets fmt, with fmt's text TOLD by the authors' own Lean function (tested against real Go, not proved from fmt's source: count such statements apart). THE CARD IS WHAT COUNTS. Prove the row's statement (the work); the ties are given (YtainmiigjiahfaaGreatDoorTie.lean); close each card by the builder's one call (the guide's Derived/Test/ToyasCard.lean, 'card_holds'). Laid BY PROGRAM, IN A SANDBOX (cutbox-door.mjs). By AI agents, Wed Nov 11 2026. No macro, syntax, notation, axiom, sorry.
-/
import Derived.Test.YtainmiigjiahfaaGreatDoorRows
import GoSem.ClaimSeven
namespace Go.Proofs.YtainmiigjiahfaaGreatDoor
namespace Rows

/-- THE TIED CARD OF 'catscradlelaw09.ShowErrors'. -/
def showErrorsCard : Claim7 := { stood := { row := showErrorsRow, standIns := [], harness := (true, "ed6f5672935086441788c15fdde10ad3b7db0d62cf2c8d47e5eaa7637f8904b5"), looks := false }, kinds := [], alts := [], laidByText := true, laidKinds := [.data, .data, .data], laidTests := true, laidLooks := .later }
def ShowErrorsCardSaid : Prop := Claim7.holds Tryz.pinned (.plain (OpenSpec.ofChange showErrorsSpec)) showErrorsCard

/-- THE SECOND FORM's CARD OF 'catscradlelaw09.ShowErrors'. -/
def showErrorsUptoCard : Claim7 := { stood := { row := showErrorsUptoRow, standIns := [], harness := (true, "ed6f5672935086441788c15fdde10ad3b7db0d62cf2c8d47e5eaa7637f8904b5"), looks := false }, kinds := [], alts := [], laidByText := true, laidKinds := [.data, .data, .data], laidTests := true, laidLooks := .later }
def ShowErrorsUptoCardSaid : Prop := Claim7.holds Tryz.pinned (.plain (OpenSpec.upto showErrorsSpec)) showErrorsUptoCard
end Rows
end Go.Proofs.YtainmiigjiahfaaGreatDoor
