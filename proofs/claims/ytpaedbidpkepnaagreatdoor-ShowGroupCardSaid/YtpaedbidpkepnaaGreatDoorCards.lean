/-
  DERIVED. GIVEN WITH THE SEED: THE CARDS: each row of YtpaedbidpkepnaaGreatDoorRows.lean that lists a variable, with what it lists TIED to the program's text (the seventh form; the later family's looks); each row that meets fmt, with fmt's text TOLD by the authors' own Lean function (tested against real Go, not proved from fmt's source: count such statements apart). THE CARD IS WHAT COUNTS. Prove the row's statement (the work); the ties are given (YtpaedbidpkepnaaGreatDoorTie.lean); close each card by the builder's one call (the guide's Derived/Test/ToyasCard.lean, 'card_holds'). Laid BY PROGRAM, IN A SANDBOX (cutbox-door.mjs). By AI agents, Wed Nov 11 2026. No macro, syntax, notation, axiom, sorry.
-/
import Derived.Test.YtpaedbidpkepnaaGreatDoorRows
import GoSem.ClaimSeven
namespace Go.Proofs.YtpaedbidpkepnaaGreatDoor
namespace Rows

/-- THE TIED CARD OF 'catscradlelaw09.ShowGroup'. -/
def showGroupCard : Claim7 := { stood := { row := showGroupRow, standIns := [], harness := (true, "7a251db666f547116da8e35752549d9e4dadafe9cd13d69a9a28dd8ef8eae710"), looks := false }, kinds := [], alts := [], laidByText := true, laidKinds := [.data, .data, .data], laidTests := true, laidLooks := .later }
def ShowGroupCardSaid : Prop := Claim7.holds Tryz.pinned (.plain (OpenSpec.ofChange showGroupSpec)) showGroupCard

/-- THE SECOND FORM's CARD OF 'catscradlelaw09.ShowGroup'. -/
def showGroupUptoCard : Claim7 := { stood := { row := showGroupUptoRow, standIns := [], harness := (true, "7a251db666f547116da8e35752549d9e4dadafe9cd13d69a9a28dd8ef8eae710"), looks := false }, kinds := [], alts := [], laidByText := true, laidKinds := [.data, .data, .data], laidTests := true, laidLooks := .later }
def ShowGroupUptoCardSaid : Prop := Claim7.holds Tryz.pinned (.plain (OpenSpec.upto showGroupSpec)) showGroupUptoCard
end Rows
end Go.Proofs.YtpaedbidpkepnaaGreatDoor
