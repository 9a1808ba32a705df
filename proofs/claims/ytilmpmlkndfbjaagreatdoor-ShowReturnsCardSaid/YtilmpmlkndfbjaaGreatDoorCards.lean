/-
  DERIVED. GIVEN WITH THE SEED: THE CARDS: each row of YtilmpmlkndfbjaaGreatDoorRows.lean that lists a variable, with what it lists TIED to the program's text (the seventh form; the later family's looks); each row that meets fmt, with fmt's text TOLD by the authors' own Lean function (tested against real Go, not proved from fmt's source: count such statements apart). THE CARD IS WHAT COUNTS. Prove the row's statement (the work); the ties are given (YtilmpmlkndfbjaaGreatDoorTie.lean); close each card by the builder's one call (the guide's Derived/Test/ToyasCard.lean, 'card_holds'). Laid BY PROGRAM, IN A SANDBOX (cutbox-door.mjs). By AI agents, Wed Nov 11 2026. No macro, syntax, notation, axiom, sorry.
-/
import Derived.Test.YtilmpmlkndfbjaaGreatDoorRows
import GoSem.ClaimSeven
namespace Go.Proofs.YtilmpmlkndfbjaaGreatDoor
namespace Rows

/-- THE TIED CARD OF 'catscradlelaw09.ShowReads'. -/
def showReadsCard : Claim7 := { stood := { row := showReadsRow, standIns := [], harness := (true, "71353fbaef47a002fd54a3e6607677225d59a1762755378bbcf7d1d59d783aa2"), looks := false }, kinds := [], alts := [], laidByText := true, laidKinds := [.data, .data, .data], laidTests := true, laidLooks := .later }
def ShowReadsCardSaid : Prop := Claim7.holds Tryz.pinned (.plain (OpenSpec.ofChange showReadsSpec)) showReadsCard

/-- THE TIED CARD OF 'catscradlelaw09.ShowReturns'. -/
def showReturnsCard : Claim7 := { stood := { row := showReturnsRow, standIns := [], harness := (true, "71353fbaef47a002fd54a3e6607677225d59a1762755378bbcf7d1d59d783aa2"), looks := false }, kinds := [], alts := [], laidByText := true, laidKinds := [.data, .data, .data], laidTests := true, laidLooks := .later }
def ShowReturnsCardSaid : Prop := Claim7.holds Tryz.pinned (.plain (OpenSpec.ofChange showReturnsSpec)) showReturnsCard

/-- THE TIED CARD OF 'catscradlelaw09.ShowSame'. -/
def showSameCard : Claim7 := { stood := { row := showSameRow, standIns := [], harness := (true, "71353fbaef47a002fd54a3e6607677225d59a1762755378bbcf7d1d59d783aa2"), looks := false }, kinds := [], alts := [], laidByText := true, laidKinds := [.data, .data, .data], laidTests := true, laidLooks := .later }
def ShowSameCardSaid : Prop := Claim7.holds Tryz.pinned (.plain (OpenSpec.ofChange showSameSpec)) showSameCard

/-- THE TIED CARD OF 'catscradlelaw09.ShowGrids'. -/
def showGridsCard : Claim7 := { stood := { row := showGridsRow, standIns := [], harness := (true, "71353fbaef47a002fd54a3e6607677225d59a1762755378bbcf7d1d59d783aa2"), looks := false }, kinds := [], alts := [], laidByText := true, laidKinds := [.data, .data, .data], laidTests := true, laidLooks := .later }
def ShowGridsCardSaid : Prop := Claim7.holds Tryz.pinned (.plain (OpenSpec.ofChange showGridsSpec)) showGridsCard

/-- THE SECOND FORM's CARD OF 'catscradlelaw09.ShowReads'. -/
def showReadsUptoCard : Claim7 := { stood := { row := showReadsUptoRow, standIns := [], harness := (true, "71353fbaef47a002fd54a3e6607677225d59a1762755378bbcf7d1d59d783aa2"), looks := false }, kinds := [], alts := [], laidByText := true, laidKinds := [.data, .data, .data], laidTests := true, laidLooks := .later }
def ShowReadsUptoCardSaid : Prop := Claim7.holds Tryz.pinned (.plain (OpenSpec.upto showReadsSpec)) showReadsUptoCard

/-- THE SECOND FORM's CARD OF 'catscradlelaw09.ShowReturns'. -/
def showReturnsUptoCard : Claim7 := { stood := { row := showReturnsUptoRow, standIns := [], harness := (true, "71353fbaef47a002fd54a3e6607677225d59a1762755378bbcf7d1d59d783aa2"), looks := false }, kinds := [], alts := [], laidByText := true, laidKinds := [.data, .data, .data], laidTests := true, laidLooks := .later }
def ShowReturnsUptoCardSaid : Prop := Claim7.holds Tryz.pinned (.plain (OpenSpec.upto showReturnsSpec)) showReturnsUptoCard

/-- THE SECOND FORM's CARD OF 'catscradlelaw09.ShowSame'. -/
def showSameUptoCard : Claim7 := { stood := { row := showSameUptoRow, standIns := [], harness := (true, "71353fbaef47a002fd54a3e6607677225d59a1762755378bbcf7d1d59d783aa2"), looks := false }, kinds := [], alts := [], laidByText := true, laidKinds := [.data, .data, .data], laidTests := true, laidLooks := .later }
def ShowSameUptoCardSaid : Prop := Claim7.holds Tryz.pinned (.plain (OpenSpec.upto showSameSpec)) showSameUptoCard

/-- THE SECOND FORM's CARD OF 'catscradlelaw09.ShowGrids'. -/
def showGridsUptoCard : Claim7 := { stood := { row := showGridsUptoRow, standIns := [], harness := (true, "71353fbaef47a002fd54a3e6607677225d59a1762755378bbcf7d1d59d783aa2"), looks := false }, kinds := [], alts := [], laidByText := true, laidKinds := [.data, .data, .data], laidTests := true, laidLooks := .later }
def ShowGridsUptoCardSaid : Prop := Claim7.holds Tryz.pinned (.plain (OpenSpec.upto showGridsSpec)) showGridsUptoCard
end Rows
end Go.Proofs.YtilmpmlkndfbjaaGreatDoor
