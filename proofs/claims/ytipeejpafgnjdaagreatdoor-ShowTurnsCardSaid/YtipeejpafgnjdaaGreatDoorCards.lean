/-
  DERIVED. GIVEN WITH THE SEED: THE CARDS: each row of YtipeejpafgnjdaaGreatDoorRows.lean that lists a variable, with what it lists TIED to the program's text (the seventh form; the later family's looks); each row that meets fmt, with fmt's text TOLD by the authors' own Lean function (tested against real Go, not proved from fmt's source: count such statements apart). THE CARD IS WHAT COUNTS. Prove the row's statement (the work); the ties are given (YtipeejpafgnjdaaGreatDoorTie.lean); close each card by the builder's one call (the guide's Derived/Test/ToyasCard.lean, 'card_holds'). Laid BY PROGRAM, IN A SANDBOX (cutbox-door.mjs). By AI agents, Wed Nov 11 2026. No macro, syntax, notation, axiom, sorry.
-/
import Derived.Test.YtipeejpafgnjdaaGreatDoorRows
import GoSem.ClaimSeven
namespace Go.Proofs.YtipeejpafgnjdaaGreatDoor
namespace Rows

/-- THE TIED CARD OF 'catscradlelaw09.ShowDraws'. -/
def showDrawsCard : Claim7 := { stood := { row := showDrawsRow, standIns := [], harness := (true, "e4bac6958e260c6b529418d771dc9f186dfe6975e37d3254e27cf43ce8eb6df4"), looks := false }, kinds := [], alts := [], laidByText := true, laidKinds := [.data, .data, .data], laidTests := true, laidLooks := .later }
def ShowDrawsCardSaid : Prop := Claim7.holds Tryz.pinned (.plain (OpenSpec.ofChange showDrawsSpec)) showDrawsCard

/-- THE TIED CARD OF 'catscradlelaw09.ShowImages'. -/
def showImagesCard : Claim7 := { stood := { row := showImagesRow, standIns := [], harness := (true, "e4bac6958e260c6b529418d771dc9f186dfe6975e37d3254e27cf43ce8eb6df4"), looks := false }, kinds := [], alts := [], laidByText := true, laidKinds := [.data, .data, .data], laidTests := true, laidLooks := .later }
def ShowImagesCardSaid : Prop := Claim7.holds Tryz.pinned (.plain (OpenSpec.ofChange showImagesSpec)) showImagesCard

/-- THE TIED CARD OF 'catscradlelaw09.ShowLeaves'. -/
def showLeavesCard : Claim7 := { stood := { row := showLeavesRow, standIns := [], harness := (true, "e4bac6958e260c6b529418d771dc9f186dfe6975e37d3254e27cf43ce8eb6df4"), looks := false }, kinds := [], alts := [], laidByText := true, laidKinds := [.data, .data, .data], laidTests := true, laidLooks := .later }
def ShowLeavesCardSaid : Prop := Claim7.holds Tryz.pinned (.plain (OpenSpec.ofChange showLeavesSpec)) showLeavesCard

/-- THE TIED CARD OF 'catscradlelaw09.ShowTurns'. -/
def showTurnsCard : Claim7 := { stood := { row := showTurnsRow, standIns := [], harness := (true, "e4bac6958e260c6b529418d771dc9f186dfe6975e37d3254e27cf43ce8eb6df4"), looks := false }, kinds := [], alts := [], laidByText := true, laidKinds := [.data, .data, .data], laidTests := true, laidLooks := .later }
def ShowTurnsCardSaid : Prop := Claim7.holds Tryz.pinned (.plain (OpenSpec.ofChange showTurnsSpec)) showTurnsCard

/-- THE TIED CARD OF 'catscradlelaw09.ShowEnters'. -/
def showEntersCard : Claim7 := { stood := { row := showEntersRow, standIns := [], harness := (true, "e4bac6958e260c6b529418d771dc9f186dfe6975e37d3254e27cf43ce8eb6df4"), looks := false }, kinds := [], alts := [], laidByText := true, laidKinds := [.data, .data, .data], laidTests := true, laidLooks := .later }
def ShowEntersCardSaid : Prop := Claim7.holds Tryz.pinned (.plain (OpenSpec.ofChange showEntersSpec)) showEntersCard

/-- THE TIED CARD OF 'catscradlelaw09.ShowVisits'. -/
def showVisitsCard : Claim7 := { stood := { row := showVisitsRow, standIns := [], harness := (true, "e4bac6958e260c6b529418d771dc9f186dfe6975e37d3254e27cf43ce8eb6df4"), looks := false }, kinds := [], alts := [], laidByText := true, laidKinds := [.data, .data, .data], laidTests := true, laidLooks := .later }
def ShowVisitsCardSaid : Prop := Claim7.holds Tryz.pinned (.plain (OpenSpec.ofChange showVisitsSpec)) showVisitsCard

/-- THE TIED CARD OF 'catscradlelaw09.ShowPolygons'. -/
def showPolygonsCard : Claim7 := { stood := { row := showPolygonsRow, standIns := [], harness := (true, "e4bac6958e260c6b529418d771dc9f186dfe6975e37d3254e27cf43ce8eb6df4"), looks := false }, kinds := [], alts := [], laidByText := true, laidKinds := [.data, .data, .data], laidTests := true, laidLooks := .later }
def ShowPolygonsCardSaid : Prop := Claim7.holds Tryz.pinned (.plain (OpenSpec.ofChange showPolygonsSpec)) showPolygonsCard

/-- THE TIED CARD OF 'catscradlelaw09.ShowCorners'. -/
def showCornersCard : Claim7 := { stood := { row := showCornersRow, standIns := [], harness := (true, "e4bac6958e260c6b529418d771dc9f186dfe6975e37d3254e27cf43ce8eb6df4"), looks := false }, kinds := [], alts := [], laidByText := true, laidKinds := [.data, .data, .data], laidTests := true, laidLooks := .later }
def ShowCornersCardSaid : Prop := Claim7.holds Tryz.pinned (.plain (OpenSpec.ofChange showCornersSpec)) showCornersCard

/-- THE TIED CARD OF 'catscradlelaw09.ShowErrors'. -/
def showErrorsCard : Claim7 := { stood := { row := showErrorsRow, standIns := [], harness := (true, "e4bac6958e260c6b529418d771dc9f186dfe6975e37d3254e27cf43ce8eb6df4"), looks := false }, kinds := [], alts := [], laidByText := true, laidKinds := [.data, .data, .data], laidTests := true, laidLooks := .later }
def ShowErrorsCardSaid : Prop := Claim7.holds Tryz.pinned (.plain (OpenSpec.ofChange showErrorsSpec)) showErrorsCard

/-- THE SECOND FORM's CARD OF 'catscradlelaw09.ShowDraws'. -/
def showDrawsUptoCard : Claim7 := { stood := { row := showDrawsUptoRow, standIns := [], harness := (true, "e4bac6958e260c6b529418d771dc9f186dfe6975e37d3254e27cf43ce8eb6df4"), looks := false }, kinds := [], alts := [], laidByText := true, laidKinds := [.data, .data, .data], laidTests := true, laidLooks := .later }
def ShowDrawsUptoCardSaid : Prop := Claim7.holds Tryz.pinned (.plain (OpenSpec.upto showDrawsSpec)) showDrawsUptoCard

/-- THE SECOND FORM's CARD OF 'catscradlelaw09.ShowImages'. -/
def showImagesUptoCard : Claim7 := { stood := { row := showImagesUptoRow, standIns := [], harness := (true, "e4bac6958e260c6b529418d771dc9f186dfe6975e37d3254e27cf43ce8eb6df4"), looks := false }, kinds := [], alts := [], laidByText := true, laidKinds := [.data, .data, .data], laidTests := true, laidLooks := .later }
def ShowImagesUptoCardSaid : Prop := Claim7.holds Tryz.pinned (.plain (OpenSpec.upto showImagesSpec)) showImagesUptoCard

/-- THE SECOND FORM's CARD OF 'catscradlelaw09.ShowLeaves'. -/
def showLeavesUptoCard : Claim7 := { stood := { row := showLeavesUptoRow, standIns := [], harness := (true, "e4bac6958e260c6b529418d771dc9f186dfe6975e37d3254e27cf43ce8eb6df4"), looks := false }, kinds := [], alts := [], laidByText := true, laidKinds := [.data, .data, .data], laidTests := true, laidLooks := .later }
def ShowLeavesUptoCardSaid : Prop := Claim7.holds Tryz.pinned (.plain (OpenSpec.upto showLeavesSpec)) showLeavesUptoCard

/-- THE SECOND FORM's CARD OF 'catscradlelaw09.ShowTurns'. -/
def showTurnsUptoCard : Claim7 := { stood := { row := showTurnsUptoRow, standIns := [], harness := (true, "e4bac6958e260c6b529418d771dc9f186dfe6975e37d3254e27cf43ce8eb6df4"), looks := false }, kinds := [], alts := [], laidByText := true, laidKinds := [.data, .data, .data], laidTests := true, laidLooks := .later }
def ShowTurnsUptoCardSaid : Prop := Claim7.holds Tryz.pinned (.plain (OpenSpec.upto showTurnsSpec)) showTurnsUptoCard

/-- THE SECOND FORM's CARD OF 'catscradlelaw09.ShowEnters'. -/
def showEntersUptoCard : Claim7 := { stood := { row := showEntersUptoRow, standIns := [], harness := (true, "e4bac6958e260c6b529418d771dc9f186dfe6975e37d3254e27cf43ce8eb6df4"), looks := false }, kinds := [], alts := [], laidByText := true, laidKinds := [.data, .data, .data], laidTests := true, laidLooks := .later }
def ShowEntersUptoCardSaid : Prop := Claim7.holds Tryz.pinned (.plain (OpenSpec.upto showEntersSpec)) showEntersUptoCard

/-- THE SECOND FORM's CARD OF 'catscradlelaw09.ShowVisits'. -/
def showVisitsUptoCard : Claim7 := { stood := { row := showVisitsUptoRow, standIns := [], harness := (true, "e4bac6958e260c6b529418d771dc9f186dfe6975e37d3254e27cf43ce8eb6df4"), looks := false }, kinds := [], alts := [], laidByText := true, laidKinds := [.data, .data, .data], laidTests := true, laidLooks := .later }
def ShowVisitsUptoCardSaid : Prop := Claim7.holds Tryz.pinned (.plain (OpenSpec.upto showVisitsSpec)) showVisitsUptoCard

/-- THE SECOND FORM's CARD OF 'catscradlelaw09.ShowPolygons'. -/
def showPolygonsUptoCard : Claim7 := { stood := { row := showPolygonsUptoRow, standIns := [], harness := (true, "e4bac6958e260c6b529418d771dc9f186dfe6975e37d3254e27cf43ce8eb6df4"), looks := false }, kinds := [], alts := [], laidByText := true, laidKinds := [.data, .data, .data], laidTests := true, laidLooks := .later }
def ShowPolygonsUptoCardSaid : Prop := Claim7.holds Tryz.pinned (.plain (OpenSpec.upto showPolygonsSpec)) showPolygonsUptoCard

/-- THE SECOND FORM's CARD OF 'catscradlelaw09.ShowCorners'. -/
def showCornersUptoCard : Claim7 := { stood := { row := showCornersUptoRow, standIns := [], harness := (true, "e4bac6958e260c6b529418d771dc9f186dfe6975e37d3254e27cf43ce8eb6df4"), looks := false }, kinds := [], alts := [], laidByText := true, laidKinds := [.data, .data, .data], laidTests := true, laidLooks := .later }
def ShowCornersUptoCardSaid : Prop := Claim7.holds Tryz.pinned (.plain (OpenSpec.upto showCornersSpec)) showCornersUptoCard

/-- THE SECOND FORM's CARD OF 'catscradlelaw09.ShowErrors'. -/
def showErrorsUptoCard : Claim7 := { stood := { row := showErrorsUptoRow, standIns := [], harness := (true, "e4bac6958e260c6b529418d771dc9f186dfe6975e37d3254e27cf43ce8eb6df4"), looks := false }, kinds := [], alts := [], laidByText := true, laidKinds := [.data, .data, .data], laidTests := true, laidLooks := .later }
def ShowErrorsUptoCardSaid : Prop := Claim7.holds Tryz.pinned (.plain (OpenSpec.upto showErrorsSpec)) showErrorsUptoCard
end Rows
end Go.Proofs.YtipeejpafgnjdaaGreatDoor
