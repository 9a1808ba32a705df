/-
  DERIVED. GIVEN WITH THE SEED: THE CARDS: each row of YtggclbeocekgkaaGreatDoorRows.lean that lists a variable, with what it lists TIED to the program's text (the seventh form; the later family's looks); each row that meets fmt, with fmt's text TOLD by the authors' own Lean function (tested against real Go, not proved from fmt's source: count such statements apart). THE CARD IS WHAT COUNTS. Prove the row's statement (the work); the ties are given (YtggclbeocekgkaaGreatDoorTie.lean); close each card by the builder's one call (the guide's Derived/Test/ToyasCard.lean, 'card_holds'). Laid BY PROGRAM, IN A SANDBOX (cutbox-door.mjs). By AI agents, Wed Nov 11 2026. No macro, syntax, notation, axiom, sorry.
-/
import Derived.Test.YtggclbeocekgkaaGreatDoorRows
import GoSem.ClaimSeven
namespace Go.Proofs.YtggclbeocekgkaaGreatDoor
namespace Rows

/-- THE TIED CARD OF 'catscradlelaw06.HandCounts'. -/
def handCountsCard : Claim7 := { stood := { row := handCountsRow, standIns := [], harness := (true, "d7a27623024a423f37956a56a9e54ee3e4e425006dc287a49cbbf4971a56402d"), looks := false }, kinds := [], alts := [], laidByText := true, laidKinds := [.data, .data, .data], laidTests := true, laidLooks := .later }
def HandCountsCardSaid : Prop := Claim7.holds Tryz.pinned (.plain (OpenSpec.ofChange handCountsSpec)) handCountsCard

/-- THE TIED CARD OF 'catscradlelaw06.HandExpands'. -/
def handExpandsCard : Claim7 := { stood := { row := handExpandsRow, standIns := [], harness := (true, "d7a27623024a423f37956a56a9e54ee3e4e425006dc287a49cbbf4971a56402d"), looks := false }, kinds := [], alts := [], laidByText := true, laidKinds := [.data, .data, .data], laidTests := true, laidLooks := .later }
def HandExpandsCardSaid : Prop := Claim7.holds Tryz.pinned (.plain (OpenSpec.ofChange handExpandsSpec)) handExpandsCard

/-- THE TIED CARD OF 'catscradlelaw06.HandMoves'. -/
def handMovesCard : Claim7 := { stood := { row := handMovesRow, standIns := [], harness := (true, "d7a27623024a423f37956a56a9e54ee3e4e425006dc287a49cbbf4971a56402d"), looks := false }, kinds := [], alts := [], laidByText := true, laidKinds := [.data, .data, .data], laidTests := true, laidLooks := .later }
def HandMovesCardSaid : Prop := Claim7.holds Tryz.pinned (.plain (OpenSpec.ofChange handMovesSpec)) handMovesCard

/-- THE TIED CARD OF 'catscradlelaw06.HandStarts'. -/
def handStartsCard : Claim7 := { stood := { row := handStartsRow, standIns := [], harness := (true, "d7a27623024a423f37956a56a9e54ee3e4e425006dc287a49cbbf4971a56402d"), looks := false }, kinds := [], alts := [], laidByText := true, laidKinds := [.data, .data, .data], laidTests := true, laidLooks := .later }
def HandStartsCardSaid : Prop := Claim7.holds Tryz.pinned (.plain (OpenSpec.ofChange handStartsSpec)) handStartsCard

/-- THE TIED CARD OF 'catscradlelaw06.HandForgets'. -/
def handForgetsCard : Claim7 := { stood := { row := handForgetsRow, standIns := [], harness := (true, "d7a27623024a423f37956a56a9e54ee3e4e425006dc287a49cbbf4971a56402d"), looks := false }, kinds := [], alts := [], laidByText := true, laidKinds := [.data, .data, .data], laidTests := true, laidLooks := .later }
def HandForgetsCardSaid : Prop := Claim7.holds Tryz.pinned (.plain (OpenSpec.ofChange handForgetsSpec)) handForgetsCard

/-- THE TIED CARD OF 'catscradlelaw06.HandUndoes'. -/
def handUndoesCard : Claim7 := { stood := { row := handUndoesRow, standIns := [], harness := (true, "d7a27623024a423f37956a56a9e54ee3e4e425006dc287a49cbbf4971a56402d"), looks := false }, kinds := [], alts := [], laidByText := true, laidKinds := [.data, .data, .data], laidTests := true, laidLooks := .later }
def HandUndoesCardSaid : Prop := Claim7.holds Tryz.pinned (.plain (OpenSpec.ofChange handUndoesSpec)) handUndoesCard

/-- THE SECOND FORM's CARD OF 'catscradlelaw06.HandCounts'. -/
def handCountsUptoCard : Claim7 := { stood := { row := handCountsUptoRow, standIns := [], harness := (true, "d7a27623024a423f37956a56a9e54ee3e4e425006dc287a49cbbf4971a56402d"), looks := false }, kinds := [], alts := [], laidByText := true, laidKinds := [.data, .data, .data], laidTests := true, laidLooks := .later }
def HandCountsUptoCardSaid : Prop := Claim7.holds Tryz.pinned (.plain (OpenSpec.upto handCountsSpec)) handCountsUptoCard

/-- THE SECOND FORM's CARD OF 'catscradlelaw06.HandExpands'. -/
def handExpandsUptoCard : Claim7 := { stood := { row := handExpandsUptoRow, standIns := [], harness := (true, "d7a27623024a423f37956a56a9e54ee3e4e425006dc287a49cbbf4971a56402d"), looks := false }, kinds := [], alts := [], laidByText := true, laidKinds := [.data, .data, .data], laidTests := true, laidLooks := .later }
def HandExpandsUptoCardSaid : Prop := Claim7.holds Tryz.pinned (.plain (OpenSpec.upto handExpandsSpec)) handExpandsUptoCard

/-- THE SECOND FORM's CARD OF 'catscradlelaw06.HandMoves'. -/
def handMovesUptoCard : Claim7 := { stood := { row := handMovesUptoRow, standIns := [], harness := (true, "d7a27623024a423f37956a56a9e54ee3e4e425006dc287a49cbbf4971a56402d"), looks := false }, kinds := [], alts := [], laidByText := true, laidKinds := [.data, .data, .data], laidTests := true, laidLooks := .later }
def HandMovesUptoCardSaid : Prop := Claim7.holds Tryz.pinned (.plain (OpenSpec.upto handMovesSpec)) handMovesUptoCard

/-- THE SECOND FORM's CARD OF 'catscradlelaw06.HandStarts'. -/
def handStartsUptoCard : Claim7 := { stood := { row := handStartsUptoRow, standIns := [], harness := (true, "d7a27623024a423f37956a56a9e54ee3e4e425006dc287a49cbbf4971a56402d"), looks := false }, kinds := [], alts := [], laidByText := true, laidKinds := [.data, .data, .data], laidTests := true, laidLooks := .later }
def HandStartsUptoCardSaid : Prop := Claim7.holds Tryz.pinned (.plain (OpenSpec.upto handStartsSpec)) handStartsUptoCard

/-- THE SECOND FORM's CARD OF 'catscradlelaw06.HandForgets'. -/
def handForgetsUptoCard : Claim7 := { stood := { row := handForgetsUptoRow, standIns := [], harness := (true, "d7a27623024a423f37956a56a9e54ee3e4e425006dc287a49cbbf4971a56402d"), looks := false }, kinds := [], alts := [], laidByText := true, laidKinds := [.data, .data, .data], laidTests := true, laidLooks := .later }
def HandForgetsUptoCardSaid : Prop := Claim7.holds Tryz.pinned (.plain (OpenSpec.upto handForgetsSpec)) handForgetsUptoCard

/-- THE SECOND FORM's CARD OF 'catscradlelaw06.HandUndoes'. -/
def handUndoesUptoCard : Claim7 := { stood := { row := handUndoesUptoRow, standIns := [], harness := (true, "d7a27623024a423f37956a56a9e54ee3e4e425006dc287a49cbbf4971a56402d"), looks := false }, kinds := [], alts := [], laidByText := true, laidKinds := [.data, .data, .data], laidTests := true, laidLooks := .later }
def HandUndoesUptoCardSaid : Prop := Claim7.holds Tryz.pinned (.plain (OpenSpec.upto handUndoesSpec)) handUndoesUptoCard
end Rows
end Go.Proofs.YtggclbeocekgkaaGreatDoor
