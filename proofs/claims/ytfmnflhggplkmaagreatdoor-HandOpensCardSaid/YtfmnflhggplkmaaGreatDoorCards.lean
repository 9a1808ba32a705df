/-
  DERIVED. GIVEN WITH THE SEED: THE CARDS: each row of YtfmnflhggplkmaaGreatDoorRows.lean that lists a variable, with what it lists TIED to the program's text (the seventh form; the later family's looks); each row that meets fmt, with fmt's text TOLD by the authors' own Lean function (tested against real Go, not proved from fmt's source: count such statements apart). THE CARD IS WHAT COUNTS. Prove the row's statement (the work); the ties are given (YtfmnflhggplkmaaGreatDoorTie.lean); close each card by the builder's one call (the guide's Derived/Test/ToyasCard.lean, 'card_holds'). Laid BY PROGRAM, IN A SANDBOX (cutbox-door.mjs). By AI agents, Wed Nov 11 2026. No macro, syntax, notation, axiom, sorry.
-/
import Derived.Test.YtfmnflhggplkmaaGreatDoorRows
import GoSem.ClaimSeven
namespace Go.Proofs.YtfmnflhggplkmaaGreatDoor
namespace Rows

/-- THE TIED CARD OF 'catscradlelaw06.HandFrames'. -/
def handFramesCard : Claim7 := { stood := { row := handFramesRow, standIns := [], harness := (true, "d567b9e93ac92427478133e4d1d0afabaddde720bef912196bbc5eb42db61796"), looks := false }, kinds := [], alts := [], laidByText := true, laidKinds := [.data, .data, .data], laidTests := true, laidLooks := .later }
def HandFramesCardSaid : Prop := Claim7.holds Tryz.pinned (.plain (OpenSpec.ofChange handFramesSpec)) handFramesCard

/-- THE TIED CARD OF 'catscradlelaw06.HandNames'. -/
def handNamesCard : Claim7 := { stood := { row := handNamesRow, standIns := [], harness := (true, "d567b9e93ac92427478133e4d1d0afabaddde720bef912196bbc5eb42db61796"), looks := false }, kinds := [], alts := [], laidByText := true, laidKinds := [.data, .data, .data], laidTests := true, laidLooks := .later }
def HandNamesCardSaid : Prop := Claim7.holds Tryz.pinned (.plain (OpenSpec.ofChange handNamesSpec)) handNamesCard

/-- THE TIED CARD OF 'catscradlelaw06.HandHangs'. -/
def handHangsCard : Claim7 := { stood := { row := handHangsRow, standIns := [], harness := (true, "d567b9e93ac92427478133e4d1d0afabaddde720bef912196bbc5eb42db61796"), looks := false }, kinds := [], alts := [], laidByText := true, laidKinds := [.data, .data, .data], laidTests := true, laidLooks := .later }
def HandHangsCardSaid : Prop := Claim7.holds Tryz.pinned (.plain (OpenSpec.ofChange handHangsSpec)) handHangsCard

/-- THE TIED CARD OF 'catscradlelaw06.HandOpens'. -/
def handOpensCard : Claim7 := { stood := { row := handOpensRow, standIns := [], harness := (true, "d567b9e93ac92427478133e4d1d0afabaddde720bef912196bbc5eb42db61796"), looks := false }, kinds := [], alts := [], laidByText := true, laidKinds := [.data, .data, .data], laidTests := true, laidLooks := .later }
def HandOpensCardSaid : Prop := Claim7.holds Tryz.pinned (.plain (OpenSpec.ofChange handOpensSpec)) handOpensCard

/-- THE SECOND FORM's CARD OF 'catscradlelaw06.HandFrames'. -/
def handFramesUptoCard : Claim7 := { stood := { row := handFramesUptoRow, standIns := [], harness := (true, "d567b9e93ac92427478133e4d1d0afabaddde720bef912196bbc5eb42db61796"), looks := false }, kinds := [], alts := [], laidByText := true, laidKinds := [.data, .data, .data], laidTests := true, laidLooks := .later }
def HandFramesUptoCardSaid : Prop := Claim7.holds Tryz.pinned (.plain (OpenSpec.upto handFramesSpec)) handFramesUptoCard

/-- THE SECOND FORM's CARD OF 'catscradlelaw06.HandNames'. -/
def handNamesUptoCard : Claim7 := { stood := { row := handNamesUptoRow, standIns := [], harness := (true, "d567b9e93ac92427478133e4d1d0afabaddde720bef912196bbc5eb42db61796"), looks := false }, kinds := [], alts := [], laidByText := true, laidKinds := [.data, .data, .data], laidTests := true, laidLooks := .later }
def HandNamesUptoCardSaid : Prop := Claim7.holds Tryz.pinned (.plain (OpenSpec.upto handNamesSpec)) handNamesUptoCard

/-- THE SECOND FORM's CARD OF 'catscradlelaw06.HandHangs'. -/
def handHangsUptoCard : Claim7 := { stood := { row := handHangsUptoRow, standIns := [], harness := (true, "d567b9e93ac92427478133e4d1d0afabaddde720bef912196bbc5eb42db61796"), looks := false }, kinds := [], alts := [], laidByText := true, laidKinds := [.data, .data, .data], laidTests := true, laidLooks := .later }
def HandHangsUptoCardSaid : Prop := Claim7.holds Tryz.pinned (.plain (OpenSpec.upto handHangsSpec)) handHangsUptoCard

/-- THE SECOND FORM's CARD OF 'catscradlelaw06.HandOpens'. -/
def handOpensUptoCard : Claim7 := { stood := { row := handOpensUptoRow, standIns := [], harness := (true, "d567b9e93ac92427478133e4d1d0afabaddde720bef912196bbc5eb42db61796"), looks := false }, kinds := [], alts := [], laidByText := true, laidKinds := [.data, .data, .data], laidTests := true, laidLooks := .later }
def HandOpensUptoCardSaid : Prop := Claim7.holds Tryz.pinned (.plain (OpenSpec.upto handOpensSpec)) handOpensUptoCard
end Rows
end Go.Proofs.YtfmnflhggplkmaaGreatDoor
