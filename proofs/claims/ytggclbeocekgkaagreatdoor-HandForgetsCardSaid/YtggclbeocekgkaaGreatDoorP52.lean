/- Part 52 of the proof: Fol. -/
import Derived.Test.YtggclbeocekgkaaGreatDoorRows
import Derived.Test.YtggclbeocekgkaaGreatDoorCards
import Derived.Test.YtggclbeocekgkaaGreatDoorTie
import Derived.ProofKit
import Derived.LaidMore
import Derived.OpenShut
import Derived.Stop.Joined
import Derived.SevenTiedAt
set_option linter.all false
namespace Go.Proofs.YtggclbeocekgkaaGreatDoor
open Go.ChangeShapes Go.WideShapes Go.ChangeAt Go.WideMaps Go.WideElems Go.RowKit
theorem Zzz:(Rows.handForgetsRow.inPlace == Tryz.pinned.checked.prog.inPlace 7)=true:=by kernel_rfl
theorem xe:(Rows.handForgetsRow.unfollowed == Tryz.pinned.checked.prog.unfollowed 7)=true:=by kernel_rfl
theorem yl:(Rows.handForgetsRow.recurses == Tryz.pinned.checked.prog.recurses 7)=true:=by kernel_rfl
theorem xm:(Rows.handForgetsRow.named == Tryz.pinned.checked.prog.varsNamed 7)=true:=by kernel_rfl
theorem Z00:joinedFacts Tryz.pinned.checked.prog 7 Tryz.f7 Rows.handForgetsSpec Rows.handForgetsRow=true:=by
 unfold joinedFacts;rw[Zzz,xe,yl,xm];kernel_rfl
end Go.Proofs.YtggclbeocekgkaaGreatDoor
