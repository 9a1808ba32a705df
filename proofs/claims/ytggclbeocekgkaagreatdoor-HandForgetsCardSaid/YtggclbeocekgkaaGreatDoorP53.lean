/- Part 53 of the proof: Fom. -/
import Derived.Test.YtggclbeocekgkaaGreatDoorRows
import Derived.Test.YtggclbeocekgkaaGreatDoorCards
import Derived.Test.YtggclbeocekgkaaGreatDoorTie
import Derived.ProofKit
import Derived.LaidMore
import Derived.OpenShut
import Derived.Stop.Joined
import Derived.SevenTiedAt
set_option linter.all false
namespace Go.Proofs.YtggclbeocekgkaaGreatDoor
open Go.ChangeShapes Go.WideShapes Go.ChangeAt Go.WideMaps Go.WideElems Go.RowKit
theorem Z0d:false=Rows.handForgetsRow.goesBy Tryz.pinned.checked.prog:=by kernel_rfl
end Go.Proofs.YtggclbeocekgkaaGreatDoor
