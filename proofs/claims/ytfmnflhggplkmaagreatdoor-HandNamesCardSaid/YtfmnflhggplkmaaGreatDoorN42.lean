/- Part 42 of the proof: Hk, Hb. -/
import Derived.Test.YtfmnflhggplkmaaGreatDoorN30
import Derived.Test.YtfmnflhggplkmaaGreatDoorN36
import Derived.Test.YtfmnflhggplkmaaGreatDoorN37
import Derived.Test.YtfmnflhggplkmaaGreatDoorN41
import Derived.Shelf.SlSortCmp.NoneTotal
import Derived.Test.YtfmnflhggplkmaaGreatDoorProg
import Derived.Deep.QuietTactic
import Derived.BigQuiet
set_option linter.all false
section
namespace Go.Known
open Go Go.AE Go.Proofs
def okRun (e:Memo):Bool:=match runM tab (orcM []) e.g e.args with|some r=>beqA r e.v&&(closedL e.args&&e.v.closed)|none=>false
end Go.Known
end
section
namespace Go.Known
open Go Go.AE Go.Proofs
open Go.Plain
theorem known6:PCall Tryz.prog 8 [] (.bool true):=mo81
end Go.Known
end
