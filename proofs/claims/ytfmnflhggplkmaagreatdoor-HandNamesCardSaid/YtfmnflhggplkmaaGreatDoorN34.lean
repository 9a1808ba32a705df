/- Part 34 of the proof: Tb, Po. -/
import Derived.Test.YtfmnflhggplkmaaGreatDoorN22
import Derived.Test.YtfmnflhggplkmaaGreatDoorN23
import Derived.Test.YtfmnflhggplkmaaGreatDoorN25
import Derived.Test.YtfmnflhggplkmaaGreatDoorN28
import Derived.Test.YtfmnflhggplkmaaGreatDoorN30
import Derived.Test.YtfmnflhggplkmaaGreatDoorN31
import Derived.Test.YtfmnflhggplkmaaGreatDoorN32
import Derived.Test.YtfmnflhggplkmaaGreatDoorN33
import Derived.ProofKit
import Derived.Carry
import Derived.Deep.Slices
set_option linter.all false
section
namespace Go.Known
open Go Go.AE Go.Proofs
open Go.Plain
open Go.ChangeShapes Go.WideShapes Go.RowKit Go.Deep
variable {H:Type} {enc:TypeId×Value→H} {w:World} {base:Nat} {spare:Nat→Bool} {held:Bool}
def allP (w:World):Pers:=fun B=>match w.heap[B]? with
 | some (.cells c _ _)=>some c
 | _=>none
theorem allP_of {w:World} {B:Nat} {c:Array Value} (h:allP w B=some c):∃ e fz,w.heap[B]? = some (.cells c e fz):=by
 unfold allP at h
 grind
end Go.Known
end
section
namespace Go.Known
open Go.Plain
theorem okR_pass {f:Int} {ls:List Lt} {l:Lt} (hk:l.k=1):okR f ls l=true↔l.i=0∧l.s=0∧l.o=false∧0≤l.g∧l.g≤f∧1≤l.r∧l.r≤inG l.g ls∧same l ls=1:=by
 unfold okR
 grind
structure ValR (f:Int) (ls:List Lt):Prop where
 len:ls.length≤400
 vis:visits ls≤200
 lo:0≤f
 hi:f≤40
 fst:(at' ls 0).k=1
 evn:passes ls % 2=0
 okr:∀ l,l∈ls→okR f ls l=true
 cyc:cycles (turnN ls (axis ls)) (2*ls.length+2*passes ls)=passes ls+visits ls / 2+2
end Go.Known
end
