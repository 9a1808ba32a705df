/- Part 1 of the proof: AeTz. -/
import Derived.WalkKit
import Derived.Lib.ItoaNum
set_option linter.all false
namespace Go.AE
open Go.RowKit
open Go.Lib
def tab0:Array Value:=(pow10Tab.map fun z=>Value.int .u64 z).toArray
def T0 (w:World):Prop:=∃ e fz,w.heap[0]? = some (.cells tab0 e fz)
theorem T0.keep {w w':World} (h:T0 w) (hb:Below w.heap.size w w'):T0 w':=by
 obtain⟨e,fz,h⟩:=h
 have:0<w.heap.size:=by
  rcases Nat.lt_or_ge 0 w.heap.size with h'|h'
  ·exact h'
  ·rw[Array.getElem?_eq_none h']at h; cases h
 exact⟨e,fz,by rw[hb.block 0 this]; exact h⟩
end Go.AE
