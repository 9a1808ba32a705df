/- Part 43 of the proof: Wc. -/
import Derived.Test.YtfmnflhggplkmaaGreatDoorN34
import Derived.Test.YtfmnflhggplkmaaGreatDoorN42
set_option linter.all false
namespace Go.Known
open Go Go.AE Go.Proofs
open Go.Plain
open Go.ChangeShapes Go.WideShapes Go.RowKit Go.Deep
variable {H:Type} {enc:TypeId×Value→H} {w:World} {base:Nat} {spare:Nat→Bool} {held:Bool}
def rowGV (x:Fg):List Value:=[.int .i64 x.p,.bool x.r,.int .i64 x.d]
theorem rowG_R (Φ:Pers) (ρ:Rho) (l:Fg) (j:Nat) (x:AVal) (h:(rowG l)[j]? = some x):∃ v,(rowGV l)[j]? = some v∧v.oneCell'=true∧R Φ ρ x v:=by
 match j,h with
 | 0,h=>cases h; exact⟨_,rfl,rfl,.int _ _⟩
 | 1,h=>cases h; exact⟨_,rfl,rfl,.bool _⟩
 | 2,h=>cases h; exact⟨_,rfl,rfl,.int _ _⟩
 | j+3,h=>cases h
end Go.Known
