/-
  Part 44 of the proof: AeNg.
-/
import Derived.Test.YtainmiigjiahfaaGreatDoorA19
set_option linter.all false
set_option linter.unusedSimpArgs false
set_option linter.unusedVariables false

/- AeNg: AE: what follows a call is left alone by simp. -/
section
namespace Go.AE
open Go.RowKit

def wr {α : Type} (x : α) : α := x
theorem wr_eq {α : Type} (x : α) : wr x = x := Eq.trans (Eq.refl x) (Eq.refl x)

@[congr] theorem SC_congr2 {P : Program} {g : FuncId} {args args' : List AVal} {m : SMem} {w : Nat} {K : AVal → SMem → Prop} (h : wr args = args') : SC P g args m w K = SC P g args' m w K := by cases h; rfl
@[congr] theorem DC_congr2 {P : Program} {g : FuncId} {args args' : List AVal} {K : AVal → Prop} (h : wr args = args') : DC P g args K = DC P g args' K := by cases h; rfl
end Go.AE
end


