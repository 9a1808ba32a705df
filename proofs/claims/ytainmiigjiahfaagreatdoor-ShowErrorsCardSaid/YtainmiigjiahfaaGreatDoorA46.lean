/-
  Part 46 of the proof: Lg.
-/
import Derived.Test.YtainmiigjiahfaaGreatDoorA1
import Derived.Test.YtainmiigjiahfaaGreatDoorProg
set_option linter.all false
set_option linter.unusedSimpArgs false
set_option linter.unusedVariables false

/- Lg: The code of the program's functions, resolved (printed by a program). -/
section
namespace Go.Known
open Go Go.AE Go.Proofs

def af35 : AFn := ⟨26, [(4, none)], (.seq (.region false [⟨(some 4), .mov (.const (.bool false)), none, []⟩])
 (.seq (.seq (.region false [⟨(some 6), .mov (.tmp 0), none, []⟩, ⟨(some 7), .lenSl (.tmp 6), none, []⟩, ⟨(some 8), .mov (.tmp 1), none, []⟩, ⟨(some 9), .lenSl (.tmp 8), none, []⟩, ⟨(some 10), .bin .neq .num (.tmp 7) (.tmp 9), none, []⟩])
 (.cond (.tmp 10) (.seq (.region false [⟨(some 4), .mov (.const (.bool false)), none, []⟩])
 .ret)
 .skip))
 (.seq (.seq (.region false [⟨(some 5), .mov (.const (.int .i64 0)), none, []⟩])
 (.block 0 (.loop (.seq (.seq (.region false [⟨(some 11), .mov (.tmp 5), none, []⟩, ⟨(some 12), .mov (.tmp 0), none, []⟩, ⟨(some 13), .lenSl (.tmp 12), none, []⟩, ⟨(some 14), .bin .lss .num (.tmp 11) (.tmp 13), none, []⟩])
 (.cond (.tmp 14) .skip
 (.exit 0)))
 (.seq (.block 1 (.seq (.region true [⟨(some 17), .mov (.tmp 0), none, []⟩, ⟨(some 18), .mov (.tmp 5), none, []⟩, ⟨(some 19), .idxA 1 (.tmp 17) (.tmp 18), none, []⟩, ⟨(some 20), .load none (.tmp 19), none, []⟩, ⟨(some 21), .mov (.tmp 1), none, []⟩, ⟨(some 22), .mov (.tmp 5), none, []⟩, ⟨(some 23), .idxA 1 (.tmp 21) (.tmp 22), none, []⟩, ⟨(some 24), .load none (.tmp 23), none, []⟩, ⟨(some 25), .bin .neq .num (.tmp 20) (.tmp 24), none, []⟩])
 (.cond (.tmp 25) (.seq (.region false [⟨(some 4), .mov (.const (.bool false)), none, []⟩])
 .ret)
 .skip)))
 (.region false [⟨(some 15), .mov (.tmp 5), none, []⟩, ⟨(some 16), .bin .add .num (.tmp 15) (.const (.int .i64 1)), none, []⟩, ⟨(some 5), .mov (.tmp 16), none, []⟩]))))))
 (.seq (.region false [⟨(some 4), .mov (.const (.bool true)), none, []⟩])
 .ret))))⟩
theorem cf35 : cFn Tryz.prog Tryz.f35 = some af35 := by kernel_rfl
def af36 : AFn := ⟨26, [(4, none)], (.seq (.region false [⟨(some 4), .mov (.const (.bool false)), none, []⟩])
 (.seq (.seq (.region false [⟨(some 6), .mov (.tmp 0), none, []⟩, ⟨(some 7), .lenSl (.tmp 6), none, []⟩, ⟨(some 8), .mov (.tmp 1), none, []⟩, ⟨(some 9), .lenSl (.tmp 8), none, []⟩, ⟨(some 10), .bin .neq .num (.tmp 7) (.tmp 9), none, []⟩])
 (.cond (.tmp 10) (.seq (.region false [⟨(some 4), .mov (.const (.bool false)), none, []⟩])
 .ret)
 .skip))
 (.seq (.seq (.region false [⟨(some 5), .mov (.const (.int .i64 0)), none, []⟩])
 (.block 0 (.loop (.seq (.seq (.region false [⟨(some 11), .mov (.tmp 5), none, []⟩, ⟨(some 12), .mov (.tmp 0), none, []⟩, ⟨(some 13), .lenSl (.tmp 12), none, []⟩, ⟨(some 14), .bin .lss .num (.tmp 11) (.tmp 13), none, []⟩])
 (.cond (.tmp 14) .skip
 (.exit 0)))
 (.seq (.block 1 (.seq (.region true [⟨(some 17), .mov (.tmp 0), none, []⟩, ⟨(some 18), .mov (.tmp 5), none, []⟩, ⟨(some 19), .idxA 4 (.tmp 17) (.tmp 18), none, []⟩, ⟨(some 20), .load (some 4) (.tmp 19), none, []⟩, ⟨(some 21), .mov (.tmp 1), none, []⟩, ⟨(some 22), .mov (.tmp 5), none, []⟩, ⟨(some 23), .idxA 4 (.tmp 21) (.tmp 22), none, []⟩, ⟨(some 24), .load (some 4) (.tmp 23), none, []⟩, ⟨(some 25), .bin .neq (.flat [.int, .int, .int, .bool]) (.tmp 20) (.tmp 24), none, []⟩])
 (.cond (.tmp 25) (.seq (.region false [⟨(some 4), .mov (.const (.bool false)), none, []⟩])
 .ret)
 .skip)))
 (.region false [⟨(some 15), .mov (.tmp 5), none, []⟩, ⟨(some 16), .bin .add .num (.tmp 15) (.const (.int .i64 1)), none, []⟩, ⟨(some 5), .mov (.tmp 16), none, []⟩]))))))
 (.seq (.region false [⟨(some 4), .mov (.const (.bool true)), none, []⟩])
 .ret))))⟩
theorem cf36 : cFn Tryz.prog Tryz.f36 = some af36 := by kernel_rfl

end Go.Known
end


