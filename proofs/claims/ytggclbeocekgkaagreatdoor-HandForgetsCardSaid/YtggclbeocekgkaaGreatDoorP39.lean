/- Part 39 of the proof: Kr1. -/
import Derived.Test.YtggclbeocekgkaaGreatDoorP37
set_option linter.all false
namespace Go.Ac
open Go Go.AE Go.Proofs
theorem lJ:NV Tryz.prog Tryz.f69 4=true:=by kernel_rfl
theorem lN:NV Tryz.prog Tryz.f69 5=true:=by kernel_rfl
theorem lP:NV Tryz.prog Tryz.f69 6=true:=by kernel_rfl
theorem lQ:NV Tryz.prog Tryz.f69 7=true:=by kernel_rfl
end Go.Ac
