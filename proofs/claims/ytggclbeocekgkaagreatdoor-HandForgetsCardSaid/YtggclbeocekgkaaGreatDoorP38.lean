/- Part 38 of the proof: Kr0. -/
import Derived.Test.YtggclbeocekgkaaGreatDoorP37
set_option linter.all false
namespace Go.Ac
open Go Go.AE Go.Proofs
theorem lE:NV Tryz.prog Tryz.f69 0=true:=by kernel_rfl
theorem lF:NV Tryz.prog Tryz.f69 1=true:=by kernel_rfl
theorem lH:NV Tryz.prog Tryz.f69 2=true:=by kernel_rfl
theorem lI:NV Tryz.prog Tryz.f69 3=true:=by kernel_rfl
end Go.Ac
