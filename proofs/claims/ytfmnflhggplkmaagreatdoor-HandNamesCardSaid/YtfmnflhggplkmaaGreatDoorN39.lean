/- Part 39 of the proof: Kr0. -/
import Derived.Test.YtfmnflhggplkmaaGreatDoorN38
set_option linter.all false
namespace Go.Known
open Go Go.AE Go.Proofs
theorem rtk0:rtK Tryz.prog Tryz.f49 0=true:=by kernel_rfl
theorem rtk1:rtK Tryz.prog Tryz.f49 1=true:=by kernel_rfl
theorem rtk2:rtK Tryz.prog Tryz.f49 2=true:=by kernel_rfl
theorem rtk3:rtK Tryz.prog Tryz.f49 3=true:=by kernel_rfl
end Go.Known
