/- Part 40 of the proof: Kr1. -/
import Derived.Test.YtfmnflhggplkmaaGreatDoorN38
set_option linter.all false
namespace Go.Known
open Go Go.AE Go.Proofs
theorem rtk4:rtK Tryz.prog Tryz.f49 4=true:=by kernel_rfl
theorem rtk5:rtK Tryz.prog Tryz.f49 5=true:=by kernel_rfl
theorem rtk6:rtK Tryz.prog Tryz.f49 6=true:=by kernel_rfl
theorem rtk7:rtK Tryz.prog Tryz.f49 7=true:=by kernel_rfl
end Go.Known
