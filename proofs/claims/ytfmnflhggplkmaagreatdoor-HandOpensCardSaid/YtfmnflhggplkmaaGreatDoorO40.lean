/- Part 40 of the proof: Kr0, Kr1. -/
import Derived.Test.YtfmnflhggplkmaaGreatDoorO39
set_option linter.all false
section
namespace Go.Known
open Go Go.AE Go.Proofs
theorem rtk0:rtK Tryz.prog Tryz.f49 0=true:=by kernel_rfl
theorem rtk1:rtK Tryz.prog Tryz.f49 1=true:=by kernel_rfl
theorem rtk2:rtK Tryz.prog Tryz.f49 2=true:=by kernel_rfl
theorem rtk3:rtK Tryz.prog Tryz.f49 3=true:=by kernel_rfl
end Go.Known
end
section
namespace Go.Known
open Go Go.AE Go.Proofs
theorem rtk4:rtK Tryz.prog Tryz.f49 4=true:=by kernel_rfl
theorem rtk5:rtK Tryz.prog Tryz.f49 5=true:=by kernel_rfl
theorem rtk6:rtK Tryz.prog Tryz.f49 6=true:=by kernel_rfl
theorem rtk7:rtK Tryz.prog Tryz.f49 7=true:=by kernel_rfl
end Go.Known
end
