/-
  Part 47 of the proof: Km0.
-/
import Derived.Test.YtainmiigjiahfaaGreatDoorA24
set_option linter.all false
set_option linter.unusedSimpArgs false
set_option linter.unusedVariables false

/- Km0: Known calls, part 0 (printed by a program). -/
section
namespace Go.Known
open Go Go.AE Go.Proofs

/-- catscradle/catscradlelaw09.two -/
def mm1 : Memo := ⟨18, [], (.tuple [(.agg [(.imm [[(.int .i64 1), (.bool false), (.int .i64 1)], [(.int .i64 1), (.bool true), (.int .i64 1)]]), (.int .i64 6), (.int .i64 4)]), (.agg [(.int .i64 2), (.imm [[(.int .i64 1), (.int .i64 0), (.int .i64 1), (.int .i64 0), (.int .i64 0), (.bool false)], [(.int .i64 1), (.int .i64 1), (.int .i64 1), (.int .i64 0), (.int .i64 0), (.bool false)], [(.int .i64 1), (.int .i64 1), (.int .i64 2), (.int .i64 0), (.int .i64 0), (.bool false)], [(.int .i64 1), (.int .i64 2), (.int .i64 1), (.int .i64 0), (.int .i64 0), (.bool false)]])])])⟩
theorem mo1 : mm1.Ok Tryz.prog := known_of (l := []) trivial mm1 (by kernel_rfl)
/-- catscradle/code.Turn -/
def mm2 : Memo := ⟨27, [(.agg [(.int .i64 2), (.imm [[(.int .i64 1), (.int .i64 0), (.int .i64 1), (.int .i64 0), (.int .i64 0), (.bool false)], [(.int .i64 1), (.int .i64 1), (.int .i64 1), (.int .i64 0), (.int .i64 0), (.bool false)], [(.int .i64 1), (.int .i64 1), (.int .i64 2), (.int .i64 0), (.int .i64 0), (.bool false)], [(.int .i64 1), (.int .i64 2), (.int .i64 1), (.int .i64 0), (.int .i64 0), (.bool false)]])])], (.tuple [(.agg [(.int .i64 2), (.imm [[(.int .i64 1), (.int .i64 1), (.int .i64 1), (.int .i64 0), (.int .i64 0), (.bool false)], [(.int .i64 1), (.int .i64 1), (.int .i64 2), (.int .i64 0), (.int .i64 0), (.bool false)], [(.int .i64 1), (.int .i64 2), (.int .i64 1), (.int .i64 0), (.int .i64 0), (.bool false)], [(.int .i64 1), (.int .i64 0), (.int .i64 1), (.int .i64 0), (.int .i64 0), (.bool false)]])]), (.int .i64 0)])⟩
theorem mo2 : mm2.Ok Tryz.prog := known_of (l := []) trivial mm2 (by kernel_rfl)
/-- catscradle/show.Draw -/
def mm3 : Memo := ⟨6, [(.agg [(.int .i64 2), (.imm [[(.int .i64 1), (.int .i64 0), (.int .i64 1), (.int .i64 0), (.int .i64 0), (.bool false)], [(.int .i64 1), (.int .i64 1), (.int .i64 1), (.int .i64 0), (.int .i64 0), (.bool false)], [(.int .i64 1), (.int .i64 1), (.int .i64 2), (.int .i64 0), (.int .i64 0), (.bool false)], [(.int .i64 1), (.int .i64 2), (.int .i64 1), (.int .i64 0), (.int .i64 0), (.bool false)]])])], (.tuple [(.agg [(.int .i64 2), (.imm [[(.int .i64 1)], [(.int .i64 2)], [(.int .i64 1)]]), (.imm [[(.int .i64 1), (.int .i64 1), (.int .i64 0), (.bool false)], [(.int .i64 1), (.int .i64 0), (.int .i64 0), (.bool false)]]), (.imm [[(.int .i64 1), (.int .i64 0), (.int .i64 0), (.bool false)], [(.int .i64 1), (.int .i64 0), (.int .i64 0), (.bool false)]])]), (.int .i64 0)])⟩
theorem mo3 : mm3.Ok Tryz.prog := known_of (l := [mm2]) ⟨mo2, trivial⟩ mm3 (by kernel_rfl)
/-- catscradle/code.Check -/
def mm4 : Memo := ⟨30, [(.agg [(.int .i64 2), (.imm [[(.int .i64 1), (.int .i64 0), (.int .i64 1), (.int .i64 0), (.int .i64 0), (.bool false)], [(.int .i64 1), (.int .i64 1), (.int .i64 1), (.int .i64 0), (.int .i64 0), (.bool false)], [(.int .i64 1), (.int .i64 1), (.int .i64 2), (.int .i64 0), (.int .i64 0), (.bool false)], [(.int .i64 1), (.int .i64 2), (.int .i64 1), (.int .i64 0), (.int .i64 0), (.bool false)]])])], (.int .i64 0)⟩
theorem mo4 : mm4.Ok Tryz.prog := known_of (l := []) trivial mm4 (by kernel_rfl)
/-- catscradle/show.Read -/
def mm5 : Memo := ⟨20, [(.agg [(.int .i64 2), (.imm [[(.int .i64 1)], [(.int .i64 2)], [(.int .i64 1)]]), (.imm [[(.int .i64 1), (.int .i64 1), (.int .i64 0), (.bool false)], [(.int .i64 1), (.int .i64 0), (.int .i64 0), (.bool false)]]), (.imm [[(.int .i64 1), (.int .i64 0), (.int .i64 0), (.bool false)], [(.int .i64 1), (.int .i64 0), (.int .i64 0), (.bool false)]])])], (.tuple [(.agg [(.int .i64 2), (.imm [[(.int .i64 1), (.int .i64 0), (.int .i64 1), (.int .i64 0), (.int .i64 0), (.bool false)], [(.int .i64 1), (.int .i64 1), (.int .i64 1), (.int .i64 0), (.int .i64 0), (.bool false)], [(.int .i64 1), (.int .i64 1), (.int .i64 2), (.int .i64 0), (.int .i64 0), (.bool false)], [(.int .i64 1), (.int .i64 2), (.int .i64 1), (.int .i64 0), (.int .i64 0), (.bool false)]])]), (.int .i64 0)])⟩
theorem mo5 : mm5.Ok Tryz.prog := known_of (l := [mm4]) ⟨mo4, trivial⟩ mm5 (by kernel_rfl)
/-- catscradle/show.Grid -/
def mm6 : Memo := ⟨19, [(.agg [(.int .i64 2), (.imm [[(.int .i64 1)], [(.int .i64 2)], [(.int .i64 1)]]), (.imm [[(.int .i64 1), (.int .i64 1), (.int .i64 0), (.bool false)], [(.int .i64 1), (.int .i64 0), (.int .i64 0), (.bool false)]]), (.imm [[(.int .i64 1), (.int .i64 0), (.int .i64 0), (.bool false)], [(.int .i64 1), (.int .i64 0), (.int .i64 0), (.bool false)]])])], (.tuple [(.imm [[(.str [94, 32, 94])], [(.str [124, 32, 94, 32, 94, 32, 124])], [(.str [124, 32, 49, 32, 124, 32, 124, 32, 50, 32, 124])], [(.str [118, 32, 118, 32, 124, 32, 124])], [(.str [118, 32, 118])]]), (.int .i64 0)])⟩
theorem mo6 : mm6.Ok Tryz.prog := known_of (l := [mm5]) ⟨mo5, trivial⟩ mm6 (by kernel_rfl)
/-- catscradle/catscradleref02.Normal -/
def mm7 : Memo := ⟨48, [(.agg [(.int .i64 2), (.imm [[(.int .i64 1), (.int .i64 0), (.int .i64 1), (.int .i64 0), (.int .i64 0), (.bool false)], [(.int .i64 1), (.int .i64 1), (.int .i64 1), (.int .i64 0), (.int .i64 0), (.bool false)], [(.int .i64 1), (.int .i64 1), (.int .i64 2), (.int .i64 0), (.int .i64 0), (.bool false)], [(.int .i64 1), (.int .i64 2), (.int .i64 1), (.int .i64 0), (.int .i64 0), (.bool false)]])])], (.agg [(.int .i64 2), (.imm [[(.int .i64 1), (.int .i64 0), (.int .i64 1), (.int .i64 0), (.int .i64 0), (.bool false)], [(.int .i64 1), (.int .i64 1), (.int .i64 1), (.int .i64 0), (.int .i64 0), (.bool false)], [(.int .i64 1), (.int .i64 1), (.int .i64 2), (.int .i64 0), (.int .i64 0), (.bool false)], [(.int .i64 1), (.int .i64 2), (.int .i64 1), (.int .i64 0), (.int .i64 0), (.bool false)]])])⟩
theorem mo7 : mm7.Ok Tryz.prog := known_of (l := []) trivial mm7 (by kernel_rfl)
/-- catscradle/catscradleref02.Same -/
def mm8 : Memo := ⟨22, [(.agg [(.int .i64 2), (.imm [[(.int .i64 1), (.int .i64 0), (.int .i64 1), (.int .i64 0), (.int .i64 0), (.bool false)], [(.int .i64 1), (.int .i64 1), (.int .i64 1), (.int .i64 0), (.int .i64 0), (.bool false)], [(.int .i64 1), (.int .i64 1), (.int .i64 2), (.int .i64 0), (.int .i64 0), (.bool false)], [(.int .i64 1), (.int .i64 2), (.int .i64 1), (.int .i64 0), (.int .i64 0), (.bool false)]])]), (.agg [(.int .i64 2), (.imm [[(.int .i64 1), (.int .i64 0), (.int .i64 1), (.int .i64 0), (.int .i64 0), (.bool false)], [(.int .i64 1), (.int .i64 1), (.int .i64 1), (.int .i64 0), (.int .i64 0), (.bool false)], [(.int .i64 1), (.int .i64 1), (.int .i64 2), (.int .i64 0), (.int .i64 0), (.bool false)], [(.int .i64 1), (.int .i64 2), (.int .i64 1), (.int .i64 0), (.int .i64 0), (.bool false)]])])], (.bool true)⟩
theorem mo8 : mm8.Ok Tryz.prog := known_of (l := [mm7]) ⟨mo7, trivial⟩ mm8 (by kernel_rfl)
/-- catscradle/code.Turn -/
def mm9 : Memo := ⟨27, [(.agg [(.int .i64 2), (.imm [[(.int .i64 1), (.int .i64 0), (.int .i64 1), (.int .i64 0), (.int .i64 0), (.bool false)], [(.int .i64 2), (.int .i64 0), (.int .i64 0), (.int .i64 1), (.int .i64 1), (.bool false)], [(.int .i64 2), (.int .i64 0), (.int .i64 0), (.int .i64 1), (.int .i64 1), (.bool true)], [(.int .i64 1), (.int .i64 1), (.int .i64 1), (.int .i64 0), (.int .i64 0), (.bool false)]])])], (.tuple [(.agg [(.int .i64 2), (.imm [[(.int .i64 1), (.int .i64 1), (.int .i64 1), (.int .i64 0), (.int .i64 0), (.bool false)], [(.int .i64 1), (.int .i64 0), (.int .i64 1), (.int .i64 0), (.int .i64 0), (.bool false)], [(.int .i64 2), (.int .i64 0), (.int .i64 0), (.int .i64 1), (.int .i64 1), (.bool true)], [(.int .i64 2), (.int .i64 0), (.int .i64 0), (.int .i64 1), (.int .i64 1), (.bool false)]])]), (.int .i64 0)])⟩
theorem mo9 : mm9.Ok Tryz.prog := known_of (l := []) trivial mm9 (by kernel_rfl)
/-- catscradle/show.Draw -/
def mm10 : Memo := ⟨6, [(.agg [(.int .i64 2), (.imm [[(.int .i64 1), (.int .i64 0), (.int .i64 1), (.int .i64 0), (.int .i64 0), (.bool false)], [(.int .i64 2), (.int .i64 0), (.int .i64 0), (.int .i64 1), (.int .i64 1), (.bool false)], [(.int .i64 2), (.int .i64 0), (.int .i64 0), (.int .i64 1), (.int .i64 1), (.bool true)], [(.int .i64 1), (.int .i64 1), (.int .i64 1), (.int .i64 0), (.int .i64 0), (.bool false)]])])], (.tuple [(.agg [(.int .i64 2), (.imm [[(.int .i64 1)], [(.int .i64 1)], [(.int .i64 0)]]), (.imm [[(.int .i64 1), (.int .i64 0), (.int .i64 0), (.bool false)]]), (.imm [[(.int .i64 2), (.int .i64 0), (.int .i64 1), (.bool true)], [(.int .i64 1), (.int .i64 1), (.int .i64 0), (.bool false)], [(.int .i64 1), (.int .i64 0), (.int .i64 0), (.bool false)]])]), (.int .i64 0)])⟩
theorem mo10 : mm10.Ok Tryz.prog := known_of (l := [mm9]) ⟨mo9, trivial⟩ mm10 (by kernel_rfl)
/-- catscradle/code.Insert -/
def mm11 : Memo := ⟨86, [(.agg [(.int .i64 2), (.imm [[(.int .i64 1), (.int .i64 0), (.int .i64 1), (.int .i64 0), (.int .i64 0), (.bool false)], [(.int .i64 1), (.int .i64 1), (.int .i64 1), (.int .i64 0), (.int .i64 0), (.bool false)], [(.int .i64 1), (.int .i64 1), (.int .i64 2), (.int .i64 0), (.int .i64 0), (.bool false)], [(.int .i64 1), (.int .i64 2), (.int .i64 1), (.int .i64 0), (.int .i64 0), (.bool false)]])]), (.agg [(.int .i64 1), (.int .i64 1)])], (.tuple [(.agg [(.int .i64 3), (.imm [[(.int .i64 1), (.int .i64 0), (.int .i64 1), (.int .i64 0), (.int .i64 0), (.bool false)], [(.int .i64 1), (.int .i64 1), (.int .i64 1), (.int .i64 0), (.int .i64 0), (.bool false)], [(.int .i64 1), (.int .i64 2), (.int .i64 1), (.int .i64 0), (.int .i64 0), (.bool false)], [(.int .i64 1), (.int .i64 3), (.int .i64 1), (.int .i64 0), (.int .i64 0), (.bool false)]])]), (.int .i64 0)])⟩
theorem mo11 : mm11.Ok Tryz.prog := known_of (l := []) trivial mm11 (by kernel_rfl)
/-- catscradle/code.Check -/
def mm12 : Memo := ⟨30, [(.agg [(.int .i64 3), (.imm [[(.int .i64 1), (.int .i64 0), (.int .i64 1), (.int .i64 0), (.int .i64 0), (.bool false)], [(.int .i64 1), (.int .i64 1), (.int .i64 1), (.int .i64 0), (.int .i64 0), (.bool false)], [(.int .i64 1), (.int .i64 2), (.int .i64 1), (.int .i64 0), (.int .i64 0), (.bool false)], [(.int .i64 1), (.int .i64 3), (.int .i64 1), (.int .i64 0), (.int .i64 0), (.bool false)]])])], (.int .i64 0)⟩
theorem mo12 : mm12.Ok Tryz.prog := known_of (l := []) trivial mm12 (by kernel_rfl)

end Go.Known
end


