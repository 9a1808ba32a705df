/- Part 31 of the proof: Km0, Km1, Km2. -/
import Derived.Test.YtilmpmlkndfbjaaGreatDoorR12
set_option linter.all false
section
namespace Go.Known
open Go Go.AE Go.Proofs
def mm1:Memo:=⟨19,[],(.tuple [(.agg [(.imm [[iV 1,bV false,iV 1],[iV 1,bV true,iV 1]]),iV 6,iV 4]),(.agg [iV 2,(.imm [[iV 1,iV 0,iV 1,iV 0,iV 0,bV false],[iV 1,iV 1,iV 1,iV 0,iV 0,bV false],[iV 1,iV 1,iV 2,iV 0,iV 0,bV false],[iV 1,iV 2,iV 1,iV 0,iV 0,bV false]])])])⟩
theorem mo1:mm1.Ok Tryz.prog:=Q0 (l:=[]) trivial mm1 (by kernel_rfl)
def mm2:Memo:=⟨34,[(.agg [iV 2,(.imm [[iV 1,iV 0,iV 1,iV 0,iV 0,bV false],[iV 1,iV 1,iV 1,iV 0,iV 0,bV false],[iV 1,iV 1,iV 2,iV 0,iV 0,bV false],[iV 1,iV 2,iV 1,iV 0,iV 0,bV false]])])],(.tuple [(.agg [iV 2,(.imm [[iV 1,iV 1,iV 1,iV 0,iV 0,bV false],[iV 1,iV 1,iV 2,iV 0,iV 0,bV false],[iV 1,iV 2,iV 1,iV 0,iV 0,bV false],[iV 1,iV 0,iV 1,iV 0,iV 0,bV false]])]),iV 0])⟩
theorem mo2:mm2.Ok Tryz.prog:=Q0 (l:=[]) trivial mm2 (by kernel_rfl)
def mm3:Memo:=⟨13,[(.agg [iV 2,(.imm [[iV 1,iV 0,iV 1,iV 0,iV 0,bV false],[iV 1,iV 1,iV 1,iV 0,iV 0,bV false],[iV 1,iV 1,iV 2,iV 0,iV 0,bV false],[iV 1,iV 2,iV 1,iV 0,iV 0,bV false]])])],(.tuple [(.agg [iV 2,(.imm [[iV 1],[iV 2],[iV 1]]),(.imm [[iV 1,iV 1,iV 0,bV false],[iV 1,iV 0,iV 0,bV false]]),(.imm [[iV 1,iV 0,iV 0,bV false],[iV 1,iV 0,iV 0,bV false]])]),iV 0])⟩
theorem mo3:mm3.Ok Tryz.prog:=Q0 (l:=[mm2]) ⟨mo2,trivial⟩ mm3 (by kernel_rfl)
def mm4:Memo:=⟨51,[(.agg [iV 2,(.imm [[iV 1,iV 0,iV 1,iV 0,iV 0,bV false],[iV 1,iV 1,iV 1,iV 0,iV 0,bV false],[iV 1,iV 1,iV 2,iV 0,iV 0,bV false],[iV 1,iV 2,iV 1,iV 0,iV 0,bV false]])])],iV 0⟩
theorem mo4:mm4.Ok Tryz.prog:=Q0 (l:=[]) trivial mm4 (by kernel_rfl)
def mm5:Memo:=⟨9,[(.agg [iV 2,(.imm [[iV 1],[iV 2],[iV 1]]),(.imm [[iV 1,iV 1,iV 0,bV false],[iV 1,iV 0,iV 0,bV false]]),(.imm [[iV 1,iV 0,iV 0,bV false],[iV 1,iV 0,iV 0,bV false]])])],(.tuple [(.agg [iV 2,(.imm [[iV 1,iV 0,iV 1,iV 0,iV 0,bV false],[iV 1,iV 1,iV 1,iV 0,iV 0,bV false],[iV 1,iV 1,iV 2,iV 0,iV 0,bV false],[iV 1,iV 2,iV 1,iV 0,iV 0,bV false]])]),iV 0])⟩
theorem mo5:mm5.Ok Tryz.prog:=Q0 (l:=[mm4]) ⟨mo4,trivial⟩ mm5 (by kernel_rfl)
def mm6:Memo:=⟨16,[(.agg [iV 2,(.imm [[iV 1],[iV 2],[iV 1]]),(.imm [[iV 1,iV 1,iV 0,bV false],[iV 1,iV 0,iV 0,bV false]]),(.imm [[iV 1,iV 0,iV 0,bV false],[iV 1,iV 0,iV 0,bV false]])])],(.tuple [(.imm [[(.str [94,32,94])],[(.str [124,32,94,32,94,32,124])],[(.str [124,32,49,32,124,32,124,32,50,32,124])],[(.str [118,32,118,32,124,32,124])],[(.str [118,32,118])]]),iV 0])⟩
theorem mo6:mm6.Ok Tryz.prog:=Q0 (l:=[mm5]) ⟨mo5,trivial⟩ mm6 (by kernel_rfl)
def mm7:Memo:=⟨46,[(.agg [iV 2,(.imm [[iV 1,iV 0,iV 1,iV 0,iV 0,bV false],[iV 1,iV 1,iV 1,iV 0,iV 0,bV false],[iV 1,iV 1,iV 2,iV 0,iV 0,bV false],[iV 1,iV 2,iV 1,iV 0,iV 0,bV false]])])],(.agg [iV 2,(.imm [[iV 1,iV 0,iV 1,iV 0,iV 0,bV false],[iV 1,iV 1,iV 1,iV 0,iV 0,bV false],[iV 1,iV 1,iV 2,iV 0,iV 0,bV false],[iV 1,iV 2,iV 1,iV 0,iV 0,bV false]])])⟩
theorem mo7:mm7.Ok Tryz.prog:=Q0 (l:=[]) trivial mm7 (by kernel_rfl)
def mm8:Memo:=⟨20,[(.agg [iV 2,(.imm [[iV 1,iV 0,iV 1,iV 0,iV 0,bV false],[iV 1,iV 1,iV 1,iV 0,iV 0,bV false],[iV 1,iV 1,iV 2,iV 0,iV 0,bV false],[iV 1,iV 2,iV 1,iV 0,iV 0,bV false]])]),(.agg [iV 2,(.imm [[iV 1,iV 0,iV 1,iV 0,iV 0,bV false],[iV 1,iV 1,iV 1,iV 0,iV 0,bV false],[iV 1,iV 1,iV 2,iV 0,iV 0,bV false],[iV 1,iV 2,iV 1,iV 0,iV 0,bV false]])])],bV true⟩
theorem mo8:mm8.Ok Tryz.prog:=Q0 (l:=[mm7]) ⟨mo7,trivial⟩ mm8 (by kernel_rfl)
def mm9:Memo:=⟨34,[(.agg [iV 2,(.imm [[iV 1,iV 0,iV 1,iV 0,iV 0,bV false],[iV 2,iV 0,iV 0,iV 1,iV 1,bV false],[iV 2,iV 0,iV 0,iV 1,iV 1,bV true],[iV 1,iV 1,iV 1,iV 0,iV 0,bV false]])])],(.tuple [(.agg [iV 2,(.imm [[iV 1,iV 1,iV 1,iV 0,iV 0,bV false],[iV 1,iV 0,iV 1,iV 0,iV 0,bV false],[iV 2,iV 0,iV 0,iV 1,iV 1,bV true],[iV 2,iV 0,iV 0,iV 1,iV 1,bV false]])]),iV 0])⟩
theorem mo9:mm9.Ok Tryz.prog:=Q0 (l:=[]) trivial mm9 (by kernel_rfl)
def mm10:Memo:=⟨13,[(.agg [iV 2,(.imm [[iV 1,iV 0,iV 1,iV 0,iV 0,bV false],[iV 2,iV 0,iV 0,iV 1,iV 1,bV false],[iV 2,iV 0,iV 0,iV 1,iV 1,bV true],[iV 1,iV 1,iV 1,iV 0,iV 0,bV false]])])],(.tuple [(.agg [iV 2,(.imm [[iV 1],[iV 1],[iV 0]]),(.imm [[iV 1,iV 0,iV 0,bV false]]),(.imm [[iV 2,iV 0,iV 1,bV true],[iV 1,iV 1,iV 0,bV false],[iV 1,iV 0,iV 0,bV false]])]),iV 0])⟩
theorem mo10:mm10.Ok Tryz.prog:=Q0 (l:=[mm9]) ⟨mo9,trivial⟩ mm10 (by kernel_rfl)
def mm11:Memo:=⟨87,[(.agg [iV 2,(.imm [[iV 1,iV 0,iV 1,iV 0,iV 0,bV false],[iV 1,iV 1,iV 1,iV 0,iV 0,bV false],[iV 1,iV 1,iV 2,iV 0,iV 0,bV false],[iV 1,iV 2,iV 1,iV 0,iV 0,bV false]])]),(.agg [iV 1,iV 1])],(.tuple [(.agg [iV 3,(.imm [[iV 1,iV 0,iV 1,iV 0,iV 0,bV false],[iV 1,iV 1,iV 1,iV 0,iV 0,bV false],[iV 1,iV 2,iV 1,iV 0,iV 0,bV false],[iV 1,iV 3,iV 1,iV 0,iV 0,bV false]])]),iV 0])⟩
theorem mo11:mm11.Ok Tryz.prog:=Q0 (l:=[]) trivial mm11 (by kernel_rfl)
def mm12:Memo:=⟨51,[(.agg [iV 3,(.imm [[iV 1,iV 0,iV 1,iV 0,iV 0,bV false],[iV 1,iV 1,iV 1,iV 0,iV 0,bV false],[iV 1,iV 2,iV 1,iV 0,iV 0,bV false],[iV 1,iV 3,iV 1,iV 0,iV 0,bV false]])])],iV 0⟩
theorem mo12:mm12.Ok Tryz.prog:=Q0 (l:=[]) trivial mm12 (by kernel_rfl)
end Go.Known
end
section
namespace Go.Known
open Go Go.AE Go.Proofs
def mm13:Memo:=⟨52,[(.agg [iV 2,(.imm [[iV 1,iV 0,iV 1,iV 0,iV 0,bV false],[iV 1,iV 1,iV 1,iV 0,iV 0,bV false],[iV 1,iV 1,iV 2,iV 0,iV 0,bV false],[iV 1,iV 2,iV 1,iV 0,iV 0,bV false]])]),(.agg [bV false,bV false,bV false])],(.tuple [(.agg [iV 2,(.imm [[iV 1,iV 0,iV 1,iV 0,iV 0,bV false],[iV 1,iV 1,iV 1,iV 0,iV 0,bV false],[iV 1,iV 1,iV 2,iV 0,iV 0,bV false],[iV 1,iV 2,iV 1,iV 0,iV 0,bV false]])]),iV 0])⟩
theorem mo13:mm13.Ok Tryz.prog:=Q0 (l:=[mm4]) ⟨mo4,trivial⟩ mm13 (by kernel_rfl)
def mm14:Memo:=⟨36,[(.agg [iV 2,(.imm [[iV 1,iV 0,iV 1,iV 0,iV 0,bV false],[iV 1,iV 1,iV 1,iV 0,iV 0,bV false],[iV 1,iV 1,iV 2,iV 0,iV 0,bV false],[iV 1,iV 2,iV 1,iV 0,iV 0,bV false]])])],(.tuple [(.agg [iV 2,(.imm [[iV 1,iV 0,iV 1,iV 0,iV 0,bV false],[iV 1,iV 1,iV 1,iV 0,iV 0,bV false],[iV 1,iV 1,iV 2,iV 0,iV 0,bV false],[iV 1,iV 2,iV 1,iV 0,iV 0,bV false]])]),iV 0])⟩
theorem mo14:mm14.Ok Tryz.prog:=Q0 (l:=[]) trivial mm14 (by kernel_rfl)
def mm15:Memo:=⟨14,[(.agg [iV 2,(.imm [[iV 1,iV 0,iV 1,iV 0,iV 0,bV false],[iV 1,iV 1,iV 1,iV 0,iV 0,bV false],[iV 1,iV 1,iV 2,iV 0,iV 0,bV false],[iV 1,iV 2,iV 1,iV 0,iV 0,bV false]])]),(.agg [iV 2,(.imm [[iV 1,iV 0,iV 1,iV 0,iV 0,bV false],[iV 1,iV 1,iV 1,iV 0,iV 0,bV false],[iV 1,iV 1,iV 2,iV 0,iV 0,bV false],[iV 1,iV 2,iV 1,iV 0,iV 0,bV false]])])],(.tuple [bV true,iV 0])⟩
theorem mo15:mm15.Ok Tryz.prog:=Q0 (l:=[mm14]) ⟨mo14,trivial⟩ mm15 (by kernel_rfl)
def mm16:Memo:=⟨52,[(.agg [iV 2,(.imm [[iV 1,iV 0,iV 1,iV 0,iV 0,bV false],[iV 1,iV 1,iV 1,iV 0,iV 0,bV false],[iV 1,iV 1,iV 2,iV 0,iV 0,bV false],[iV 1,iV 2,iV 1,iV 0,iV 0,bV false]])]),(.agg [bV false,bV false,bV true])],(.tuple [(.agg [iV 2,(.imm [[iV 1,iV 1,iV 1,iV 0,iV 0,bV false],[iV 1,iV 1,iV 2,iV 0,iV 0,bV false],[iV 1,iV 2,iV 1,iV 0,iV 0,bV false],[iV 1,iV 0,iV 1,iV 0,iV 0,bV false]])]),iV 0])⟩
theorem mo16:mm16.Ok Tryz.prog:=Q0 (l:=[mm4,mm2]) ⟨mo4,mo2,trivial⟩ mm16 (by kernel_rfl)
def mm17:Memo:=⟨36,[(.agg [iV 2,(.imm [[iV 1,iV 1,iV 1,iV 0,iV 0,bV false],[iV 1,iV 1,iV 2,iV 0,iV 0,bV false],[iV 1,iV 2,iV 1,iV 0,iV 0,bV false],[iV 1,iV 0,iV 1,iV 0,iV 0,bV false]])])],(.tuple [(.agg [iV 2,(.imm [[iV 1,iV 0,iV 1,iV 0,iV 0,bV false],[iV 1,iV 2,iV 1,iV 0,iV 0,bV false],[iV 1,iV 1,iV 2,iV 0,iV 0,bV false],[iV 1,iV 1,iV 1,iV 0,iV 0,bV false]])]),iV 0])⟩
theorem mo17:mm17.Ok Tryz.prog:=Q0 (l:=[]) trivial mm17 (by kernel_rfl)
def mm18:Memo:=⟨14,[(.agg [iV 2,(.imm [[iV 1,iV 0,iV 1,iV 0,iV 0,bV false],[iV 1,iV 1,iV 1,iV 0,iV 0,bV false],[iV 1,iV 1,iV 2,iV 0,iV 0,bV false],[iV 1,iV 2,iV 1,iV 0,iV 0,bV false]])]),(.agg [iV 2,(.imm [[iV 1,iV 1,iV 1,iV 0,iV 0,bV false],[iV 1,iV 1,iV 2,iV 0,iV 0,bV false],[iV 1,iV 2,iV 1,iV 0,iV 0,bV false],[iV 1,iV 0,iV 1,iV 0,iV 0,bV false]])])],(.tuple [bV false,iV 0])⟩
theorem mo18:mm18.Ok Tryz.prog:=Q0 (l:=[mm14,mm17]) ⟨mo14,mo17,trivial⟩ mm18 (by kernel_rfl)
def mm19:Memo:=⟨95,[(.agg [iV 2,(.imm [[iV 1,iV 0,iV 1,iV 0,iV 0,bV false],[iV 1,iV 1,iV 1,iV 0,iV 0,bV false],[iV 1,iV 1,iV 2,iV 0,iV 0,bV false],[iV 1,iV 2,iV 1,iV 0,iV 0,bV false]])])],(.tuple [(.agg [iV 2,(.imm [[iV 1,iV 2,iV 1,iV 0,iV 0,bV false],[iV 1,iV 1,iV 2,iV 0,iV 0,bV false],[iV 1,iV 1,iV 1,iV 0,iV 0,bV false],[iV 1,iV 0,iV 1,iV 0,iV 0,bV false]])]),iV 0])⟩
theorem mo19:mm19.Ok Tryz.prog:=Q0 (l:=[]) trivial mm19 (by kernel_rfl)
def mm20:Memo:=⟨52,[(.agg [iV 2,(.imm [[iV 1,iV 0,iV 1,iV 0,iV 0,bV false],[iV 1,iV 1,iV 1,iV 0,iV 0,bV false],[iV 1,iV 1,iV 2,iV 0,iV 0,bV false],[iV 1,iV 2,iV 1,iV 0,iV 0,bV false]])]),(.agg [bV false,bV true,bV false])],(.tuple [(.agg [iV 2,(.imm [[iV 1,iV 2,iV 1,iV 0,iV 0,bV false],[iV 1,iV 1,iV 2,iV 0,iV 0,bV false],[iV 1,iV 1,iV 1,iV 0,iV 0,bV false],[iV 1,iV 0,iV 1,iV 0,iV 0,bV false]])]),iV 0])⟩
theorem mo20:mm20.Ok Tryz.prog:=Q0 (l:=[mm4,mm19]) ⟨mo4,mo19,trivial⟩ mm20 (by kernel_rfl)
def mm21:Memo:=⟨36,[(.agg [iV 2,(.imm [[iV 1,iV 2,iV 1,iV 0,iV 0,bV false],[iV 1,iV 1,iV 2,iV 0,iV 0,bV false],[iV 1,iV 1,iV 1,iV 0,iV 0,bV false],[iV 1,iV 0,iV 1,iV 0,iV 0,bV false]])])],(.tuple [(.agg [iV 2,(.imm [[iV 1,iV 0,iV 1,iV 0,iV 0,bV false],[iV 1,iV 1,iV 1,iV 0,iV 0,bV false],[iV 1,iV 1,iV 2,iV 0,iV 0,bV false],[iV 1,iV 2,iV 1,iV 0,iV 0,bV false]])]),iV 0])⟩
theorem mo21:mm21.Ok Tryz.prog:=Q0 (l:=[]) trivial mm21 (by kernel_rfl)
def mm22:Memo:=⟨14,[(.agg [iV 2,(.imm [[iV 1,iV 0,iV 1,iV 0,iV 0,bV false],[iV 1,iV 1,iV 1,iV 0,iV 0,bV false],[iV 1,iV 1,iV 2,iV 0,iV 0,bV false],[iV 1,iV 2,iV 1,iV 0,iV 0,bV false]])]),(.agg [iV 2,(.imm [[iV 1,iV 2,iV 1,iV 0,iV 0,bV false],[iV 1,iV 1,iV 2,iV 0,iV 0,bV false],[iV 1,iV 1,iV 1,iV 0,iV 0,bV false],[iV 1,iV 0,iV 1,iV 0,iV 0,bV false]])])],(.tuple [bV true,iV 0])⟩
theorem mo22:mm22.Ok Tryz.prog:=Q0 (l:=[mm14,mm21]) ⟨mo14,mo21,trivial⟩ mm22 (by kernel_rfl)
end Go.Known
end
section
namespace Go.Known
open Go Go.AE Go.Proofs
def mm23:Memo:=⟨34,[(.agg [iV 2,(.imm [[iV 1,iV 2,iV 1,iV 0,iV 0,bV false],[iV 1,iV 1,iV 2,iV 0,iV 0,bV false],[iV 1,iV 1,iV 1,iV 0,iV 0,bV false],[iV 1,iV 0,iV 1,iV 0,iV 0,bV false]])])],(.tuple [(.agg [iV 2,(.imm [[iV 1,iV 1,iV 2,iV 0,iV 0,bV false],[iV 1,iV 1,iV 1,iV 0,iV 0,bV false],[iV 1,iV 0,iV 1,iV 0,iV 0,bV false],[iV 1,iV 2,iV 1,iV 0,iV 0,bV false]])]),iV 0])⟩
theorem mo23:mm23.Ok Tryz.prog:=Q0 (l:=[]) trivial mm23 (by kernel_rfl)
def mm24:Memo:=⟨52,[(.agg [iV 2,(.imm [[iV 1,iV 0,iV 1,iV 0,iV 0,bV false],[iV 1,iV 1,iV 1,iV 0,iV 0,bV false],[iV 1,iV 1,iV 2,iV 0,iV 0,bV false],[iV 1,iV 2,iV 1,iV 0,iV 0,bV false]])]),(.agg [bV false,bV true,bV true])],(.tuple [(.agg [iV 2,(.imm [[iV 1,iV 1,iV 2,iV 0,iV 0,bV false],[iV 1,iV 1,iV 1,iV 0,iV 0,bV false],[iV 1,iV 0,iV 1,iV 0,iV 0,bV false],[iV 1,iV 2,iV 1,iV 0,iV 0,bV false]])]),iV 0])⟩
theorem mo24:mm24.Ok Tryz.prog:=Q0 (l:=[mm4,mm19,mm23]) ⟨mo4,mo19,mo23,trivial⟩ mm24 (by kernel_rfl)
def mm25:Memo:=⟨36,[(.agg [iV 2,(.imm [[iV 1,iV 1,iV 2,iV 0,iV 0,bV false],[iV 1,iV 1,iV 1,iV 0,iV 0,bV false],[iV 1,iV 0,iV 1,iV 0,iV 0,bV false],[iV 1,iV 2,iV 1,iV 0,iV 0,bV false]])])],(.tuple [(.agg [iV 2,(.imm [[iV 1,iV 0,iV 1,iV 0,iV 0,bV false],[iV 1,iV 2,iV 1,iV 0,iV 0,bV false],[iV 1,iV 1,iV 2,iV 0,iV 0,bV false],[iV 1,iV 1,iV 1,iV 0,iV 0,bV false]])]),iV 0])⟩
theorem mo25:mm25.Ok Tryz.prog:=Q0 (l:=[]) trivial mm25 (by kernel_rfl)
def mm26:Memo:=⟨14,[(.agg [iV 2,(.imm [[iV 1,iV 0,iV 1,iV 0,iV 0,bV false],[iV 1,iV 1,iV 1,iV 0,iV 0,bV false],[iV 1,iV 1,iV 2,iV 0,iV 0,bV false],[iV 1,iV 2,iV 1,iV 0,iV 0,bV false]])]),(.agg [iV 2,(.imm [[iV 1,iV 1,iV 2,iV 0,iV 0,bV false],[iV 1,iV 1,iV 1,iV 0,iV 0,bV false],[iV 1,iV 0,iV 1,iV 0,iV 0,bV false],[iV 1,iV 2,iV 1,iV 0,iV 0,bV false]])])],(.tuple [bV false,iV 0])⟩
theorem mo26:mm26.Ok Tryz.prog:=Q0 (l:=[mm14,mm25]) ⟨mo14,mo25,trivial⟩ mm26 (by kernel_rfl)
def mm27:Memo:=⟨94,[(.agg [iV 2,(.imm [[iV 1,iV 0,iV 1,iV 0,iV 0,bV false],[iV 1,iV 1,iV 1,iV 0,iV 0,bV false],[iV 1,iV 1,iV 2,iV 0,iV 0,bV false],[iV 1,iV 2,iV 1,iV 0,iV 0,bV false]])])],(.tuple [(.agg [iV 2,(.imm [[iV 1,iV 0,iV 1,iV 0,iV 0,bV false],[iV 1,iV 1,iV 1,iV 0,iV 0,bV false],[iV 1,iV 1,iV 2,iV 0,iV 0,bV false],[iV 1,iV 2,iV 1,iV 0,iV 0,bV false]])]),iV 0])⟩
theorem mo27:mm27.Ok Tryz.prog:=Q0 (l:=[]) trivial mm27 (by kernel_rfl)
def mm28:Memo:=⟨52,[(.agg [iV 2,(.imm [[iV 1,iV 0,iV 1,iV 0,iV 0,bV false],[iV 1,iV 1,iV 1,iV 0,iV 0,bV false],[iV 1,iV 1,iV 2,iV 0,iV 0,bV false],[iV 1,iV 2,iV 1,iV 0,iV 0,bV false]])]),(.agg [bV true,bV false,bV false])],(.tuple [(.agg [iV 2,(.imm [[iV 1,iV 0,iV 1,iV 0,iV 0,bV false],[iV 1,iV 1,iV 1,iV 0,iV 0,bV false],[iV 1,iV 1,iV 2,iV 0,iV 0,bV false],[iV 1,iV 2,iV 1,iV 0,iV 0,bV false]])]),iV 0])⟩
theorem mo28:mm28.Ok Tryz.prog:=Q0 (l:=[mm4,mm27]) ⟨mo4,mo27,trivial⟩ mm28 (by kernel_rfl)
def mm29:Memo:=⟨52,[(.agg [iV 2,(.imm [[iV 1,iV 0,iV 1,iV 0,iV 0,bV false],[iV 1,iV 1,iV 1,iV 0,iV 0,bV false],[iV 1,iV 1,iV 2,iV 0,iV 0,bV false],[iV 1,iV 2,iV 1,iV 0,iV 0,bV false]])]),(.agg [bV true,bV false,bV true])],(.tuple [(.agg [iV 2,(.imm [[iV 1,iV 1,iV 1,iV 0,iV 0,bV false],[iV 1,iV 1,iV 2,iV 0,iV 0,bV false],[iV 1,iV 2,iV 1,iV 0,iV 0,bV false],[iV 1,iV 0,iV 1,iV 0,iV 0,bV false]])]),iV 0])⟩
theorem mo29:mm29.Ok Tryz.prog:=Q0 (l:=[mm4,mm27,mm2]) ⟨mo4,mo27,mo2,trivial⟩ mm29 (by kernel_rfl)
def mm30:Memo:=⟨52,[(.agg [iV 2,(.imm [[iV 1,iV 0,iV 1,iV 0,iV 0,bV false],[iV 1,iV 1,iV 1,iV 0,iV 0,bV false],[iV 1,iV 1,iV 2,iV 0,iV 0,bV false],[iV 1,iV 2,iV 1,iV 0,iV 0,bV false]])]),(.agg [bV true,bV true,bV false])],(.tuple [(.agg [iV 2,(.imm [[iV 1,iV 2,iV 1,iV 0,iV 0,bV false],[iV 1,iV 1,iV 2,iV 0,iV 0,bV false],[iV 1,iV 1,iV 1,iV 0,iV 0,bV false],[iV 1,iV 0,iV 1,iV 0,iV 0,bV false]])]),iV 0])⟩
theorem mo30:mm30.Ok Tryz.prog:=Q0 (l:=[mm4,mm27,mm19]) ⟨mo4,mo27,mo19,trivial⟩ mm30 (by kernel_rfl)
def mm31:Memo:=⟨52,[(.agg [iV 2,(.imm [[iV 1,iV 0,iV 1,iV 0,iV 0,bV false],[iV 1,iV 1,iV 1,iV 0,iV 0,bV false],[iV 1,iV 1,iV 2,iV 0,iV 0,bV false],[iV 1,iV 2,iV 1,iV 0,iV 0,bV false]])]),(.agg [bV true,bV true,bV true])],(.tuple [(.agg [iV 2,(.imm [[iV 1,iV 1,iV 2,iV 0,iV 0,bV false],[iV 1,iV 1,iV 1,iV 0,iV 0,bV false],[iV 1,iV 0,iV 1,iV 0,iV 0,bV false],[iV 1,iV 2,iV 1,iV 0,iV 0,bV false]])]),iV 0])⟩
theorem mo31:mm31.Ok Tryz.prog:=Q0 (l:=[mm4,mm27,mm19,mm23]) ⟨mo4,mo27,mo19,mo23,trivial⟩ mm31 (by kernel_rfl)
def mm32:Memo:=⟨24,[(.agg [iV 2,(.imm [[iV 1,iV 0,iV 1,iV 0,iV 0,bV false],[iV 1,iV 1,iV 1,iV 0,iV 0,bV false],[iV 1,iV 1,iV 2,iV 0,iV 0,bV false],[iV 1,iV 2,iV 1,iV 0,iV 0,bV false]])])],(.tuple [(.imm [[bV false,bV false,bV false],[bV false,bV true,bV false],[bV true,bV false,bV false],[bV true,bV true,bV false]]),iV 0])⟩
theorem mo32:mm32.Ok Tryz.prog:=Q0 (l:=[mm4,mm13,mm15,mm16,mm18,mm20,mm22,mm24,mm26,mm28,mm29,mm30,mm31]) ⟨mo4,mo13,mo15,mo16,mo18,mo20,mo22,mo24,mo26,mo28,mo29,mo30,mo31,trivial⟩ mm32 (by kernel_rfl)
def mm33:Memo:=⟨8,[],bV true⟩
theorem mo33:mm33.Ok Tryz.prog:=Q0 (l:=[mm1,mm3,mm6,mm5,mm8,mm10,mm4,mm11,mm12,mm32]) ⟨mo1,mo3,mo6,mo5,mo8,mo10,mo4,mo11,mo12,mo32,trivial⟩ mm33 (by kernel_rfl)
end Go.Known
end
