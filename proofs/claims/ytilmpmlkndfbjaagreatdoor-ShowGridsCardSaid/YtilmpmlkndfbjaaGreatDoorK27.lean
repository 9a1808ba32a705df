/- Part 27 of the proof: Km0, Km1, Km2. -/
import Derived.Test.YtilmpmlkndfbjaaGreatDoorK12
set_option linter.all false
section
namespace Go.Ab
open Go Go.AE Go.Proofs
def XM:AN:=⟨19,[],(.tuple [(.agg [(.An [[iV 1,bV false,iV 1],[iV 1,bV true,iV 1]]),iV 6,iV 4]),(.agg [iV 2,(.An [[iV 1,iV 0,iV 1,iV 0,iV 0,bV false],[iV 1,iV 1,iV 1,iV 0,iV 0,bV false],[iV 1,iV 1,iV 2,iV 0,iV 0,bV false],[iV 1,iV 2,iV 1,iV 0,iV 0,bV false]])])])⟩
theorem mo1:XM.Ok Tryz.prog:=S3 (l:=[]) trivial XM (by kernel_rfl)
def Rx:AN:=⟨34,[(.agg [iV 2,(.An [[iV 1,iV 0,iV 1,iV 0,iV 0,bV false],[iV 1,iV 1,iV 1,iV 0,iV 0,bV false],[iV 1,iV 1,iV 2,iV 0,iV 0,bV false],[iV 1,iV 2,iV 1,iV 0,iV 0,bV false]])])],(.tuple [(.agg [iV 2,(.An [[iV 1,iV 1,iV 1,iV 0,iV 0,bV false],[iV 1,iV 1,iV 2,iV 0,iV 0,bV false],[iV 1,iV 2,iV 1,iV 0,iV 0,bV false],[iV 1,iV 0,iV 1,iV 0,iV 0,bV false]])]),iV 0])⟩
theorem jR:Rx.Ok Tryz.prog:=S3 (l:=[]) trivial Rx (by kernel_rfl)
def jD:AN:=⟨13,[(.agg [iV 2,(.An [[iV 1,iV 0,iV 1,iV 0,iV 0,bV false],[iV 1,iV 1,iV 1,iV 0,iV 0,bV false],[iV 1,iV 1,iV 2,iV 0,iV 0,bV false],[iV 1,iV 2,iV 1,iV 0,iV 0,bV false]])])],(.tuple [(.agg [iV 2,(.An [[iV 1],[iV 2],[iV 1]]),(.An [[iV 1,iV 1,iV 0,bV false],[iV 1,iV 0,iV 0,bV false]]),(.An [[iV 1,iV 0,iV 0,bV false],[iV 1,iV 0,iV 0,bV false]])]),iV 0])⟩
theorem mo3:jD.Ok Tryz.prog:=S3 (l:=[Rx]) ⟨jR,trivial⟩ jD (by kernel_rfl)
def EX:AN:=⟨51,[(.agg [iV 2,(.An [[iV 1,iV 0,iV 1,iV 0,iV 0,bV false],[iV 1,iV 1,iV 1,iV 0,iV 0,bV false],[iV 1,iV 1,iV 2,iV 0,iV 0,bV false],[iV 1,iV 2,iV 1,iV 0,iV 0,bV false]])])],iV 0⟩
theorem Jh:EX.Ok Tryz.prog:=S3 (l:=[]) trivial EX (by kernel_rfl)
def XN:AN:=⟨9,[(.agg [iV 2,(.An [[iV 1],[iV 2],[iV 1]]),(.An [[iV 1,iV 1,iV 0,bV false],[iV 1,iV 0,iV 0,bV false]]),(.An [[iV 1,iV 0,iV 0,bV false],[iV 1,iV 0,iV 0,bV false]])])],(.tuple [(.agg [iV 2,(.An [[iV 1,iV 0,iV 1,iV 0,iV 0,bV false],[iV 1,iV 1,iV 1,iV 0,iV 0,bV false],[iV 1,iV 1,iV 2,iV 0,iV 0,bV false],[iV 1,iV 2,iV 1,iV 0,iV 0,bV false]])]),iV 0])⟩
theorem xP:XN.Ok Tryz.prog:=S3 (l:=[EX]) ⟨Jh,trivial⟩ XN (by kernel_rfl)
def jE:AN:=⟨16,[(.agg [iV 2,(.An [[iV 1],[iV 2],[iV 1]]),(.An [[iV 1,iV 1,iV 0,bV false],[iV 1,iV 0,iV 0,bV false]]),(.An [[iV 1,iV 0,iV 0,bV false],[iV 1,iV 0,iV 0,bV false]])])],(.tuple [(.An [[(.str [94,32,94])],[(.str [124,32,94,32,94,32,124])],[(.str [124,32,49,32,124,32,124,32,50,32,124])],[(.str [118,32,118,32,124,32,124])],[(.str [118,32,118])]]),iV 0])⟩
theorem mo6:jE.Ok Tryz.prog:=S3 (l:=[XN]) ⟨xP,trivial⟩ jE (by kernel_rfl)
def jF:AN:=⟨46,[(.agg [iV 2,(.An [[iV 1,iV 0,iV 1,iV 0,iV 0,bV false],[iV 1,iV 1,iV 1,iV 0,iV 0,bV false],[iV 1,iV 1,iV 2,iV 0,iV 0,bV false],[iV 1,iV 2,iV 1,iV 0,iV 0,bV false]])])],(.agg [iV 2,(.An [[iV 1,iV 0,iV 1,iV 0,iV 0,bV false],[iV 1,iV 1,iV 1,iV 0,iV 0,bV false],[iV 1,iV 1,iV 2,iV 0,iV 0,bV false],[iV 1,iV 2,iV 1,iV 0,iV 0,bV false]])])⟩
theorem mo7:jF.Ok Tryz.prog:=S3 (l:=[]) trivial jF (by kernel_rfl)
def jG:AN:=⟨20,[(.agg [iV 2,(.An [[iV 1,iV 0,iV 1,iV 0,iV 0,bV false],[iV 1,iV 1,iV 1,iV 0,iV 0,bV false],[iV 1,iV 1,iV 2,iV 0,iV 0,bV false],[iV 1,iV 2,iV 1,iV 0,iV 0,bV false]])]),(.agg [iV 2,(.An [[iV 1,iV 0,iV 1,iV 0,iV 0,bV false],[iV 1,iV 1,iV 1,iV 0,iV 0,bV false],[iV 1,iV 1,iV 2,iV 0,iV 0,bV false],[iV 1,iV 2,iV 1,iV 0,iV 0,bV false]])])],bV true⟩
theorem mo8:jG.Ok Tryz.prog:=S3 (l:=[jF]) ⟨mo7,trivial⟩ jG (by kernel_rfl)
def jH:AN:=⟨34,[(.agg [iV 2,(.An [[iV 1,iV 0,iV 1,iV 0,iV 0,bV false],[iV 2,iV 0,iV 0,iV 1,iV 1,bV false],[iV 2,iV 0,iV 0,iV 1,iV 1,bV true],[iV 1,iV 1,iV 1,iV 0,iV 0,bV false]])])],(.tuple [(.agg [iV 2,(.An [[iV 1,iV 1,iV 1,iV 0,iV 0,bV false],[iV 1,iV 0,iV 1,iV 0,iV 0,bV false],[iV 2,iV 0,iV 0,iV 1,iV 1,bV true],[iV 2,iV 0,iV 0,iV 1,iV 1,bV false]])]),iV 0])⟩
theorem mo9:jH.Ok Tryz.prog:=S3 (l:=[]) trivial jH (by kernel_rfl)
def PG:AN:=⟨13,[(.agg [iV 2,(.An [[iV 1,iV 0,iV 1,iV 0,iV 0,bV false],[iV 2,iV 0,iV 0,iV 1,iV 1,bV false],[iV 2,iV 0,iV 0,iV 1,iV 1,bV true],[iV 1,iV 1,iV 1,iV 0,iV 0,bV false]])])],(.tuple [(.agg [iV 2,(.An [[iV 1],[iV 1],[iV 0]]),(.An [[iV 1,iV 0,iV 0,bV false]]),(.An [[iV 2,iV 0,iV 1,bV true],[iV 1,iV 1,iV 0,bV false],[iV 1,iV 0,iV 0,bV false]])]),iV 0])⟩
theorem jJ:PG.Ok Tryz.prog:=S3 (l:=[jH]) ⟨mo9,trivial⟩ PG (by kernel_rfl)
def PI:AN:=⟨87,[(.agg [iV 2,(.An [[iV 1,iV 0,iV 1,iV 0,iV 0,bV false],[iV 1,iV 1,iV 1,iV 0,iV 0,bV false],[iV 1,iV 1,iV 2,iV 0,iV 0,bV false],[iV 1,iV 2,iV 1,iV 0,iV 0,bV false]])]),(.agg [iV 1,iV 1])],(.tuple [(.agg [iV 3,(.An [[iV 1,iV 0,iV 1,iV 0,iV 0,bV false],[iV 1,iV 1,iV 1,iV 0,iV 0,bV false],[iV 1,iV 2,iV 1,iV 0,iV 0,bV false],[iV 1,iV 3,iV 1,iV 0,iV 0,bV false]])]),iV 0])⟩
theorem jK:PI.Ok Tryz.prog:=S3 (l:=[]) trivial PI (by kernel_rfl)
def PJ:AN:=⟨51,[(.agg [iV 3,(.An [[iV 1,iV 0,iV 1,iV 0,iV 0,bV false],[iV 1,iV 1,iV 1,iV 0,iV 0,bV false],[iV 1,iV 2,iV 1,iV 0,iV 0,bV false],[iV 1,iV 3,iV 1,iV 0,iV 0,bV false]])])],iV 0⟩
theorem jL:PJ.Ok Tryz.prog:=S3 (l:=[]) trivial PJ (by kernel_rfl)
end Go.Ab
end
section
namespace Go.Ab
open Go Go.AE Go.Proofs
def PM:AN:=⟨52,[(.agg [iV 2,(.An [[iV 1,iV 0,iV 1,iV 0,iV 0,bV false],[iV 1,iV 1,iV 1,iV 0,iV 0,bV false],[iV 1,iV 1,iV 2,iV 0,iV 0,bV false],[iV 1,iV 2,iV 1,iV 0,iV 0,bV false]])]),(.agg [bV false,bV false,bV false])],(.tuple [(.agg [iV 2,(.An [[iV 1,iV 0,iV 1,iV 0,iV 0,bV false],[iV 1,iV 1,iV 1,iV 0,iV 0,bV false],[iV 1,iV 1,iV 2,iV 0,iV 0,bV false],[iV 1,iV 2,iV 1,iV 0,iV 0,bV false]])]),iV 0])⟩
theorem jM:PM.Ok Tryz.prog:=S3 (l:=[EX]) ⟨Jh,trivial⟩ PM (by kernel_rfl)
def HV:AN:=⟨36,[(.agg [iV 2,(.An [[iV 1,iV 0,iV 1,iV 0,iV 0,bV false],[iV 1,iV 1,iV 1,iV 0,iV 0,bV false],[iV 1,iV 1,iV 2,iV 0,iV 0,bV false],[iV 1,iV 2,iV 1,iV 0,iV 0,bV false]])])],(.tuple [(.agg [iV 2,(.An [[iV 1,iV 0,iV 1,iV 0,iV 0,bV false],[iV 1,iV 1,iV 1,iV 0,iV 0,bV false],[iV 1,iV 1,iV 2,iV 0,iV 0,bV false],[iV 1,iV 2,iV 1,iV 0,iV 0,bV false]])]),iV 0])⟩
theorem Mt:HV.Ok Tryz.prog:=S3 (l:=[]) trivial HV (by kernel_rfl)
def PN:AN:=⟨14,[(.agg [iV 2,(.An [[iV 1,iV 0,iV 1,iV 0,iV 0,bV false],[iV 1,iV 1,iV 1,iV 0,iV 0,bV false],[iV 1,iV 1,iV 2,iV 0,iV 0,bV false],[iV 1,iV 2,iV 1,iV 0,iV 0,bV false]])]),(.agg [iV 2,(.An [[iV 1,iV 0,iV 1,iV 0,iV 0,bV false],[iV 1,iV 1,iV 1,iV 0,iV 0,bV false],[iV 1,iV 1,iV 2,iV 0,iV 0,bV false],[iV 1,iV 2,iV 1,iV 0,iV 0,bV false]])])],(.tuple [bV true,iV 0])⟩
theorem jN:PN.Ok Tryz.prog:=S3 (l:=[HV]) ⟨Mt,trivial⟩ PN (by kernel_rfl)
def PO:AN:=⟨52,[(.agg [iV 2,(.An [[iV 1,iV 0,iV 1,iV 0,iV 0,bV false],[iV 1,iV 1,iV 1,iV 0,iV 0,bV false],[iV 1,iV 1,iV 2,iV 0,iV 0,bV false],[iV 1,iV 2,iV 1,iV 0,iV 0,bV false]])]),(.agg [bV false,bV false,bV true])],(.tuple [(.agg [iV 2,(.An [[iV 1,iV 1,iV 1,iV 0,iV 0,bV false],[iV 1,iV 1,iV 2,iV 0,iV 0,bV false],[iV 1,iV 2,iV 1,iV 0,iV 0,bV false],[iV 1,iV 0,iV 1,iV 0,iV 0,bV false]])]),iV 0])⟩
theorem jO:PO.Ok Tryz.prog:=S3 (l:=[EX,Rx]) ⟨Jh,jR,trivial⟩ PO (by kernel_rfl)
def PS:AN:=⟨36,[(.agg [iV 2,(.An [[iV 1,iV 1,iV 1,iV 0,iV 0,bV false],[iV 1,iV 1,iV 2,iV 0,iV 0,bV false],[iV 1,iV 2,iV 1,iV 0,iV 0,bV false],[iV 1,iV 0,iV 1,iV 0,iV 0,bV false]])])],(.tuple [(.agg [iV 2,(.An [[iV 1,iV 0,iV 1,iV 0,iV 0,bV false],[iV 1,iV 2,iV 1,iV 0,iV 0,bV false],[iV 1,iV 1,iV 2,iV 0,iV 0,bV false],[iV 1,iV 1,iV 1,iV 0,iV 0,bV false]])]),iV 0])⟩
theorem jP:PS.Ok Tryz.prog:=S3 (l:=[]) trivial PS (by kernel_rfl)
def PT:AN:=⟨14,[(.agg [iV 2,(.An [[iV 1,iV 0,iV 1,iV 0,iV 0,bV false],[iV 1,iV 1,iV 1,iV 0,iV 0,bV false],[iV 1,iV 1,iV 2,iV 0,iV 0,bV false],[iV 1,iV 2,iV 1,iV 0,iV 0,bV false]])]),(.agg [iV 2,(.An [[iV 1,iV 1,iV 1,iV 0,iV 0,bV false],[iV 1,iV 1,iV 2,iV 0,iV 0,bV false],[iV 1,iV 2,iV 1,iV 0,iV 0,bV false],[iV 1,iV 0,iV 1,iV 0,iV 0,bV false]])])],(.tuple [bV false,iV 0])⟩
theorem jQ:PT.Ok Tryz.prog:=S3 (l:=[HV,PS]) ⟨Mt,jP,trivial⟩ PT (by kernel_rfl)
def HW:AN:=⟨95,[(.agg [iV 2,(.An [[iV 1,iV 0,iV 1,iV 0,iV 0,bV false],[iV 1,iV 1,iV 1,iV 0,iV 0,bV false],[iV 1,iV 1,iV 2,iV 0,iV 0,bV false],[iV 1,iV 2,iV 1,iV 0,iV 0,bV false]])])],(.tuple [(.agg [iV 2,(.An [[iV 1,iV 2,iV 1,iV 0,iV 0,bV false],[iV 1,iV 1,iV 2,iV 0,iV 0,bV false],[iV 1,iV 1,iV 1,iV 0,iV 0,bV false],[iV 1,iV 0,iV 1,iV 0,iV 0,bV false]])]),iV 0])⟩
theorem Mu:HW.Ok Tryz.prog:=S3 (l:=[]) trivial HW (by kernel_rfl)
def PU:AN:=⟨52,[(.agg [iV 2,(.An [[iV 1,iV 0,iV 1,iV 0,iV 0,bV false],[iV 1,iV 1,iV 1,iV 0,iV 0,bV false],[iV 1,iV 1,iV 2,iV 0,iV 0,bV false],[iV 1,iV 2,iV 1,iV 0,iV 0,bV false]])]),(.agg [bV false,bV true,bV false])],(.tuple [(.agg [iV 2,(.An [[iV 1,iV 2,iV 1,iV 0,iV 0,bV false],[iV 1,iV 1,iV 2,iV 0,iV 0,bV false],[iV 1,iV 1,iV 1,iV 0,iV 0,bV false],[iV 1,iV 0,iV 1,iV 0,iV 0,bV false]])]),iV 0])⟩
theorem jS:PU.Ok Tryz.prog:=S3 (l:=[EX,HW]) ⟨Jh,Mu,trivial⟩ PU (by kernel_rfl)
def PW:AN:=⟨36,[(.agg [iV 2,(.An [[iV 1,iV 2,iV 1,iV 0,iV 0,bV false],[iV 1,iV 1,iV 2,iV 0,iV 0,bV false],[iV 1,iV 1,iV 1,iV 0,iV 0,bV false],[iV 1,iV 0,iV 1,iV 0,iV 0,bV false]])])],(.tuple [(.agg [iV 2,(.An [[iV 1,iV 0,iV 1,iV 0,iV 0,bV false],[iV 1,iV 1,iV 1,iV 0,iV 0,bV false],[iV 1,iV 1,iV 2,iV 0,iV 0,bV false],[iV 1,iV 2,iV 1,iV 0,iV 0,bV false]])]),iV 0])⟩
theorem jT:PW.Ok Tryz.prog:=S3 (l:=[]) trivial PW (by kernel_rfl)
def PX:AN:=⟨14,[(.agg [iV 2,(.An [[iV 1,iV 0,iV 1,iV 0,iV 0,bV false],[iV 1,iV 1,iV 1,iV 0,iV 0,bV false],[iV 1,iV 1,iV 2,iV 0,iV 0,bV false],[iV 1,iV 2,iV 1,iV 0,iV 0,bV false]])]),(.agg [iV 2,(.An [[iV 1,iV 2,iV 1,iV 0,iV 0,bV false],[iV 1,iV 1,iV 2,iV 0,iV 0,bV false],[iV 1,iV 1,iV 1,iV 0,iV 0,bV false],[iV 1,iV 0,iV 1,iV 0,iV 0,bV false]])])],(.tuple [bV true,iV 0])⟩
theorem jU:PX.Ok Tryz.prog:=S3 (l:=[HV,PW]) ⟨Mt,jT,trivial⟩ PX (by kernel_rfl)
end Go.Ab
end
section
namespace Go.Ab
open Go Go.AE Go.Proofs
def Ms:AN:=⟨34,[(.agg [iV 2,(.An [[iV 1,iV 2,iV 1,iV 0,iV 0,bV false],[iV 1,iV 1,iV 2,iV 0,iV 0,bV false],[iV 1,iV 1,iV 1,iV 0,iV 0,bV false],[iV 1,iV 0,iV 1,iV 0,iV 0,bV false]])])],(.tuple [(.agg [iV 2,(.An [[iV 1,iV 1,iV 2,iV 0,iV 0,bV false],[iV 1,iV 1,iV 1,iV 0,iV 0,bV false],[iV 1,iV 0,iV 1,iV 0,iV 0,bV false],[iV 1,iV 2,iV 1,iV 0,iV 0,bV false]])]),iV 0])⟩
theorem Vl:Ms.Ok Tryz.prog:=S3 (l:=[]) trivial Ms (by kernel_rfl)
def PY:AN:=⟨52,[(.agg [iV 2,(.An [[iV 1,iV 0,iV 1,iV 0,iV 0,bV false],[iV 1,iV 1,iV 1,iV 0,iV 0,bV false],[iV 1,iV 1,iV 2,iV 0,iV 0,bV false],[iV 1,iV 2,iV 1,iV 0,iV 0,bV false]])]),(.agg [bV false,bV true,bV true])],(.tuple [(.agg [iV 2,(.An [[iV 1,iV 1,iV 2,iV 0,iV 0,bV false],[iV 1,iV 1,iV 1,iV 0,iV 0,bV false],[iV 1,iV 0,iV 1,iV 0,iV 0,bV false],[iV 1,iV 2,iV 1,iV 0,iV 0,bV false]])]),iV 0])⟩
theorem jV:PY.Ok Tryz.prog:=S3 (l:=[EX,HW,Ms]) ⟨Jh,Mu,Vl,trivial⟩ PY (by kernel_rfl)
def PZ:AN:=⟨36,[(.agg [iV 2,(.An [[iV 1,iV 1,iV 2,iV 0,iV 0,bV false],[iV 1,iV 1,iV 1,iV 0,iV 0,bV false],[iV 1,iV 0,iV 1,iV 0,iV 0,bV false],[iV 1,iV 2,iV 1,iV 0,iV 0,bV false]])])],(.tuple [(.agg [iV 2,(.An [[iV 1,iV 0,iV 1,iV 0,iV 0,bV false],[iV 1,iV 2,iV 1,iV 0,iV 0,bV false],[iV 1,iV 1,iV 2,iV 0,iV 0,bV false],[iV 1,iV 1,iV 1,iV 0,iV 0,bV false]])]),iV 0])⟩
theorem jW:PZ.Ok Tryz.prog:=S3 (l:=[]) trivial PZ (by kernel_rfl)
def Qa:AN:=⟨14,[(.agg [iV 2,(.An [[iV 1,iV 0,iV 1,iV 0,iV 0,bV false],[iV 1,iV 1,iV 1,iV 0,iV 0,bV false],[iV 1,iV 1,iV 2,iV 0,iV 0,bV false],[iV 1,iV 2,iV 1,iV 0,iV 0,bV false]])]),(.agg [iV 2,(.An [[iV 1,iV 1,iV 2,iV 0,iV 0,bV false],[iV 1,iV 1,iV 1,iV 0,iV 0,bV false],[iV 1,iV 0,iV 1,iV 0,iV 0,bV false],[iV 1,iV 2,iV 1,iV 0,iV 0,bV false]])])],(.tuple [bV false,iV 0])⟩
theorem jX:Qa.Ok Tryz.prog:=S3 (l:=[HV,PZ]) ⟨Mt,jW,trivial⟩ Qa (by kernel_rfl)
def HX:AN:=⟨94,[(.agg [iV 2,(.An [[iV 1,iV 0,iV 1,iV 0,iV 0,bV false],[iV 1,iV 1,iV 1,iV 0,iV 0,bV false],[iV 1,iV 1,iV 2,iV 0,iV 0,bV false],[iV 1,iV 2,iV 1,iV 0,iV 0,bV false]])])],(.tuple [(.agg [iV 2,(.An [[iV 1,iV 0,iV 1,iV 0,iV 0,bV false],[iV 1,iV 1,iV 1,iV 0,iV 0,bV false],[iV 1,iV 1,iV 2,iV 0,iV 0,bV false],[iV 1,iV 2,iV 1,iV 0,iV 0,bV false]])]),iV 0])⟩
theorem Mv:HX.Ok Tryz.prog:=S3 (l:=[]) trivial HX (by kernel_rfl)
def Qb:AN:=⟨52,[(.agg [iV 2,(.An [[iV 1,iV 0,iV 1,iV 0,iV 0,bV false],[iV 1,iV 1,iV 1,iV 0,iV 0,bV false],[iV 1,iV 1,iV 2,iV 0,iV 0,bV false],[iV 1,iV 2,iV 1,iV 0,iV 0,bV false]])]),(.agg [bV true,bV false,bV false])],(.tuple [(.agg [iV 2,(.An [[iV 1,iV 0,iV 1,iV 0,iV 0,bV false],[iV 1,iV 1,iV 1,iV 0,iV 0,bV false],[iV 1,iV 1,iV 2,iV 0,iV 0,bV false],[iV 1,iV 2,iV 1,iV 0,iV 0,bV false]])]),iV 0])⟩
theorem jY:Qb.Ok Tryz.prog:=S3 (l:=[EX,HX]) ⟨Jh,Mv,trivial⟩ Qb (by kernel_rfl)
def Qc:AN:=⟨52,[(.agg [iV 2,(.An [[iV 1,iV 0,iV 1,iV 0,iV 0,bV false],[iV 1,iV 1,iV 1,iV 0,iV 0,bV false],[iV 1,iV 1,iV 2,iV 0,iV 0,bV false],[iV 1,iV 2,iV 1,iV 0,iV 0,bV false]])]),(.agg [bV true,bV false,bV true])],(.tuple [(.agg [iV 2,(.An [[iV 1,iV 1,iV 1,iV 0,iV 0,bV false],[iV 1,iV 1,iV 2,iV 0,iV 0,bV false],[iV 1,iV 2,iV 1,iV 0,iV 0,bV false],[iV 1,iV 0,iV 1,iV 0,iV 0,bV false]])]),iV 0])⟩
theorem jZ:Qc.Ok Tryz.prog:=S3 (l:=[EX,HX,Rx]) ⟨Jh,Mv,jR,trivial⟩ Qc (by kernel_rfl)
def Qd:AN:=⟨52,[(.agg [iV 2,(.An [[iV 1,iV 0,iV 1,iV 0,iV 0,bV false],[iV 1,iV 1,iV 1,iV 0,iV 0,bV false],[iV 1,iV 1,iV 2,iV 0,iV 0,bV false],[iV 1,iV 2,iV 1,iV 0,iV 0,bV false]])]),(.agg [bV true,bV true,bV false])],(.tuple [(.agg [iV 2,(.An [[iV 1,iV 2,iV 1,iV 0,iV 0,bV false],[iV 1,iV 1,iV 2,iV 0,iV 0,bV false],[iV 1,iV 1,iV 1,iV 0,iV 0,bV false],[iV 1,iV 0,iV 1,iV 0,iV 0,bV false]])]),iV 0])⟩
theorem kC:Qd.Ok Tryz.prog:=S3 (l:=[EX,HX,HW]) ⟨Jh,Mv,Mu,trivial⟩ Qd (by kernel_rfl)
def Qe:AN:=⟨52,[(.agg [iV 2,(.An [[iV 1,iV 0,iV 1,iV 0,iV 0,bV false],[iV 1,iV 1,iV 1,iV 0,iV 0,bV false],[iV 1,iV 1,iV 2,iV 0,iV 0,bV false],[iV 1,iV 2,iV 1,iV 0,iV 0,bV false]])]),(.agg [bV true,bV true,bV true])],(.tuple [(.agg [iV 2,(.An [[iV 1,iV 1,iV 2,iV 0,iV 0,bV false],[iV 1,iV 1,iV 1,iV 0,iV 0,bV false],[iV 1,iV 0,iV 1,iV 0,iV 0,bV false],[iV 1,iV 2,iV 1,iV 0,iV 0,bV false]])]),iV 0])⟩
theorem kD:Qe.Ok Tryz.prog:=S3 (l:=[EX,HX,HW,Ms]) ⟨Jh,Mv,Mu,Vl,trivial⟩ Qe (by kernel_rfl)
def Qf:AN:=⟨24,[(.agg [iV 2,(.An [[iV 1,iV 0,iV 1,iV 0,iV 0,bV false],[iV 1,iV 1,iV 1,iV 0,iV 0,bV false],[iV 1,iV 1,iV 2,iV 0,iV 0,bV false],[iV 1,iV 2,iV 1,iV 0,iV 0,bV false]])])],(.tuple [(.An [[bV false,bV false,bV false],[bV false,bV true,bV false],[bV true,bV false,bV false],[bV true,bV true,bV false]]),iV 0])⟩
theorem kE:Qf.Ok Tryz.prog:=S3 (l:=[EX,PM,PN,PO,PT,PU,PX,PY,Qa,Qb,Qc,Qd,Qe]) ⟨Jh,jM,jN,jO,jQ,jS,jU,jV,jX,jY,jZ,kC,kD,trivial⟩ Qf (by kernel_rfl)
def Vj:AN:=⟨8,[],bV true⟩
theorem kF:Vj.Ok Tryz.prog:=S3 (l:=[XM,jD,jE,XN,jG,PG,EX,PI,PJ,Qf]) ⟨mo1,mo3,mo6,xP,mo8,jJ,Jh,jK,jL,kE,trivial⟩ Vj (by kernel_rfl)
end Go.Ab
end
