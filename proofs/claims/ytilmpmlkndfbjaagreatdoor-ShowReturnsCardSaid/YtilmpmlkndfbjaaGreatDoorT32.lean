/- Part 32 -/
import Derived.Test.YtilmpmlkndfbjaaGreatDoorT12
set_option linter.all false
open Go.Proofs.Tryz (prog)
namespace Go.Ad
open Go Go.AE Go.Proofs
def gN:AZ:=⟨19,[],(.tuple [(.agg [(.Al [[iV 1,bV false,iV 1],[iV 1,bV true,iV 1]]),iV 6,iV 4]),(.agg [iV 2,(.Al [[iV 1,iV 0,iV 1,iV 0,iV 0,bV false],[iV 1,iV 1,iV 1,iV 0,iV 0,bV false],[iV 1,iV 1,iV 2,iV 0,iV 0,bV false],[iV 1,iV 2,iV 1,iV 0,iV 0,bV false]])])])⟩
theorem mo1:gN.Ok prog:=N6 (l:=[]) trivial gN (by kernel_rfl)
def Vv:AZ:=⟨34,[(.agg [iV 2,(.Al [[iV 1,iV 0,iV 1,iV 0,iV 0,bV false],[iV 1,iV 1,iV 1,iV 0,iV 0,bV false],[iV 1,iV 1,iV 2,iV 0,iV 0,bV false],[iV 1,iV 2,iV 1,iV 0,iV 0,bV false]])])],(.tuple [(.agg [iV 2,(.Al [[iV 1,iV 1,iV 1,iV 0,iV 0,bV false],[iV 1,iV 1,iV 2,iV 0,iV 0,bV false],[iV 1,iV 2,iV 1,iV 0,iV 0,bV false],[iV 1,iV 0,iV 1,iV 0,iV 0,bV false]])]),iV 0])⟩
theorem xF:Vv.Ok prog:=N6 (l:=[]) trivial Vv (by kernel_rfl)
def wR:AZ:=⟨13,[(.agg [iV 2,(.Al [[iV 1,iV 0,iV 1,iV 0,iV 0,bV false],[iV 1,iV 1,iV 1,iV 0,iV 0,bV false],[iV 1,iV 1,iV 2,iV 0,iV 0,bV false],[iV 1,iV 2,iV 1,iV 0,iV 0,bV false]])])],(.tuple [(.agg [iV 2,(.Al [[iV 1],[iV 2],[iV 1]]),(.Al [[iV 1,iV 1,iV 0,bV false],[iV 1,iV 0,iV 0,bV false]]),(.Al [[iV 1,iV 0,iV 0,bV false],[iV 1,iV 0,iV 0,bV false]])]),iV 0])⟩
theorem mo3:wR.Ok prog:=N6 (l:=[Vv]) ⟨xF,trivial⟩ wR (by kernel_rfl)
def FQ:AZ:=⟨51,[(.agg [iV 2,(.Al [[iV 1,iV 0,iV 1,iV 0,iV 0,bV false],[iV 1,iV 1,iV 1,iV 0,iV 0,bV false],[iV 1,iV 1,iV 2,iV 0,iV 0,bV false],[iV 1,iV 2,iV 1,iV 0,iV 0,bV false]])])],iV 0⟩
theorem Md:FQ.Ok prog:=N6 (l:=[]) trivial FQ (by kernel_rfl)
def gO:AZ:=⟨9,[(.agg [iV 2,(.Al [[iV 1],[iV 2],[iV 1]]),(.Al [[iV 1,iV 1,iV 0,bV false],[iV 1,iV 0,iV 0,bV false]]),(.Al [[iV 1,iV 0,iV 0,bV false],[iV 1,iV 0,iV 0,bV false]])])],(.tuple [(.agg [iV 2,(.Al [[iV 1,iV 0,iV 1,iV 0,iV 0,bV false],[iV 1,iV 1,iV 1,iV 0,iV 0,bV false],[iV 1,iV 1,iV 2,iV 0,iV 0,bV false],[iV 1,iV 2,iV 1,iV 0,iV 0,bV false]])]),iV 0])⟩
theorem mo5:gO.Ok prog:=N6 (l:=[FQ]) ⟨Md,trivial⟩ gO (by kernel_rfl)
def wS:AZ:=⟨16,[(.agg [iV 2,(.Al [[iV 1],[iV 2],[iV 1]]),(.Al [[iV 1,iV 1,iV 0,bV false],[iV 1,iV 0,iV 0,bV false]]),(.Al [[iV 1,iV 0,iV 0,bV false],[iV 1,iV 0,iV 0,bV false]])])],(.tuple [(.Al [[(.str [94,32,94])],[(.str [124,32,94,32,94,32,124])],[(.str [124,32,49,32,124,32,124,32,50,32,124])],[(.str [118,32,118,32,124,32,124])],[(.str [118,32,118])]]),iV 0])⟩
theorem mo6:wS.Ok prog:=N6 (l:=[gO]) ⟨mo5,trivial⟩ wS (by kernel_rfl)
def wT:AZ:=⟨46,[(.agg [iV 2,(.Al [[iV 1,iV 0,iV 1,iV 0,iV 0,bV false],[iV 1,iV 1,iV 1,iV 0,iV 0,bV false],[iV 1,iV 1,iV 2,iV 0,iV 0,bV false],[iV 1,iV 2,iV 1,iV 0,iV 0,bV false]])])],(.agg [iV 2,(.Al [[iV 1,iV 0,iV 1,iV 0,iV 0,bV false],[iV 1,iV 1,iV 1,iV 0,iV 0,bV false],[iV 1,iV 1,iV 2,iV 0,iV 0,bV false],[iV 1,iV 2,iV 1,iV 0,iV 0,bV false]])])⟩
theorem mo7:wT.Ok prog:=N6 (l:=[]) trivial wT (by kernel_rfl)
def wU:AZ:=⟨20,[(.agg [iV 2,(.Al [[iV 1,iV 0,iV 1,iV 0,iV 0,bV false],[iV 1,iV 1,iV 1,iV 0,iV 0,bV false],[iV 1,iV 1,iV 2,iV 0,iV 0,bV false],[iV 1,iV 2,iV 1,iV 0,iV 0,bV false]])]),(.agg [iV 2,(.Al [[iV 1,iV 0,iV 1,iV 0,iV 0,bV false],[iV 1,iV 1,iV 1,iV 0,iV 0,bV false],[iV 1,iV 1,iV 2,iV 0,iV 0,bV false],[iV 1,iV 2,iV 1,iV 0,iV 0,bV false]])])],bV true⟩
theorem mo8:wU.Ok prog:=N6 (l:=[wT]) ⟨mo7,trivial⟩ wU (by kernel_rfl)
def wV:AZ:=⟨34,[(.agg [iV 2,(.Al [[iV 1,iV 0,iV 1,iV 0,iV 0,bV false],[iV 2,iV 0,iV 0,iV 1,iV 1,bV false],[iV 2,iV 0,iV 0,iV 1,iV 1,bV true],[iV 1,iV 1,iV 1,iV 0,iV 0,bV false]])])],(.tuple [(.agg [iV 2,(.Al [[iV 1,iV 1,iV 1,iV 0,iV 0,bV false],[iV 1,iV 0,iV 1,iV 0,iV 0,bV false],[iV 2,iV 0,iV 0,iV 1,iV 1,bV true],[iV 2,iV 0,iV 0,iV 1,iV 1,bV false]])]),iV 0])⟩
theorem mo9:wV.Ok prog:=N6 (l:=[]) trivial wV (by kernel_rfl)
def TA:AZ:=⟨13,[(.agg [iV 2,(.Al [[iV 1,iV 0,iV 1,iV 0,iV 0,bV false],[iV 2,iV 0,iV 0,iV 1,iV 1,bV false],[iV 2,iV 0,iV 0,iV 1,iV 1,bV true],[iV 1,iV 1,iV 1,iV 0,iV 0,bV false]])])],(.tuple [(.agg [iV 2,(.Al [[iV 1],[iV 1],[iV 0]]),(.Al [[iV 1,iV 0,iV 0,bV false]]),(.Al [[iV 2,iV 0,iV 1,bV true],[iV 1,iV 1,iV 0,bV false],[iV 1,iV 0,iV 0,bV false]])]),iV 0])⟩
theorem wX:TA.Ok prog:=N6 (l:=[wV]) ⟨mo9,trivial⟩ TA (by kernel_rfl)
def TB:AZ:=⟨87,[(.agg [iV 2,(.Al [[iV 1,iV 0,iV 1,iV 0,iV 0,bV false],[iV 1,iV 1,iV 1,iV 0,iV 0,bV false],[iV 1,iV 1,iV 2,iV 0,iV 0,bV false],[iV 1,iV 2,iV 1,iV 0,iV 0,bV false]])]),(.agg [iV 1,iV 1])],(.tuple [(.agg [iV 3,(.Al [[iV 1,iV 0,iV 1,iV 0,iV 0,bV false],[iV 1,iV 1,iV 1,iV 0,iV 0,bV false],[iV 1,iV 2,iV 1,iV 0,iV 0,bV false],[iV 1,iV 3,iV 1,iV 0,iV 0,bV false]])]),iV 0])⟩
theorem wY:TB.Ok prog:=N6 (l:=[]) trivial TB (by kernel_rfl)
def TC:AZ:=⟨51,[(.agg [iV 3,(.Al [[iV 1,iV 0,iV 1,iV 0,iV 0,bV false],[iV 1,iV 1,iV 1,iV 0,iV 0,bV false],[iV 1,iV 2,iV 1,iV 0,iV 0,bV false],[iV 1,iV 3,iV 1,iV 0,iV 0,bV false]])])],iV 0⟩
theorem wZ:TC.Ok prog:=N6 (l:=[]) trivial TC (by kernel_rfl)
def TD:AZ:=⟨52,[(.agg [iV 2,(.Al [[iV 1,iV 0,iV 1,iV 0,iV 0,bV false],[iV 1,iV 1,iV 1,iV 0,iV 0,bV false],[iV 1,iV 1,iV 2,iV 0,iV 0,bV false],[iV 1,iV 2,iV 1,iV 0,iV 0,bV false]])]),(.agg [bV false,bV false,bV false])],(.tuple [(.agg [iV 2,(.Al [[iV 1,iV 0,iV 1,iV 0,iV 0,bV false],[iV 1,iV 1,iV 1,iV 0,iV 0,bV false],[iV 1,iV 1,iV 2,iV 0,iV 0,bV false],[iV 1,iV 2,iV 1,iV 0,iV 0,bV false]])]),iV 0])⟩
theorem xA:TD.Ok prog:=N6 (l:=[FQ]) ⟨Md,trivial⟩ TD (by kernel_rfl)
def Kl:AZ:=⟨36,[(.agg [iV 2,(.Al [[iV 1,iV 0,iV 1,iV 0,iV 0,bV false],[iV 1,iV 1,iV 1,iV 0,iV 0,bV false],[iV 1,iV 1,iV 2,iV 0,iV 0,bV false],[iV 1,iV 2,iV 1,iV 0,iV 0,bV false]])])],(.tuple [(.agg [iV 2,(.Al [[iV 1,iV 0,iV 1,iV 0,iV 0,bV false],[iV 1,iV 1,iV 1,iV 0,iV 0,bV false],[iV 1,iV 1,iV 2,iV 0,iV 0,bV false],[iV 1,iV 2,iV 1,iV 0,iV 0,bV false]])]),iV 0])⟩
theorem PU:Kl.Ok prog:=N6 (l:=[]) trivial Kl (by kernel_rfl)
def TE:AZ:=⟨14,[(.agg [iV 2,(.Al [[iV 1,iV 0,iV 1,iV 0,iV 0,bV false],[iV 1,iV 1,iV 1,iV 0,iV 0,bV false],[iV 1,iV 1,iV 2,iV 0,iV 0,bV false],[iV 1,iV 2,iV 1,iV 0,iV 0,bV false]])]),(.agg [iV 2,(.Al [[iV 1,iV 0,iV 1,iV 0,iV 0,bV false],[iV 1,iV 1,iV 1,iV 0,iV 0,bV false],[iV 1,iV 1,iV 2,iV 0,iV 0,bV false],[iV 1,iV 2,iV 1,iV 0,iV 0,bV false]])])],(.tuple [bV true,iV 0])⟩
theorem xB:TE.Ok prog:=N6 (l:=[Kl]) ⟨PU,trivial⟩ TE (by kernel_rfl)
def TF:AZ:=⟨52,[(.agg [iV 2,(.Al [[iV 1,iV 0,iV 1,iV 0,iV 0,bV false],[iV 1,iV 1,iV 1,iV 0,iV 0,bV false],[iV 1,iV 1,iV 2,iV 0,iV 0,bV false],[iV 1,iV 2,iV 1,iV 0,iV 0,bV false]])]),(.agg [bV false,bV false,bV true])],(.tuple [(.agg [iV 2,(.Al [[iV 1,iV 1,iV 1,iV 0,iV 0,bV false],[iV 1,iV 1,iV 2,iV 0,iV 0,bV false],[iV 1,iV 2,iV 1,iV 0,iV 0,bV false],[iV 1,iV 0,iV 1,iV 0,iV 0,bV false]])]),iV 0])⟩
theorem xC:TF.Ok prog:=N6 (l:=[FQ,Vv]) ⟨Md,xF,trivial⟩ TF (by kernel_rfl)
def TG:AZ:=⟨36,[(.agg [iV 2,(.Al [[iV 1,iV 1,iV 1,iV 0,iV 0,bV false],[iV 1,iV 1,iV 2,iV 0,iV 0,bV false],[iV 1,iV 2,iV 1,iV 0,iV 0,bV false],[iV 1,iV 0,iV 1,iV 0,iV 0,bV false]])])],(.tuple [(.agg [iV 2,(.Al [[iV 1,iV 0,iV 1,iV 0,iV 0,bV false],[iV 1,iV 2,iV 1,iV 0,iV 0,bV false],[iV 1,iV 1,iV 2,iV 0,iV 0,bV false],[iV 1,iV 1,iV 1,iV 0,iV 0,bV false]])]),iV 0])⟩
theorem xD:TG.Ok prog:=N6 (l:=[]) trivial TG (by kernel_rfl)
def TH:AZ:=⟨14,[(.agg [iV 2,(.Al [[iV 1,iV 0,iV 1,iV 0,iV 0,bV false],[iV 1,iV 1,iV 1,iV 0,iV 0,bV false],[iV 1,iV 1,iV 2,iV 0,iV 0,bV false],[iV 1,iV 2,iV 1,iV 0,iV 0,bV false]])]),(.agg [iV 2,(.Al [[iV 1,iV 1,iV 1,iV 0,iV 0,bV false],[iV 1,iV 1,iV 2,iV 0,iV 0,bV false],[iV 1,iV 2,iV 1,iV 0,iV 0,bV false],[iV 1,iV 0,iV 1,iV 0,iV 0,bV false]])])],(.tuple [bV false,iV 0])⟩
theorem xE:TH.Ok prog:=N6 (l:=[Kl,TG]) ⟨PU,xD,trivial⟩ TH (by kernel_rfl)
def Km:AZ:=⟨95,[(.agg [iV 2,(.Al [[iV 1,iV 0,iV 1,iV 0,iV 0,bV false],[iV 1,iV 1,iV 1,iV 0,iV 0,bV false],[iV 1,iV 1,iV 2,iV 0,iV 0,bV false],[iV 1,iV 2,iV 1,iV 0,iV 0,bV false]])])],(.tuple [(.agg [iV 2,(.Al [[iV 1,iV 2,iV 1,iV 0,iV 0,bV false],[iV 1,iV 1,iV 2,iV 0,iV 0,bV false],[iV 1,iV 1,iV 1,iV 0,iV 0,bV false],[iV 1,iV 0,iV 1,iV 0,iV 0,bV false]])]),iV 0])⟩
theorem PW:Km.Ok prog:=N6 (l:=[]) trivial Km (by kernel_rfl)
def TI:AZ:=⟨52,[(.agg [iV 2,(.Al [[iV 1,iV 0,iV 1,iV 0,iV 0,bV false],[iV 1,iV 1,iV 1,iV 0,iV 0,bV false],[iV 1,iV 1,iV 2,iV 0,iV 0,bV false],[iV 1,iV 2,iV 1,iV 0,iV 0,bV false]])]),(.agg [bV false,bV true,bV false])],(.tuple [(.agg [iV 2,(.Al [[iV 1,iV 2,iV 1,iV 0,iV 0,bV false],[iV 1,iV 1,iV 2,iV 0,iV 0,bV false],[iV 1,iV 1,iV 1,iV 0,iV 0,bV false],[iV 1,iV 0,iV 1,iV 0,iV 0,bV false]])]),iV 0])⟩
theorem xG:TI.Ok prog:=N6 (l:=[FQ,Km]) ⟨Md,PW,trivial⟩ TI (by kernel_rfl)
def TJ:AZ:=⟨36,[(.agg [iV 2,(.Al [[iV 1,iV 2,iV 1,iV 0,iV 0,bV false],[iV 1,iV 1,iV 2,iV 0,iV 0,bV false],[iV 1,iV 1,iV 1,iV 0,iV 0,bV false],[iV 1,iV 0,iV 1,iV 0,iV 0,bV false]])])],(.tuple [(.agg [iV 2,(.Al [[iV 1,iV 0,iV 1,iV 0,iV 0,bV false],[iV 1,iV 1,iV 1,iV 0,iV 0,bV false],[iV 1,iV 1,iV 2,iV 0,iV 0,bV false],[iV 1,iV 2,iV 1,iV 0,iV 0,bV false]])]),iV 0])⟩
theorem xH:TJ.Ok prog:=N6 (l:=[]) trivial TJ (by kernel_rfl)
def TK:AZ:=⟨14,[(.agg [iV 2,(.Al [[iV 1,iV 0,iV 1,iV 0,iV 0,bV false],[iV 1,iV 1,iV 1,iV 0,iV 0,bV false],[iV 1,iV 1,iV 2,iV 0,iV 0,bV false],[iV 1,iV 2,iV 1,iV 0,iV 0,bV false]])]),(.agg [iV 2,(.Al [[iV 1,iV 2,iV 1,iV 0,iV 0,bV false],[iV 1,iV 1,iV 2,iV 0,iV 0,bV false],[iV 1,iV 1,iV 1,iV 0,iV 0,bV false],[iV 1,iV 0,iV 1,iV 0,iV 0,bV false]])])],(.tuple [bV true,iV 0])⟩
theorem xI:TK.Ok prog:=N6 (l:=[Kl,TJ]) ⟨PU,xH,trivial⟩ TK (by kernel_rfl)
def PT:AZ:=⟨34,[(.agg [iV 2,(.Al [[iV 1,iV 2,iV 1,iV 0,iV 0,bV false],[iV 1,iV 1,iV 2,iV 0,iV 0,bV false],[iV 1,iV 1,iV 1,iV 0,iV 0,bV false],[iV 1,iV 0,iV 1,iV 0,iV 0,bV false]])])],(.tuple [(.agg [iV 2,(.Al [[iV 1,iV 1,iV 2,iV 0,iV 0,bV false],[iV 1,iV 1,iV 1,iV 0,iV 0,bV false],[iV 1,iV 0,iV 1,iV 0,iV 0,bV false],[iV 1,iV 2,iV 1,iV 0,iV 0,bV false]])]),iV 0])⟩
theorem Zv:PT.Ok prog:=N6 (l:=[]) trivial PT (by kernel_rfl)
def TL:AZ:=⟨52,[(.agg [iV 2,(.Al [[iV 1,iV 0,iV 1,iV 0,iV 0,bV false],[iV 1,iV 1,iV 1,iV 0,iV 0,bV false],[iV 1,iV 1,iV 2,iV 0,iV 0,bV false],[iV 1,iV 2,iV 1,iV 0,iV 0,bV false]])]),(.agg [bV false,bV true,bV true])],(.tuple [(.agg [iV 2,(.Al [[iV 1,iV 1,iV 2,iV 0,iV 0,bV false],[iV 1,iV 1,iV 1,iV 0,iV 0,bV false],[iV 1,iV 0,iV 1,iV 0,iV 0,bV false],[iV 1,iV 2,iV 1,iV 0,iV 0,bV false]])]),iV 0])⟩
theorem xK:TL.Ok prog:=N6 (l:=[FQ,Km,PT]) ⟨Md,PW,Zv,trivial⟩ TL (by kernel_rfl)
def TN:AZ:=⟨36,[(.agg [iV 2,(.Al [[iV 1,iV 1,iV 2,iV 0,iV 0,bV false],[iV 1,iV 1,iV 1,iV 0,iV 0,bV false],[iV 1,iV 0,iV 1,iV 0,iV 0,bV false],[iV 1,iV 2,iV 1,iV 0,iV 0,bV false]])])],(.tuple [(.agg [iV 2,(.Al [[iV 1,iV 0,iV 1,iV 0,iV 0,bV false],[iV 1,iV 2,iV 1,iV 0,iV 0,bV false],[iV 1,iV 1,iV 2,iV 0,iV 0,bV false],[iV 1,iV 1,iV 1,iV 0,iV 0,bV false]])]),iV 0])⟩
theorem xL:TN.Ok prog:=N6 (l:=[]) trivial TN (by kernel_rfl)
def TO:AZ:=⟨14,[(.agg [iV 2,(.Al [[iV 1,iV 0,iV 1,iV 0,iV 0,bV false],[iV 1,iV 1,iV 1,iV 0,iV 0,bV false],[iV 1,iV 1,iV 2,iV 0,iV 0,bV false],[iV 1,iV 2,iV 1,iV 0,iV 0,bV false]])]),(.agg [iV 2,(.Al [[iV 1,iV 1,iV 2,iV 0,iV 0,bV false],[iV 1,iV 1,iV 1,iV 0,iV 0,bV false],[iV 1,iV 0,iV 1,iV 0,iV 0,bV false],[iV 1,iV 2,iV 1,iV 0,iV 0,bV false]])])],(.tuple [bV false,iV 0])⟩
theorem xM:TO.Ok prog:=N6 (l:=[Kl,TN]) ⟨PU,xL,trivial⟩ TO (by kernel_rfl)
def Kn:AZ:=⟨94,[(.agg [iV 2,(.Al [[iV 1,iV 0,iV 1,iV 0,iV 0,bV false],[iV 1,iV 1,iV 1,iV 0,iV 0,bV false],[iV 1,iV 1,iV 2,iV 0,iV 0,bV false],[iV 1,iV 2,iV 1,iV 0,iV 0,bV false]])])],(.tuple [(.agg [iV 2,(.Al [[iV 1,iV 0,iV 1,iV 0,iV 0,bV false],[iV 1,iV 1,iV 1,iV 0,iV 0,bV false],[iV 1,iV 1,iV 2,iV 0,iV 0,bV false],[iV 1,iV 2,iV 1,iV 0,iV 0,bV false]])]),iV 0])⟩
theorem PX:Kn.Ok prog:=N6 (l:=[]) trivial Kn (by kernel_rfl)
def TP:AZ:=⟨52,[(.agg [iV 2,(.Al [[iV 1,iV 0,iV 1,iV 0,iV 0,bV false],[iV 1,iV 1,iV 1,iV 0,iV 0,bV false],[iV 1,iV 1,iV 2,iV 0,iV 0,bV false],[iV 1,iV 2,iV 1,iV 0,iV 0,bV false]])]),(.agg [bV true,bV false,bV false])],(.tuple [(.agg [iV 2,(.Al [[iV 1,iV 0,iV 1,iV 0,iV 0,bV false],[iV 1,iV 1,iV 1,iV 0,iV 0,bV false],[iV 1,iV 1,iV 2,iV 0,iV 0,bV false],[iV 1,iV 2,iV 1,iV 0,iV 0,bV false]])]),iV 0])⟩
theorem xN:TP.Ok prog:=N6 (l:=[FQ,Kn]) ⟨Md,PX,trivial⟩ TP (by kernel_rfl)
def TQ:AZ:=⟨52,[(.agg [iV 2,(.Al [[iV 1,iV 0,iV 1,iV 0,iV 0,bV false],[iV 1,iV 1,iV 1,iV 0,iV 0,bV false],[iV 1,iV 1,iV 2,iV 0,iV 0,bV false],[iV 1,iV 2,iV 1,iV 0,iV 0,bV false]])]),(.agg [bV true,bV false,bV true])],(.tuple [(.agg [iV 2,(.Al [[iV 1,iV 1,iV 1,iV 0,iV 0,bV false],[iV 1,iV 1,iV 2,iV 0,iV 0,bV false],[iV 1,iV 2,iV 1,iV 0,iV 0,bV false],[iV 1,iV 0,iV 1,iV 0,iV 0,bV false]])]),iV 0])⟩
theorem xO:TQ.Ok prog:=N6 (l:=[FQ,Kn,Vv]) ⟨Md,PX,xF,trivial⟩ TQ (by kernel_rfl)
def TS:AZ:=⟨52,[(.agg [iV 2,(.Al [[iV 1,iV 0,iV 1,iV 0,iV 0,bV false],[iV 1,iV 1,iV 1,iV 0,iV 0,bV false],[iV 1,iV 1,iV 2,iV 0,iV 0,bV false],[iV 1,iV 2,iV 1,iV 0,iV 0,bV false]])]),(.agg [bV true,bV true,bV false])],(.tuple [(.agg [iV 2,(.Al [[iV 1,iV 2,iV 1,iV 0,iV 0,bV false],[iV 1,iV 1,iV 2,iV 0,iV 0,bV false],[iV 1,iV 1,iV 1,iV 0,iV 0,bV false],[iV 1,iV 0,iV 1,iV 0,iV 0,bV false]])]),iV 0])⟩
theorem xP:TS.Ok prog:=N6 (l:=[FQ,Kn,Km]) ⟨Md,PX,PW,trivial⟩ TS (by kernel_rfl)
def TT:AZ:=⟨52,[(.agg [iV 2,(.Al [[iV 1,iV 0,iV 1,iV 0,iV 0,bV false],[iV 1,iV 1,iV 1,iV 0,iV 0,bV false],[iV 1,iV 1,iV 2,iV 0,iV 0,bV false],[iV 1,iV 2,iV 1,iV 0,iV 0,bV false]])]),(.agg [bV true,bV true,bV true])],(.tuple [(.agg [iV 2,(.Al [[iV 1,iV 1,iV 2,iV 0,iV 0,bV false],[iV 1,iV 1,iV 1,iV 0,iV 0,bV false],[iV 1,iV 0,iV 1,iV 0,iV 0,bV false],[iV 1,iV 2,iV 1,iV 0,iV 0,bV false]])]),iV 0])⟩
theorem xQ:TT.Ok prog:=N6 (l:=[FQ,Kn,Km,PT]) ⟨Md,PX,PW,Zv,trivial⟩ TT (by kernel_rfl)
def TU:AZ:=⟨24,[(.agg [iV 2,(.Al [[iV 1,iV 0,iV 1,iV 0,iV 0,bV false],[iV 1,iV 1,iV 1,iV 0,iV 0,bV false],[iV 1,iV 1,iV 2,iV 0,iV 0,bV false],[iV 1,iV 2,iV 1,iV 0,iV 0,bV false]])])],(.tuple [(.Al [[bV false,bV false,bV false],[bV false,bV true,bV false],[bV true,bV false,bV false],[bV true,bV true,bV false]]),iV 0])⟩
theorem xR:TU.Ok prog:=N6 (l:=[FQ,TD,TE,TF,TH,TI,TK,TL,TO,TP,TQ,TS,TT]) ⟨Md,xA,xB,xC,xE,xG,xI,xK,xM,xN,xO,xP,xQ,trivial⟩ TU (by kernel_rfl)
def Zu:AZ:=⟨8,[],bV true⟩
theorem xS:Zu.Ok prog:=N6 (l:=[gN,wR,wS,gO,wU,TA,FQ,TB,TC,TU]) ⟨mo1,mo3,mo6,mo5,mo8,wX,Md,wY,wZ,xR,trivial⟩ Zu (by kernel_rfl)
end Go.Ad
