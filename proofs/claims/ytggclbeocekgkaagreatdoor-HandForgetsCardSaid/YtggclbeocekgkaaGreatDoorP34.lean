/- Part 34 of the proof: Km2, Km0, Km1. -/
import Derived.Test.YtggclbeocekgkaaGreatDoorP23
set_option linter.all false
section
namespace Go.Ac
open Go Go.AE Go.Proofs
def gT:Aq:=⟨33,[iV 1],(.tuple [GZ,iV 0])⟩
theorem mo1:gT.Ok Tryz.prog:=Y9 (l:=[]) trivial gT (by kernel_rfl)
def XE:Aq:=⟨42,[ER,iV 5],(.Aj [[iV 2,iV 3]])⟩
theorem ql:XE.Ok Tryz.prog:=Y9 (l:=[]) trivial XE (by kernel_rfl)
def XF:Aq:=⟨68,[GZ,ER,UJ],(.tuple [iV 1,bV true])⟩
theorem qm:XF.Ok Tryz.prog:=Y9 (l:=[XE]) ⟨ql,trivial⟩ XF (by kernel_rfl)
def PA:Aq:=⟨111,[Eb,iV 3],iV 3⟩
theorem gY:PA.Ok Tryz.prog:=Y9 (l:=[]) trivial PA (by kernel_rfl)
def IV:Aq:=⟨110,[Eb,iV 1,bV true],iV 2⟩
theorem QO:IV.Ok Tryz.prog:=Y9 (l:=[]) trivial IV (by kernel_rfl)
def PJ:Aq:=⟨96,[Pr],(.tuple [(.Aj [[bV false,(.Aj [[iV 0]]),(.Aj [[iV 1,iV 1]]),.Ae,bV false],[bV false,(.Aj [[iV 1],[iV 5]]),Pt,Pw,bV true],[bV true,(.Aj [[iV 2],[iV 6]]),UE,(.Aj [[iV 10]]),bV false],[bV true,(.Aj [[iV 3]]),Pu,Ml,bV false],[bV false,(.Aj [[iV 4]]),Gw,(.Aj [[iV 10]]),bV false],[bV true,(.Aj [[iV 7]]),Px,(.Aj [[iV 1]]),bV true]]),iV 0])⟩
theorem iG:PJ.Ok Tryz.prog:=Y9 (l:=[]) trivial PJ (by kernel_rfl)
def PK:Aq:=⟨31,[Pr,(.agg [iV 5,iV 0,iV 0,iV 0,bV false,bV true,iV 1])],(.tuple [gO,iV 0])⟩
theorem iH:PK.Ok Tryz.prog:=Y9 (l:=[PJ]) ⟨iG,trivial⟩ PK (by kernel_rfl)
def PL:Aq:=⟨96,[gO],(.tuple [(.Aj [[bV false,(.Aj [[iV 0],[iV 4]]),(.Aj [[iV 1,iV 1]]),.Ae,bV false],[bV false,(.Aj [[iV 1],[iV 9],[iV 5],[iV 2]]),Pt,Pw,bV true],[bV false,(.Aj [[iV 3]]),.Ae,.Ae,bV false],[bV true,(.Aj [[iV 6],[iV 10]]),UE,(.Aj [[iV 10]]),bV false],[bV true,(.Aj [[iV 7]]),Pu,Ml,bV false],[bV false,(.Aj [[iV 8]]),Gw,(.Aj [[iV 10]]),bV false],[bV true,(.Aj [[iV 11]]),Px,(.Aj [[iV 1]]),bV true]]),iV 0])⟩
theorem iI:PL.Ok Tryz.prog:=Y9 (l:=[]) trivial PL (by kernel_rfl)
def PM:Aq:=⟨31,[gO,(.agg [iV 3,iV 0,iV 2,iV 0,bV false,bV false,iV 0])],(.tuple [gP,iV 0])⟩
theorem iJ:PM.Ok Tryz.prog:=Y9 (l:=[PL]) ⟨iI,trivial⟩ PM (by kernel_rfl)
def PN:Aq:=⟨96,[gP],(.tuple [(.Aj [[bV false,(.Aj [[iV 0],[iV 7]]),Pt,Pw,bV true],[bV false,(.Aj [[iV 1]]),(.Aj [[iV 1,iV 1]]),.Ae,bV false],[bV true,(.Aj [[iV 2],[iV 9]]),Px,(.Aj [[iV 1]]),bV true],[bV true,(.Aj [[iV 3],[iV 11]]),(.Aj [[iV 1,iV 1]]),.Ae,bV false],[bV true,(.Aj [[iV 4],[iV 8]]),(.Aj [[iV 9,iV 1],[iV 10,iV 0]]),(.Aj [[iV 10]]),bV false],[bV true,(.Aj [[iV 5],[iV 10]]),Pu,Ml,bV false],[bV false,(.Aj [[iV 6]]),Gw,(.Aj [[iV 10]]),bV false]]),iV 0])⟩
theorem iK:PN.Ok Tryz.prog:=Y9 (l:=[]) trivial PN (by kernel_rfl)
def PO:Aq:=⟨31,[gP,(.agg [iV 10,iV 1,iV 0,iV 0,bV false,bV false,iV 0])],(.tuple [gQ,iV 0])⟩
theorem iL:PO.Ok Tryz.prog:=Y9 (l:=[PN]) ⟨iK,trivial⟩ PO (by kernel_rfl)
def Qb:Aq:=⟨96,[Pv],(.tuple [(.Aj [[bV false,(.Aj [[iV 0]]),(.Aj [[iV 1,iV 1]]),.Ae,bV false],[bV false,(.Aj [[iV 1]]),(.Aj [[iV 1,iV 0],[iV 0,iV 0],[iV 10,iV 0],[iV 9,iV 0],[iV 8,iV 0],[iV 7,iV 0],[iV 6,iV 0],[iV 5,iV 0],[iV 4,iV 0],[iV 3,iV 0],[iV 2,iV 0],[iV 1,iV 2]]),(.Aj [[iV 1],[iV 10],[iV 9],[iV 8],[iV 7],[iV 6],[iV 5],[iV 4],[iV 3],[iV 2]]),bV true],[bV true,(.Aj [[iV 2]]),(.Aj [[iV 1,iV 1]]),.Ae,bV false],[bV true,(.Aj [[iV 3]]),(.Aj [[iV 1,iV 2],[iV 2,iV 0],[iV 3,iV 0],[iV 4,iV 0],[iV 5,iV 0],[iV 6,iV 0],[iV 7,iV 0],[iV 8,iV 0],[iV 9,iV 0],[iV 10,iV 0],[iV 0,iV 0],[iV 1,iV 0]]),(.Aj [[iV 2],[iV 3],[iV 4],[iV 5],[iV 6],[iV 7],[iV 8],[iV 9],[iV 10],[iV 1]]),bV true]]),iV 0])⟩
theorem iZ:Qb.Ok Tryz.prog:=Y9 (l:=[]) trivial Qb (by kernel_rfl)
def Qc:Aq:=⟨31,[Pv,(.agg [iV 1,iV 0,iV 0,iV 0,bV false,bV false,iV 0])],(.tuple [(.agg [iV 10,.Ae]),iV 0])⟩
theorem jA:Qc.Ok Tryz.prog:=Y9 (l:=[Qb]) ⟨iZ,trivial⟩ Qc (by kernel_rfl)
def Qj:Aq:=⟨42,[ER,iV 4],.Ae⟩
theorem jH:Qj.Ok Tryz.prog:=Y9 (l:=[]) trivial Qj (by kernel_rfl)
def Qp:Aq:=⟨42,[ER,iV 9],.Ae⟩
theorem jN:Qp.Ok Tryz.prog:=Y9 (l:=[]) trivial Qp (by kernel_rfl)
def Qq:Aq:=⟨42,[ER,iV 10],(.Aj [[iV 6,iV 7]])⟩
theorem jO:Qq.Ok Tryz.prog:=Y9 (l:=[]) trivial Qq (by kernel_rfl)
def Qs:Aq:=⟨168,[(.agg [iV 10,iV 1,bV false,iV 0]),(.agg [iV 1,iV 1,bV false,iV 0])],iV 9⟩
theorem jQ:Qs.Ok Tryz.prog:=Y9 (l:=[]) trivial Qs (by kernel_rfl)
def Ms:Aq:=⟨110,[Eb,iV 1,bV false],iV 3⟩
theorem UR:Ms.Ok Tryz.prog:=Y9 (l:=[]) trivial Ms (by kernel_rfl)
def Qy:Aq:=⟨112,[Eb,iV 7,iV 3],bV false⟩
theorem jW:Qy.Ok Tryz.prog:=Y9 (l:=[]) trivial Qy (by kernel_rfl)
def QA:Aq:=⟨112,[Eb,iV 7,iV 5],bV true⟩
theorem jY:QA.Ok Tryz.prog:=Y9 (l:=[]) trivial QA (by kernel_rfl)
def QG:Aq:=⟨112,[Eb,iV 2,iV 1],bV true⟩
theorem kG:QG.Ok Tryz.prog:=Y9 (l:=[]) trivial QG (by kernel_rfl)
def QH:Aq:=⟨113,[Eb,iV 2,iV 1],iV 3⟩
theorem kH:QH.Ok Tryz.prog:=Y9 (l:=[IV,Ms]) ⟨QO,UR,trivial⟩ QH (by kernel_rfl)
def QJ:Aq:=⟨110,[Eb,iV 7,bV true],iV 2⟩
theorem kJ:QJ.Ok Tryz.prog:=Y9 (l:=[]) trivial QJ (by kernel_rfl)
def QK:Aq:=⟨110,[Eb,iV 7,bV false],iV 9⟩
theorem kK:QK.Ok Tryz.prog:=Y9 (l:=[]) trivial QK (by kernel_rfl)
def QL:Aq:=⟨113,[Eb,iV 2,iV 7],iV 9⟩
theorem kL:QL.Ok Tryz.prog:=Y9 (l:=[QJ,QK]) ⟨kJ,kK,trivial⟩ QL (by kernel_rfl)
end Go.Ac
end
section
namespace Go.Ac
open Go Go.AE Go.Proofs
def PB:Aq:=⟨112,[Eb,iV 3,iV 1],bV true⟩
theorem hU:PB.Ok Tryz.prog:=Y9 (l:=[]) trivial PB (by kernel_rfl)
def PD:Aq:=⟨96,[gL],(.tuple [(.Aj [[bV false,(.Aj [[iV 0]]),IT,(.Aj [[iV 1]]),bV false],[bV false,(.Aj [[iV 1],[iV 17],[iV 13],[iV 9],[iV 5]]),(.Aj [[iV 0,iV 0],[iV 10,iV 1],[iV 9,iV 0],[iV 8,iV 0],[iV 7,iV 0],[iV 6,iV 1],[iV 5,iV 1],[iV 4,iV 0],[iV 3,iV 2],[iV 3,iV 0],[iV 2,iV 0],[iV 1,iV 1]]),UD,bV true],[bV true,(.Aj [[iV 2],[iV 6],[iV 10],[iV 14],[iV 18]]),(.Aj [[iV 3,iV 1],[iV 4,iV 1],[iV 5,iV 0],[iV 5,iV 2],[iV 6,iV 0],[iV 9,iV 1],[iV 10,iV 0],[iV 0,iV 1],[iV 1,iV 0]]),UF,bV false],[bV true,(.Aj [[iV 3]]),(.Aj [[iV 1,iV 1],[iV 2,iV 0],[iV 3,iV 0]]),(.Aj [[iV 2],[iV 3]]),bV false],[bV false,(.Aj [[iV 4]]),(.Aj [[iV 3,iV 1]]),.Ae,bV false],[bV true,(.Aj [[iV 7]]),(.Aj [[iV 3,iV 2],[iV 4,iV 0]]),(.Aj [[iV 4]]),bV false],[bV false,(.Aj [[iV 8]]),UG,(.Aj [[iV 5]]),bV false],[bV true,(.Aj [[iV 11]]),(.Aj [[iV 5,iV 1]]),.Ae,bV false],[bV false,(.Aj [[iV 12]]),UH,(.Aj [[iV 6]]),bV false],[bV true,(.Aj [[iV 15]]),UB,(.Aj [[iV 7],[iV 8],[iV 9]]),bV false],[bV false,(.Aj [[iV 16]]),Gw,(.Aj [[iV 10]]),bV false],[bV true,(.Aj [[iV 19]]),Py,.Ae,bV true]]),iV 0])⟩
theorem iB:PD.Ok Tryz.prog:=Y9 (l:=[]) trivial PD (by kernel_rfl)
def PE:Aq:=⟨31,[gL,(.agg [iV 10,iV 2,iV 0,iV 0,bV false,bV false,iV 0])],(.tuple [gN,iV 0])⟩
theorem iC:PE.Ok Tryz.prog:=Y9 (l:=[PD]) ⟨iB,trivial⟩ PE (by kernel_rfl)
def PS:Aq:=⟨42,[EL,iV 10],(.Aj [[iV 2,iV 3]])⟩
theorem iO:PS.Ok Tryz.prog:=Y9 (l:=[]) trivial PS (by kernel_rfl)
def PU:Aq:=⟨96,[Pq],(.tuple [(.Aj [[bV false,(.Aj [[iV 0]]),IT,(.Aj [[iV 1]]),bV false],[bV false,(.Aj [[iV 1],[iV 5]]),(.Aj [[iV 0,iV 0],[iV 10,iV 2],[iV 10,iV 0],[iV 9,iV 0],[iV 8,iV 0],[iV 7,iV 0],[iV 6,iV 0],[iV 5,iV 0],[iV 4,iV 0],[iV 3,iV 0],[iV 2,iV 0],[iV 1,iV 1]]),Uz,bV true],[bV true,(.Aj [[iV 2],[iV 6]]),(.Aj [[iV 10,iV 1],[iV 0,iV 1],[iV 1,iV 0]]),(.Aj [[iV 1]]),bV false],[bV true,(.Aj [[iV 3]]),(.Aj [[iV 1,iV 1],[iV 2,iV 0],[iV 3,iV 0],[iV 4,iV 0],[iV 5,iV 0],[iV 6,iV 0],[iV 7,iV 0],[iV 8,iV 0],[iV 9,iV 0],[iV 10,iV 0]]),UA,bV false],[bV false,(.Aj [[iV 4]]),(.Aj [[iV 10,iV 1]]),.Ae,bV false],[bV true,(.Aj [[iV 7]]),(.Aj [[iV 10,iV 2],[iV 0,iV 0]]),.Ae,bV true]]),iV 0])⟩
theorem iR:PU.Ok Tryz.prog:=Y9 (l:=[]) trivial PU (by kernel_rfl)
def PV:Aq:=⟨31,[Pq,(.agg [iV 1,iV 2,iV 0,iV 0,bV false,bV false,iV 0])],(.tuple [FW,iV 0])⟩
theorem iS:PV.Ok Tryz.prog:=Y9 (l:=[PU]) ⟨iR,trivial⟩ PV (by kernel_rfl)
def PX:Aq:=⟨23,[FW],iV 0⟩
theorem iU:PX.Ok Tryz.prog:=Y9 (l:=[]) trivial PX (by kernel_rfl)
def PZ:Aq:=⟨96,[FW],(.tuple [(.Aj [[bV false,(.Aj [[iV 0]]),IT,(.Aj [[iV 1]]),bV false],[bV false,(.Aj [[iV 1]]),(.Aj [[iV 0,iV 0],[iV 10,iV 0],[iV 9,iV 0],[iV 8,iV 0],[iV 7,iV 0],[iV 6,iV 0],[iV 5,iV 0],[iV 4,iV 0],[iV 3,iV 0],[iV 2,iV 0],[iV 1,iV 1]]),Uz,bV true],[bV true,(.Aj [[iV 2]]),(.Aj [[iV 0,iV 1],[iV 1,iV 0]]),(.Aj [[iV 1]]),bV false],[bV true,(.Aj [[iV 3]]),(.Aj [[iV 1,iV 1],[iV 2,iV 0],[iV 3,iV 0],[iV 4,iV 0],[iV 5,iV 0],[iV 6,iV 0],[iV 7,iV 0],[iV 8,iV 0],[iV 9,iV 0],[iV 10,iV 0],[iV 0,iV 0]]),UA,bV true]]),iV 0])⟩
theorem iX:PZ.Ok Tryz.prog:=Y9 (l:=[]) trivial PZ (by kernel_rfl)
def Qa:Aq:=⟨31,[FW,UC],(.tuple [Pv,iV 0])⟩
theorem iY:Qa.Ok Tryz.prog:=Y9 (l:=[PZ]) ⟨iX,trivial⟩ Qa (by kernel_rfl)
def Qf:Aq:=⟨35,[gN],(.str [49,48,58,32,48,46,49,32,49,46,49,32,50,46,49,32,51,46,49,32,52,46,49,32,53,46,49,32,53,46,50,32,54,46,49,32,57,46,49,32,49,48,46,49])⟩
theorem jD:Qf.Ok Tryz.prog:=Y9 (l:=[]) trivial Qf (by kernel_rfl)
def Qh:Aq:=⟨42,[ER,iV 1],(.Aj [[iV 0,iV 1]])⟩
theorem jF:Qh.Ok Tryz.prog:=Y9 (l:=[]) trivial Qh (by kernel_rfl)
def Qi:Aq:=⟨42,[ER,iV 2],.Ae⟩
theorem jG:Qi.Ok Tryz.prog:=Y9 (l:=[]) trivial Qi (by kernel_rfl)
def Qk:Aq:=⟨168,[(.agg [iV 5,iV 1,bV false,iV 0]),(.agg [iV 1,iV 1,bV true,iV 0])],iV 4⟩
theorem jI:Qk.Ok Tryz.prog:=Y9 (l:=[]) trivial Qk (by kernel_rfl)
def Ql:Aq:=⟨42,[ER,iV 6],(.Aj [[iV 4,iV 5]])⟩
theorem jJ:Ql.Ok Tryz.prog:=Y9 (l:=[]) trivial Ql (by kernel_rfl)
def Qo:Aq:=⟨42,[ER,iV 8],.Ae⟩
theorem jM:Qo.Ok Tryz.prog:=Y9 (l:=[]) trivial Qo (by kernel_rfl)
def Mt:Aq:=⟨110,[Eb,iV 5,bV true],iV 2⟩
theorem US:Mt.Ok Tryz.prog:=Y9 (l:=[]) trivial Mt (by kernel_rfl)
def Qv:Aq:=⟨110,[Eb,iV 5,bV false],iV 7⟩
theorem jT:Qv.Ok Tryz.prog:=Y9 (l:=[]) trivial Qv (by kernel_rfl)
def Qw:Aq:=⟨113,[Eb,iV 2,iV 5],iV 7⟩
theorem jU:Qw.Ok Tryz.prog:=Y9 (l:=[Mt,Qv]) ⟨US,jT,trivial⟩ Qw (by kernel_rfl)
def Qx:Aq:=⟨112,[Eb,iV 7,iV 7],bV false⟩
theorem jV:Qx.Ok Tryz.prog:=Y9 (l:=[]) trivial Qx (by kernel_rfl)
def QB:Aq:=⟨113,[Eb,iV 7,iV 5],iV 2⟩
theorem jZ:QB.Ok Tryz.prog:=Y9 (l:=[Mt]) ⟨US,trivial⟩ QB (by kernel_rfl)
def QC:Aq:=⟨112,[Eb,iV 2,iV 3],bV true⟩
theorem kC:QC.Ok Tryz.prog:=Y9 (l:=[]) trivial QC (by kernel_rfl)
def QD:Aq:=⟨110,[Eb,iV 3,bV true],iV 2⟩
theorem kD:QD.Ok Tryz.prog:=Y9 (l:=[]) trivial QD (by kernel_rfl)
def QE:Aq:=⟨110,[Eb,iV 3,bV false],iV 5⟩
theorem kE:QE.Ok Tryz.prog:=Y9 (l:=[]) trivial QE (by kernel_rfl)
def QF:Aq:=⟨113,[Eb,iV 2,iV 3],iV 5⟩
theorem kF:QF.Ok Tryz.prog:=Y9 (l:=[QD,QE]) ⟨kD,kE,trivial⟩ QF (by kernel_rfl)
def QI:Aq:=⟨112,[Eb,iV 2,iV 7],bV true⟩
theorem kI:QI.Ok Tryz.prog:=Y9 (l:=[]) trivial QI (by kernel_rfl)
end Go.Ac
end
section
namespace Go.Ac
open Go Go.AE Go.Proofs
def Lm:Aq:=⟨65,[GZ],bV true⟩
theorem NU:Lm.Ok Tryz.prog:=Y9 (l:=[]) trivial Lm (by kernel_rfl)
def gU:Aq:=⟨34,[GZ,(.Aj [[iV 1],[iV 5],[iV 6],[iV 10]])],(.tuple [ER,iV 0])⟩
theorem mo3:gU.Ok Tryz.prog:=Y9 (l:=[Lm]) ⟨NU,trivial⟩ gU (by kernel_rfl)
def gV:Aq:=⟨34,[GZ,(.Aj [[iV 1],[iV 10]])],(.tuple [EL,iV 0])⟩
theorem mo4:gV.Ok Tryz.prog:=Y9 (l:=[Lm]) ⟨NU,trivial⟩ gV (by kernel_rfl)
def gW:Aq:=⟨35,[ER],(.str [49,48,58,32,48,46,49,32,49,46,49,32,52,46,49,32,53,46,49,32,53,46,50,32,54,46,49,32,57,46,49,32,49,48,46,49])⟩
theorem mo5:gW.Ok Tryz.prog:=Y9 (l:=[]) trivial gW (by kernel_rfl)
def XD:Aq:=⟨23,[ER],iV 0⟩
theorem qk:XD.Ok Tryz.prog:=Y9 (l:=[]) trivial XD (by kernel_rfl)
def XG:Aq:=⟨42,[ER,iV 3],.Ae⟩
theorem qn:XG.Ok Tryz.prog:=Y9 (l:=[]) trivial XG (by kernel_rfl)
def Mp:Aq:=⟨96,[ER],(.tuple [qi,iV 0])⟩
theorem UO:Mp.Ok Tryz.prog:=Y9 (l:=[]) trivial Mp (by kernel_rfl)
def Mq:Aq:=⟨108,[ER],Eb⟩
theorem UP:Mq.Ok Tryz.prog:=Y9 (l:=[Mp]) ⟨UO,trivial⟩ Mq (by kernel_rfl)
def PC:Aq:=⟨31,[ER,(.agg [iV 2,iV 1,iV 3,iV 0,bV false,bV false,iV 0])],(.tuple [gL,iV 0])⟩
theorem iA:PC.Ok Tryz.prog:=Y9 (l:=[Mp]) ⟨UO,trivial⟩ PC (by kernel_rfl)
def IW:Aq:=⟨23,[EL],iV 0⟩
theorem QS:IW.Ok Tryz.prog:=Y9 (l:=[]) trivial IW (by kernel_rfl)
def PG:Aq:=⟨42,[EL,iV 1],(.Aj [[iV 0,iV 1]])⟩
theorem iE:PG.Ok Tryz.prog:=Y9 (l:=[]) trivial PG (by kernel_rfl)
def Mr:Aq:=⟨96,[EL],(.tuple [(.Aj [[bV false,(.Aj [[iV 0]]),IT,(.Aj [[iV 1]]),bV false],[bV false,(.Aj [[iV 1],[iV 5]]),(.Aj [[iV 0,iV 0],[iV 10,iV 1],[iV 9,iV 0],[iV 8,iV 0],[iV 7,iV 0],[iV 6,iV 0],[iV 5,iV 0],[iV 4,iV 0],[iV 3,iV 0],[iV 2,iV 0],[iV 1,iV 1]]),(.Aj [[iV 9],[iV 8],[iV 7],[iV 6],[iV 5],[iV 4],[iV 3],[iV 2]]),bV true],[bV true,(.Aj [[iV 2],[iV 6]]),(.Aj [[iV 9,iV 1],[iV 10,iV 0],[iV 0,iV 1],[iV 1,iV 0]]),(.Aj [[iV 10],[iV 1]]),bV false],[bV true,(.Aj [[iV 3]]),(.Aj [[iV 1,iV 1],[iV 2,iV 0],[iV 3,iV 0],[iV 4,iV 0],[iV 5,iV 0],[iV 6,iV 0],[iV 7,iV 0],[iV 8,iV 0],[iV 9,iV 0]]),Ml,bV false],[bV false,(.Aj [[iV 4]]),Gw,(.Aj [[iV 10]]),bV false],[bV true,(.Aj [[iV 7]]),Py,.Ae,bV true]]),iV 0])⟩
theorem UQ:Mr.Ok Tryz.prog:=Y9 (l:=[]) trivial Mr (by kernel_rfl)
def PI:Aq:=⟨31,[EL,UC],(.tuple [Pr,iV 0])⟩
theorem iF:PI.Ok Tryz.prog:=Y9 (l:=[Mr]) ⟨UQ,trivial⟩ PI (by kernel_rfl)
def PT:Aq:=⟨31,[EL,(.agg [iV 9,iV 2,iV 0,iV 0,bV false,bV false,iV 0])],(.tuple [Pq,iV 0])⟩
theorem iQ:PT.Ok Tryz.prog:=Y9 (l:=[Mr]) ⟨UQ,trivial⟩ PT (by kernel_rfl)
def PY:Aq:=⟨42,[FW,iV 1],(.Aj [[iV 0,iV 1]])⟩
theorem iW:PY.Ok Tryz.prog:=Y9 (l:=[]) trivial PY (by kernel_rfl)
def Qg:Aq:=⟨35,[gQ],(.str [49,48,58,32,49,46,49,32,48,46,49,32,49,117,43,32,57,46,49,32,49,48,46,49,32,49,111,43])⟩
theorem jE:Qg.Ok Tryz.prog:=Y9 (l:=[]) trivial Qg (by kernel_rfl)
def Qm:Aq:=⟨168,[(.agg [iV 6,iV 1,bV true,iV 0]),(.agg [iV 5,iV 1,bV true,iV 0])],iV 1⟩
theorem jK:Qm.Ok Tryz.prog:=Y9 (l:=[]) trivial Qm (by kernel_rfl)
def Qn:Aq:=⟨42,[ER,iV 7],.Ae⟩
theorem jL:Qn.Ok Tryz.prog:=Y9 (l:=[]) trivial Qn (by kernel_rfl)
def Qr:Aq:=⟨168,[(.agg [iV 10,iV 1,bV true,iV 0]),(.agg [iV 6,iV 1,bV false,iV 0])],iV 4⟩
theorem jP:Qr.Ok Tryz.prog:=Y9 (l:=[]) trivial Qr (by kernel_rfl)
def Qt:Aq:=⟨111,[Eb,iV 9],iV 7⟩
theorem jR:Qt.Ok Tryz.prog:=Y9 (l:=[]) trivial Qt (by kernel_rfl)
def Qu:Aq:=⟨112,[Eb,iV 2,iV 5],bV true⟩
theorem jS:Qu.Ok Tryz.prog:=Y9 (l:=[]) trivial Qu (by kernel_rfl)
def Qz:Aq:=⟨112,[Eb,iV 7,iV 1],bV false⟩
theorem jX:Qz.Ok Tryz.prog:=Y9 (l:=[]) trivial Qz (by kernel_rfl)
end Go.Ac
end
