/- Part 37 of the proof: Kr. -/
import Derived.Test.YtggclbeocekgkaaGreatDoorP34
import Derived.Test.YtggclbeocekgkaaGreatDoorP36
set_option linter.all false
namespace Go.Ac
open Go Go.AE Go.Proofs
def rm(f:Func):Code:=f.body.getD .skip
def ru(f:Func):Code:=cSc (Ga (rm f))
def ry(f:Func):Code:=Ga (ru f)
def Se(f:Func):Code:=Ga (ry f)
def UY(f:Func):Array Oper:=dN (NW (Se f))
def lD(f:Func):Nat:=cId (NW (Se f))
def r8(k:Nat):Nat:=[0,1,2,3,5,6,7,8,4,9,10].getD k k
def lS(k:Nat):Nat:=[0,1,2,3,8,4,5,6,7,9,10].getD k k
theorem yh:DJ (UY Tryz.f69).size r8 lS:=by
 have hs:(UY Tryz.f69).size=11:=by kernel_rfl
 rw[hs];refine⟨by decide,by decide,fun i hi=>?_⟩
 unfold lS;rw[List.getD_eq_getElem?_getD,List.getElem?_eq_none (by simpa using hi)]
 rfl
def ri(P:Program)(f:Func):List Af:=Tt (Y4 P (.region (lD f) (J6 (UY f) 8 ⟨4,.data⟩) true))
def r7(P:Program)(f:Func):List Af:=Tt (Y4 P (.region (lD f) (GK (J6 (UY f) 4 ⟨8,.data⟩) r8 lS) true))
def qt:An:=GB EV.body
def qu:An:=GB (bT (D1 EV.body))
def qv:An:=GB (D1 (bT (D1 EV.body)))
def XI:An:=D1 (D1 (D1 (bT (D1 EV.body))))
def qw:An:=GB XI
def qx:An:=GB (D1 XI)
def qy:An:=GB (D1 (D1 (D1 XI)))
def qz:An:=D1 (D1 (D1 (D1 XI)))
def rq:List Aq:=[Mq,Qh,Qi,XG,Qj,XE,Qk,Ql,Qm,Qn,Qo,Qp,Qq,Qr,Qs,IV,Ms,Qt,Qu,Qw,Qx,Qy,Qz,QA,QB,QC,QF,QG,QH,QI,QL]
theorem Z1y:Aq.Rh Tryz.prog rq:=⟨UP,jF,jG,qn,jH,ql,jI,jJ,jK,jL,jM,jN,jO,jP,jQ,QO,UR,jR,jS,jU,jV,jW,jX,jY,jZ,kC,kF,kG,kH,kI,kL,trivial⟩
def Mu:Aq:=⟨69,[GZ,ER,(.int .i64 9),(.int .i64 1)],(.tuple [UI,(.bool true)])⟩
def lB:AP:=Ff Ds (QU rq) 1000
theorem xW:D8 Tryz.prog lB:=Zw hm aI (vM Z1y) 1000
def NV(P:Program)(f:Func)(i:Nat):Bool:=SS lB (Rx Ds lB 100) qt qu qv (ri P f) (r7 P f) qw qx qy qz EV.results Mu 4 8 i
end Go.Ac
