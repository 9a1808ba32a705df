/- Part 39 of the proof: Kr. -/
import Derived.Test.YtfmnflhggplkmaaGreatDoorO35
import Derived.Test.YtfmnflhggplkmaaGreatDoorO37
set_option linter.all false
namespace Go.Known
open Go Go.AE Go.Proofs
def rtB (f:Func):Code:=f.body.getD .skip
def rtS (f:Func):Code:=cSc (sqR (rtB f))
def rtT (f:Func):Code:=sqR (rtS f)
def rtU (f:Func):Code:=sqR (rtT f)
def rtO (f:Func):Array Oper:=cOps (sqL (rtU f))
def rtI (f:Func):Nat:=cId (sqL (rtU f))
def rtp (k:Nat):Nat:=[0,1,2,3,5,6,7,8,4,9,10].getD k k
def rtq (k:Nat):Nat:=[0,1,2,3,8,4,5,6,7,9,10].getD k k
theorem rt_perm:IsPerm (rtO Tryz.f49).size rtp rtq:=by
 have hs:(rtO Tryz.f49).size=11:=by kernel_rfl
 rw[hs]
 refine⟨by decide,by decide,fun i hi=>?_⟩
 unfold rtq
 rw[List.getD_eq_getElem?_getD,List.getElem?_eq_none (by simpa using hi)]
 rfl
def rtA (P:Program) (f:Func):List AOper:=aOps (cCode P (.region (rtI f) (addEdge (rtO f) 8 ⟨4,.data⟩) true))
def rtZ (P:Program) (f:Func):List AOper:=aOps (cCode P (.region (rtI f) (permA (addEdge (rtO f) 4 ⟨8,.data⟩) rtp rtq) true))
def rt1:ACode:=sqLa aq49.body
def rt2:ACode:=sqLa (aSc (sqRa aq49.body))
def rt3:ACode:=sqLa (sqRa (aSc (sqRa aq49.body)))
def rtX:ACode:=sqRa (sqRa (sqRa (aSc (sqRa aq49.body))))
def rt5:ACode:=sqLa rtX
def rt6:ACode:=sqLa (sqRa rtX)
def rt7:ACode:=sqLa (sqRa (sqRa (sqRa rtX)))
def rt8:ACode:=sqRa (sqRa (sqRa (sqRa rtX)))
def rtL:List Memo:=[mm11,mm45,mm46,mm9,mm47,mm7,mm48,mm49,mm50,mm51,mm52,mm53,mm54,mm55,mm56,mm14,mm57,mm58,mm59,mm62,mm63,mm64,mm65,mm66,mm67,mm68,mm71,mm72,mm73,mm74,mm77]
theorem rtL_ok:Memo.All Tryz.prog rtL:=⟨mo11,mo45,mo46,mo9,mo47,mo7,mo48,mo49,mo50,mo51,mo52,mo53,mo54,mo55,mo56,mo14,mo57,mo58,mo59,mo62,mo63,mo64,mo65,mo66,mo67,mo68,mo71,mo72,mo73,mo74,mo77,trivial⟩
def mm78:Memo:=⟨49,[kv9,kv5,(.int .i64 9),(.int .i64 1)],(.tuple [kv32,(.bool true)])⟩
def rtC:Caller:=runF tab (orcM rtL) 1000
theorem rtC_ok:CallerOk Tryz.prog rtC:=runF_ok hm tab_ok (orcM_ok rtL_ok) 1000
def rtK (P:Program) (f:Func) (i:Nat):Bool:=chunkOk rtC (runFN tab rtC 100) rt1 rt2 rt3 (rtA P f) (rtZ P f) rt5 rt6 rt7 rt8 aq49.results mm78 4 8 i
end Go.Known
