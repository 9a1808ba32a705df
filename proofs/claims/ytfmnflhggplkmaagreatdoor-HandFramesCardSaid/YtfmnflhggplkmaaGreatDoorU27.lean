/- Part 27 of the proof: AeGa, AeOr. -/
import Derived.Test.YtfmnflhggplkmaaGreatDoorU20
import Derived.Test.YtfmnflhggplkmaaGreatDoorU26
import Derived.Deep.LoopGhost
import Derived.RangeFuncRecord
set_option linter.all false
section
namespace Go.AE
open Go.RowKit
abbrev RegW:=Bool→List AOper→(ASt→Prop)→ASt→Prop
structure Open (F:Fence):Prop where
 fn:∀ f,F.fn f
 depth:F.depth=none
 alive:F.alive=false
theorem Open.round {F:Fence} (h:Open F) (l:Nat):Open (F.inRound l):=⟨h.fn,h.depth,h.alive⟩
abbrev HypW:=Base→Pers→Rho→Prop
def HypW.Mono (H:HypW):Prop:=∀ W Φ ρ Φ' ρ',H W Φ ρ→Ext Φ ρ Φ' ρ'→H W Φ' ρ'
section
variable {F:Fence} {n:Nat} {H:HypW} {D:List Deferred} {P:Program} {wr:RegW} {sc:Bool}
end
end Go.AE
end
section
namespace Go.AE
open Go.RowKit
def beqBytes:List UInt8→List UInt8→Bool
 | [],[]=>true
 | a :: r,b :: s=>Nat.beq a.toNat b.toNat&&beqBytes r s
 | _,_=>false
theorem beqBytes_eq:∀ {a b:List UInt8},beqBytes a b=true→a=b
 | [],[],_=>rfl
 | a :: r,b :: s,h=>by
  simp only[beqBytes,Bool.and_eq_true]at h
  have h1:=Nat.eq_of_beq_eq_true h.1
  rw[UInt8.toNat_inj.1 h1,beqBytes_eq h.2]
 | [],_ :: _,h=>by cases h
 | _ :: _,[],h=>by cases h
def beqInt:Int→Int→Bool
 | .ofNat a,.ofNat b=>Nat.beq a b
 | .negSucc a,.negSucc b=>Nat.beq a b
 | _,_=>false
theorem beqInt_eq {a b:Int} (h:beqInt a b=true):a=b:=by
 cases a<;>cases b<;>simp only[beqInt]at h<;>first|(cases h; done)|simp_all
mutual
def beqA:AVal→AVal→Bool
 | .bool a,.bool b=>a == b
 | .int k a,.int k' b=>k == k'&&beqInt a b
 | .str a,.str b=>beqBytes a b
 | .nilPtr,.nilPtr=>true
 | .nilSl,.nilSl=>true
 | .emp,.emp=>true
 | .nilMap,.nilMap=>true
 | .nilFunc,.nilFunc=>true
 | .nilIface,.nilIface=>true
 | .imm a,.imm b=>beqLL a b
 | .agg a,.agg b=>beqL a b
 | .tuple a,.tuple b=>beqL a b
 | _,_=>false
def beqL:List AVal→List AVal→Bool
 | [],[]=>true
 | x :: r,y :: s=>beqA x y&&beqL r s
 | _,_=>false
def beqLL:List (List AVal)→List (List AVal)→Bool
 | [],[]=>true
 | x :: r,y :: s=>beqL x y&&beqLL r s
 | _,_=>false
end
mutual
theorem beqA_eq:∀ (x y:AVal),beqA x y=true→x=y
 | .bool a,y,h=>by cases y<;>simp only[beqA]at h<;>first|(cases h; done)|(simp at h; rw[h])
 | .int k a,y,h=>by
  cases y<;>simp only[beqA]at h<;>first|(cases h; done)|skip
  simp only[Bool.and_eq_true,beq_iff_eq]at h
  rw[h.1,beqInt_eq h.2]
 | .str a,y,h=>by cases y<;>simp only[beqA]at h<;>first|(cases h; done)|(rw[beqBytes_eq h])
 | .nilPtr,y,h=>by cases y<;>simp only[beqA]at h<;>first|(cases h; done)|rfl
 | .nilSl,y,h=>by cases y<;>simp only[beqA]at h<;>first|(cases h; done)|rfl
 | .emp,y,h=>by cases y<;>simp only[beqA]at h<;>first|(cases h; done)|rfl
 | .nilMap,y,h=>by cases y<;>simp only[beqA]at h<;>first|(cases h; done)|rfl
 | .nilFunc,y,h=>by cases y<;>simp only[beqA]at h<;>first|(cases h; done)|rfl
 | .nilIface,y,h=>by cases y<;>simp only[beqA]at h<;>first|(cases h; done)|rfl
 | .imm a,y,h=>by cases y<;>simp only[beqA]at h<;>first|(cases h; done)|(rw[beqLL_eq _ _ h])
 | .agg a,y,h=>by cases y<;>simp only[beqA]at h<;>first|(cases h; done)|(rw[beqL_eq _ _ h])
 | .ptr _ _ _,y,h=>by simp[beqA]at h
 | .iptr _ _ _,y,h=>by simp[beqA]at h
 | .sl _ _ _,y,h=>by simp[beqA]at h
 | .map _,y,h=>by simp[beqA]at h
 | .yld _,y,h=>by simp[beqA]at h
 | .atLeast _,y,h=>by simp[beqA]at h
 | .func _ _ _,y,h=>by simp[beqA]at h
 | .iface _ _,y,h=>by simp[beqA]at h
 | .tuple a,y,h=>by
  cases y<;>simp only[beqA]at h<;>first|(cases h; done)|(rw[beqL_eq _ _ h])
 | .bot,y,h=>by simp[beqA]at h
theorem beqL_eq:∀ (x y:List AVal),beqL x y=true→x=y
 | [],[],_=>rfl
 | a :: r,b :: s,h=>by
  simp only[beqL,Bool.and_eq_true]at h
  rw[beqA_eq a b h.1,beqL_eq r s h.2]
 | [],_ :: _,h=>by simp[beqL]at h
 | _ :: _,[],h=>by simp[beqL]at h
theorem beqLL_eq:∀ (x y:List (List AVal)),beqLL x y=true→x=y
 | [],[],_=>rfl
 | a :: r,b :: s,h=>by
  simp only[beqLL,Bool.and_eq_true]at h
  rw[beqL_eq a b h.1,beqLL_eq r s h.2]
 | [],_ :: _,h=>by simp[beqLL]at h
 | _ :: _,[],h=>by simp[beqLL]at h
end
structure Memo where
 g:FuncId
 args:List AVal
 v:AVal
def Memo.Ok (P:Program) (e:Memo):Prop:=∀ m av,ACalls P e.g e.args m av fun r m'=>r=e.v∧m'=m
def Memo.All (P:Program):List Memo→Prop
 | []=>True
 | e :: r=>e.Ok P∧Memo.All P r
def runM (tab:Nat→Option AFn) (orc:Caller) (g:FuncId) (args:List AVal):Option AVal:=
 match runF tab orc 1000 g args ⟨.nil,1⟩ with
 | some (r,m,_)=>freezeV m.tr.get 1000 r
 | none=>none
theorem memo_of {P:Program} (hm:P.follows .mixedOrders=true) {tab:Nat→Option AFn} {orc:Caller} (htab:TabOk P tab) (horc:CallerOk P orc) (e:Memo)
 (h:(match runM tab orc e.g e.args with|some r=>beqA r e.v&&(closedL e.args&&e.v.closed)|none=>false)=true):e.Ok P:=by
 intro m av
 unfold runM at h
 cases hr:runF tab orc 1000 e.g e.args ⟨.nil,1⟩ with
 | none=>simp[hr]at h
 | some rmw=>
  obtain⟨r,m1,wl⟩:=rmw
  simp only[hr]at h
  cases hf:freezeV m1.tr.get 1000 r with
  | none=>simp[hf]at h
  | some y=>
   simp only[hf,Bool.and_eq_true]at h
   obtain⟨h1,h2,h3⟩:=h
   have hy:=beqA_eq _ _ h1
   subst hy
   obtain⟨_,_,hA⟩:=runF_ok hm htab horc 1000 e.g e.args ⟨.nil,1⟩ r m1 wl hr
   exact pure_frozen h2 h3 (m0:=(⟨.nil,1⟩:TM).mem) (fun c=>rfl) (Nat.lt_succ_self 0) (hA 0) (fun r' m' hk=>⟨1000,by obtain⟨rfl,rfl⟩:=hk; exact hf⟩) m av
end Go.AE
end
