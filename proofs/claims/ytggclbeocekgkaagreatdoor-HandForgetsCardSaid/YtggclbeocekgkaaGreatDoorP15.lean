/- Part 15 of the proof: AeGb, AeGc, AeOr, AeGf, AeHb, AeMa. -/
import Derived.Test.YtggclbeocekgkaaGreatDoorP6
import Derived.Test.YtggclbeocekgkaaGreatDoorP10
import Derived.Test.YtggclbeocekgkaaGreatDoorP14
import Derived.Lib.Overlaps
set_option linter.all false
section
namespace Go.AE
open Go.RowKit
def u5(t:List Aa)(f:Ah)(xs:List Ah):Option (Fn×List Aa):=
 match ev t f with
 | .func (.func g) first cap=>some (.func g,first++xs.map (ev t)++cap)
 | .FH b=>some (.yield b,xs.map (ev t))
 | _=>none
abbrev Hh:=Fn→List Aa→Mem→Nat→(Aa→Mem→Prop)→Prop
abbrev Si:=Nat→List Aa→Mem→AU→Option (Aa×Mem)
def Rm(st:Si)(cw:Hh)(base:Nat):List Af→Nat→(AY→Prop)→List Aa→Mem→Prop
 | [],_,K,t,m=>K ⟨t,m⟩
 | o :: r,i,K,t,m=>
  match T7 t o.guard with
  | some false=>Rm st cw base r (i+1) K (put t o.dst Ag) m
  | some true=>
   match o.op with
   | .call f xs=>match u5 t f xs with
    | some (fn,args)=>cw fn args m (base+i) fun v m'=>Rm st cw base r (i+1) K (put t o.dst v) m'
    | none=>False
   | op=>match st (base+i) t m op with
    | some (v,m')=>Rm st cw base r (i+1) K (put t o.dst v) m'
    | none=>False
  | none=>False
def XM(F:Fence)(n:Nat)(P:Program)(ρ:AD)(fn:Fn)(vs:Array Value)(w:World)(S:Ending→World→Prop):Prop:=
 (∃ g,fn=.func g∧Te P g∧CallsIn F n P g vs w S) ∨
 (∃ b l f tmps assign body,fn=.yield b∧ρ b=some l∧(Instr.yield l.blk vs).run P w=.ok (.round l.blk f tmps assign body) w∧RoundIn F n P l.blk f tmps assign body w S) ∨
 (∃ g v w',fn=.func g∧(callFunc g vs).run P w=.ok (.value v) w'∧S (.returned v) w')
def dZ(P:Program):Hh:=fun fn args m id K=>∃ g,fn=.func g∧Au P g args m [id] K
section
variable {F:Fence} {n:Nat} {H:EC} {D:List Deferred} {P:Program} {W:AA} {Φ:Ao} {ρ:AD} {w:World} {m m':Mem} {x:Aa} {a:Act} {t:List Aa} {ops:Array Oper}
end
section
variable {n:Nat} {H:EC} {D:List Deferred} {P:Program}
end
end Go.AE
end
section
namespace Go.AE
open Go.RowKit
section
variable {P:Program} {W:AA} {Φ:Ao} {ρ:AD} {w:World} {m m':Mem}
def lV(b l:Nat)(r:Loop)(tR:List Aa):EC:=fun W Φ ρ=>W.w.heap.size≤l∧W.g l=some (.loop r)∧RL Φ ρ tR r.tmps∧ρ b=some ⟨l,0,0,0⟩
def Ye7(H:EC)(P:Program)(f:FuncId)(args:List Aa)(m:Mem)(K:Aa→Mem→Prop):Prop:=
 Te P f ∧ ∀(W:AA) (Φ:Ao) (ρ:AD),H W Φ ρ → ∀(vs:Array Value) (w:World),Rel W Φ ρ m w→RL Φ ρ args vs →
  Calls P f vs w fun e w'=>∃ v r m' Ar ρ',e=.returned v∧Ext Φ ρ Ar ρ'∧BI m.next ρ ρ'∧Rel W Ar ρ' m' w'∧R Ar ρ' r v∧m.next≤m'.next∧K r m'
theorem Zk{args:List Aa}{vs:Array Value}{k:Nat}(ha:RL Φ ρ args vs):RL Φ ρ (args++List.replicate (k - args.length) Ag) (vs++Array.replicate (k - vs.size) undef):=by
 refine⟨by simp[ha.1],fun i x v hx hv=>?_⟩
 rw[List.getElem?_append]at hx;rw[Array.getElem?_append,ha.1]at hv;split at hx
 ·rename_i hlt;rw[iP hlt]at hv;exact ha.2 i x v hx hv
 ·rename_i hge;rw[iN hge]at hv;have e1:x=Ag:=by
   grind
  have e2:v=undef:=by
   grind
  subst e1; subst e2;exact GM _ _
theorem SU{fn:Func}{af:As}(hc:AS P fn=some af):∃ c,fn.body=some c∧af.body=Y4 P c∧Ka P fn.results.toList=some af.results∧af.ntmps=fn.ntmps∧(fn.name == "runtime.NumGoroutine")=false:=by
 unfold AS at hc
 grind
end
end Go.AE
end
section
namespace Go.AE
open Go.RowKit
def VV:List UInt8→List UInt8→Bool
 | [],[]=>true
 | a :: r,b :: s=>Nat.beq a.toNat b.toNat&&VV r s
 | _,_=>false
theorem rR:∀ {a b:List UInt8},VV a b=true→a=b
 | [],[],_=>rfl
 | a :: r,b :: s,h=>by
  simp only[VV,bA]at h;have h1:=Nat.eq_of_beq_eq_true h.1;rw[UInt8.toNat_inj.1 h1,rR h.2]
 | [],_ :: _,h=>by cases h
 | _ :: _,[],h=>by cases h
def Ya:Int→Int→Bool
 | .ofNat a,.ofNat b=>Nat.beq a b
 | .negSucc a,.negSucc b=>Nat.beq a b
 | _,_=>false
theorem Z2h{a b:Int}(h:Ya a b=true):a=b:=by
 cases a<;>cases b<;>simp only[Ya]at h<;>first|(cases h; done)|simp_all
mutual
def N7:Aa→Aa→Bool
 | .bool a,.bool b=>a == b
 | .int k a,.int k' b=>k == k'&&Ya a b
 | .str a,.str b=>VV a b
 | .nilPtr,.nilPtr=>true
 | .Ae,.Ae=>true
 | .emp,.emp=>true
 | .Av,.Av=>true
 | .nilFunc,.nilFunc=>true
 | .nilIface,.nilIface=>true
 | .Aj a,.Aj b=>Ri a b
 | .agg a,.agg b=>EH a b
 | .tuple a,.tuple b=>EH a b
 | _,_=>false
def EH:List Aa→List Aa→Bool
 | [],[]=>true
 | x :: r,y :: s=>N7 x y&&EH r s
 | _,_=>false
def Ri:List (List Aa)→List (List Aa)→Bool
 | [],[]=>true
 | x :: r,y :: s=>EH x y&&Ri r s
 | _,_=>false
end
mutual
theorem YN:∀ (x y:Aa),N7 x y=true→x=y
 | .bool a,y,h=>by cases y<;>simp only[N7]at h<;>first|(cases h; done)|(simp at h; rw[h])
 | .int k a,y,h=>by
  cases y<;>simp only[N7]at h<;>first|(cases h; done)|skip
  simp only[bA,beq_iff_eq]at h;rw[h.1,Z2h h.2]
 | .str a,y,h=>by cases y<;>simp only[N7]at h<;>first|(cases h; done)|(rw[rR h])
 | .nilPtr,y,h=>by cases y<;>simp only[N7]at h<;>first|(cases h; done)|rfl
 | .Ae,y,h=>by cases y<;>simp only[N7]at h<;>first|(cases h; done)|rfl
 | .emp,y,h=>by cases y<;>simp only[N7]at h<;>first|(cases h; done)|rfl
 | .Av,y,h=>by cases y<;>simp only[N7]at h<;>first|(cases h; done)|rfl
 | .nilFunc,y,h=>by cases y<;>simp only[N7]at h<;>first|(cases h; done)|rfl
 | .nilIface,y,h=>by cases y<;>simp only[N7]at h<;>first|(cases h; done)|rfl
 | .Aj a,y,h=>by cases y<;>simp only[N7]at h<;>first|(cases h; done)|(rw[xK _ _ h])
 | .agg a,y,h=>by cases y<;>simp only[N7]at h<;>first|(cases h; done)|(rw[Sv _ _ h])
 | .ptr _ _ _,y,h=>by simp[N7]at h
 | .AW _ _ _,y,h=>by simp[N7]at h
 | .sl _ _ _,y,h=>by simp[N7]at h
 | .map _,y,h=>by simp[N7]at h
 | .FH _,y,h=>by simp[N7]at h
 | .atLeast _,y,h=>by simp[N7]at h
 | .func _ _ _,y,h=>by simp[N7]at h
 | .iface _ _,y,h=>by simp[N7]at h
 | .tuple a,y,h=>by
  cases y<;>simp only[N7]at h<;>first|(cases h; done)|(rw[Sv _ _ h])
 | .bot,y,h=>by simp[N7]at h
theorem Sv:∀ (x y:List Aa),EH x y=true→x=y
 | [],[],_=>rfl
 | a :: r,b :: s,h=>by
  simp only[EH,bA]at h;rw[YN a b h.1,Sv r s h.2]
 | [],_ :: _,h=>by simp[EH]at h
 | _ :: _,[],h=>by simp[EH]at h
theorem xK:∀ (x y:List (List Aa)),Ri x y=true→x=y
 | [],[],_=>rfl
 | a :: r,b :: s,h=>by
  simp only[Ri,bA]at h;rw[Sv a b h.1,xK r s h.2]
 | [],_ :: _,h=>by simp[Ri]at h
 | _ :: _,[],h=>by simp[Ri]at h
end
structure Aq where
 g:FuncId
 args:List Aa
 v:Aa
def Aq.Ok(P:Program)(e:Aq):Prop:=∀ m av,Au P e.g e.args m av fun r m'=>r=e.v∧m'=m
def Aq.Rh(P:Program):List Aq→Prop
 | []=>True
 | e :: r=>e.Ok P∧Aq.Rh P r
def runM(Ds:Nat→Option As)(Gk:AP)(g:FuncId)(args:List Aa):Option Aa:=
 match Ff Ds Gk 1000 g args ⟨.nil,1⟩ with
 | some (r,m,_)=>X9 m.tr.get 1000 r
 | none=>none
theorem xg{P:Program}(hm:P.follows .mixedOrders=true){Ds:Nat→Option As}{Gk:AP}(FR:SI P Ds)(Mh:D8 P Gk)(e:Aq)
 (h:(match runM Ds Gk e.g e.args with|some r=>N7 r e.v&&(X8 e.args&&e.v.closed)|none=>false)=true):e.Ok P:=by
 intro m av;unfold runM at h;cases hr:Ff Ds Gk 1000 e.g e.args ⟨.nil,1⟩ with
 | none=>simp[hr]at h
 | some rmw=>
  obtain⟨r,m1,wl⟩:=rmw;simp only[hr]at h;cases hf:X9 m1.tr.get 1000 r with
  | none=>simp[hf]at h
  | some y=>
   simp only[hf,bA]at h;obtain⟨h1,h2,h3⟩:=h;have hy:=YN _ _ h1;subst hy;obtain⟨_,_,hA⟩:=Zw hm FR Mh 1000 e.g e.args ⟨.nil,1⟩ r m1 wl hr;exact Wg h2 h3 (m0:=(⟨.nil,1⟩:TM).mem) (fun c=>rfl) (Nat.lt_succ_self 0) (hA 0) (fun r' m' hk=>⟨1000,by obtain⟨rfl,rfl⟩:=hk; exact hf⟩) m av
end Go.AE
end
section
namespace Go.AE
open Go.RowKit
variable {P:Program}
structure Hg where
 ntmps:Nat
 results:List (Nat×Option (Option Nat))
 pre:List An
 x:An
 g:Ah
 ps:List Nat
 asn:An
 bd:An
 y:An
def Hg.ok(p:Hg):Bool:=
 p.pre.all (U9 p.ntmps)&&U9 p.ntmps p.x&&(p.ps.all fun q=>decide (q<p.ntmps))&&U9 p.ntmps p.asn&&U9 p.ntmps p.bd&&U9 p.ntmps p.y&&decide (p.ntmps≤bound)
end Go.AE
end
section
namespace Go.AE
open Go.RowKit
def HEx(b N:Nat)(ex:Bool):EC:=fun _ _ ρ=>∃ l,ρ b=some l∧(match ex with|true=>l.n=l.sh+N|false=>l.sh+N≤l.n)
section
variable {F:Fence} {n:Nat} {P:Program} {W:AA} {Φ:Ao} {ρ:AD} {id:Nat} {w:World} {m m':Mem} {x:Aa} {a:Act} {t:List Aa}
end
end Go.AE
end
section
namespace Go.AE
open Go.RowKit
def RC(v:Aa)(m:Mem)(K:Aa→Mem→Prop):Prop:=
 match v with
 | .ptr it 0 0=>match m.get it with
  | some (.AJ (some b) since seen last)=>match m.get b with
   | some (.map es clock)=>(seen=[]∨es=[] ∨ ∃ e,e∈es∧e.2.2<last) ∧
    (∀ e,e∈es→e.2.2∉seen→K (.tuple [.bool true,e.1,e.2.1]) (m.set it (.AJ (some b) since (seen++[e.2.2]) clock))) ∧
    ((∀ e,e∈es→e.2.2<since→e.2.2∈seen)→K (.tuple [.bool false]) m)
   | _=>False
  | _=>False
 | _=>False
def RO(id:Nat)(v:Aa)(m:Mem)(K:Aa→Mem→Prop):Prop:=
 match v with
 | .map b=>match m.get b with
  | some (.map _ clock)=>K (.ptr id 0 0) (m.set id (.AJ (some b) clock [] clock))
  | _=>False
 | _=>False
def RM(v:Aa)(m:Mem)(K:Aa→Prop):Prop:=
 match v with
 | .ptr it 0 0=>match m.get it with
  | some (.AJ (some b) _ seen last)=>match m.get b with
   | some (.map es clock)=>clock=last ∧ ∃ s,seen.getLast? = some s∧(∃ e,e∈es∧e.2.2=s) ∧ ∀ e,e∈es→e.2.2=s→K (.tuple [e.1,e.2.1])
   | _=>False
  | _=>False
 | _=>False
section
variable {P:Program} {W:AA} {Φ:Ao} {ρ:AD} {w:World} {m:Mem} {a:Act} {t:List Aa}
theorem Zzp{o:Oper}{x:Ah}(ho:O9 P o=.Cc x):∃ x0,o.op=.next x0 false∧X3 x0=some x:=by
 unfold O9 at ho;cases hc:Gf P o with
 | none=>simp[hc]at ho
 | some op=>
  simp only[hc,Option.getD_some]at ho;subst ho;unfold Gf at hc;split at hc<;>first|(cases hc; done)|skip
  all_goals first
   | (simp only[mO]at hc; obtain⟨_,_,hc⟩:=hc; cases hc; done)
   | (rename_i x0 h0; simp only[mO]at hc; obtain⟨y,h1,hc⟩:=hc; cases hc; exact⟨x0,h0,h1⟩)
   | skip
  all_goals (try unfold MT at hc)
  all_goals (repeat' (split at hc<;>first|(cases hc; done)|(simp only[mO]at hc; obtain⟨_,_,hc⟩:=hc; cases hc; done)|skip))
  all_goals (first|(cases hc; done)|skip)
theorem Z91{o:Oper}{x:Ah}(ho:O9 P o=.range x):∃ tt x0 k e,o.op=.range tt x0∧P.underlying tt=some (.map k e)∧X3 x0=some x:=by
 unfold O9 at ho;cases hc:Gf P o with
 | none=>simp[hc]at ho
 | some op=>
  simp only[hc,Option.getD_some]at ho;subst ho;unfold Gf at hc;split at hc<;>first|(cases hc; done)|skip
  all_goals first
   | (simp only[mO]at hc; obtain⟨_,_,hc⟩:=hc; cases hc; done)
   | (rename_i tt x0 h0; split at hc<;>first|(cases hc; done)|(rename_i k e hu; simp only[mO]at hc; obtain⟨y,h1,hc⟩:=hc; cases hc; exact⟨tt,x0,k,e,h0,hu,h1⟩))
   | skip
  all_goals (try unfold MT at hc)
  all_goals (repeat' (split at hc<;>first|(cases hc; done)|(simp only[mO]at hc; obtain⟨_,_,hc⟩:=hc; cases hc; done)|skip))
  all_goals (first|(cases hc; done)|skip)
theorem Z4l{id:Nat}{K:Act→World→Prop}{Q:Exit→Act→World→Prop}(ht:RL Φ ρ t a.tmps)(hr:Rel W Φ ρ m w)(hn:ρ id=none)(hlt:id<m.next)(o:Oper){x:Ah}(ho:O9 P o=.range x){KA:Aa→Mem→Prop}(h:RO id (ev t x) m KA)
 (hK:∀ Ar ρ' v m' u w',Ext Φ ρ Ar ρ'→(∀ b,b≠id→ρ b=none→ρ' b=none)→Rel W Ar ρ' m' w'→R Ar ρ' v u→m'.next=m.next→KA v m'→K (a.put o.dst u) w'):o.wp P a w K Q:=by
 obtain⟨tt,x0,k,e,hop,hu,hx⟩:=Z91 ho;have hv:=R4 ht hx;generalize ev t x=z at h hv;unfold RO at h;split at h<;>first|exact h.elim|skip
 rename_i b;split at h<;>first|exact h.elim|skip
 rename_i es clock hg;generalize hvv:a.eval x0=vv at hv;cases hv with
 | map _ l hl=>
  obtain⟨l',ob,g1,g2,g3,g4,g5⟩:=hr.live b _ hg;rw[hl]at g1; injection g1 with g1; subst g1
  cases g5 with
  | map _ _ _ en hsz Ak=>
   have hget:(getObj l.blk).run P w=.ok (.map en clock) w:=by simp only[getObj,Sem.run,g4]
   have hrun:(Instr.range tt (.map (some l.blk))).run P w=.ok (.pointer (some ⟨w.heap.size,0,none⟩)) (w.alloc (.mapIter (some l.blk) clock #[] clock)):=by
    simp only[Instr.range,Sem.run_bind,V1 hu,Result.andThen_ok,hget,Sem.run_pure];rfl
   have hd:Az P (execOp a.eval o) W Φ ρ id w (.ptr id 0 0) (m.set id (.AJ (some b) clock [] clock)):=by
    have e0:execOp a.eval o=(do pure (Next.value (← Instr.range tt (a.eval x0)))):=by unfold execOp; rw[hop]
    rw[e0,hvv];have hlb:(ρ.put id ⟨w.heap.size,0,0,0⟩) b=some l:=by
     have hne:b≠id:=fun e=>by subst e; rw[hn]at hl; cases hl
     unfold AD.put;rw[iN hne];exact hl
    exact Az.new (l:=⟨w.heap.size,0,0,0⟩) (H7 hrun) hr hn hlt rfl (.AJ b l clock [] clock _ hlb rfl) (.ptr id 0 0 _ AD.Bj)
   obtain⟨v,w',Ar,ρ',hrun,he,hk,hr',hx'⟩:=hd;unfold Oper.wp;rcases hrun with hrun|⟨hrun,rfl⟩
   ·rw[hrun];exact hK _ _ _ _ _ _ he hk hr' hx' rfl h
   ·rw[hrun];exact hK _ _ _ _ _ _ he hk hr' hx' rfl h
theorem Z5p{o:Oper}{x:Ah}(ho:O9 P o=.BL x):∃ x0,o.op=.entry x0∧X3 x0=some x:=by
 unfold O9 at ho;cases hc:Gf P o with
 | none=>simp[hc]at ho
 | some op=>
  simp only[hc,Option.getD_some]at ho;subst ho;unfold Gf at hc;split at hc<;>first|(cases hc; done)|skip
  all_goals first
   | (simp only[mO]at hc; obtain⟨_,_,hc⟩:=hc; cases hc; done)
   | (rename_i x0 h0; simp only[mO]at hc; obtain⟨y,h1,hc⟩:=hc; cases hc; exact⟨x0,h0,h1⟩)
   | skip
  all_goals (try unfold MT at hc)
  all_goals (repeat' (split at hc<;>first|(cases hc; done)|(simp only[mO]at hc; obtain⟨_,_,hc⟩:=hc; cases hc; done)|skip))
  all_goals (first|(cases hc; done)|skip)
theorem YM{xs:List Aa}{vs:Array Value}(h:RL Φ ρ xs vs):R Φ ρ (.tuple xs) (.tuple vs):=.tuple _ _ h.1 h.2
theorem Z7n{K:Act→World→Prop}{Q:Exit→Act→World→Prop}(ht:RL Φ ρ t a.tmps)(hr:Rel W Φ ρ m w)(o:Oper){x:Ah}(ho:O9 P o=.Cc x){KA:Aa→Mem→Prop}(h:RC (ev t x) m KA)
 (hK:∀ v m' u w',Rel W Φ ρ m' w'→R Φ ρ v u→m'.next=m.next→KA v m'→K (a.put o.dst u) w'):o.wp P a w K Q:=by
 obtain⟨x0,hop,hx⟩:=Zzp ho;have hv:=R4 ht hx;generalize ev t x=z at h hv;unfold RC at h;split at h<;>first|exact h.elim|skip
 rename_i it;split at h<;>first|exact h.elim|skip
 rename_i b since seen last hi;split at h<;>first|exact h.elim|skip
 rename_i es clock hg;obtain⟨hs,h1,h2⟩:=h;generalize hvv:a.eval x0=vv at hv;cases hv with
 | ptr _ _ _ l hl=>
  obtain⟨l',ob,g1,g2,g3,g4,g5⟩:=hr.live it _ hi;rw[hl]at g1; injection g1 with g1; subst g1
  cases g5 with
  | AJ _ lm _ _ _ _ hlm h0=>
   obtain⟨l2,ob2,k1,k2,k3,k4,k5⟩:=hr.live b _ hg;rw[hlm]at k1; injection k1 with k1; subst k1
   cases k5 with
   | map _ _ _ en hsz Ak=>
    have hoff:(l.sh+0)*l.k+0=0:=by rw[Nat.add_zero,Nat.add_zero]; exact h0
    have hget:∀ w':World,w'.heap=w.heap→(getObj l.blk).run P w'=.ok (.mapIter (some lm.blk) since seen.toArray last) w':=fun w' e=>by simp only[getObj,Sem.run,e,g4]
    have hget2:(getObj lm.blk).run P w=.ok (.map en clock) w:=by simp only[getObj,Sem.run,k4]
    have hen:∀ y,y∈en → ∃ e,e∈es∧R Φ ρ e.1 y.key∧R Φ ρ e.2.1 y.val∧y.born=e.2.2:=fun y hy=>by
     obtain⟨i,hi',rfl⟩:=Array.mem_iff_getElem.1 hy;have hlt:i<es.length:=by omega
     obtain⟨y',q1,q2,q3,q4⟩:=Ak i es[i] (gE hlt);rw[Array.getElem?_eq_getElem hi']at q1;injection q1 with q1
     exact⟨es[i],List.getElem_mem hlt,q1 ▸ q2,q1 ▸ q3,q1 ▸ q4⟩
    have hes:∀ e,e∈es → ∃ y,y∈en∧y.born=e.2.2:=fun e he=>by
     obtain⟨i,hlt,rfl⟩:=List.getElem_of_mem he;obtain⟨y',q1,_,_,q4⟩:=Ak i es[i] (gE hlt);exact⟨y',Array.mem_of_getElem? q1,q4⟩
    have hcond:(!(seen.toArray).isEmpty && !en.isEmpty&&en.all (fun e=>decide (e.born≥last)))=false:=by
     rcases hs with hs|hs|⟨e,he,hl⟩
     ·subst hs; rfl
     ·subst hs;have:en.isEmpty=true:=by simpa using hsz
      rw[this];simp
     ·obtain⟨y,hy,hb⟩:=hes e he;have:en.all (fun e=>decide (e.born≥last))=false:=by
       rw[← Bool.not_eq_true,Array.all_eq_true'];intro c;have:=c y hy;simp at this;omega
      rw[this,Bool.and_false]
    obtain⟨C,hC⟩:∃ C:Array (Option MapEntry),C=(if ((en.filter fun e=>!(seen.toArray).contains e.born).filter (·.born<since)).isEmpty then #[none]else #[]) ++
     (((en.filter fun e=>!(seen.toArray).contains e.born).filter (·.born<since))++((en.filter fun e=>!(seen.toArray).contains e.born).filter (·.born≥since))).map some:=⟨_,rfl⟩
    have hCs:0<C.size:=by
     rw[hC];by_cases c:((en.filter fun e=>!(seen.toArray).contains e.born).filter (·.born<since)).isEmpty=true
     ·rw[iP c,Array.size_append];show 0<1+_;omega
     ·rw[iN c];have:0<((en.filter fun e=>!(seen.toArray).contains e.born).filter (·.born<since)).size:=by
       rw[Array.isEmpty_iff_size_eq_zero]at c;omega
      rw[Array.size_append,Array.size_map,Array.size_append];omega
    have hCm:∀ i y,C[i]? = some (some y)→y∈en∧y.born∉seen:=fun i y hy=>by
     have hm:=Array.mem_of_getElem? hy;rw[hC]at hm;rcases Array.mem_append.1 hm with hm|hm
     ·split at hm<;>simp at hm
     ·simp at hm;rcases hm with hm|hm
      ·exact⟨hm.1,hm.2.2⟩
      ·exact⟨hm.1,hm.2.2⟩
    have hCn:∀ i,C[i]? = some none → ∀ e,e∈es→e.2.2<since→e.2.2∈seen:=fun i hy e he hl=>by
     have hm:=Array.mem_of_getElem? hy;rw[hC]at hm;rcases Array.mem_append.1 hm with hm|hm
     ·split at hm
      ·rename_i c;obtain⟨y,hy2,hb⟩:=hes e he;apply Classical.byContradiction;intro hns;have:y∈((en.filter fun e=>!(seen.toArray).contains e.born).filter (·.born<since)):=by
        simp;exact⟨hy2,by rw[hb]; exact hl,by rw[hb]; exact hns⟩
       rw[Array.isEmpty_iff]at c;rw[c]at this;simp at this
      ·simp at hm
     ·simp at hm
    have hrun:∃ i w1,(w1=w∨w1=w.drew)∧i<C.size∧(Instr.next (.pointer (some ⟨l.blk,0,none⟩)) false o.type).run P w =
     (match C[i]? with
       | some (some e)=>(do setObj l.blk (.mapIter (some lm.blk) since (seen.toArray.push e.born) clock); pure (.tuple #[.bool true,e.key,e.val]):Sem Value)
       | some none=>pure (.tuple #[.bool false])
       | none=>stuck "Next: no such candidate").run P w1:=by
     have hch:∀ (k:Nat→Sem Value),∃ i w1,(w1=w∨w1=w.drew)∧i<C.size∧(choose (.mapNext C.size) >>= k).run P w=(k i).run P w1:=fun k=>by
      by_cases hf:(Question.mapNext C.size).forced=true
      ·refine⟨0,w,.inl rfl,hCs,?_⟩;show(Sem.choose _ _).run P w=_;simp only[Sem.run,hf,if_true];rfl
      ·refine⟨w.tape w.drawn (.mapNext C.size) % C.size,w.drew,.inr rfl,Nat.mod_lt _ hCs,?_⟩;show(Sem.choose _ _).run P w=_;simp only[Sem.run,hf,if_false];rfl
     obtain⟨i,w1,c1,c2,c3⟩:=hch fun i=>match C[i]? with
      | some (some e)=>(do setObj l.blk (.mapIter (some lm.blk) since (seen.toArray.push e.born) clock); pure (.tuple #[.bool true,e.key,e.val]):Sem Value)
      | some none=>pure (.tuple #[.bool false])
      | none=>stuck "Next: no such candidate"
     refine⟨i,w1,c1,c2,?_⟩;rw[← c3];simp only[Instr.next,Sem.run_bind,hget w rfl,Result.andThen_ok,hget2,hcond];rw[iN (by decide)]
     simp only[Sem.run_bind];subst hC;rfl
    have e0:execOp a.eval o=(do pure (Next.value (← Instr.next (a.eval x0) false o.type))):=by unfold execOp; rw[hop]
    obtain⟨i,w1,hw1,hi1,hrun⟩:=hrun;have hr1:Rel W Φ ρ m w1:=by
     rcases hw1 with rfl|rfl
     ·exact hr
     ·exact hr.drew
    have g41:w1.heap[l.blk]? = some (Obj.mapIter (some lm.blk) since seen.toArray last):=by
     rcases hw1 with rfl|rfl<;>exact g4
    have hsome:∃ z,C[i]? = some z:=⟨_,Array.getElem?_eq_getElem hi1⟩
    obtain⟨z,hz⟩:=hsome;unfold Oper.wp;rw[hoff]at hvv;rw[e0,hvv];cases z with
    | none=>
     rw[hz]at hrun;have:(do pure (Next.value (← Instr.next (.pointer (some ⟨l.blk,0,none⟩)) false o.type)):Sem Next).run P w=.ok (.value (.tuple #[.bool false])) w1:=H7 (by rw[hrun]; rfl)
     rw[this];exact hK _ _ _ _ hr1 (YM ⟨rfl,fun j x v hx hv=>by
      cases j with
      | zero=>simp at hx hv; subst hx; subst hv; exact .bool false
      | succ j=>simp at hx⟩) rfl (h2 (hCn i hz))
    | some y=>
     obtain⟨hy,hns⟩:=hCm i y hz;obtain⟨e,he,r1,r2,rb⟩:=hen y hy;rw[hz]at hrun;have hset:(setObj l.blk (.mapIter (some lm.blk) since (seen.toArray.push y.born) clock)).run P w1=.ok () (R5 w1 l.blk (.mapIter (some lm.blk) since (seen.toArray.push y.born) clock)):=wS g41 (by simp)
     have:(do pure (Next.value (← Instr.next (.pointer (some ⟨l.blk,0,none⟩)) false o.type)):Sem Next).run P w=.ok (.value (.tuple #[.bool true,y.key,y.val])) (R5 w1 l.blk (.mapIter (some lm.blk) since (seen.toArray.push y.born) clock)):=H7 (by
      rw[hrun];simp only[Sem.run_bind,hset,Result.andThen_ok,Sem.run_pure])
     rw[this];have FQ:BR Φ ρ (.AJ (some b) since (seen++[e.2.2]) clock) l (.mapIter (some lm.blk) since (seen.toArray.push y.born) clock):=by
      have e1:seen.toArray.push y.born=(seen++[e.2.2]).toArray:=by rw[rb]; simp
      rw[e1];exact .AJ b lm since _ clock l hlm h0
     exact hK _ _ _ _ (Wj hr1 hi hl FQ) (YM ⟨rfl,fun j x v hx hv=>by
      match j,hx,hv with
      | 0,hx,hv=>simp at hx hv; subst hx; subst hv; exact .bool true
      | 1,hx,hv=>simp at hx hv; subst hx; subst hv; exact r1
      | 2,hx,hv=>simp at hx hv; subst hx; subst hv; exact r2
      | j+3,hx,hv=>simp at hx⟩) rfl (h1 e he (by rw[← rb]; exact hns))
theorem Ydi{K:Act→World→Prop}{Q:Exit→Act→World→Prop}(ht:RL Φ ρ t a.tmps)(hr:Rel W Φ ρ m w)(o:Oper){x:Ah}(ho:O9 P o=.BL x){KA:Aa→Prop}(h:RM (ev t x) m KA)
 (hK:∀ v u,R Φ ρ v u→KA v→K (a.put o.dst u) w):o.wp P a w K Q:=by
 obtain⟨x0,hop,hx⟩:=Z5p ho;have hv:=R4 ht hx;generalize ev t x=z at h hv;unfold RM at h;split at h<;>first|exact h.elim|skip
 rename_i it;split at h<;>first|exact h.elim|skip
 rename_i b since seen last hi;split at h<;>first|exact h.elim|skip
 rename_i es clock hg;obtain⟨BT,s,hls,⟨e1,he1,hs1⟩,hall⟩:=h;generalize hvv:a.eval x0=vv at hv;cases hv with
 | ptr _ _ _ l hl=>
  obtain⟨l',ob,g1,g2,g3,g4,g5⟩:=hr.live it _ hi;rw[hl]at g1; injection g1 with g1; subst g1
  cases g5 with
  | AJ _ lm _ _ _ _ hlm h0=>
   obtain⟨l2,ob2,k1,k2,k3,k4,k5⟩:=hr.live b _ hg;rw[hlm]at k1; injection k1 with k1; subst k1
   cases k5 with
   | map _ _ _ en hsz Ak=>
    have hoff:(l.sh+0)*l.k+0=0:=by rw[Nat.add_zero,Nat.add_zero]; exact h0
    have hget:(getObj l.blk).run P w=.ok (.mapIter (some lm.blk) since seen.toArray last) w:=by simp only[getObj,Sem.run,g4]
    have hget2:(getObj lm.blk).run P w=.ok (.map en clock) w:=by simp only[getObj,Sem.run,k4]
    have hen:∀ y,y∈en → ∃ e,e∈es∧R Φ ρ e.1 y.key∧R Φ ρ e.2.1 y.val∧y.born=e.2.2:=fun y hy=>by
     obtain⟨i,hi',rfl⟩:=Array.mem_iff_getElem.1 hy;have hlt:i<es.length:=by omega
     obtain⟨y',q1,q2,q3,q4⟩:=Ak i es[i] (gE hlt);rw[Array.getElem?_eq_getElem hi']at q1;injection q1 with q1
     exact⟨es[i],List.getElem_mem hlt,q1 ▸ q2,q1 ▸ q3,q1 ▸ q4⟩
    have hback:seen.toArray.back? = some s:=by rw[List.back?_toArray]; exact hls
    obtain⟨y,hy⟩:∃ y,en.find? (fun e=>e.born == s)=some y:=by
     obtain⟨i,hlt,rfl⟩:=List.getElem_of_mem he1;obtain⟨y',q1,_,_,q4⟩:=Ak i es[i] (gE hlt);cases hf:en.find? (fun e=>e.born == s)with
     | some y=>exact ⟨y,rfl⟩
     | none=>
      rw[Array.find?_eq_none]at hf;have:=hf y' (Array.mem_of_getElem? q1);simp[q4,hs1]at this
    have hym:y∈en:=Array.mem_of_find?_eq_some hy;have hyb:y.born=s:=by simpa using Array.find?_some hy
    obtain⟨e,he,r1,r2,rb⟩:=hen y hym;have hrun:(Instr.entry (.pointer (some ⟨l.blk,0,none⟩))).run P w=.ok (.tuple #[y.key,y.val]) w:=by
     simp only[Instr.entry,Sem.run_bind,hget,Result.andThen_ok,hback,hget2,BT];rw[iN (by simp)]
     simp only[hy];rfl
    have e0:execOp a.eval o=(do pure (Next.value (← Instr.entry (a.eval x0)))):=by unfold execOp; rw[hop]
    unfold Oper.wp;rw[hoff]at hvv;rw[e0,hvv,H7 hrun];exact hK _ _ (YM ⟨rfl,fun j x v hx hv=>by
     match j,hx,hv with
     | 0,hx,hv=>simp at hx hv; subst hx; subst hv; exact r1
     | 1,hx,hv=>simp at hx hv; subst hx; subst hv; exact r2
     | j+2,hx,hv=>simp at hx⟩) (hall e he (by rw[← rb]; exact hyb))
end
end Go.AE
end
