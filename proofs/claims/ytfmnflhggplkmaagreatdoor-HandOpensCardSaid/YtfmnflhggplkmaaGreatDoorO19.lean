/- Part 19 of the proof: AeGb, AeGc, AeOr, AeGf, AeHb, AeMa. -/
import Derived.Test.YtfmnflhggplkmaaGreatDoorO9
import Derived.Test.YtfmnflhggplkmaaGreatDoorO14
import Derived.Test.YtfmnflhggplkmaaGreatDoorO18
import Derived.Lib.Overlaps
set_option linter.all false
section
namespace Go.AE
open Go.RowKit
def calleeF (t:List AVal) (f:AOpd) (xs:List AOpd):Option (Fn×List AVal):=
 match ev t f with
 | .func (.func g) first cap=>some (.func g,first++xs.map (ev t)++cap)
 | .yld b=>some (.yield b,xs.map (ev t))
 | _=>none
abbrev CallW:=Fn→List AVal→Mem→Nat→(AVal→Mem→Prop)→Prop
abbrev StepA:=Nat→List AVal→Mem→AOp→Option (AVal×Mem)
def wopsG (st:StepA) (cw:CallW) (base:Nat):List AOper→Nat→(ASt→Prop)→List AVal→Mem→Prop
 | [],_,K,t,m=>K ⟨t,m⟩
 | o :: r,i,K,t,m=>
  match wantedA t o.guard with
  | some false=>wopsG st cw base r (i+1) K (put t o.dst aundef) m
  | some true=>
   match o.op with
   | .call f xs=>match calleeF t f xs with
    | some (fn,args)=>cw fn args m (base+i) fun v m'=>wopsG st cw base r (i+1) K (put t o.dst v) m'
    | none=>False
   | op=>match st (base+i) t m op with
    | some (v,m')=>wopsG st cw base r (i+1) K (put t o.dst v) m'
    | none=>False
  | none=>False
def FnCall (F:Fence) (n:Nat) (P:Program) (ρ:Rho) (fn:Fn) (vs:Array Value) (w:World) (S:Ending→World→Prop):Prop:=
 (∃ g,fn=.func g∧HasBody P g∧CallsIn F n P g vs w S) ∨
 (∃ b l f tmps assign body,fn=.yield b∧ρ b=some l∧(Instr.yield l.blk vs).run P w=.ok (.round l.blk f tmps assign body) w∧RoundIn F n P l.blk f tmps assign body w S) ∨
 (∃ g v w',fn=.func g∧(callFunc g vs).run P w=.ok (.value v) w'∧S (.returned v) w')
def cwFn (P:Program):CallW:=fun fn args m id K=>∃ g,fn=.func g∧ACalls P g args m [id] K
section
variable {F:Fence} {n:Nat} {H:HypW} {D:List Deferred} {P:Program} {W:Base} {Φ:Pers} {ρ:Rho} {w:World} {m m':Mem} {x:AVal} {a:Act} {t:List AVal} {ops:Array Oper}
theorem FnCall.mono {fn:Fn} {vs:Array Value} {S S':Ending→World→Prop} (h:FnCall F n P ρ fn vs w S) (hs:∀ e w,S e w→S' e w):FnCall F n P ρ fn vs w S':=by
 rcases h with⟨g,h1,h2,h3,h4⟩|⟨b,l,f,tm,as,bd,h1,h0,h2,h3⟩|⟨g,v,w',h1,h2,h3⟩
 ·exact .inl ⟨g,h1,h2,h3,fun cs hroom=>let ⟨e,w',fr,r,s,x⟩:=h4 cs hroom; ⟨e,w',fr,hs _ _ r,s,x⟩⟩
 ·exact .inr (.inl ⟨b,l,f,tm,as,bd,h1,h0,h2,h3.mono hs⟩)
 ·exact .inr (.inr ⟨g,v,w',h1,h2,hs _ _ h3⟩)
end
section
variable {n:Nat} {H:HypW} {D:List Deferred} {P:Program}
end
end Go.AE
end
section
namespace Go.AE
open Go.RowKit
section
variable {P:Program} {W:Base} {Φ:Pers} {ρ:Rho} {w:World} {m m':Mem}
def HLoop (b l:Nat) (r:Loop) (tR:List AVal):HypW:=fun W Φ ρ=>W.w.heap.size≤l∧W.g l=some (.loop r)∧RL Φ ρ tR r.tmps∧ρ b=some ⟨l,0,0,0⟩
theorem HLoop.mono {b l:Nat} {r:Loop} {tR:List AVal}:(HLoop b l r tR).Mono:=fun _ _ _ _ _ h he=>⟨h.1,h.2.1,h.2.2.1.ext he,he.rho _ _ h.2.2.2⟩
def ACallsH (H:HypW) (P:Program) (f:FuncId) (args:List AVal) (m:Mem) (K:AVal→Mem→Prop):Prop:=
 HasBody P f ∧ ∀(W:Base) (Φ:Pers) (ρ:Rho),H W Φ ρ → ∀(vs:Array Value) (w:World),Rel W Φ ρ m w→RL Φ ρ args vs →
  Calls P f vs w fun e w'=>∃ v r m' Φ' ρ',e=.returned v∧Ext Φ ρ Φ' ρ'∧KeepN m.next ρ ρ'∧Rel W Φ' ρ' m' w'∧R Φ' ρ' r v∧m.next≤m'.next∧K r m'
theorem args_RL {args:List AVal} {vs:Array Value} {k:Nat} (ha:RL Φ ρ args vs):RL Φ ρ (args++List.replicate (k - args.length) aundef) (vs++Array.replicate (k - vs.size) undef):=by
 refine⟨by simp[ha.1],fun i x v hx hv=>?_⟩
 rw[List.getElem?_append]at hx
 rw[Array.getElem?_append,ha.1]at hv
 split at hx
 ·rename_i hlt
  rw[if_pos hlt]at hv
  exact ha.2 i x v hx hv
 ·rename_i hge
  rw[if_neg hge]at hv
  have e1:x=aundef:=by
   grind
  have e2:v=undef:=by
   grind
  subst e1; subst e2
  exact R_undef _ _
theorem cFn_spec {fn:Func} {af:AFn} (hc:cFn P fn=some af):∃ c,fn.body=some c∧af.body=cCode P c∧cResults P fn.results.toList=some af.results∧af.ntmps=fn.ntmps∧(fn.name == "runtime.NumGoroutine")=false:=by
 unfold cFn at hc
 grind
end
end Go.AE
end
section
namespace Go.AE
open Go.RowKit
def beqBytes:List UInt8→List UInt8→Bool
 | [],[]=>true
 | a :: r,b :: s=>Nat.beq a.toNat b.toNat&&beqBytes r s
 | _,_=>false
theorem beqBytes_eq:∀ {a b:List UInt8},beqBytes a b=true→a=b
 | [],[],_=>rfl
 | a :: r,b :: s,h=>by
  simp only[beqBytes,Bool.and_eq_true]at h
  have h1:=Nat.eq_of_beq_eq_true h.1
  rw[UInt8.toNat_inj.1 h1,beqBytes_eq h.2]
 | [],_ :: _,h=>by cases h
 | _ :: _,[],h=>by cases h
def beqInt:Int→Int→Bool
 | .ofNat a,.ofNat b=>Nat.beq a b
 | .negSucc a,.negSucc b=>Nat.beq a b
 | _,_=>false
theorem beqInt_eq {a b:Int} (h:beqInt a b=true):a=b:=by
 cases a<;>cases b<;>simp only[beqInt]at h<;>first|(cases h; done)|simp_all
mutual
def beqA:AVal→AVal→Bool
 | .bool a,.bool b=>a == b
 | .int k a,.int k' b=>k == k'&&beqInt a b
 | .str a,.str b=>beqBytes a b
 | .nilPtr,.nilPtr=>true
 | .nilSl,.nilSl=>true
 | .emp,.emp=>true
 | .nilMap,.nilMap=>true
 | .nilFunc,.nilFunc=>true
 | .nilIface,.nilIface=>true
 | .imm a,.imm b=>beqLL a b
 | .agg a,.agg b=>beqL a b
 | .tuple a,.tuple b=>beqL a b
 | _,_=>false
def beqL:List AVal→List AVal→Bool
 | [],[]=>true
 | x :: r,y :: s=>beqA x y&&beqL r s
 | _,_=>false
def beqLL:List (List AVal)→List (List AVal)→Bool
 | [],[]=>true
 | x :: r,y :: s=>beqL x y&&beqLL r s
 | _,_=>false
end
mutual
theorem beqA_eq:∀ (x y:AVal),beqA x y=true→x=y
 | .bool a,y,h=>by cases y<;>simp only[beqA]at h<;>first|(cases h; done)|(simp at h; rw[h])
 | .int k a,y,h=>by
  cases y<;>simp only[beqA]at h<;>first|(cases h; done)|skip
  simp only[Bool.and_eq_true,beq_iff_eq]at h
  rw[h.1,beqInt_eq h.2]
 | .str a,y,h=>by cases y<;>simp only[beqA]at h<;>first|(cases h; done)|(rw[beqBytes_eq h])
 | .nilPtr,y,h=>by cases y<;>simp only[beqA]at h<;>first|(cases h; done)|rfl
 | .nilSl,y,h=>by cases y<;>simp only[beqA]at h<;>first|(cases h; done)|rfl
 | .emp,y,h=>by cases y<;>simp only[beqA]at h<;>first|(cases h; done)|rfl
 | .nilMap,y,h=>by cases y<;>simp only[beqA]at h<;>first|(cases h; done)|rfl
 | .nilFunc,y,h=>by cases y<;>simp only[beqA]at h<;>first|(cases h; done)|rfl
 | .nilIface,y,h=>by cases y<;>simp only[beqA]at h<;>first|(cases h; done)|rfl
 | .imm a,y,h=>by cases y<;>simp only[beqA]at h<;>first|(cases h; done)|(rw[beqLL_eq _ _ h])
 | .agg a,y,h=>by cases y<;>simp only[beqA]at h<;>first|(cases h; done)|(rw[beqL_eq _ _ h])
 | .ptr _ _ _,y,h=>by simp[beqA]at h
 | .iptr _ _ _,y,h=>by simp[beqA]at h
 | .sl _ _ _,y,h=>by simp[beqA]at h
 | .map _,y,h=>by simp[beqA]at h
 | .yld _,y,h=>by simp[beqA]at h
 | .atLeast _,y,h=>by simp[beqA]at h
 | .func _ _ _,y,h=>by simp[beqA]at h
 | .iface _ _,y,h=>by simp[beqA]at h
 | .tuple a,y,h=>by
  cases y<;>simp only[beqA]at h<;>first|(cases h; done)|(rw[beqL_eq _ _ h])
 | .bot,y,h=>by simp[beqA]at h
theorem beqL_eq:∀ (x y:List AVal),beqL x y=true→x=y
 | [],[],_=>rfl
 | a :: r,b :: s,h=>by
  simp only[beqL,Bool.and_eq_true]at h
  rw[beqA_eq a b h.1,beqL_eq r s h.2]
 | [],_ :: _,h=>by simp[beqL]at h
 | _ :: _,[],h=>by simp[beqL]at h
theorem beqLL_eq:∀ (x y:List (List AVal)),beqLL x y=true→x=y
 | [],[],_=>rfl
 | a :: r,b :: s,h=>by
  simp only[beqLL,Bool.and_eq_true]at h
  rw[beqL_eq a b h.1,beqLL_eq r s h.2]
 | [],_ :: _,h=>by simp[beqLL]at h
 | _ :: _,[],h=>by simp[beqLL]at h
end
structure Memo where
 g:FuncId
 args:List AVal
 v:AVal
def Memo.Ok (P:Program) (e:Memo):Prop:=∀ m av,ACalls P e.g e.args m av fun r m'=>r=e.v∧m'=m
def Memo.All (P:Program):List Memo→Prop
 | []=>True
 | e :: r=>e.Ok P∧Memo.All P r
def runM (tab:Nat→Option AFn) (orc:Caller) (g:FuncId) (args:List AVal):Option AVal:=
 match runF tab orc 1000 g args ⟨.nil,1⟩ with
 | some (r,m,_)=>freezeV m.tr.get 1000 r
 | none=>none
theorem memo_of {P:Program} (hm:P.follows .mixedOrders=true) {tab:Nat→Option AFn} {orc:Caller} (htab:TabOk P tab) (horc:CallerOk P orc) (e:Memo)
 (h:(match runM tab orc e.g e.args with|some r=>beqA r e.v&&(closedL e.args&&e.v.closed)|none=>false)=true):e.Ok P:=by
 intro m av
 unfold runM at h
 cases hr:runF tab orc 1000 e.g e.args ⟨.nil,1⟩ with
 | none=>simp[hr]at h
 | some rmw=>
  obtain⟨r,m1,wl⟩:=rmw
  simp only[hr]at h
  cases hf:freezeV m1.tr.get 1000 r with
  | none=>simp[hf]at h
  | some y=>
   simp only[hf,Bool.and_eq_true]at h
   obtain⟨h1,h2,h3⟩:=h
   have hy:=beqA_eq _ _ h1
   subst hy
   obtain⟨_,_,hA⟩:=runF_ok hm htab horc 1000 e.g e.args ⟨.nil,1⟩ r m1 wl hr
   exact pure_frozen h2 h3 (m0:=(⟨.nil,1⟩:TM).mem) (fun c=>rfl) (Nat.lt_succ_self 0) (hA 0) (fun r' m' hk=>⟨1000,by obtain⟨rfl,rfl⟩:=hk; exact hf⟩) m av
end Go.AE
end
section
namespace Go.AE
open Go.RowKit
variable {P:Program}
structure AParts where
 ntmps:Nat
 results:List (Nat×Option (Option Nat))
 pre:List ACode
 x:ACode
 g:AOpd
 ps:List Nat
 asn:ACode
 bd:ACode
 y:ACode
def AParts.ok (p:AParts):Bool:=
 p.pre.all (dstOk p.ntmps)&&dstOk p.ntmps p.x&&(p.ps.all fun q=>decide (q<p.ntmps))&&dstOk p.ntmps p.asn&&dstOk p.ntmps p.bd&&dstOk p.ntmps p.y&&decide (p.ntmps≤bound)
end Go.AE
end
section
namespace Go.AE
open Go.RowKit
def HEx (b N:Nat) (ex:Bool):HypW:=fun _ _ ρ=>∃ l,ρ b=some l∧(match ex with|true=>l.n=l.sh+N|false=>l.sh+N≤l.n)
theorem HEx.mono {b N:Nat} {ex:Bool}:(HEx b N ex).Mono:=fun _ _ _ _ _ ⟨l,h1,h2⟩ he=>⟨l,he.rho _ _ h1,h2⟩
section
variable {F:Fence} {n:Nat} {P:Program} {W:Base} {Φ:Pers} {ρ:Rho} {id:Nat} {w:World} {m m':Mem} {x:AVal} {a:Act} {t:List AVal}
end
end Go.AE
end
section
namespace Go.AE
open Go.RowKit
def nextW (v:AVal) (m:Mem) (K:AVal→Mem→Prop):Prop:=
 match v with
 | .ptr it 0 0=>match m.get it with
  | some (.miter (some b) since seen last)=>match m.get b with
   | some (.map es clock)=>(seen=[]∨es=[] ∨ ∃ e,e∈es∧e.2.2<last) ∧
    (∀ e,e∈es→e.2.2∉seen→K (.tuple [.bool true,e.1,e.2.1]) (m.set it (.miter (some b) since (seen++[e.2.2]) clock))) ∧
    ((∀ e,e∈es→e.2.2<since→e.2.2∈seen)→K (.tuple [.bool false]) m)
   | _=>False
  | _=>False
 | _=>False
def rangeW (id:Nat) (v:AVal) (m:Mem) (K:AVal→Mem→Prop):Prop:=
 match v with
 | .map b=>match m.get b with
  | some (.map _ clock)=>K (.ptr id 0 0) (m.set id (.miter (some b) clock [] clock))
  | _=>False
 | _=>False
def entryW (v:AVal) (m:Mem) (K:AVal→Prop):Prop:=
 match v with
 | .ptr it 0 0=>match m.get it with
  | some (.miter (some b) _ seen last)=>match m.get b with
   | some (.map es clock)=>clock=last ∧ ∃ s,seen.getLast? = some s∧(∃ e,e∈es∧e.2.2=s) ∧ ∀ e,e∈es→e.2.2=s→K (.tuple [e.1,e.2.1])
   | _=>False
  | _=>False
 | _=>False
section
variable {P:Program} {W:Base} {Φ:Pers} {ρ:Rho} {w:World} {m:Mem} {a:Act} {t:List AVal}
theorem next_of {o:Oper} {x:AOpd} (ho:cOp' P o=.nextM x):∃ x0,o.op=.next x0 false∧cOpd x0=some x:=by
 unfold cOp' at ho
 cases hc:cOp P o with
 | none=>simp[hc]at ho
 | some op=>
  simp only[hc,Option.getD_some]at ho
  subst ho
  unfold cOp at hc
  split at hc<;>first|(cases hc; done)|skip
  all_goals first
   | (simp only[Option.map_eq_some_iff]at hc; obtain⟨_,_,hc⟩:=hc; cases hc; done)
   | (rename_i x0 h0; simp only[Option.map_eq_some_iff]at hc; obtain⟨y,h1,hc⟩:=hc; cases hc; exact⟨x0,h0,h1⟩)
   | skip
  all_goals (try unfold cCall at hc)
  all_goals (repeat' (split at hc<;>first|(cases hc; done)|(simp only[Option.map_eq_some_iff]at hc; obtain⟨_,_,hc⟩:=hc; cases hc; done)|skip))
  all_goals (first|(cases hc; done)|skip)
theorem range_of {o:Oper} {x:AOpd} (ho:cOp' P o=.range x):∃ tt x0 k e,o.op=.range tt x0∧P.underlying tt=some (.map k e)∧cOpd x0=some x:=by
 unfold cOp' at ho
 cases hc:cOp P o with
 | none=>simp[hc]at ho
 | some op=>
  simp only[hc,Option.getD_some]at ho
  subst ho
  unfold cOp at hc
  split at hc<;>first|(cases hc; done)|skip
  all_goals first
   | (simp only[Option.map_eq_some_iff]at hc; obtain⟨_,_,hc⟩:=hc; cases hc; done)
   | (rename_i tt x0 h0; split at hc<;>first|(cases hc; done)|(rename_i k e hu; simp only[Option.map_eq_some_iff]at hc; obtain⟨y,h1,hc⟩:=hc; cases hc; exact⟨tt,x0,k,e,h0,hu,h1⟩))
   | skip
  all_goals (try unfold cCall at hc)
  all_goals (repeat' (split at hc<;>first|(cases hc; done)|(simp only[Option.map_eq_some_iff]at hc; obtain⟨_,_,hc⟩:=hc; cases hc; done)|skip))
  all_goals (first|(cases hc; done)|skip)
theorem op_range {id:Nat} {K:Act→World→Prop} {Q:Exit→Act→World→Prop} (ht:RL Φ ρ t a.tmps) (hr:Rel W Φ ρ m w) (hn:ρ id=none) (hlt:id<m.next) (o:Oper) {x:AOpd} (ho:cOp' P o=.range x) {KA:AVal→Mem→Prop} (h:rangeW id (ev t x) m KA)
 (hK:∀ Φ' ρ' v m' u w',Ext Φ ρ Φ' ρ'→(∀ b,b≠id→ρ b=none→ρ' b=none)→Rel W Φ' ρ' m' w'→R Φ' ρ' v u→m'.next=m.next→KA v m'→K (a.put o.dst u) w'):o.wp P a w K Q:=by
 obtain⟨tt,x0,k,e,hop,hu,hx⟩:=range_of ho
 have hv:=ev_R ht hx
 generalize ev t x=z at h hv
 unfold rangeW at h
 split at h<;>first|exact h.elim|skip
 rename_i b
 split at h<;>first|exact h.elim|skip
 rename_i es clock hg
 generalize hvv:a.eval x0=vv at hv
 cases hv with
 | map _ l hl=>
  obtain⟨l',ob,g1,g2,g3,g4,g5⟩:=hr.live b _ hg
  rw[hl]at g1; injection g1 with g1; subst g1
  cases g5 with
  | map _ _ _ en hsz hrr=>
   have hget:(getObj l.blk).run P w=.ok (.map en clock) w:=by simp only[getObj,Sem.run,g4]
   have hrun:(Instr.range tt (.map (some l.blk))).run P w=.ok (.pointer (some ⟨w.heap.size,0,none⟩)) (w.alloc (.mapIter (some l.blk) clock #[] clock)):=by
    simp only[Instr.range,Sem.run_bind,r_und hu,Result.andThen_ok,hget,Sem.run_pure]
    rfl
   have hd:Done P (execOp a.eval o) W Φ ρ id w (.ptr id 0 0) (m.set id (.miter (some b) clock [] clock)):=by
    have e0:execOp a.eval o=(do pure (Next.value (← Instr.range tt (a.eval x0)))):=by unfold execOp; rw[hop]
    rw[e0,hvv]
    have hlb:(ρ.put id ⟨w.heap.size,0,0,0⟩) b=some l:=by
     have hne:b≠id:=fun e=>by subst e; rw[hn]at hl; cases hl
     unfold Rho.put
     rw[if_neg hne]
     exact hl
    exact Done.new (l:=⟨w.heap.size,0,0,0⟩) (run_v hrun) hr hn hlt rfl (.miter b l clock [] clock _ hlb rfl) (.ptr id 0 0 _ Rho.put_same)
   obtain⟨v,w',Φ',ρ',hrun,he,hk,hr',hx'⟩:=hd
   unfold Oper.wp
   rcases hrun with hrun|⟨hrun,rfl⟩
   ·rw[hrun]
    exact hK _ _ _ _ _ _ he hk hr' hx' rfl h
   ·rw[hrun]
    exact hK _ _ _ _ _ _ he hk hr' hx' rfl h
theorem entry_of {o:Oper} {x:AOpd} (ho:cOp' P o=.nextS x):∃ x0,o.op=.entry x0∧cOpd x0=some x:=by
 unfold cOp' at ho
 cases hc:cOp P o with
 | none=>simp[hc]at ho
 | some op=>
  simp only[hc,Option.getD_some]at ho
  subst ho
  unfold cOp at hc
  split at hc<;>first|(cases hc; done)|skip
  all_goals first
   | (simp only[Option.map_eq_some_iff]at hc; obtain⟨_,_,hc⟩:=hc; cases hc; done)
   | (rename_i x0 h0; simp only[Option.map_eq_some_iff]at hc; obtain⟨y,h1,hc⟩:=hc; cases hc; exact⟨x0,h0,h1⟩)
   | skip
  all_goals (try unfold cCall at hc)
  all_goals (repeat' (split at hc<;>first|(cases hc; done)|(simp only[Option.map_eq_some_iff]at hc; obtain⟨_,_,hc⟩:=hc; cases hc; done)|skip))
  all_goals (first|(cases hc; done)|skip)
theorem tup_R {xs:List AVal} {vs:Array Value} (h:RL Φ ρ xs vs):R Φ ρ (.tuple xs) (.tuple vs):=.tuple _ _ h.1 h.2
theorem op_next {K:Act→World→Prop} {Q:Exit→Act→World→Prop} (ht:RL Φ ρ t a.tmps) (hr:Rel W Φ ρ m w) (o:Oper) {x:AOpd} (ho:cOp' P o=.nextM x) {KA:AVal→Mem→Prop} (h:nextW (ev t x) m KA)
 (hK:∀ v m' u w',Rel W Φ ρ m' w'→R Φ ρ v u→m'.next=m.next→KA v m'→K (a.put o.dst u) w'):o.wp P a w K Q:=by
 obtain⟨x0,hop,hx⟩:=next_of ho
 have hv:=ev_R ht hx
 generalize ev t x=z at h hv
 unfold nextW at h
 split at h<;>first|exact h.elim|skip
 rename_i it
 split at h<;>first|exact h.elim|skip
 rename_i b since seen last hi
 split at h<;>first|exact h.elim|skip
 rename_i es clock hg
 obtain⟨hs,h1,h2⟩:=h
 generalize hvv:a.eval x0=vv at hv
 cases hv with
 | ptr _ _ _ l hl=>
  obtain⟨l',ob,g1,g2,g3,g4,g5⟩:=hr.live it _ hi
  rw[hl]at g1; injection g1 with g1; subst g1
  cases g5 with
  | miter _ lm _ _ _ _ hlm h0=>
   obtain⟨l2,ob2,k1,k2,k3,k4,k5⟩:=hr.live b _ hg
   rw[hlm]at k1; injection k1 with k1; subst k1
   cases k5 with
   | map _ _ _ en hsz hrr=>
    have hoff:(l.sh+0)*l.k+0=0:=by rw[Nat.add_zero,Nat.add_zero]; exact h0
    have hget:∀ w':World,w'.heap=w.heap→(getObj l.blk).run P w'=.ok (.mapIter (some lm.blk) since seen.toArray last) w':=fun w' e=>by simp only[getObj,Sem.run,e,g4]
    have hget2:(getObj lm.blk).run P w=.ok (.map en clock) w:=by simp only[getObj,Sem.run,k4]
    have hen:∀ y,y∈en → ∃ e,e∈es∧R Φ ρ e.1 y.key∧R Φ ρ e.2.1 y.val∧y.born=e.2.2:=fun y hy=>by
     obtain⟨i,hi',rfl⟩:=Array.mem_iff_getElem.1 hy
     have hlt:i<es.length:=by omega
     obtain⟨y',q1,q2,q3,q4⟩:=hrr i es[i] (List.getElem?_eq_getElem hlt)
     rw[Array.getElem?_eq_getElem hi']at q1
     injection q1 with q1
     exact⟨es[i],List.getElem_mem hlt,q1 ▸ q2,q1 ▸ q3,q1 ▸ q4⟩
    have hes:∀ e,e∈es → ∃ y,y∈en∧y.born=e.2.2:=fun e he=>by
     obtain⟨i,hlt,rfl⟩:=List.getElem_of_mem he
     obtain⟨y',q1,_,_,q4⟩:=hrr i es[i] (List.getElem?_eq_getElem hlt)
     exact⟨y',Array.mem_of_getElem? q1,q4⟩
    have hcond:(!(seen.toArray).isEmpty && !en.isEmpty&&en.all (fun e=>decide (e.born≥last)))=false:=by
     rcases hs with hs|hs|⟨e,he,hl⟩
     ·subst hs; rfl
     ·subst hs
      have:en.isEmpty=true:=by simpa using hsz
      rw[this]
      simp
     ·obtain⟨y,hy,hb⟩:=hes e he
      have:en.all (fun e=>decide (e.born≥last))=false:=by
       rw[← Bool.not_eq_true,Array.all_eq_true']
       intro c
       have:=c y hy
       simp at this
       omega
      rw[this,Bool.and_false]
    obtain⟨C,hC⟩:∃ C:Array (Option MapEntry),C=(if ((en.filter fun e=>!(seen.toArray).contains e.born).filter (·.born<since)).isEmpty then #[none]else #[]) ++
     (((en.filter fun e=>!(seen.toArray).contains e.born).filter (·.born<since))++((en.filter fun e=>!(seen.toArray).contains e.born).filter (·.born≥since))).map some:=⟨_,rfl⟩
    have hCs:0<C.size:=by
     rw[hC]
     by_cases c:((en.filter fun e=>!(seen.toArray).contains e.born).filter (·.born<since)).isEmpty=true
     ·rw[if_pos c,Array.size_append]
      show 0<1+_
      omega
     ·rw[if_neg c]
      have:0<((en.filter fun e=>!(seen.toArray).contains e.born).filter (·.born<since)).size:=by
       rw[Array.isEmpty_iff_size_eq_zero]at c
       omega
      rw[Array.size_append,Array.size_map,Array.size_append]
      omega
    have hCm:∀ i y,C[i]? = some (some y)→y∈en∧y.born∉seen:=fun i y hy=>by
     have hm:=Array.mem_of_getElem? hy
     rw[hC]at hm
     rcases Array.mem_append.1 hm with hm|hm
     ·split at hm<;>simp at hm
     ·simp at hm
      rcases hm with hm|hm
      ·exact⟨hm.1,hm.2.2⟩
      ·exact⟨hm.1,hm.2.2⟩
    have hCn:∀ i,C[i]? = some none → ∀ e,e∈es→e.2.2<since→e.2.2∈seen:=fun i hy e he hl=>by
     have hm:=Array.mem_of_getElem? hy
     rw[hC]at hm
     rcases Array.mem_append.1 hm with hm|hm
     ·split at hm
      ·rename_i c
       obtain⟨y,hy2,hb⟩:=hes e he
       apply Classical.byContradiction
       intro hns
       have:y∈((en.filter fun e=>!(seen.toArray).contains e.born).filter (·.born<since)):=by
        simp
        exact⟨hy2,by rw[hb]; exact hl,by rw[hb]; exact hns⟩
       rw[Array.isEmpty_iff]at c
       rw[c]at this
       simp at this
      ·simp at hm
     ·simp at hm
    have hrun:∃ i w1,(w1=w∨w1=w.drew)∧i<C.size∧(Instr.next (.pointer (some ⟨l.blk,0,none⟩)) false o.type).run P w =
     (match C[i]? with
       | some (some e)=>(do setObj l.blk (.mapIter (some lm.blk) since (seen.toArray.push e.born) clock); pure (.tuple #[.bool true,e.key,e.val]):Sem Value)
       | some none=>pure (.tuple #[.bool false])
       | none=>stuck "Next: no such candidate").run P w1:=by
     have hch:∀ (k:Nat→Sem Value),∃ i w1,(w1=w∨w1=w.drew)∧i<C.size∧(choose (.mapNext C.size) >>= k).run P w=(k i).run P w1:=fun k=>by
      by_cases hf:(Question.mapNext C.size).forced=true
      ·refine⟨0,w,.inl rfl,hCs,?_⟩
       show(Sem.choose _ _).run P w=_
       simp only[Sem.run,hf,if_true]
       rfl
      ·refine⟨w.tape w.drawn (.mapNext C.size) % C.size,w.drew,.inr rfl,Nat.mod_lt _ hCs,?_⟩
       show(Sem.choose _ _).run P w=_
       simp only[Sem.run,hf,if_false]
       rfl
     obtain⟨i,w1,c1,c2,c3⟩:=hch fun i=>match C[i]? with
      | some (some e)=>(do setObj l.blk (.mapIter (some lm.blk) since (seen.toArray.push e.born) clock); pure (.tuple #[.bool true,e.key,e.val]):Sem Value)
      | some none=>pure (.tuple #[.bool false])
      | none=>stuck "Next: no such candidate"
     refine⟨i,w1,c1,c2,?_⟩
     rw[← c3]
     simp only[Instr.next,Sem.run_bind,hget w rfl,Result.andThen_ok,hget2,hcond]
     rw[if_neg (by decide)]
     simp only[Sem.run_bind]
     subst hC
     rfl
    have e0:execOp a.eval o=(do pure (Next.value (← Instr.next (a.eval x0) false o.type))):=by unfold execOp; rw[hop]
    obtain⟨i,w1,hw1,hi1,hrun⟩:=hrun
    have hr1:Rel W Φ ρ m w1:=by
     rcases hw1 with rfl|rfl
     ·exact hr
     ·exact hr.drew
    have g41:w1.heap[l.blk]? = some (Obj.mapIter (some lm.blk) since seen.toArray last):=by
     rcases hw1 with rfl|rfl<;>exact g4
    have hsome:∃ z,C[i]? = some z:=⟨_,Array.getElem?_eq_getElem hi1⟩
    obtain⟨z,hz⟩:=hsome
    unfold Oper.wp
    rw[hoff]at hvv
    rw[e0,hvv]
    cases z with
    | none=>
     rw[hz]at hrun
     have:(do pure (Next.value (← Instr.next (.pointer (some ⟨l.blk,0,none⟩)) false o.type)):Sem Next).run P w=.ok (.value (.tuple #[.bool false])) w1:=run_v (by rw[hrun]; rfl)
     rw[this]
     exact hK _ _ _ _ hr1 (tup_R ⟨rfl,fun j x v hx hv=>by
      cases j with
      | zero=>simp at hx hv; subst hx; subst hv; exact .bool false
      | succ j=>simp at hx⟩) rfl (h2 (hCn i hz))
    | some y=>
     obtain⟨hy,hns⟩:=hCm i y hz
     obtain⟨e,he,r1,r2,rb⟩:=hen y hy
     rw[hz]at hrun
     have hset:(setObj l.blk (.mapIter (some lm.blk) since (seen.toArray.push y.born) clock)).run P w1=.ok () (putBlk w1 l.blk (.mapIter (some lm.blk) since (seen.toArray.push y.born) clock)):=setObj_run g41 (by simp)
     have:(do pure (Next.value (← Instr.next (.pointer (some ⟨l.blk,0,none⟩)) false o.type)):Sem Next).run P w=.ok (.value (.tuple #[.bool true,y.key,y.val])) (putBlk w1 l.blk (.mapIter (some lm.blk) since (seen.toArray.push y.born) clock)):=run_v (by
      rw[hrun]
      simp only[Sem.run_bind,hset,Result.andThen_ok,Sem.run_pure])
     rw[this]
     have hbr:BR Φ ρ (.miter (some b) since (seen++[e.2.2]) clock) l (.mapIter (some lm.blk) since (seen.toArray.push y.born) clock):=by
      have e1:seen.toArray.push y.born=(seen++[e.2.2]).toArray:=by rw[rb]; simp
      rw[e1]
      exact .miter b lm since _ clock l hlm h0
     exact hK _ _ _ _ (rel_put hr1 hi hl hbr) (tup_R ⟨rfl,fun j x v hx hv=>by
      match j,hx,hv with
      | 0,hx,hv=>simp at hx hv; subst hx; subst hv; exact .bool true
      | 1,hx,hv=>simp at hx hv; subst hx; subst hv; exact r1
      | 2,hx,hv=>simp at hx hv; subst hx; subst hv; exact r2
      | j+3,hx,hv=>simp at hx⟩) rfl (h1 e he (by rw[← rb]; exact hns))
theorem op_entry {K:Act→World→Prop} {Q:Exit→Act→World→Prop} (ht:RL Φ ρ t a.tmps) (hr:Rel W Φ ρ m w) (o:Oper) {x:AOpd} (ho:cOp' P o=.nextS x) {KA:AVal→Prop} (h:entryW (ev t x) m KA)
 (hK:∀ v u,R Φ ρ v u→KA v→K (a.put o.dst u) w):o.wp P a w K Q:=by
 obtain⟨x0,hop,hx⟩:=entry_of ho
 have hv:=ev_R ht hx
 generalize ev t x=z at h hv
 unfold entryW at h
 split at h<;>first|exact h.elim|skip
 rename_i it
 split at h<;>first|exact h.elim|skip
 rename_i b since seen last hi
 split at h<;>first|exact h.elim|skip
 rename_i es clock hg
 obtain⟨hcl,s,hls,⟨e1,he1,hs1⟩,hall⟩:=h
 generalize hvv:a.eval x0=vv at hv
 cases hv with
 | ptr _ _ _ l hl=>
  obtain⟨l',ob,g1,g2,g3,g4,g5⟩:=hr.live it _ hi
  rw[hl]at g1; injection g1 with g1; subst g1
  cases g5 with
  | miter _ lm _ _ _ _ hlm h0=>
   obtain⟨l2,ob2,k1,k2,k3,k4,k5⟩:=hr.live b _ hg
   rw[hlm]at k1; injection k1 with k1; subst k1
   cases k5 with
   | map _ _ _ en hsz hrr=>
    have hoff:(l.sh+0)*l.k+0=0:=by rw[Nat.add_zero,Nat.add_zero]; exact h0
    have hget:(getObj l.blk).run P w=.ok (.mapIter (some lm.blk) since seen.toArray last) w:=by simp only[getObj,Sem.run,g4]
    have hget2:(getObj lm.blk).run P w=.ok (.map en clock) w:=by simp only[getObj,Sem.run,k4]
    have hen:∀ y,y∈en → ∃ e,e∈es∧R Φ ρ e.1 y.key∧R Φ ρ e.2.1 y.val∧y.born=e.2.2:=fun y hy=>by
     obtain⟨i,hi',rfl⟩:=Array.mem_iff_getElem.1 hy
     have hlt:i<es.length:=by omega
     obtain⟨y',q1,q2,q3,q4⟩:=hrr i es[i] (List.getElem?_eq_getElem hlt)
     rw[Array.getElem?_eq_getElem hi']at q1
     injection q1 with q1
     exact⟨es[i],List.getElem_mem hlt,q1 ▸ q2,q1 ▸ q3,q1 ▸ q4⟩
    have hback:seen.toArray.back? = some s:=by rw[List.back?_toArray]; exact hls
    obtain⟨y,hy⟩:∃ y,en.find? (fun e=>e.born == s)=some y:=by
     obtain⟨i,hlt,rfl⟩:=List.getElem_of_mem he1
     obtain⟨y',q1,_,_,q4⟩:=hrr i es[i] (List.getElem?_eq_getElem hlt)
     cases hf:en.find? (fun e=>e.born == s)with
     | some y=>exact ⟨y,rfl⟩
     | none=>
      rw[Array.find?_eq_none]at hf
      have:=hf y' (Array.mem_of_getElem? q1)
      simp[q4,hs1]at this
    have hym:y∈en:=Array.mem_of_find?_eq_some hy
    have hyb:y.born=s:=by simpa using Array.find?_some hy
    obtain⟨e,he,r1,r2,rb⟩:=hen y hym
    have hrun:(Instr.entry (.pointer (some ⟨l.blk,0,none⟩))).run P w=.ok (.tuple #[y.key,y.val]) w:=by
     simp only[Instr.entry,Sem.run_bind,hget,Result.andThen_ok,hback,hget2,hcl]
     rw[if_neg (by simp)]
     simp only[hy]
     rfl
    have e0:execOp a.eval o=(do pure (Next.value (← Instr.entry (a.eval x0)))):=by unfold execOp; rw[hop]
    unfold Oper.wp
    rw[hoff]at hvv
    rw[e0,hvv,run_v hrun]
    exact hK _ _ (tup_R ⟨rfl,fun j x v hx hv=>by
     match j,hx,hv with
     | 0,hx,hv=>simp at hx hv; subst hx; subst hv; exact r1
     | 1,hx,hv=>simp at hx hv; subst hx; subst hv; exact r2
     | j+2,hx,hv=>simp at hx⟩) (hall e he (by rw[← rb]; exact hyb))
end
end Go.AE
end
