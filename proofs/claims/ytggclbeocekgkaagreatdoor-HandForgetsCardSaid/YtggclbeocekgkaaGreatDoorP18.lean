/- Part 18 of the proof: AeSa, AeSb, AeNa, AeNb, AeNc. -/
import Derived.Test.YtggclbeocekgkaaGreatDoorP17
set_option linter.all false
section
namespace Go.AE
open Go.RowKit
abbrev Env:=List (Nat×Aa)
def Env.get:Env→Nat→Aa
 | [],_=>.bot
 | (j,v) :: r,i=>if i=j then v else Env.get r i
def AG(n:Nat)(e:Env):Ah→Aa
 | .tmp i=>if i<n then e.get i else Ag
 | .const v=>v
 | .fn f=>.func (.func f) [] []
def W3(e:Env)(d:Option Nat)(v:Aa):Env:=
 match d with
 | some d=>(d,v) :: e
 | none=>e
structure Ad where
 bl:List (Nat×Ai)
 next:Nat
def X2:List (Nat×Ai)→Nat→Option Ai
 | [],_=>none
 | (c,x) :: r,b=>if b=c then some x else X2 r b
def N1:List (Nat×Ai)→Nat→List (Nat×Ai)
 | [],_=>[]
 | (c,x) :: r,b=>if b=c then N1 r b else (c,x) :: N1 r b
def Ad.get(m:Ad)(b:Nat):Option Ai:=X2 m.bl b
def Ad.mem(m:Ad):Mem:=⟨m.get,m.next⟩
def Ad.at(m:Ad)(n:Nat):Ad:=⟨m.bl,n⟩
def Ad.app(m:Ad):List (Nat×Option Ai)→Ad
 | []=>m
 | (b,some x) :: r=>Ad.app ⟨(b,x) :: m.bl,m.next⟩ r
 | (b,none) :: r=>Ad.app ⟨N1 m.bl b,m.next⟩ r
theorem bN(b c:Nat):∀ (l:List (Nat×Ai)),X2 (N1 l b) c=if c=b then none else X2 l c
 | []=>by simp[N1,X2]
 | (d,x) :: r=>by
  simp only[N1];by_cases h:b=d
  ·rw[iP h,bN b c r];simp only[X2];by_cases h2:c=b
   ·simp[h2]
   ·rw[iN h2,iN h2,iN (by omega)]
  ·rw[iN h];simp only[X2];by_cases h2:c=d
   ·rw[iP h2,iP h2,iN (by omega)]
   ·rw[iN h2,iN h2,bN b c r]
theorem Ad.Bz:∀ (d:List (Nat×Option Ai)) (m:Ad),(m.app d).mem=m.mem.apply d
 | [],_=>rfl
 | (b,some x) :: r,m=>by
  simp only[Ad.app,Mem.apply];rw[Ad.Bz r]
  congr 1
 | (b,none) :: r,m=>by
  simp only[Ad.app,Mem.apply];rw[Ad.Bz r]
  congr 1
  exact Mem.ext' (fun c=>by simp only[Ad.mem,Ad.get,Mem.BB]; exact bN b c m.bl) rfl
def Be(n:Nat)(e:Env):List Aa:=(List.range n).map e.get
theorem F1(n:Nat)(e:Env):(Be n e).length=n:=by simp[Be]
theorem C8{n:Nat}{e:Env}{i:Nat}(h:i<n):(Be n e)[i]? = some (e.get i):=by simp[Be,h]
theorem G5(n:Nat)(e:Env):ev (Be n e)=AG n e:=by
 funext x
 cases x with
 | tmp i=>
  simp only[ev,AG];by_cases h:i<n
  ·rw[iP h,List.getD,C8 h]; rfl
  ·rw[iN h,List.getD,List.getElem?_eq_none (by rw[F1]; omega)]; rfl
 | const v=>rfl
 | fn f=>rfl
theorem J4(n:Nat)(e:Env)(d:Option Nat)(v:Aa):put (Be n e) d v=Be n (W3 e d v):=by
 cases d with
 | none=>rfl
 | some d=>
  simp only[put,W3];apply List.ext_getElem?;intro i;rw[List.getElem?_set];by_cases hi:i<n
  ·rw[C8 hi,C8 hi];simp only[Env.get];by_cases h:d=i
   ·rw[iP h,iP (by rw[F1]; omega),iP h.symm]
   ·rw[iN h,iN (fun e=>h e.symm)]
  ·rw[List.getElem?_eq_none (by rw[F1]; omega),List.getElem?_eq_none (by rw[F1]; omega)]
   by_cases h:d=i
   ·rw[iP h,iN (by rw[F1]; omega)]
   ·rw[iN h]
def Q7(n:Nat)(e:Env):Option (Nat×Bool)→Option Bool
 | none=>some true
 | some (d,w)=>match AG n e (.tmp d)with
  | .bool b=>some (b == w)
  | .tuple []=>some false
  | _=>none
theorem Rj(n:Nat)(e:Env)(g:Option (Nat×Bool)):T7 (Be n e) g=Q7 n e g:=by
 cases g with
 | none=>rfl
 | some p=>
  obtain⟨d,w⟩:=p;have h:(Be n e).getD d Ag=AG n e (.tmp d):=congrFun (G5 n e) (.tmp d);simp only[T7,Q7,h];rfl
def T4(n:Nat)(e:Env)(f:Ah)(xs:List Ah):Option (FuncId×List Aa):=
 match AG n e f with
 | .func (.func g) first cap=>some (g,first++xs.map (AG n e)++cap)
 | _=>none
theorem Ts(n:Nat)(e:Env)(f:Ah)(xs:List Ah):callee (Be n e) f xs=T4 n e f xs:=by
 simp only[callee,T4,G5];rfl
def SC(P:Program)(g:FuncId)(args:List Aa)(m:Ad)(id:Nat)(K:Aa→Ad→Prop):Prop:=
 Au P g args m.mem [id] fun v m''=>∃ m',m''=m'.mem∧K v m'
def Al(P:Program)(g:FuncId)(args:List Aa)(v:Aa):Prop:=∀ (m:Mem) (av:List Nat),Au P g args m av fun r m'=>r=v∧m'=m
theorem Y5{P:Program}{g:FuncId}{args:List Aa}{m:Ad}{id:Nat}{v:Aa}{K:Aa→Ad→Prop}(h:Al P g args v)(hK:K v m):SC P g args m id K:=
 (h m.mem [id]).mono fun r m' hr=>by obtain⟨rfl,rfl⟩:=hr; exact⟨m,rfl,hK⟩
def K1(P:Program)(n base:Nat):List Af→Nat→(Env→Ad→Prop)→Env→Ad→Prop
 | [],_,K,e,m=>K e m
 | o :: r,i,K,e,m=>
  match Q7 n e o.guard with
  | some false=>K1 P n base r (i+1) K (W3 e o.dst Ag) m
  | some true=>
   match o.op with
   | .call f xs=>match T4 n e f xs with
    | some (g,args)=>SC P g args m (base+i) fun v m'=>K1 P n base r (i+1) K (W3 e o.dst v) m'
    | none=>False
   | op=>match Y6 (base+i) (AG n e) m.get op with
    | some (v,d)=>K1 P n base r (i+1) K (W3 e o.dst v) (m.app d)
    | none=>False
  | none=>False
def NX:Nat→Nat→List Nat
 | 0,_=>[]
 | k+1,s=>s :: NX k (s+1)
def Ez(base i n:Nat):List Nat:=NX i base++NX n (base+i+1)
theorem Zf:∀ {k s c:Nat},c∈NX k s→s≤c∧c<s+k
 | 0,_,_,h=>by simp[NX]at h
 | k+1,s,c,h=>by
  simp only[NX,mC]at h;rcases h with rfl|h
  ·omega
  ·have:=Zf h; omega
theorem pE(base i n:Nat):base+i∉Ez base i n:=by
 intro h;rcases List.mem_append.1 h with h|h
 ·have:=Zf h; omega
 ·have:=Zf h; omega
def To(P:Program)(g:FuncId)(args:List Aa)(v:Aa)(id:Nat)(x:List Nat)(m:Mem):Prop:=Au P g args (m.less x) [id] fun r m'=>r=v∧m'=m.less x
theorem Al.x{P:Program}{g:FuncId}{args:List Aa}{v:Aa}(h:Al P g args v)(id:Nat)(x:List Nat)(m:Mem):To P g args v id x m:=h _ _
def E1(P:Program)(n base:Nat):List Af→List FT→(Env→Ad→Prop)→Env→Ad→Prop
 | [],_,K,e,m=>K e m
 | o :: r,fs,K,e,m=>
  match Q7 n e o.guard with
  | some false=>E1 P n base r (fs++[.ops [] []]) K (W3 e o.dst Ag) m
  | some true=>
   match o.op with
   | .call f xs=>match T4 n e f xs with
    | some (g,args)=>∃ v,To P g args v (base+fs.length) (Ez base fs.length r.length) m.mem∧O6 fs (.call [] (Ez base fs.length r.length) m.next) o.un∧E1 P n base r (fs++[.call [] (Ez base fs.length r.length) m.next]) K (W3 e o.dst v) m
    | none=>False
   | op=>match Y6 (base+fs.length) (AG n e) m.get op with
    | some (v,d)=>O6 fs (.ops (T3 (base+fs.length) (AG n e) op) (T2 (AG n e) op)) o.un∧E1 P n base r (fs++[.ops (T3 (base+fs.length) (AG n e) op) (T2 (AG n e) op)]) K (W3 e o.dst v) (m.app d)
    | none=>False
  | none=>False
def FN:Env→Env→Prop
 | [],_=>True
 | (i,v) :: r,e=>e.get i=v∧FN r e
def EA:Ai→Ai→Prop
 | .cells k els,.cells k' els'=>k=k'∧els.length=els'.length ∧ ∀(i:Nat) (row row':List Aa),els[i]? = some row→els'[i]? = some row'→row.length=row'.length ∧ ∀(j:Nat) (x:Aa),row[j]? = some x→x=Aa.bot∨row'[j]? = some x
 | x,y=>x=y
theorem BR.Mc{Φ:Ao}{ρ:AD}{x y:Ai}{l:Loc}{o:Obj}(hs:EA x y)(h:BR Φ ρ y l o):BR Φ ρ x l o:=by
 cases x with
 | cells k els=>
  cases y with
  | cells k' els'=>
   obtain⟨rfl,hl,hrow⟩:=hs;cases h with
   | cells k els' l c e hk hn hll hr h1=>
    have hget:∀ (i:Nat) (row:List Aa),els[i]? = some row → ∃ row',els'[i]? = some row'∧row.length=row'.length ∧ ∀(j:Nat) (x:Aa),row[j]? = some x→x=Aa.bot∨row'[j]? = some x:=by
     intro i row hi;have hi':i<els'.length:=by rw[← hl]; exact(gS.1 hi).1
     exact⟨els'[i],gE hi',hrow i row _ hi (gE hi')⟩
    refine .cells k els l c e hk hn (by omega) ⟨fun i row hi=>?_,fun i row j x hi hj=>?_⟩ h1
    ·obtain⟨row',g1,g2,g3⟩:=hget i row hi;rw[g2]; exact hr.1 i row' g1
    ·obtain⟨row',g1,g2,g3⟩:=hget i row hi;have hj':j<row'.length:=by rw[← g2]; exact(gS.1 hj).1
     obtain⟨v,k1,k2,k3⟩:=hr.2 i row' j _ g1 (gE hj');refine⟨v,k1,k2,?_⟩;rcases g3 j x hj with rfl|g
     ·exact .bot v
     ·rw[gE hj']at g;injection g with g
      rw[← g]; exact k3
  | _=>cases hs
 | _=>cases y<;>first|(cases hs; done)|(cases hs; exact h)
theorem Rel.Mc{W:AA}{Φ:Ao}{ρ:AD}{m m':Mem}{w:World}(h:Rel W Φ ρ m w)(hn:m.next≤m'.next)(hg:∀ b x,m'.get b=some x→m.get b=some x ∨ ∃ y,m.get b=some y∧EA x y):Rel W Φ ρ m' w:=by
 have hex:∀ b x,m'.get b=some x → ∃ y,m.get b=some y:=fun b x hx=>(hg b x hx).elim (fun g=>⟨_,g⟩) fun⟨y,g,_⟩=>⟨y,g⟩
 refine⟨h.base,h.Bn,fun b x hx=>?_,fun b b' x x' l l' h1 h2=>?_,fun b l hb=>Nat.lt_of_lt_of_le (h.fresh b l hb) hn,h.Cr⟩
 ·rcases hg b x hx with g|⟨y,g,hs⟩
  ·exact h.live b x g
  ·obtain⟨l,o,g1,g2,g3,g4,g5⟩:=h.live b y g;exact⟨l,o,g1,g2,g3,g4,g5.Mc hs⟩
 ·obtain⟨y,hy⟩:=hex b x h1;obtain⟨y',hy'⟩:=hex b' x' h2;exact h.inj b b' y y' l l' hy hy'
def FM:List (Nat×Ai)→Ad→Prop
 | [],_=>True
 | (b,x) :: r,m=>(m.get b=some x ∨ ∃ y,m.get b=some y∧EA x y)∧FM r m
def EE(e0:Env)(m0:Ad)(e:Env)(m:Ad):Prop:=FN e0 e∧FM m0.bl m∧m.next≤m0.next
theorem FN.get:∀ {e0 e:Env},FN e0 e → ∀ i,e0.get i=.bot∨e0.get i=e.get i
 | [],_,_,i=>.inl rfl
 | (j,v) :: r,e,h,i=>by
  simp only[Env.get];by_cases hij:i=j
  ·subst hij; rw[iP rfl]; exact .inr h.1.symm
  ·rw[iN hij]; exact h.2.get i
theorem FM.get:∀ {l:List (Nat×Ai)} {m:Ad},FM l m → ∀ b x,X2 l b=some x→m.get b=some x ∨ ∃ y,m.get b=some y∧EA x y
 | [],_,_,b,x,h=>by simp[X2]at h
 | (c,y) :: r,m,hs,b,x,h=>by
  simp only[X2]at h;split at h
  ·rename_i hb; subst hb; injection h with h; subst h; exact hs.1
  ·exact hs.2.get b x h
theorem EE.weak{n:Nat}{e0 e:Env}{m0 m:Ad}(h:EE e0 m0 e m):AY.EF ⟨Be n e0,m0.mem⟩ ⟨Be n e,m.mem⟩:=by
 refine⟨h.2.2,fun W Φ ρ vs w hr ht=>⟨Φ,.refl _ _,hr.Mc h.2.2 (fun b x hx=>h.2.1.get b x hx),ht.sub (by rw[F1,F1]) (fun i x hx=>?_)⟩⟩
 have hi:i<n:=by
  have:=(gS.1 hx).1;rw[F1]at this; exact this
 simp only at hx ⊢;rw[C8 hi]at hx ⊢;injection hx with hx
 rcases h.1.get i with h1|h1
 ·exact .inl (hx.symm.trans h1)
 ·exact .inr (by rw[← h1,hx])
def M8(next:Env→Ad→Prop)(Q:Exit→Env→Ad→Prop):Exit→Env→Ad→Prop
 | .normal,e,m=>next e m
 | x,e,m=>Q x e m
def G3(id:Nat)(Q:Exit→Env→Ad→Prop):Exit→Env→Ad→Prop
 | .exit id',e,m=>if id'=id then Q .normal e m else Q (.exit id') e m
 | x,e,m=>Q x e m
def wpS(P:Program)(n:Nat):An→(Exit→Env→Ad→Prop)→Env→Ad→Prop
 | .skip,Q,e,m=>Q .normal e m
 | .region false ops,Q,e,m=>K1 P n m.next ops 0 (Q .normal) e (m.at (m.next+ops.length))
 | .region true ops,Q,e,m=>E1 P n m.next ops [] (Q .normal) e (m.at (m.next+ops.length))
 | .seq a b,Q,e,m=>wpS P n a (M8 (wpS P n b Q) Q) e m
 | .cond c a b,Q,e,m=>match AG n e c with
  | .bool true=>wpS P n a Q e m
  | .bool false=>wpS P n b Q e m
  | _=>False
 | .block id c,Q,e,m=>wpS P n c (G3 id Q) e m
 | .loop c,Q,e,m=>∃ (I:Nat→Env→Ad→Prop),(∃ k e0 m0,EE e0 m0 e m∧I k e0 m0) ∧ ∀ k e1 m1,I k e1 m1→wpS P n c (M8 (fun e' m'=>∃ j e0 m0,j<k∧EE e0 m0 e' m'∧I j e0 m0) Q) e1 m1
 | .exit id,Q,e,m=>Q (.exit id) e m
 | .scope c,Q,e,m=>wpS P n c Q e m
 | .label _,Q,e,m=>Q .normal e m
 | .ret,Q,e,m=>Q .ret e m
 | .bad,_,_,_=>False
def F8(n:Nat)(Q:Exit→Env→Ad→Prop):Exit→AY→Prop
 | .goto _,_=>False
 | x,σ=>∃ e m,σ=⟨Be n e,m.mem⟩∧Q x e m
section
variable {P:Program} {n:Nat}
theorem Tp{base:Nat}{K:Env→Ad→Prop}:∀ (ops:List Af) (i:Nat) (e:Env) (m:Ad),K1 P n base ops i K e m→N9 P base ops i (fun σ=>∃ e m,σ=⟨Be n e,m.mem⟩∧K e m) (Be n e) m.mem
 | [],_,e,m,h=>⟨e,m,rfl,h⟩
 | o :: r,i,e,m,h=>by
  simp only[K1]at h;simp only[N9,Rj];cases hw:Q7 n e o.guard with
  | none=>simp[hw]at h
  | some q=>
   cases q with
   | false=>
    simp only[hw]at h;simp only[J4];exact Tp r (i+1) _ m h
   | true=>
    simp only[hw]at h;simp only;have other:∀ op,o.op=op→(match Y6 (base+i) (AG n e) m.get op with|some (v,d)=>K1 P n base r (i+1) K (W3 e o.dst v) (m.app d)|none=>False) →
     (match Z5 (base+i) (Be n e) m.mem op with|some (v,m')=>N9 P base r (i+1) (fun σ=>∃ e m,σ=⟨Be n e,m.mem⟩∧K e m) (put (Be n e) o.dst v) m'|none=>False):=by
     intro op _ hh;cases hs:Y6 (base+i) (AG n e) m.get op with
     | none=>simp[hs]at hh
     | some vd=>
      obtain⟨v,d⟩:=vd;simp only[hs]at hh;have:=OF (m:=m.mem) (t:=Be n e) (id:=base+i) (op:=op) (v:=v) (d:=d) (by rw[G5]; exact hs)
      rw[this];simp only[J4];rw[← Ad.Bz];exact Tp r (i+1) _ _ hh
    cases hop:o.op with
    | call f xs=>
     simp only[hop]at h;simp only[Ts];cases hc:T4 n e f xs with
     | none=>simp[hc]at h
     | some ga=>
      obtain⟨g,args⟩:=ga;simp only[hc]at h;simp only;refine h.mono fun v m'' hh=>?_
      obtain⟨m',rfl,hk⟩:=hh;simp only[J4];exact Tp r (i+1) _ m' hk
    | _=>rw[hop]at h; exact other _ hop h
theorem qP{g:FuncId}{args:List Aa}{v:Aa}(id:Nat)(x:List Nat)(hx:id∉x)(m:Mem)(h:To P g args v id x m):MX P g args id x m v m []:=by
 refine⟨m.less x,hx,fun c hc=>by simp[Mem.less,hc],lR _,rfl,fun c=>?_,fun c _ _ hc=>by simp[Mem.less,hc],h⟩
 by_cases hc:c∈x
 ·rw[iP hc]
 ·rw[iN hc]; simp[Mem.less,hc]
theorem WL{base:Nat}{K:Env→Ad→Prop}:∀ (ops:List Af) (fs:List FT) (e:Env) (m:Ad),E1 P n base ops fs K e m→R9 P base ops fs (fun σ=>∃ e m,σ=⟨Be n e,m.mem⟩∧K e m) (Be n e) m.mem
 | [],_,e,m,h=>⟨e,m,rfl,h⟩
 | o :: r,fs,e,m,h=>by
  simp only[E1]at h;simp only[R9,Rj];cases hw:Q7 n e o.guard with
  | none=>simp[hw]at h
  | some q=>
   cases q with
   | false=>
    simp only[hw]at h;simp only[J4];exact WL r _ _ m h
   | true=>
    simp only[hw]at h;simp only;have other:∀ op,o.op=op→(match Y6 (base+fs.length) (AG n e) m.get op with|some (v,d)=>O6 fs (.ops (T3 (base+fs.length) (AG n e) op) (T2 (AG n e) op)) o.un∧E1 P n base r (fs++[.ops (T3 (base+fs.length) (AG n e) op) (T2 (AG n e) op)]) K (W3 e o.dst v) (m.app d)|none=>False) →
     (match Z5 (base+fs.length) (Be n e) m.mem op with|some (v,m')=>O6 fs (.ops (T8 (base+fs.length) (Be n e) op) (L4 (Be n e) op)) o.un∧R9 P base r (fs++[.ops (T8 (base+fs.length) (Be n e) op) (L4 (Be n e) op)]) (fun σ=>∃ e m,σ=⟨Be n e,m.mem⟩∧K e m) (put (Be n e) o.dst v) m'|none=>False):=by
     intro op _ hh;cases hs:Y6 (base+fs.length) (AG n e) m.get op with
     | none=>simp[hs]at hh
     | some vd=>
      obtain⟨v,d⟩:=vd;simp only[hs]at hh;have:=OF (m:=m.mem) (t:=Be n e) (id:=base+fs.length) (op:=op) (v:=v) (d:=d) (by rw[G5]; exact hs)
      rw[this];simp only[J4,WD,WE,G5];rw[← Ad.Bz];exact⟨hh.1,WL r _ _ _ hh.2⟩
    cases hop:o.op with
    | call f xs=>
     simp only[hop]at h;simp only[Ts];cases hc:T4 n e f xs with
     | none=>simp[hc]at h
     | some ga=>
      obtain⟨g,args⟩:=ga;simp only[hc]at h;obtain⟨v,hp,hi,hk⟩:=h;simp only;refine⟨[],Ez base fs.length r.length,v,m.mem,qP _ _ (pE _ _ _) _ hp,hi,?_⟩;simp only[J4];exact WL r _ _ m hk
    | _=>rw[hop]at h; exact other _ hop h
theorem SH{c:An}:∀ {Q Q':Exit→AY→Prop} {σ:AY},BU P c Q σ→(∀ x σ,Q x σ→Q' x σ)→BU P c Q' σ:=by
 induction c with
 | skip=>exact fun h hq=>hq _ _ h
 | region draw ops=>
  intro Q Q' σ h hq;cases draw with
  | false=>
   simp only[BU]at h ⊢;have:∀ (ops:List Af) (base i:Nat) (t:List Aa) (m:Mem),N9 P base ops i (Q .normal) t m→N9 P base ops i (Q' .normal) t m:=by
    intro ops
    induction ops with
    | nil=>exact fun base i t m h=>hq _ _ h
    | cons o r ih=>
     intro base i t m h;rcases qT h with⟨h1,h2⟩|⟨h1,⟨f,xs,g,args,h2,h3,h4⟩|⟨v,m',h2,h3⟩⟩
     ·simp only[N9,h1]; exact ih _ _ _ _ h2
     ·simp only[N9,h1,h2,h3]; exact h4.mono fun v m' hh=>ih _ _ _ _ hh
     ·simp only[N9,h1];cases hop:o.op<;>rw[hop]at h2<;>first|(simp only[h2]; exact ih _ _ _ _ h3)|(simp[Z5]at h2)
   exact this _ _ _ _ _ h
  | true=>
   simp only[BU]at h ⊢;have:∀ (ops:List Af) (base:Nat) (fs:List FT) (t:List Aa) (m:Mem),R9 P base ops fs (Q .normal) t m→R9 P base ops fs (Q' .normal) t m:=by
    intro ops
    induction ops with
    | nil=>exact fun base i t m h=>hq _ _ h
    | cons o r ih=>
     intro base fs t m h;simp only[R9]at h ⊢;split at h
     ·exact ih _ _ _ _ h
     ·split at h
      ·split at h
       ·obtain⟨wl,x,v,m',h1,h2,h3⟩:=h;exact⟨wl,x,v,m',h1,h2,ih _ _ _ _ h3⟩
       ·exact h
      ·split at h
       ·exact⟨h.1,ih _ _ _ _ h.2⟩
       ·exact h
     ·exact h
   exact this _ _ _ _ _ h
 | seq a b iha ihb=>
  intro Q Q' σ h hq;refine iha h fun x σ hx=>?_
  cases x<;>first|exact ihb hx hq|exact hq _ _ hx
 | cond c a b iha ihb=>
  intro Q Q' σ h hq;simp only[BU]at h ⊢;split at h
  ·exact iha h hq
  ·exact ihb h hq
  ·exact h
 | block id c ih=>
  intro Q Q' σ h hq;refine ih h fun x σ hx=>?_
  cases x<;>simp only[Hu]at hx ⊢ <;> first|exact hq _ _ hx|skip
  split at hx
  ·rename_i h1; rw[iP h1]; exact hq _ _ hx
  ·rename_i h1; rw[iN h1]; exact hq _ _ hx
 | loop c ih=>
  intro Q Q' σ h hq;obtain⟨I,h1,h2⟩:=h;refine⟨I,h1,fun k σ1 hI=>ih (h2 k σ1 hI) fun x σ hx=>?_⟩
  cases x<;>first|exact hx|exact hq _ _ hx
 | exit id=>exact fun h hq=>hq _ _ h
 | scope c ih=>
  intro Q Q' σ h hq;refine ih h fun x σ hx=>?_
  cases x<;>first|exact hx|exact hq _ _ hx
 | label l=>exact fun h hq=>hq _ _ h
 | ret=>exact fun h hq=>hq _ _ h
 | bad=>exact fun h _=>h
theorem Z0i{c:An}:∀ {Q:Exit→Env→Ad→Prop} {e:Env} {m:Ad},wpS P n c Q e m→BU P c (F8 n Q) ⟨Be n e,m.mem⟩:=by
 induction c with
 | skip=>exact fun h=>⟨_,_,rfl,h⟩
 | region draw ops=>
  intro Q e m h;cases draw with
  | false=>exact Tp ops 0 e _ h
  | true=>exact WL ops [] e _ h
 | seq a b iha ihb=>
  intro Q e m h;show BU P a (SF (BU P b (F8 n Q)) (F8 n Q)) _;refine SH (iha h) fun x σ hx=>?_
  cases x<;>simp only[F8]at hx<;>first|exact hx.elim|skip
  all_goals
   obtain⟨e1,m1,rfl,hx⟩:=hx
   first|exact ihb hx|exact⟨e1,m1,rfl,hx⟩
 | cond c a b iha ihb=>
  intro Q e m h;simp only[wpS]at h;simp only[BU,G5];split at h
  ·rename_i hc; rw[hc]; exact iha h
  ·rename_i hc; rw[hc]; exact ihb h
  ·exact h.elim
 | block id c ih=>
  intro Q e m h;show BU P c (Hu id (F8 n Q)) _;refine SH (ih h) fun x σ hx=>?_
  cases x<;>simp only[F8,G3]at hx<;>first|exact hx.elim|skip
  case exit i=>
   obtain⟨e1,m1,rfl,hx⟩:=hx;simp only[Hu];split at hx
   ·rename_i h1; rw[iP h1]; exact⟨e1,m1,rfl,hx⟩
   ·rename_i h1; rw[iN h1]; exact⟨e1,m1,rfl,hx⟩
  all_goals exact hx
 | loop c ih=>
  intro Q e m h;obtain⟨I,⟨k,e0,m0,h1,h2⟩,h3⟩:=h;refine⟨fun k σ=>∃ e m,σ=⟨Be n e,m.mem⟩∧I k e m,⟨k,_,h1.weak,e0,m0,rfl,h2⟩,?_⟩
  rintro k σ1 ⟨e1,m1,rfl,hI⟩;refine SH (ih (h3 k e1 m1 hI)) fun x σ hx=>?_
  cases x<;>simp only[F8]at hx<;>first|exact hx.elim|skip
  all_goals obtain⟨e2,m2,rfl,hx⟩:=hx
  ·obtain⟨j,e0,m0,hj,hs,hI'⟩:=hx;exact⟨j,_,hj,hs.weak,e0,m0,rfl,hI'⟩
  all_goals exact⟨e2,m2,rfl,hx⟩
 | exit id=>exact fun h=>⟨_,_,rfl,h⟩
 | scope c ih=>
  intro Q e m h;show BU P c (Sn (F8 n Q)) _;refine SH (ih h) fun x σ hx=>?_
  cases x<;>first|exact hx.elim|exact hx
 | label l=>exact fun h=>⟨_,_,rfl,h⟩
 | ret=>exact fun h=>⟨_,_,rfl,h⟩
 | bad=>exact fun h=>h
def Q9(k:Nat):List Aa→Env→Env
 | [],e=>e
 | x :: r,e=>(k,x) :: Q9 (k+1) r e
theorem Vz:∀ (args:List Aa) (k i:Nat) (e:Env),(Q9 k args e).get i=if k≤i∧i<k+args.length then args.getD (i - k) .bot else e.get i
 | [],k,i,e=>by
  have:¬(k≤i∧i<k+([]:List Aa).length):=by simp
  rw[iN this]; rfl
 | x :: r,k,i,e=>by
  simp only[Q9,Env.get];by_cases h:i=k
  ·subst h;rw[iP rfl,iP (by simp),Nat.sub_self]
   rfl
  ·rw[iN h,Vz r (k+1) i e];by_cases h2:k+1≤i∧i<k+1+r.length
   ·rw[iP h2,iP (by simp; omega)]
    have:i - k=(i - (k+1))+1:=by omega
    rw[this];rfl
   ·rw[iN h2,iN (by simp; omega)]
def IX(n:Nat)(rs:List (Nat×Option (Option Nat)))(K:Aa→Ad→Prop):Exit→Env→Ad→Prop
 | .normal,e,m=>match rs with
  | [(i,none)]=>K (AG n e (.tmp i)) m
  | [(i,none),(j,none)]=>K (.tuple [AG n e (.tmp i),AG n e (.tmp j)]) m
  | []=>K (.tuple []) m
  | _=>False
 | .ret,e,m=>match rs with
  | [(i,none)]=>K (AG n e (.tmp i)) m
  | [(i,none),(j,none)]=>K (.tuple [AG n e (.tmp i),AG n e (.tmp j)]) m
  | []=>K (.tuple []) m
  | _=>False
 | _,_,_=>False
theorem Z3v(hm:P.follows .mixedOrders=true){f:FuncId}{fn:Func}{af:As}{args:List Aa}{m:Mem}{av:List Nat}{K:Aa→Mem→Prop}(hf:P.funcs[f]? = some fn)(hc:AS P fn=some af){GG:AY}
 (hw:AY.EF GG ⟨args++List.replicate (af.ntmps - args.length) Ag,m⟩) (h:BU P af.body (FZ af.results K) GG):Au P f args m av K:=by
 obtain⟨c,hb,hbody,CB,hnt,hname⟩:=SU hc;rw[hbody]at h;refine⟨⟨fn,hf,hname,by rw[hb]; rfl⟩,fun W Φ ρ vs w hr ha CN=>?_⟩
 have ht0:=Zk (k:=fn.ntmps) ha;rw[hnt]at hw;obtain⟨Dh,hE0,hr0,ht1⟩:=hw.rel W Φ ρ _ w hr ht0;have hs:=xO hm c _ _ h W Dh ρ { tmps:=vs++Array.replicate (fn.ntmps - vs.size) undef,defers:=[] } w hr0 ht1 rfl;refine calls_of_wp hf hb (wp_mono hs fun e a w' hl=>?_)
 obtain⟨σ,Ar,ρ',h1,h2,h3,h4,h5,h6,h7⟩:=hl;have hn0:m.next≤GG.m.next:=hw.next;have fin:(match N5 σ.t σ.m af.results with|some r=>K r σ.m|none=>False)→a.defers=[] ∧ ∃ v,(results fn a.tmps).run P w'=.ok v w' ∧
  ∃ v' r m' Ar ρ',Ending.returned v=.returned v'∧Ext Φ ρ Ar ρ'∧(∀ b,b<m.next→b∉av→ρ b=none→ρ' b=none)∧Rel W Ar ρ' m' w'∧R Ar ρ' r v'∧m.next≤m'.next∧K r m':=by
  intro hh;cases hz:N5 σ.t σ.m af.results with
  | none=>simp[hz]at hh
  | some r=>
   simp only[hz]at hh;obtain⟨u,g1,g2⟩:=Tn h4 h5 CB hz;exact⟨h6,u,g1,u,r,σ.m,Ar,ρ',rfl,hE0.trans h1,fun b hb _ h0=>h2 b (Nat.lt_of_lt_of_le hb hn0) h0,h4,g2,Nat.le_trans hn0 h3,hh⟩
 cases e with
 | normal=>exact fin h7
 | ret=>exact fin h7
 | exit i=>exact h7.elim
 | goto l=>exact h7.elim
 | panic ch=>exact h7.elim
 | outgrown=>exact h7.elim
theorem yA(hm:P.follows .mixedOrders=true){f:FuncId}{fn:Func}{af:As}{args:List Aa}{m:Ad}{av:List Nat}{K:Aa→Mem→Prop}(hf:P.funcs[f]? = some fn)(hc:AS P fn=some af)(hl:args.length≤af.ntmps)
 (h:wpS P af.ntmps af.body (IX af.ntmps af.results fun v m'=>K v m'.mem) (Q9 0 args []) m):Au P f args m.mem av K:=by
 have hw:AY.EF ⟨Be af.ntmps (Q9 0 args []),m.mem⟩ ⟨args++List.replicate (af.ntmps - args.length) Ag,m.mem⟩:=by
  refine AY.EF.FY (by simp[F1]; omega) (fun i x hx=>?_) (Mem.Sub.refl _)
  have hi:i<af.ntmps:=by
   have:=(gS.1 hx).1;rw[F1]at this; exact this
  simp only at hx ⊢;rw[C8 hi,Vz]at hx;injection hx with hx
  by_cases h2:0≤i∧i<0+args.length
  ·rw[iP h2]at hx;rw[List.getElem?_append,iP (by omega)]
   refine .inr ?_;rw[← hx,Nat.sub_zero,List.getD,gE (by omega)]
   rfl
  ·rw[iN h2]at hx;exact .inl hx.symm
 have h1:BU P af.body (FZ af.results K) ⟨Be af.ntmps (Q9 0 args []),m.mem⟩:=by
  refine SH (Z0i h) fun x σ hx=>?_
  have fin:∀ e m',(match af.results with
   | [(i,none)]=>K (AG af.ntmps e (.tmp i)) m'.mem
   | [(i,none),(j,none)]=>K (.tuple [AG af.ntmps e (.tmp i),AG af.ntmps e (.tmp j)]) m'.mem
   | []=>K (.tuple []) m'.mem
   | _=>False)→(match N5 (Be af.ntmps e) (Ad.mem m') af.results with|some r=>K r m'.mem|none=>False):=by
   intro e m' hh;have hev:∀ i,(Be af.ntmps e).getD i Ag=AG af.ntmps e (.tmp i):=fun i=>congrFun (G5 af.ntmps e) (.tmp i)
   split at hh
   ·rename_i i hr;rw[hr];simp only[N5,D5,hev];exact hh
   ·rename_i i j hr;rw[hr];simp only[N5,F5,D5,hev];exact hh
   ·rename_i hr;rw[hr];exact hh
   ·exact hh.elim
  cases x<;>simp only[F8,IX]at hx<;>first|exact hx.elim|skip
  ·obtain⟨e1,m1,rfl,hx⟩:=hx; exact fin e1 m1 hx
  ·obtain⟨_,_,_,hx⟩:=hx; exact hx.elim
  ·obtain⟨e1,m1,rfl,hx⟩:=hx; exact fin e1 m1 hx
  ·obtain⟨_,_,_,hx⟩:=hx; exact hx.elim
  ·obtain⟨_,_,_,hx⟩:=hx; exact hx.elim
 exact Z3v hm hf hc hw h1
end
end Go.AE
end
section
namespace Go.AE
open Go.RowKit
variable {P:Program}
theorem xZ(get:Nat→Option Ai):∀ (n:Nat) (v:Aa),(match v with | .int _ _ | .bool _ | .str _=>True|_=>False)→X9 get (n+1) v=some v:=by
 intro n v h;cases v<;>first|exact h.elim|rfl
theorem wZ{g:FuncId}{args:List Aa}{v:Aa}(hca:X8 args=true)(hv:match v with | .int _ _ | .bool _ | .str _=>True|_=>False)
 (h:Au P g args (Ad.mem ⟨[],1⟩) [0] fun r _=>r=v):Al P g args v:=by
 intro m av;refine Wg hca (by cases v<;>first|exact hv.elim|rfl) (fun c=>rfl) (Nat.lt_succ_self 0) h (fun r m' hr=>⟨1,?_⟩) m av
 subst hr;exact xZ _ 0 _ hv
section
variable {n:Nat} {Q:Exit→Env→Ad→Prop} {e:Env} {m:Ad}
theorem ZV:wpS P n .skip Q e m=Q .normal e m:=propext Iff.rfl
theorem Yg(ops:List Af):wpS P n (.region false ops) Q e m=K1 P n m.next ops 0 (Q .normal) e (m.at (m.next+ops.length)):=propext Iff.rfl
theorem Zo(ops:List Af):wpS P n (.region true ops) Q e m=E1 P n m.next ops [] (Q .normal) e (m.at (m.next+ops.length)):=propext Iff.rfl
theorem aH(a b:An):wpS P n (.seq a b) Q e m=wpS P n a (M8 (wpS P n b Q) Q) e m:=propext Iff.rfl
theorem Ym(c:Ah)(a b:An):wpS P n (.cond c a b) Q e m=match AG n e c with
 | .bool true=>wpS P n a Q e m
 | .bool false=>wpS P n b Q e m
 | _=>False:=propext Iff.rfl
theorem Zi(i:Nat)(c:An):wpS P n (.block i c) Q e m=wpS P n c (G3 i Q) e m:=propext Iff.rfl
theorem Yi(i:Nat):wpS P n (.exit i) Q e m=Q (.exit i) e m:=propext Iff.rfl
theorem Yk:wpS P n .ret Q e m=Q .ret e m:=propext Iff.rfl
theorem A6(N:Env→Ad→Prop):M8 N Q .normal e m=N e m:=propext Iff.rfl
theorem B4(N:Env→Ad→Prop):M8 N Q .ret e m=Q .ret e m:=propext Iff.rfl
theorem A2(N:Env→Ad→Prop)(i:Nat):M8 N Q (.exit i) e m=Q (.exit i) e m:=propext Iff.rfl
theorem B9(i:Nat):G3 i Q .normal e m=Q .normal e m:=propext Iff.rfl
theorem A0(i:Nat):G3 i Q .ret e m=Q .ret e m:=propext Iff.rfl
theorem B5(i j:Nat):G3 i Q (.exit j) e m=if j=i then Q .normal e m else Q (.exit j) e m:=propext Iff.rfl
theorem YP{base i:Nat}{K:Env→Ad→Prop}:K1 P n base [] i K e m=K e m:=propext Iff.rfl
theorem Zl{base i:Nat}{K:Env→Ad→Prop}(o:Af)(r:List Af):K1 P n base (o :: r) i K e m =
 match Q7 n e o.guard with
 | some false=>K1 P n base r (i+1) K (W3 e o.dst Ag) m
 | some true=>
  match o.op with
  | .call f xs=>match T4 n e f xs with
   | some (g,args)=>SC P g args m (base+i) fun v m'=>K1 P n base r (i+1) K (W3 e o.dst v) m'
   | none=>False
  | op=>match Y6 (base+i) (AG n e) m.get op with
   | some (v,d)=>K1 P n base r (i+1) K (W3 e o.dst v) (m.app d)
   | none=>False
 | none=>False:=propext Iff.rfl
theorem vR{base:Nat}{fs:List FT}{K:Env→Ad→Prop}:E1 P n base [] fs K e m=K e m:=propext Iff.rfl
theorem yB{base:Nat}{fs:List FT}{K:Env→Ad→Prop}(o:Af)(r:List Af):E1 P n base (o :: r) fs K e m =
 match Q7 n e o.guard with
 | some false=>E1 P n base r (fs++[.ops [] []]) K (W3 e o.dst Ag) m
 | some true=>
  match o.op with
  | .call f xs=>match T4 n e f xs with
   | some (g,args)=>∃ v,To P g args v (base+fs.length) (Ez base fs.length r.length) m.mem∧O6 fs (.call [] (Ez base fs.length r.length) m.next) o.un∧E1 P n base r (fs++[.call [] (Ez base fs.length r.length) m.next]) K (W3 e o.dst v) m
   | none=>False
  | op=>match Y6 (base+fs.length) (AG n e) m.get op with
   | some (v,d)=>O6 fs (.ops (T3 (base+fs.length) (AG n e) op) (T2 (AG n e) op)) o.un∧E1 P n base r (fs++[.ops (T3 (base+fs.length) (AG n e) op) (T2 (AG n e) op)]) K (W3 e o.dst v) (m.app d)
   | none=>False
 | none=>False:=propext Iff.rfl
def Next{α:Type}(E:α→Env)(M:α→Ad)(μ:α→Nat)(Inv:α→Prop)(a:α)(e':Env)(m':Ad):Prop:=∃ a',μ a'<μ a∧Inv a'∧EE (E a') (M a') e' m'
theorem wK{α:Type}{c:An}(E:α→Env)(M:α→Ad)(μ:α→Nat)(Inv:α→Prop)(a0:α)(hs:EE (E a0) (M a0) e m)(h0:Inv a0)
 (h:∀ a,Inv a→wpS P n c (M8 (Next E M μ Inv a) Q) (E a) (M a)):wpS P n (.loop c) Q e m:=by
 refine⟨fun k e m=>∃ a,k=μ a∧Inv a∧e=E a∧m=M a,⟨μ a0,_,_,hs,a0,rfl,h0,rfl,rfl⟩,?_⟩
 rintro k e1 m1 ⟨a,rfl,ha,rfl,rfl⟩;have key:(M8 (Next E M μ Inv a) Q)=(M8 (fun e' m'=>∃ j e0 m0,j<μ a∧EE e0 m0 e' m'∧(∃ a,j=μ a∧Inv a∧e0=E a∧m0=M a)) Q):=by
  funext x e' m'
  cases x<;>try rfl
  simp only[M8];apply propext;constructor
  ·rintro⟨a',h1,h2,h3⟩;exact⟨μ a',_,_,h1,h3,a',rfl,h2,rfl,rfl⟩
  ·rintro⟨j,e0,m0,h1,h3,a',rfl,h2,rfl,rfl⟩;exact⟨a',h1,h2,h3⟩
 rw[← key];exact h a ha
end
@[congr] theorem Yen{g : FuncId}{args args' : List Aa}{m : Ad}{id : Nat}{K : Aa → Ad → Prop}(h : args = args') : SC P g args m id K = SC P g args' m id K := by rw [h]
@[congr] theorem Yed{α : Type}{E : α → Env}{M : α → Ad}{μ : α → Nat}{Inv : α → Prop}{a : α}{e e' : Env}{m m' : Ad}(h : e = e')(h' : m = m') : Next E M μ Inv a e m = Next E M μ Inv a e' m' := by rw [h, h']
@[congr] theorem Ydw{N : Env → Ad → Prop}{Q : Exit → Env → Ad → Prop}{x x' : Exit}{e e' : Env}{m m' : Ad}(hx : x = x')(h : e = e')(h' : m = m') : M8 N Q x e m = M8 N Q x' e' m' := by rw [hx, h, h']
@[congr] theorem Ydu{i : Nat}{Q : Exit → Env → Ad → Prop}{x x' : Exit}{e e' : Env}{m m' : Ad}(hx : x = x')(h : e = e')(h' : m = m') : G3 i Q x e m = G3 i Q x' e' m' := by rw [hx, h, h']
@[congr] theorem Yet{n : Nat}{c : An}{Q : Exit → Env → Ad → Prop}{e e' : Env}{m m' : Ad}(h : e = e')(h' : m = m') : wpS P n c Q e m = wpS P n c Q e' m' := by rw [h, h']
@[congr] theorem Yd4{n base base' i i' : Nat}{ops : List Af}{K : Env → Ad → Prop}{e e' : Env}{m m' : Ad}(hb : base = base')(hi : i = i')(h : e = e')(h' : m = m') : K1 P n base ops i K e m = K1 P n base' ops i' K e' m' := by rw [hb, hi, h, h']
@[congr] theorem Yfa{n base base' : Nat}{fs fs' : List FT}{ops : List Af}{K : Env → Ad → Prop}{e e' : Env}{m m' : Ad}(hb : base = base')(hi : fs = fs')(h : e = e')(h' : m = m') : E1 P n base ops fs K e m = E1 P n base' ops fs' K e' m' := by rw [hb, hi, h, h']
end Go.AE
end
section
namespace Go.AE
open Go.RowKit
mutual
def Aa.AI(p:Nat→Nat):Aa→Aa
 | .ptr b i j=>.ptr (p b) i j
 | .AW els i j=>.AW (Z3 p els) i j
 | .sl b off len=>.sl (p b) off len
 | .Aj els=>.Aj (Z3 p els)
 | .map b=>.map (p b)
 | .func fn f c=>.func fn (Q5 p f) (Q5 p c)
 | .FH b=>.FH (p b)
 | .iface t v=>.iface t (v.AI p)
 | .agg cs=>.agg (Q5 p cs)
 | .tuple cs=>.tuple (Q5 p cs)
 | .bool b=>.bool b
 | .int k n=>.int k n
 | .str s=>.str s
 | .nilPtr=>.nilPtr
 | .Ae=>.Ae
 | .emp=>.emp
 | .Av=>.Av
 | .nilFunc=>.nilFunc
 | .atLeast n=>.atLeast n
 | .nilIface=>.nilIface
 | .bot=>.bot
def Q5(p:Nat→Nat):List Aa→List Aa
 | []=>[]
 | x :: r=>x.AI p :: Q5 p r
def Z3(p:Nat→Nat):List (List Aa)→List (List Aa)
 | []=>[]
 | x :: r=>Q5 p x :: Z3 p r
end
theorem Yh(p:Nat→Nat):∀ (l:List Aa),Q5 p l=l.map (·.AI p)
 | []=>rfl
 | x :: r=>by simp only[Q5,List.map_cons,Yh p r]
theorem H4(p:Nat→Nat):∀ (l:List (List Aa)),Z3 p l=l.map (Q5 p)
 | []=>rfl
 | x :: r=>by simp only[Z3,List.map_cons,H4 p r]
theorem C2(p:Nat→Nat)(l:List Aa):(Q5 p l).length=l.length:=by rw[Yh,lM]
theorem RH(p:Nat→Nat)(l:List (List Aa)):(Z3 p l).length=l.length:=by rw[H4,lM]
theorem AL{p:Nat→Nat}{l:List Aa}{i:Nat}{y:Aa}:(Q5 p l)[i]? = some y ↔ ∃ x,l[i]? = some x∧y=x.AI p:=by
 rw[Yh,gM]
 grind
theorem AN{p:Nat→Nat}{l:List (List Aa)}{i:Nat}{y:List Aa}:(Z3 p l)[i]? = some y ↔ ∃ x,l[i]? = some x∧y=Q5 p x:=by
 rw[H4,gM]
 grind
mutual
theorem Aa.Er(p:Nat→Nat):∀ (x:Aa),x.closed=true→x.AI p=x
 | .bool _,_ | .int _ _,_ | .str _,_ | .nilPtr,_ | .Ae,_ | .emp,_ | .Av,_ | .nilFunc,_ | .nilIface,_ | .bot,_=>rfl
 | .Aj els,h=>by rw[Aa.AI,Y1 p els h]
 | .agg cs,h=>by rw[Aa.AI,MF p cs h]
 | .tuple cs,h=>by rw[Aa.AI,MF p cs h]
 | .func _ a b,h=>by
  simp only[Aa.closed,bA]at h;rw[Aa.AI,MF p a h.1,MF p b h.2]
 | .AW els _ _,h=>by rw[Aa.AI,Y1 p els h]
 | .ptr ..,h | .sl ..,h | .map ..,h | .FH ..,h | .atLeast ..,h | .iface ..,h=>by cases h
theorem MF(p:Nat→Nat):∀ (l:List Aa),X8 l=true→Q5 p l=l
 | [],_=>rfl
 | x :: r,h=>by
  simp only[X8,bA]at h;rw[Q5,Aa.Er p x h.1,MF p r h.2]
theorem Y1(p:Nat→Nat):∀ (l:List (List Aa)),U3 l=true→Z3 p l=l
 | [],_=>rfl
 | x :: r,h=>by
  simp only[U3,bA]at h;rw[Z3,MF p x h.1,Y1 p r h.2]
end
theorem R.AI{Φ:Ao}{ρ ρ':AD}{p:Nat→Nat}(hp:∀ b l,ρ b=some l→ρ' (p b)=some l){x:Aa}{v:Value}(h:R Φ ρ x v):R Φ ρ' (x.AI p) v:=by
 induction h with
 | bool b=>exact .bool b
 | int k n=>exact .int k n
 | str s=>exact .str s
 | ptr b i j l h=>exact .ptr _ i j l (hp _ _ h)
 | AW els i j B o k c f hB hk hc _ ih=>
  refine .AW _ i j B o k c f hB (fun i row hi=>?_) (fun i row j x hi hj=>?_) (fun i row j x hi hj=>?_)
  ·obtain⟨r0,h1,rfl⟩:=AN.1 hi;rw[C2]; exact hk i r0 h1
  ·obtain⟨r0,h1,rfl⟩:=AN.1 hi;obtain⟨x0,h2,rfl⟩:=AL.1 hj
   grind
  ·obtain⟨r0,h1,rfl⟩:=AN.1 hi;obtain⟨x0,h2,rfl⟩:=AL.1 hj
   grind
 | nilPtr=>exact .nilPtr
 | Ae=>exact .Ae
 | emp a=>exact .emp a
 | sl b off len a cap l h hl hn hc ha=>exact .sl _ off len a cap l (hp _ _ h) hl hn hc ha
 | BS a cap h=>exact .BS a cap h
 | Aj els B o k cap c f hne hcap hB hk hc _ ih=>
  have e:=RH p els;rw[← e];refine .Aj _ B o k cap c f (fun h0=>hne ?_) (by rw[e]; exact hcap) hB (fun i row hi=>?_) (fun i row j x hi hj=>?_) (fun i row j x hi hj=>?_)
  ·grind
  ·obtain⟨r0,h1,rfl⟩:=AN.1 hi;rw[C2]; exact hk i r0 h1
  ·obtain⟨r0,h1,rfl⟩:=AN.1 hi;obtain⟨x0,h2,rfl⟩:=AL.1 hj
   grind
  ·obtain⟨r0,h1,rfl⟩:=AN.1 hi;obtain⟨x0,h2,rfl⟩:=AL.1 hj
   grind
 | map b l h=>exact .map _ l (hp _ _ h)
 | Av=>exact .Av
 | func fn fs cs vf vc hf hc _ _ ih1 ih2=>
  refine .func fn _ _ vf vc (by rw[C2]; exact hf) (by rw[C2]; exact hc) (fun i x v hx hv=>?_) (fun i x v hx hv=>?_)
  ·obtain⟨x0,h2,rfl⟩:=AL.1 hx
   grind
  ·obtain⟨x0,h2,rfl⟩:=AL.1 hx
   grind
 | nilFunc=>exact .nilFunc
 | FH b l h=>exact .FH _ l (hp _ _ h)
 | atLeast n c h=>exact .atLeast n c h
 | iface t x v _ ih=>exact .iface t _ v ih
 | nilIface=>exact .nilIface
 | agg cs vs hs _ ih=>
  refine .agg _ vs (by rw[C2]; exact hs) (fun i x v hx hv=>?_)
  obtain⟨x0,h2,rfl⟩:=AL.1 hx
  grind
 | tuple cs vs hs _ ih=>
  refine .tuple _ vs (by rw[C2]; exact hs) (fun i x v hx hv=>?_)
  obtain⟨x0,h2,rfl⟩:=AL.1 hx
  grind
 | bot v=>exact .bot v
theorem R.CJ{Φ:Ao}{ρ ρ':AD}{q:Nat→Nat}(hq:∀ b l,ρ (q b)=some l→ρ' b=some l){y:Aa}{v:Value}(h:R Φ ρ y v):∀ x:Aa,y=x.AI q→R Φ ρ' x v:=by
 induction h with
 | bool b=>intro x hx; cases x<;>simp only[Aa.AI,reduceCtorEq,Aa.bool.injEq]at hx; subst hx; exact .bool _
 | int k n=>intro x hx; cases x<;>simp only[Aa.AI,reduceCtorEq,Aa.int.injEq]at hx; obtain⟨rfl,rfl⟩:=hx; exact .int _ _
 | str s=>intro x hx; cases x<;>simp only[Aa.AI,reduceCtorEq,Aa.str.injEq]at hx; subst hx; exact .str _
 | ptr b i j l h=>intro x hx; cases x<;>simp only[Aa.AI,reduceCtorEq,Aa.ptr.injEq]at hx; obtain⟨rfl,rfl,rfl⟩:=hx; exact .ptr _ _ _ l (hq _ _ h)
 | AW els i j B o k c f hB hk hc _ ih=>
  intro x hx; cases x<;>simp only[Aa.AI,reduceCtorEq,Aa.AW.injEq]at hx; obtain⟨rfl,rfl,rfl⟩:=hx
  exact .AW _ _ _ B o k c f hB (fun i row hi=>by have:=hk i _ (AN.2 ⟨row,hi,rfl⟩); rwa[C2]at this) (fun i row j x hi hj=>hc i _ j _ (AN.2 ⟨row,hi,rfl⟩) (AL.2 ⟨x,hj,rfl⟩))
   (fun i row j x hi hj=>ih i _ j _ (AN.2 ⟨row,hi,rfl⟩) (AL.2 ⟨x,hj,rfl⟩) x rfl)
 | nilPtr=>intro x hx; cases x<;>simp only[Aa.AI,reduceCtorEq]at hx; exact .nilPtr
 | Ae=>intro x hx; cases x<;>simp only[Aa.AI,reduceCtorEq]at hx; exact .Ae
 | emp a=>intro x hx; cases x<;>simp only[Aa.AI,reduceCtorEq]at hx; exact .emp a
 | sl b off len a cap l h hl hn hc ha=>intro x hx; cases x<;>simp only[Aa.AI,reduceCtorEq,Aa.sl.injEq]at hx; obtain⟨rfl,rfl,rfl⟩:=hx; exact .sl _ _ _ a cap l (hq _ _ h) hl hn hc ha
 | BS a cap hz=>
  intro x hx; cases x<;>simp only[Aa.AI,reduceCtorEq,Aa.Aj.injEq]at hx
  rename_i els;have e:=RH q els;rw[← hx]at e;have:els=[]:=by grind
  subst this;exact .BS a cap hz
 | Aj els B o k cap c f hne hcap hB hk hc _ ih=>
  intro x hx; cases x<;>simp only[Aa.AI,reduceCtorEq,Aa.Aj.injEq]at hx
  rename_i els0;subst hx;rw[RH]at hcap ⊢;exact .Aj _ B o k cap c f (fun h0=>hne (by rw[h0]; rfl)) hcap hB (fun i row hi=>by have:=hk i _ (AN.2 ⟨row,hi,rfl⟩); rwa[C2]at this) (fun i row j x hi hj=>hc i _ j _ (AN.2 ⟨row,hi,rfl⟩) (AL.2 ⟨x,hj,rfl⟩))
   (fun i row j x hi hj=>ih i _ j _ (AN.2 ⟨row,hi,rfl⟩) (AL.2 ⟨x,hj,rfl⟩) x rfl)
 | map b l h=>intro x hx; cases x<;>simp only[Aa.AI,reduceCtorEq,Aa.map.injEq]at hx; subst hx; exact .map _ l (hq _ _ h)
 | Av=>intro x hx; cases x<;>simp only[Aa.AI,reduceCtorEq]at hx; exact .Av
 | func fn fs cs vf vc hf hc _ _ ih1 ih2=>
  intro x hx; cases x<;>simp only[Aa.AI,reduceCtorEq,Aa.func.injEq]at hx; obtain⟨rfl,rfl,rfl⟩:=hx
  rw[C2]at hf hc;exact .func _ _ _ vf vc hf hc (fun i x v hx hv=>ih1 i _ v (AL.2 ⟨x,hx,rfl⟩) hv x rfl) (fun i x v hx hv=>ih2 i _ v (AL.2 ⟨x,hx,rfl⟩) hv x rfl)
 | nilFunc=>intro x hx; cases x<;>simp only[Aa.AI,reduceCtorEq]at hx; exact .nilFunc
 | FH b l h=>intro x hx; cases x<;>simp only[Aa.AI,reduceCtorEq,Aa.FH.injEq]at hx; subst hx; exact .FH _ l (hq _ _ h)
 | atLeast n c h=>intro x hx; cases x<;>simp only[Aa.AI,reduceCtorEq,Aa.atLeast.injEq]at hx; subst hx; exact .atLeast _ c h
 | iface t x v _ ih=>intro x hx; cases x<;>simp only[Aa.AI,reduceCtorEq,Aa.iface.injEq]at hx; obtain⟨rfl,rfl⟩:=hx; exact .iface _ _ v (ih _ rfl)
 | nilIface=>intro x hx; cases x<;>simp only[Aa.AI,reduceCtorEq]at hx; exact .nilIface
 | agg cs vs hs _ ih=>
  intro x hx; cases x<;>simp only[Aa.AI,reduceCtorEq,Aa.agg.injEq]at hx; subst hx
  rw[C2]at hs;exact .agg _ vs hs (fun i x v hx hv=>ih i _ v (AL.2 ⟨x,hx,rfl⟩) hv x rfl)
 | tuple cs vs hs _ ih=>
  intro x hx; cases x<;>simp only[Aa.AI,reduceCtorEq,Aa.tuple.injEq]at hx; subst hx
  rw[C2]at hs;exact .tuple _ vs hs (fun i x v hx hv=>ih i _ v (AL.2 ⟨x,hx,rfl⟩) hv x rfl)
 | bot v=>intro x hx; cases x<;>simp only[Aa.AI,reduceCtorEq]at hx; exact .bot v
def Fc(p:Nat→Nat)(es:List (Aa×Aa×Nat)):List (Aa×Aa×Nat):=es.map fun x=>(x.1.AI p,x.2.1.AI p,x.2.2)
def Ai.AI(p:Nat→Nat):Ai→Ai
 | .cells k els=>.cells k (Z3 p els)
 | .map es clock=>.map (Fc p es) clock
 | .Cg s pos=>.Cg s pos
 | .AJ m since seen stepped=>.AJ (m.map p) since seen stepped
theorem RowsIn.AI{Φ:Ao}{ρ ρ':AD}{p:Nat→Nat}(hp:∀ b l,ρ b=some l→ρ' (p b)=some l){els:List (List Aa)}{sh k:Nat}{c:Array Value}(h:RowsIn Φ ρ els sh k c):RowsIn Φ ρ' (Z3 p els) sh k c:=by
 refine⟨fun i row hi=>?_,fun i row j x hi hj=>?_⟩
 ·obtain⟨r0,h1,rfl⟩:=AN.1 hi;rw[C2]; exact h.1 i r0 h1
 ·obtain⟨r0,h1,rfl⟩:=AN.1 hi;obtain⟨x0,h2,rfl⟩:=AL.1 hj;obtain⟨v,g1,g2,g3⟩:=h.2 i r0 j x0 h1 h2;exact⟨v,g1,g2,g3.AI hp⟩
theorem BR.AI{Φ:Ao}{ρ ρ':AD}{p:Nat→Nat}(hp:∀ b l,ρ b=some l→ρ' (p b)=some l){x:Ai}{l:Loc}{o:Obj}(h:BR Φ ρ x l o):BR Φ ρ' (x.AI p) l o:=by
 cases h with
 | cells k els l c e hk hn hl hr h1=>exact .cells k _ l c e hk hn (by rw[RH]; exact hl) (hr.AI hp) h1
 | map es clock l en hs hr=>
  refine .map _ clock l en (by rw[Fc,lM]; exact hs) fun i x hx=>?_
  rw[Fc,gM]at hx;cases h0:es[i]? with
  | none=>grind
  | some z=>
   rw[h0]at hx;injection hx with hx
   subst hx;obtain⟨y,g1,g2,g3,g4⟩:=hr i z h0;exact⟨y,g1,g2.AI hp,g3.AI hp,g4⟩
 | Cg s pos l=>exact .Cg s pos l
 | DQ a b c l=>exact .DQ a b c l
 | AJ m lm a b c l h h0=>exact .AJ _ lm a b c l (hp _ _ h) h0
theorem RowsIn.CJ{Φ:Ao}{ρ ρ':AD}{q:Nat→Nat}(hq:∀ b l,ρ (q b)=some l→ρ' b=some l){els:List (List Aa)}{sh k:Nat}{c:Array Value}(h:RowsIn Φ ρ (Z3 q els) sh k c):RowsIn Φ ρ' els sh k c:=by
 refine⟨fun i row hi=>by have:=h.1 i _ (AN.2 ⟨row,hi,rfl⟩); rwa[C2]at this,fun i row j x hi hj=>?_⟩
 obtain⟨v,g1,g2,g3⟩:=h.2 i _ j _ (AN.2 ⟨row,hi,rfl⟩) (AL.2 ⟨x,hj,rfl⟩);exact⟨v,g1,g2,g3.CJ hq x rfl⟩
theorem BR.CJ{Φ:Ao}{ρ ρ':AD}{q:Nat→Nat}(hq:∀ b l,ρ (q b)=some l→ρ' b=some l){x:Ai}{l:Loc}{o:Obj}(h:BR Φ ρ (x.AI q) l o):BR Φ ρ' x l o:=by
 cases x with
 | cells k els=>
  simp only[Ai.AI]at h;cases h with
  | cells _ _ _ c e hk hn hl hr h1=>exact .cells k _ l c e hk hn (by rwa[RH]at hl) (hr.CJ hq) h1
 | map es clock=>
  simp only[Ai.AI]at h;cases h with
  | map _ _ _ en hs hr=>
   refine .map _ clock l en (by rwa[Fc,lM]at hs) fun i x hx=>?_
   obtain⟨y,g1,g2,g3,g4⟩:=hr i (x.1.AI q,x.2.1.AI q,x.2.2) (by rw[Fc,gM,hx]; rfl)
   exact⟨y,g1,g2.CJ hq x.1 rfl,g3.CJ hq x.2.1 rfl,g4⟩
 | Cg s pos=>
  simp only[Ai.AI]at h;cases h with
  | Cg _ _ _=>exact .Cg s pos l
 | AJ m since seen stepped=>
  simp only[Ai.AI]at h;cases m with
  | none=>cases h with|DQ _ _ _ _=>exact .DQ _ _ _ l
  | some b=>cases h with|AJ _ lm _ _ _ _ h h0=>exact .AJ b lm _ _ _ l (hq _ _ h) h0
end Go.AE
end
section
namespace Go.AE
open Go.RowKit
def GO:List (Nat×Nat)→Nat→Nat→Nat
 | [],_,b=>b
 | (c,o) :: r,d,b=>if b=c then o else GO r d b
def Ce(l:List (Nat×Nat))(n0 k n b:Nat):Nat:=if b<n0 then b else if b<k then GO l n b else b - k+n
theorem Z1a{l:List (Nat×Nat)}{n0 k n b:Nat}(h:Ce l n0 k n b<n)(h0:n0≤k):b<k:=by
 unfold Ce at h;split at h
 ·omega
 ·split at h<;>omega
def BW(q:Nat→Nat):Env→Env→Prop
 | [],_=>True
 | (i,v) :: r,e=>e.get i=v.AI q∧BW q r e
def Bv(q:Nat→Nat):List (Nat×Ai)→Ad→Prop
 | [],_=>True
 | (b,x) :: r,m=>(m.get (q b)=some (x.AI q) ∨ ∃ y,m.get (q b)=some y∧EA (x.AI q) y)∧Bv q r m
def CK(q:Nat→Nat)(b:Nat):List (Nat×Ai)→Prop
 | []=>True
 | (c,_) :: r=>(q b=q c→b=c)∧CK q b r
def Cm(q:Nat→Nat):List (Nat×Ai)→Prop
 | []=>True
 | (b,_) :: r=>CK q b r∧Cm q r
theorem CK.get{q:Nat→Nat}{b:Nat}:∀ {l:List (Nat×Ai)},CK q b l → ∀ c x,X2 l c=some x→q b=q c→b=c
 | [],_,c,x,h,_=>by simp[X2]at h
 | (d,y) :: r,hi,c,x,h,hq=>by
  simp only[X2]at h;split at h
  ·rename_i e; subst e; exact hi.1 hq
  ·exact hi.2.get c x h hq
theorem Cm.get{q:Nat→Nat}:∀ {l:List (Nat×Ai)},Cm q l → ∀ b c x y,X2 l b=some x→X2 l c=some y→q b=q c→b=c
 | [],_,b,c,x,y,h,_,_=>by simp[X2]at h
 | (d,z) :: r,hi,b,c,x,y,hb,hc,hq=>by
  simp only[X2]at hb hc;split at hb
  ·rename_i e; subst e;split at hc
   ·rename_i e2; exact e2.symm
   ·exact hi.1.get c y hc hq
  ·split at hc
   ·rename_i e2; subst e2;exact(hi.1.get b x hb hq.symm).symm
   ·exact hi.2.get b c x y hb hc hq
theorem BW.get{q:Nat→Nat}:∀ {e0 e:Env},BW q e0 e → ∀ i,e0.get i=.bot∨e.get i=(e0.get i).AI q
 | [],_,_,i=>.inl rfl
 | (j,v) :: r,e,h,i=>by
  simp only[Env.get];by_cases hij:i=j
  ·subst hij; rw[iP rfl]; exact .inr h.1
  ·rw[iN hij]; exact h.2.get i
theorem Bv.get{q:Nat→Nat}:∀ {l:List (Nat×Ai)} {m:Ad},Bv q l m → ∀ b x,X2 l b=some x → ∃ y,m.get (q b)=some y∧(y=x.AI q∨EA (x.AI q) y)
 | [],m,_,b,x,h=>by simp[X2]at h
 | (c,y) :: r,m,hs,b,x,h=>by
  simp only[X2]at h;split at h
  ·rename_i hb; subst hb; injection h with h; subst h
   rcases hs.1 with h1|⟨y',h1,h2⟩
   ·exact⟨_,h1,.inl rfl⟩
   ·exact⟨_,h1,.inr h2⟩
  ·exact hs.2.get b x h
def Bs(n0:Nat)(l:List (Nat×Nat))(e0:Env)(m0:Ad)(e:Env)(m:Ad):Prop:=
 n0≤m0.next∧n0≤m.next∧BW (Ce l n0 m0.next m.next) e0 e∧Bv (Ce l n0 m0.next m.next) m0.bl m∧Cm (Ce l n0 m0.next m.next) m0.bl
theorem BR.FY{Φ:Ao}{ρ:AD}{x y:Ai}{l:Loc}{o:Obj}(hs:y=x∨EA x y)(h:BR Φ ρ y l o):BR Φ ρ x l o:=by
 rcases hs with rfl|hs
 ·exact h
 ·exact h.Mc hs
theorem Rel.CJ{W:AA}{Φ:Ao}{ρ:AD}{m m0:Mem}{w:World}{q:Nat→Nat}(h:Rel W Φ ρ m w)(hg:∀ b x,m0.get b=some x → ∃ y,m.get (q b)=some y∧(y=x.AI q∨EA (x.AI q) y))
 (hi:∀ b c x y,m0.get b=some x→m0.get c=some y→q b=q c→b=c) (hq:∀ b,q b<m.next→b<m0.next):Rel W Φ (fun b=>ρ (q b)) m0 w:=by
 refine⟨h.base,h.Bn,fun b x hx=>?_,fun b b' x x' l l' h1 h2 h3 h4 h5=>?_,fun b l hb=>hq b (h.fresh _ _ hb),h.Cr⟩
 ·obtain⟨y,hy,hs⟩:=hg b x hx;obtain⟨l,o,g1,g2,g3,g4,g5⟩:=h.live _ y hy;exact⟨l,o,g1,g2,g3,g4,(g5.FY hs).CJ (q:=q) (fun _ _ hb=>hb)⟩
 ·obtain⟨y,hy,_⟩:=hg b x h1;obtain⟨y',hy',_⟩:=hg b' x' h2;exact hi b b' x x' h1 h2 (h.inj _ _ y y' l l' hy hy' h3 h4 h5)
theorem Bs.rel{n0 n:Nat}{l:List (Nat×Nat)}{e0 e:Env}{m0 m:Ad}(h:Bs n0 l e0 m0 e m){W:AA}{Φ:Ao}{ρ:AD}{vs:Array Value}{w:World}(hr:Rel W Φ ρ m.mem w)(ht:RL Φ ρ (Be n e) vs) :
 ∃ ρ',(∀ b,b<n0→ρ' b=ρ b)∧Rel W Φ ρ' m0.mem w∧RL Φ ρ' (Be n e0) vs:=by
 obtain⟨hn0,hn,he,hm,hi⟩:=h;refine⟨fun b=>ρ (Ce l n0 m0.next m.next b),fun b hb=>by simp only[Ce,iP hb],hr.CJ (fun b x hx=>hm.get b x hx) (fun b c x y hb hc=>hi.get b c x y hb hc) (fun b hb=>Z1a hb hn0),?_⟩
 refine⟨by rw[ht.1,F1,F1],fun i x v hx hv=>?_⟩
 have hin:i<n:=by
  have:=(gS.1 hx).1;rwa[F1]at this
 rw[C8 hin]at hx;injection hx with hx
 subst hx;rcases he.get i with h1|h1
 ·rw[h1]; exact .bot v
 ·have hR:=ht.2 i (e.get i) v (C8 hin) hv;rw[h1]at hR;exact hR.CJ (q:=Ce l n0 m0.next m.next) (fun _ _ hb=>hb) _ rfl
def Lr(n n0:Nat)(e0:Env)(m0:Ad)(e:Env)(m:Ad):Prop:=n0≤m0.next ∧ ∀(W:AA) (Φ:Ao) (ρ:AD) (vs:Array Value) (w:World),Rel W Φ ρ m.mem w→RL Φ ρ (Be n e) vs →
 ∃ Ar ρ',(∀ B c,Φ B=some c→Ar B=some c)∧(∀ b,b<n0→ρ' b=ρ b)∧Rel W Ar ρ' m0.mem w∧RL Ar ρ' (Be n e0) vs
theorem Bs.wk{n0 n:Nat}{l:List (Nat×Nat)}{e0 e:Env}{m0 m:Ad}(h:Bs n0 l e0 m0 e m):Lr n n0 e0 m0 e m:=
 ⟨h.1,fun W Φ ρ vs w hr ht=>let ⟨ρ',h1,h2,h3⟩:=h.rel hr ht; ⟨Φ,ρ',fun _ _ h=>h,h1,h2,h3⟩⟩
def Yj(P:Program)(g:FuncId)(args:List Aa)(v:Aa)(d:Option Ai)(id:Nat)(x:List Nat)(m:Mem):Prop:=
 match d with
 | none=>To P g args v id x m
 | some b=>Au P g args (m.less x) [id] fun r m'=>r=v∧m'=(m.less x).set id b
def Li(id:Nat):Option Ai→List Nat
 | none=>[]
 | some _=>[id]
def Lh(id:Nat):Option Ai→List (Nat×Option Ai)
 | none=>[]
 | some b=>[(id,some b)]
theorem Z4k{P:Program}{g:FuncId}{args:List Aa}{v:Aa}{d:Option Ai}(id:Nat)(x:List Nat)(hx:id∉x)(m:Mem)(h:Yj P g args v d id x m):MX P g args id x m v (m.apply (Lh id d)) (Li id d):=by
 cases d with
 | none=>exact qP id x hx m h
 | some b=>
  refine⟨(m.less x).set id b,hx,fun c hc=>?_,lR _,rfl,fun c=>?_,fun c hw _ hc=>?_,h⟩
  ·simp only[Mem.AH];rw[iN (fun e:c=id=>hx (e ▸ hc))]
   simp[Mem.less,hc]
  ·simp only[Lh,Mem.apply,Mem.AH];by_cases hc:c∈x
   ·rw[iP hc,iN (fun e:c=id=>hx (e ▸ hc))]
   ·rw[iN hc];by_cases hi:c=id
    ·rw[iP hi,iP hi]
    ·rw[iN hi,iN hi]; simp[Mem.less,hc]
  ·simp only[Mem.AH];rw[iN (fun e:c=id=>hw (by rw[e]; exact List.mem_singleton.2 rfl))]
   simp[Mem.less,hc]
def F6(P:Program)(n base:Nat):List Af→List FT→(Env→Ad→Prop)→Env→Ad→Prop
 | [],_,K,e,m=>K e m
 | o :: r,fs,K,e,m=>
  match Q7 n e o.guard with
  | some false=>F6 P n base r (fs++[.ops [] []]) K (W3 e o.dst Ag) m
  | some true=>
   match o.op with
   | .call f xs=>match T4 n e f xs with
    | some (g,args)=>∃ v d,Yj P g args v d (base+fs.length) (Ez base fs.length r.length) m.mem∧O6 fs (.call (Li (base+fs.length) d) (Ez base fs.length r.length) m.next) o.un ∧
     F6 P n base r (fs++[.call (Li (base+fs.length) d) (Ez base fs.length r.length) m.next]) K (W3 e o.dst v) (m.app (Lh (base+fs.length) d))
    | none=>False
   | op=>match Y6 (base+fs.length) (AG n e) m.get op with
    | some (v,d)=>O6 fs (.ops (T3 (base+fs.length) (AG n e) op) (T2 (AG n e) op)) o.un∧F6 P n base r (fs++[.ops (T3 (base+fs.length) (AG n e) op) (T2 (AG n e) op)]) K (W3 e o.dst v) (m.app d)
    | none=>False
  | none=>False
theorem Vj{P:Program}{n base:Nat}{K:Env→Ad→Prop}:∀ (ops:List Af) (fs:List FT) (e:Env) (m:Ad),F6 P n base ops fs K e m→R9 P base ops fs (fun σ=>∃ e m,σ=⟨Be n e,m.mem⟩∧K e m) (Be n e) m.mem
 | [],_,e,m,h=>⟨e,m,rfl,h⟩
 | o :: r,fs,e,m,h=>by
  simp only[F6]at h;simp only[R9,Rj];cases hw:Q7 n e o.guard with
  | none=>simp[hw]at h
  | some q=>
   cases q with
   | false=>
    simp only[hw]at h;simp only[J4];exact Vj r _ _ m h
   | true=>
    simp only[hw]at h;simp only;have other:∀ op,o.op=op→(match Y6 (base+fs.length) (AG n e) m.get op with|some (v,d)=>O6 fs (.ops (T3 (base+fs.length) (AG n e) op) (T2 (AG n e) op)) o.un∧F6 P n base r (fs++[.ops (T3 (base+fs.length) (AG n e) op) (T2 (AG n e) op)]) K (W3 e o.dst v) (m.app d)|none=>False) →
     (match Z5 (base+fs.length) (Be n e) m.mem op with|some (v,m')=>O6 fs (.ops (T8 (base+fs.length) (Be n e) op) (L4 (Be n e) op)) o.un∧R9 P base r (fs++[.ops (T8 (base+fs.length) (Be n e) op) (L4 (Be n e) op)]) (fun σ=>∃ e m,σ=⟨Be n e,m.mem⟩∧K e m) (put (Be n e) o.dst v) m'|none=>False):=by
     intro op _ hh;cases hs:Y6 (base+fs.length) (AG n e) m.get op with
     | none=>simp[hs]at hh
     | some vd=>
      obtain⟨v,d⟩:=vd;simp only[hs]at hh;have:=OF (m:=m.mem) (t:=Be n e) (id:=base+fs.length) (op:=op) (v:=v) (d:=d) (by rw[G5]; exact hs)
      rw[this];simp only[J4,WD,WE,G5];rw[← Ad.Bz];exact⟨hh.1,Vj r _ _ _ hh.2⟩
    cases hop:o.op with
    | call f xs=>
     simp only[hop]at h;simp only[Ts];cases hc:T4 n e f xs with
     | none=>simp[hc]at h
     | some ga=>
      obtain⟨g,args⟩:=ga;simp only[hc]at h;obtain⟨v,d,hp,hi,hk⟩:=h;simp only;refine⟨Li (base+fs.length) d,Ez base fs.length r.length,v,_,Z4k _ _ (pE _ _ _) _ hp,hi,?_⟩;simp only[J4];rw[← Ad.Bz];exact Vj r _ _ _ hk
    | _=>rw[hop]at h; exact other _ hop h
def Ei(P:Program)(n n0:Nat):An→(Exit→Env→Ad→Prop)→Env→Ad→Prop
 | .skip,Q,e,m=>Q .normal e m
 | .region false ops,Q,e,m=>K1 P n m.next ops 0 (Q .normal) e (m.at (m.next+ops.length))
 | .region true ops,Q,e,m=>F6 P n m.next ops [] (Q .normal) e (m.at (m.next+ops.length))
 | .seq a b,Q,e,m=>Ei P n n0 a (M8 (Ei P n n0 b Q) Q) e m
 | .cond c a b,Q,e,m=>match AG n e c with
  | .bool true=>Ei P n n0 a Q e m
  | .bool false=>Ei P n n0 b Q e m
  | _=>False
 | .block id c,Q,e,m=>Ei P n n0 c (G3 id Q) e m
 | .loop c,Q,e,m=>∃ (I:Nat→Env→Ad→Prop),(∃ k e0 m0,Lr n n0 e0 m0 e m∧I k e0 m0) ∧ ∀ k e1 m1,I k e1 m1→Ei P n n0 c (M8 (fun e' m'=>∃ j e0 m0,j<k∧Lr n n0 e0 m0 e' m'∧I j e0 m0) Q) e1 m1
 | .exit id,Q,e,m=>Q (.exit id) e m
 | .scope c,Q,e,m=>Ei P n n0 c Q e m
 | .label _,Q,e,m=>Q .normal e m
 | .ret,Q,e,m=>Q .ret e m
 | .bad,_,_,_=>False
def OC(W:AA)(Φ:Ao)(ρ:AD)(n n0:Nat)(Q:Exit→Env→Ad→Prop)(x:Exit)(a:Act)(w:World):Prop:=
 ∃ e m Ar ρ',(∀ B c,Φ B=some c→Ar B=some c)∧(∀ b,b<n0→ρ' b=ρ b)∧n0≤m.next∧Rel W Ar ρ' m.mem w∧RL Ar ρ' (Be n e) a.tmps∧a.defers=[]∧(∀ l,x≠.goto l)∧Q x e m
theorem RI{W:AA}{Φ Ar:Ao}{ρ ρ':AD}{n n0:Nat}{Q Q':Exit→Env→Ad→Prop}{x:Exit}{a:Act}{w:World}(hp:∀ B c,Φ B=some c→Ar B=some c)(hk:∀ b,b<n0→ρ' b=ρ b)
 (h:OC W Ar ρ' n n0 Q x a w) (hq:∀ e m,Q x e m→Q' x e m):OC W Φ ρ n n0 Q' x a w:=by
 obtain⟨e,m,Φ2,ρ2,h1,h2,h3,h4,h5,h6,h7,h8⟩:=h;exact⟨e,m,Φ2,ρ2,fun B c hB=>h1 B c (hp B c hB),fun b hb=>(h2 b hb).trans (hk b hb),h3,h4,h5,h6,h7,hq _ _ h8⟩
section
variable {P:Program} {n n0:Nat}
def Gn(P:Program)(n n0:Nat)(c:Code)(Q:Exit→Env→Ad→Prop)(e:Env)(m:Ad):Prop:=
 ∀(W:AA) (Φ:Ao) (ρ:AD) (a:Act) (w:World),n0≤m.next→Rel W Φ ρ m.mem w→RL Φ ρ (Be n e) a.tmps→a.defers=[]→c.wp P (OC W Φ ρ n n0 Q) a w
theorem sF(hm:P.follows .mixedOrders=true){id:Nat}{ops:Array Oper}{draw:Bool}{Q:Exit→Env→Ad→Prop}{e:Env}{m:Ad}(h1:BU P (Y4 P (.region id ops draw)) (F8 n Q) ⟨Be n e,m.mem⟩):Gn P n n0 (.region id ops draw) Q e m:=by
 intro W Φ ρ a w hn hr ht hd;have h2:DI P (.region id ops draw) (F8 n Q) ⟨Be n e,m.mem⟩:=by
  cases draw with
  | false=>exact vH h1
  | true=>exact bM hm h1
 refine wp_mono (h2 W Φ ρ a w hr ht hd) fun x a' w' hl=>?_
 obtain⟨σ,Ar,ρ',g1,g2,g3,g4,g5,g6,g7⟩:=hl;have hfix:∀ b,b<n0→ρ' b=ρ b:=fun b hb=>by
  cases hq:ρ b with
  | none=>exact g2 b (Nat.lt_of_lt_of_le hb hn) hq
  | some l=>exact g1.Gl b l hq
 have CY:m.next≤σ.m.next:=g3;cases x<;>simp only[F8]at g7<;>first
  | exact g7.elim
  | (obtain ⟨e',m',rfl,hq⟩:=g7
     exact⟨e',m',Ar,ρ',g1.Bn,hfix,Nat.le_trans hn CY,g4,g5,g6,fun l hl=>(by cases hl),hq⟩)
theorem oC(hm:P.follows .mixedOrders=true):∀ (c:Code) (Q:Exit→Env→Ad→Prop) (e:Env) (m:Ad),Ei P n n0 (Y4 P c) Q e m→Gn P n n0 c Q e m:=by
 intro c
 induction c with
 | skip=>exact fun Q e m h W Φ ρ a w hn hr ht hd=>wp_skip ⟨e,m,Φ,ρ,fun _ _ h=>h,fun _ _=>rfl,hn,hr,ht,hd,fun l hl=>(by cases hl),h⟩
 | region id ops draw=>
  intro Q e m h;refine sF hm ?_;have hw:∀ A:An,(∀ d os,A=.region d os∨A=.bad∨True)→(match A with | .region _ _=>True | .bad=>True|_=>False)→Ei P n n0 A Q e m→BU P A (F8 n Q) ⟨Be n e,m.mem⟩:=by
   intro A _ hA h;cases A with
   | region d os=>
    cases d with
    | false=>exact Tp os 0 e _ h
    | true=>exact Vj os [] e _ h
   | bad=>exact h.elim
   | _=>exact hA.elim
  refine hw _ (fun _ _=>.inr (.inr trivial)) ?_ h
  cases draw with
  | false=>
   simp only[Y4];cases F2 P ops ops.toList<;>trivial
  | true=>
   simp only[Y4];cases F2 P ops ops.toList with
   | none=>trivial
   | some asz=>
    simp only;cases SN ops asz (Hv ops.toList)<;>trivial
 | seq x y ihx ihy=>
  intro Q e m h W Φ ρ a w hn hr ht hd;simp only[Y4,Ei]at h;refine wp_seq (wp_mono (ihx _ _ _ h W Φ ρ a w hn hr ht hd) ?_);intro x' a' w' hl;have key:∀ e',x'=e'→e'≠.normal→OC W Φ ρ n n0 Q x' a' w':=by
   intro e' he hne;refine RI (fun _ _ h=>h) (fun _ _=>rfl) hl fun e m hq=>?_
   subst he;cases x'<;>first|exact absurd rfl hne|exact hq
  cases x' with
  | normal=>
   obtain⟨e',m',Ar,ρ',h1,h2,h3,h4,h5,h6,h7,h8⟩:=hl;exact wp_mono (ihy _ _ _ h8 W Ar ρ' a' w' h3 h4 h5 h6) fun x a w hl'=>RI h1 h2 hl' fun _ _ h=>h
  | exit i=>exact key _ rfl (by simp)
  | goto l=>exact key _ rfl (by simp)
  | ret=>exact key _ rfl (by simp)
  | panic ch=>exact key _ rfl (by simp)
  | outgrown=>exact key _ rfl (by simp)
 | cond c x y ihx ihy=>
  intro Q e m h W Φ ρ a w hn hr ht hd;simp only[Y4]at h;cases hc:X3 c with
  | none=>simp[hc,Ei]at h
  | some c'=>
   simp only[hc,Ei]at h;have hv:=R4 ht hc;rw[G5]at hv;generalize AG n e c'=z at h hv;split at h
   ·generalize hz:a.eval c=v at hv;cases hv;exact wp_cond_true hz (ihx _ _ _ h W Φ ρ a w hn hr ht hd)
   ·generalize hz:a.eval c=v at hv;cases hv;exact wp_cond_false hz (ihy _ _ _ h W Φ ρ a w hn hr ht hd)
   ·exact h.elim
 | block id c ih=>
  intro Q e m h W Φ ρ a w hn hr ht hd;simp only[Y4,Ei]at h;refine wp_block (wp_mono (ih _ _ _ h W Φ ρ a w hn hr ht hd) ?_);intro x a' w' hl;cases x with
  | exit i=>
   simp only[Exit.inBlock];obtain⟨e',m',Ar,ρ',h1,h2,h3,h4,h5,h6,h7,h8⟩:=hl;simp only[G3]at h8;split
   ·rename_i hi;rw[iP hi]at h8;exact⟨e',m',Ar,ρ',h1,h2,h3,h4,h5,h6,fun l hl=>(by cases hl),h8⟩
   ·rename_i hi;rw[iN hi]at h8;exact⟨e',m',Ar,ρ',h1,h2,h3,h4,h5,h6,fun l hl=>(by cases hl),h8⟩
  | normal=>exact hl
  | goto l=>exact hl
  | ret=>exact hl
  | panic ch=>exact hl
  | outgrown=>exact hl
 | loop c ih=>
  intro Q e m h W Φ ρ a w hn hr ht hd;simp only[Y4,Ei]at h;obtain⟨I,⟨k0,e0,m0,hs0,h0⟩,Dm⟩:=h;obtain⟨Φ1,ρ1,hp1,hk1,hr1,ht1⟩:=hs0.2 W Φ ρ _ w hr ht;refine wp_loop_ghost (fun k a' w'=>∃ e' m' Ar ρ',(∀ B c,Φ B=some c→Ar B=some c)∧(∀ b,b<n0→ρ' b=ρ b)∧n0≤m'.next∧Rel W Ar ρ' m'.mem w'∧RL Ar ρ' (Be n e') a'.tmps∧a'.defers=[]∧I k e' m') k0
   ⟨e0,m0,Φ1,ρ1,hp1,hk1,hs0.1,hr1,ht1,hd,h0⟩ ?_
  rintro k a' w' ⟨e',m',Ar,ρ',h1,h2,h3,h4,h5,h6,h7⟩;refine wp_mono (ih _ _ _ (Dm k e' m' h7) W Ar ρ' a' w' h3 h4 h5 h6) ?_;intro x a'' w'' hl;have key:∀ e',x=e'→e'≠.normal→OC W Φ ρ n n0 Q x a'' w'':=by
   intro e' he hne;refine RI h1 h2 hl fun e m hq=>?_
   subst he;cases x<;>first|exact absurd rfl hne|exact hq
  cases x with
  | normal=>
   obtain⟨e2,m2,Φ2,ρ2,g1,g2,g3,g4,g5,g6,_,j,e3,m3,g7,g8,g9⟩:=hl;obtain⟨Φ3,ρ3,hp3,hk3,hr3,ht3⟩:=g8.2 W Φ2 ρ2 _ _ g4 g5;exact⟨j,g7,e3,m3,Φ3,ρ3,fun B c hB=>hp3 B c (g1 B c (h1 B c hB)),fun b hb=>(hk3 b hb).trans ((g2 b hb).trans (h2 b hb)),g8.1,hr3,ht3,g6,g9⟩
  | exit i=>exact key _ rfl (by simp)
  | goto l=>exact key _ rfl (by simp)
  | ret=>exact key _ rfl (by simp)
  | panic ch=>exact key _ rfl (by simp)
  | outgrown=>exact key _ rfl (by simp)
 | exit id=>exact fun Q e m h W Φ ρ a w hn hr ht hd=>wp_exit ⟨e,m,Φ,ρ,fun _ _ h=>h,fun _ _=>rfl,hn,hr,ht,hd,fun l hl=>(by cases hl),h⟩
 | scope c ih=>
  intro Q e m h W Φ ρ a w hn hr ht hd;simp only[Y4,Ei]at h;refine wp_scope_straight (wp_mono (ih _ _ _ h W Φ ρ a w hn hr ht hd) ?_);intro x a' w' hl;cases x with
  | goto l=>
   obtain⟨_,_,_,_,_,_,_,_,_,_,h7,_⟩:=hl;exact absurd rfl (h7 l)
  | normal=>exact hl
  | exit i=>exact hl
  | ret=>exact hl
  | panic ch=>exact hl
  | outgrown=>exact hl
 | label l=>exact fun Q e m h W Φ ρ a w hn hr ht hd=>wp_label ⟨e,m,Φ,ρ,fun _ _ h=>h,fun _ _=>rfl,hn,hr,ht,hd,fun l hl=>(by cases hl),h⟩
 | ret=>exact fun Q e m h W Φ ρ a w hn hr ht hd=>wp_ret ⟨e,m,Φ,ρ,fun _ _ h=>h,fun _ _=>rfl,hn,hr,ht,hd,fun l hl=>(by cases hl),h⟩
 | rangeFunc f ps x y _ _=>exact fun Q e m h=>by simp[Y4,Ei]at h
 | goto l=>exact fun Q e m h=>by simp[Y4,Ei]at h
 | refuse s=>exact fun Q e m h=>by simp[Y4,Ei]at h
def Q1(n:Nat)(e:Env)(m:Ad):List (Nat×Option (Option Nat))→Option (List Aa)
 | []=>some []
 | (i,none) :: r=>match Q1 n e m r with
  | some l=>some (AG n e (.tmp i) :: l)
  | none=>none
 | (i,some k) :: r=>match J3 m.get k (AG n e (.tmp i))with
  | some v=>(match Q1 n e m r with
   | some l=>some (v :: l)
   | none=>none)
  | none=>none
def E7(K:Aa→Ad→Prop)(m:Ad):Option (List Aa)→Prop
 | some [x]=>K x m
 | some l=>K (.tuple l) m
 | none=>False
def G4(n:Nat)(rs:List (Nat×Option (Option Nat)))(K:Aa→Ad→Prop):Exit→Env→Ad→Prop
 | .normal,e,m=>E7 K m (Q1 n e m rs)
 | .ret,e,m=>E7 K m (Q1 n e m rs)
 | _,_,_=>False
theorem zS{e:Env}{m:Ad}{x:Nat×Option (Option Nat)}{v:Aa}{r:List (Nat×Option (Option Nat))}{l:List Aa}(h:Q1 n e m (x :: r)=some (v :: l)):D5 (Be n e) m.mem x=some v∧Q1 n e m r=some l:=by
 obtain⟨i,o⟩:=x;have hev:(Be n e).getD i Ag=AG n e (.tmp i):=congrFun (G5 n e) (.tmp i);cases o with
 | none=>
  simp only[Q1]at h;cases hr:Q1 n e m r with
  | none=>simp[hr]at h
  | some l'=>
   simp only[hr,oI,List.cons.injEq]at h;obtain⟨rfl,rfl⟩:=h;exact⟨by simp only[D5,hev],rfl⟩
 | some k=>
  simp only[Q1]at h;cases hl:J3 m.get k (AG n e (.tmp i))with
  | none=>simp[hl]at h
  | some w=>
   cases hr:Q1 n e m r with
   | none=>simp[hl,hr]at h
   | some l'=>
    simp only[hl,hr,oI,List.cons.injEq]at h;obtain⟨rfl,rfl⟩:=h;refine⟨?_,rfl⟩;simp only[D5,hev,Zh];exact hl
theorem Yo{e:Env}{m:Ad}:∀ {rs:List (Nat×Option (Option Nat))} {l:List Aa},Q1 n e m rs=some l→(rs=[]∧l=[]) ∨ ∃ x r v t,rs=x :: r∧l=v :: t
 | [],l,h=>by simp only[Q1,oI]at h; exact .inl ⟨rfl,h.symm⟩
 | (i,none) :: r,l,h=>by
  simp only[Q1]at h;cases hr:Q1 n e m r with
  | none=>simp[hr]at h
  | some l'=>simp only[hr,oI]at h; exact .inr ⟨_,_,_,_,rfl,h.symm⟩
 | (i,some k) :: r,l,h=>by
  simp only[Q1]at h;cases hl:J3 m.get k (AG n e (.tmp i))with
  | none=>simp[hl]at h
  | some w=>
   cases hr:Q1 n e m r with
   | none=>simp[hl,hr]at h
   | some l'=>simp only[hl,hr,oI]at h; exact .inr ⟨_,_,_,_,rfl,h.symm⟩
theorem xF{e:Env}{m:Ad}:∀ {rs:List (Nat×Option (Option Nat))} {l:List Aa},Q1 n e m rs=some l→F5 (Be n e) m.mem rs=some l
 | [],l,h=>h
 | x :: r,l,h=>by
  rcases Yo h with⟨h1,_⟩|⟨y,r',v,t,h1,rfl⟩
  ·cases h1
  ·cases h1;obtain⟨h2,h3⟩:=zS h;simp only[F5,h2,xF h3]
theorem nB{e:Env}{m:Ad}{rs:List (Nat×Option (Option Nat))}{K:Aa→Ad→Prop}(h:E7 K m (Q1 n e m rs)):∃ v,N5 (Be n e) m.mem rs=some v∧K v m:=by
 cases hy:Q1 n e m rs with
 | none=>rw[hy]at h; exact h.elim
 | some l=>
  rw[hy]at h;have h1:=xF hy;rcases Yo hy with⟨rfl,rfl⟩|⟨x,r,v,t,rfl,rfl⟩
  ·exact⟨_,rfl,h⟩
  ·obtain⟨h2,h3⟩:=zS hy;rcases Yo h3 with⟨rfl,rfl⟩|⟨x',r',v',t',rfl,rfl⟩
   ·exact⟨v,by simp only[N5,h2],h⟩
   ·exact⟨.tuple (v :: v' :: t'),by simp only[N5,h1],h⟩
def AV(P:Program)(f:FuncId)(args:List Aa)(m:Ad)(K:Aa→Ad→Prop):Prop:=Au P f args m.mem [] fun r m'=>∃ sm:Ad,m'=sm.mem∧K r sm
def L8(n0:Nat)(K:Aa→Ad→Prop)(v:Aa)(m:Ad):Prop:=∃ v0 m0 l,Bs n0 l [(0,v0)] m0 [(0,v)] m∧K v0 m0
theorem Z9z(hm:P.follows .mixedOrders=true){f:FuncId}{fn:Func}{af:As}{args:List Aa}{m:Ad}{K:Aa→Ad→Prop}(hf:P.funcs[f]? = some fn)(hc:AS P fn=some af)(hl:Nat.ble args.length af.ntmps=true)
 (h:Ei P af.ntmps m.next af.body (G4 af.ntmps af.results (L8 m.next K)) (Q9 0 args []) m):AV P f args m K:=by
 obtain⟨c,hb,hbody,CB,hnt,hname⟩:=SU hc;have hl':args.length≤af.ntmps:=Nat.le_of_ble_eq_true hl;rw[hbody]at h;refine⟨⟨fn,hf,hname,by rw[hb]; rfl⟩,fun W Φ ρ vs w hr ha CN=>?_⟩
 have ht0:=Zk (k:=fn.ntmps) ha;have ht1:RL Φ ρ (Be af.ntmps (Q9 0 args [])) (vs++Array.replicate (fn.ntmps - vs.size) undef):=by
  refine ht0.sub (by rw[F1]; simp; omega) fun i x hx=>?_
  have hi:i<af.ntmps:=by
   have:=(gS.1 hx).1;rwa[F1]at this
  rw[C8 hi,Vz]at hx;injection hx with hx
  by_cases h2:0≤i∧i<0+args.length
  ·rw[iP h2]at hx;rw[List.getElem?_append,iP (by omega)]
   refine .inr ?_;rw[← hx,Nat.sub_zero,List.getD,gE (by omega)]
   rfl
  ·rw[iN h2]at hx;exact .inl hx.symm
 have hs:=oC (n0:=m.next) hm c _ _ _ h W Φ ρ { tmps:=vs++Array.replicate (fn.ntmps - vs.size) undef,defers:=[] } w (lR _) hr ht1 rfl;refine calls_of_wp hf hb (wp_mono hs fun x a w' hl=>?_)
 obtain⟨e,m',Ar,ρ',h1,h2,h3,h4,h5,h6,h7,h8⟩:=hl;have fin:E7 (L8 m.next K) m' (Q1 af.ntmps e m' af.results)→a.defers=[] ∧ ∃ v,(results fn a.tmps).run P w'=.ok v w' ∧
  ∃ v' r m' Ar ρ',Ending.returned v=.returned v'∧Ext Φ ρ Ar ρ'∧(∀ b,b<m.mem.next→b∉([]:List Nat)→ρ b=none→ρ' b=none)∧Rel W Ar ρ' m' w'∧R Ar ρ' r v'∧m.mem.next≤m'.next ∧ ∃ sm:Ad,m'=sm.mem∧K r sm:=by
  intro hh;obtain⟨v,g1,v0,m0,l,g2,g3⟩:=nB hh;obtain⟨u,k1,k2⟩:=Tn h4 h5 CB g1;obtain⟨ρ2,j1,j2,j3⟩:=g2.rel (n:=1) (vs:=#[u]) h4 ⟨rfl,fun i x y hx hy=>by
   cases i with
   | zero=>
    rw[C8 (by omega)]at hx
    simp only[Env.get,if_true,oI]at hx;have:u=y:=by simpa using hy
    subst hx; subst this; exact k2
   | succ i=>simp at hy⟩
  have k3:R Ar ρ2 v0 u:=j3.2 0 v0 u (by rw[C8 (by omega)]; rfl) rfl
  have hfix:∀ b,b<m.next→ρ2 b=ρ b:=fun b hb=>(j1 b hb).trans (h2 b hb)
  refine⟨h6,u,k1,u,v0,m0.mem,Ar,ρ2,rfl,⟨h1,fun b l hb=>?_⟩,fun b hb _ h0=>(hfix b hb).trans h0,j2,k3,g2.1,m0,rfl,g3⟩
  exact(hfix b (hr.fresh b l hb)).trans hb
 cases x with
 | normal=>exact fin h8
 | ret=>exact fin h8
 | exit i=>exact h8.elim
 | goto l=>exact h8.elim
 | panic ch=>exact h8.elim
 | outgrown=>exact h8.elim
end
end Go.AE
end
section
namespace Go.AE
open Go.RowKit
variable {P:Program}
theorem nK{f:FuncId}{Cu:List Aa}{m0:Mem}{K0:Aa→Mem→Prop}(h:Au P f Cu m0 [] K0){m:Mem}{q:Nat→Nat}{K:Aa→Mem→Prop}
 (Em:∀ c x,m0.get c=some x → ∃ y,m.get (q c)=some y∧(y=x.AI q∨EA (x.AI q) y))
 (hinj:∀ c c' x x',m0.get c=some x→m0.get c'=some x'→q c=q c'→c=c')
 (hq:∀ c,m0.next≤c→q c=c - m0.next+m.next)
 (hK:∀ r0 m1,K0 r0 m1 → ∃ m':Mem,m'.next=m1.next - m0.next+m.next ∧
   (∀ b x,m'.get b=some x→(∃ c y,m1.get c=some y∧b=q c∧x=y.AI q)∨(m.get b=some x ∧ ∀ c y,m0.get c=some y→q c≠b))∧K (r0.AI q) m')
 (av:List Nat):Au P f (Q5 q Cu) m av K:=by
 refine⟨h.1,fun W Φ ρ vs w hr ha CN=>?_⟩
 have hqlt:∀ b,q b<m.next→b<m0.next:=fun b hb=>by
  grind
 have hfr:∀ B,(∃ c l y,m.get c=some y∧(∀ d z,m0.get d=some z→q d≠c)∧ρ c=some l∧l.blk=B) ∨ ¬(∃ c l y,m.get c=some y∧(∀ d z,m0.get d=some z→q d≠c)∧ρ c=some l∧l.blk=B):=fun B=>Classical.em _
 obtain⟨g,hg⟩:∃ g:Nat→Option Obj,∀ B,((∃ c l y,m.get c=some y∧(∀ d z,m0.get d=some z→q d≠c)∧ρ c=some l∧l.blk=B)→g B=w.heap[B]?) ∧
  (¬(∃ c l y,m.get c=some y∧(∀ d z,m0.get d=some z→q d≠c)∧ρ c=some l∧l.blk=B)→g B=W.g B):=by
  refine⟨fun B=>@ite _ (∃ c l y,m.get c=some y∧(∀ d z,m0.get d=some z→q d≠c)∧ρ c=some l∧l.blk=B) (Classical.propDecidable _) (w.heap[B]?) (W.g B),fun B=>⟨fun h=>?_,fun h=>?_⟩⟩
  ·simp only[h,if_true]
  grind
 let W':AA:=⟨W.w,g,Φ,W.t⟩
 have hfree2:∀ B,W'.CR B→W.CR B:=by
  intro B hB;refine⟨hB.1,?_⟩;rcases hfr B with h1|h1
  ·obtain⟨c,l,y,hy,_,hl,hlB⟩:=h1;obtain⟨l',o,g1,g2,_⟩:=hr.live c y hy;rw[hl]at g1; injection g1 with g1; subst g1
   rw[← hlB]; exact g2.2
  ·have h2:g B=none:=hB.2
   grind
 have hprot:∀ B o,g B=some o→w.heap[B]? = some o:=by
  intro B o hB;rcases hfr B with h1|h1
  ·grind
  ·rw[(hg B).2 h1]at hB; exact hr.base.DB B o hB
 have hr0:Rel W Φ (fun b=>ρ (q b)) m0 w:=hr.CJ Em hinj hqlt
 have hr1:Rel W' Φ (fun b=>ρ (q b)) m0 w:=by
  refine⟨⟨hr.base.below,hprot⟩,hr.Bn,fun b x hx=>?_,hr0.inj,hr0.fresh,fun B c hB=>.inl hB⟩
  obtain⟨l,o,g1,g2,g3,g4,g5⟩:=hr0.live b x hx;refine⟨l,o,g1,⟨g2.1,?_⟩,g3,g4,g5⟩;rcases hfr l.blk with h1|h1
  ·obtain⟨c,l',y',hy',hc,hl,hlB⟩:=h1;obtain⟨y,hy,_⟩:=Em b x hx;exact absurd (hr.inj _ _ y y' l l' hy hy' g1 hl hlB.symm) (hc b x hx)
  ·show g l.blk=none;rw[(hg _).2 h1]; exact g2.2
 have ha0:RL Φ (fun b=>ρ (q b)) Cu vs:=by
  refine⟨by rw[ha.1,C2],fun i x v hx hv=>?_⟩
  exact(ha.2 i (x.AI q) v (AL.2 ⟨x,hx,rfl⟩) hv).CJ (q:=q) (fun _ _ hb=>hb) x rfl
 refine(h.2 W' Φ (fun b=>ρ (q b)) vs w hr1 ha0 (fun b hb=>by simp at hb)).mono fun e w' he=>?_
 obtain⟨u,r,m1,Ar,ρ1,e1,hE,hk,hr',hR,hn',hK0⟩:=he;obtain⟨m',hm'n,hm'g,hK'⟩:=hK r m1 hK0;obtain⟨ρ',hρ'⟩:∃ ρ':AD,∀ b,ρ' b=if b<m.next then ρ b else ρ1 (b - m.next+m0.next):=⟨_,fun _=>rfl⟩
 have hp:∀ b l,ρ1 b=some l→ρ' (q b)=some l:=by
  intro b l hb;rw[hρ'];rcases lG b m0.next with h1|h1
  ·cases hz:ρ (q b)with
   | none=>grind
   | some l'=>
    have h2:=hE.Gl b l' hz;rw[hb]at h2; injection h2 with h2; subst h2
    rw[iP (hr.fresh _ _ hz)]
  ·rw[hq b h1,iN (by omega)]
   have:b - m0.next+m.next - m.next+m0.next=b:=by omega
   rw[this]; exact hb
 have hfix:∀ b,b<m.next→ρ' b=ρ b:=fun b hb=>by grind
 have hframed:∀ c y,m.get c=some y→(∀ d z,m0.get d=some z→q d≠c) → ∃ l o,ρ' c=some l∧ρ c=some l∧W.CR l.blk∧g l.blk=some o∧Ar l.blk=none∧w'.heap[l.blk]? = some o∧BR Ar ρ' y l o:=by
  intro c y hy hc;obtain⟨l,o,g1,g2,g3,g4,g5⟩:=hr.live c y hy;have hgl:g l.blk=some o:=by rw[(hg _).1 ⟨c,l,y,hy,hc,g1,rfl⟩]; exact g4
  refine⟨l,o,(hfix c (hr.fresh _ _ g1)).trans g1,g1,g2,hgl,?_,hr'.base.DB _ _ hgl,g5.ext ⟨hE.Bn,fun b l hb=>(hfix b (hr.fresh _ _ hb)).trans hb⟩⟩
  cases hpz:Ar l.blk with
  | none=>rfl
  | some cc=>
   rcases hr'.Cr _ _ hpz with h1|h1
   ·grind
   ·have:g l.blk=none:=h1.2
    grind
 have hseen:∀ c y,m1.get c=some y → ∃ l o,ρ' (q c)=some l∧ρ1 c=some l∧W'.CR l.blk∧Ar l.blk=none∧w'.heap[l.blk]? = some o∧BR Ar ρ' (y.AI q) l o:=by
  intro c y hy;obtain⟨l,o,g1,g2,g3,g4,g5⟩:=hr'.live c y hy;exact⟨l,o,hp _ _ g1,g1,g2,g3,g4,g5.AI hp⟩
 refine⟨u,r.AI q,m',Ar,ρ',e1,⟨hE.Bn,fun b l hb=>(hfix b (hr.fresh _ _ hb)).trans hb⟩,fun b hb _ h0=>(hfix b hb).trans h0,?_,hR.AI hp,by rw[hm'n]; omega,hK'⟩
 refine⟨⟨hr'.base.below,fun B o hB=>hr'.base.DB B o ?_⟩,hr'.Bn,fun b y hy=>?_,fun b b' y y' l l' h1 h2 k1 k2 he=>?_,fun b l hb=>?_,fun B c hB=>?_⟩
 ·rcases hfr B with h1|h1
  ·show g B=some o;rw[(hg B).1 h1]; exact hr.base.DB B o hB
  ·show g B=some o;rw[(hg B).2 h1]; exact hB
 ·rcases hm'g b y hy with⟨c,z,hz,rfl,rfl⟩|⟨hb,hc⟩
  ·obtain⟨l,o,q1,_,q3,q5,q6,q7⟩:=hseen c z hz;exact⟨l,o,q1,hfree2 _ q3,q5,q6,q7⟩
  ·obtain⟨l,o,q1,_,q3,_,q5,q6,q7⟩:=hframed b y hb hc;exact⟨l,o,q1,q3,q5,q6,q7⟩
 ·rcases hm'g b y h1 with⟨c,z,hz,rfl,rfl⟩|⟨hb,hc⟩
  ·obtain⟨l1,o1,q1,q2,q3,_,_,_⟩:=hseen c z hz;rw[k1]at q1; injection q1 with q1; subst q1
   rcases hm'g b' y' h2 with⟨c',z',hz',rfl,rfl⟩|⟨hb',hc'⟩
   ·obtain⟨l2,o2,p1,p2,_,_,_,_⟩:=hseen c' z' hz';rw[k2]at p1; injection p1 with p1; subst p1
    rw[hr'.inj c c' z z' l l' hz hz' q2 p2 he]
   ·obtain⟨l2,o2,p1,_,_,p4,_⟩:=hframed b' y' hb' hc';rw[k2]at p1; injection p1 with p1; subst p1
    have:g l.blk=none:=q3.2
    grind
  ·obtain⟨l1,o1,q1,q2,_,q4,_⟩:=hframed b y hb hc;rw[k1]at q1; injection q1 with q1; subst q1
   rcases hm'g b' y' h2 with⟨c',z',hz',rfl,rfl⟩|⟨hb',hc'⟩
   ·obtain⟨l2,o2,p1,p2,p3,_,_,_⟩:=hseen c' z' hz';rw[k2]at p1; injection p1 with p1; subst p1
    have:g l'.blk=none:=p3.2
    grind
   ·obtain⟨l2,o2,p1,p2,_,p4,_⟩:=hframed b' y' hb' hc';rw[k2]at p1; injection p1 with p1; subst p1
    exact hr.inj b b' y y' l l' hb hb' q2 p2 he
 ·rw[hρ']at hb;rw[hm'n];split at hb
  ·rename_i h1; omega
  ·have:=hr'.fresh _ _ hb;omega
 ·rcases hr'.Cr B c hB with h1|h1
  ·exact hr.Cr B c h1
  ·exact .inr (hfree2 B h1)
def U8(b:Nat):List Nat→Bool
 | []=>false
 | c :: r=>if b=c then true else U8 b r
def M7(q:Nat→Nat):List (Nat×Ai)→List Nat
 | []=>[]
 | (b,_) :: r=>q b :: M7 q r
def K5(q:Nat→Nat):List (Nat×Ai)→List (Nat×Ai)→List (Nat×Ai)
 | [],t=>t
 | (b,x) :: r,t=>(q b,x.AI q) :: K5 q r t
def R0(ks:List Nat):List (Nat×Ai)→List (Nat×Ai)
 | []=>[]
 | (b,x) :: r=>bif U8 b ks then R0 ks r else (b,x) :: R0 ks r
theorem BF{b:Nat}:∀ {l:List Nat},U8 b l=true↔b∈l
 | []=>by simp[U8]
 | c :: r=>by
  simp only[U8,mC];by_cases h:b=c
  ·simp[h]
  ·simp[h,BF (l:=r)]
theorem aW{q:Nat→Nat}{l:List (Nat×Ai)}{c:Nat}{x:Ai}(h:X2 l c=some x):q c∈M7 q l:=by
 induction l with
 | nil=>simp[X2]at h
 | cons a r ih=>
  obtain⟨d,y⟩:=a;simp only[X2]at h;split at h
  ·rename_i e; subst e; exact List.mem_cons_self ..
  ·exact List.mem_cons_of_mem _ (ih h)
theorem MI{ks:List Nat}{b:Nat}{x:Ai}:∀ {l:List (Nat×Ai)},X2 (R0 ks l) b=some x→X2 l b=some x∧b∉ks
 | [],h=>by simp[R0,X2]at h
 | (c,y) :: r,h=>by
  simp only[R0]at h;cases hm:U8 c ks with
  | true=>
   rw[hm]at h;simp only[cond_true]at h;have:=MI h;refine⟨?_,this.2⟩;simp only[X2];rw[iN (fun e:b=c=>this.2 (by rw[e]; exact BF.1 hm))]
   exact this.1
  | false=>
   rw[hm]at h;simp only[cond_false,X2]at h ⊢;split at h
   ·rename_i e;refine⟨by grind,fun hin=>?_⟩
    subst e;rw[BF.2 hin]at hm; cases hm
   ·rename_i e;have:=MI h
    grind
theorem Xe{q:Nat→Nat}{b:Nat}{x:Ai}{t:List (Nat×Ai)}:∀ {l:List (Nat×Ai)},X2 (K5 q l t) b=some x→(∃ c y,X2 l c=some y∧b=q c∧x=y.AI q)∨X2 t b=some x
 | [],h=>.inr h
 | (c,y) :: r,h=>by
  simp only[K5,X2]at h;split at h
  ·rename_i e;injection h with h
   exact .inl ⟨c,y,by simp[X2],e,h.symm⟩
  ·rename_i e;rcases Xe h with⟨d,z,h1,h2,h3⟩|h1
   ·refine .inl ⟨d,z,?_,h2,h3⟩;simp only[X2]
    grind
   ·exact .inr h1
theorem Z6{g:FuncId}{Cu args:List Aa}{m0 m:Ad}{K0 K:Aa→Ad→Prop}{id:Nat}(h:AV P g Cu m0 K0)(l:List (Nat×Nat))(ha:Q5 (Ce l 0 m0.next m.next) Cu=args)
 (hs:Bv (Ce l 0 m0.next m.next) m0.bl m) (hi:Cm (Ce l 0 m0.next m.next) m0.bl)
 (hK:∀ r0 sm,K0 r0 sm→K (r0.AI (Ce l 0 m0.next m.next)) ⟨K5 (Ce l 0 m0.next m.next) sm.bl (R0 (M7 (Ce l 0 m0.next m.next) m0.bl) m.bl),sm.next - m0.next+m.next⟩) :
 SC P g args m id K:=by
 subst ha;refine nK h (m:=m.mem) (fun c x hx=>hs.get c x hx) (fun c c' x x' hx hx'=>hi.get c c' x x' hx hx') (fun c hc=>?_) (fun r0 m1 hh=>?_) [id]
 ·have hc':m0.next≤c:=hc;simp only[Ce,Nat.not_lt_zero,if_false];rw[iN (by omega)]
  rfl
 ·obtain⟨sm,rfl,hk⟩:=hh;refine⟨_,rfl,fun b x hx=>?_,⟨⟨K5 (Ce l 0 m0.next m.next) sm.bl (R0 (M7 (Ce l 0 m0.next m.next) m0.bl) m.bl),sm.next - m0.next+m.next⟩,rfl,hK r0 sm hk⟩⟩
  rcases Xe hx with⟨c,y,h1,h2,h3⟩|h1
  ·exact .inl ⟨c,y,h1,h2,h3⟩
  ·have:=MI h1;exact .inr ⟨this.1,fun c y hc e=>this.2 (e ▸ aW hc)⟩
theorem xI{g:FuncId}{args:List Aa}{v:Aa}(hca:X8 args=true)(Pj:v.closed=true){k:Nat}(h:AV P g args ⟨[],1⟩ fun r m'=>X9 m'.get k r=some v):Al P g args v:=by
 intro m av;have h':Au P g args (Ad.mem ⟨[],1⟩) [0] fun r m'=>∃ sm:Ad,m'=sm.mem∧X9 sm.get k r=some v:=by
  refine⟨h.1,fun W Φ ρ vs w hr ha _=>(h.2 W Φ ρ vs w hr ha (fun b hb=>by simp at hb)).mono fun e w' he=>?_⟩
  grind
 exact Wg hca Pj (fun c=>rfl) (Nat.lt_succ_self 0) h' (fun r m' hr=>by obtain⟨sm,rfl,h⟩:=hr; exact⟨k,h⟩) m av
theorem AV.mono{g:FuncId}{args:List Aa}{m:Ad}{K K':Aa→Ad→Prop}(h:AV P g args m K)(hk:∀ r m',K r m'→K' r m'):AV P g args m K':=
 Au.mono h fun r m' hh=>by grind
def Ly(v:Aa)(A B:Prop):Prop:=
 match v with
 | .bool true=>A
 | .bool false=>B
 | _=>False
@[congr] theorem Yej{v v' : Aa}{A B : Prop}(h : v = v') : Ly v A B = Ly v' A B := by rw [h]
end Go.AE
end
