/- Part 9 of the proof: AeSa, AeSb, AeNa, AeNb, AeNc. -/
import Derived.Test.YtilmpmlkndfbjaaGreatDoorK8
set_option linter.all false
section
namespace Go.AE
open Go.RowKit
abbrev Env:=List (Nat×Aa)
def Env.get:Env→Nat→Aa
 | [],_=>.bot
 | (j,v) :: r,i=>if i=j then v else Env.get r i
def AI(n:Nat)(e:Env):Ah→Aa
 | .tmp i=>if i<n then e.get i else Aj
 | .const v=>v
 | .fn f=>.func (.func f) [] []
def X6(e:Env)(d:Option Nat)(v:Aa):Env:=
 match d with
 | some d=>(d,v) :: e
 | none=>e
structure Ac where
 bl:List (Nat×Ag)
 next:Nat
def Y2:List (Nat×Ag)→Nat→Option Ag
 | [],_=>none
 | (c,x) :: r,b=>if b=c then some x else Y2 r b
def P0:List (Nat×Ag)→Nat→List (Nat×Ag)
 | [],_=>[]
 | (c,x) :: r,b=>if b=c then P0 r b else (c,x) :: P0 r b
def Ac.get(m:Ac)(b:Nat):Option Ag:=Y2 m.bl b
def Ac.mem(m:Ac):Mem:=⟨m.get,m.next⟩
def Ac.at(m:Ac)(n:Nat):Ac:=⟨m.bl,n⟩
def Ac.app(m:Ac):List (Nat×Option Ag)→Ac
 | []=>m
 | (b,some x) :: r=>Ac.app ⟨(b,x) :: m.bl,m.next⟩ r
 | (b,none) :: r=>Ac.app ⟨P0 m.bl b,m.next⟩ r
theorem I5(b c:Nat):∀ (l:List (Nat×Ag)),Y2 (P0 l b) c=if c=b then none else Y2 l c
 | []=>by simp[P0,Y2]
 | (d,x) :: r=>by
  simp only[P0];by_cases h:b=d
  ·rw[iP h,I5 b c r];simp only[Y2];by_cases h2:c=b
   ·simp[h2]
   ·rw[iN h2,iN h2,iN (by omega)]
  ·rw[iN h];simp only[Y2];by_cases h2:c=d
   ·rw[iP h2,iP h2,iN (by omega)]
   ·rw[iN h2,iN h2,I5 b c r]
theorem Ac.BW:∀ (d:List (Nat×Option Ag)) (m:Ac),(m.app d).mem=m.mem.apply d
 | [],_=>rfl
 | (b,some x) :: r,m=>by
  simp only[Ac.app,Mem.apply];rw[Ac.BW r]
  congr 1
 | (b,none) :: r,m=>by
  simp only[Ac.app,Mem.apply];rw[Ac.BW r]
  congr 1
  exact Mem.ext' (fun c=>by simp only[Ac.mem,Ac.get,Mem.Bo]; exact I5 b c m.bl) rfl
def Be(n:Nat)(e:Env):List Aa:=(List.range n).map e.get
theorem M5(n:Nat)(e:Env):(Be n e).length=n:=by simp[Be]
theorem F0{n:Nat}{e:Env}{i:Nat}(h:i<n):(Be n e)[i]? = some (e.get i):=by simp[Be,h]
theorem G5(n:Nat)(e:Env):ev (Be n e)=AI n e:=by
 funext x
 cases x with
 | tmp i=>
  simp only[ev,AI];by_cases h:i<n
  ·rw[iP h,List.getD,F0 h]; rfl
  ·rw[iN h,List.getD,List.getElem?_eq_none (by rw[M5]; omega)]; rfl
 | const v=>rfl
 | fn f=>rfl
theorem G1(n:Nat)(e:Env)(d:Option Nat)(v:Aa):put (Be n e) d v=Be n (X6 e d v):=by
 cases d with
 | none=>rfl
 | some d=>
  simp only[put,X6];apply List.ext_getElem?;intro i;rw[List.getElem?_set];by_cases hi:i<n
  ·rw[F0 hi,F0 hi];simp only[Env.get];by_cases h:d=i
   ·rw[iP h,iP (by rw[M5]; omega),iP h.symm]
   ·rw[iN h,iN (fun e=>h e.symm)]
  ·rw[List.getElem?_eq_none (by rw[M5]; omega),List.getElem?_eq_none (by rw[M5]; omega)]
   by_cases h:d=i
   ·rw[iP h,iN (by rw[M5]; omega)]
   ·rw[iN h]
def Q4(n:Nat)(e:Env):Option (Nat×Bool)→Option Bool
 | none=>some true
 | some (d,w)=>match AI n e (.tmp d)with
  | .bool b=>some (b == w)
  | .tuple []=>some false
  | _=>none
theorem QK(n:Nat)(e:Env)(g:Option (Nat×Bool)):T9 (Be n e) g=Q4 n e g:=by
 cases g with
 | none=>rfl
 | some p=>
  obtain⟨d,w⟩:=p;have h:(Be n e).getD d Aj=AI n e (.tmp d):=congrFun (G5 n e) (.tmp d);simp only[T9,Q4,h];rfl
def U5(n:Nat)(e:Env)(f:Ah)(xs:List Ah):Option (FuncId×List Aa):=
 match AI n e f with
 | .func (.func g) first cap=>some (g,first++xs.map (AI n e)++cap)
 | _=>none
theorem RF(n:Nat)(e:Env)(f:Ah)(xs:List Ah):callee (Be n e) f xs=U5 n e f xs:=by
 simp only[callee,U5,G5];rfl
def SC(P:Program)(g:FuncId)(args:List Aa)(m:Ac)(id:Nat)(K:Aa→Ac→Prop):Prop:=
 Az P g args m.mem [id] fun v m''=>∃ m',m''=m'.mem∧K v m'
def AS(P:Program)(g:FuncId)(args:List Aa)(v:Aa):Prop:=∀ (m:Mem) (av:List Nat),Az P g args m av fun r m'=>r=v∧m'=m
theorem L3{P:Program}{g:FuncId}{args:List Aa}{m:Ac}{id:Nat}{v:Aa}{K:Aa→Ac→Prop}(h:AS P g args v)(hK:K v m):SC P g args m id K:=
 (h m.mem [id]).mono fun r m' hr=>by obtain⟨rfl,rfl⟩:=hr; exact⟨m,rfl,hK⟩
def L6(P:Program)(n base:Nat):List Af→Nat→(Env→Ac→Prop)→Env→Ac→Prop
 | [],_,K,e,m=>K e m
 | o :: r,i,K,e,m=>
  match Q4 n e o.guard with
  | some false=>L6 P n base r (i+1) K (X6 e o.dst Aj) m
  | some true=>
   match o.op with
   | .call f xs=>match U5 n e f xs with
    | some (g,args)=>SC P g args m (base+i) fun v m'=>L6 P n base r (i+1) K (X6 e o.dst v) m'
    | none=>False
   | op=>match Ak (base+i) (AI n e) m.get op with
    | some (v,d)=>L6 P n base r (i+1) K (X6 e o.dst v) (m.app d)
    | none=>False
  | none=>False
def Qv:Nat→Nat→List Nat
 | 0,_=>[]
 | k+1,s=>s :: Qv k (s+1)
def DT(base i n:Nat):List Nat:=Qv i base++Qv n (base+i+1)
theorem bQ:∀ {k s c:Nat},c∈Qv k s→s≤c∧c<s+k
 | 0,_,_,h=>by simp[Qv]at h
 | k+1,s,c,h=>by
  simp only[Qv,mC]at h;rcases h with rfl|h
  ·omega
  ·have:=bQ h; omega
theorem oH(base i n:Nat):base+i∉DT base i n:=by
 intro h;rcases List.mem_append.1 h with h|h
 ·have:=bQ h; omega
 ·have:=bQ h; omega
def Sg(P:Program)(g:FuncId)(args:List Aa)(v:Aa)(id:Nat)(x:List Nat)(m:Mem):Prop:=Az P g args (m.less x) [id] fun r m'=>r=v∧m'=m.less x
theorem AS.x{P:Program}{g:FuncId}{args:List Aa}{v:Aa}(h:AS P g args v)(id:Nat)(x:List Nat)(m:Mem):Sg P g args v id x m:=h _ _
def C9(P:Program)(n base:Nat):List Af→List FT→(Env→Ac→Prop)→Env→Ac→Prop
 | [],_,K,e,m=>K e m
 | o :: r,fs,K,e,m=>
  match Q4 n e o.guard with
  | some false=>C9 P n base r (fs++[.ops [] []]) K (X6 e o.dst Aj) m
  | some true=>
   match o.op with
   | .call f xs=>match U5 n e f xs with
    | some (g,args)=>∃ v,Sg P g args v (base+fs.length) (DT base fs.length r.length) m.mem∧O0 fs (.call [] (DT base fs.length r.length) m.next) o.un∧C9 P n base r (fs++[.call [] (DT base fs.length r.length) m.next]) K (X6 e o.dst v) m
    | none=>False
   | op=>match Ak (base+fs.length) (AI n e) m.get op with
    | some (v,d)=>O0 fs (.ops (U9 (base+fs.length) (AI n e) op) (T2 (AI n e) op)) o.un∧C9 P n base r (fs++[.ops (U9 (base+fs.length) (AI n e) op) (T2 (AI n e) op)]) K (X6 e o.dst v) (m.app d)
    | none=>False
  | none=>False
def GC:Env→Env→Prop
 | [],_=>True
 | (i,v) :: r,e=>e.get i=v∧GC r e
def EM:Ag→Ag→Prop
 | .cells k els,.cells k' els'=>k=k'∧els.length=els'.length ∧ ∀(i:Nat) (row row':List Aa),els[i]? = some row→els'[i]? = some row'→row.length=row'.length ∧ ∀(j:Nat) (x:Aa),row[j]? = some x→x=Aa.bot∨row'[j]? = some x
 | x,y=>x=y
theorem BR.Mh{Φ:Ao}{ρ:AD}{x y:Ag}{l:Loc}{o:Obj}(hs:EM x y)(h:BR Φ ρ y l o):BR Φ ρ x l o:=by
 cases x with
 | cells k els=>
  cases y with
  | cells k' els'=>
   obtain⟨rfl,hl,hrow⟩:=hs;cases h with
   | cells k els' l c e hk hn HU hr h1=>
    have hget:∀ (i:Nat) (row:List Aa),els[i]? = some row → ∃ row',els'[i]? = some row'∧row.length=row'.length ∧ ∀(j:Nat) (x:Aa),row[j]? = some x→x=Aa.bot∨row'[j]? = some x:=by
     intro i row hi;have hi':i<els'.length:=by rw[← hl]; exact(gS.1 hi).1
     exact⟨els'[i],gE hi',hrow i row _ hi (gE hi')⟩
    refine .cells k els l c e hk hn (by omega) ⟨fun i row hi=>?_,fun i row j x hi hj=>?_⟩ h1
    ·obtain⟨row',g1,g2,g3⟩:=hget i row hi;rw[g2]; exact hr.1 i row' g1
    ·obtain⟨row',g1,g2,g3⟩:=hget i row hi;have hj':j<row'.length:=by rw[← g2]; exact(gS.1 hj).1
     obtain⟨v,k1,k2,k3⟩:=hr.2 i row' j _ g1 (gE hj');refine⟨v,k1,k2,?_⟩;rcases g3 j x hj with rfl|g
     ·exact .bot v
     ·rw[gE hj']at g;injection g with g
      rw[← g]; exact k3
  | _=>cases hs
 | _=>cases y<;>first|(cases hs; done)|(cases hs; exact h)
theorem Rel.Mh{W:Ap}{Φ:Ao}{ρ:AD}{m m':Mem}{w:World}(h:Rel W Φ ρ m w)(hn:m.next≤m'.next)(hg:∀ b x,m'.get b=some x→m.get b=some x ∨ ∃ y,m.get b=some y∧EM x y):Rel W Φ ρ m' w:=by
 have hex:∀ b x,m'.get b=some x → ∃ y,m.get b=some y:=fun b x hx=>(hg b x hx).elim (fun g=>⟨_,g⟩) fun⟨y,g,_⟩=>⟨y,g⟩
 refine⟨h.base,h.AX,fun b x hx=>?_,fun b b' x x' l l' h1 h2=>?_,fun b l hb=>Nat.lt_of_lt_of_le (h.fresh b l hb) hn,h.By⟩
 ·rcases hg b x hx with g|⟨y,g,hs⟩
  ·exact h.live b x g
  ·obtain⟨l,o,g1,g2,g3,g4,g5⟩:=h.live b y g;exact⟨l,o,g1,g2,g3,g4,g5.Mh hs⟩
 ·obtain⟨y,hy⟩:=hex b x h1;obtain⟨y',hy'⟩:=hex b' x' h2;exact h.inj b b' y y' l l' hy hy'
def GB:List (Nat×Ag)→Ac→Prop
 | [],_=>True
 | (b,x) :: r,m=>(m.get b=some x ∨ ∃ y,m.get b=some y∧EM x y)∧GB r m
def Fq(e0:Env)(m0:Ac)(e:Env)(m:Ac):Prop:=GC e0 e∧GB m0.bl m∧m.next≤m0.next
theorem GC.get:∀ {e0 e:Env},GC e0 e → ∀ i,e0.get i=.bot∨e0.get i=e.get i
 | [],_,_,i=>.inl rfl
 | (j,v) :: r,e,h,i=>by
  simp only[Env.get];by_cases hij:i=j
  ·subst hij; rw[iP rfl]; exact .inr h.1.symm
  ·rw[iN hij]; exact h.2.get i
theorem GB.get:∀ {l:List (Nat×Ag)} {m:Ac},GB l m → ∀ b x,Y2 l b=some x→m.get b=some x ∨ ∃ y,m.get b=some y∧EM x y
 | [],_,_,b,x,h=>by simp[Y2]at h
 | (c,y) :: r,m,hs,b,x,h=>by
  simp only[Y2]at h;split at h
  ·rename_i hb; subst hb; injection h with h; subst h; exact hs.1
  ·exact hs.2.get b x h
theorem Fq.weak{n:Nat}{e0 e:Env}{m0 m:Ac}(h:Fq e0 m0 e m):AO.Ex ⟨Be n e0,m0.mem⟩ ⟨Be n e,m.mem⟩:=by
 refine⟨h.2.2,fun W Φ ρ vs w hr ht=>⟨Φ,.refl _ _,hr.Mh h.2.2 (fun b x hx=>h.2.1.get b x hx),ht.sub (by rw[M5,M5]) (fun i x hx=>?_)⟩⟩
 have hi:i<n:=by
  have:=(gS.1 hx).1;rw[M5]at this; exact this
 simp only at hx ⊢;rw[F0 hi]at hx ⊢;injection hx with hx
 rcases h.1.get i with h1|h1
 ·exact .inl (hx.symm.trans h1)
 ·exact .inr (by rw[← h1,hx])
def P5(next:Env→Ac→Prop)(Q:Exit→Env→Ac→Prop):Exit→Env→Ac→Prop
 | .normal,e,m=>next e m
 | x,e,m=>Q x e m
def H6(id:Nat)(Q:Exit→Env→Ac→Prop):Exit→Env→Ac→Prop
 | .exit id',e,m=>if id'=id then Q .normal e m else Q (.exit id') e m
 | x,e,m=>Q x e m
def wpS(P:Program)(n:Nat):Aq→(Exit→Env→Ac→Prop)→Env→Ac→Prop
 | .skip,Q,e,m=>Q .normal e m
 | .region false ops,Q,e,m=>L6 P n m.next ops 0 (Q .normal) e (m.at (m.next+ops.length))
 | .region true ops,Q,e,m=>C9 P n m.next ops [] (Q .normal) e (m.at (m.next+ops.length))
 | .seq a b,Q,e,m=>wpS P n a (P5 (wpS P n b Q) Q) e m
 | .cond c a b,Q,e,m=>match AI n e c with
  | .bool true=>wpS P n a Q e m
  | .bool false=>wpS P n b Q e m
  | _=>False
 | .block id c,Q,e,m=>wpS P n c (H6 id Q) e m
 | .loop c,Q,e,m=>∃ (I:Nat→Env→Ac→Prop),(∃ k e0 m0,Fq e0 m0 e m∧I k e0 m0) ∧ ∀ k e1 m1,I k e1 m1→wpS P n c (P5 (fun e' m'=>∃ j e0 m0,j<k∧Fq e0 m0 e' m'∧I j e0 m0) Q) e1 m1
 | .exit id,Q,e,m=>Q (.exit id) e m
 | .scope c,Q,e,m=>wpS P n c Q e m
 | .label _,Q,e,m=>Q .normal e m
 | .ret,Q,e,m=>Q .ret e m
 | .bad,_,_,_=>False
def D0(n:Nat)(Q:Exit→Env→Ac→Prop):Exit→AO→Prop
 | .goto _,_=>False
 | x,σ=>∃ e m,σ=⟨Be n e,m.mem⟩∧Q x e m
section
variable {P:Program} {n:Nat}
theorem Tc{base:Nat}{K:Env→Ac→Prop}:∀ (ops:List Af) (i:Nat) (e:Env) (m:Ac),L6 P n base ops i K e m→N7 P base ops i (fun σ=>∃ e m,σ=⟨Be n e,m.mem⟩∧K e m) (Be n e) m.mem
 | [],_,e,m,h=>⟨e,m,rfl,h⟩
 | o :: r,i,e,m,h=>by
  simp only[L6]at h;simp only[N7,QK];cases hw:Q4 n e o.guard with
  | none=>simp[hw]at h
  | some q=>
   cases q with
   | false=>
    simp only[hw]at h;simp only[G1];exact Tc r (i+1) _ m h
   | true=>
    simp only[hw]at h;simp only;have other:∀ op,o.op=op→(match Ak (base+i) (AI n e) m.get op with|some (v,d)=>L6 P n base r (i+1) K (X6 e o.dst v) (m.app d)|none=>False) →
     (match Ae (base+i) (Be n e) m.mem op with|some (v,m')=>N7 P base r (i+1) (fun σ=>∃ e m,σ=⟨Be n e,m.mem⟩∧K e m) (put (Be n e) o.dst v) m'|none=>False):=by
     intro op _ hh;cases hs:Ak (base+i) (AI n e) m.get op with
     | none=>simp[hs]at hh
     | some vd=>
      obtain⟨v,d⟩:=vd;simp only[hs]at hh;have:=Ow (m:=m.mem) (t:=Be n e) (id:=base+i) (op:=op) (v:=v) (d:=d) (by rw[G5]; exact hs)
      rw[this];simp only[G1];rw[← Ac.BW];exact Tc r (i+1) _ _ hh
    cases hop:o.op with
    | call f xs=>
     simp only[hop]at h;simp only[RF];cases hc:U5 n e f xs with
     | none=>simp[hc]at h
     | some ga=>
      obtain⟨g,args⟩:=ga;simp only[hc]at h;simp only;refine h.mono fun v m'' hh=>?_
      obtain⟨m',rfl,hk⟩:=hh;simp only[G1];exact Tc r (i+1) _ m' hk
    | _=>rw[hop]at h; exact other _ hop h
theorem wH{g:FuncId}{args:List Aa}{v:Aa}(id:Nat)(x:List Nat)(hx:id∉x)(m:Mem)(h:Sg P g args v id x m):Nl P g args id x m v m []:=by
 refine⟨m.less x,hx,fun c hc=>by simp[Mem.less,hc],lR _,rfl,fun c=>?_,fun c _ _ hc=>by simp[Mem.less,hc],h⟩
 by_cases hc:c∈x
 ·rw[iP hc]
 ·rw[iN hc]; simp[Mem.less,hc]
theorem Xj{base:Nat}{K:Env→Ac→Prop}:∀ (ops:List Af) (fs:List FT) (e:Env) (m:Ac),C9 P n base ops fs K e m→R8 P base ops fs (fun σ=>∃ e m,σ=⟨Be n e,m.mem⟩∧K e m) (Be n e) m.mem
 | [],_,e,m,h=>⟨e,m,rfl,h⟩
 | o :: r,fs,e,m,h=>by
  simp only[C9]at h;simp only[R8,QK];cases hw:Q4 n e o.guard with
  | none=>simp[hw]at h
  | some q=>
   cases q with
   | false=>
    simp only[hw]at h;simp only[G1];exact Xj r _ _ m h
   | true=>
    simp only[hw]at h;simp only;have other:∀ op,o.op=op→(match Ak (base+fs.length) (AI n e) m.get op with|some (v,d)=>O0 fs (.ops (U9 (base+fs.length) (AI n e) op) (T2 (AI n e) op)) o.un∧C9 P n base r (fs++[.ops (U9 (base+fs.length) (AI n e) op) (T2 (AI n e) op)]) K (X6 e o.dst v) (m.app d)|none=>False) →
     (match Ae (base+fs.length) (Be n e) m.mem op with|some (v,m')=>O0 fs (.ops (T8 (base+fs.length) (Be n e) op) (L8 (Be n e) op)) o.un∧R8 P base r (fs++[.ops (T8 (base+fs.length) (Be n e) op) (L8 (Be n e) op)]) (fun σ=>∃ e m,σ=⟨Be n e,m.mem⟩∧K e m) (put (Be n e) o.dst v) m'|none=>False):=by
     intro op _ hh;cases hs:Ak (base+fs.length) (AI n e) m.get op with
     | none=>simp[hs]at hh
     | some vd=>
      obtain⟨v,d⟩:=vd;simp only[hs]at hh;have:=Ow (m:=m.mem) (t:=Be n e) (id:=base+fs.length) (op:=op) (v:=v) (d:=d) (by rw[G5]; exact hs)
      rw[this];simp only[G1,Wq,Xz,G5];rw[← Ac.BW];exact⟨hh.1,Xj r _ _ _ hh.2⟩
    cases hop:o.op with
    | call f xs=>
     simp only[hop]at h;simp only[RF];cases hc:U5 n e f xs with
     | none=>simp[hc]at h
     | some ga=>
      obtain⟨g,args⟩:=ga;simp only[hc]at h;obtain⟨v,hp,hi,hk⟩:=h;simp only;refine⟨[],DT base fs.length r.length,v,m.mem,wH _ _ (oH _ _ _) _ hp,hi,?_⟩;simp only[G1];exact Xj r _ _ m hk
    | _=>rw[hop]at h; exact other _ hop h
theorem RQ{c:Aq}:∀ {Q Q':Exit→AO→Prop} {σ:AO},Cy P c Q σ→(∀ x σ,Q x σ→Q' x σ)→Cy P c Q' σ:=by
 induction c with
 | skip=>exact fun h hq=>hq _ _ h
 | region draw ops=>
  intro Q Q' σ h hq;cases draw with
  | false=>
   simp only[Cy]at h ⊢;have:∀ (ops:List Af) (base i:Nat) (t:List Aa) (m:Mem),N7 P base ops i (Q .normal) t m→N7 P base ops i (Q' .normal) t m:=by
    intro ops
    induction ops with
    | nil=>exact fun base i t m h=>hq _ _ h
    | cons o r ih=>
     intro base i t m h;rcases rN h with⟨h1,h2⟩|⟨h1,⟨f,xs,g,args,h2,h3,h4⟩|⟨v,m',h2,h3⟩⟩
     ·simp only[N7,h1]; exact ih _ _ _ _ h2
     ·simp only[N7,h1,h2,h3]; exact h4.mono fun v m' hh=>ih _ _ _ _ hh
     ·simp only[N7,h1];cases hop:o.op<;>rw[hop]at h2<;>first|(simp only[h2]; exact ih _ _ _ _ h3)|(simp[Ae]at h2)
   exact this _ _ _ _ _ h
  | true=>
   simp only[Cy]at h ⊢;have:∀ (ops:List Af) (base:Nat) (fs:List FT) (t:List Aa) (m:Mem),R8 P base ops fs (Q .normal) t m→R8 P base ops fs (Q' .normal) t m:=by
    intro ops
    induction ops with
    | nil=>exact fun base i t m h=>hq _ _ h
    | cons o r ih=>
     intro base fs t m h;simp only[R8]at h ⊢;split at h
     ·exact ih _ _ _ _ h
     ·split at h
      ·split at h
       ·obtain⟨wl,x,v,m',h1,h2,h3⟩:=h;exact⟨wl,x,v,m',h1,h2,ih _ _ _ _ h3⟩
       ·exact h
      ·split at h
       ·exact⟨h.1,ih _ _ _ _ h.2⟩
       ·exact h
     ·exact h
   exact this _ _ _ _ _ h
 | seq a b iha ihb=>
  intro Q Q' σ h hq;refine iha h fun x σ hx=>?_
  cases x<;>first|exact ihb hx hq|exact hq _ _ hx
 | cond c a b iha ihb=>
  intro Q Q' σ h hq;simp only[Cy]at h ⊢;split at h
  ·exact iha h hq
  ·exact ihb h hq
  ·exact h
 | block id c ih=>
  intro Q Q' σ h hq;refine ih h fun x σ hx=>?_
  cases x<;>simp only[Is]at hx ⊢ <;> first|exact hq _ _ hx|skip
  split at hx
  ·rename_i h1; rw[iP h1]; exact hq _ _ hx
  ·rename_i h1; rw[iN h1]; exact hq _ _ hx
 | loop c ih=>
  intro Q Q' σ h hq;obtain⟨I,h1,h2⟩:=h;refine⟨I,h1,fun k σ1 hI=>ih (h2 k σ1 hI) fun x σ hx=>?_⟩
  cases x<;>first|exact hx|exact hq _ _ hx
 | exit id=>exact fun h hq=>hq _ _ h
 | scope c ih=>
  intro Q Q' σ h hq;refine ih h fun x σ hx=>?_
  cases x<;>first|exact hx|exact hq _ _ hx
 | label l=>exact fun h hq=>hq _ _ h
 | ret=>exact fun h hq=>hq _ _ h
 | bad=>exact fun h _=>h
theorem Z3j{c:Aq}:∀ {Q:Exit→Env→Ac→Prop} {e:Env} {m:Ac},wpS P n c Q e m→Cy P c (D0 n Q) ⟨Be n e,m.mem⟩:=by
 induction c with
 | skip=>exact fun h=>⟨_,_,rfl,h⟩
 | region draw ops=>
  intro Q e m h;cases draw with
  | false=>exact Tc ops 0 e _ h
  | true=>exact Xj ops [] e _ h
 | seq a b iha ihb=>
  intro Q e m h;show Cy P a (SB (Cy P b (D0 n Q)) (D0 n Q)) _;refine RQ (iha h) fun x σ hx=>?_
  cases x<;>simp only[D0]at hx<;>first|exact hx.elim|skip
  all_goals
   obtain⟨e1,m1,rfl,hx⟩:=hx
   first|exact ihb hx|exact⟨e1,m1,rfl,hx⟩
 | cond c a b iha ihb=>
  intro Q e m h;simp only[wpS]at h;simp only[Cy,G5];split at h
  ·rename_i hc; rw[hc]; exact iha h
  ·rename_i hc; rw[hc]; exact ihb h
  ·exact h.elim
 | block id c ih=>
  intro Q e m h;show Cy P c (Is id (D0 n Q)) _;refine RQ (ih h) fun x σ hx=>?_
  cases x<;>simp only[D0,H6]at hx<;>first|exact hx.elim|skip
  case exit i=>
   obtain⟨e1,m1,rfl,hx⟩:=hx;simp only[Is];split at hx
   ·rename_i h1; rw[iP h1]; exact⟨e1,m1,rfl,hx⟩
   ·rename_i h1; rw[iN h1]; exact⟨e1,m1,rfl,hx⟩
  all_goals exact hx
 | loop c ih=>
  intro Q e m h;obtain⟨I,⟨k,e0,m0,h1,h2⟩,h3⟩:=h;refine⟨fun k σ=>∃ e m,σ=⟨Be n e,m.mem⟩∧I k e m,⟨k,_,h1.weak,e0,m0,rfl,h2⟩,?_⟩
  rintro k σ1 ⟨e1,m1,rfl,hI⟩;refine RQ (ih (h3 k e1 m1 hI)) fun x σ hx=>?_
  cases x<;>simp only[D0]at hx<;>first|exact hx.elim|skip
  all_goals obtain⟨e2,m2,rfl,hx⟩:=hx
  ·obtain⟨j,e0,m0,hj,hs,hI'⟩:=hx;exact⟨j,_,hj,hs.weak,e0,m0,rfl,hI'⟩
  all_goals exact⟨e2,m2,rfl,hx⟩
 | exit id=>exact fun h=>⟨_,_,rfl,h⟩
 | scope c ih=>
  intro Q e m h;show Cy P c (Zn (D0 n Q)) _;refine RQ (ih h) fun x σ hx=>?_
  cases x<;>first|exact hx.elim|exact hx
 | label l=>exact fun h=>⟨_,_,rfl,h⟩
 | ret=>exact fun h=>⟨_,_,rfl,h⟩
 | bad=>exact fun h=>h
def P3(k:Nat):List Aa→Env→Env
 | [],e=>e
 | x :: r,e=>(k,x) :: P3 (k+1) r e
theorem Xw:∀ (args:List Aa) (k i:Nat) (e:Env),(P3 k args e).get i=if k≤i∧i<k+args.length then args.getD (i - k) .bot else e.get i
 | [],k,i,e=>by
  have:¬(k≤i∧i<k+([]:List Aa).length):=by simp
  rw[iN this]; rfl
 | x :: r,k,i,e=>by
  simp only[P3,Env.get];by_cases h:i=k
  ·subst h;rw[iP rfl,iP (by simp),Nat.sub_self]
   rfl
  ·rw[iN h,Xw r (k+1) i e];by_cases h2:k+1≤i∧i<k+1+r.length
   ·rw[iP h2,iP (by simp; omega)]
    have:i - k=(i - (k+1))+1:=by omega
    rw[this];rfl
   ·rw[iN h2,iN (by simp; omega)]
def Jk(n:Nat)(rs:List (Nat×Option (Option Nat)))(K:Aa→Ac→Prop):Exit→Env→Ac→Prop
 | .normal,e,m=>match rs with
  | [(i,none)]=>K (AI n e (.tmp i)) m
  | [(i,none),(j,none)]=>K (.tuple [AI n e (.tmp i),AI n e (.tmp j)]) m
  | []=>K (.tuple []) m
  | _=>False
 | .ret,e,m=>match rs with
  | [(i,none)]=>K (AI n e (.tmp i)) m
  | [(i,none),(j,none)]=>K (.tuple [AI n e (.tmp i),AI n e (.tmp j)]) m
  | []=>K (.tuple []) m
  | _=>False
 | _,_,_=>False
theorem sj(hm:P.follows .mixedOrders=true){f:FuncId}{fn:Func}{af:Av}{args:List Aa}{m:Mem}{av:List Nat}{K:Aa→Mem→Prop}(hf:P.funcs[f]? = some fn)(hc:Bt P fn=some af){Fh:AO}
 (hw:AO.Ex Fh ⟨args++List.replicate (af.ntmps - args.length) Aj,m⟩) (h:Cy P af.body (Fb af.results K) Fh):Az P f args m av K:=by
 obtain⟨c,hb,hbody,Ck,hnt,hname⟩:=Xb hc;rw[hbody]at h;refine⟨⟨fn,hf,hname,by rw[hb]; rfl⟩,fun W Φ ρ vs w hr ha Ch=>?_⟩
 have ht0:=Ty (k:=fn.ntmps) ha;rw[hnt]at hw;obtain⟨Ed,hE0,hr0,ht1⟩:=hw.rel W Φ ρ _ w hr ht0;have hs:=SV hm c _ _ h W Ed ρ { tmps:=vs++Array.replicate (fn.ntmps - vs.size) undef,defers:=[] } w hr0 ht1 rfl;refine calls_of_wp hf hb (wp_mono hs fun e a w' hl=>?_)
 obtain⟨σ,Am,ρ',h1,h2,h3,h4,h5,h6,h7⟩:=hl;have hn0:m.next≤Fh.m.next:=hw.next;have fin:(match M2 σ.t σ.m af.results with|some r=>K r σ.m|none=>False)→a.defers=[] ∧ ∃ v,(results fn a.tmps).run P w'=.ok v w' ∧
  ∃ v' r m' Am ρ',Ending.returned v=.returned v'∧Ext Φ ρ Am ρ'∧(∀ b,b<m.next→b∉av→ρ b=none→ρ' b=none)∧Rel W Am ρ' m' w'∧R Am ρ' r v'∧m.next≤m'.next∧K r m':=by
  intro hh;cases hz:M2 σ.t σ.m af.results with
  | none=>simp[hz]at hh
  | some r=>
   simp only[hz]at hh;obtain⟨u,g1,g2⟩:=QB h4 h5 Ck hz;exact⟨h6,u,g1,u,r,σ.m,Am,ρ',rfl,hE0.trans h1,fun b hb _ h0=>h2 b (Nat.lt_of_lt_of_le hb hn0) h0,h4,g2,Nat.le_trans hn0 h3,hh⟩
 cases e with
 | normal=>exact fin h7
 | ret=>exact fin h7
 | exit i=>exact h7.elim
 | goto l=>exact h7.elim
 | panic ch=>exact h7.elim
 | outgrown=>exact h7.elim
theorem nV(hm:P.follows .mixedOrders=true){f:FuncId}{fn:Func}{af:Av}{args:List Aa}{m:Ac}{av:List Nat}{K:Aa→Mem→Prop}(hf:P.funcs[f]? = some fn)(hc:Bt P fn=some af)(hl:args.length≤af.ntmps)
 (h:wpS P af.ntmps af.body (Jk af.ntmps af.results fun v m'=>K v m'.mem) (P3 0 args []) m):Az P f args m.mem av K:=by
 have hw:AO.Ex ⟨Be af.ntmps (P3 0 args []),m.mem⟩ ⟨args++List.replicate (af.ntmps - args.length) Aj,m.mem⟩:=by
  refine AO.Ex.GM (by simp[M5]; omega) (fun i x hx=>?_) (Mem.Sub.refl _)
  have hi:i<af.ntmps:=by
   have:=(gS.1 hx).1;rw[M5]at this; exact this
  simp only at hx ⊢;rw[F0 hi,Xw]at hx;injection hx with hx
  by_cases h2:0≤i∧i<0+args.length
  ·rw[iP h2]at hx;rw[List.getElem?_append,iP (by omega)]
   refine .inr ?_;rw[← hx,Nat.sub_zero,List.getD,gE (by omega)]
   rfl
  ·rw[iN h2]at hx;exact .inl hx.symm
 have h1:Cy P af.body (Fb af.results K) ⟨Be af.ntmps (P3 0 args []),m.mem⟩:=by
  refine RQ (Z3j h) fun x σ hx=>?_
  have fin:∀ e m',(match af.results with
   | [(i,none)]=>K (AI af.ntmps e (.tmp i)) m'.mem
   | [(i,none),(j,none)]=>K (.tuple [AI af.ntmps e (.tmp i),AI af.ntmps e (.tmp j)]) m'.mem
   | []=>K (.tuple []) m'.mem
   | _=>False)→(match M2 (Be af.ntmps e) (Ac.mem m') af.results with|some r=>K r m'.mem|none=>False):=by
   intro e m' hh;have hev:∀ i,(Be af.ntmps e).getD i Aj=AI af.ntmps e (.tmp i):=fun i=>congrFun (G5 af.ntmps e) (.tmp i)
   split at hh
   ·rename_i i hr;rw[hr];simp only[M2,A7,hev];exact hh
   ·rename_i i j hr;rw[hr];simp only[M2,E7,A7,hev];exact hh
   ·rename_i hr;rw[hr];exact hh
   ·exact hh.elim
  cases x<;>simp only[D0,Jk]at hx<;>first|exact hx.elim|skip
  ·obtain⟨e1,m1,rfl,hx⟩:=hx; exact fin e1 m1 hx
  ·obtain⟨_,_,_,hx⟩:=hx; exact hx.elim
  ·obtain⟨e1,m1,rfl,hx⟩:=hx; exact fin e1 m1 hx
  ·obtain⟨_,_,_,hx⟩:=hx; exact hx.elim
  ·obtain⟨_,_,_,hx⟩:=hx; exact hx.elim
 exact sj hm hf hc hw h1
end
end Go.AE
end
section
namespace Go.AE
open Go.RowKit
variable {P:Program}
theorem wA(get:Nat→Option Ag):∀ (n:Nat) (v:Aa),(match v with | .int _ _ | .bool _ | .str _=>True|_=>False)→W3 get (n+1) v=some v:=by
 intro n v h;cases v<;>first|exact h.elim|rfl
theorem xA{g:FuncId}{args:List Aa}{v:Aa}(hca:W9 args=true)(hv:match v with | .int _ _ | .bool _ | .str _=>True|_=>False)
 (h:Az P g args (Ac.mem ⟨[],1⟩) [0] fun r _=>r=v):AS P g args v:=by
 intro m av;refine aK hca (by cases v<;>first|exact hv.elim|rfl) (fun c=>rfl) (Nat.lt_succ_self 0) h (fun r m' hr=>⟨1,?_⟩) m av
 subst hr;exact wA _ 0 _ hv
section
variable {n:Nat} {Q:Exit→Env→Ac→Prop} {e:Env} {m:Ac}
theorem bN:wpS P n .skip Q e m=Q .normal e m:=propext Iff.rfl
theorem ZP(ops:List Af):wpS P n (.region false ops) Q e m=L6 P n m.next ops 0 (Q .normal) e (m.at (m.next+ops.length)):=propext Iff.rfl
theorem cR(ops:List Af):wpS P n (.region true ops) Q e m=C9 P n m.next ops [] (Q .normal) e (m.at (m.next+ops.length)):=propext Iff.rfl
theorem Yx(a b:Aq):wpS P n (.seq a b) Q e m=wpS P n a (P5 (wpS P n b Q) Q) e m:=propext Iff.rfl
theorem Zh(c:Ah)(a b:Aq):wpS P n (.cond c a b) Q e m=match AI n e c with
 | .bool true=>wpS P n a Q e m
 | .bool false=>wpS P n b Q e m
 | _=>False:=propext Iff.rfl
theorem Zb(i:Nat)(c:Aq):wpS P n (.block i c) Q e m=wpS P n c (H6 i Q) e m:=propext Iff.rfl
theorem bU(i:Nat):wpS P n (.exit i) Q e m=Q (.exit i) e m:=propext Iff.rfl
theorem Zx:wpS P n .ret Q e m=Q .ret e m:=propext Iff.rfl
theorem HG(N:Env→Ac→Prop):P5 N Q .normal e m=N e m:=propext Iff.rfl
theorem HJ(N:Env→Ac→Prop):P5 N Q .ret e m=Q .ret e m:=propext Iff.rfl
theorem HC(N:Env→Ac→Prop)(i:Nat):P5 N Q (.exit i) e m=Q (.exit i) e m:=propext Iff.rfl
theorem HK(i:Nat):H6 i Q .normal e m=Q .normal e m:=propext Iff.rfl
theorem HL(i:Nat):H6 i Q .ret e m=Q .ret e m:=propext Iff.rfl
theorem HF(i j:Nat):H6 i Q (.exit j) e m=if j=i then Q .normal e m else Q (.exit j) e m:=propext Iff.rfl
theorem YT{base i:Nat}{K:Env→Ac→Prop}:L6 P n base [] i K e m=K e m:=propext Iff.rfl
theorem YS{base i:Nat}{K:Env→Ac→Prop}(o:Af)(r:List Af):L6 P n base (o :: r) i K e m =
 match Q4 n e o.guard with
 | some false=>L6 P n base r (i+1) K (X6 e o.dst Aj) m
 | some true=>
  match o.op with
  | .call f xs=>match U5 n e f xs with
   | some (g,args)=>SC P g args m (base+i) fun v m'=>L6 P n base r (i+1) K (X6 e o.dst v) m'
   | none=>False
  | op=>match Ak (base+i) (AI n e) m.get op with
   | some (v,d)=>L6 P n base r (i+1) K (X6 e o.dst v) (m.app d)
   | none=>False
 | none=>False:=propext Iff.rfl
theorem sU{base:Nat}{fs:List FT}{K:Env→Ac→Prop}:C9 P n base [] fs K e m=K e m:=propext Iff.rfl
theorem sD{base:Nat}{fs:List FT}{K:Env→Ac→Prop}(o:Af)(r:List Af):C9 P n base (o :: r) fs K e m =
 match Q4 n e o.guard with
 | some false=>C9 P n base r (fs++[.ops [] []]) K (X6 e o.dst Aj) m
 | some true=>
  match o.op with
  | .call f xs=>match U5 n e f xs with
   | some (g,args)=>∃ v,Sg P g args v (base+fs.length) (DT base fs.length r.length) m.mem∧O0 fs (.call [] (DT base fs.length r.length) m.next) o.un∧C9 P n base r (fs++[.call [] (DT base fs.length r.length) m.next]) K (X6 e o.dst v) m
   | none=>False
  | op=>match Ak (base+fs.length) (AI n e) m.get op with
   | some (v,d)=>O0 fs (.ops (U9 (base+fs.length) (AI n e) op) (T2 (AI n e) op)) o.un∧C9 P n base r (fs++[.ops (U9 (base+fs.length) (AI n e) op) (T2 (AI n e) op)]) K (X6 e o.dst v) (m.app d)
   | none=>False
 | none=>False:=propext Iff.rfl
def Next{α:Type}(E:α→Env)(M:α→Ac)(μ:α→Nat)(Inv:α→Prop)(a:α)(e':Env)(m':Ac):Prop:=∃ a',μ a'<μ a∧Inv a'∧Fq (E a') (M a') e' m'
theorem kX{α:Type}{c:Aq}(E:α→Env)(M:α→Ac)(μ:α→Nat)(Inv:α→Prop)(a0:α)(hs:Fq (E a0) (M a0) e m)(h0:Inv a0)
 (h:∀ a,Inv a→wpS P n c (P5 (Next E M μ Inv a) Q) (E a) (M a)):wpS P n (.loop c) Q e m:=by
 refine⟨fun k e m=>∃ a,k=μ a∧Inv a∧e=E a∧m=M a,⟨μ a0,_,_,hs,a0,rfl,h0,rfl,rfl⟩,?_⟩
 rintro k e1 m1 ⟨a,rfl,ha,rfl,rfl⟩;have key:(P5 (Next E M μ Inv a) Q)=(P5 (fun e' m'=>∃ j e0 m0,j<μ a∧Fq e0 m0 e' m'∧(∃ a,j=μ a∧Inv a∧e0=E a∧m0=M a)) Q):=by
  funext x e' m'
  cases x<;>try rfl
  simp only[P5];apply propext;constructor
  ·rintro⟨a',h1,h2,h3⟩;exact⟨μ a',_,_,h1,h3,a',rfl,h2,rfl,rfl⟩
  ·rintro⟨j,e0,m0,h1,h3,a',rfl,h2,rfl,rfl⟩;exact⟨a',h1,h2,h3⟩
 rw[← key];exact h a ha
end
@[congr] theorem Yd7{g : FuncId}{args args' : List Aa}{m : Ac}{id : Nat}{K : Aa → Ac → Prop}(h : args = args') : SC P g args m id K = SC P g args' m id K := by rw [h]
@[congr] theorem Ydr{α : Type}{E : α → Env}{M : α → Ac}{μ : α → Nat}{Inv : α → Prop}{a : α}{e e' : Env}{m m' : Ac}(h : e = e')(h' : m = m') : Next E M μ Inv a e m = Next E M μ Inv a e' m' := by rw [h, h']
@[congr] theorem Yeb{N : Env → Ac → Prop}{Q : Exit → Env → Ac → Prop}{x x' : Exit}{e e' : Env}{m m' : Ac}(hx : x = x')(h : e = e')(h' : m = m') : P5 N Q x e m = P5 N Q x' e' m' := by rw [hx, h, h']
@[congr] theorem Yee{i : Nat}{Q : Exit → Env → Ac → Prop}{x x' : Exit}{e e' : Env}{m m' : Ac}(hx : x = x')(h : e = e')(h' : m = m') : H6 i Q x e m = H6 i Q x' e' m' := by rw [hx, h, h']
@[congr] theorem Yd9{n : Nat}{c : Aq}{Q : Exit → Env → Ac → Prop}{e e' : Env}{m m' : Ac}(h : e = e')(h' : m = m') : wpS P n c Q e m = wpS P n c Q e' m' := by rw [h, h']
@[congr] theorem Ydt{n base base' i i' : Nat}{ops : List Af}{K : Env → Ac → Prop}{e e' : Env}{m m' : Ac}(hb : base = base')(hi : i = i')(h : e = e')(h' : m = m') : L6 P n base ops i K e m = L6 P n base' ops i' K e' m' := by rw [hb, hi, h, h']
@[congr] theorem Ydp{n base base' : Nat}{fs fs' : List FT}{ops : List Af}{K : Env → Ac → Prop}{e e' : Env}{m m' : Ac}(hb : base = base')(hi : fs = fs')(h : e = e')(h' : m = m') : C9 P n base ops fs K e m = C9 P n base' ops fs' K e' m' := by rw [hb, hi, h, h']
end Go.AE
end
section
namespace Go.AE
open Go.RowKit
mutual
def Aa.AA(p:Nat→Nat):Aa→Aa
 | .ptr b i j=>.ptr (p b) i j
 | .AW els i j=>.AW (Z3 p els) i j
 | .sl b off len=>.sl (p b) off len
 | .An els=>.An (Z3 p els)
 | .map b=>.map (p b)
 | .func fn f c=>.func fn (U3 p f) (U3 p c)
 | .DU b=>.DU (p b)
 | .iface t v=>.iface t (v.AA p)
 | .agg cs=>.agg (U3 p cs)
 | .tuple cs=>.tuple (U3 p cs)
 | .bool b=>.bool b
 | .int k n=>.int k n
 | .str s=>.str s
 | .nilPtr=>.nilPtr
 | .Ai=>.Ai
 | .emp=>.emp
 | .Ay=>.Ay
 | .nilFunc=>.nilFunc
 | .atLeast n=>.atLeast n
 | .nilIface=>.nilIface
 | .bot=>.bot
def U3(p:Nat→Nat):List Aa→List Aa
 | []=>[]
 | x :: r=>x.AA p :: U3 p r
def Z3(p:Nat→Nat):List (List Aa)→List (List Aa)
 | []=>[]
 | x :: r=>U3 p x :: Z3 p r
end
theorem VZ(p:Nat→Nat):∀ (l:List Aa),U3 p l=l.map (·.AA p)
 | []=>rfl
 | x :: r=>by simp only[U3,List.map_cons,VZ p r]
theorem HE(p:Nat→Nat):∀ (l:List (List Aa)),Z3 p l=l.map (U3 p)
 | []=>rfl
 | x :: r=>by simp only[Z3,List.map_cons,HE p r]
theorem A1(p:Nat→Nat)(l:List Aa):(U3 p l).length=l.length:=by rw[VZ,lM]
theorem Rc(p:Nat→Nat)(l:List (List Aa)):(Z3 p l).length=l.length:=by rw[HE,lM]
theorem AK{p:Nat→Nat}{l:List Aa}{i:Nat}{y:Aa}:(U3 p l)[i]? = some y ↔ ∃ x,l[i]? = some x∧y=x.AA p:=by
 rw[VZ,gM];cases l[i]? with
 | none=>simp
 | some x=>simp[eq_comm]
theorem AM{p:Nat→Nat}{l:List (List Aa)}{i:Nat}{y:List Aa}:(Z3 p l)[i]? = some y ↔ ∃ x,l[i]? = some x∧y=U3 p x:=by
 rw[HE,gM];cases l[i]? with
 | none=>simp
 | some x=>simp[eq_comm]
mutual
theorem Aa.Bn(p:Nat→Nat):∀ (x:Aa),x.closed=true→x.AA p=x
 | .bool _,_ | .int _ _,_ | .str _,_ | .nilPtr,_ | .Ai,_ | .emp,_ | .Ay,_ | .nilFunc,_ | .nilIface,_ | .bot,_=>rfl
 | .An els,h=>by rw[Aa.AA,X7 p els h]
 | .agg cs,h=>by rw[Aa.AA,QG p cs h]
 | .tuple cs,h=>by rw[Aa.AA,QG p cs h]
 | .func _ a b,h=>by
  simp only[Aa.closed,bA]at h;rw[Aa.AA,QG p a h.1,QG p b h.2]
 | .AW els _ _,h=>by rw[Aa.AA,X7 p els h]
 | .ptr ..,h | .sl ..,h | .map ..,h | .DU ..,h | .atLeast ..,h | .iface ..,h=>by cases h
theorem QG(p:Nat→Nat):∀ (l:List Aa),W9 l=true→U3 p l=l
 | [],_=>rfl
 | x :: r,h=>by
  simp only[W9,bA]at h;rw[U3,Aa.Bn p x h.1,QG p r h.2]
theorem X7(p:Nat→Nat):∀ (l:List (List Aa)),V3 l=true→Z3 p l=l
 | [],_=>rfl
 | x :: r,h=>by
  simp only[V3,bA]at h;rw[Z3,QG p x h.1,X7 p r h.2]
end
theorem R.AA{Φ:Ao}{ρ ρ':AD}{p:Nat→Nat}(hp:∀ b l,ρ b=some l→ρ' (p b)=some l){x:Aa}{v:Value}(h:R Φ ρ x v):R Φ ρ' (x.AA p) v:=by
 induction h with
 | bool b=>exact .bool b
 | int k n=>exact .int k n
 | str s=>exact .str s
 | ptr b i j l h=>exact .ptr _ i j l (hp _ _ h)
 | AW els i j B o k c f hB hk hc _ ih=>
  refine .AW _ i j B o k c f hB (fun i row hi=>?_) (fun i row j x hi hj=>?_) (fun i row j x hi hj=>?_)
  ·obtain⟨r0,h1,rfl⟩:=AM.1 hi;rw[A1]; exact hk i r0 h1
  ·obtain⟨r0,h1,rfl⟩:=AM.1 hi;obtain⟨x0,h2,rfl⟩:=AK.1 hj;exact hc i r0 j x0 h1 h2
  ·obtain⟨r0,h1,rfl⟩:=AM.1 hi;obtain⟨x0,h2,rfl⟩:=AK.1 hj;exact ih i r0 j x0 h1 h2
 | nilPtr=>exact .nilPtr
 | Ai=>exact .Ai
 | emp a=>exact .emp a
 | sl b off len a cap l h hl hn hc ha=>exact .sl _ off len a cap l (hp _ _ h) hl hn hc ha
 | CQ a cap h=>exact .CQ a cap h
 | An els B o k cap c f hne hcap hB hk hc _ ih=>
  have e:=Rc p els;rw[← e];refine .An _ B o k cap c f (fun h0=>hne ?_) (by rw[e]; exact hcap) hB (fun i row hi=>?_) (fun i row j x hi hj=>?_) (fun i row j x hi hj=>?_)
  ·rw[h0]at e;exact List.length_eq_zero_iff.1 e.symm
  ·obtain⟨r0,h1,rfl⟩:=AM.1 hi;rw[A1]; exact hk i r0 h1
  ·obtain⟨r0,h1,rfl⟩:=AM.1 hi;obtain⟨x0,h2,rfl⟩:=AK.1 hj;exact hc i r0 j x0 h1 h2
  ·obtain⟨r0,h1,rfl⟩:=AM.1 hi;obtain⟨x0,h2,rfl⟩:=AK.1 hj;exact ih i r0 j x0 h1 h2
 | map b l h=>exact .map _ l (hp _ _ h)
 | Ay=>exact .Ay
 | func fn fs cs vf vc hf hc _ _ ih1 ih2=>
  refine .func fn _ _ vf vc (by rw[A1]; exact hf) (by rw[A1]; exact hc) (fun i x v hx hv=>?_) (fun i x v hx hv=>?_)
  ·obtain⟨x0,h2,rfl⟩:=AK.1 hx;exact ih1 i x0 v h2 hv
  ·obtain⟨x0,h2,rfl⟩:=AK.1 hx;exact ih2 i x0 v h2 hv
 | nilFunc=>exact .nilFunc
 | DU b l h=>exact .DU _ l (hp _ _ h)
 | atLeast n c h=>exact .atLeast n c h
 | iface t x v _ ih=>exact .iface t _ v ih
 | nilIface=>exact .nilIface
 | agg cs vs hs _ ih=>
  refine .agg _ vs (by rw[A1]; exact hs) (fun i x v hx hv=>?_)
  obtain⟨x0,h2,rfl⟩:=AK.1 hx;exact ih i x0 v h2 hv
 | tuple cs vs hs _ ih=>
  refine .tuple _ vs (by rw[A1]; exact hs) (fun i x v hx hv=>?_)
  obtain⟨x0,h2,rfl⟩:=AK.1 hx;exact ih i x0 v h2 hv
 | bot v=>exact .bot v
theorem R.BD{Φ:Ao}{ρ ρ':AD}{q:Nat→Nat}(hq:∀ b l,ρ (q b)=some l→ρ' b=some l){y:Aa}{v:Value}(h:R Φ ρ y v):∀ x:Aa,y=x.AA q→R Φ ρ' x v:=by
 induction h with
 | bool b=>intro x hx; cases x<;>simp only[Aa.AA,reduceCtorEq,Aa.bool.injEq]at hx; subst hx; exact .bool _
 | int k n=>intro x hx; cases x<;>simp only[Aa.AA,reduceCtorEq,Aa.int.injEq]at hx; obtain⟨rfl,rfl⟩:=hx; exact .int _ _
 | str s=>intro x hx; cases x<;>simp only[Aa.AA,reduceCtorEq,Aa.str.injEq]at hx; subst hx; exact .str _
 | ptr b i j l h=>intro x hx; cases x<;>simp only[Aa.AA,reduceCtorEq,Aa.ptr.injEq]at hx; obtain⟨rfl,rfl,rfl⟩:=hx; exact .ptr _ _ _ l (hq _ _ h)
 | AW els i j B o k c f hB hk hc _ ih=>
  intro x hx; cases x<;>simp only[Aa.AA,reduceCtorEq,Aa.AW.injEq]at hx; obtain⟨rfl,rfl,rfl⟩:=hx
  exact .AW _ _ _ B o k c f hB (fun i row hi=>by have:=hk i _ (AM.2 ⟨row,hi,rfl⟩); rwa[A1]at this) (fun i row j x hi hj=>hc i _ j _ (AM.2 ⟨row,hi,rfl⟩) (AK.2 ⟨x,hj,rfl⟩))
   (fun i row j x hi hj=>ih i _ j _ (AM.2 ⟨row,hi,rfl⟩) (AK.2 ⟨x,hj,rfl⟩) x rfl)
 | nilPtr=>intro x hx; cases x<;>simp only[Aa.AA,reduceCtorEq]at hx; exact .nilPtr
 | Ai=>intro x hx; cases x<;>simp only[Aa.AA,reduceCtorEq]at hx; exact .Ai
 | emp a=>intro x hx; cases x<;>simp only[Aa.AA,reduceCtorEq]at hx; exact .emp a
 | sl b off len a cap l h hl hn hc ha=>intro x hx; cases x<;>simp only[Aa.AA,reduceCtorEq,Aa.sl.injEq]at hx; obtain⟨rfl,rfl,rfl⟩:=hx; exact .sl _ _ _ a cap l (hq _ _ h) hl hn hc ha
 | CQ a cap hz=>
  intro x hx; cases x<;>simp only[Aa.AA,reduceCtorEq,Aa.An.injEq]at hx
  rename_i els;have e:=Rc q els;rw[← hx]at e;have:els=[]:=List.length_eq_zero_iff.1 e.symm;subst this;exact .CQ a cap hz
 | An els B o k cap c f hne hcap hB hk hc _ ih=>
  intro x hx; cases x<;>simp only[Aa.AA,reduceCtorEq,Aa.An.injEq]at hx
  rename_i els0;subst hx;rw[Rc]at hcap ⊢;exact .An _ B o k cap c f (fun h0=>hne (by rw[h0]; rfl)) hcap hB (fun i row hi=>by have:=hk i _ (AM.2 ⟨row,hi,rfl⟩); rwa[A1]at this) (fun i row j x hi hj=>hc i _ j _ (AM.2 ⟨row,hi,rfl⟩) (AK.2 ⟨x,hj,rfl⟩))
   (fun i row j x hi hj=>ih i _ j _ (AM.2 ⟨row,hi,rfl⟩) (AK.2 ⟨x,hj,rfl⟩) x rfl)
 | map b l h=>intro x hx; cases x<;>simp only[Aa.AA,reduceCtorEq,Aa.map.injEq]at hx; subst hx; exact .map _ l (hq _ _ h)
 | Ay=>intro x hx; cases x<;>simp only[Aa.AA,reduceCtorEq]at hx; exact .Ay
 | func fn fs cs vf vc hf hc _ _ ih1 ih2=>
  intro x hx; cases x<;>simp only[Aa.AA,reduceCtorEq,Aa.func.injEq]at hx; obtain⟨rfl,rfl,rfl⟩:=hx
  rw[A1]at hf hc;exact .func _ _ _ vf vc hf hc (fun i x v hx hv=>ih1 i _ v (AK.2 ⟨x,hx,rfl⟩) hv x rfl) (fun i x v hx hv=>ih2 i _ v (AK.2 ⟨x,hx,rfl⟩) hv x rfl)
 | nilFunc=>intro x hx; cases x<;>simp only[Aa.AA,reduceCtorEq]at hx; exact .nilFunc
 | DU b l h=>intro x hx; cases x<;>simp only[Aa.AA,reduceCtorEq,Aa.DU.injEq]at hx; subst hx; exact .DU _ l (hq _ _ h)
 | atLeast n c h=>intro x hx; cases x<;>simp only[Aa.AA,reduceCtorEq,Aa.atLeast.injEq]at hx; subst hx; exact .atLeast _ c h
 | iface t x v _ ih=>intro x hx; cases x<;>simp only[Aa.AA,reduceCtorEq,Aa.iface.injEq]at hx; obtain⟨rfl,rfl⟩:=hx; exact .iface _ _ v (ih _ rfl)
 | nilIface=>intro x hx; cases x<;>simp only[Aa.AA,reduceCtorEq]at hx; exact .nilIface
 | agg cs vs hs _ ih=>
  intro x hx; cases x<;>simp only[Aa.AA,reduceCtorEq,Aa.agg.injEq]at hx; subst hx
  rw[A1]at hs;exact .agg _ vs hs (fun i x v hx hv=>ih i _ v (AK.2 ⟨x,hx,rfl⟩) hv x rfl)
 | tuple cs vs hs _ ih=>
  intro x hx; cases x<;>simp only[Aa.AA,reduceCtorEq,Aa.tuple.injEq]at hx; subst hx
  rw[A1]at hs;exact .tuple _ vs hs (fun i x v hx hv=>ih i _ v (AK.2 ⟨x,hx,rfl⟩) hv x rfl)
 | bot v=>intro x hx; cases x<;>simp only[Aa.AA,reduceCtorEq]at hx; exact .bot v
def EA(p:Nat→Nat)(es:List (Aa×Aa×Nat)):List (Aa×Aa×Nat):=es.map fun x=>(x.1.AA p,x.2.1.AA p,x.2.2)
def Ag.AA(p:Nat→Nat):Ag→Ag
 | .cells k els=>.cells k (Z3 p els)
 | .map es clock=>.map (EA p es) clock
 | .Cl s pos=>.Cl s pos
 | .Ca m since seen stepped=>.Ca (m.map p) since seen stepped
theorem RowsIn.AA{Φ:Ao}{ρ ρ':AD}{p:Nat→Nat}(hp:∀ b l,ρ b=some l→ρ' (p b)=some l){els:List (List Aa)}{sh k:Nat}{c:Array Value}(h:RowsIn Φ ρ els sh k c):RowsIn Φ ρ' (Z3 p els) sh k c:=by
 refine⟨fun i row hi=>?_,fun i row j x hi hj=>?_⟩
 ·obtain⟨r0,h1,rfl⟩:=AM.1 hi;rw[A1]; exact h.1 i r0 h1
 ·obtain⟨r0,h1,rfl⟩:=AM.1 hi;obtain⟨x0,h2,rfl⟩:=AK.1 hj;obtain⟨v,g1,g2,g3⟩:=h.2 i r0 j x0 h1 h2;exact⟨v,g1,g2,g3.AA hp⟩
theorem BR.AA{Φ:Ao}{ρ ρ':AD}{p:Nat→Nat}(hp:∀ b l,ρ b=some l→ρ' (p b)=some l){x:Ag}{l:Loc}{o:Obj}(h:BR Φ ρ x l o):BR Φ ρ' (x.AA p) l o:=by
 cases h with
 | cells k els l c e hk hn hl hr h1=>exact .cells k _ l c e hk hn (by rw[Rc]; exact hl) (hr.AA hp) h1
 | map es clock l en hs hr=>
  refine .map _ clock l en (by rw[EA,lM]; exact hs) fun i x hx=>?_
  rw[EA,gM]at hx;cases h0:es[i]? with
  | none=>rw[h0]at hx; cases hx
  | some z=>
   rw[h0]at hx;injection hx with hx
   subst hx;obtain⟨y,g1,g2,g3,g4⟩:=hr i z h0;exact⟨y,g1,g2.AA hp,g3.AA hp,g4⟩
 | Cl s pos l=>exact .Cl s pos l
 | DO a b c l=>exact .DO a b c l
 | Ca m lm a b c l h h0=>exact .Ca _ lm a b c l (hp _ _ h) h0
theorem RowsIn.BD{Φ:Ao}{ρ ρ':AD}{q:Nat→Nat}(hq:∀ b l,ρ (q b)=some l→ρ' b=some l){els:List (List Aa)}{sh k:Nat}{c:Array Value}(h:RowsIn Φ ρ (Z3 q els) sh k c):RowsIn Φ ρ' els sh k c:=by
 refine⟨fun i row hi=>by have:=h.1 i _ (AM.2 ⟨row,hi,rfl⟩); rwa[A1]at this,fun i row j x hi hj=>?_⟩
 obtain⟨v,g1,g2,g3⟩:=h.2 i _ j _ (AM.2 ⟨row,hi,rfl⟩) (AK.2 ⟨x,hj,rfl⟩);exact⟨v,g1,g2,g3.BD hq x rfl⟩
theorem BR.BD{Φ:Ao}{ρ ρ':AD}{q:Nat→Nat}(hq:∀ b l,ρ (q b)=some l→ρ' b=some l){x:Ag}{l:Loc}{o:Obj}(h:BR Φ ρ (x.AA q) l o):BR Φ ρ' x l o:=by
 cases x with
 | cells k els=>
  simp only[Ag.AA]at h;cases h with
  | cells _ _ _ c e hk hn hl hr h1=>exact .cells k _ l c e hk hn (by rwa[Rc]at hl) (hr.BD hq) h1
 | map es clock=>
  simp only[Ag.AA]at h;cases h with
  | map _ _ _ en hs hr=>
   refine .map _ clock l en (by rwa[EA,lM]at hs) fun i x hx=>?_
   obtain⟨y,g1,g2,g3,g4⟩:=hr i (x.1.AA q,x.2.1.AA q,x.2.2) (by rw[EA,gM,hx]; rfl)
   exact⟨y,g1,g2.BD hq x.1 rfl,g3.BD hq x.2.1 rfl,g4⟩
 | Cl s pos=>
  simp only[Ag.AA]at h;cases h with
  | Cl _ _ _=>exact .Cl s pos l
 | Ca m since seen stepped=>
  simp only[Ag.AA]at h;cases m with
  | none=>cases h with|DO _ _ _ _=>exact .DO _ _ _ l
  | some b=>cases h with|Ca _ lm _ _ _ _ h h0=>exact .Ca b lm _ _ _ l (hq _ _ h) h0
end Go.AE
end
section
namespace Go.AE
open Go.RowKit
def W5:List (Nat×Nat)→Nat→Nat→Nat
 | [],_,b=>b
 | (c,o) :: r,d,b=>if b=c then o else W5 r d b
def Bz(l:List (Nat×Nat))(n0 k n b:Nat):Nat:=if b<n0 then b else if b<k then W5 l n b else b - k+n
theorem sS{l:List (Nat×Nat)}{n0 k n b:Nat}(h:Bz l n0 k n b<n)(h0:n0≤k):b<k:=by
 unfold Bz at h;split at h
 ·omega
 ·split at h<;>omega
def BY(q:Nat→Nat):Env→Env→Prop
 | [],_=>True
 | (i,v) :: r,e=>e.get i=v.AA q∧BY q r e
def BB(q:Nat→Nat):List (Nat×Ag)→Ac→Prop
 | [],_=>True
 | (b,x) :: r,m=>(m.get (q b)=some (x.AA q) ∨ ∃ y,m.get (q b)=some y∧EM (x.AA q) y)∧BB q r m
def Df(q:Nat→Nat)(b:Nat):List (Nat×Ag)→Prop
 | []=>True
 | (c,_) :: r=>(q b=q c→b=c)∧Df q b r
def Cz(q:Nat→Nat):List (Nat×Ag)→Prop
 | []=>True
 | (b,_) :: r=>Df q b r∧Cz q r
theorem Df.get{q:Nat→Nat}{b:Nat}:∀ {l:List (Nat×Ag)},Df q b l → ∀ c x,Y2 l c=some x→q b=q c→b=c
 | [],_,c,x,h,_=>by simp[Y2]at h
 | (d,y) :: r,hi,c,x,h,hq=>by
  simp only[Y2]at h;split at h
  ·rename_i e; subst e; exact hi.1 hq
  ·exact hi.2.get c x h hq
theorem Cz.get{q:Nat→Nat}:∀ {l:List (Nat×Ag)},Cz q l → ∀ b c x y,Y2 l b=some x→Y2 l c=some y→q b=q c→b=c
 | [],_,b,c,x,y,h,_,_=>by simp[Y2]at h
 | (d,z) :: r,hi,b,c,x,y,hb,hc,hq=>by
  simp only[Y2]at hb hc;split at hb
  ·rename_i e; subst e;split at hc
   ·rename_i e2; exact e2.symm
   ·exact hi.1.get c y hc hq
  ·split at hc
   ·rename_i e2; subst e2;exact(hi.1.get b x hb hq.symm).symm
   ·exact hi.2.get b c x y hb hc hq
theorem BY.get{q:Nat→Nat}:∀ {e0 e:Env},BY q e0 e → ∀ i,e0.get i=.bot∨e.get i=(e0.get i).AA q
 | [],_,_,i=>.inl rfl
 | (j,v) :: r,e,h,i=>by
  simp only[Env.get];by_cases hij:i=j
  ·subst hij; rw[iP rfl]; exact .inr h.1
  ·rw[iN hij]; exact h.2.get i
theorem BB.get{q:Nat→Nat}:∀ {l:List (Nat×Ag)} {m:Ac},BB q l m → ∀ b x,Y2 l b=some x → ∃ y,m.get (q b)=some y∧(y=x.AA q∨EM (x.AA q) y)
 | [],m,_,b,x,h=>by simp[Y2]at h
 | (c,y) :: r,m,hs,b,x,h=>by
  simp only[Y2]at h;split at h
  ·rename_i hb; subst hb; injection h with h; subst h
   rcases hs.1 with h1|⟨y',h1,h2⟩
   ·exact⟨_,h1,.inl rfl⟩
   ·exact⟨_,h1,.inr h2⟩
  ·exact hs.2.get b x h
def Bq(n0:Nat)(l:List (Nat×Nat))(e0:Env)(m0:Ac)(e:Env)(m:Ac):Prop:=
 n0≤m0.next∧n0≤m.next∧BY (Bz l n0 m0.next m.next) e0 e∧BB (Bz l n0 m0.next m.next) m0.bl m∧Cz (Bz l n0 m0.next m.next) m0.bl
theorem BR.GM{Φ:Ao}{ρ:AD}{x y:Ag}{l:Loc}{o:Obj}(hs:y=x∨EM x y)(h:BR Φ ρ y l o):BR Φ ρ x l o:=by
 rcases hs with rfl|hs
 ·exact h
 ·exact h.Mh hs
theorem Rel.BD{W:Ap}{Φ:Ao}{ρ:AD}{m m0:Mem}{w:World}{q:Nat→Nat}(h:Rel W Φ ρ m w)(hg:∀ b x,m0.get b=some x → ∃ y,m.get (q b)=some y∧(y=x.AA q∨EM (x.AA q) y))
 (hi:∀ b c x y,m0.get b=some x→m0.get c=some y→q b=q c→b=c) (hq:∀ b,q b<m.next→b<m0.next):Rel W Φ (fun b=>ρ (q b)) m0 w:=by
 refine⟨h.base,h.AX,fun b x hx=>?_,fun b b' x x' l l' h1 h2 h3 h4 h5=>?_,fun b l hb=>hq b (h.fresh _ _ hb),h.By⟩
 ·obtain⟨y,hy,hs⟩:=hg b x hx;obtain⟨l,o,g1,g2,g3,g4,g5⟩:=h.live _ y hy;exact⟨l,o,g1,g2,g3,g4,(g5.GM hs).BD (q:=q) (fun _ _ hb=>hb)⟩
 ·obtain⟨y,hy,_⟩:=hg b x h1;obtain⟨y',hy',_⟩:=hg b' x' h2;exact hi b b' x x' h1 h2 (h.inj _ _ y y' l l' hy hy' h3 h4 h5)
theorem Bq.rel{n0 n:Nat}{l:List (Nat×Nat)}{e0 e:Env}{m0 m:Ac}(h:Bq n0 l e0 m0 e m){W:Ap}{Φ:Ao}{ρ:AD}{vs:Array Value}{w:World}(hr:Rel W Φ ρ m.mem w)(ht:RL Φ ρ (Be n e) vs) :
 ∃ ρ',(∀ b,b<n0→ρ' b=ρ b)∧Rel W Φ ρ' m0.mem w∧RL Φ ρ' (Be n e0) vs:=by
 obtain⟨hn0,hn,he,hm,hi⟩:=h;refine⟨fun b=>ρ (Bz l n0 m0.next m.next b),fun b hb=>by simp only[Bz,iP hb],hr.BD (fun b x hx=>hm.get b x hx) (fun b c x y hb hc=>hi.get b c x y hb hc) (fun b hb=>sS hb hn0),?_⟩
 refine⟨by rw[ht.1,M5,M5],fun i x v hx hv=>?_⟩
 have hin:i<n:=by
  have:=(gS.1 hx).1;rwa[M5]at this
 rw[F0 hin]at hx;injection hx with hx
 subst hx;rcases he.get i with h1|h1
 ·rw[h1]; exact .bot v
 ·have hR:=ht.2 i (e.get i) v (F0 hin) hv;rw[h1]at hR;exact hR.BD (q:=Bz l n0 m0.next m.next) (fun _ _ hb=>hb) _ rfl
def Dk(n n0:Nat)(e0:Env)(m0:Ac)(e:Env)(m:Ac):Prop:=n0≤m0.next ∧ ∀(W:Ap) (Φ:Ao) (ρ:AD) (vs:Array Value) (w:World),Rel W Φ ρ m.mem w→RL Φ ρ (Be n e) vs →
 ∃ Am ρ',(∀ B c,Φ B=some c→Am B=some c)∧(∀ b,b<n0→ρ' b=ρ b)∧Rel W Am ρ' m0.mem w∧RL Am ρ' (Be n e0) vs
theorem Bq.wk{n0 n:Nat}{l:List (Nat×Nat)}{e0 e:Env}{m0 m:Ac}(h:Bq n0 l e0 m0 e m):Dk n n0 e0 m0 e m:=
 ⟨h.1,fun W Φ ρ vs w hr ht=>let ⟨ρ',h1,h2,h3⟩:=h.rel hr ht; ⟨Φ,ρ',fun _ _ h=>h,h1,h2,h3⟩⟩
def ZG(P:Program)(g:FuncId)(args:List Aa)(v:Aa)(d:Option Ag)(id:Nat)(x:List Nat)(m:Mem):Prop:=
 match d with
 | none=>Sg P g args v id x m
 | some b=>Az P g args (m.less x) [id] fun r m'=>r=v∧m'=(m.less x).set id b
def Li(id:Nat):Option Ag→List Nat
 | none=>[]
 | some _=>[id]
def Lg(id:Nat):Option Ag→List (Nat×Option Ag)
 | none=>[]
 | some b=>[(id,some b)]
theorem x4{P:Program}{g:FuncId}{args:List Aa}{v:Aa}{d:Option Ag}(id:Nat)(x:List Nat)(hx:id∉x)(m:Mem)(h:ZG P g args v d id x m):Nl P g args id x m v (m.apply (Lg id d)) (Li id d):=by
 cases d with
 | none=>exact wH id x hx m h
 | some b=>
  refine⟨(m.less x).set id b,hx,fun c hc=>?_,lR _,rfl,fun c=>?_,fun c hw _ hc=>?_,h⟩
  ·simp only[Mem.Ax];rw[iN (fun e:c=id=>hx (e ▸ hc))]
   simp[Mem.less,hc]
  ·simp only[Lg,Mem.apply,Mem.Ax];by_cases hc:c∈x
   ·rw[iP hc,iN (fun e:c=id=>hx (e ▸ hc))]
   ·rw[iN hc];by_cases hi:c=id
    ·rw[iP hi,iP hi]
    ·rw[iN hi,iN hi]; simp[Mem.less,hc]
  ·simp only[Mem.Ax];rw[iN (fun e:c=id=>hw (by rw[e]; exact List.mem_singleton.2 rfl))]
   simp[Mem.less,hc]
def E2(P:Program)(n base:Nat):List Af→List FT→(Env→Ac→Prop)→Env→Ac→Prop
 | [],_,K,e,m=>K e m
 | o :: r,fs,K,e,m=>
  match Q4 n e o.guard with
  | some false=>E2 P n base r (fs++[.ops [] []]) K (X6 e o.dst Aj) m
  | some true=>
   match o.op with
   | .call f xs=>match U5 n e f xs with
    | some (g,args)=>∃ v d,ZG P g args v d (base+fs.length) (DT base fs.length r.length) m.mem∧O0 fs (.call (Li (base+fs.length) d) (DT base fs.length r.length) m.next) o.un ∧
     E2 P n base r (fs++[.call (Li (base+fs.length) d) (DT base fs.length r.length) m.next]) K (X6 e o.dst v) (m.app (Lg (base+fs.length) d))
    | none=>False
   | op=>match Ak (base+fs.length) (AI n e) m.get op with
    | some (v,d)=>O0 fs (.ops (U9 (base+fs.length) (AI n e) op) (T2 (AI n e) op)) o.un∧E2 P n base r (fs++[.ops (U9 (base+fs.length) (AI n e) op) (T2 (AI n e) op)]) K (X6 e o.dst v) (m.app d)
    | none=>False
  | none=>False
theorem VW{P:Program}{n base:Nat}{K:Env→Ac→Prop}:∀ (ops:List Af) (fs:List FT) (e:Env) (m:Ac),E2 P n base ops fs K e m→R8 P base ops fs (fun σ=>∃ e m,σ=⟨Be n e,m.mem⟩∧K e m) (Be n e) m.mem
 | [],_,e,m,h=>⟨e,m,rfl,h⟩
 | o :: r,fs,e,m,h=>by
  simp only[E2]at h;simp only[R8,QK];cases hw:Q4 n e o.guard with
  | none=>simp[hw]at h
  | some q=>
   cases q with
   | false=>
    simp only[hw]at h;simp only[G1];exact VW r _ _ m h
   | true=>
    simp only[hw]at h;simp only;have other:∀ op,o.op=op→(match Ak (base+fs.length) (AI n e) m.get op with|some (v,d)=>O0 fs (.ops (U9 (base+fs.length) (AI n e) op) (T2 (AI n e) op)) o.un∧E2 P n base r (fs++[.ops (U9 (base+fs.length) (AI n e) op) (T2 (AI n e) op)]) K (X6 e o.dst v) (m.app d)|none=>False) →
     (match Ae (base+fs.length) (Be n e) m.mem op with|some (v,m')=>O0 fs (.ops (T8 (base+fs.length) (Be n e) op) (L8 (Be n e) op)) o.un∧R8 P base r (fs++[.ops (T8 (base+fs.length) (Be n e) op) (L8 (Be n e) op)]) (fun σ=>∃ e m,σ=⟨Be n e,m.mem⟩∧K e m) (put (Be n e) o.dst v) m'|none=>False):=by
     intro op _ hh;cases hs:Ak (base+fs.length) (AI n e) m.get op with
     | none=>simp[hs]at hh
     | some vd=>
      obtain⟨v,d⟩:=vd;simp only[hs]at hh;have:=Ow (m:=m.mem) (t:=Be n e) (id:=base+fs.length) (op:=op) (v:=v) (d:=d) (by rw[G5]; exact hs)
      rw[this];simp only[G1,Wq,Xz,G5];rw[← Ac.BW];exact⟨hh.1,VW r _ _ _ hh.2⟩
    cases hop:o.op with
    | call f xs=>
     simp only[hop]at h;simp only[RF];cases hc:U5 n e f xs with
     | none=>simp[hc]at h
     | some ga=>
      obtain⟨g,args⟩:=ga;simp only[hc]at h;obtain⟨v,d,hp,hi,hk⟩:=h;simp only;refine⟨Li (base+fs.length) d,DT base fs.length r.length,v,_,x4 _ _ (oH _ _ _) _ hp,hi,?_⟩;simp only[G1];rw[← Ac.BW];exact VW r _ _ _ hk
    | _=>rw[hop]at h; exact other _ hop h
def EL(P:Program)(n n0:Nat):Aq→(Exit→Env→Ac→Prop)→Env→Ac→Prop
 | .skip,Q,e,m=>Q .normal e m
 | .region false ops,Q,e,m=>L6 P n m.next ops 0 (Q .normal) e (m.at (m.next+ops.length))
 | .region true ops,Q,e,m=>E2 P n m.next ops [] (Q .normal) e (m.at (m.next+ops.length))
 | .seq a b,Q,e,m=>EL P n n0 a (P5 (EL P n n0 b Q) Q) e m
 | .cond c a b,Q,e,m=>match AI n e c with
  | .bool true=>EL P n n0 a Q e m
  | .bool false=>EL P n n0 b Q e m
  | _=>False
 | .block id c,Q,e,m=>EL P n n0 c (H6 id Q) e m
 | .loop c,Q,e,m=>∃ (I:Nat→Env→Ac→Prop),(∃ k e0 m0,Dk n n0 e0 m0 e m∧I k e0 m0) ∧ ∀ k e1 m1,I k e1 m1→EL P n n0 c (P5 (fun e' m'=>∃ j e0 m0,j<k∧Dk n n0 e0 m0 e' m'∧I j e0 m0) Q) e1 m1
 | .exit id,Q,e,m=>Q (.exit id) e m
 | .scope c,Q,e,m=>EL P n n0 c Q e m
 | .label _,Q,e,m=>Q .normal e m
 | .ret,Q,e,m=>Q .ret e m
 | .bad,_,_,_=>False
def Ot(W:Ap)(Φ:Ao)(ρ:AD)(n n0:Nat)(Q:Exit→Env→Ac→Prop)(x:Exit)(a:Act)(w:World):Prop:=
 ∃ e m Am ρ',(∀ B c,Φ B=some c→Am B=some c)∧(∀ b,b<n0→ρ' b=ρ b)∧n0≤m.next∧Rel W Am ρ' m.mem w∧RL Am ρ' (Be n e) a.tmps∧a.defers=[]∧(∀ l,x≠.goto l)∧Q x e m
theorem QD{W:Ap}{Φ Am:Ao}{ρ ρ':AD}{n n0:Nat}{Q Q':Exit→Env→Ac→Prop}{x:Exit}{a:Act}{w:World}(hp:∀ B c,Φ B=some c→Am B=some c)(hk:∀ b,b<n0→ρ' b=ρ b)
 (h:Ot W Am ρ' n n0 Q x a w) (hq:∀ e m,Q x e m→Q' x e m):Ot W Φ ρ n n0 Q' x a w:=by
 obtain⟨e,m,Φ2,ρ2,h1,h2,h3,h4,h5,h6,h7,h8⟩:=h;exact⟨e,m,Φ2,ρ2,fun B c hB=>h1 B c (hp B c hB),fun b hb=>(h2 b hb).trans (hk b hb),h3,h4,h5,h6,h7,hq _ _ h8⟩
section
variable {P:Program} {n n0:Nat}
def Hp(P:Program)(n n0:Nat)(c:Code)(Q:Exit→Env→Ac→Prop)(e:Env)(m:Ac):Prop:=
 ∀(W:Ap) (Φ:Ao) (ρ:AD) (a:Act) (w:World),n0≤m.next→Rel W Φ ρ m.mem w→RL Φ ρ (Be n e) a.tmps→a.defers=[]→c.wp P (Ot W Φ ρ n n0 Q) a w
theorem tF(hm:P.follows .mixedOrders=true){id:Nat}{ops:Array Oper}{draw:Bool}{Q:Exit→Env→Ac→Prop}{e:Env}{m:Ac}(h1:Cy P (Y5 P (.region id ops draw)) (D0 n Q) ⟨Be n e,m.mem⟩):Hp P n n0 (.region id ops draw) Q e m:=by
 intro W Φ ρ a w hn hr ht hd;have h2:Ip P (.region id ops draw) (D0 n Q) ⟨Be n e,m.mem⟩:=by
  cases draw with
  | false=>exact rC h1
  | true=>exact YK hm h1
 refine wp_mono (h2 W Φ ρ a w hr ht hd) fun x a' w' hl=>?_
 obtain⟨σ,Am,ρ',g1,g2,g3,g4,g5,g6,g7⟩:=hl;have BZ:∀ b,b<n0→ρ' b=ρ b:=fun b hb=>by
  cases hq:ρ b with
  | none=>exact g2 b (Nat.lt_of_lt_of_le hb hn) hq
  | some l=>exact g1.Fy b l hq
 have Dz:m.next≤σ.m.next:=g3;cases x<;>simp only[D0]at g7<;>first
  | exact g7.elim
  | (obtain ⟨e',m',rfl,hq⟩:=g7
     exact⟨e',m',Am,ρ',g1.AX,BZ,Nat.le_trans hn Dz,g4,g5,g6,fun l hl=>(by cases hl),hq⟩)
theorem uR(hm:P.follows .mixedOrders=true):∀ (c:Code) (Q:Exit→Env→Ac→Prop) (e:Env) (m:Ac),EL P n n0 (Y5 P c) Q e m→Hp P n n0 c Q e m:=by
 intro c
 induction c with
 | skip=>exact fun Q e m h W Φ ρ a w hn hr ht hd=>wp_skip ⟨e,m,Φ,ρ,fun _ _ h=>h,fun _ _=>rfl,hn,hr,ht,hd,fun l hl=>(by cases hl),h⟩
 | region id ops draw=>
  intro Q e m h;refine tF hm ?_;have hw:∀ A:Aq,(∀ d os,A=.region d os∨A=.bad∨True)→(match A with | .region _ _=>True | .bad=>True|_=>False)→EL P n n0 A Q e m→Cy P A (D0 n Q) ⟨Be n e,m.mem⟩:=by
   intro A _ hA h;cases A with
   | region d os=>
    cases d with
    | false=>exact Tc os 0 e _ h
    | true=>exact VW os [] e _ h
   | bad=>exact h.elim
   | _=>exact hA.elim
  refine hw _ (fun _ _=>.inr (.inr trivial)) ?_ h
  cases draw with
  | false=>
   simp only[Y5];cases I1 P ops ops.toList<;>trivial
  | true=>
   simp only[Y5];cases I1 P ops ops.toList with
   | none=>trivial
   | some as=>
    simp only;cases SZ ops as (IF ops.toList)<;>trivial
 | seq x y ihx ihy=>
  intro Q e m h W Φ ρ a w hn hr ht hd;simp only[Y5,EL]at h;refine wp_seq (wp_mono (ihx _ _ _ h W Φ ρ a w hn hr ht hd) ?_);intro x' a' w' hl;have key:∀ e',x'=e'→e'≠.normal→Ot W Φ ρ n n0 Q x' a' w':=by
   intro e' he hne;refine QD (fun _ _ h=>h) (fun _ _=>rfl) hl fun e m hq=>?_
   subst he;cases x'<;>first|exact absurd rfl hne|exact hq
  cases x' with
  | normal=>
   obtain⟨e',m',Am,ρ',h1,h2,h3,h4,h5,h6,h7,h8⟩:=hl;exact wp_mono (ihy _ _ _ h8 W Am ρ' a' w' h3 h4 h5 h6) fun x a w hl'=>QD h1 h2 hl' fun _ _ h=>h
  | exit i=>exact key _ rfl (by simp)
  | goto l=>exact key _ rfl (by simp)
  | ret=>exact key _ rfl (by simp)
  | panic ch=>exact key _ rfl (by simp)
  | outgrown=>exact key _ rfl (by simp)
 | cond c x y ihx ihy=>
  intro Q e m h W Φ ρ a w hn hr ht hd;simp only[Y5]at h;cases hc:Y7 c with
  | none=>simp[hc,EL]at h
  | some c'=>
   simp only[hc,EL]at h;have hv:=U8 ht hc;rw[G5]at hv;generalize AI n e c'=z at h hv;split at h
   ·generalize hz:a.eval c=v at hv;cases hv;exact wp_cond_true hz (ihx _ _ _ h W Φ ρ a w hn hr ht hd)
   ·generalize hz:a.eval c=v at hv;cases hv;exact wp_cond_false hz (ihy _ _ _ h W Φ ρ a w hn hr ht hd)
   ·exact h.elim
 | block id c ih=>
  intro Q e m h W Φ ρ a w hn hr ht hd;simp only[Y5,EL]at h;refine wp_block (wp_mono (ih _ _ _ h W Φ ρ a w hn hr ht hd) ?_);intro x a' w' hl;cases x with
  | exit i=>
   simp only[Exit.inBlock];obtain⟨e',m',Am,ρ',h1,h2,h3,h4,h5,h6,h7,h8⟩:=hl;simp only[H6]at h8;split
   ·rename_i hi;rw[iP hi]at h8;exact⟨e',m',Am,ρ',h1,h2,h3,h4,h5,h6,fun l hl=>(by cases hl),h8⟩
   ·rename_i hi;rw[iN hi]at h8;exact⟨e',m',Am,ρ',h1,h2,h3,h4,h5,h6,fun l hl=>(by cases hl),h8⟩
  | normal=>exact hl
  | goto l=>exact hl
  | ret=>exact hl
  | panic ch=>exact hl
  | outgrown=>exact hl
 | loop c ih=>
  intro Q e m h W Φ ρ a w hn hr ht hd;simp only[Y5,EL]at h;obtain⟨I,⟨k0,e0,m0,hs0,h0⟩,hround⟩:=h;obtain⟨Φ1,ρ1,hp1,hk1,hr1,ht1⟩:=hs0.2 W Φ ρ _ w hr ht;refine wp_loop_ghost (fun k a' w'=>∃ e' m' Am ρ',(∀ B c,Φ B=some c→Am B=some c)∧(∀ b,b<n0→ρ' b=ρ b)∧n0≤m'.next∧Rel W Am ρ' m'.mem w'∧RL Am ρ' (Be n e') a'.tmps∧a'.defers=[]∧I k e' m') k0
   ⟨e0,m0,Φ1,ρ1,hp1,hk1,hs0.1,hr1,ht1,hd,h0⟩ ?_
  rintro k a' w' ⟨e',m',Am,ρ',h1,h2,h3,h4,h5,h6,h7⟩;refine wp_mono (ih _ _ _ (hround k e' m' h7) W Am ρ' a' w' h3 h4 h5 h6) ?_;intro x a'' w'' hl;have key:∀ e',x=e'→e'≠.normal→Ot W Φ ρ n n0 Q x a'' w'':=by
   intro e' he hne;refine QD h1 h2 hl fun e m hq=>?_
   subst he;cases x<;>first|exact absurd rfl hne|exact hq
  cases x with
  | normal=>
   obtain⟨e2,m2,Φ2,ρ2,g1,g2,g3,g4,g5,g6,_,j,e3,m3,g7,g8,g9⟩:=hl;obtain⟨Φ3,ρ3,hp3,hk3,hr3,ht3⟩:=g8.2 W Φ2 ρ2 _ _ g4 g5;exact⟨j,g7,e3,m3,Φ3,ρ3,fun B c hB=>hp3 B c (g1 B c (h1 B c hB)),fun b hb=>(hk3 b hb).trans ((g2 b hb).trans (h2 b hb)),g8.1,hr3,ht3,g6,g9⟩
  | exit i=>exact key _ rfl (by simp)
  | goto l=>exact key _ rfl (by simp)
  | ret=>exact key _ rfl (by simp)
  | panic ch=>exact key _ rfl (by simp)
  | outgrown=>exact key _ rfl (by simp)
 | exit id=>exact fun Q e m h W Φ ρ a w hn hr ht hd=>wp_exit ⟨e,m,Φ,ρ,fun _ _ h=>h,fun _ _=>rfl,hn,hr,ht,hd,fun l hl=>(by cases hl),h⟩
 | scope c ih=>
  intro Q e m h W Φ ρ a w hn hr ht hd;simp only[Y5,EL]at h;refine wp_scope_straight (wp_mono (ih _ _ _ h W Φ ρ a w hn hr ht hd) ?_);intro x a' w' hl;cases x with
  | goto l=>
   obtain⟨_,_,_,_,_,_,_,_,_,_,h7,_⟩:=hl;exact absurd rfl (h7 l)
  | normal=>exact hl
  | exit i=>exact hl
  | ret=>exact hl
  | panic ch=>exact hl
  | outgrown=>exact hl
 | label l=>exact fun Q e m h W Φ ρ a w hn hr ht hd=>wp_label ⟨e,m,Φ,ρ,fun _ _ h=>h,fun _ _=>rfl,hn,hr,ht,hd,fun l hl=>(by cases hl),h⟩
 | ret=>exact fun Q e m h W Φ ρ a w hn hr ht hd=>wp_ret ⟨e,m,Φ,ρ,fun _ _ h=>h,fun _ _=>rfl,hn,hr,ht,hd,fun l hl=>(by cases hl),h⟩
 | rangeFunc f ps x y _ _=>exact fun Q e m h=>by simp[Y5,EL]at h
 | goto l=>exact fun Q e m h=>by simp[Y5,EL]at h
 | refuse s=>exact fun Q e m h=>by simp[Y5,EL]at h
def Q6(n:Nat)(e:Env)(m:Ac):List (Nat×Option (Option Nat))→Option (List Aa)
 | []=>some []
 | (i,none) :: r=>match Q6 n e m r with
  | some l=>some (AI n e (.tmp i) :: l)
  | none=>none
 | (i,some k) :: r=>match J4 m.get k (AI n e (.tmp i))with
  | some v=>(match Q6 n e m r with
   | some l=>some (v :: l)
   | none=>none)
  | none=>none
def D4(K:Aa→Ac→Prop)(m:Ac):Option (List Aa)→Prop
 | some [x]=>K x m
 | some l=>K (.tuple l) m
 | none=>False
def I6(n:Nat)(rs:List (Nat×Option (Option Nat)))(K:Aa→Ac→Prop):Exit→Env→Ac→Prop
 | .normal,e,m=>D4 K m (Q6 n e m rs)
 | .ret,e,m=>D4 K m (Q6 n e m rs)
 | _,_,_=>False
theorem qO{e:Env}{m:Ac}{x:Nat×Option (Option Nat)}{v:Aa}{r:List (Nat×Option (Option Nat))}{l:List Aa}(h:Q6 n e m (x :: r)=some (v :: l)):A7 (Be n e) m.mem x=some v∧Q6 n e m r=some l:=by
 obtain⟨i,o⟩:=x;have hev:(Be n e).getD i Aj=AI n e (.tmp i):=congrFun (G5 n e) (.tmp i);cases o with
 | none=>
  simp only[Q6]at h;cases hr:Q6 n e m r with
  | none=>simp[hr]at h
  | some l'=>
   simp only[hr,oI,List.cons.injEq]at h;obtain⟨rfl,rfl⟩:=h;exact⟨by simp only[A7,hev],rfl⟩
 | some k=>
  simp only[Q6]at h;cases hl:J4 m.get k (AI n e (.tmp i))with
  | none=>simp[hl]at h
  | some w=>
   cases hr:Q6 n e m r with
   | none=>simp[hl,hr]at h
   | some l'=>
    simp only[hl,hr,oI,List.cons.injEq]at h;obtain⟨rfl,rfl⟩:=h;refine⟨?_,rfl⟩;simp only[A7,hev,Zu];exact hl
theorem ZE{e:Env}{m:Ac}:∀ {rs:List (Nat×Option (Option Nat))} {l:List Aa},Q6 n e m rs=some l→(rs=[]∧l=[]) ∨ ∃ x r v t,rs=x :: r∧l=v :: t
 | [],l,h=>by simp only[Q6,oI]at h; exact .inl ⟨rfl,h.symm⟩
 | (i,none) :: r,l,h=>by
  simp only[Q6]at h;cases hr:Q6 n e m r with
  | none=>simp[hr]at h
  | some l'=>simp only[hr,oI]at h; exact .inr ⟨_,_,_,_,rfl,h.symm⟩
 | (i,some k) :: r,l,h=>by
  simp only[Q6]at h;cases hl:J4 m.get k (AI n e (.tmp i))with
  | none=>simp[hl]at h
  | some w=>
   cases hr:Q6 n e m r with
   | none=>simp[hl,hr]at h
   | some l'=>simp only[hl,hr,oI]at h; exact .inr ⟨_,_,_,_,rfl,h.symm⟩
theorem oG{e:Env}{m:Ac}:∀ {rs:List (Nat×Option (Option Nat))} {l:List Aa},Q6 n e m rs=some l→E7 (Be n e) m.mem rs=some l
 | [],l,h=>h
 | x :: r,l,h=>by
  rcases ZE h with⟨h1,_⟩|⟨y,r',v,t,h1,rfl⟩
  ·cases h1
  ·cases h1;obtain⟨h2,h3⟩:=qO h;simp only[E7,h2,oG h3]
theorem tI{e:Env}{m:Ac}{rs:List (Nat×Option (Option Nat))}{K:Aa→Ac→Prop}(h:D4 K m (Q6 n e m rs)):∃ v,M2 (Be n e) m.mem rs=some v∧K v m:=by
 cases hy:Q6 n e m rs with
 | none=>rw[hy]at h; exact h.elim
 | some l=>
  rw[hy]at h;have h1:=oG hy;rcases ZE hy with⟨rfl,rfl⟩|⟨x,r,v,t,rfl,rfl⟩
  ·exact⟨_,rfl,h⟩
  ·obtain⟨h2,h3⟩:=qO hy;rcases ZE h3 with⟨rfl,rfl⟩|⟨x',r',v',t',rfl,rfl⟩
   ·exact⟨v,by simp only[M2,h2],h⟩
   ·exact⟨.tuple (v :: v' :: t'),by simp only[M2,h1],h⟩
def Cc(P:Program)(f:FuncId)(args:List Aa)(m:Ac)(K:Aa→Ac→Prop):Prop:=Az P f args m.mem [] fun r m'=>∃ sm:Ac,m'=sm.mem∧K r sm
def M4(n0:Nat)(K:Aa→Ac→Prop)(v:Aa)(m:Ac):Prop:=∃ v0 m0 l,Bq n0 l [(0,v0)] m0 [(0,v)] m∧K v0 m0
theorem Z9n(hm:P.follows .mixedOrders=true){f:FuncId}{fn:Func}{af:Av}{args:List Aa}{m:Ac}{K:Aa→Ac→Prop}(hf:P.funcs[f]? = some fn)(hc:Bt P fn=some af)(hl:Nat.ble args.length af.ntmps=true)
 (h:EL P af.ntmps m.next af.body (I6 af.ntmps af.results (M4 m.next K)) (P3 0 args []) m):Cc P f args m K:=by
 obtain⟨c,hb,hbody,Ck,hnt,hname⟩:=Xb hc;have hl':args.length≤af.ntmps:=Nat.le_of_ble_eq_true hl;rw[hbody]at h;refine⟨⟨fn,hf,hname,by rw[hb]; rfl⟩,fun W Φ ρ vs w hr ha Ch=>?_⟩
 have ht0:=Ty (k:=fn.ntmps) ha;have ht1:RL Φ ρ (Be af.ntmps (P3 0 args [])) (vs++Array.replicate (fn.ntmps - vs.size) undef):=by
  refine ht0.sub (by rw[M5]; simp; omega) fun i x hx=>?_
  have hi:i<af.ntmps:=by
   have:=(gS.1 hx).1;rwa[M5]at this
  rw[F0 hi,Xw]at hx;injection hx with hx
  by_cases h2:0≤i∧i<0+args.length
  ·rw[iP h2]at hx;rw[List.getElem?_append,iP (by omega)]
   refine .inr ?_;rw[← hx,Nat.sub_zero,List.getD,gE (by omega)]
   rfl
  ·rw[iN h2]at hx;exact .inl hx.symm
 have hs:=uR (n0:=m.next) hm c _ _ _ h W Φ ρ { tmps:=vs++Array.replicate (fn.ntmps - vs.size) undef,defers:=[] } w (lR _) hr ht1 rfl;refine calls_of_wp hf hb (wp_mono hs fun x a w' hl=>?_)
 obtain⟨e,m',Am,ρ',h1,h2,h3,h4,h5,h6,h7,h8⟩:=hl;have fin:D4 (M4 m.next K) m' (Q6 af.ntmps e m' af.results)→a.defers=[] ∧ ∃ v,(results fn a.tmps).run P w'=.ok v w' ∧
  ∃ v' r m' Am ρ',Ending.returned v=.returned v'∧Ext Φ ρ Am ρ'∧(∀ b,b<m.mem.next→b∉([]:List Nat)→ρ b=none→ρ' b=none)∧Rel W Am ρ' m' w'∧R Am ρ' r v'∧m.mem.next≤m'.next ∧ ∃ sm:Ac,m'=sm.mem∧K r sm:=by
  intro hh;obtain⟨v,g1,v0,m0,l,g2,g3⟩:=tI hh;obtain⟨u,k1,k2⟩:=QB h4 h5 Ck g1;obtain⟨ρ2,j1,j2,j3⟩:=g2.rel (n:=1) (vs:=#[u]) h4 ⟨rfl,fun i x y hx hy=>by
   cases i with
   | zero=>
    rw[F0 (by omega)]at hx
    simp only[Env.get,if_true,oI]at hx;have:u=y:=by simpa using hy
    subst hx; subst this; exact k2
   | succ i=>simp at hy⟩
  have k3:R Am ρ2 v0 u:=j3.2 0 v0 u (by rw[F0 (by omega)]; rfl) rfl
  have BZ:∀ b,b<m.next→ρ2 b=ρ b:=fun b hb=>(j1 b hb).trans (h2 b hb)
  refine⟨h6,u,k1,u,v0,m0.mem,Am,ρ2,rfl,⟨h1,fun b l hb=>?_⟩,fun b hb _ h0=>(BZ b hb).trans h0,j2,k3,g2.1,m0,rfl,g3⟩
  exact(BZ b (hr.fresh b l hb)).trans hb
 cases x with
 | normal=>exact fin h8
 | ret=>exact fin h8
 | exit i=>exact h8.elim
 | goto l=>exact h8.elim
 | panic ch=>exact h8.elim
 | outgrown=>exact h8.elim
end
end Go.AE
end
section
namespace Go.AE
open Go.RowKit
variable {P:Program}
theorem bG{f:FuncId}{AZ:List Aa}{m0:Mem}{K0:Aa→Mem→Prop}(h:Az P f AZ m0 [] K0){m:Mem}{q:Nat→Nat}{K:Aa→Mem→Prop}
 (Ds:∀ c x,m0.get c=some x → ∃ y,m.get (q c)=some y∧(y=x.AA q∨EM (x.AA q) y))
 (hinj:∀ c c' x x',m0.get c=some x→m0.get c'=some x'→q c=q c'→c=c')
 (hq:∀ c,m0.next≤c→q c=c - m0.next+m.next)
 (hK:∀ r0 m1,K0 r0 m1 → ∃ m':Mem,m'.next=m1.next - m0.next+m.next ∧
   (∀ b x,m'.get b=some x→(∃ c y,m1.get c=some y∧b=q c∧x=y.AA q)∨(m.get b=some x ∧ ∀ c y,m0.get c=some y→q c≠b))∧K (r0.AA q) m')
 (av:List Nat):Az P f (U3 q AZ) m av K:=by
 refine⟨h.1,fun W Φ ρ vs w hr ha Ch=>?_⟩
 have hqlt:∀ b,q b<m.next→b<m0.next:=fun b hb=>by
  rcases lG b m0.next with h1|h1
  ·exact h1
  ·rw[hq b h1]at hb; omega
 have hfr:∀ B,(∃ c l y,m.get c=some y∧(∀ d z,m0.get d=some z→q d≠c)∧ρ c=some l∧l.blk=B) ∨ ¬(∃ c l y,m.get c=some y∧(∀ d z,m0.get d=some z→q d≠c)∧ρ c=some l∧l.blk=B):=fun B=>Classical.em _
 obtain⟨g,hg⟩:∃ g:Nat→Option Obj,∀ B,((∃ c l y,m.get c=some y∧(∀ d z,m0.get d=some z→q d≠c)∧ρ c=some l∧l.blk=B)→g B=w.heap[B]?) ∧
  (¬(∃ c l y,m.get c=some y∧(∀ d z,m0.get d=some z→q d≠c)∧ρ c=some l∧l.blk=B)→g B=W.g B):=by
  refine⟨fun B=>@ite _ (∃ c l y,m.get c=some y∧(∀ d z,m0.get d=some z→q d≠c)∧ρ c=some l∧l.blk=B) (Classical.propDecidable _) (w.heap[B]?) (W.g B),fun B=>⟨fun h=>?_,fun h=>?_⟩⟩
  ·simp only[h,if_true]
  ·simp only[h,if_false]
 let W':Ap:=⟨W.w,g,Φ⟩
 have hfree2:∀ B,W'.Cd B→W.Cd B:=by
  intro B hB;refine⟨hB.1,?_⟩;rcases hfr B with h1|h1
  ·obtain⟨c,l,y,hy,_,hl,hlB⟩:=h1;obtain⟨l',o,g1,g2,_⟩:=hr.live c y hy;rw[hl]at g1; injection g1 with g1; subst g1
   rw[← hlB]; exact g2.2
  ·have h2:g B=none:=hB.2;rw[(hg B).2 h1]at h2; exact h2
 have hprot:∀ B o,g B=some o→w.heap[B]? = some o:=by
  intro B o hB;rcases hfr B with h1|h1
  ·rw[(hg B).1 h1]at hB; exact hB
  ·rw[(hg B).2 h1]at hB; exact hr.base.BU B o hB
 have hr0:Rel W Φ (fun b=>ρ (q b)) m0 w:=hr.BD Ds hinj hqlt
 have hr1:Rel W' Φ (fun b=>ρ (q b)) m0 w:=by
  refine⟨⟨hr.base.below,hprot⟩,hr.AX,fun b x hx=>?_,hr0.inj,hr0.fresh,fun B c hB=>.inl hB⟩
  obtain⟨l,o,g1,g2,g3,g4,g5⟩:=hr0.live b x hx;refine⟨l,o,g1,⟨g2.1,?_⟩,g3,g4,g5⟩;rcases hfr l.blk with h1|h1
  ·obtain⟨c,l',y',hy',hc,hl,hlB⟩:=h1;obtain⟨y,hy,_⟩:=Ds b x hx;exact absurd (hr.inj _ _ y y' l l' hy hy' g1 hl hlB.symm) (hc b x hx)
  ·show g l.blk=none;rw[(hg _).2 h1]; exact g2.2
 have ha0:RL Φ (fun b=>ρ (q b)) AZ vs:=by
  refine⟨by rw[ha.1,A1],fun i x v hx hv=>?_⟩
  exact(ha.2 i (x.AA q) v (AK.2 ⟨x,hx,rfl⟩) hv).BD (q:=q) (fun _ _ hb=>hb) x rfl
 refine(h.2 W' Φ (fun b=>ρ (q b)) vs w hr1 ha0 (fun b hb=>by simp at hb)).mono fun e w' he=>?_
 obtain⟨u,r,m1,Am,ρ1,e1,hE,hk,hr',hR,hn',hK0⟩:=he;obtain⟨m',hm'n,hm'g,hK'⟩:=hK r m1 hK0;obtain⟨ρ',hρ'⟩:∃ ρ':AD,∀ b,ρ' b=if b<m.next then ρ b else ρ1 (b - m.next+m0.next):=⟨_,fun _=>rfl⟩
 have hp:∀ b l,ρ1 b=some l→ρ' (q b)=some l:=by
  intro b l hb;rw[hρ'];rcases lG b m0.next with h1|h1
  ·cases hz:ρ (q b)with
   | none=>rw[hk b h1 (by simp) hz]at hb; cases hb
   | some l'=>
    have h2:=hE.Fy b l' hz;rw[hb]at h2; injection h2 with h2; subst h2
    rw[iP (hr.fresh _ _ hz)]
  ·rw[hq b h1,iN (by omega)]
   have:b - m0.next+m.next - m.next+m0.next=b:=by omega
   rw[this]; exact hb
 have BZ:∀ b,b<m.next→ρ' b=ρ b:=fun b hb=>by rw[hρ',iP hb]
 have hframed:∀ c y,m.get c=some y→(∀ d z,m0.get d=some z→q d≠c) → ∃ l o,ρ' c=some l∧ρ c=some l∧W.Cd l.blk∧g l.blk=some o∧Am l.blk=none∧w'.heap[l.blk]? = some o∧BR Am ρ' y l o:=by
  intro c y hy hc;obtain⟨l,o,g1,g2,g3,g4,g5⟩:=hr.live c y hy;have Dd:g l.blk=some o:=by rw[(hg _).1 ⟨c,l,y,hy,hc,g1,rfl⟩]; exact g4
  refine⟨l,o,(BZ c (hr.fresh _ _ g1)).trans g1,g1,g2,Dd,?_,hr'.base.BU _ _ Dd,g5.ext ⟨hE.AX,fun b l hb=>(BZ b (hr.fresh _ _ hb)).trans hb⟩⟩
  cases hpz:Am l.blk with
  | none=>rfl
  | some cc=>
   rcases hr'.By _ _ hpz with h1|h1
   ·have h1':Φ l.blk=some cc:=h1;rw[g3]at h1'; cases h1'
   ·have:g l.blk=none:=h1.2;rw[Dd]at this; cases this
 have hseen:∀ c y,m1.get c=some y → ∃ l o,ρ' (q c)=some l∧ρ1 c=some l∧W'.Cd l.blk∧Am l.blk=none∧w'.heap[l.blk]? = some o∧BR Am ρ' (y.AA q) l o:=by
  intro c y hy;obtain⟨l,o,g1,g2,g3,g4,g5⟩:=hr'.live c y hy;exact⟨l,o,hp _ _ g1,g1,g2,g3,g4,g5.AA hp⟩
 refine⟨u,r.AA q,m',Am,ρ',e1,⟨hE.AX,fun b l hb=>(BZ b (hr.fresh _ _ hb)).trans hb⟩,fun b hb _ h0=>(BZ b hb).trans h0,?_,hR.AA hp,by rw[hm'n]; omega,hK'⟩
 refine⟨⟨hr'.base.below,fun B o hB=>hr'.base.BU B o ?_⟩,hr'.AX,fun b y hy=>?_,fun b b' y y' l l' h1 h2 k1 k2 he=>?_,fun b l hb=>?_,fun B c hB=>?_⟩
 ·rcases hfr B with h1|h1
  ·show g B=some o;rw[(hg B).1 h1]; exact hr.base.BU B o hB
  ·show g B=some o;rw[(hg B).2 h1]; exact hB
 ·rcases hm'g b y hy with⟨c,z,hz,rfl,rfl⟩|⟨hb,hc⟩
  ·obtain⟨l,o,q1,_,q3,q5,q6,q7⟩:=hseen c z hz;exact⟨l,o,q1,hfree2 _ q3,q5,q6,q7⟩
  ·obtain⟨l,o,q1,_,q3,_,q5,q6,q7⟩:=hframed b y hb hc;exact⟨l,o,q1,q3,q5,q6,q7⟩
 ·rcases hm'g b y h1 with⟨c,z,hz,rfl,rfl⟩|⟨hb,hc⟩
  ·obtain⟨l1,o1,q1,q2,q3,_,_,_⟩:=hseen c z hz;rw[k1]at q1; injection q1 with q1; subst q1
   rcases hm'g b' y' h2 with⟨c',z',hz',rfl,rfl⟩|⟨hb',hc'⟩
   ·obtain⟨l2,o2,p1,p2,_,_,_,_⟩:=hseen c' z' hz';rw[k2]at p1; injection p1 with p1; subst p1
    rw[hr'.inj c c' z z' l l' hz hz' q2 p2 he]
   ·obtain⟨l2,o2,p1,_,_,p4,_⟩:=hframed b' y' hb' hc';rw[k2]at p1; injection p1 with p1; subst p1
    have:g l.blk=none:=q3.2;rw[he,p4]at this; cases this
  ·obtain⟨l1,o1,q1,q2,_,q4,_⟩:=hframed b y hb hc;rw[k1]at q1; injection q1 with q1; subst q1
   rcases hm'g b' y' h2 with⟨c',z',hz',rfl,rfl⟩|⟨hb',hc'⟩
   ·obtain⟨l2,o2,p1,p2,p3,_,_,_⟩:=hseen c' z' hz';rw[k2]at p1; injection p1 with p1; subst p1
    have:g l'.blk=none:=p3.2;rw[← he,q4]at this; cases this
   ·obtain⟨l2,o2,p1,p2,_,p4,_⟩:=hframed b' y' hb' hc';rw[k2]at p1; injection p1 with p1; subst p1
    exact hr.inj b b' y y' l l' hb hb' q2 p2 he
 ·rw[hρ']at hb;rw[hm'n];split at hb
  ·rename_i h1; omega
  ·have:=hr'.fresh _ _ hb;omega
 ·rcases hr'.By B c hB with h1|h1
  ·exact hr.By B c h1
  ·exact .inr (hfree2 B h1)
def X3(b:Nat):List Nat→Bool
 | []=>false
 | c :: r=>if b=c then true else X3 b r
def N8(q:Nat→Nat):List (Nat×Ag)→List Nat
 | []=>[]
 | (b,_) :: r=>q b :: N8 q r
def L7(q:Nat→Nat):List (Nat×Ag)→List (Nat×Ag)→List (Nat×Ag)
 | [],t=>t
 | (b,x) :: r,t=>(q b,x.AA q) :: L7 q r t
def Q8(ks:List Nat):List (Nat×Ag)→List (Nat×Ag)
 | []=>[]
 | (b,x) :: r=>bif X3 b ks then Q8 ks r else (b,x) :: Q8 ks r
theorem Br{b:Nat}:∀ {l:List Nat},X3 b l=true↔b∈l
 | []=>by simp[X3]
 | c :: r=>by
  simp only[X3,mC];by_cases h:b=c
  ·simp[h]
  ·simp[h,Br (l:=r)]
theorem Se{q:Nat→Nat}{l:List (Nat×Ag)}{c:Nat}{x:Ag}(h:Y2 l c=some x):q c∈N8 q l:=by
 induction l with
 | nil=>simp[Y2]at h
 | cons a r ih=>
  obtain⟨d,y⟩:=a;simp only[Y2]at h;split at h
  ·rename_i e; subst e; exact List.mem_cons_self ..
  ·exact List.mem_cons_of_mem _ (ih h)
theorem QX{ks:List Nat}{b:Nat}{x:Ag}:∀ {l:List (Nat×Ag)},Y2 (Q8 ks l) b=some x→Y2 l b=some x∧b∉ks
 | [],h=>by simp[Q8,Y2]at h
 | (c,y) :: r,h=>by
  simp only[Q8]at h;cases hm:X3 c ks with
  | true=>
   rw[hm]at h;simp only[cond_true]at h;have:=QX h;refine⟨?_,this.2⟩;simp only[Y2];rw[iN (fun e:b=c=>this.2 (by rw[e]; exact Br.1 hm))]
   exact this.1
  | false=>
   rw[hm]at h;simp only[cond_false,Y2]at h ⊢;split at h
   ·rename_i e;refine⟨by rw[iP e]; exact h,fun hin=>?_⟩
    subst e;rw[Br.2 hin]at hm; cases hm
   ·rename_i e;have:=QX h;exact⟨by rw[iN e]; exact this.1,this.2⟩
theorem XB{q:Nat→Nat}{b:Nat}{x:Ag}{t:List (Nat×Ag)}:∀ {l:List (Nat×Ag)},Y2 (L7 q l t) b=some x→(∃ c y,Y2 l c=some y∧b=q c∧x=y.AA q)∨Y2 t b=some x
 | [],h=>.inr h
 | (c,y) :: r,h=>by
  simp only[L7,Y2]at h;split at h
  ·rename_i e;injection h with h
   exact .inl ⟨c,y,by simp[Y2],e,h.symm⟩
  ·rename_i e;rcases XB h with⟨d,z,h1,h2,h3⟩|h1
   ·refine .inl ⟨d,z,?_,h2,h3⟩;simp only[Y2];rw[iN (fun e2=>e (by rw[h2,e2]))]
    exact h1
   ·exact .inr h1
theorem V4{g:FuncId}{AZ args:List Aa}{m0 m:Ac}{K0 K:Aa→Ac→Prop}{id:Nat}(h:Cc P g AZ m0 K0)(l:List (Nat×Nat))(ha:U3 (Bz l 0 m0.next m.next) AZ=args)
 (hs:BB (Bz l 0 m0.next m.next) m0.bl m) (hi:Cz (Bz l 0 m0.next m.next) m0.bl)
 (hK:∀ r0 sm,K0 r0 sm→K (r0.AA (Bz l 0 m0.next m.next)) ⟨L7 (Bz l 0 m0.next m.next) sm.bl (Q8 (N8 (Bz l 0 m0.next m.next) m0.bl) m.bl),sm.next - m0.next+m.next⟩) :
 SC P g args m id K:=by
 subst ha;refine bG h (m:=m.mem) (fun c x hx=>hs.get c x hx) (fun c c' x x' hx hx'=>hi.get c c' x x' hx hx') (fun c hc=>?_) (fun r0 m1 hh=>?_) [id]
 ·have hc':m0.next≤c:=hc;simp only[Bz,Nat.not_lt_zero,if_false];rw[iN (by omega)]
  rfl
 ·obtain⟨sm,rfl,hk⟩:=hh;refine⟨_,rfl,fun b x hx=>?_,⟨⟨L7 (Bz l 0 m0.next m.next) sm.bl (Q8 (N8 (Bz l 0 m0.next m.next) m0.bl) m.bl),sm.next - m0.next+m.next⟩,rfl,hK r0 sm hk⟩⟩
  rcases XB hx with⟨c,y,h1,h2,h3⟩|h1
  ·exact .inl ⟨c,y,h1,h2,h3⟩
  ·have:=QX h1;exact .inr ⟨this.1,fun c y hc e=>this.2 (e ▸ Se hc)⟩
theorem MJ{g:FuncId}{args:List Aa}{v:Aa}(hca:W9 args=true)(Jd:v.closed=true){k:Nat}(h:Cc P g args ⟨[],1⟩ fun r m'=>W3 m'.get k r=some v):AS P g args v:=by
 intro m av;have h':Az P g args (Ac.mem ⟨[],1⟩) [0] fun r m'=>∃ sm:Ac,m'=sm.mem∧W3 sm.get k r=some v:=by
  refine⟨h.1,fun W Φ ρ vs w hr ha _=>(h.2 W Φ ρ vs w hr ha (fun b hb=>by simp at hb)).mono fun e w' he=>?_⟩
  obtain⟨u,r,m1,Am,ρ',e1,hE,hk,hr',hR,hn,hKr⟩:=he;exact⟨u,r,m1,Am,ρ',e1,hE,fun b hb _ h0=>hk b hb (by simp) h0,hr',hR,hn,hKr⟩
 exact aK hca Jd (fun c=>rfl) (Nat.lt_succ_self 0) h' (fun r m' hr=>by obtain⟨sm,rfl,h⟩:=hr; exact⟨k,h⟩) m av
theorem Cc.mono{g:FuncId}{args:List Aa}{m:Ac}{K K':Aa→Ac→Prop}(h:Cc P g args m K)(hk:∀ r m',K r m'→K' r m'):Cc P g args m K':=
 Az.mono h fun r m' hh=>by obtain⟨sm,e,h1⟩:=hh; exact⟨sm,e,hk r sm h1⟩
def Kj(v:Aa)(A B:Prop):Prop:=
 match v with
 | .bool true=>A
 | .bool false=>B
 | _=>False
@[congr] theorem Yeo{v v' : Aa}{A B : Prop}(h : v = v') : Kj v A B = Kj v' A B := by rw [h]
end Go.AE
end
