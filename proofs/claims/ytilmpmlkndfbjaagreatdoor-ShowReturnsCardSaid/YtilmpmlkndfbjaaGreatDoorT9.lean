/- Part 9 -/
import Derived.Test.YtilmpmlkndfbjaaGreatDoorT8
set_option linter.all false
open List (getD map_cons)
namespace Go.AE
open Go.RowKit
abbrev Env:=List (Nat×Aa)
def Env.get:Env→Nat→Aa
 | [],_=>.bot
 | (j,v) :: r,i=>if i=j then v else Env.get r i
def AG(n:Nat)(e:Env):Ah→Aa
 | .tmp i=>if i<n then e.get i else Ai
 | .const v=>v
 | .fn f=>.func (.func f) [] []
def Y8(e:Env)(d:Option Nat)(v:Aa):Env:=
 match d with
 | some d=>(d,v) :: e
 | none=>e
structure Ac where
 bl:List (Nat×Af)
 next:Nat
def Z7:List (Nat×Af)→Nat→Option Af
 | [],_=>none
 | (c,x) :: r,b=>if b=c then some x else Z7 r b
def O7:List (Nat×Af)→Nat→List (Nat×Af)
 | [],_=>[]
 | (c,x) :: r,b=>if b=c then O7 r b else (c,x) :: O7 r b
def Ac.get(m:Ac)(b:Nat):Option Af:=Z7 m.bl b
def Ac.mem(m:Ac):Mem:=⟨m.get,m.next⟩
def Ac.at(m:Ac)(n:Nat):Ac:=⟨m.bl,n⟩
def Ac.app(m:Ac):List (Nat×Option Af)→Ac
 | []=>m
 | (b,some x) :: r=>Ac.app ⟨(b,x) :: m.bl,m.next⟩ r
 | (b,none) :: r=>Ac.app ⟨O7 m.bl b,m.next⟩ r
theorem D4(b c:Nat):∀(l:List (Nat×Af)),Z7 (O7 l b) c=if c=b then none else Z7 l c
 |[]=>by simp[O7,Z7]
 | (d,x)::r=>by
  simp only[O7];by_cases h:b=d
  ·rw[iP h,D4 b c r];simp only[Z7];by_cases a:c=b
   ·simp[a]
   rw[iN a,iN a,iN (by omega)]
  rw[iN h];simp only[Z7];by_cases a:c=d
  ·rw[iP a,iP a,iN (by omega)]
  rw[iN a,iN a,D4 b c r]
theorem Ac.Bw:∀(d:List (Nat×Option Af)) (m:Ac),(m.app d).mem=m.mem.apply d
 |[],_=>rfl
 | (b,some x)::r,m=>by
  simp only[Ac.app,Mem.apply];rw[Ac.Bw r]
  congr 1
 | (b,none)::r,m=>by
  simp only[Ac.app,Mem.apply];rw[Ac.Bw r]
  congr 1
  exact Mem.ext' (λc=>by simp only[Ac.mem,Ac.get,Mem.Bx];exact D4 b c m.bl) rfl
def AQ(n:Nat)(e:Env):List Aa:=(List.range n).map e.get
theorem M0(n:Nat)(e:Env):(AQ n e).length=n:=by simp[AQ]
theorem H7{n:Nat}{e:Env}{i:Nat}(h:i<n):(AQ n e)[i]?=some (e.get i):=by simp[AQ,h]
theorem K8(n:Nat)(e:Env):ev (AQ n e)=AG n e:=by
 funext x
 cases x with
 |tmp i=>
  simp only[ev,AG];by_cases h:i<n
  ·rw[iP h,getD,H7 h];rfl
  rw[iN h,getD,List.getElem?_eq_none (by rw[M0];omega)];rfl
 |const v=>rfl
 |fn f=>rfl
theorem J9(n:Nat)(e:Env)(d:Option Nat)(v:Aa):put (AQ n e) d v=AQ n (Y8 e d v):=by
 cases d with
 |none=>rfl
 |some d=>
  simp only[put,Y8];apply List.ext_getElem?;intro i;rw[List.getElem?_set];by_cases hi:i<n
  ·rw[H7 hi,H7 hi];simp only[Env.get];by_cases h:d=i
   ·rw[iP h,iP (by rw[M0];omega),iP h.symm]
   rw[iN h,iN (λe=>h e.symm)]
  rw[List.getElem?_eq_none (by rw[M0];omega),List.getElem?_eq_none (by rw[M0];omega)];by_cases h:d=i
  ·rw[iP h,iN (by rw[M0];omega)]
  rw[iN h]
def S2(n:Nat)(e:Env):Option (Nat×Bool)→Option Bool
 | none=>some true
 | some (d,w)=>match AG n e (.tmp d)with
  | .bool b=>some (b == w)
  | .tuple []=>some false
  | _=>none
theorem Qh(n:Nat)(e:Env)(g:Option (Nat×Bool)):P7 (AQ n e) g=S2 n e g:=by
 cases g with
 |none=>rfl
 |some p=>
  obtain⟨d,w⟩:=p;have h:(AQ n e).getD d Ai=AG n e (.tmp d):=congrFun (K8 n e) (.tmp d);simp only[P7,S2,h];rfl
def U9(n:Nat)(e:Env)(f:Ah)(xs:List Ah):Option (FuncId×List Aa):=
 match AG n e f with
 | .func (.func g) first cap=>some (g,first++xs.map (AG n e)++cap)
 | _=>none
theorem Xr(n:Nat)(e:Env)(f:Ah)(xs:List Ah):callee (AQ n e) f xs=U9 n e f xs:=by
 simp only[callee,U9,K8];rfl
def SC(P:Program)(g:FuncId)(args:List Aa)(m:Ac)(id:Nat)(K:Aa→Ac→Prop):Prop:=
 Aw P g args m.mem [id] fun v m''=>∃ m',m''=m'.mem∧K v m'
def Au(P:Program)(g:FuncId)(args:List Aa)(v:Aa):Prop:=∀ (m:Mem) (av:List Nat),Aw P g args m av fun r m'=>r=v∧m'=m
theorem T0{P:Program}{g:FuncId}{args:List Aa}{m:Ac}{id:Nat}{v:Aa}{K:Aa->Ac->Prop}(h:Au P g args v)(a:K v m):SC P g args m id K:=
 (h m.mem [id]).mono λr c b=>by obtain⟨rfl,rfl⟩:=b;exact⟨m,rfl,a⟩
def F4(P:Program)(n base:Nat):List Ag→Nat→(Env→Ac→Prop)→Env→Ac→Prop
 | [],_,K,e,m=>K e m
 | o :: r,i,K,e,m=>
  match S2 n e o.guard with
  | some false=>F4 P n base r (i+1) K (Y8 e o.dst Ai) m
  | some true=>
   match o.op with
   | .call f xs=>match U9 n e f xs with
    | some (g,args)=>SC P g args m (base+i) fun v m'=>F4 P n base r (i+1) K (Y8 e o.dst v) m'
    | none=>False
   | op=>match Ak (base+i) (AG n e) m.get op with
    | some (v,d)=>F4 P n base r (i+1) K (Y8 e o.dst v) (m.app d)
    | none=>False
  | none=>False
def Ui:Nat→Nat→List Nat
 | 0,_=>[]
 | k+1,s=>s :: Ui k (s+1)
def DX(base i n:Nat):List Nat:=Ui i base++Ui n (base+i+1)
theorem kT:∀{k s c:Nat},c∈Ui k s->s<=c/\c<s+k
 |0,_,_,h=>by simp[Ui]at h
 |k+1,s,c,h=>by
  simp only[Ui,mC]at h;rcases h with rfl|h
  ·omega
  have:=kT h;omega
theorem vr(base i n:Nat):base+i∉DX base i n:=by
 intro h;rcases List.mem_append.1 h with h|h
 ·have:=kT h;omega
 have:=kT h;omega
def Xd(P:Program)(g:FuncId)(args:List Aa)(v:Aa)(id:Nat)(x:List Nat)(m:Mem):Prop:=Aw P g args (m.less x) [id] fun r m'=>r=v∧m'=m.less x
theorem Au.x{P:Program}{g:FuncId}{args:List Aa}{v:Aa}(h:Au P g args v)(id:Nat)(x:List Nat)(m:Mem):Xd P g args v id x m:=h _ _
def Ie(P:Program)(n base:Nat):List Ag→List FT→(Env→Ac→Prop)→Env→Ac→Prop
 | [],_,K,e,m=>K e m
 | o :: r,fs,K,e,m=>
  match S2 n e o.guard with
  | some false=>Ie P n base r (fs++[.ops [] []]) K (Y8 e o.dst Ai) m
  | some true=>
   match o.op with
   | .call f xs=>match U9 n e f xs with
    | some (g,args)=>∃ v,Xd P g args v (base+fs.length) (DX base fs.length r.length) m.mem∧M7 fs (.call [] (DX base fs.length r.length) m.next) o.un∧Ie P n base r (fs++[.call [] (DX base fs.length r.length) m.next]) K (Y8 e o.dst v) m
    | none=>False
   | op=>match Ak (base+fs.length) (AG n e) m.get op with
    | some (v,d)=>M7 fs (.ops (S9 (base+fs.length) (AG n e) op) (S8 (AG n e) op)) o.un∧Ie P n base r (fs++[.ops (S9 (base+fs.length) (AG n e) op) (S8 (AG n e) op)]) K (Y8 e o.dst v) (m.app d)
    | none=>False
  | none=>False
def Dy:Env→Env→Prop
 | [],_=>True
 | (i,v) :: r,e=>e.get i=v∧Dy r e
def FD:Af→Af→Prop
 | .cells k els,.cells k' els'=>k=k'∧els.length=els'.length ∧ ∀(i:Nat) (row row':List Aa),els[i]? = some row→els'[i]? = some row'→row.length=row'.length ∧ ∀(j:Nat) (x:Aa),row[j]? = some x→x=Aa.bot∨row'[j]? = some x
 | x,y=>x=y
theorem BR.Pz{Φ:Ap}{ρ:AI}{x y:Af}{l:Loc}{o:Obj}(p:FD x y)(h:BR Φ ρ y l o):BR Φ ρ x l o:=by
 cases x with
 |cells k els=>
  cases y with
  |cells G b=>
   obtain⟨rfl,A,n⟩:=p;cases h with
   |cells k b l c e z C B u w=>
    have d:∀(i:Nat) (row:List Aa),els[i]?=some row -> ∃a,b[i]?=some a/\row.length=a.length /\ ∀(j:Nat) (x:Aa),row[j]?=some x->x=Aa.bot\/a[j]?=some x:=by
     intro i row hi;have f:i<b.length:=by rw[<-A];exact(gS.1 hi).1
     exact⟨b[i],gE f,n i row _ hi (gE f)⟩
    refine .cells k els l c e z C (by omega) ⟨λi row hi=>?_,λi row j x hi t=>?_⟩ w
    ·obtain⟨a,q,r,s⟩:=d i row hi;rw[r];exact u.1 i a q
    obtain⟨a,q,r,s⟩:=d i row hi;have m:j<a.length:=by rw[<-r];exact(gS.1 t).1
    obtain⟨v,D,E,F⟩:=u.2 i a j _ q (gE m);refine⟨v,D,E,?_⟩;rcases s j x t with rfl|g
    ·exact .bot v
    rw[gE m]at g;injection g with g
    rw[<-g];exact F
  |_=>cases p
 |_=>cases y<;>first|(cases p;done)|(cases p;exact h)
theorem Rel.Pz{W:Aq}{Φ:Ap}{ρ:AI}{m c:Mem}{w:World}(h:Rel W Φ ρ m w)(t:m.next<=c.next)(f:∀b x,c.get b=some x->m.get b=some x \/ ∃y,m.get b=some y/\FD x y):Rel W Φ ρ c w:=by
 have a:∀b x,c.get b=some x -> ∃y,m.get b=some y:=λb x d=>(f b x d).elim (λg=>⟨_,g⟩) λ⟨y,g,_⟩=>⟨y,g⟩;refine⟨h.base,h.AX,λb x d=>?_,λb b' x z l l' q r=>?_,λb l s=>Nat.lt_of_lt_of_le (h.fresh b l s) t,h.BH⟩
 ·rcases f b x d with g|⟨y,g,u⟩
  ·exact h.live b x g
  obtain⟨l,o,i,j,k,n,p⟩:=h.live b y g;exact⟨l,o,i,j,k,n,p.Pz u⟩
 obtain⟨y,v⟩:=a b x q;obtain⟨A,e⟩:=a b' z r;exact h.inj b b' y A l l' v e
def Dx:List (Nat×Af)→Ac→Prop
 | [],_=>True
 | (b,x) :: r,m=>(m.get b=some x ∨ ∃ y,m.get b=some y∧FD x y)∧Dx r m
def CY(e0:Env)(m0:Ac)(e:Env)(m:Ac):Prop:=Dy e0 e∧Dx m0.bl m∧m.next≤m0.next
theorem Dy.get:∀{b e:Env},Dy b e -> ∀i,b.get i=.bot\/b.get i=e.get i
 |[],_,_,i=>.inl rfl
 | (j,v)::r,e,h,i=>by
  simp only[Env.get];by_cases a:i=j
  ·subst a;rw[iP rfl];exact .inr h.1.symm
  rw[iN a];exact h.2.get i
theorem Dx.get:∀{l:List (Nat×Af)}{m:Ac},Dx l m -> ∀b x,Z7 l b=some x->m.get b=some x \/ ∃y,m.get b=some y/\FD x y
 |[],_,_,b,x,h=>by simp[Z7]at h
 | (c,y)::r,m,a,b,x,h=>by
  simp only[Z7]at h;split at h
  ·rename_i d;subst d;injection h with h;subst h;exact a.1
  exact a.2.get b x h
theorem CY.weak{n:Nat}{d e:Env}{m0 m:Ac}(h:CY d m0 e m):AY.Fm ⟨AQ n d,m0.mem⟩ ⟨AQ n e,m.mem⟩:=by
 refine⟨h.2.2,λW Φ ρ vs w f g=>⟨Φ,.refl _ _,f.Pz h.2.2 (λb x a=>h.2.1.get b x a),g.sub (by rw[M0,M0]) (λi x a=>?_)⟩⟩;have hi:i<n:=by
  have:=(gS.1 a).1;rw[M0]at this;exact this
 simp only at a ⊢;rw[H7 hi]at a ⊢;injection a with a
 rcases h.1.get i with c|c
 ·exact .inl (a.symm.trans c)
 exact .inr (by rw[<-c,a])
def O0(next:Env→Ac→Prop)(Q:Exit→Env→Ac→Prop):Exit→Env→Ac→Prop
 | .normal,e,m=>next e m
 | x,e,m=>Q x e m
def I2(id:Nat)(Q:Exit→Env→Ac→Prop):Exit→Env→Ac→Prop
 | .exit id',e,m=>if id'=id then Q .normal e m else Q (.exit id') e m
 | x,e,m=>Q x e m
def wpS(P:Program)(n:Nat):An→(Exit→Env→Ac→Prop)→Env→Ac→Prop
 | .skip,Q,e,m=>Q .normal e m
 | .region false ops,Q,e,m=>F4 P n m.next ops 0 (Q .normal) e (m.at (m.next+ops.length))
 | .region true ops,Q,e,m=>Ie P n m.next ops [] (Q .normal) e (m.at (m.next+ops.length))
 | .seq a b,Q,e,m=>wpS P n a (O0 (wpS P n b Q) Q) e m
 | .cond c a b,Q,e,m=>match AG n e c with
  | .bool true=>wpS P n a Q e m
  | .bool false=>wpS P n b Q e m
  | _=>False
 | .block id c,Q,e,m=>wpS P n c (I2 id Q) e m
 | .loop c,Q,e,m=>∃ (I:Nat→Env→Ac→Prop),(∃ k e0 m0,CY e0 m0 e m∧I k e0 m0) ∧ ∀ k e1 m1,I k e1 m1→wpS P n c (O0 (fun e' m'=>∃ j e0 m0,j<k∧CY e0 m0 e' m'∧I j e0 m0) Q) e1 m1
 | .exit id,Q,e,m=>Q (.exit id) e m
 | .scope c,Q,e,m=>wpS P n c Q e m
 | .label _,Q,e,m=>Q .normal e m
 | .ret,Q,e,m=>Q .ret e m
 | .bad,_,_,_=>False
def E4(n:Nat)(Q:Exit→Env→Ac→Prop):Exit→AY→Prop
 | .goto _,_=>False
 | x,σ=>∃ e m,σ=⟨AQ n e,m.mem⟩∧Q x e m
section
variable {P:Program} {n:Nat}
theorem We{base:Nat}{K:Env->Ac->Prop}:∀(j:List Ag) (i:Nat) (e:Env) (m:Ac),F4 P n base j i K e m->I7 P base j i (λσ=>∃e m,σ=⟨AQ n e,m.mem⟩/\K e m) (AQ n e) m.mem
 |[],_,e,m,h=>⟨e,m,rfl,h⟩
 |o::r,i,e,m,h=>by
  simp only[F4]at h;simp only[I7,Qh];cases l:S2 n e o.guard with
  |none=>simp[l]at h
  |some q=>
   cases q with
   |false=>
    simp only[l]at h;simp only[J9];exact We r (i+1) _ m h
   |true=>
    simp only[l]at h;simp only;have b:∀op,o.op=op->(match Ak (base+i) (AG n e) m.get op with|some (v,d)=>F4 P n base r (i+1) K (Y8 e o.dst v) (m.app d)|none=>False) ->
     (match Ae (base+i) (AQ n e) m.mem op with|some (v,p)=>I7 P base r (i+1) (λσ=>∃e m,σ=⟨AQ n e,m.mem⟩/\K e m) (put (AQ n e) o.dst v) p|none=>False):=by
     intro op _ c;cases k:Ak (base+i) (AG n e) m.get op with
     |none=>simp[k]at c
     |some z=>
      obtain⟨v,d⟩:=z;simp only[k]at c;have:=JO (m:=m.mem) (t:=AQ n e) (id:=base+i) (op:=op) (v:=v) (d:=d) (by rw[K8];exact k);rw[this];simp only[J9];rw[<-Ac.Bw];exact We r (i+1) _ _ c
    cases a:o.op with
    |call f xs=>
     simp only[a]at h;simp only[Xr];cases s:U9 n e f xs with
     |none=>simp[s]at h
     |some u=>
      obtain⟨g,args⟩:=u;simp only[s]at h;simp only;refine h.mono λv y c=>?_;obtain⟨p,rfl,w⟩:=c;simp only[J9];exact We r (i+1) _ p w
    |_=>rw[a]at h;exact b _ a h
theorem Zxx{g:FuncId}{args:List Aa}{v:Aa}(id:Nat)(x:List Nat)(b:id∉x)(m:Mem)(h:Xd P g args v id x m):QL P g args id x m v m []:=by
 refine⟨m.less x,b,λc a=>by simp[Mem.less,a],lR _,rfl,λc=>?_,λc _ _ a=>by simp[Mem.less,a],h⟩;by_cases a:c∈x
 ·rw[iP a]
 rw[iN a];simp[Mem.less,a]
theorem cD{base:Nat}{K:Env->Ac->Prop}:∀(i:List Ag) (a:List FT) (e:Env) (m:Ac),Ie P n base i a K e m->M2 P base i a (λσ=>∃e m,σ=⟨AQ n e,m.mem⟩/\K e m) (AQ n e) m.mem
 |[],_,e,m,h=>⟨e,m,rfl,h⟩
 |o::r,a,e,m,h=>by
  simp only[Ie]at h;simp only[M2,Qh];cases l:S2 n e o.guard with
  |none=>simp[l]at h
  |some q=>
   cases q with
   |false=>
    simp only[l]at h;simp only[J9];exact cD r _ _ m h
   |true=>
    simp only[l]at h;simp only;have c:∀op,o.op=op->(match Ak (base+a.length) (AG n e) m.get op with|some (v,d)=>M7 a (.ops (S9 (base+a.length) (AG n e) op) (S8 (AG n e) op)) o.un/\Ie P n base r (a++[.ops (S9 (base+a.length) (AG n e) op) (S8 (AG n e) op)]) K (Y8 e o.dst v) (m.app d)|none=>False) ->
     (match Ae (base+a.length) (AQ n e) m.mem op with|some (v,m')=>M7 a (.ops (P5 (base+a.length) (AQ n e) op) (F7 (AQ n e) op)) o.un/\M2 P base r (a++[.ops (P5 (base+a.length) (AQ n e) op) (F7 (AQ n e) op)]) (λσ=>∃e m,σ=⟨AQ n e,m.mem⟩/\K e m) (put (AQ n e) o.dst v) m'|none=>False):=by
     intro op _ j;cases k:Ak (base+a.length) (AG n e) m.get op with
     |none=>simp[k]at j
     |some y=>
      obtain⟨v,d⟩:=y;simp only[k]at j;have:=JO (m:=m.mem) (t:=AQ n e) (id:=base+a.length) (op:=op) (v:=v) (d:=d) (by rw[K8];exact k);rw[this];simp only[J9,fF,dW,K8];rw[<-Ac.Bw];exact⟨j.1,cD r _ _ _ j.2⟩
    cases b:o.op with
    |call f xs=>
     simp only[b]at h;simp only[Xr];cases p:U9 n e f xs with
     |none=>simp[p]at h
     |some s=>
      obtain⟨g,args⟩:=s;simp only[p]at h;obtain⟨v,w,hi,u⟩:=h;simp only;refine⟨[],DX base a.length r.length,v,m.mem,Zxx _ _ (vr _ _ _) _ w,hi,?_⟩;simp only[J9];exact cD r _ _ m u
    |_=>rw[b]at h;exact c _ b h
theorem QA{c:An}:∀{Q Q':Exit->AY->Prop}{σ:AY},CP P c Q σ->(∀x σ,Q x σ->Q' x σ)->CP P c Q' σ:=by
 induction c with
 |skip=>exact λh d=>d _ _ h
 |region w e=>
  intro Q Q' σ h d;cases w with
  |false=>
   simp only[CP]at h ⊢;have:∀(e:List Ag) (base i:Nat) (t:List Aa) (m:Mem),I7 P base e i (Q .normal) t m->I7 P base e i (Q' .normal) t m:=by
    intro e;induction e with
    |nil=>exact λbase i t m h=>d _ _ h
    |cons o r n=>
     intro base i t m h;rcases yq h with⟨p,q⟩|⟨p,⟨f,xs,g,args,q,y,D⟩|⟨v,B,q,y⟩⟩
     ·simp only[I7,p];exact n _ _ _ _ q
     ·simp only[I7,p,q,y];exact D.mono λv B F=>n _ _ _ _ F
     simp only[I7,p];cases A:o.op<;>rw[A]at q<;>first|(simp only[q];exact n _ _ _ _ y)|(simp[Ae]at q)
   exact this _ _ _ _ _ h
  |true=>
   simp only[CP]at h ⊢;have:∀(e:List Ag) (base:Nat) (z:List FT) (t:List Aa) (m:Mem),M2 P base e z (Q .normal) t m->M2 P base e z (Q' .normal) t m:=by
    intro e;induction e with
    |nil=>exact λbase i t m h=>d _ _ h
    |cons o r n=>
     intro base z t m h;simp only[M2]at h ⊢;split at h
     ·exact n _ _ _ _ h
     ·split at h
      ·split at h
       ·obtain⟨wl,x,v,B,p,q,y⟩:=h;exact⟨wl,x,v,B,p,q,n _ _ _ _ y⟩
       exact h
      split at h
      ·exact⟨h.1,n _ _ _ _ h.2⟩
      exact h
     exact h
   exact this _ _ _ _ _ h
 |seq a b s u=>
  intro Q Q' σ h d;refine s h λx σ j=>?_;cases x<;>first|exact u j d|exact d _ _ j
 |cond c a b s u=>
  intro Q Q' σ h d;simp only[CP]at h ⊢;split at h
  ·exact s h d
  ·exact u h d
  exact h
 |block id c n=>
  intro Q Q' σ h d;refine n h λx σ j=>?_;cases x<;>simp only[KD]at j ⊢ <;> first|exact d _ _ j|skip
  split at j
  ·rename_i p;rw[iP p];exact d _ _ j
  rename_i p;rw[iN p];exact d _ _ j
 |loop c n=>
  intro Q Q' σ h d;obtain⟨I,p,q⟩:=h;refine⟨I,p,λk C E=>n (q k C E) λx σ j=>?_⟩;cases x<;>first|exact j|exact d _ _ j
 |exit id=>exact λh d=>d _ _ h
 |scope c n=>
  intro Q Q' σ h d;refine n h λx σ j=>?_;cases x<;>first|exact j|exact d _ _ j
 |label l=>exact λh d=>d _ _ h
 |ret=>exact λh d=>d _ _ h
 |bad=>exact λh _=>h
theorem pN{c:An}:∀{Q:Exit->Env->Ac->Prop}{e:Env}{m:Ac},wpS P n c Q e m->CP P c (E4 n Q) ⟨AQ n e,m.mem⟩:=by
 induction c with
 |skip=>exact λh=>⟨_,_,rfl,h⟩
 |region q t=>
  intro Q e m h;cases q with
  |false=>exact We t 0 e _ h
  |true=>exact cD t [] e _ h
 |seq a b f g=>
  intro Q e m h;show CP P a (XK (CP P b (E4 n Q)) (E4 n Q)) _;refine QA (f h) λx σ d=>?_;cases x<;>simp only[E4]at d<;>first|exact d.elim|skip
  all_goals
   obtain⟨o,p,rfl,d⟩:=d
   first|exact g d|exact⟨o,p,rfl,d⟩
 |cond c a b f g=>
  intro Q e m h;simp only[wpS]at h;simp only[CP,K8];split at h
  ·rename_i w;rw[w];exact f h
  ·rename_i w;rw[w];exact g h
  exact h.elim
 |block id c s=>
  intro Q e m h;show CP P c (KD id (E4 n Q)) _;refine QA (s h) λx σ d=>?_;cases x<;>simp only[E4,I2]at d<;>first|exact d.elim|skip
  case exit i=>
   obtain⟨o,p,rfl,d⟩:=d;simp only[KD];split at d
   ·rename_i r;rw[iP r];exact⟨o,p,rfl,d⟩
   rename_i r;rw[iN r];exact⟨o,p,rfl,d⟩
  all_goals exact d
 |loop c s=>
  intro Q e m h;obtain⟨I,⟨k,u,m0,r,z⟩,A⟩:=h;refine⟨λk σ=>∃e m,σ=⟨AQ n e,m.mem⟩/\I k e m,⟨k,_,r.weak,u,m0,rfl,z⟩,?_⟩;rintro k E ⟨o,p,rfl,B⟩;refine QA (s (A k o p B)) λx σ d=>?_;cases x<;>simp only[E4]at d<;>first|exact d.elim|skip
  all_goals obtain⟨y,m2,rfl,d⟩:=d
  ·obtain⟨j,u,m0,C,D,v⟩:=d;exact⟨j,_,C,D.weak,u,m0,rfl,v⟩
  all_goals exact⟨y,m2,rfl,d⟩
 |exit id=>exact λh=>⟨_,_,rfl,h⟩
 |scope c s=>
  intro Q e m h;show CP P c (pK (E4 n Q)) _;refine QA (s h) λx σ d=>?_;cases x<;>first|exact d.elim|exact d
 |label l=>exact λh=>⟨_,_,rfl,h⟩
 |ret=>exact λh=>⟨_,_,rfl,h⟩
 |bad=>exact λh=>h
def R4(k:Nat):List Aa→Env→Env
 | [],e=>e
 | x :: r,e=>(k,x) :: R4 (k+1) r e
theorem Sr:∀(args:List Aa) (k i:Nat) (e:Env),(R4 k args e).get i=if k<=i/\i<k+args.length then args.getD (i-k) .bot else e.get i
 |[],k,i,e=>by
  have:¬(k<=i/\i<k+([]:List Aa).length):=by simp
  rw[iN this];rfl
 |x::r,k,i,e=>by
  simp only[R4,Env.get];by_cases h:i=k
  ·subst h;rw[iP rfl,iP (by simp),Nat.sub_self];rfl
  rw[iN h,Sr r (k+1) i e];by_cases a:k+1<=i/\i<k+1+r.length
  ·rw[iP a,iP (by simp;omega)];have:i-k=(i-(k+1))+1:=by omega
   rw[this];rfl
  rw[iN a,iN (by simp;omega)]
def GX(n:Nat)(rs:List (Nat×Option (Option Nat)))(K:Aa→Ac→Prop):Exit→Env→Ac→Prop
 | .normal,e,m=>match rs with
  | [(i,none)]=>K (AG n e (.tmp i)) m
  | [(i,none),(j,none)]=>K (.tuple [AG n e (.tmp i),AG n e (.tmp j)]) m
  | []=>K (.tuple []) m
  | _=>False
 | .ret,e,m=>match rs with
  | [(i,none)]=>K (AG n e (.tmp i)) m
  | [(i,none),(j,none)]=>K (.tuple [AG n e (.tmp i),AG n e (.tmp j)]) m
  | []=>K (.tuple []) m
  | _=>False
 | _,_,_=>False
theorem Yfk(hm:P.follows .mixedOrders=true){f:FuncId}{fn:Func}{j:AD}{args:List Aa}{m:Mem}{I:List Nat}{K:Aa->Mem->Prop}(L:P.funcs[f]?=some fn)(hc:Bk P fn=some j){y:AY}
 (F:AY.Fm y ⟨args++List.replicate (j.ntmps-args.length) Ai,m⟩) (h:CP P j.body (FX j.results K) y):Aw P f args m I K:=by
 obtain⟨c,s,d,N,B,g⟩:=UE hc;rw[d]at h;refine⟨⟨fn,L,g,by rw[s];rfl⟩,λW Φ ρ vs w hr ha BE=>?_⟩;have D:=Ss (k:=fn.ntmps) ha;rw[B]at F;obtain⟨O,z,C,E⟩:=F.rel W Φ ρ _ w hr D;have hs:=St hm c _ _ h W O ρ { tmps:=vs++Array.replicate (fn.ntmps-vs.size) undef,defers:=[] } w C E rfl;refine calls_of_wp L s (wp_mono hs λe a w' hl=>?_);obtain⟨σ,o,ρ',U,V,X,J,Y,Z,n⟩:=hl;have q:m.next<=y.m.next:=F.next;have p:(match I6 σ.t σ.m j.results with|some r=>K r σ.m|none=>False)->a.defers=[] /\ ∃v,(results fn a.tmps).run P w'=.ok v w' /\
  ∃M r H o ρ',Ending.returned v=.returned M/\Ext Φ ρ o ρ'/\(∀b,b<m.next->b∉I->ρ b=none->ρ' b=none)/\Rel W o ρ' H w'/\R o ρ' r M/\m.next<=H.next/\K r H:=by
  intro A;cases G:I6 σ.t σ.m j.results with
  |none=>simp[G]at A
  |some r=>
   simp only[G]at A;obtain⟨u,Q,S⟩:=QO J Y N G;exact⟨Z,u,Q,u,r,σ.m,o,ρ',rfl,z.trans U,λb s _ T=>V b (Nat.lt_of_lt_of_le s q) T,J,S,Nat.le_trans q X,A⟩
 cases e with
 |normal=>exact p n
 |ret=>exact p n
 |exit i=>exact n.elim
 |goto l=>exact n.elim
 |panic ch=>exact n.elim
 |outgrown=>exact n.elim
theorem Io(hm:P.follows .mixedOrders=true){f:FuncId}{fn:Func}{b:AD}{args:List Aa}{m:Ac}{q:List Nat}{K:Aa->Mem->Prop}(u:P.funcs[f]?=some fn)(t:Bk P fn=some b)(y:args.length<=b.ntmps)
 (h:wpS P b.ntmps b.body (GX b.ntmps b.results λv c=>K v c.mem) (R4 0 args []) m):Aw P f args m.mem q K:=by
 have w:AY.Fm ⟨AQ b.ntmps (R4 0 args []),m.mem⟩ ⟨args++List.replicate (b.ntmps-args.length) Ai,m.mem⟩:=by
  refine AY.Fm.IF (by simp[M0];omega) (λi x a=>?_) (Mem.Sub.refl _);have hi:i<b.ntmps:=by
   have:=(gS.1 a).1;rw[M0]at this;exact this
  simp only at a ⊢;rw[H7 hi,Sr]at a;injection a with a
  by_cases p:0<=i/\i<0+args.length
  ·rw[iP p]at a;rw[List.getElem?_append,iP (by omega)];refine .inr ?_;rw[<-a,Nat.sub_zero,getD,gE (by omega)];rfl
  rw[iN p]at a;exact .inl a.symm
 have s:CP P b.body (FX b.results K) ⟨AQ b.ntmps (R4 0 args []),m.mem⟩:=by
  refine QA (pN h) λx σ a=>?_;have d:∀e c,(match b.results with
   |[(i,none)]=>K (AG b.ntmps e (.tmp i)) c.mem
   |[(i,none),(j,none)]=>K (.tuple [AG b.ntmps e (.tmp i),AG b.ntmps e (.tmp j)]) c.mem
   |[]=>K (.tuple []) c.mem
   |_=>False)->(match I6 (AQ b.ntmps e) (Ac.mem c) b.results with|some r=>K r c.mem|none=>False):=by
   intro e c k;have g:∀i,(AQ b.ntmps e).getD i Ai=AG b.ntmps e (.tmp i):=λi=>congrFun (K8 b.ntmps e) (.tmp i);split at k
   ·rename_i i l;rw[l];simp only[I6,Jg,g];exact k
   ·rename_i i j l;rw[l];simp only[I6,HH,Jg,g];exact k
   ·rename_i l;rw[l];exact k
   exact k.elim
  cases x<;>simp only[E4,GX]at a<;>first|exact a.elim|skip
  ·obtain⟨n,o,rfl,a⟩:=a;exact d n o a
  ·obtain⟨_,_,_,a⟩:=a;exact a.elim
  ·obtain⟨n,o,rfl,a⟩:=a;exact d n o a
  ·obtain⟨_,_,_,a⟩:=a;exact a.elim
  obtain⟨_,_,_,a⟩:=a;exact a.elim
 exact Yfk hm u t w s
end
section
variable {P:Program}
theorem Zyt(get:Nat->Option Af):∀(n:Nat) (v:Aa),(match v with | .int _ _ | .bool _ | .str _=>True|_=>False)->X8 get (n+1) v=some v:=by
 intro n v h;cases v<;>first|exact h.elim|rfl
theorem IT{g:FuncId}{args:List Aa}{v:Aa}(a:Y7 args=true)(b:match v with | .int _ _ | .bool _ | .str _=>True|_=>False)
 (h:Aw P g args (Ac.mem ⟨[],1⟩) [0] λr _=>r=v):Au P g args v:=by
 intro m d;refine aI a (by cases v<;>first|exact b.elim|rfl) (λc=>rfl) (Nat.lt_succ_self 0) h (λr f e=>⟨1,?_⟩) m d;subst e;exact Zyt _ 0 _ b
theorem Yhy{g:FuncId}{args:List Aa}{v:Aa}(a:Y7 args=true)(d:v.closed=true){n:Nat}
 (h:Aw P g args (Ac.mem ⟨[],1⟩) [0] λr b=>X8 b.get n r=some v):Au P g args v:=by
 intro m e;exact aI a d (λc=>rfl) (Nat.lt_succ_self 0) h (λr b f=>⟨n,f⟩) m e
section
variable {n:Nat} {Q:Exit→Env→Ac→Prop} {e:Env} {m:Ac}
theorem No:wpS P n .skip Q e m=Q .normal e m:=propext Iff.rfl
theorem JX(a:List Ag):wpS P n (.region false a) Q e m=F4 P n m.next a 0 (Q .normal) e (m.at (m.next+a.length)):=propext Iff.rfl
theorem QG(a:List Ag):wpS P n (.region true a) Q e m=Ie P n m.next a [] (Q .normal) e (m.at (m.next+a.length)):=propext Iff.rfl
theorem JJ(a b:An):wpS P n (.seq a b) Q e m=wpS P n a (O0 (wpS P n b Q) Q) e m:=propext Iff.rfl
theorem JW(c:Ah)(a b:An):wpS P n (.cond c a b) Q e m=match AG n e c with
 |.bool true=>wpS P n a Q e m
 |.bool false=>wpS P n b Q e m
 |_=>False:=propext Iff.rfl
theorem ND(i:Nat)(c:An):wpS P n (.block i c) Q e m=wpS P n c (I2 i Q) e m:=propext Iff.rfl
theorem KY(i:Nat):wpS P n (.exit i) Q e m=Q (.exit i) e m:=propext Iff.rfl
theorem Vg:wpS P n .ret Q e m=Q .ret e m:=propext Iff.rfl
theorem G4(N:Env->Ac->Prop):O0 N Q .normal e m=N e m:=propext Iff.rfl
theorem Im(N:Env->Ac->Prop):O0 N Q .ret e m=Q .ret e m:=propext Iff.rfl
theorem E5(N:Env->Ac->Prop)(i:Nat):O0 N Q (.exit i) e m=Q (.exit i) e m:=propext Iff.rfl
theorem B7(i:Nat):I2 i Q .normal e m=Q .normal e m:=propext Iff.rfl
theorem Ih(i:Nat):I2 i Q .ret e m=Q .ret e m:=propext Iff.rfl
theorem E3(i j:Nat):I2 i Q (.exit j) e m=if j=i then Q .normal e m else Q (.exit j) e m:=propext Iff.rfl
theorem JM{base i:Nat}{K:Env->Ac->Prop}:F4 P n base [] i K e m=K e m:=propext Iff.rfl
theorem Ka{base i:Nat}{K:Env->Ac->Prop}(o:Ag)(r:List Ag):F4 P n base (o::r) i K e m =
 match S2 n e o.guard with
 |some false=>F4 P n base r (i+1) K (Y8 e o.dst Ai) m
 |some true=>
  match o.op with
  |.call f xs=>match U9 n e f xs with
   |some (g,args)=>SC P g args m (base+i) λv a=>F4 P n base r (i+1) K (Y8 e o.dst v) a
   |none=>False
  |op=>match Ak (base+i) (AG n e) m.get op with
   |some (v,d)=>F4 P n base r (i+1) K (Y8 e o.dst v) (m.app d)
   |none=>False
 |none=>False:=propext Iff.rfl
theorem Xo{base:Nat}{a:List FT}{K:Env->Ac->Prop}:Ie P n base [] a K e m=K e m:=propext Iff.rfl
theorem WE{base:Nat}{a:List FT}{K:Env->Ac->Prop}(o:Ag)(r:List Ag):Ie P n base (o::r) a K e m =
 match S2 n e o.guard with
 |some false=>Ie P n base r (a++[.ops [] []]) K (Y8 e o.dst Ai) m
 |some true=>
  match o.op with
  |.call f xs=>match U9 n e f xs with
   |some (g,args)=>∃v,Xd P g args v (base+a.length) (DX base a.length r.length) m.mem/\M7 a (.call [] (DX base a.length r.length) m.next) o.un/\Ie P n base r (a++[.call [] (DX base a.length r.length) m.next]) K (Y8 e o.dst v) m
   |none=>False
  |op=>match Ak (base+a.length) (AG n e) m.get op with
   |some (v,d)=>M7 a (.ops (S9 (base+a.length) (AG n e) op) (S8 (AG n e) op)) o.un/\Ie P n base r (a++[.ops (S9 (base+a.length) (AG n e) op) (S8 (AG n e) op)]) K (Y8 e o.dst v) (m.app d)
   |none=>False
 |none=>False:=propext Iff.rfl
def Next{α:Type}(E:α→Env)(M:α→Ac)(μ:α→Nat)(Inv:α→Prop)(a:α)(e':Env)(m':Ac):Prop:=∃ a',μ a'<μ a∧Inv a'∧CY (E a') (M a') e' m'
theorem KI{α:Type}{c:An}(E:α->Env)(M:α->Ac)(d:α->Nat)(b:α->Prop)(f:α)(t:CY (E f) (M f) e m)(r:b f)
 (h:∀a,b a->wpS P n c (O0 (Next E M d b a) Q) (E a) (M a)):wpS P n (.loop c) Q e m:=by
 refine⟨λk e m=>∃a,k=d a/\b a/\e=E a/\m=M a,⟨d f,_,_,t,f,rfl,r,rfl,rfl⟩,?_⟩;rintro k u v ⟨a,rfl,s,rfl,rfl⟩;have key:(O0 (Next E M d b a) Q)=(O0 (λe' q=>∃j i m0,j<d a/\CY i m0 e' q/\(∃a,j=d a/\b a/\i=E a/\m0=M a)) Q):=by
  funext x e' q
  cases x<;>try rfl
  simp only[O0];apply propext;constructor
  ·rintro⟨g,l,o,p⟩;exact⟨d g,_,_,l,p,g,rfl,o,rfl,rfl⟩
  rintro⟨j,i,m0,l,p,g,rfl,o,rfl,rfl⟩;exact⟨g,l,o,p⟩
 rw[<-key];exact h a s
end
@[congr] theorem Ymy{g:FuncId}{args args':List Aa}{m:Ac}{id:Nat}{K:Aa -> Ac -> Prop}(h:args=args'):SC P g args m id K=SC P g args' m id K:=by rw [h]
@[congr] theorem Ynp{α:Type}{E:α -> Env}{M:α -> Ac}{d:α -> Nat}{b:α -> Prop}{a:α}{e e':Env}{m c:Ac}(h:e=e')(f:m=c):Next E M d b a e m=Next E M d b a e' c:=by rw [h, f]
@[congr] theorem Ymu{N:Env -> Ac -> Prop}{Q:Exit -> Env -> Ac -> Prop}{x b:Exit}{e e':Env}{m a:Ac}(d:x=b)(h:e=e')(c:m=a):O0 N Q x e m=O0 N Q b e' a:=by rw [d, h, c]
@[congr] theorem Ymx{i:Nat}{Q:Exit -> Env -> Ac -> Prop}{x b:Exit}{e e':Env}{m a:Ac}(d:x=b)(h:e=e')(c:m=a):I2 i Q x e m=I2 i Q b e' a:=by rw [d, h, c]
@[congr] theorem Ynl{n:Nat}{c:An}{Q:Exit -> Env -> Ac -> Prop}{e e':Env}{m a:Ac}(h:e=e')(b:m=a):wpS P n c Q e m=wpS P n c Q e' a:=by rw [h, b]
@[congr] theorem Ymz{n base a i c:Nat}{b:List Ag}{K:Env -> Ac -> Prop}{e e':Env}{m d:Ac}(g:base=a)(hi:i=c)(h:e=e')(f:m=d):F4 P n base b i K e m=F4 P n a b c K e' d:=by rw [g, hi, h, f]
@[congr] theorem Ym7{n base a:Nat}{d b:List FT}{c:List Ag}{K:Env -> Ac -> Prop}{e e':Env}{m f:Ac}(i:base=a)(hi:d=b)(h:e=e')(g:m=f):Ie P n base c d K e m=Ie P n a c b K e' f:=by rw [i, hi, h, g]
end
mutual
def Aa.AM(p:Nat→Nat):Aa→Aa
 | .ptr b i j=>.ptr (p b) i j
 | .Bc els i j=>.Bc (Z3 p els) i j
 | .sl b off len=>.sl (p b) off len
 | .Al els=>.Al (Z3 p els)
 | .map b=>.map (p b)
 | .func fn f c=>.func fn (Q3 p f) (Q3 p c)
 | .Dt b=>.Dt (p b)
 | .iface t v=>.iface t (v.AM p)
 | .agg cs=>.agg (Q3 p cs)
 | .tuple cs=>.tuple (Q3 p cs)
 | .bool b=>.bool b
 | .int k n=>.int k n
 | .str s=>.str s
 | .nilPtr=>.nilPtr
 | .Aj=>.Aj
 | .emp=>.emp
 | .AF=>.AF
 | .nilFunc=>.nilFunc
 | .atLeast n=>.atLeast n
 | .nilIface=>.nilIface
 | .bot=>.bot
def Q3(p:Nat→Nat):List Aa→List Aa
 | []=>[]
 | x :: r=>x.AM p :: Q3 p r
def Z3(p:Nat→Nat):List (List Aa)→List (List Aa)
 | []=>[]
 | x :: r=>Q3 p x :: Z3 p r
end
theorem ZW(p:Nat->Nat):∀(l:List Aa),Q3 p l=l.map (·.AM p)
 |[]=>rfl
 |x::r=>by simp only[Q3,map_cons,ZW p r]
theorem J1(p:Nat->Nat):∀(l:List (List Aa)),Z3 p l=l.map (Q3 p)
 |[]=>rfl
 |x::r=>by simp only[Z3,map_cons,J1 p r]
theorem IZ(p:Nat->Nat)(l:List Aa):(Q3 p l).length=l.length:=by rw[ZW,lM]
theorem UJ(p:Nat->Nat)(l:List (List Aa)):(Z3 p l).length=l.length:=by rw[J1,lM]
theorem AU{p:Nat->Nat}{l:List Aa}{i:Nat}{y:Aa}:(Q3 p l)[i]?=some y ↔ ∃x,l[i]?=some x/\y=x.AM p:=by
 rw[ZW,gM];grind
theorem AW{p:Nat->Nat}{l:List (List Aa)}{i:Nat}{y:List Aa}:(Z3 p l)[i]?=some y ↔ ∃x,l[i]?=some x/\y=Q3 p x:=by
 rw[J1,gM];grind
mutual
theorem Aa.Be(p:Nat->Nat):∀(x:Aa),x.closed=true->x.AM p=x
 |.bool _,_ | .int _ _,_ | .str _,_ | .nilPtr,_ | .Aj,_ | .emp,_ | .AF,_ | .nilFunc,_ | .nilIface,_ | .bot,_=>rfl
 |.Al els,h=>by rw[Aa.AM,Y2 p els h]
 |.agg cs,h=>by rw[Aa.AM,Vm p cs h]
 |.tuple cs,h=>by rw[Aa.AM,Vm p cs h]
 |.func _ a b,h=>by
  simp only[Aa.closed,bA]at h;rw[Aa.AM,Vm p a h.1,Vm p b h.2]
 |.Bc els _ _,h=>by rw[Aa.AM,Y2 p els h]
 |.ptr ..,h | .sl ..,h | .map ..,h | .Dt ..,h | .atLeast ..,h | .iface ..,h=>by cases h
theorem Vm(p:Nat->Nat):∀(l:List Aa),Y7 l=true->Q3 p l=l
 |[],_=>rfl
 |x::r,h=>by
  simp only[Y7,bA]at h;rw[Q3,Aa.Be p x h.1,Vm p r h.2]
theorem Y2(p:Nat->Nat):∀(l:List (List Aa)),W3 l=true->Z3 p l=l
 |[],_=>rfl
 |x::r,h=>by
  simp only[W3,bA]at h;rw[Z3,Vm p x h.1,Y2 p r h.2]
end
theorem R.AM{Φ:Ap}{ρ ρ':AI}{p:Nat->Nat}(z:∀b l,ρ b=some l->ρ' (p b)=some l){x:Aa}{v:Value}(h:R Φ ρ x v):R Φ ρ' (x.AM p) v:=by
 induction h with
 |bool b=>exact .bool b
 |int k n=>exact .int k n
 |str s=>exact .str s
 |ptr b i j l h=>exact .ptr _ i j l (z _ _ h)
 |Bc els i j B o k c f A C u _ y=>
  refine .Bc _ i j B o k c f A (λi row hi=>?_) (λi row j x hi m=>?_) (λi row j x hi m=>?_)
  ·obtain⟨r,d,rfl⟩:=AW.1 hi;rw[IZ];exact C i r d
  ·obtain⟨r,d,rfl⟩:=AW.1 hi;obtain⟨x0,g,rfl⟩:=AU.1 m;grind
  obtain⟨r,d,rfl⟩:=AW.1 hi;obtain⟨x0,g,rfl⟩:=AU.1 m;grind
 |nilPtr=>exact .nilPtr
 |Aj=>exact .Aj
 |emp a=>exact .emp a
 |sl b off len a cap l h I J u G=>exact .sl _ off len a cap l (z _ _ h) I J u G
 |CA a cap h=>exact .CA a cap h
 |Al els B o k cap c f D w A C u _ y=>
  have e:=UJ p els;rw[<-e];refine .Al _ B o k cap c f (λP=>D ?_) (by rw[e];exact w) A (λi row hi=>?_) (λi row j x hi m=>?_) (λi row j x hi m=>?_)
  ·grind
  ·obtain⟨r,d,rfl⟩:=AW.1 hi;rw[IZ];exact C i r d
  ·obtain⟨r,d,rfl⟩:=AW.1 hi;obtain⟨x0,g,rfl⟩:=AU.1 m;grind
  obtain⟨r,d,rfl⟩:=AW.1 hi;obtain⟨x0,g,rfl⟩:=AU.1 m;grind
 |map b l h=>exact .map _ l (z _ _ h)
 |AF=>exact .AF
 |func fn O cs N M H u _ _ K L=>
  refine .func fn _ _ N M (by rw[IZ];exact H) (by rw[IZ];exact u) (λi x v q F=>?_) (λi x v q F=>?_)
  ·obtain⟨x0,g,rfl⟩:=AU.1 q;grind
  obtain⟨x0,g,rfl⟩:=AU.1 q;grind
 |nilFunc=>exact .nilFunc
 |Dt b l h=>exact .Dt _ l (z _ _ h)
 |atLeast n c h=>exact .atLeast n c h
 |iface t x v _ y=>exact .iface t _ v y
 |nilIface=>exact .nilIface
 |agg cs vs E _ y=>
  refine .agg _ vs (by rw[IZ];exact E) (λi x v q F=>?_);obtain⟨x0,g,rfl⟩:=AU.1 q;grind
 |tuple cs vs E _ y=>
  refine .tuple _ vs (by rw[IZ];exact E) (λi x v q F=>?_);obtain⟨x0,g,rfl⟩:=AU.1 q;grind
 |bot v=>exact .bot v
theorem R.BD{Φ:Ap}{ρ ρ':AI}{q:Nat->Nat}(z:∀b l,ρ (q b)=some l->ρ' b=some l){y:Aa}{v:Value}(h:R Φ ρ y v):∀x:Aa,y=x.AM q->R Φ ρ' x v:=by
 induction h with
 |bool b=>intro x d;cases x<;>simp only[Aa.AM,reduceCtorEq,Aa.bool.injEq]at d;subst d;exact .bool _
 |int k n=>intro x d;cases x<;>simp only[Aa.AM,reduceCtorEq,Aa.int.injEq]at d;obtain⟨rfl,rfl⟩:=d;exact .int _ _
 |str s=>intro x d;cases x<;>simp only[Aa.AM,reduceCtorEq,Aa.str.injEq]at d;subst d;exact .str _
 |ptr b i j l h=>intro x d;cases x<;>simp only[Aa.AM,reduceCtorEq,Aa.ptr.injEq]at d;obtain⟨rfl,rfl,rfl⟩:=d;exact .ptr _ _ _ l (z _ _ h)
 |Bc els i j B o k c f A C m _ g=>
  intro x d;cases x<;>simp only[Aa.AM,reduceCtorEq,Aa.Bc.injEq]at d;obtain⟨rfl,rfl,rfl⟩:=d
  exact .Bc _ _ _ B o k c f A (λi row hi=>by have:=C i _ (AW.2 ⟨row,hi,rfl⟩);rwa[IZ]at this) (λi row j x hi r=>m i _ j _ (AW.2 ⟨row,hi,rfl⟩) (AU.2 ⟨x,r,rfl⟩))
   (λi row j x hi r=>g i _ j _ (AW.2 ⟨row,hi,rfl⟩) (AU.2 ⟨x,r,rfl⟩) x rfl)
 |nilPtr=>intro x d;cases x<;>simp only[Aa.AM,reduceCtorEq]at d;exact .nilPtr
 |Aj=>intro x d;cases x<;>simp only[Aa.AM,reduceCtorEq]at d;exact .Aj
 |emp a=>intro x d;cases x<;>simp only[Aa.AM,reduceCtorEq]at d;exact .emp a
 |sl b off len a cap l h K L m J=>intro x d;cases x<;>simp only[Aa.AM,reduceCtorEq,Aa.sl.injEq]at d;obtain⟨rfl,rfl,rfl⟩:=d;exact .sl _ _ _ a cap l (z _ _ h) K L m J
 |CA a cap M=>
  intro x d;cases x<;>simp only[Aa.AM,reduceCtorEq,Aa.Al.injEq]at d
  rename_i els;have e:=UJ q els;rw[<-d]at e;have:els=[]:=by grind
  subst this;exact .CA a cap M
 |Al els B o k cap c f D p A C m _ g=>
  intro x d;cases x<;>simp only[Aa.AM,reduceCtorEq,Aa.Al.injEq]at d
  rename_i G;subst d;rw[UJ]at p ⊢;exact .Al _ B o k cap c f (λI=>D (by rw[I];rfl)) p A (λi row hi=>by have:=C i _ (AW.2 ⟨row,hi,rfl⟩);rwa[IZ]at this) (λi row j x hi r=>m i _ j _ (AW.2 ⟨row,hi,rfl⟩) (AU.2 ⟨x,r,rfl⟩))
   (λi row j x hi r=>g i _ j _ (AW.2 ⟨row,hi,rfl⟩) (AU.2 ⟨x,r,rfl⟩) x rfl)
 |map b l h=>intro x d;cases x<;>simp only[Aa.AM,reduceCtorEq,Aa.map.injEq]at d;subst d;exact .map _ l (z _ _ h)
 |AF=>intro x d;cases x<;>simp only[Aa.AM,reduceCtorEq]at d;exact .AF
 |func fn P cs O N H m _ _ E F=>
  intro x d;cases x<;>simp only[Aa.AM,reduceCtorEq,Aa.func.injEq]at d;obtain⟨rfl,rfl,rfl⟩:=d
  rw[IZ]at H m;exact .func _ _ _ O N H m (λi x v d u=>E i _ v (AU.2 ⟨x,d,rfl⟩) u x rfl) (λi x v d u=>F i _ v (AU.2 ⟨x,d,rfl⟩) u x rfl)
 |nilFunc=>intro x d;cases x<;>simp only[Aa.AM,reduceCtorEq]at d;exact .nilFunc
 |Dt b l h=>intro x d;cases x<;>simp only[Aa.AM,reduceCtorEq,Aa.Dt.injEq]at d;subst d;exact .Dt _ l (z _ _ h)
 |atLeast n c h=>intro x d;cases x<;>simp only[Aa.AM,reduceCtorEq,Aa.atLeast.injEq]at d;subst d;exact .atLeast _ c h
 |iface t x v _ g=>intro x d;cases x<;>simp only[Aa.AM,reduceCtorEq,Aa.iface.injEq]at d;obtain⟨rfl,rfl⟩:=d;exact .iface _ _ v (g _ rfl)
 |nilIface=>intro x d;cases x<;>simp only[Aa.AM,reduceCtorEq]at d;exact .nilIface
 |agg cs vs w _ g=>
  intro x d;cases x<;>simp only[Aa.AM,reduceCtorEq,Aa.agg.injEq]at d;subst d
  rw[IZ]at w;exact .agg _ vs w (λi x v d u=>g i _ v (AU.2 ⟨x,d,rfl⟩) u x rfl)
 |tuple cs vs w _ g=>
  intro x d;cases x<;>simp only[Aa.AM,reduceCtorEq,Aa.tuple.injEq]at d;subst d
  rw[IZ]at w;exact .tuple _ vs w (λi x v d u=>g i _ v (AU.2 ⟨x,d,rfl⟩) u x rfl)
 |bot v=>intro x d;cases x<;>simp only[Aa.AM,reduceCtorEq]at d;exact .bot v
def C0(p:Nat→Nat)(es:List (Aa×Aa×Nat)):List (Aa×Aa×Nat):=es.map fun x=>(x.1.AM p,x.2.1.AM p,x.2.2)
def Af.AM(p:Nat→Nat):Af→Af
 | .cells k els=>.cells k (Z3 p els)
 | .map es clock=>.map (C0 p es) clock
 | .Cr s pos=>.Cr s pos
 | .Ce m since seen stepped=>.Ce (m.map p) since seen stepped
theorem RowsIn.AM{Φ:Ap}{ρ ρ':AI}{p:Nat->Nat}(o:∀b l,ρ b=some l->ρ' (p b)=some l){els:List (List Aa)}{sh k:Nat}{c:Array Value}(h:RowsIn Φ ρ els sh k c):RowsIn Φ ρ' (Z3 p els) sh k c:=by
 refine⟨λi row hi=>?_,λi row j x hi n=>?_⟩
 ·obtain⟨d,a,rfl⟩:=AW.1 hi;rw[IZ];exact h.1 i d a
 obtain⟨d,a,rfl⟩:=AW.1 hi;obtain⟨x0,m,rfl⟩:=AU.1 n;obtain⟨v,e,f,g⟩:=h.2 i d j x0 a m;exact⟨v,e,f,g.AM o⟩
theorem BR.AM{Φ:Ap}{ρ ρ':AI}{p:Nat->Nat}(j:∀b l,ρ b=some l->ρ' (p b)=some l){x:Af}{l:Loc}{o:Obj}(h:BR Φ ρ x l o):BR Φ ρ' (x.AM p) l o:=by
 cases h with
 |cells k els l c e A C B n w=>exact .cells k _ l c e A C (by rw[UJ];exact B) (n.AM j) w
 |map q d l en D n=>
  refine .map _ d l en (by rw[C0,lM];exact D) λi x f=>?_;rw[C0,gM]at f;cases g:q[i]? with
  |none=>grind
  |some z=>
   rw[g]at f;injection f with f
   subst f;obtain⟨y,r,t,u,v⟩:=n i z g;exact⟨y,r,t.AM j,u.AM j,v⟩
 |Cr s pos l=>exact .Cr s pos l
 |Em a b c l=>exact .Em a b c l
 |Ce m E a b c l h g=>exact .Ce _ E a b c l (j _ _ h) g
theorem RowsIn.BD{Φ:Ap}{ρ ρ':AI}{q:Nat->Nat}(g:∀b l,ρ (q b)=some l->ρ' b=some l){els:List (List Aa)}{sh k:Nat}{c:Array Value}(h:RowsIn Φ ρ (Z3 q els) sh k c):RowsIn Φ ρ' els sh k c:=by
 refine⟨λi row hi=>by have:=h.1 i _ (AW.2 ⟨row,hi,rfl⟩);rwa[IZ]at this,λi row j x hi f=>?_⟩;obtain⟨v,a,d,e⟩:=h.2 i _ j _ (AW.2 ⟨row,hi,rfl⟩) (AU.2 ⟨x,f,rfl⟩);exact⟨v,a,d,e.BD g x rfl⟩
theorem BR.BD{Φ:Ap}{ρ ρ':AI}{q:Nat->Nat}(f:∀b l,ρ (q b)=some l->ρ' b=some l){x:Af}{l:Loc}{o:Obj}(h:BR Φ ρ (x.AM q) l o):BR Φ ρ' x l o:=by
 cases x with
 |cells k els=>
  simp only[Af.AM]at h;cases h with
  |cells _ _ _ c e w A z g v=>exact .cells k _ l c e w A (by rwa[UJ]at z) (g.BD f) v
 |map E a=>
  simp only[Af.AM]at h;cases h with
  |map _ _ _ en B g=>
   refine .map _ a l en (by rwa[C0,lM]at B) λi x C=>?_;obtain⟨y,n,p,r,t⟩:=g i (x.1.AM q,x.2.1.AM q,x.2.2) (by rw[C0,gM,C];rfl);exact⟨y,n,p.BD f x.1 rfl,r.BD f x.2.1 rfl,t⟩
 |Cr s pos=>
  simp only[Af.AM]at h;cases h with
  |Cr _ _ _=>exact .Cr s pos l
 |Ce m j seen d=>
  simp only[Af.AM]at h;cases m with
  |none=>cases h with|Em _ _ _ _=>exact .Em _ _ _ l
  |some b=>cases h with|Ce _ D _ _ _ _ h u=>exact .Ce b D _ _ _ l (f _ _ h) u
def V5:List (Nat×Nat)→Nat→Nat→Nat
 | [],_,b=>b
 | (c,o) :: r,d,b=>if b=c then o else V5 r d b
def BC(l:List (Nat×Nat))(n0 k n b:Nat):Nat:=if b<n0 then b else if b<k then V5 l n b else b - k+n
theorem nE{l:List (Nat×Nat)}{n0 k n b:Nat}(h:BC l n0 k n b<n)(a:n0<=k):b<k:=by
 unfold BC at h;split at h
 ·omega
 split at h<;>omega
def Cm(q:Nat→Nat):Env→Env→Prop
 | [],_=>True
 | (i,v) :: r,e=>e.get i=v.AM q∧Cm q r e
def BO(q:Nat→Nat):List (Nat×Af)→Ac→Prop
 | [],_=>True
 | (b,x) :: r,m=>(m.get (q b)=some (x.AM q) ∨ ∃ y,m.get (q b)=some y∧FD (x.AM q) y)∧BO q r m
def Dw(q:Nat→Nat)(b:Nat):List (Nat×Af)→Prop
 | []=>True
 | (c,_) :: r=>(q b=q c→b=c)∧Dw q b r
def CQ(q:Nat→Nat):List (Nat×Af)→Prop
 | []=>True
 | (b,_) :: r=>Dw q b r∧CQ q r
theorem Dw.get{q:Nat->Nat}{b:Nat}:∀{l:List (Nat×Af)},Dw q b l -> ∀c x,Z7 l c=some x->q b=q c->b=c
 |[],_,c,x,h,_=>by simp[Z7]at h
 | (d,y)::r,hi,c,x,h,a=>by
  simp only[Z7]at h;split at h
  ·rename_i e;subst e;exact hi.1 a
  exact hi.2.get c x h a
theorem CQ.get{q:Nat->Nat}:∀{l:List (Nat×Af)},CQ q l -> ∀b c x y,Z7 l b=some x->Z7 l c=some y->q b=q c->b=c
 |[],_,b,c,x,y,h,_,_=>by simp[Z7]at h
 | (d,z)::r,hi,b,c,x,y,f,a,i=>by
  simp only[Z7]at f a;split at f
  ·rename_i e;subst e;split at a
   ·rename_i g;exact g.symm
   exact hi.1.get c y a i
  split at a
  ·rename_i g;subst g;exact(hi.1.get b x f i.symm).symm
  exact hi.2.get b c x y f a i
theorem Cm.get{q:Nat->Nat}:∀{b e:Env},Cm q b e -> ∀i,b.get i=.bot\/e.get i=(b.get i).AM q
 |[],_,_,i=>.inl rfl
 | (j,v)::r,e,h,i=>by
  simp only[Env.get];by_cases a:i=j
  ·subst a;rw[iP rfl];exact .inr h.1
  rw[iN a];exact h.2.get i
theorem BO.get{q:Nat->Nat}:∀{l:List (Nat×Af)}{m:Ac},BO q l m -> ∀b x,Z7 l b=some x -> ∃y,m.get (q b)=some y/\(y=x.AM q\/FD (x.AM q) y)
 |[],m,_,b,x,h=>by simp[Z7]at h
 | (c,y)::r,m,d,b,x,h=>by
  simp only[Z7]at h;split at h
  ·rename_i f;subst f;injection h with h;subst h
   rcases d.1 with a|⟨g,a,e⟩
   ·exact⟨_,a,.inl rfl⟩
   exact⟨_,a,.inr e⟩
  exact d.2.get b x h
def Bm(n0:Nat)(l:List (Nat×Nat))(e0:Env)(m0:Ac)(e:Env)(m:Ac):Prop:=
 n0≤m0.next∧n0≤m.next∧Cm (BC l n0 m0.next m.next) e0 e∧BO (BC l n0 m0.next m.next) m0.bl m∧CQ (BC l n0 m0.next m.next) m0.bl
theorem BR.IF{Φ:Ap}{ρ:AI}{x y:Af}{l:Loc}{o:Obj}(a:y=x\/FD x y)(h:BR Φ ρ y l o):BR Φ ρ x l o:=by
 rcases a with rfl|a
 ·exact h
 exact h.Pz a
theorem Rel.BD{W:Aq}{Φ:Ap}{ρ:AI}{m m0:Mem}{w:World}{q:Nat->Nat}(h:Rel W Φ ρ m w)(d:∀b x,m0.get b=some x -> ∃y,m.get (q b)=some y/\(y=x.AM q\/FD (x.AM q) y))
 (hi:∀b c x y,m0.get b=some x->m0.get c=some y->q b=q c->b=c) (z:∀b,q b<m.next->b<m0.next):Rel W Φ (λb=>ρ (q b)) m0 w:=by
 refine⟨h.base,h.AX,λb x B=>?_,λb b' x j l l' g i t u v=>?_,λb l a=>z b (h.fresh _ _ a),h.BH⟩
 ·obtain⟨y,e,A⟩:=d b x B;obtain⟨l,o,k,n,p,r,s⟩:=h.live _ y e;exact⟨l,o,k,n,p,r,(s.IF A).BD (q:=q) (λ_ _ a=>a)⟩
 obtain⟨y,e,_⟩:=d b x g;obtain⟨C,f,_⟩:=d b' j i;exact hi b b' x j g i (h.inj _ _ y C l l' e f t u v)
theorem Bm.rel{n0 n:Nat}{l:List (Nat×Nat)}{k e:Env}{m0 m:Ac}(h:Bm n0 l k m0 e m){W:Aq}{Φ:Ap}{ρ:AI}{vs:Array Value}{w:World}(t:Rel W Φ ρ m.mem w)(p:RL Φ ρ (AQ n e) vs) :
 ∃ρ',(∀b,b<n0->ρ' b=ρ b)/\Rel W Φ ρ' m0.mem w/\RL Φ ρ' (AQ n k) vs:=by
 obtain⟨j,z,s,hm,hi⟩:=h;refine⟨λb=>ρ (BC l n0 m0.next m.next b),λb a=>by simp only[BC,iP a],t.BD (λb x d=>hm.get b x d) (λb c x y a r=>hi.get b c x y a r) (λb a=>nE a j),?_⟩;refine⟨by rw[p.1,M0,M0],λi x v d u=>?_⟩;have f:i<n:=by
  have:=(gS.1 d).1;rwa[M0]at this
 rw[H7 f]at d;injection d with d
 subst d;rcases s.get i with g|g
 ·rw[g];exact .bot v
 have o:=p.2 i (e.get i) v (H7 f) u;rw[g]at o;exact o.BD (q:=BC l n0 m0.next m.next) (λ_ _ a=>a) _ rfl
def Di(n n0:Nat)(e0:Env)(m0:Ac)(e:Env)(m:Ac):Prop:=n0≤m0.next ∧ ∀(W:Aq) (Φ:Ap) (ρ:AI) (vs:Array Value) (w:World),Rel W Φ ρ m.mem w→RL Φ ρ (AQ n e) vs →
 ∃ Am ρ',(∀ B c,Φ B=some c→Am B=some c)∧(∀ b,b<n0→ρ' b=ρ b)∧Rel W Am ρ' m0.mem w∧RL Am ρ' (AQ n e0) vs
theorem Bm.wk{n0 n:Nat}{l:List (Nat×Nat)}{a e:Env}{m0 m:Ac}(h:Bm n0 l a m0 e m):Di n n0 a m0 e m:=
 ⟨h.1,λW Φ ρ vs w b c=>let ⟨ρ',h1,h2,h3⟩:=h.rel b c;⟨Φ,ρ',λ_ _ h=>h,h1,h2,h3⟩⟩
def jR(P:Program)(g:FuncId)(args:List Aa)(v:Aa)(d:Option Af)(id:Nat)(x:List Nat)(m:Mem):Prop:=
 match d with
 | none=>Xd P g args v id x m
 | some b=>Aw P g args (m.less x) [id] fun r m'=>r=v∧m'=(m.less x).set id b
def KQ(id:Nat):Option Af→List Nat
 | none=>[]
 | some _=>[id]
def LV(id:Nat):Option Af→List (Nat×Option Af)
 | none=>[]
 | some b=>[(id,some b)]
theorem Yiy{P:Program}{g:FuncId}{args:List Aa}{v:Aa}{d:Option Af}(id:Nat)(x:List Nat)(f:id∉x)(m:Mem)(h:jR P g args v d id x m):QL P g args id x m v (m.apply (LV id d)) (KQ id d):=by
 cases d with
 |none=>exact Zxx id x f m h
 |some b=>
  refine⟨(m.less x).set id b,f,λc a=>?_,lR _,rfl,λc=>?_,λc i _ a=>?_,h⟩
  ·simp only[Mem.AB];rw[iN (λe:c=id=>f (e ▸ a))];simp[Mem.less,a]
  ·simp only[LV,Mem.apply,Mem.AB];by_cases a:c∈x
   ·rw[iP a,iN (λe:c=id=>f (e ▸ a))]
   rw[iN a];by_cases hi:c=id
   ·rw[iP hi,iP hi]
   rw[iN hi,iN hi];simp[Mem.less,a]
  simp only[Mem.AB];rw[iN (λe:c=id=>i (by rw[e];exact List.mem_singleton.2 rfl))];simp[Mem.less,a]
def HF(P:Program)(n base:Nat):List Ag→List FT→(Env→Ac→Prop)→Env→Ac→Prop
 | [],_,K,e,m=>K e m
 | o :: r,fs,K,e,m=>
  match S2 n e o.guard with
  | some false=>HF P n base r (fs++[.ops [] []]) K (Y8 e o.dst Ai) m
  | some true=>
   match o.op with
   | .call f xs=>match U9 n e f xs with
    | some (g,args)=>∃ v d,jR P g args v d (base+fs.length) (DX base fs.length r.length) m.mem∧M7 fs (.call (KQ (base+fs.length) d) (DX base fs.length r.length) m.next) o.un ∧
     HF P n base r (fs++[.call (KQ (base+fs.length) d) (DX base fs.length r.length) m.next]) K (Y8 e o.dst v) (m.app (LV (base+fs.length) d))
    | none=>False
   | op=>match Ak (base+fs.length) (AG n e) m.get op with
    | some (v,d)=>M7 fs (.ops (S9 (base+fs.length) (AG n e) op) (S8 (AG n e) op)) o.un∧HF P n base r (fs++[.ops (S9 (base+fs.length) (AG n e) op) (S8 (AG n e) op)]) K (Y8 e o.dst v) (m.app d)
    | none=>False
  | none=>False
theorem XD{P:Program}{n base:Nat}{K:Env->Ac->Prop}:∀(i:List Ag) (a:List FT) (e:Env) (m:Ac),HF P n base i a K e m->M2 P base i a (λσ=>∃e m,σ=⟨AQ n e,m.mem⟩/\K e m) (AQ n e) m.mem
 |[],_,e,m,h=>⟨e,m,rfl,h⟩
 |o::r,a,e,m,h=>by
  simp only[HF]at h;simp only[M2,Qh];cases l:S2 n e o.guard with
  |none=>simp[l]at h
  |some q=>
   cases q with
   |false=>
    simp only[l]at h;simp only[J9];exact XD r _ _ m h
   |true=>
    simp only[l]at h;simp only;have c:∀op,o.op=op->(match Ak (base+a.length) (AG n e) m.get op with|some (v,d)=>M7 a (.ops (S9 (base+a.length) (AG n e) op) (S8 (AG n e) op)) o.un/\HF P n base r (a++[.ops (S9 (base+a.length) (AG n e) op) (S8 (AG n e) op)]) K (Y8 e o.dst v) (m.app d)|none=>False) ->
     (match Ae (base+a.length) (AQ n e) m.mem op with|some (v,m')=>M7 a (.ops (P5 (base+a.length) (AQ n e) op) (F7 (AQ n e) op)) o.un/\M2 P base r (a++[.ops (P5 (base+a.length) (AQ n e) op) (F7 (AQ n e) op)]) (λσ=>∃e m,σ=⟨AQ n e,m.mem⟩/\K e m) (put (AQ n e) o.dst v) m'|none=>False):=by
     intro op _ j;cases k:Ak (base+a.length) (AG n e) m.get op with
     |none=>simp[k]at j
     |some y=>
      obtain⟨v,d⟩:=y;simp only[k]at j;have:=JO (m:=m.mem) (t:=AQ n e) (id:=base+a.length) (op:=op) (v:=v) (d:=d) (by rw[K8];exact k);rw[this];simp only[J9,fF,dW,K8];rw[<-Ac.Bw];exact⟨j.1,XD r _ _ _ j.2⟩
    cases b:o.op with
    |call f xs=>
     simp only[b]at h;simp only[Xr];cases p:U9 n e f xs with
     |none=>simp[p]at h
     |some s=>
      obtain⟨g,args⟩:=s;simp only[p]at h;obtain⟨v,d,w,hi,u⟩:=h;simp only;refine⟨KQ (base+a.length) d,DX base a.length r.length,v,_,Yiy _ _ (vr _ _ _) _ w,hi,?_⟩;simp only[J9];rw[<-Ac.Bw];exact XD r _ _ _ u
    |_=>rw[b]at h;exact c _ b h
def FC(P:Program)(n n0:Nat):An→(Exit→Env→Ac→Prop)→Env→Ac→Prop
 | .skip,Q,e,m=>Q .normal e m
 | .region false ops,Q,e,m=>F4 P n m.next ops 0 (Q .normal) e (m.at (m.next+ops.length))
 | .region true ops,Q,e,m=>HF P n m.next ops [] (Q .normal) e (m.at (m.next+ops.length))
 | .seq a b,Q,e,m=>FC P n n0 a (O0 (FC P n n0 b Q) Q) e m
 | .cond c a b,Q,e,m=>match AG n e c with
  | .bool true=>FC P n n0 a Q e m
  | .bool false=>FC P n n0 b Q e m
  | _=>False
 | .block id c,Q,e,m=>FC P n n0 c (I2 id Q) e m
 | .loop c,Q,e,m=>∃ (I:Nat→Env→Ac→Prop),(∃ k e0 m0,Di n n0 e0 m0 e m∧I k e0 m0) ∧ ∀ k e1 m1,I k e1 m1→FC P n n0 c (O0 (fun e' m'=>∃ j e0 m0,j<k∧Di n n0 e0 m0 e' m'∧I j e0 m0) Q) e1 m1
 | .exit id,Q,e,m=>Q (.exit id) e m
 | .scope c,Q,e,m=>FC P n n0 c Q e m
 | .label _,Q,e,m=>Q .normal e m
 | .ret,Q,e,m=>Q .ret e m
 | .bad,_,_,_=>False
def Nt(W:Aq)(Φ:Ap)(ρ:AI)(n n0:Nat)(Q:Exit→Env→Ac→Prop)(x:Exit)(a:Act)(w:World):Prop:=
 ∃ e m Am ρ',(∀ B c,Φ B=some c→Am B=some c)∧(∀ b,b<n0→ρ' b=ρ b)∧n0≤m.next∧Rel W Am ρ' m.mem w∧RL Am ρ' (AQ n e) a.tmps∧a.defers=[]∧(∀ l,x≠.goto l)∧Q x e m
theorem Pk{W:Aq}{Φ g:Ap}{ρ ρ':AI}{n n0:Nat}{Q Q':Exit->Env->Ac->Prop}{x:Exit}{a:Act}{w:World}(v:∀B c,Φ B=some c->g B=some c)(u:∀b,b<n0->ρ' b=ρ b)
 (h:Nt W g ρ' n n0 Q x a w) (y:∀e m,Q x e m->Q' x e m):Nt W Φ ρ n n0 Q' x a w:=by
 obtain⟨e,m,d,f,j,k,l,o,p,q,r,s⟩:=h;exact⟨e,m,d,f,λB c t=>j B c (v B c t),λb i=>(k b i).trans (u b i),l,o,p,q,r,y _ _ s⟩
section
variable {P:Program} {n n0:Nat}
def Ju(P:Program)(n n0:Nat)(c:Code)(Q:Exit→Env→Ac→Prop)(e:Env)(m:Ac):Prop:=
 ∀(W:Aq) (Φ:Ap) (ρ:AI) (a:Act) (w:World),n0≤m.next→Rel W Φ ρ m.mem w→RL Φ ρ (AQ n e) a.tmps→a.defers=[]→c.wp P (Nt W Φ ρ n n0 Q) a w
theorem pU(hm:P.follows .mixedOrders=true){id:Nat}{d:Array Oper}{c:Bool}{Q:Exit->Env->Ac->Prop}{e:Env}{m:Ac}(j:CP P (Y1 P (.region id d c)) (E4 n Q) ⟨AQ n e,m.mem⟩):Ju P n n0 (.region id d c) Q e m:=by
 intro W Φ ρ a w k B C A;have y:KT P (.region id d c) (E4 n Q) ⟨AQ n e,m.mem⟩:=by
  cases c with
  |false=>exact vn j
  |true=>exact mZ hm j
 refine wp_mono (y W Φ ρ a w B C A) λx E w' h=>?_;obtain⟨σ,o,ρ',i,r,s,t,u,v,g⟩:=h;have p:∀b,b<n0->ρ' b=ρ b:=λb z=>by
  cases f:ρ b with
  |none=>exact r b (Nat.lt_of_lt_of_le z k) f
  |some l=>exact i.CN b l f
 have q:m.next<=σ.m.next:=s;cases x<;>simp only[E4]at g<;>first
  |exact g.elim
  | (obtain ⟨e',D,rfl,f⟩:=g
     exact⟨e',D,o,ρ',i.AX,p,Nat.le_trans k q,t,u,v,λl h=>(by cases h),f⟩)
theorem oG(hm:P.follows .mixedOrders=true):∀(c:Code) (Q:Exit->Env->Ac->Prop) (e:Env) (m:Ac),FC P n n0 (Y1 P c) Q e m->Ju P n n0 c Q e m:=by
 intro c;induction c with
 |skip=>exact λQ e m h W Φ ρ a w r q o p=>wp_skip ⟨e,m,Φ,ρ,λ_ _ h=>h,λ_ _=>rfl,r,q,o,p,λl g=>(by cases g),h⟩
 |region id t U=>
  intro Q e m h;refine pU hm ?_;have hw:∀A:An,(∀d os,A=.region d os\/A=.bad\/True)->(match A with | .region _ _=>True | .bad=>True|_=>False)->FC P n n0 A Q e m->CP P A (E4 n Q) ⟨AQ n e,m.mem⟩:=by
   intro A _ hA h;cases A with
   |region d os=>
    cases d with
    |false=>exact We os 0 e _ h
    |true=>exact XD os [] e _ h
   |bad=>exact h.elim
   |_=>exact hA.elim
  refine hw _ (λ_ _=>.inr (.inr trivial)) ?_ h;cases U with
  |false=>
   simp only[Y1];cases D7 P t t.toList<;>trivial
  |true=>
   simp only[Y1];cases D7 P t t.toList with
   |none=>trivial
   |some as=>
    simp only;cases VH t as (Lq t.toList)<;>trivial
 |seq x y K L=>
  intro Q e m h W Φ ρ a w r q o p;simp only[Y1,FC]at h;refine wp_seq (wp_mono (K _ _ _ h W Φ ρ a w r q o p) ?_);intro Z C w' g;have key:∀e',Z=e'->e'≠.normal->Nt W Φ ρ n n0 Q Z C w':=by
   intro e' he J;refine Pk (λ_ _ h=>h) (λ_ _=>rfl) g λe m hq=>?_;subst he;cases Z<;>first|exact absurd rfl J|exact hq
  cases Z with
  |normal=>
   obtain⟨e',E,u,ρ',F,G,M,N,O,S,V,H⟩:=g;exact wp_mono (L _ _ _ H W u ρ' C w' M N O S) λx a w ad=>Pk F G ad λ_ _ h=>h
  |exit i=>exact key _ rfl (by simp)
  |goto l=>exact key _ rfl (by simp)
  |ret=>exact key _ rfl (by simp)
  |panic ch=>exact key _ rfl (by simp)
  |outgrown=>exact key _ rfl (by simp)
 |cond c x y K L=>
  intro Q e m h W Φ ρ a w r q o p;simp only[Y1]at h;cases hc:X5 c with
  |none=>simp[hc,FC]at h
  |some c'=>
   simp only[hc,FC]at h;have T:=Q1 o hc;rw[K8]at T;generalize AG n e c'=z at h T;split at h
   ·generalize hz:a.eval c=v at T;cases T;exact wp_cond_true hz (K _ _ _ h W Φ ρ a w r q o p)
   ·generalize hz:a.eval c=v at T;cases T;exact wp_cond_false hz (L _ _ _ h W Φ ρ a w r q o p)
   exact h.elim
 |block id c Y=>
  intro Q e m h W Φ ρ a w r q o p;simp only[Y1,FC]at h;refine wp_block (wp_mono (Y _ _ _ h W Φ ρ a w r q o p) ?_);intro x C w' g;cases x with
  |exit i=>
   simp only[Exit.inBlock];obtain⟨e',E,u,ρ',F,G,M,N,O,S,V,H⟩:=g;simp only[I2]at H;split
   ·rename_i hi;rw[iP hi]at H;exact⟨e',E,u,ρ',F,G,M,N,O,S,λl g=>(by cases g),H⟩
   rename_i hi;rw[iN hi]at H;exact⟨e',E,u,ρ',F,G,M,N,O,S,λl g=>(by cases g),H⟩
  |normal=>exact g
  |goto l=>exact g
  |ret=>exact g
  |panic ch=>exact g
  |outgrown=>exact g
 |loop c Y=>
  intro Q e m h W Φ ρ a w r q o p;simp only[Y1,FC]at h;obtain⟨I,⟨k0,e0,m0,X,h0⟩,D⟩:=h;obtain⟨al,ao,ae,ab,ag,ai⟩:=X.2 W Φ ρ _ w q o;refine wp_loop_ghost (λk C w'=>∃e' E u ρ',(∀B c,Φ B=some c->u B=some c)/\(∀b,b<n0->ρ' b=ρ b)/\n0<=E.next/\Rel W u ρ' E.mem w'/\RL u ρ' (AQ n e') C.tmps/\C.defers=[]/\I k e' E) k0
   ⟨e0,m0,al,ao,ae,ab,X.1,ag,ai,p,h0⟩ ?_
  rintro k C w' ⟨e',E,u,ρ',F,G,M,N,O,S,V⟩;refine wp_mono (Y _ _ _ (D k e' E V) W u ρ' C w' M N O S) ?_;intro x aa ak g;have key:∀e',x=e'->e'≠.normal->Nt W Φ ρ n n0 Q x aa ak:=by
   intro e' he J;refine Pk F G g λe m hq=>?_;subst he;cases x<;>first|exact absurd rfl J|exact hq
  cases x with
  |normal=>
   obtain⟨e2,m2,am,aq,g1,g2,g3,g4,g5,g6,_,j,e3,m3,g7,g8,g9⟩:=g;obtain⟨an,au,af,ac,ah,aj⟩:=g8.2 W am aq _ _ g4 g5;exact⟨j,g7,e3,m3,an,au,λB c hB=>af B c (g1 B c (F B c hB)),λb hb=>(ac b hb).trans ((g2 b hb).trans (G b hb)),g8.1,ah,aj,g6,g9⟩
  |exit i=>exact key _ rfl (by simp)
  |goto l=>exact key _ rfl (by simp)
  |ret=>exact key _ rfl (by simp)
  |panic ch=>exact key _ rfl (by simp)
  |outgrown=>exact key _ rfl (by simp)
 |exit id=>exact λQ e m h W Φ ρ a w r q o p=>wp_exit ⟨e,m,Φ,ρ,λ_ _ h=>h,λ_ _=>rfl,r,q,o,p,λl g=>(by cases g),h⟩
 |scope c Y=>
  intro Q e m h W Φ ρ a w r q o p;simp only[Y1,FC]at h;refine wp_scope_straight (wp_mono (Y _ _ _ h W Φ ρ a w r q o p) ?_);intro x C w' g;cases x with
  |goto l=>
   obtain⟨_,_,_,_,_,_,_,_,_,_,V,_⟩:=g;exact absurd rfl (V l)
  |normal=>exact g
  |exit i=>exact g
  |ret=>exact g
  |panic ch=>exact g
  |outgrown=>exact g
 |label l=>exact λQ e m h W Φ ρ a w r q o p=>wp_label ⟨e,m,Φ,ρ,λ_ _ h=>h,λ_ _=>rfl,r,q,o,p,λl g=>(by cases g),h⟩
 |ret=>exact λQ e m h W Φ ρ a w r q o p=>wp_ret ⟨e,m,Φ,ρ,λ_ _ h=>h,λ_ _=>rfl,r,q,o,p,λl g=>(by cases g),h⟩
 |rangeFunc f ps x y _ _=>exact λQ e m h=>by simp[Y1,FC]at h
 |goto l=>exact λQ e m h=>by simp[Y1,FC]at h
 |refuse s=>exact λQ e m h=>by simp[Y1,FC]at h
def Q9(n:Nat)(e:Env)(m:Ac):List (Nat×Option (Option Nat))→Option (List Aa)
 | []=>some []
 | (i,none) :: r=>match Q9 n e m r with
  | some l=>some (AG n e (.tmp i) :: l)
  | none=>none
 | (i,some k) :: r=>match K4 m.get k (AG n e (.tmp i))with
  | some v=>(match Q9 n e m r with
   | some l=>some (v :: l)
   | none=>none)
  | none=>none
def D3(K:Aa→Ac→Prop)(m:Ac):Option (List Aa)→Prop
 | some [x]=>K x m
 | some l=>K (.tuple l) m
 | none=>False
def L3(n:Nat)(rs:List (Nat×Option (Option Nat)))(K:Aa→Ac→Prop):Exit→Env→Ac→Prop
 | .normal,e,m=>D3 K m (Q9 n e m rs)
 | .ret,e,m=>D3 K m (Q9 n e m rs)
 | _,_,_=>False
theorem yh{e:Env}{m:Ac}{x:Nat×Option (Option Nat)}{v:Aa}{r:List (Nat×Option (Option Nat))}{l:List Aa}(h:Q9 n e m (x::r)=some (v::l)):Jg (AQ n e) m.mem x=some v/\Q9 n e m r=some l:=by
 obtain⟨i,o⟩:=x;have a:(AQ n e).getD i Ai=AG n e (.tmp i):=congrFun (K8 n e) (.tmp i);cases o with
 |none=>
  simp only[Q9]at h;cases b:Q9 n e m r with
  |none=>simp[b]at h
  |some l'=>
   simp only[b,oI,List.cons.injEq]at h;obtain⟨rfl,rfl⟩:=h;exact⟨by simp only[Jg,a],rfl⟩
 |some k=>
  simp only[Q9]at h;cases c:K4 m.get k (AG n e (.tmp i))with
  |none=>simp[c]at h
  |some w=>
   cases b:Q9 n e m r with
   |none=>simp[c,b]at h
   |some l'=>
    simp only[c,b,oI,List.cons.injEq]at h;obtain⟨rfl,rfl⟩:=h;refine⟨?_,rfl⟩;simp only[Jg,a,mT];exact c
theorem nK{e:Env}{m:Ac}:∀{c:List (Nat×Option (Option Nat))}{l:List Aa},Q9 n e m c=some l->(c=[]/\l=[]) \/ ∃x r v t,c=x::r/\l=v::t
 |[],l,h=>by simp only[Q9,oI]at h;exact .inl ⟨rfl,h.symm⟩
 | (i,none)::r,l,h=>by
  simp only[Q9]at h;cases a:Q9 n e m r with
  |none=>simp[a]at h
  |some l'=>simp only[a,oI]at h;exact .inr ⟨_,_,_,_,rfl,h.symm⟩
 | (i,some k)::r,l,h=>by
  simp only[Q9]at h;cases b:K4 m.get k (AG n e (.tmp i))with
  |none=>simp[b]at h
  |some w=>
   cases a:Q9 n e m r with
   |none=>simp[b,a]at h
   |some l'=>simp only[b,a,oI]at h;exact .inr ⟨_,_,_,_,rfl,h.symm⟩
theorem zI{e:Env}{m:Ac}:∀{b:List (Nat×Option (Option Nat))}{l:List Aa},Q9 n e m b=some l->HH (AQ n e) m.mem b=some l
 |[],l,h=>h
 |x::r,l,h=>by
  rcases nK h with⟨a,_⟩|⟨y,f,v,t,a,rfl⟩
  ·cases a
  cases a;obtain⟨c,d⟩:=yh h;simp only[HH,c,zI d]
theorem Wz{e:Env}{m:Ac}{b:List (Nat×Option (Option Nat))}{K:Aa->Ac->Prop}(h:D3 K m (Q9 n e m b)):∃v,I6 (AQ n e) m.mem b=some v/\K v m:=by
 cases a:Q9 n e m b with
 |none=>rw[a]at h;exact h.elim
 |some l=>
  rw[a]at h;have c:=zI a;rcases nK a with⟨rfl,rfl⟩|⟨x,r,v,t,rfl,rfl⟩
  ·exact⟨_,rfl,h⟩
  obtain⟨d,f⟩:=yh a;rcases nK f with⟨rfl,rfl⟩|⟨k,j,i,g,rfl,rfl⟩
  ·exact⟨v,by simp only[I6,d],h⟩
  exact⟨.tuple (v::i::g),by simp only[I6,c],h⟩
def Bo(P:Program)(f:FuncId)(args:List Aa)(m:Ac)(K:Aa→Ac→Prop):Prop:=Aw P f args m.mem [] fun r m'=>∃ sm:Ac,m'=sm.mem∧K r sm
def R9(n0:Nat)(K:Aa→Ac→Prop)(v:Aa)(m:Ac):Prop:=∃ v0 m0 l,Bm n0 l [(0,v0)] m0 [(0,v)] m∧K v0 m0
theorem Ylt(hm:P.follows .mixedOrders=true){f:FuncId}{fn:Func}{g:AD}{args:List Aa}{m:Ac}{K:Aa->Ac->Prop}(I:P.funcs[f]?=some fn)(Z:Bk P fn=some g)(C:Nat.ble args.length g.ntmps=true)
 (h:FC P g.ntmps m.next g.body (L3 g.ntmps g.results (R9 m.next K)) (R4 0 args []) m):Bo P f args m K:=by
 obtain⟨c,j,o,O,ab,p⟩:=UE Z;have aa:args.length<=g.ntmps:=Nat.le_of_ble_eq_true C;rw[o]at h;refine⟨⟨fn,I,p,by rw[j];rfl⟩,λW Φ ρ vs w J Y BE=>?_⟩;have D:=Ss (k:=fn.ntmps) Y;have E:RL Φ ρ (AQ g.ntmps (R4 0 args [])) (vs++Array.replicate (fn.ntmps-vs.size) undef):=by
  refine D.sub (by rw[M0];simp;omega) λi x d=>?_;have hi:i<g.ntmps:=by
   have:=(gS.1 d).1;rwa[M0]at this
  rw[H7 hi,Sr]at d;injection d with d
  by_cases B:0<=i/\i<0+args.length
  ·rw[iP B]at d;rw[List.getElem?_append,iP (by omega)];refine .inr ?_;rw[<-d,Nat.sub_zero,getD,gE (by omega)];rfl
  rw[iN B]at d;exact .inl d.symm
 have hs:=oG (n0:=m.next) hm c _ _ _ h W Φ ρ { tmps:=vs++Array.replicate (fn.ntmps-vs.size) undef,defers:=[] } w (lR _) J E rfl;refine calls_of_wp I j (wp_mono hs λx a w' C=>?_);obtain⟨e,z,s,ρ',U,B,h3,H,V,X,h7,t⟩:=C;have A:D3 (R9 m.next K) z (Q9 g.ntmps e z g.results)->a.defers=[] /\ ∃v,(results fn a.tmps).run P w'=.ok v w' /\
  ∃N r z s ρ',Ending.returned v=.returned N/\Ext Φ ρ s ρ'/\(∀b,b<m.mem.next->b∉([]:List Nat)->ρ b=none->ρ' b=none)/\Rel W s ρ' z w'/\R s ρ' r N/\m.mem.next<=z.next /\ ∃M:Ac,z=M.mem/\K r M:=by
  intro hh;obtain⟨v,Q,v0,m0,l,G,S⟩:=Wz hh;obtain⟨u,k1,k2⟩:=QO H V O Q;obtain⟨q,j1,j2,j3⟩:=G.rel (n:=1) (vs:=#[u]) H ⟨rfl,λi x y d L=>by
   cases i with
   |zero=>
    rw[H7 (by omega)]at d;simp only[Env.get,if_true,oI]at d;have:u=y:=by simpa using L
    subst d;subst this;exact k2
   |succ i=>simp at L⟩
  have k3:R s q v0 u:=j3.2 0 v0 u (by rw[H7 (by omega)];rfl) rfl;have F:∀b,b<m.next->q b=ρ b:=λb j=>(j1 b j).trans (B b j);refine⟨X,u,k1,u,v0,m0.mem,s,q,rfl,⟨U,λb l j=>?_⟩,λb j _ T=>(F b j).trans T,j2,k3,G.1,m0,rfl,S⟩;exact(F b (J.fresh b l j)).trans j
 cases x with
 |normal=>exact A t
 |ret=>exact A t
 |exit i=>exact t.elim
 |goto l=>exact t.elim
 |panic ch=>exact t.elim
 |outgrown=>exact t.elim
end
variable {P:Program}
theorem qC{f:FuncId}{Bj:List Aa}{m0:Mem}{K0:Aa->Mem->Prop}(h:Aw P f Bj m0 [] K0){m:Mem}{q:Nat->Nat}{K:Aa->Mem->Prop}
 (DK:∀c x,m0.get c=some x -> ∃y,m.get (q c)=some y/\(y=x.AM q\/FD (x.AM q) y))
 (aa:∀c c' x x',m0.get c=some x->m0.get c'=some x'->q c=q c'->c=c')
 (hq:∀c,m0.next<=c->q c=c-m0.next+m.next)
 (hK:∀r0 m1,K0 r0 m1 -> ∃m':Mem,m'.next=m1.next-m0.next+m.next /\
   (∀b x,m'.get b=some x->(∃c y,m1.get c=some y/\b=q c/\x=y.AM q)\/(m.get b=some x /\ ∀c y,m0.get c=some y->q c≠b))/\K (r0.AM q) m')
 (av:List Nat):Aw P f (Q3 q Bj) m av K:=by
 refine⟨h.1,λW Φ ρ vs w C ha BE=>?_⟩;have ab:∀b,q b<m.next->b<m0.next:=λb k=>by
  grind
 have H:∀B,(∃c l y,m.get c=some y/\(∀d z,m0.get d=some z->q d≠c)/\ρ c=some l/\l.blk=B) \/ ¬(∃c l y,m.get c=some y/\(∀d z,m0.get d=some z->q d≠c)/\ρ c=some l/\l.blk=B):=λB=>Classical.em _;obtain⟨g,hg⟩:∃g:Nat->Option Obj,∀B,((∃c l y,m.get c=some y/\(∀d z,m0.get d=some z->q d≠c)/\ρ c=some l/\l.blk=B)->g B=w.heap[B]?) /\
  (¬(∃c l y,m.get c=some y/\(∀d z,m0.get d=some z->q d≠c)/\ρ c=some l/\l.blk=B)->g B=W.g B):=by
  refine⟨λB=>@ite _ (∃c l y,m.get c=some y/\(∀d z,m0.get d=some z->q d≠c)/\ρ c=some l/\l.blk=B) (Classical.propDecidable _) (w.heap[B]?) (W.g B),λB=>⟨λh=>?_,λh=>?_⟩⟩
  ·simp only[h,if_true]
  grind
 let W':Aq:=⟨W.w,g,Φ⟩
 have t:∀B,W'.Cu B->W.Cu B:=by
  intro B E;refine⟨E.1,?_⟩;rcases H B with j|j
  ·obtain⟨c,l,y,F,_,hl,S⟩:=j;obtain⟨l',o,s,J,_⟩:=C.live c y F;rw[hl]at s;injection s with s;subst s
   rw[<-S];exact J.2
  have L:g B=none:=E.2;grind
 have T:∀B o,g B=some o->w.heap[B]?=some o:=by
  intro B o E;rcases H B with j|j
  ·grind
  rw[(hg B).2 j]at E;exact C.base.Ci B o E
 have U:Rel W Φ (λb=>ρ (q b)) m0 w:=C.BD DK aa ab;have ag:Rel W' Φ (λb=>ρ (q b)) m0 w:=by
  refine⟨⟨C.base.below,T⟩,C.AX,λb x hx=>?_,U.inj,U.fresh,λB c E=>.inl E⟩;obtain⟨l,o,s,J,g3,g4,g5⟩:=U.live b x hx;refine⟨l,o,s,⟨J.1,?_⟩,g3,g4,g5⟩;rcases H l.blk with j|j
  ·obtain⟨c,l',X,ah,O,hl,S⟩:=j;obtain⟨y,F,_⟩:=DK b x hx;exact absurd (C.inj _ _ y X l l' F ah s hl S.symm) (O b x hx)
  show g l.blk=none;rw[(hg _).2 j];exact J.2
 have ae:RL Φ (λb=>ρ (q b)) Bj vs:=by
  refine⟨by rw[ha.1,IZ],λi x v hx hv=>?_⟩;exact(ha.2 i (x.AM q) v (AU.2 ⟨x,hx,rfl⟩) hv).BD (q:=q) (λ_ _ k=>k) x rfl
 refine(h.2 W' Φ (λb=>ρ (q b)) vs w ag ae (λb k=>by simp at k)).mono λe w' he=>?_;obtain⟨u,r,m1,Z,Y,e1,hE,hk,n,hR,ai,ad⟩:=he;obtain⟨m',M,A,ac⟩:=hK r m1 ad;obtain⟨ρ',N⟩:∃ρ':AI,∀b,ρ' b=if b<m.next then ρ b else Y (b-m.next+m0.next):=⟨_,λ_=>rfl⟩
 have hp:∀b l,Y b=some l->ρ' (q b)=some l:=by
  intro b l k;rw[N];rcases lG b m0.next with j|j
  ·cases V:ρ (q b)with
   |none=>grind
   |some l'=>
    have L:=hE.CN b l' V;rw[k]at L;injection L with L;subst L
    rw[iP (C.fresh _ _ V)]
  rw[hq b j,iN (by omega)];have:b-m0.next+m.next-m.next+m0.next=b:=by omega
  rw[this];exact k
 have BG:∀b,b<m.next->ρ' b=ρ b:=λb k=>by grind
 have a:∀c y,m.get c=some y->(∀d z,m0.get d=some z->q d≠c) -> ∃l o,ρ' c=some l/\ρ c=some l/\W.Cu l.blk/\g l.blk=some o/\Z l.blk=none/\w'.heap[l.blk]?=some o/\BR Z ρ' y l o:=by
  intro c y F O;obtain⟨l,o,s,J,g3,g4,g5⟩:=C.live c y F;have DT:g l.blk=some o:=by rw[(hg _).1 ⟨c,l,y,F,O,s,rfl⟩];exact g4
  refine⟨l,o,(BG c (C.fresh _ _ s)).trans s,s,J,DT,?_,n.base.Ci _ _ DT,g5.ext ⟨hE.AX,λb l k=>(BG b (C.fresh _ _ k)).trans k⟩⟩;cases af:Z l.blk with
  |none=>rfl
  |some cc=>
   rcases n.BH _ _ af with j|j
   ·grind
   have:g l.blk=none:=j.2;grind
 have p:∀c y,m1.get c=some y -> ∃l o,ρ' (q c)=some l/\Y c=some l/\W'.Cu l.blk/\Z l.blk=none/\w'.heap[l.blk]?=some o/\BR Z ρ' (y.AM q) l o:=by
  intro c y F;obtain⟨l,o,s,J,g3,g4,g5⟩:=n.live c y F;exact⟨l,o,hp _ _ s,s,J,g3,g4,g5.AM hp⟩
 refine⟨u,r.AM q,m',Z,ρ',e1,⟨hE.AX,λb l k=>(BG b (C.fresh _ _ k)).trans k⟩,λb k _ h0=>(BG b k).trans h0,?_,hR.AM hp,by rw[M];omega,ac⟩;refine⟨⟨n.base.below,λB o E=>n.base.Ci B o ?_⟩,n.AX,λb y F=>?_,λb b' y X l l' j L k1 k2 he=>?_,λb l k=>?_,λB c E=>?_⟩
 ·rcases H B with j|j
  ·show g B=some o;rw[(hg B).1 j];exact C.base.Ci B o E
  show g B=some o;rw[(hg B).2 j];exact E
 ·rcases A b y F with⟨c,z,V,rfl,rfl⟩|⟨k,O⟩
  ·obtain⟨l,o,D,_,q3,q5,q6,q7⟩:=p c z V;exact⟨l,o,D,t _ q3,q5,q6,q7⟩
  obtain⟨l,o,D,_,q3,_,q5,q6,q7⟩:=a b y k O;exact⟨l,o,D,q3,q5,q6,q7⟩
 ·rcases A b y j with⟨c,z,V,rfl,rfl⟩|⟨k,O⟩
  ·obtain⟨l1,o1,D,q2,q3,_,_,_⟩:=p c z V;rw[k1]at D;injection D with D;subst D
   rcases A b' X L with⟨c',z',I,rfl,rfl⟩|⟨G,Q⟩
   ·obtain⟨l2,o2,p1,p2,_,_,_,_⟩:=p c' z' I;rw[k2]at p1;injection p1 with p1;subst p1
    rw[n.inj c c' z z' l l' V I q2 p2 he]
   obtain⟨l2,o2,p1,_,_,p4,_⟩:=a b' X G Q;rw[k2]at p1;injection p1 with p1;subst p1
   have:g l.blk=none:=q3.2;grind
  obtain⟨l1,o1,D,q2,_,q4,_⟩:=a b y k O;rw[k1]at D;injection D with D;subst D
  rcases A b' X L with⟨c',z',I,rfl,rfl⟩|⟨G,Q⟩
  ·obtain⟨l2,o2,p1,p2,p3,_,_,_⟩:=p c' z' I;rw[k2]at p1;injection p1 with p1;subst p1
   have:g l'.blk=none:=p3.2;grind
  obtain⟨l2,o2,p1,p2,_,p4,_⟩:=a b' X G Q;rw[k2]at p1;injection p1 with p1;subst p1
  exact C.inj b b' y X l l' k G q2 p2 he
 ·rw[N]at k;rw[M];split at k
  ·rename_i j;omega
  have:=n.fresh _ _ k;omega
 rcases n.BH B c E with j|j
 ·exact C.BH B c j
 exact .inr (t B j)
def V1(b:Nat):List Nat→Bool
 | []=>false
 | c :: r=>if b=c then true else V1 b r
def I3(q:Nat→Nat):List (Nat×Af)→List Nat
 | []=>[]
 | (b,_) :: r=>q b :: I3 q r
def E7(q:Nat→Nat):List (Nat×Af)→List (Nat×Af)→List (Nat×Af)
 | [],t=>t
 | (b,x) :: r,t=>(q b,x.AM q) :: E7 q r t
def N9(ks:List Nat):List (Nat×Af)→List (Nat×Af)
 | []=>[]
 | (b,x) :: r=>bif V1 b ks then N9 ks r else (b,x) :: N9 ks r
theorem Bu{b:Nat}:∀{l:List Nat},V1 b l=true↔b∈l
 |[]=>by simp[V1]
 |c::r=>by
  simp only[V1,mC];by_cases h:b=c
  ·simp[h]
  simp[h,Bu (l:=r)]
theorem Wa{q:Nat->Nat}{l:List (Nat×Af)}{c:Nat}{x:Af}(h:Z7 l c=some x):q c∈I3 q l:=by
 induction l with
 |nil=>simp[Z7]at h
 |cons a r b=>
  obtain⟨d,y⟩:=a;simp only[Z7]at h;split at h
  ·rename_i e;subst e;exact List.mem_cons_self ..
  exact List.mem_cons_of_mem _ (b h)
theorem Lo{d:List Nat}{b:Nat}{x:Af}:∀{l:List (Nat×Af)},Z7 (N9 d l) b=some x->Z7 l b=some x/\b∉d
 |[],h=>by simp[N9,Z7]at h
 | (c,y)::r,h=>by
  simp only[N9]at h;cases hm:V1 c d with
  |true=>
   rw[hm]at h;simp only[cond_true]at h;have:=Lo h;refine⟨?_,this.2⟩;simp only[Z7];rw[iN (λe:b=c=>this.2 (by rw[e];exact Bu.1 hm))];exact this.1
  |false=>
   rw[hm]at h;simp only[cond_false,Z7]at h ⊢;split at h
   ·rename_i e;refine⟨by grind,λa=>?_⟩;subst e;rw[Bu.2 a]at hm;cases hm
   rename_i e;have:=Lo h;grind
theorem eP{q:Nat->Nat}{b:Nat}{x:Af}{t:List (Nat×Af)}:∀{l:List (Nat×Af)},Z7 (E7 q l t) b=some x->(∃c y,Z7 l c=some y/\b=q c/\x=y.AM q)\/Z7 t b=some x
 |[],h=>.inr h
 | (c,y)::r,h=>by
  simp only[E7,Z7]at h;split at h
  ·rename_i e;injection h with h
   exact .inl ⟨c,y,by simp[Z7],e,h.symm⟩
  rename_i e;rcases eP h with⟨d,z,a,f,g⟩|a
  ·refine .inl ⟨d,z,?_,f,g⟩;simp only[Z7];grind
  exact .inr a
theorem S3{g:FuncId}{Bj args:List Aa}{m0 m:Ac}{n K:Aa->Ac->Prop}{id:Nat}(h:Bo P g Bj m0 n)(l:List (Nat×Nat))(r:Q3 (BC l 0 m0.next m.next) Bj=args)
 (v:BO (BC l 0 m0.next m.next) m0.bl m) (hi:CQ (BC l 0 m0.next m.next) m0.bl)
 (q:∀f a,n f a->K (f.AM (BC l 0 m0.next m.next)) ⟨E7 (BC l 0 m0.next m.next) a.bl (N9 (I3 (BC l 0 m0.next m.next) m0.bl) m.bl),a.next-m0.next+m.next⟩) :
 SC P g args m id K:=by
 subst r;refine qC h (m:=m.mem) (λc x d=>v.get c x d) (λc c' x w d k=>hi.get c c' x w d k) (λc j=>?_) (λf z t=>?_) [id]
 ·have s:m0.next<=c:=j;simp only[BC,Nat.not_lt_zero,if_false];rw[iN (by omega)];rfl
 obtain⟨a,rfl,u⟩:=t;refine⟨_,rfl,λb x d=>?_,⟨⟨E7 (BC l 0 m0.next m.next) a.bl (N9 (I3 (BC l 0 m0.next m.next) m0.bl) m.bl),a.next-m0.next+m.next⟩,rfl,q f a u⟩⟩;rcases eP d with⟨c,y,i,o,p⟩|i
 ·exact .inl ⟨c,y,i,o,p⟩
 have:=Lo i;exact .inr ⟨this.1,λc y j e=>this.2 (e ▸ Wa j)⟩
theorem WG{g:FuncId}{args:List Aa}{v:Aa}(d:Y7 args=true)(j:v.closed=true){k:Nat}(h:Bo P g args ⟨[],1⟩ λr a=>X8 a.get k r=some v):Au P g args v:=by
 intro m l;have n:Aw P g args (Ac.mem ⟨[],1⟩) [0] λr a=>∃i:Ac,a=i.mem/\X8 i.get k r=some v:=by
  refine⟨h.1,λW Φ ρ vs w f o _=>(h.2 W Φ ρ vs w f o (λb p=>by simp at p)).mono λe w' q=>?_⟩;grind
 exact aI d j (λc=>rfl) (Nat.lt_succ_self 0) n (λr a f=>by obtain⟨i,rfl,h⟩:=f;exact⟨k,h⟩) m l
theorem Bo.mono{g:FuncId}{args:List Aa}{m:Ac}{K K':Aa->Ac->Prop}(h:Bo P g args m K)(c:∀r a,K r a->K' r a):Bo P g args m K':=
 Aw.mono h λr a b=>by grind
def Ic(v:Aa)(A B:Prop):Prop:=
 match v with
 | .bool true=>A
 | .bool false=>B
 | _=>False
@[congr] theorem Ym3{v a:Aa}{A B:Prop}(h:v=a):Ic v A B=Ic a A B:=by rw [h]
end Go.AE
