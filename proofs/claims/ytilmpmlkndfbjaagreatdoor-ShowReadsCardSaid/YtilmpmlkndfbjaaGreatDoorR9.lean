/- Part 9 of the proof: AeSa, AeSb, AeNa, AeNb, AeNc. -/
import Derived.Test.YtilmpmlkndfbjaaGreatDoorR8
set_option linter.all false
section
namespace Go.AE
open Go.RowKit
abbrev Env:=List (Nat×AVal)
def Env.get:Env→Nat→AVal
 | [],_=>.bot
 | (j,v) :: r,i=>if i=j then v else Env.get r i
def evE(n:Nat)(e:Env):AOpd→AVal
 | .tmp i=>if i<n then e.get i else aundef
 | .const v=>v
 | .fn f=>.func (.func f) [] []
def Y3(e:Env)(d:Option Nat)(v:AVal):Env:=
 match d with
 | some d=>(d,v) :: e
 | none=>e
structure SMem where
 bl:List (Nat×ABlk)
 next:Nat
def Z7:List (Nat×ABlk)→Nat→Option ABlk
 | [],_=>none
 | (c,x) :: r,b=>if b=c then some x else Z7 r b
def S3:List (Nat×ABlk)→Nat→List (Nat×ABlk)
 | [],_=>[]
 | (c,x) :: r,b=>if b=c then S3 r b else (c,x) :: S3 r b
def SMem.get(m:SMem)(b:Nat):Option ABlk:=Z7 m.bl b
def SMem.mem(m:SMem):Mem:=⟨m.get,m.next⟩
def SMem.at(m:SMem)(n:Nat):SMem:=⟨m.bl,n⟩
def SMem.app(m:SMem):List (Nat×Option ABlk)→SMem
 | []=>m
 | (b,some x) :: r=>SMem.app ⟨(b,x) :: m.bl,m.next⟩ r
 | (b,none) :: r=>SMem.app ⟨S3 m.bl b,m.next⟩ r
theorem H1(b c:Nat):∀ (l:List (Nat×ABlk)),Z7 (S3 l b) c=if c=b then none else Z7 l c
 | []=>by simp[S3,Z7]
 | (d,x) :: r=>by
  simp only[S3];by_cases h:b=d
  ·rw[if_pos h,H1 b c r];simp only[Z7];by_cases a:c=b
   ·simp[a]
   ·rw[if_neg a,if_neg a,if_neg (by omega)]
  ·rw[if_neg h];simp only[Z7];by_cases a:c=d
   ·rw[if_pos a,if_pos a,if_neg (by omega)]
   ·rw[if_neg a,if_neg a,H1 b c r]
theorem SMem.app_mem:∀ (d:List (Nat×Option ABlk)) (m:SMem),(m.app d).mem=m.mem.apply d
 | [],_=>rfl
 | (b,some x) :: r,m=>by
  simp only[SMem.app,Mem.apply];rw[SMem.app_mem r]
  congr 1
 | (b,none) :: r,m=>by
  simp only[SMem.app,Mem.apply];rw[SMem.app_mem r]
  congr 1
  exact Mem.ext' (fun c=>by simp only[SMem.mem,SMem.get,Mem.get_del]; exact H1 b c m.bl) rfl
def toE(n:Nat)(e:Env):List AVal:=(List.range n).map e.get
theorem M0(n:Nat)(e:Env):(toE n e).length=n:=by simp[toE]
theorem G0{n:Nat}{e:Env}{i:Nat}(h:i<n):(toE n e)[i]? = some (e.get i):=by simp[toE,h]
theorem F1(n:Nat)(e:Env):ev (toE n e)=evE n e:=by
 funext x
 cases x with
 | tmp i=>
  simp only[ev,evE];by_cases h:i<n
  ·rw[if_pos h,List.getD,G0 h]; rfl
  ·rw[if_neg h,List.getD,List.getElem?_eq_none (by rw[M0]; omega)]; rfl
 | const v=>rfl
 | fn f=>rfl
theorem G7(n:Nat)(e:Env)(d:Option Nat)(v:AVal):put (toE n e) d v=toE n (Y3 e d v):=by
 cases d with
 | none=>rfl
 | some d=>
  simp only[put,Y3];apply List.ext_getElem?;intro i;rw[List.getElem?_set];by_cases hi:i<n
  ·rw[G0 hi,G0 hi];simp only[Env.get];by_cases h:d=i
   ·rw[if_pos h,if_pos (by rw[M0]; omega),if_pos h.symm]
   ·rw[if_neg h,if_neg (fun e=>h e.symm)]
  ·rw[List.getElem?_eq_none (by rw[M0]; omega),List.getElem?_eq_none (by rw[M0]; omega)]
   by_cases h:d=i
   ·rw[if_pos h,if_neg (by rw[M0]; omega)]
   ·rw[if_neg h]
def U0(n:Nat)(e:Env):Option (Nat×Bool)→Option Bool
 | none=>some true
 | some (d,w)=>match evE n e (.tmp d)with
  | .bool b=>some (b == w)
  | .tuple []=>some false
  | _=>none
theorem Zh7(n:Nat)(e:Env)(g:Option (Nat×Bool)):S6 (toE n e) g=U0 n e g:=by
 cases g with
 | none=>rfl
 | some p=>
  obtain⟨d,w⟩:=p;have h:(toE n e).getD d aundef=evE n e (.tmp d):=congrFun (F1 n e) (.tmp d);simp only[S6,U0,h];rfl
def W8(n:Nat)(e:Env)(f:AOpd)(xs:List AOpd):Option (FuncId×List AVal):=
 match evE n e f with
 | .func (.func g) first cap=>some (g,first++xs.map (evE n e)++cap)
 | _=>none
theorem Zj5(n:Nat)(e:Env)(f:AOpd)(a:List AOpd):callee (toE n e) f a=W8 n e f a:=by
 simp only[callee,W8,F1];rfl
def SC(P:Program)(g:FuncId)(args:List AVal)(m:SMem)(id:Nat)(K:AVal→SMem→Prop):Prop:=
 ACalls P g args m.mem [id] fun v m''=>∃ m',m''=m'.mem∧K v m'
def PCall(P:Program)(g:FuncId)(args:List AVal)(v:AVal):Prop:=∀ (m:Mem) (av:List Nat),ACalls P g args m av fun r m'=>r=v∧m'=m
theorem J7{P:Program}{g:FuncId}{args:List AVal}{m:SMem}{id:Nat}{v:AVal}{K:AVal→SMem→Prop}(h:PCall P g args v)(a:K v m):SC P g args m id K:=
 (h m.mem [id]).mono fun r c b=>by obtain⟨rfl,rfl⟩:=b; exact⟨m,rfl,a⟩
def J4(P:Program)(n base:Nat):List AOper→Nat→(Env→SMem→Prop)→Env→SMem→Prop
 | [],_,K,e,m=>K e m
 | o :: r,i,K,e,m=>
  match U0 n e o.guard with
  | some false=>J4 P n base r (i+1) K (Y3 e o.dst aundef) m
  | some true=>
   match o.op with
   | .call f xs=>match W8 n e f xs with
    | some (g,args)=>SC P g args m (base+i) fun v m'=>J4 P n base r (i+1) K (Y3 e o.dst v) m'
    | none=>False
   | op=>match stepD (base+i) (evE n e) m.get op with
    | some (v,d)=>J4 P n base r (i+1) K (Y3 e o.dst v) (m.app d)
    | none=>False
  | none=>False
def upX:Nat→Nat→List Nat
 | 0,_=>[]
 | k+1,s=>s :: upX k (s+1)
def xOf(base i n:Nat):List Nat:=upX i base++upX n (base+i+1)
theorem Zq6:∀ {k s c:Nat},c∈upX k s→s≤c∧c<s+k
 | 0,_,_,h=>by simp[upX]at h
 | k+1,s,c,h=>by
  simp only[upX,List.mem_cons]at h;rcases h with rfl|h
  ·omega
  ·have:=Zq6 h; omega
theorem Zyc(base i n:Nat):base+i∉xOf base i n:=by
 intro h;rcases List.mem_append.1 h with h|h
 ·have:=Zq6 h; omega
 ·have:=Zq6 h; omega
def Zix(P:Program)(g:FuncId)(args:List AVal)(v:AVal)(id:Nat)(x:List Nat)(m:Mem):Prop:=ACalls P g args (m.less x) [id] fun r m'=>r=v∧m'=m.less x
theorem PCall.x{P:Program}{g:FuncId}{args:List AVal}{v:AVal}(h:PCall P g args v)(id:Nat)(x:List Nat)(m:Mem):Zix P g args v id x m:=h _ _
def B2(P:Program)(n base:Nat):List AOper→List FT→(Env→SMem→Prop)→Env→SMem→Prop
 | [],_,K,e,m=>K e m
 | o :: r,fs,K,e,m=>
  match U0 n e o.guard with
  | some false=>B2 P n base r (fs++[.ops [] []]) K (Y3 e o.dst aundef) m
  | some true=>
   match o.op with
   | .call f xs=>match W8 n e f xs with
    | some (g,args)=>∃ v,Zix P g args v (base+fs.length) (xOf base fs.length r.length) m.mem∧S7 fs (.call [] (xOf base fs.length r.length) m.next) o.un∧B2 P n base r (fs++[.call [] (xOf base fs.length r.length) m.next]) K (Y3 e o.dst v) m
    | none=>False
   | op=>match stepD (base+fs.length) (evE n e) m.get op with
    | some (v,d)=>S7 fs (.ops (V7 (base+fs.length) (evE n e) op) (V8 (evE n e) op)) o.un∧B2 P n base r (fs++[.ops (V7 (base+fs.length) (evE n e) op) (V8 (evE n e) op)]) K (Y3 e o.dst v) (m.app d)
    | none=>False
  | none=>False
def SubE:Env→Env→Prop
 | [],_=>True
 | (i,v) :: r,e=>e.get i=v∧SubE r e
def BSub:ABlk→ABlk→Prop
 | .cells k els,.cells k' els'=>k=k'∧els.length=els'.length ∧ ∀(i:Nat) (row row':List AVal),els[i]? = some row→els'[i]? = some row'→row.length=row'.length ∧ ∀(j:Nat) (x:AVal),row[j]? = some x→x=AVal.bot∨row'[j]? = some x
 | x,y=>x=y
theorem BR.bsub{Φ:Pers}{ρ:Rho}{x y:ABlk}{l:Loc}{o:Obj}(p:BSub x y)(h:BR Φ ρ y l o):BR Φ ρ x l o:=by
 cases x with
 | cells k els=>
  cases y with
  | cells G b=>
   obtain⟨rfl,A,n⟩:=p;cases h with
   | cells k b l c e z C B u w=>
    have d:∀ (i:Nat) (row:List AVal),els[i]? = some row → ∃ a,b[i]? = some a∧row.length=a.length ∧ ∀(j:Nat) (x:AVal),row[j]? = some x→x=AVal.bot∨a[j]? = some x:=by
     intro i row hi;have f:i<b.length:=by rw[← A]; exact(gS.1 hi).1
     exact⟨b[i],gE f,n i row _ hi (gE f)⟩
    refine .cells k els l c e z C (by omega) ⟨fun i row hi=>?_,fun i row j x hi t=>?_⟩ w
    ·obtain⟨a,q,r,s⟩:=d i row hi;rw[r]; exact u.1 i a q
    ·obtain⟨a,q,r,s⟩:=d i row hi;have m:j<a.length:=by rw[← r]; exact(gS.1 t).1
     obtain⟨v,D,E,F⟩:=u.2 i a j _ q (gE m);refine⟨v,D,E,?_⟩;rcases s j x t with rfl|g
     ·exact .bot v
     ·rw[gE m]at g;injection g with g
      rw[← g]; exact F
  | _=>cases p
 | _=>cases y<;>first|(cases p; done)|(cases p; exact h)
theorem Rel.bsub{W:Base}{Φ:Pers}{ρ:Rho}{m c:Mem}{w:World}(h:Rel W Φ ρ m w)(t:m.next≤c.next)(f:∀ b x,c.get b=some x→m.get b=some x ∨ ∃ y,m.get b=some y∧BSub x y):Rel W Φ ρ c w:=by
 have a:∀ b x,c.get b=some x → ∃ y,m.get b=some y:=fun b x d=>(f b x d).elim (fun g=>⟨_,g⟩) fun⟨y,g,_⟩=>⟨y,g⟩
 refine⟨h.base,h.pers,fun b x d=>?_,fun b b' x z l l' q r=>?_,fun b l s=>Nat.lt_of_lt_of_le (h.fresh b l s) t,h.newp⟩
 ·rcases f b x d with g|⟨y,g,u⟩
  ·exact h.live b x g
  ·obtain⟨l,o,i,j,k,n,p⟩:=h.live b y g;exact⟨l,o,i,j,k,n,p.bsub u⟩
 ·obtain⟨y,v⟩:=a b x q;obtain⟨A,e⟩:=a b' z r;exact h.inj b b' y A l l' v e
def SubB:List (Nat×ABlk)→SMem→Prop
 | [],_=>True
 | (b,x) :: r,m=>(m.get b=some x ∨ ∃ y,m.get b=some y∧BSub x y)∧SubB r m
def SubS(e0:Env)(m0:SMem)(e:Env)(m:SMem):Prop:=SubE e0 e∧SubB m0.bl m∧m.next≤m0.next
theorem SubE.get:∀ {b e:Env},SubE b e → ∀ i,b.get i=.bot∨b.get i=e.get i
 | [],_,_,i=>.inl rfl
 | (j,v) :: r,e,h,i=>by
  simp only[Env.get];by_cases a:i=j
  ·subst a; rw[if_pos rfl]; exact .inr h.1.symm
  ·rw[if_neg a]; exact h.2.get i
theorem SubB.get:∀ {l:List (Nat×ABlk)} {m:SMem},SubB l m → ∀ b x,Z7 l b=some x→m.get b=some x ∨ ∃ y,m.get b=some y∧BSub x y
 | [],_,_,b,x,h=>by simp[Z7]at h
 | (c,y) :: r,m,a,b,x,h=>by
  simp only[Z7]at h;split at h
  ·rename_i d; subst d; injection h with h; subst h; exact a.1
  ·exact a.2.get b x h
theorem SubS.weak{n:Nat}{d e:Env}{m0 m:SMem}(h:SubS d m0 e m):ASt.Weak ⟨toE n d,m0.mem⟩ ⟨toE n e,m.mem⟩:=by
 refine⟨h.2.2,fun W Φ ρ vs w f g=>⟨Φ,.refl _ _,f.bsub h.2.2 (fun b x a=>h.2.1.get b x a),g.sub (by rw[M0,M0]) (fun i x a=>?_)⟩⟩
 have hi:i<n:=by
  have:=(gS.1 a).1;rw[M0]at this; exact this
 simp only at a ⊢;rw[G0 hi]at a ⊢;injection a with a
 rcases h.1.get i with c|c
 ·exact .inl (a.symm.trans c)
 ·exact .inr (by rw[← c,a])
def M2(next:Env→SMem→Prop)(Q:Exit→Env→SMem→Prop):Exit→Env→SMem→Prop
 | .normal,e,m=>next e m
 | x,e,m=>Q x e m
def G3(id:Nat)(Q:Exit→Env→SMem→Prop):Exit→Env→SMem→Prop
 | .exit id',e,m=>if id'=id then Q .normal e m else Q (.exit id') e m
 | x,e,m=>Q x e m
def wpS(P:Program)(n:Nat):ACode→(Exit→Env→SMem→Prop)→Env→SMem→Prop
 | .skip,Q,e,m=>Q .normal e m
 | .region false ops,Q,e,m=>J4 P n m.next ops 0 (Q .normal) e (m.at (m.next+ops.length))
 | .region true ops,Q,e,m=>B2 P n m.next ops [] (Q .normal) e (m.at (m.next+ops.length))
 | .seq a b,Q,e,m=>wpS P n a (M2 (wpS P n b Q) Q) e m
 | .cond c a b,Q,e,m=>match evE n e c with
  | .bool true=>wpS P n a Q e m
  | .bool false=>wpS P n b Q e m
  | _=>False
 | .block id c,Q,e,m=>wpS P n c (G3 id Q) e m
 | .loop c,Q,e,m=>∃ (I:Nat→Env→SMem→Prop),(∃ k e0 m0,SubS e0 m0 e m∧I k e0 m0) ∧ ∀ k e1 m1,I k e1 m1→wpS P n c (M2 (fun e' m'=>∃ j e0 m0,j<k∧SubS e0 m0 e' m'∧I j e0 m0) Q) e1 m1
 | .exit id,Q,e,m=>Q (.exit id) e m
 | .scope c,Q,e,m=>wpS P n c Q e m
 | .label _,Q,e,m=>Q .normal e m
 | .ret,Q,e,m=>Q .ret e m
 | .bad,_,_,_=>False
def C1(n:Nat)(Q:Exit→Env→SMem→Prop):Exit→ASt→Prop
 | .goto _,_=>False
 | x,σ=>∃ e m,σ=⟨toE n e,m.mem⟩∧Q x e m
section
variable {P:Program} {n:Nat}
theorem Zh9{base:Nat}{K:Env→SMem→Prop}:∀ (j:List AOper) (i:Nat) (e:Env) (m:SMem),J4 P n base j i K e m→M6 P base j i (fun s=>∃ e m,s=⟨toE n e,m.mem⟩∧K e m) (toE n e) m.mem
 | [],_,e,m,h=>⟨e,m,rfl,h⟩
 | o :: r,i,e,m,h=>by
  simp only[J4]at h;simp only[M6,Zh7];cases l:U0 n e o.guard with
  | none=>simp[l]at h
  | some q=>
   cases q with
   | false=>
    simp only[l]at h;simp only[G7];exact Zh9 r (i+1) _ m h
   | true=>
    simp only[l]at h;simp only;have b:∀ op,o.op=op→(match stepD (base+i) (evE n e) m.get op with|some (v,d)=>J4 P n base r (i+1) K (Y3 e o.dst v) (m.app d)|none=>False) →
     (match stepA (base+i) (toE n e) m.mem op with|some (v,p)=>M6 P base r (i+1) (fun s=>∃ e m,s=⟨toE n e,m.mem⟩∧K e m) (put (toE n e) o.dst v) p|none=>False):=by
     intro op _ c;cases k:stepD (base+i) (evE n e) m.get op with
     | none=>simp[k]at c
     | some A=>
      obtain⟨v,d⟩:=A;simp only[k]at c;have:=Zgw (m:=m.mem) (t:=toE n e) (id:=base+i) (op:=op) (v:=v) (d:=d) (by rw[F1]; exact k)
      rw[this];simp only[G7];rw[← SMem.app_mem];exact Zh9 r (i+1) _ _ c
    cases a:o.op with
    | call f B=>
     simp only[a]at h;simp only[Zj5];cases u:W8 n e f B with
     | none=>simp[u]at h
     | some w=>
      obtain⟨g,args⟩:=w;simp only[u]at h;simp only;refine h.mono fun v z c=>?_
      obtain⟨p,rfl,y⟩:=c;simp only[G7];exact Zh9 r (i+1) _ p y
    | _=>rw[a]at h; exact b _ a h
theorem Zti{g:FuncId}{args:List AVal}{v:AVal}(id:Nat)(x:List Nat)(b:id∉x)(m:Mem)(h:Zix P g args v id x m):Zfh P g args id x m v m []:=by
 refine⟨m.less x,b,fun c a=>by simp[Mem.less,a],Nat.le_refl _,rfl,fun c=>?_,fun c _ _ a=>by simp[Mem.less,a],h⟩
 by_cases a:c∈x
 ·rw[if_pos a]
 ·rw[if_neg a]; simp[Mem.less,a]
theorem Zna{base:Nat}{K:Env→SMem→Prop}:∀ (i:List AOper) (a:List FT) (e:Env) (m:SMem),B2 P n base i a K e m→Q4 P base i a (fun p=>∃ e m,p=⟨toE n e,m.mem⟩∧K e m) (toE n e) m.mem
 | [],_,e,m,h=>⟨e,m,rfl,h⟩
 | o :: r,a,e,m,h=>by
  simp only[B2]at h;simp only[Q4,Zh7];cases l:U0 n e o.guard with
  | none=>simp[l]at h
  | some q=>
   cases q with
   | false=>
    simp only[l]at h;simp only[G7];exact Zna r _ _ m h
   | true=>
    simp only[l]at h;simp only;have c:∀ op,o.op=op→(match stepD (base+a.length) (evE n e) m.get op with|some (v,d)=>S7 a (.ops (V7 (base+a.length) (evE n e) op) (V8 (evE n e) op)) o.un∧B2 P n base r (a++[.ops (V7 (base+a.length) (evE n e) op) (V8 (evE n e) op)]) K (Y3 e o.dst v) (m.app d)|none=>False) →
     (match stepA (base+a.length) (toE n e) m.mem op with|some (v,m')=>S7 a (.ops (S4 (base+a.length) (toE n e) op) (J0 (toE n e) op)) o.un∧Q4 P base r (a++[.ops (S4 (base+a.length) (toE n e) op) (J0 (toE n e) op)]) (fun p=>∃ e m,p=⟨toE n e,m.mem⟩∧K e m) (put (toE n e) o.dst v) m'|none=>False):=by
     intro op _ j;cases k:stepD (base+a.length) (evE n e) m.get op with
     | none=>simp[k]at j
     | some z=>
      obtain⟨v,d⟩:=z;simp only[k]at j;have:=Zgw (m:=m.mem) (t:=toE n e) (id:=base+a.length) (op:=op) (v:=v) (d:=d) (by rw[F1]; exact k)
      rw[this];simp only[G7,Zkv,Zl5,F1];rw[← SMem.app_mem];exact⟨j.1,Zna r _ _ _ j.2⟩
    cases b:o.op with
    | call f A=>
     simp only[b]at h;simp only[Zj5];cases s:W8 n e f A with
     | none=>simp[s]at h
     | some u=>
      obtain⟨g,args⟩:=u;simp only[s]at h;obtain⟨v,y,hi,w⟩:=h;simp only;refine⟨[],xOf base a.length r.length,v,m.mem,Zti _ _ (Zyc _ _ _) _ y,hi,?_⟩;simp only[G7];exact Zna r _ _ m w
    | _=>rw[b]at h; exact c _ b h
theorem Zi3{c:ACode}:∀ {Q u:Exit→ASt→Prop} {j:ASt},wpc P c Q j→(∀ x j,Q x j→u x j)→wpc P c u j:=by
 induction c with
 | skip=>exact fun h d=>d _ _ h
 | region z e=>
  intro Q u j h d;cases z with
  | false=>
   simp only[wpc]at h ⊢;have:∀ (e:List AOper) (base i:Nat) (t:List AVal) (m:Mem),M6 P base e i (Q .normal) t m→M6 P base e i (u .normal) t m:=by
    intro e
    induction e with
    | nil=>exact fun base i t m h=>d _ _ h
    | cons o r p=>
     intro base i t m h;rcases Zvc h with⟨q,s⟩|⟨q,⟨f,J,g,args,s,A,F⟩|⟨v,D,s,A⟩⟩
     ·simp only[M6,q]; exact p _ _ _ _ s
     ·simp only[M6,q,s,A]; exact F.mono fun v D H=>p _ _ _ _ H
     ·simp only[M6,q];cases C:o.op<;>rw[C]at s<;>first|(simp only[s]; exact p _ _ _ _ A)|(simp[stepA]at s)
   exact this _ _ _ _ _ h
  | true=>
   simp only[wpc]at h ⊢;have:∀ (e:List AOper) (base:Nat) (B:List FT) (t:List AVal) (m:Mem),Q4 P base e B (Q .normal) t m→Q4 P base e B (u .normal) t m:=by
    intro e
    induction e with
    | nil=>exact fun base i t m h=>d _ _ h
    | cons o r p=>
     intro base B t m h;simp only[Q4]at h ⊢;split at h
     ·exact p _ _ _ _ h
     ·split at h
      ·split at h
       ·obtain⟨wl,x,v,D,q,s,A⟩:=h;exact⟨wl,x,v,D,q,s,p _ _ _ _ A⟩
       ·exact h
      ·split at h
       ·exact⟨h.1,p _ _ _ _ h.2⟩
       ·exact h
     ·exact h
   exact this _ _ _ _ _ h
 | seq a b w y=>
  intro Q u j h d;refine w h fun x j n=>?_
  cases x<;>first|exact y n d|exact d _ _ n
 | cond c a b w y=>
  intro Q u j h d;simp only[wpc]at h ⊢;split at h
  ·exact w h d
  ·exact y h d
  ·exact h
 | block id c p=>
  intro Q u j h d;refine p h fun x j n=>?_
  cases x<;>simp only[Zaz]at n ⊢ <;> first|exact d _ _ n|skip
  split at n
  ·rename_i q; rw[if_pos q]; exact d _ _ n
  ·rename_i q; rw[if_neg q]; exact d _ _ n
 | loop c p=>
  intro Q u j h d;obtain⟨I,q,s⟩:=h;refine⟨I,q,fun k E G=>p (s k E G) fun x j n=>?_⟩
  cases x<;>first|exact n|exact d _ _ n
 | exit id=>exact fun h d=>d _ _ h
 | scope c p=>
  intro Q u j h d;refine p h fun x j n=>?_
  cases x<;>first|exact n|exact d _ _ n
 | label l=>exact fun h d=>d _ _ h
 | ret=>exact fun h d=>d _ _ h
 | bad=>exact fun h _=>h
theorem Zzu{c:ACode}:∀ {Q:Exit→Env→SMem→Prop} {e:Env} {m:SMem},wpS P n c Q e m→wpc P c (C1 n Q) ⟨toE n e,m.mem⟩:=by
 induction c with
 | skip=>exact fun h=>⟨_,_,rfl,h⟩
 | region q t=>
  intro Q e m h;cases q with
  | false=>exact Zh9 t 0 e _ h
  | true=>exact Zna t [] e _ h
 | seq a b f g=>
  intro Q e m h;show wpc P a (Zkk (wpc P b (C1 n Q)) (C1 n Q)) _;refine Zi3 (f h) fun x u d=>?_
  cases x<;>simp only[C1]at d<;>first|exact d.elim|skip
  all_goals
   obtain⟨o,p,rfl,d⟩:=d
   first|exact g d|exact⟨o,p,rfl,d⟩
 | cond c a b f g=>
  intro Q e m h;simp only[wpS]at h;simp only[wpc,F1];split at h
  ·rename_i y; rw[y]; exact f h
  ·rename_i y; rw[y]; exact g h
  ·exact h.elim
 | block id c s=>
  intro Q e m h;show wpc P c (Zaz id (C1 n Q)) _;refine Zi3 (s h) fun x u d=>?_
  cases x<;>simp only[C1,G3]at d<;>first|exact d.elim|skip
  case exit i=>
   obtain⟨o,p,rfl,d⟩:=d;simp only[Zaz];split at d
   ·rename_i r; rw[if_pos r]; exact⟨o,p,rfl,d⟩
   ·rename_i r; rw[if_neg r]; exact⟨o,p,rfl,d⟩
  all_goals exact d
 | loop c s=>
  intro Q e m h;obtain⟨I,⟨k,v,m0,r,A⟩,B⟩:=h;refine⟨fun k u=>∃ e m,u=⟨toE n e,m.mem⟩∧I k e m,⟨k,_,r.weak,v,m0,rfl,A⟩,?_⟩
  rintro k F ⟨o,p,rfl,C⟩;refine Zi3 (s (B k o p C)) fun x u d=>?_
  cases x<;>simp only[C1]at d<;>first|exact d.elim|skip
  all_goals obtain⟨z,m2,rfl,d⟩:=d
  ·obtain⟨j,v,m0,D,E,w⟩:=d;exact⟨j,_,D,E.weak,v,m0,rfl,w⟩
  all_goals exact⟨z,m2,rfl,d⟩
 | exit id=>exact fun h=>⟨_,_,rfl,h⟩
 | scope c s=>
  intro Q e m h;show wpc P c (Zoc (C1 n Q)) _;refine Zi3 (s h) fun x u d=>?_
  cases x<;>first|exact d.elim|exact d
 | label l=>exact fun h=>⟨_,_,rfl,h⟩
 | ret=>exact fun h=>⟨_,_,rfl,h⟩
 | bad=>exact fun h=>h
def U1(k:Nat):List AVal→Env→Env
 | [],e=>e
 | x :: r,e=>(k,x) :: U1 (k+1) r e
theorem Zlj:∀ (args:List AVal) (k i:Nat) (e:Env),(U1 k args e).get i=if k≤i∧i<k+args.length then args.getD (i - k) .bot else e.get i
 | [],k,i,e=>by
  have:¬(k≤i∧i<k+([]:List AVal).length):=by simp
  rw[if_neg this]; rfl
 | x :: r,k,i,e=>by
  simp only[U1,Env.get];by_cases h:i=k
  ·subst h;rw[if_pos rfl,if_pos (by simp),Nat.sub_self]
   rfl
  ·rw[if_neg h,Zlj r (k+1) i e];by_cases a:k+1≤i∧i<k+1+r.length
   ·rw[if_pos a,if_pos (by simp; omega)]
    have:i - k=(i - (k+1))+1:=by omega
    rw[this];rfl
   ·rw[if_neg a,if_neg (by simp; omega)]
def I6(n:Nat)(rs:List (Nat×Option (Option Nat)))(K:AVal→SMem→Prop):Exit→Env→SMem→Prop
 | .normal,e,m=>match rs with
  | [(i,none)]=>K (evE n e (.tmp i)) m
  | [(i,none),(j,none)]=>K (.tuple [evE n e (.tmp i),evE n e (.tmp j)]) m
  | []=>K (.tuple []) m
  | _=>False
 | .ret,e,m=>match rs with
  | [(i,none)]=>K (evE n e (.tmp i)) m
  | [(i,none),(j,none)]=>K (.tuple [evE n e (.tmp i),evE n e (.tmp j)]) m
  | []=>K (.tuple []) m
  | _=>False
 | _,_,_=>False
theorem Yb2(hm:P.follows .mixedOrders=true){f:FuncId}{fn:Func}{o:AFn}{args:List AVal}{m:Mem}{M:List Nat}{K:AVal→Mem→Prop}(O:P.funcs[f]? = some fn)(hc:cFn P fn=some o){n:ASt}
 (H:ASt.Weak n ⟨args++List.replicate (o.ntmps - args.length) aundef,m⟩) (h:wpc P o.body (retK o.results K) n):ACalls P f args m M K:=by
 obtain⟨c,z,g,E,C,j⟩:=Zmh hc;rw[g]at h;refine⟨⟨fn,O,j,by rw[z]; rfl⟩,fun W Φ ρ vs w hr ha aa=>?_⟩
 have F:=Zis (k:=fn.ntmps) ha;rw[C]at H;obtain⟨L,A,D,G⟩:=H.rel W Φ ρ _ w hr F;have hs:=Zjr hm c _ _ h W L ρ { tmps:=vs++Array.replicate (fn.ntmps - vs.size) undef,defers:=[] } w D G rfl;refine calls_of_wp O z (wp_mono hs fun e a w' hl=>?_)
 obtain⟨q,d,ρ',X,Y,Z,N,h5,h6,p⟩:=hl;have y:m.next≤n.m.next:=H.next;have s:(match L6 q.t q.m o.results with|some r=>K r q.m|none=>False)→a.defers=[] ∧ ∃ v,(results fn a.tmps).run P w'=.ok v w' ∧
  ∃ Q r J d ρ',Ending.returned v=.returned Q∧Ext Φ ρ d ρ'∧(∀ b,b<m.next→b∉M→ρ b=none→ρ' b=none)∧Rel W d ρ' J w'∧R d ρ' r Q∧m.next≤J.next∧K r J:=by
  intro B;cases I:L6 q.t q.m o.results with
  | none=>simp[I]at B
  | some r=>
   simp only[I]at B;obtain⟨u,S,U⟩:=Zh3 N h5 E I;exact⟨h6,u,S,u,r,q.m,d,ρ',rfl,A.trans X,fun b z _ V=>Y b (Nat.lt_of_lt_of_le z y) V,N,U,Nat.le_trans y Z,B⟩
 cases e with
 | normal=>exact s p
 | ret=>exact s p
 | exit i=>exact p.elim
 | goto l=>exact p.elim
 | panic ch=>exact p.elim
 | outgrown=>exact p.elim
theorem B6(hm:P.follows .mixedOrders=true){f:FuncId}{fn:Func}{b:AFn}{args:List AVal}{m:SMem}{q:List Nat}{K:AVal→Mem→Prop}(u:P.funcs[f]? = some fn)(t:cFn P fn=some b)(y:args.length≤b.ntmps)
 (h:wpS P b.ntmps b.body (I6 b.ntmps b.results fun v c=>K v c.mem) (U1 0 args []) m):ACalls P f args m.mem q K:=by
 have w:ASt.Weak ⟨toE b.ntmps (U1 0 args []),m.mem⟩ ⟨args++List.replicate (b.ntmps - args.length) aundef,m.mem⟩:=by
  refine ASt.Weak.of_sub (by simp[M0]; omega) (fun i x a=>?_) (Mem.Sub.refl _)
  have hi:i<b.ntmps:=by
   have:=(gS.1 a).1;rw[M0]at this; exact this
  simp only at a ⊢;rw[G0 hi,Zlj]at a;injection a with a
  by_cases p:0≤i∧i<0+args.length
  ·rw[if_pos p]at a;rw[List.getElem?_append,if_pos (by omega)]
   refine .inr ?_;rw[← a,Nat.sub_zero,List.getD,gE (by omega)]
   rfl
  ·rw[if_neg p]at a;exact .inl a.symm
 have s:wpc P b.body (retK b.results K) ⟨toE b.ntmps (U1 0 args []),m.mem⟩:=by
  refine Zi3 (Zzu h) fun x z a=>?_
  have d:∀ e c,(match b.results with
   | [(i,none)]=>K (evE b.ntmps e (.tmp i)) c.mem
   | [(i,none),(j,none)]=>K (.tuple [evE b.ntmps e (.tmp i),evE b.ntmps e (.tmp j)]) c.mem
   | []=>K (.tuple []) c.mem
   | _=>False)→(match L6 (toE b.ntmps e) (SMem.mem c) b.results with|some r=>K r c.mem|none=>False):=by
   intro e c k;have g:∀ i,(toE b.ntmps e).getD i aundef=evE b.ntmps e (.tmp i):=fun i=>congrFun (F1 b.ntmps e) (.tmp i)
   split at k
   ·rename_i i l;rw[l];simp only[L6,Zac,g];exact k
   ·rename_i i j l;rw[l];simp only[L6,D8,Zac,g];exact k
   ·rename_i l;rw[l];exact k
   ·exact k.elim
  cases x<;>simp only[C1,I6]at a<;>first|exact a.elim|skip
  ·obtain⟨n,o,rfl,a⟩:=a; exact d n o a
  ·obtain⟨_,_,_,a⟩:=a; exact a.elim
  ·obtain⟨n,o,rfl,a⟩:=a; exact d n o a
  ·obtain⟨_,_,_,a⟩:=a; exact a.elim
  ·obtain⟨_,_,_,a⟩:=a; exact a.elim
 exact Yb2 hm u t w s
end
end Go.AE
end
section
namespace Go.AE
open Go.RowKit
variable {P:Program}
theorem Zw7(get:Nat→Option ABlk):∀ (n:Nat) (v:AVal),(match v with | .int _ _ | .bool _ | .str _=>True|_=>False)→X3 get (n+1) v=some v:=by
 intro n v h;cases v<;>first|exact h.elim|rfl
theorem A9{g:FuncId}{args:List AVal}{v:AVal}(a:X4 args=true)(b:match v with | .int _ _ | .bool _ | .str _=>True|_=>False)
 (h:ACalls P g args (SMem.mem ⟨[],1⟩) [0] fun r _=>r=v):PCall P g args v:=by
 intro m d;refine Zmz a (by cases v<;>first|exact b.elim|rfl) (fun c=>rfl) (Nat.lt_succ_self 0) h (fun r f e=>⟨1,?_⟩) m d
 subst e;exact Zw7 _ 0 _ b
theorem Z55{g:FuncId}{args:List AVal}{v:AVal}(a:X4 args=true)(b:v.closed=true){n:Nat}
 (h:ACalls P g args (SMem.mem ⟨[],1⟩) [0] fun r d=>X3 d.get n r=some v):PCall P g args v:=by
 intro m e;exact Zmz a b (fun c=>rfl) (Nat.lt_succ_self 0) h (fun r d f=>⟨n,f⟩) m e
section
variable {n:Nat} {Q:Exit→Env→SMem→Prop} {e:Env} {m:SMem}
theorem E8:wpS P n .skip Q e m=Q .normal e m:=propext Iff.rfl
theorem E3(a:List AOper):wpS P n (.region false a) Q e m=J4 P n m.next a 0 (Q .normal) e (m.at (m.next+a.length)):=propext Iff.rfl
theorem F9(a:List AOper):wpS P n (.region true a) Q e m=B2 P n m.next a [] (Q .normal) e (m.at (m.next+a.length)):=propext Iff.rfl
theorem F8(a b:ACode):wpS P n (.seq a b) Q e m=wpS P n a (M2 (wpS P n b Q) Q) e m:=propext Iff.rfl
theorem E4(c:AOpd)(a b:ACode):wpS P n (.cond c a b) Q e m=match evE n e c with
 | .bool true=>wpS P n a Q e m
 | .bool false=>wpS P n b Q e m
 | _=>False:=propext Iff.rfl
theorem E5(i:Nat)(c:ACode):wpS P n (.block i c) Q e m=wpS P n c (G3 i Q) e m:=propext Iff.rfl
theorem F5(i:Nat):wpS P n (.exit i) Q e m=Q (.exit i) e m:=propext Iff.rfl
theorem D1:wpS P n .ret Q e m=Q .ret e m:=propext Iff.rfl
theorem O6(N:Env→SMem→Prop):M2 N Q .normal e m=N e m:=propext Iff.rfl
theorem O3(N:Env→SMem→Prop):M2 N Q .ret e m=Q .ret e m:=propext Iff.rfl
theorem P8(N:Env→SMem→Prop)(i:Nat):M2 N Q (.exit i) e m=Q (.exit i) e m:=propext Iff.rfl
theorem P7(i:Nat):G3 i Q .normal e m=Q .normal e m:=propext Iff.rfl
theorem O1(i:Nat):G3 i Q .ret e m=Q .ret e m:=propext Iff.rfl
theorem O5(i j:Nat):G3 i Q (.exit j) e m=if j=i then Q .normal e m else Q (.exit j) e m:=propext Iff.rfl
theorem E9{base i:Nat}{K:Env→SMem→Prop}:J4 P n base [] i K e m=K e m:=propext Iff.rfl
theorem E7{base i:Nat}{K:Env→SMem→Prop}(o:AOper)(r:List AOper):J4 P n base (o :: r) i K e m =
 match U0 n e o.guard with
 | some false=>J4 P n base r (i+1) K (Y3 e o.dst aundef) m
 | some true=>
  match o.op with
  | .call f b=>match W8 n e f b with
   | some (g,args)=>SC P g args m (base+i) fun v a=>J4 P n base r (i+1) K (Y3 e o.dst v) a
   | none=>False
  | op=>match stepD (base+i) (evE n e) m.get op with
   | some (v,d)=>J4 P n base r (i+1) K (Y3 e o.dst v) (m.app d)
   | none=>False
 | none=>False:=propext Iff.rfl
theorem Zdx{base:Nat}{a:List FT}{K:Env→SMem→Prop}:B2 P n base [] a K e m=K e m:=propext Iff.rfl
theorem Zbk{base:Nat}{a:List FT}{K:Env→SMem→Prop}(o:AOper)(r:List AOper):B2 P n base (o :: r) a K e m =
 match U0 n e o.guard with
 | some false=>B2 P n base r (a++[.ops [] []]) K (Y3 e o.dst aundef) m
 | some true=>
  match o.op with
  | .call f b=>match W8 n e f b with
   | some (g,args)=>∃ v,Zix P g args v (base+a.length) (xOf base a.length r.length) m.mem∧S7 a (.call [] (xOf base a.length r.length) m.next) o.un∧B2 P n base r (a++[.call [] (xOf base a.length r.length) m.next]) K (Y3 e o.dst v) m
   | none=>False
  | op=>match stepD (base+a.length) (evE n e) m.get op with
   | some (v,d)=>S7 a (.ops (V7 (base+a.length) (evE n e) op) (V8 (evE n e) op)) o.un∧B2 P n base r (a++[.ops (V7 (base+a.length) (evE n e) op) (V8 (evE n e) op)]) K (Y3 e o.dst v) (m.app d)
   | none=>False
 | none=>False:=propext Iff.rfl
def Next{α:Type}(E:α→Env)(M:α→SMem)(μ:α→Nat)(Inv:α→Prop)(a:α)(e':Env)(m':SMem):Prop:=∃ a',μ a'<μ a∧Inv a'∧SubS (E a') (M a') e' m'
theorem Zar{α:Type}{c:ACode}(E:α→Env)(M:α→SMem)(d:α→Nat)(b:α→Prop)(f:α)(t:SubS (E f) (M f) e m)(r:b f)
 (h:∀ a,b a→wpS P n c (M2 (Next E M d b a) Q) (E a) (M a)):wpS P n (.loop c) Q e m:=by
 refine⟨fun k e m=>∃ a,k=d a∧b a∧e=E a∧m=M a,⟨d f,_,_,t,f,rfl,r,rfl,rfl⟩,?_⟩
 rintro k u v ⟨a,rfl,s,rfl,rfl⟩;have key:(M2 (Next E M d b a) Q)=(M2 (fun e' q=>∃ j i m0,j<d a∧SubS i m0 e' q∧(∃ a,j=d a∧b a∧i=E a∧m0=M a)) Q):=by
  funext x e' q
  cases x<;>try rfl
  simp only[M2];apply propext;constructor
  ·rintro⟨g,l,o,p⟩;exact⟨d g,_,_,l,p,g,rfl,o,rfl,rfl⟩
  ·rintro⟨j,i,m0,l,p,g,rfl,o,rfl,rfl⟩;exact⟨g,l,o,p⟩
 rw[← key];exact h a s
end
@[congr] theorem Yeu{g : FuncId}{args args' : List AVal}{m : SMem}{id : Nat}{K : AVal → SMem → Prop}(h : args = args') : SC P g args m id K = SC P g args' m id K := by rw [h]
@[congr] theorem Ydl{α : Type}{E : α → Env}{M : α → SMem}{d : α → Nat}{b : α → Prop}{a : α}{e e' : Env}{m c : SMem}(h : e = e')(f : m = c) : Next E M d b a e m = Next E M d b a e' c := by rw [h, f]
@[congr] theorem Ydu{N : Env → SMem → Prop}{Q : Exit → Env → SMem → Prop}{x b : Exit}{e e' : Env}{m a : SMem}(d : x = b)(h : e = e')(c : m = a) : M2 N Q x e m = M2 N Q b e' a := by rw [d, h, c]
@[congr] theorem Ydj{i : Nat}{Q : Exit → Env → SMem → Prop}{x b : Exit}{e e' : Env}{m a : SMem}(d : x = b)(h : e = e')(c : m = a) : G3 i Q x e m = G3 i Q b e' a := by rw [d, h, c]
@[congr] theorem Yeq{n : Nat}{c : ACode}{Q : Exit → Env → SMem → Prop}{e e' : Env}{m a : SMem}(h : e = e')(b : m = a) : wpS P n c Q e m = wpS P n c Q e' a := by rw [h, b]
@[congr] theorem Yd7{n base a i c : Nat}{b : List AOper}{K : Env → SMem → Prop}{e e' : Env}{m d : SMem}(g : base = a)(hi : i = c)(h : e = e')(f : m = d) : J4 P n base b i K e m = J4 P n a b c K e' d := by rw [g, hi, h, f]
@[congr] theorem Ydz{n base a : Nat}{d b : List FT}{c : List AOper}{K : Env → SMem → Prop}{e e' : Env}{m f : SMem}(i : base = a)(hi : d = b)(h : e = e')(g : m = f) : B2 P n base c d K e m = B2 P n a c b K e' f := by rw [i, hi, h, g]
end Go.AE
end
section
namespace Go.AE
open Go.RowKit
mutual
def AVal.ren(p:Nat→Nat):AVal→AVal
 | .ptr b i j=>.ptr (p b) i j
 | .iptr els i j=>.iptr (Z6 p els) i j
 | .sl b off len=>.sl (p b) off len
 | .imm els=>.imm (Z6 p els)
 | .map b=>.map (p b)
 | .func fn f c=>.func fn (U7 p f) (U7 p c)
 | .yld b=>.yld (p b)
 | .iface t v=>.iface t (v.ren p)
 | .agg cs=>.agg (U7 p cs)
 | .tuple cs=>.tuple (U7 p cs)
 | .bool b=>.bool b
 | .int k n=>.int k n
 | .str s=>.str s
 | .nilPtr=>.nilPtr
 | .nilSl=>.nilSl
 | .emp=>.emp
 | .nilMap=>.nilMap
 | .nilFunc=>.nilFunc
 | .atLeast n=>.atLeast n
 | .nilIface=>.nilIface
 | .bot=>.bot
def U7(p:Nat→Nat):List AVal→List AVal
 | []=>[]
 | x :: r=>x.ren p :: U7 p r
def Z6(p:Nat→Nat):List (List AVal)→List (List AVal)
 | []=>[]
 | x :: r=>U7 p x :: Z6 p r
end
theorem Zko(p:Nat→Nat):∀ (l:List AVal),U7 p l=l.map (·.ren p)
 | []=>rfl
 | x :: r=>by simp only[U7,List.map_cons,Zko p r]
theorem Zah(p:Nat→Nat):∀ (l:List (List AVal)),Z6 p l=l.map (U7 p)
 | []=>rfl
 | x :: r=>by simp only[Z6,List.map_cons,Zah p r]
theorem A3(p:Nat→Nat)(l:List AVal):(U7 p l).length=l.length:=by rw[Zko,List.length_map]
theorem Zhy(p:Nat→Nat)(l:List (List AVal)):(Z6 p l).length=l.length:=by rw[Zah,List.length_map]
theorem renL_get{p:Nat→Nat}{l:List AVal}{i:Nat}{y:AVal}:(U7 p l)[i]? = some y ↔ ∃ x,l[i]? = some x∧y=x.ren p:=by
 rw[Zko,List.getElem?_map];cases l[i]? with
 | none=>simp
 | some x=>simp[eq_comm]
theorem renLL_get{p:Nat→Nat}{l:List (List AVal)}{i:Nat}{y:List AVal}:(Z6 p l)[i]? = some y ↔ ∃ x,l[i]? = some x∧y=U7 p x:=by
 rw[Zah,List.getElem?_map];cases l[i]? with
 | none=>simp
 | some x=>simp[eq_comm]
mutual
theorem AVal.ren_closed(p:Nat→Nat):∀ (x:AVal),x.closed=true→x.ren p=x
 | .bool _,_ | .int _ _,_ | .str _,_ | .nilPtr,_ | .nilSl,_ | .emp,_ | .nilMap,_ | .nilFunc,_ | .nilIface,_ | .bot,_=>rfl
 | .imm els,h=>by rw[AVal.ren,X6 p els h]
 | .agg cs,h=>by rw[AVal.ren,Zh5 p cs h]
 | .tuple cs,h=>by rw[AVal.ren,Zh5 p cs h]
 | .func _ a b,h=>by
  simp only[AVal.closed,bA]at h;rw[AVal.ren,Zh5 p a h.1,Zh5 p b h.2]
 | .iptr els _ _,h=>by rw[AVal.ren,X6 p els h]
 | .ptr ..,h | .sl ..,h | .map ..,h | .yld ..,h | .atLeast ..,h | .iface ..,h=>by cases h
theorem Zh5(p:Nat→Nat):∀ (l:List AVal),X4 l=true→U7 p l=l
 | [],_=>rfl
 | x :: r,h=>by
  simp only[X4,bA]at h;rw[U7,AVal.ren_closed p x h.1,Zh5 p r h.2]
theorem X6(p:Nat→Nat):∀ (l:List (List AVal)),W5 l=true→Z6 p l=l
 | [],_=>rfl
 | x :: r,h=>by
  simp only[W5,bA]at h;rw[Z6,Zh5 p x h.1,X6 p r h.2]
end
theorem R.ren{Φ:Pers}{ρ ρ':Rho}{p:Nat→Nat}(A:∀ b l,ρ b=some l→ρ' (p b)=some l){x:AVal}{v:Value}(h:R Φ ρ x v):R Φ ρ' (x.ren p) v:=by
 induction h with
 | bool b=>exact .bool b
 | int k n=>exact .int k n
 | str s=>exact .str s
 | ptr b i j l h=>exact .ptr _ i j l (A _ _ h)
 | iptr els i j B o k c f C D r _ q=>
  refine .iptr _ i j B o k c f C (fun i row hi=>?_) (fun i row j x hi u=>?_) (fun i row j x hi u=>?_)
  ·obtain⟨m,g,rfl⟩:=renLL_get.1 hi;rw[A3]; exact D i m g
  ·obtain⟨m,g,rfl⟩:=renLL_get.1 hi;obtain⟨x0,d,rfl⟩:=renL_get.1 u;exact r i m j x0 g d
  ·obtain⟨m,g,rfl⟩:=renLL_get.1 hi;obtain⟨x0,d,rfl⟩:=renL_get.1 u;exact q i m j x0 g d
 | nilPtr=>exact .nilPtr
 | nilSl=>exact .nilSl
 | emp a=>exact .emp a
 | sl b off len a cap l h L M r J=>exact .sl _ off len a cap l (A _ _ h) L M r J
 | imm0 a cap h=>exact .imm0 a cap h
 | imm els B o k cap c f E z C D r _ q=>
  have e:=Zhy p els;rw[← e];refine .imm _ B o k cap c f (fun I=>E ?_) (by rw[e]; exact z) C (fun i row hi=>?_) (fun i row j x hi u=>?_) (fun i row j x hi u=>?_)
  ·rw[I]at e;exact List.length_eq_zero_iff.1 e.symm
  ·obtain⟨m,g,rfl⟩:=renLL_get.1 hi;rw[A3]; exact D i m g
  ·obtain⟨m,g,rfl⟩:=renLL_get.1 hi;obtain⟨x0,d,rfl⟩:=renL_get.1 u;exact r i m j x0 g d
  ·obtain⟨m,g,rfl⟩:=renLL_get.1 hi;obtain⟨x0,d,rfl⟩:=renL_get.1 u;exact q i m j x0 g d
 | map b l h=>exact .map _ l (A _ _ h)
 | nilMap=>exact .nilMap
 | func fn P cs O N K r _ _ G H=>
  refine .func fn _ _ O N (by rw[A3]; exact K) (by rw[A3]; exact r) (fun i x v y w=>?_) (fun i x v y w=>?_)
  ·obtain⟨x0,d,rfl⟩:=renL_get.1 y;exact G i x0 v d w
  ·obtain⟨x0,d,rfl⟩:=renL_get.1 y;exact H i x0 v d w
 | nilFunc=>exact .nilFunc
 | yld b l h=>exact .yld _ l (A _ _ h)
 | atLeast n c h=>exact .atLeast n c h
 | iface t x v _ q=>exact .iface t _ v q
 | nilIface=>exact .nilIface
 | agg cs vs F _ q=>
  refine .agg _ vs (by rw[A3]; exact F) (fun i x v y w=>?_)
  obtain⟨x0,d,rfl⟩:=renL_get.1 y;exact q i x0 v d w
 | tuple cs vs F _ q=>
  refine .tuple _ vs (by rw[A3]; exact F) (fun i x v y w=>?_)
  obtain⟨x0,d,rfl⟩:=renL_get.1 y;exact q i x0 v d w
 | bot v=>exact .bot v
theorem R.unren{Φ:Pers}{ρ ρ':Rho}{q:Nat→Nat}(z:∀ b l,ρ (q b)=some l→ρ' b=some l){y:AVal}{v:Value}(h:R Φ ρ y v):∀ x:AVal,y=x.ren q→R Φ ρ' x v:=by
 induction h with
 | bool b=>intro x d; cases x<;>simp only[AVal.ren,reduceCtorEq,AVal.bool.injEq]at d; subst d; exact .bool _
 | int k n=>intro x d; cases x<;>simp only[AVal.ren,reduceCtorEq,AVal.int.injEq]at d; obtain⟨rfl,rfl⟩:=d; exact .int _ _
 | str s=>intro x d; cases x<;>simp only[AVal.ren,reduceCtorEq,AVal.str.injEq]at d; subst d; exact .str _
 | ptr b i j l h=>intro x d; cases x<;>simp only[AVal.ren,reduceCtorEq,AVal.ptr.injEq]at d; obtain⟨rfl,rfl,rfl⟩:=d; exact .ptr _ _ _ l (z _ _ h)
 | iptr els i j B o k c f A C m _ g=>
  intro x d; cases x<;>simp only[AVal.ren,reduceCtorEq,AVal.iptr.injEq]at d; obtain⟨rfl,rfl,rfl⟩:=d
  exact .iptr _ _ _ B o k c f A (fun i row hi=>by have:=C i _ (renLL_get.2 ⟨row,hi,rfl⟩); rwa[A3]at this) (fun i row j x hi r=>m i _ j _ (renLL_get.2 ⟨row,hi,rfl⟩) (renL_get.2 ⟨x,r,rfl⟩))
   (fun i row j x hi r=>g i _ j _ (renLL_get.2 ⟨row,hi,rfl⟩) (renL_get.2 ⟨x,r,rfl⟩) x rfl)
 | nilPtr=>intro x d; cases x<;>simp only[AVal.ren,reduceCtorEq]at d; exact .nilPtr
 | nilSl=>intro x d; cases x<;>simp only[AVal.ren,reduceCtorEq]at d; exact .nilSl
 | emp a=>intro x d; cases x<;>simp only[AVal.ren,reduceCtorEq]at d; exact .emp a
 | sl b off len a cap l h K L m J=>intro x d; cases x<;>simp only[AVal.ren,reduceCtorEq,AVal.sl.injEq]at d; obtain⟨rfl,rfl,rfl⟩:=d; exact .sl _ _ _ a cap l (z _ _ h) K L m J
 | imm0 a cap M=>
  intro x d; cases x<;>simp only[AVal.ren,reduceCtorEq,AVal.imm.injEq]at d
  rename_i els;have e:=Zhy q els;rw[← d]at e;have:els=[]:=List.length_eq_zero_iff.1 e.symm;subst this;exact .imm0 a cap M
 | imm els B o k cap c f D p A C m _ g=>
  intro x d; cases x<;>simp only[AVal.ren,reduceCtorEq,AVal.imm.injEq]at d
  rename_i G;subst d;rw[Zhy]at p ⊢;exact .imm _ B o k cap c f (fun I=>D (by rw[I]; rfl)) p A (fun i row hi=>by have:=C i _ (renLL_get.2 ⟨row,hi,rfl⟩); rwa[A3]at this) (fun i row j x hi r=>m i _ j _ (renLL_get.2 ⟨row,hi,rfl⟩) (renL_get.2 ⟨x,r,rfl⟩))
   (fun i row j x hi r=>g i _ j _ (renLL_get.2 ⟨row,hi,rfl⟩) (renL_get.2 ⟨x,r,rfl⟩) x rfl)
 | map b l h=>intro x d; cases x<;>simp only[AVal.ren,reduceCtorEq,AVal.map.injEq]at d; subst d; exact .map _ l (z _ _ h)
 | nilMap=>intro x d; cases x<;>simp only[AVal.ren,reduceCtorEq]at d; exact .nilMap
 | func fn P cs O N H m _ _ E F=>
  intro x d; cases x<;>simp only[AVal.ren,reduceCtorEq,AVal.func.injEq]at d; obtain⟨rfl,rfl,rfl⟩:=d
  rw[A3]at H m;exact .func _ _ _ O N H m (fun i x v d u=>E i _ v (renL_get.2 ⟨x,d,rfl⟩) u x rfl) (fun i x v d u=>F i _ v (renL_get.2 ⟨x,d,rfl⟩) u x rfl)
 | nilFunc=>intro x d; cases x<;>simp only[AVal.ren,reduceCtorEq]at d; exact .nilFunc
 | yld b l h=>intro x d; cases x<;>simp only[AVal.ren,reduceCtorEq,AVal.yld.injEq]at d; subst d; exact .yld _ l (z _ _ h)
 | atLeast n c h=>intro x d; cases x<;>simp only[AVal.ren,reduceCtorEq,AVal.atLeast.injEq]at d; subst d; exact .atLeast _ c h
 | iface t x v _ g=>intro x d; cases x<;>simp only[AVal.ren,reduceCtorEq,AVal.iface.injEq]at d; obtain⟨rfl,rfl⟩:=d; exact .iface _ _ v (g _ rfl)
 | nilIface=>intro x d; cases x<;>simp only[AVal.ren,reduceCtorEq]at d; exact .nilIface
 | agg cs vs w _ g=>
  intro x d; cases x<;>simp only[AVal.ren,reduceCtorEq,AVal.agg.injEq]at d; subst d
  rw[A3]at w;exact .agg _ vs w (fun i x v d u=>g i _ v (renL_get.2 ⟨x,d,rfl⟩) u x rfl)
 | tuple cs vs w _ g=>
  intro x d; cases x<;>simp only[AVal.ren,reduceCtorEq,AVal.tuple.injEq]at d; subst d
  rw[A3]at w;exact .tuple _ vs w (fun i x v d u=>g i _ v (renL_get.2 ⟨x,d,rfl⟩) u x rfl)
 | bot v=>intro x d; cases x<;>simp only[AVal.ren,reduceCtorEq]at d; exact .bot v
def renM(p:Nat→Nat)(es:List (AVal×AVal×Nat)):List (AVal×AVal×Nat):=es.map fun x=>(x.1.ren p,x.2.1.ren p,x.2.2)
def ABlk.ren(p:Nat→Nat):ABlk→ABlk
 | .cells k els=>.cells k (Z6 p els)
 | .map es clock=>.map (renM p es) clock
 | .siter s pos=>.siter s pos
 | .miter m since seen stepped=>.miter (m.map p) since seen stepped
theorem RowsIn.ren{Φ:Pers}{ρ ρ':Rho}{p:Nat→Nat}(o:∀ b l,ρ b=some l→ρ' (p b)=some l){els:List (List AVal)}{sh k:Nat}{c:Array Value}(h:RowsIn Φ ρ els sh k c):RowsIn Φ ρ' (Z6 p els) sh k c:=by
 refine⟨fun i row hi=>?_,fun i row j x hi n=>?_⟩
 ·obtain⟨d,a,rfl⟩:=renLL_get.1 hi;rw[A3]; exact h.1 i d a
 ·obtain⟨d,a,rfl⟩:=renLL_get.1 hi;obtain⟨x0,m,rfl⟩:=renL_get.1 n;obtain⟨v,e,f,g⟩:=h.2 i d j x0 a m;exact⟨v,e,f,g.ren o⟩
theorem BR.ren{Φ:Pers}{ρ ρ':Rho}{p:Nat→Nat}(j:∀ b l,ρ b=some l→ρ' (p b)=some l){x:ABlk}{l:Loc}{o:Obj}(h:BR Φ ρ x l o):BR Φ ρ' (x.ren p) l o:=by
 cases h with
 | cells k els l c e A C B n w=>exact .cells k _ l c e A C (by rw[Zhy]; exact B) (n.ren j) w
 | map q d l en D n=>
  refine .map _ d l en (by rw[renM,List.length_map]; exact D) fun i x f=>?_
  rw[renM,List.getElem?_map]at f;cases g:q[i]? with
  | none=>rw[g]at f; cases f
  | some z=>
   rw[g]at f;injection f with f
   subst f;obtain⟨y,r,t,u,v⟩:=n i z g;exact⟨y,r,t.ren j,u.ren j,v⟩
 | siter s pos l=>exact .siter s pos l
 | miter0 a b c l=>exact .miter0 a b c l
 | miter m E a b c l h g=>exact .miter _ E a b c l (j _ _ h) g
theorem RowsIn.unren{Φ:Pers}{ρ ρ':Rho}{q:Nat→Nat}(g:∀ b l,ρ (q b)=some l→ρ' b=some l){els:List (List AVal)}{sh k:Nat}{c:Array Value}(h:RowsIn Φ ρ (Z6 q els) sh k c):RowsIn Φ ρ' els sh k c:=by
 refine⟨fun i row hi=>by have:=h.1 i _ (renLL_get.2 ⟨row,hi,rfl⟩); rwa[A3]at this,fun i row j x hi f=>?_⟩
 obtain⟨v,a,d,e⟩:=h.2 i _ j _ (renLL_get.2 ⟨row,hi,rfl⟩) (renL_get.2 ⟨x,f,rfl⟩);exact⟨v,a,d,e.unren g x rfl⟩
theorem BR.unren{Φ:Pers}{ρ ρ':Rho}{q:Nat→Nat}(f:∀ b l,ρ (q b)=some l→ρ' b=some l){x:ABlk}{l:Loc}{o:Obj}(h:BR Φ ρ (x.ren q) l o):BR Φ ρ' x l o:=by
 cases x with
 | cells k els=>
  simp only[ABlk.ren]at h;cases h with
  | cells _ _ _ c e w A z g v=>exact .cells k _ l c e w A (by rwa[Zhy]at z) (g.unren f) v
 | map E a=>
  simp only[ABlk.ren]at h;cases h with
  | map _ _ _ en B g=>
   refine .map _ a l en (by rwa[renM,List.length_map]at B) fun i x C=>?_
   obtain⟨y,n,p,r,t⟩:=g i (x.1.ren q,x.2.1.ren q,x.2.2) (by rw[renM,List.getElem?_map,C]; rfl)
   exact⟨y,n,p.unren f x.1 rfl,r.unren f x.2.1 rfl,t⟩
 | siter s pos=>
  simp only[ABlk.ren]at h;cases h with
  | siter _ _ _=>exact .siter s pos l
 | miter m j seen d=>
  simp only[ABlk.ren]at h;cases m with
  | none=>cases h with|miter0 _ _ _ _=>exact .miter0 _ _ _ l
  | some b=>cases h with|miter _ D _ _ _ _ h u=>exact .miter b D _ _ _ l (f _ _ h) u
end Go.AE
end
section
namespace Go.AE
open Go.RowKit
def W3:List (Nat×Nat)→Nat→Nat→Nat
 | [],_,b=>b
 | (c,o) :: r,d,b=>if b=c then o else W3 r d b
def qOf(l:List (Nat×Nat))(n0 k n b:Nat):Nat:=if b<n0 then b else if b<k then W3 l n b else b - k+n
theorem Zrl{l:List (Nat×Nat)}{n0 k n b:Nat}(h:qOf l n0 k n b<n)(a:n0≤k):b<k:=by
 unfold qOf at h;split at h
 ·omega
 ·split at h<;>omega
def SubRE(q:Nat→Nat):Env→Env→Prop
 | [],_=>True
 | (i,v) :: r,e=>e.get i=v.ren q∧SubRE q r e
def SubRB(q:Nat→Nat):List (Nat×ABlk)→SMem→Prop
 | [],_=>True
 | (b,x) :: r,m=>(m.get (q b)=some (x.ren q) ∨ ∃ y,m.get (q b)=some y∧BSub (x.ren q) y)∧SubRB q r m
def InjA(q:Nat→Nat)(b:Nat):List (Nat×ABlk)→Prop
 | []=>True
 | (c,_) :: r=>(q b=q c→b=c)∧InjA q b r
def InjK(q:Nat→Nat):List (Nat×ABlk)→Prop
 | []=>True
 | (b,_) :: r=>InjA q b r∧InjK q r
theorem InjA.get{q:Nat→Nat}{b:Nat}:∀ {l:List (Nat×ABlk)},InjA q b l → ∀ c x,Z7 l c=some x→q b=q c→b=c
 | [],_,c,x,h,_=>by simp[Z7]at h
 | (d,y) :: r,hi,c,x,h,a=>by
  simp only[Z7]at h;split at h
  ·rename_i e; subst e; exact hi.1 a
  ·exact hi.2.get c x h a
theorem InjK.get{q:Nat→Nat}:∀ {l:List (Nat×ABlk)},InjK q l → ∀ b c x y,Z7 l b=some x→Z7 l c=some y→q b=q c→b=c
 | [],_,b,c,x,y,h,_,_=>by simp[Z7]at h
 | (d,z) :: r,hi,b,c,x,y,f,a,i=>by
  simp only[Z7]at f a;split at f
  ·rename_i e; subst e;split at a
   ·rename_i g; exact g.symm
   ·exact hi.1.get c y a i
  ·split at a
   ·rename_i g; subst g;exact(hi.1.get b x f i.symm).symm
   ·exact hi.2.get b c x y f a i
theorem SubRE.get{q:Nat→Nat}:∀ {b e:Env},SubRE q b e → ∀ i,b.get i=.bot∨e.get i=(b.get i).ren q
 | [],_,_,i=>.inl rfl
 | (j,v) :: r,e,h,i=>by
  simp only[Env.get];by_cases a:i=j
  ·subst a; rw[if_pos rfl]; exact .inr h.1
  ·rw[if_neg a]; exact h.2.get i
theorem SubRB.get{q:Nat→Nat}:∀ {l:List (Nat×ABlk)} {m:SMem},SubRB q l m → ∀ b x,Z7 l b=some x → ∃ y,m.get (q b)=some y∧(y=x.ren q∨BSub (x.ren q) y)
 | [],m,_,b,x,h=>by simp[Z7]at h
 | (c,y) :: r,m,d,b,x,h=>by
  simp only[Z7]at h;split at h
  ·rename_i f; subst f; injection h with h; subst h
   rcases d.1 with a|⟨g,a,e⟩
   ·exact⟨_,a,.inl rfl⟩
   ·exact⟨_,a,.inr e⟩
  ·exact d.2.get b x h
def SubR(n0:Nat)(l:List (Nat×Nat))(e0:Env)(m0:SMem)(e:Env)(m:SMem):Prop:=
 n0≤m0.next∧n0≤m.next∧SubRE (qOf l n0 m0.next m.next) e0 e∧SubRB (qOf l n0 m0.next m.next) m0.bl m∧InjK (qOf l n0 m0.next m.next) m0.bl
theorem BR.of_sub{Φ:Pers}{ρ:Rho}{x y:ABlk}{l:Loc}{o:Obj}(a:y=x∨BSub x y)(h:BR Φ ρ y l o):BR Φ ρ x l o:=by
 rcases a with rfl|a
 ·exact h
 ·exact h.bsub a
theorem Rel.unren{W:Base}{Φ:Pers}{ρ:Rho}{m m0:Mem}{w:World}{q:Nat→Nat}(h:Rel W Φ ρ m w)(d:∀ b x,m0.get b=some x → ∃ y,m.get (q b)=some y∧(y=x.ren q∨BSub (x.ren q) y))
 (hi:∀ b c x y,m0.get b=some x→m0.get c=some y→q b=q c→b=c) (z:∀ b,q b<m.next→b<m0.next):Rel W Φ (fun b=>ρ (q b)) m0 w:=by
 refine⟨h.base,h.pers,fun b x B=>?_,fun b b' x j l l' g i t u v=>?_,fun b l a=>z b (h.fresh _ _ a),h.newp⟩
 ·obtain⟨y,e,A⟩:=d b x B;obtain⟨l,o,k,n,p,r,s⟩:=h.live _ y e;exact⟨l,o,k,n,p,r,(s.of_sub A).unren (q:=q) (fun _ _ a=>a)⟩
 ·obtain⟨y,e,_⟩:=d b x g;obtain⟨C,f,_⟩:=d b' j i;exact hi b b' x j g i (h.inj _ _ y C l l' e f t u v)
theorem SubR.rel{n0 n:Nat}{l:List (Nat×Nat)}{k e:Env}{m0 m:SMem}(h:SubR n0 l k m0 e m){W:Base}{Φ:Pers}{ρ:Rho}{vs:Array Value}{w:World}(t:Rel W Φ ρ m.mem w)(p:RL Φ ρ (toE n e) vs) :
 ∃ ρ',(∀ b,b<n0→ρ' b=ρ b)∧Rel W Φ ρ' m0.mem w∧RL Φ ρ' (toE n k) vs:=by
 obtain⟨j,z,s,hm,hi⟩:=h;refine⟨fun b=>ρ (qOf l n0 m0.next m.next b),fun b a=>by simp only[qOf,if_pos a],t.unren (fun b x d=>hm.get b x d) (fun b c x y a r=>hi.get b c x y a r) (fun b a=>Zrl a j),?_⟩
 refine⟨by rw[p.1,M0,M0],fun i x v d u=>?_⟩
 have f:i<n:=by
  have:=(gS.1 d).1;rwa[M0]at this
 rw[G0 f]at d;injection d with d
 subst d;rcases s.get i with g|g
 ·rw[g]; exact .bot v
 ·have o:=p.2 i (e.get i) v (G0 f) u;rw[g]at o;exact o.unren (q:=qOf l n0 m0.next m.next) (fun _ _ a=>a) _ rfl
def WkR(n n0:Nat)(e0:Env)(m0:SMem)(e:Env)(m:SMem):Prop:=n0≤m0.next ∧ ∀(W:Base) (Φ:Pers) (ρ:Rho) (vs:Array Value) (w:World),Rel W Φ ρ m.mem w→RL Φ ρ (toE n e) vs →
 ∃ Φ' ρ',(∀ B c,Φ B=some c→Φ' B=some c)∧(∀ b,b<n0→ρ' b=ρ b)∧Rel W Φ' ρ' m0.mem w∧RL Φ' ρ' (toE n e0) vs
theorem SubR.wk{n0 n:Nat}{l:List (Nat×Nat)}{a e:Env}{m0 m:SMem}(h:SubR n0 l a m0 e m):WkR n n0 a m0 e m:=
 ⟨h.1,fun W Φ ρ vs w b c=>let ⟨ρ',h1,h2,h3⟩:=h.rel b c; ⟨Φ,ρ',fun _ _ h=>h,h1,h2,h3⟩⟩
def Zp7(P:Program)(g:FuncId)(args:List AVal)(v:AVal)(d:Option ABlk)(id:Nat)(x:List Nat)(m:Mem):Prop:=
 match d with
 | none=>Zix P g args v id x m
 | some b=>ACalls P g args (m.less x) [id] fun r m'=>r=v∧m'=(m.less x).set id b
def ftW(id:Nat):Option ABlk→List Nat
 | none=>[]
 | some _=>[id]
def apD(id:Nat):Option ABlk→List (Nat×Option ABlk)
 | none=>[]
 | some b=>[(id,some b)]
theorem Z0m{P:Program}{g:FuncId}{args:List AVal}{v:AVal}{d:Option ABlk}(id:Nat)(x:List Nat)(f:id∉x)(m:Mem)(h:Zp7 P g args v d id x m):Zfh P g args id x m v (m.apply (apD id d)) (ftW id d):=by
 cases d with
 | none=>exact Zti id x f m h
 | some b=>
  refine⟨(m.less x).set id b,f,fun c a=>?_,Nat.le_refl _,rfl,fun c=>?_,fun c i _ a=>?_,h⟩
  ·simp only[Mem.get_set];rw[if_neg (fun e:c=id=>f (e ▸ a))]
   simp[Mem.less,a]
  ·simp only[apD,Mem.apply,Mem.get_set];by_cases a:c∈x
   ·rw[if_pos a,if_neg (fun e:c=id=>f (e ▸ a))]
   ·rw[if_neg a];by_cases hi:c=id
    ·rw[if_pos hi,if_pos hi]
    ·rw[if_neg hi,if_neg hi]; simp[Mem.less,a]
  ·simp only[Mem.get_set];rw[if_neg (fun e:c=id=>i (by rw[e]; exact List.mem_singleton.2 rfl))]
   simp[Mem.less,a]
def C5(P:Program)(n base:Nat):List AOper→List FT→(Env→SMem→Prop)→Env→SMem→Prop
 | [],_,K,e,m=>K e m
 | o :: r,fs,K,e,m=>
  match U0 n e o.guard with
  | some false=>C5 P n base r (fs++[.ops [] []]) K (Y3 e o.dst aundef) m
  | some true=>
   match o.op with
   | .call f xs=>match W8 n e f xs with
    | some (g,args)=>∃ v d,Zp7 P g args v d (base+fs.length) (xOf base fs.length r.length) m.mem∧S7 fs (.call (ftW (base+fs.length) d) (xOf base fs.length r.length) m.next) o.un ∧
     C5 P n base r (fs++[.call (ftW (base+fs.length) d) (xOf base fs.length r.length) m.next]) K (Y3 e o.dst v) (m.app (apD (base+fs.length) d))
    | none=>False
   | op=>match stepD (base+fs.length) (evE n e) m.get op with
    | some (v,d)=>S7 fs (.ops (V7 (base+fs.length) (evE n e) op) (V8 (evE n e) op)) o.un∧C5 P n base r (fs++[.ops (V7 (base+fs.length) (evE n e) op) (V8 (evE n e) op)]) K (Y3 e o.dst v) (m.app d)
    | none=>False
  | none=>False
theorem Zl9{P:Program}{n base:Nat}{K:Env→SMem→Prop}:∀ (i:List AOper) (a:List FT) (e:Env) (m:SMem),C5 P n base i a K e m→Q4 P base i a (fun p=>∃ e m,p=⟨toE n e,m.mem⟩∧K e m) (toE n e) m.mem
 | [],_,e,m,h=>⟨e,m,rfl,h⟩
 | o :: r,a,e,m,h=>by
  simp only[C5]at h;simp only[Q4,Zh7];cases l:U0 n e o.guard with
  | none=>simp[l]at h
  | some q=>
   cases q with
   | false=>
    simp only[l]at h;simp only[G7];exact Zl9 r _ _ m h
   | true=>
    simp only[l]at h;simp only;have c:∀ op,o.op=op→(match stepD (base+a.length) (evE n e) m.get op with|some (v,d)=>S7 a (.ops (V7 (base+a.length) (evE n e) op) (V8 (evE n e) op)) o.un∧C5 P n base r (a++[.ops (V7 (base+a.length) (evE n e) op) (V8 (evE n e) op)]) K (Y3 e o.dst v) (m.app d)|none=>False) →
     (match stepA (base+a.length) (toE n e) m.mem op with|some (v,m')=>S7 a (.ops (S4 (base+a.length) (toE n e) op) (J0 (toE n e) op)) o.un∧Q4 P base r (a++[.ops (S4 (base+a.length) (toE n e) op) (J0 (toE n e) op)]) (fun p=>∃ e m,p=⟨toE n e,m.mem⟩∧K e m) (put (toE n e) o.dst v) m'|none=>False):=by
     intro op _ j;cases k:stepD (base+a.length) (evE n e) m.get op with
     | none=>simp[k]at j
     | some z=>
      obtain⟨v,d⟩:=z;simp only[k]at j;have:=Zgw (m:=m.mem) (t:=toE n e) (id:=base+a.length) (op:=op) (v:=v) (d:=d) (by rw[F1]; exact k)
      rw[this];simp only[G7,Zkv,Zl5,F1];rw[← SMem.app_mem];exact⟨j.1,Zl9 r _ _ _ j.2⟩
    cases b:o.op with
    | call f A=>
     simp only[b]at h;simp only[Zj5];cases s:W8 n e f A with
     | none=>simp[s]at h
     | some u=>
      obtain⟨g,args⟩:=u;simp only[s]at h;obtain⟨v,d,y,hi,w⟩:=h;simp only;refine⟨ftW (base+a.length) d,xOf base a.length r.length,v,_,Z0m _ _ (Zyc _ _ _) _ y,hi,?_⟩;simp only[G7];rw[← SMem.app_mem];exact Zl9 r _ _ _ w
    | _=>rw[b]at h; exact c _ b h
def wpT(P:Program)(n n0:Nat):ACode→(Exit→Env→SMem→Prop)→Env→SMem→Prop
 | .skip,Q,e,m=>Q .normal e m
 | .region false ops,Q,e,m=>J4 P n m.next ops 0 (Q .normal) e (m.at (m.next+ops.length))
 | .region true ops,Q,e,m=>C5 P n m.next ops [] (Q .normal) e (m.at (m.next+ops.length))
 | .seq a b,Q,e,m=>wpT P n n0 a (M2 (wpT P n n0 b Q) Q) e m
 | .cond c a b,Q,e,m=>match evE n e c with
  | .bool true=>wpT P n n0 a Q e m
  | .bool false=>wpT P n n0 b Q e m
  | _=>False
 | .block id c,Q,e,m=>wpT P n n0 c (G3 id Q) e m
 | .loop c,Q,e,m=>∃ (I:Nat→Env→SMem→Prop),(∃ k e0 m0,WkR n n0 e0 m0 e m∧I k e0 m0) ∧ ∀ k e1 m1,I k e1 m1→wpT P n n0 c (M2 (fun e' m'=>∃ j e0 m0,j<k∧WkR n n0 e0 m0 e' m'∧I j e0 m0) Q) e1 m1
 | .exit id,Q,e,m=>Q (.exit id) e m
 | .scope c,Q,e,m=>wpT P n n0 c Q e m
 | .label _,Q,e,m=>Q .normal e m
 | .ret,Q,e,m=>Q .ret e m
 | .bad,_,_,_=>False
def Zge(W:Base)(Φ:Pers)(ρ:Rho)(n n0:Nat)(Q:Exit→Env→SMem→Prop)(x:Exit)(a:Act)(w:World):Prop:=
 ∃ e m Φ' ρ',(∀ B c,Φ B=some c→Φ' B=some c)∧(∀ b,b<n0→ρ' b=ρ b)∧n0≤m.next∧Rel W Φ' ρ' m.mem w∧RL Φ' ρ' (toE n e) a.tmps∧a.defers=[]∧(∀ l,x≠.goto l)∧Q x e m
theorem Zhn{W:Base}{Φ d:Pers}{ρ ρ':Rho}{n n0:Nat}{Q i:Exit→Env→SMem→Prop}{x:Exit}{a:Act}{w:World}(y:∀ B c,Φ B=some c→d B=some c)(v:∀ b,b<n0→ρ' b=ρ b)
 (h:Zge W d ρ' n n0 Q x a w) (z:∀ e m,Q x e m→i x e m):Zge W Φ ρ n n0 i x a w:=by
 obtain⟨e,m,f,g,k,l,o,p,q,r,s,t⟩:=h;exact⟨e,m,f,g,fun B c u=>k B c (y B c u),fun b j=>(l b j).trans (v b j),o,p,q,r,s,z _ _ t⟩
section
variable {P:Program} {n n0:Nat}
def AWpT(P:Program)(n n0:Nat)(c:Code)(Q:Exit→Env→SMem→Prop)(e:Env)(m:SMem):Prop:=
 ∀(W:Base) (Φ:Pers) (ρ:Rho) (a:Act) (w:World),n0≤m.next→Rel W Φ ρ m.mem w→RL Φ ρ (toE n e) a.tmps→a.defers=[]→c.wp P (Zge W Φ ρ n n0 Q) a w
theorem Zvb(hm:P.follows .mixedOrders=true){id:Nat}{d:Array Oper}{c:Bool}{Q:Exit→Env→SMem→Prop}{e:Env}{m:SMem}(p:wpc P (Y1 P (.region id d c)) (C1 n Q) ⟨toE n e,m.mem⟩):AWpT P n n0 (.region id d c) Q e m:=by
 intro W Φ ρ a w q B C A;have y:AWp P (.region id d c) (C1 n Q) ⟨toE n e,m.mem⟩:=by
  cases c with
  | false=>exact Zwz p
  | true=>exact Zq2 hm p
 refine wp_mono (y W Φ ρ a w B C A) fun x F w' i=>?_
 obtain⟨E,k,ρ',o,r,s,t,u,v,h⟩:=i;have f:∀ b,b<n0→ρ' b=ρ b:=fun b z=>by
  cases g:ρ b with
  | none=>exact r b (Nat.lt_of_lt_of_le z q) g
  | some l=>exact o.rho b l g
 have j:m.next≤E.m.next:=s;cases x<;>simp only[C1]at h<;>first
  | exact h.elim
  | (obtain ⟨e',D,rfl,g⟩:=h
     exact⟨e',D,k,ρ',o.pers,f,Nat.le_trans q j,t,u,v,fun l i=>(by cases i),g⟩)
theorem Zwa(hm:P.follows .mixedOrders=true):∀ (c:Code) (Q:Exit→Env→SMem→Prop) (e:Env) (m:SMem),wpT P n n0 (Y1 P c) Q e m→AWpT P n n0 c Q e m:=by
 intro c
 induction c with
 | skip=>exact fun Q e m h W Φ ρ a w t r p q=>wp_skip ⟨e,m,Φ,ρ,fun _ _ h=>h,fun _ _=>rfl,t,r,p,q,fun l g=>(by cases g),h⟩
 | region id u V=>
  intro Q e m h;refine Zvb hm ?_;have hw:∀ A:ACode,(∀ d os,A=.region d os∨A=.bad∨True)→(match A with | .region _ _=>True | .bad=>True|_=>False)→wpT P n n0 A Q e m→wpc P A (C1 n Q) ⟨toE n e,m.mem⟩:=by
   intro A _ hA h;cases A with
   | region d os=>
    cases d with
    | false=>exact Zh9 os 0 e _ h
    | true=>exact Zl9 os [] e _ h
   | bad=>exact h.elim
   | _=>exact hA.elim
  refine hw _ (fun _ _=>.inr (.inr trivial)) ?_ h
  cases V with
  | false=>
   simp only[Y1];cases I9 P u u.toList<;>trivial
  | true=>
   simp only[Y1];cases I9 P u u.toList with
   | none=>trivial
   | some as=>
    simp only;cases Zjn u as (Zav u.toList)<;>trivial
 | seq x y K L=>
  intro Q e m h W Φ ρ a w t r p q;simp only[Y1,wpT]at h;refine wp_seq (wp_mono (K _ _ _ h W Φ ρ a w t r p q) ?_);intro x' C w' g;have key:∀ e',x'=e'→e'≠.normal→Zge W Φ ρ n n0 Q x' C w':=by
   intro e' he J;refine Zhn (fun _ _ h=>h) (fun _ _=>rfl) g fun e m hq=>?_
   subst he;cases x'<;>first|exact absurd rfl J|exact hq
  cases x' with
  | normal=>
   obtain⟨e',E,o,ρ',F,G,M,N,O,S,X,H⟩:=g;exact wp_mono (L _ _ _ H W o ρ' C w' M N O S) fun x a w ad=>Zhn F G ad fun _ _ h=>h
  | exit i=>exact key _ rfl (by simp)
  | goto l=>exact key _ rfl (by simp)
  | ret=>exact key _ rfl (by simp)
  | panic ch=>exact key _ rfl (by simp)
  | outgrown=>exact key _ rfl (by simp)
 | cond c x y K L=>
  intro Q e m h W Φ ρ a w t r p q;simp only[Y1]at h;cases hc:Y4 c with
  | none=>simp[hc,wpT]at h
  | some c'=>
   simp only[hc,wpT]at h;have U:=T4 p hc;rw[F1]at U;generalize evE n e c'=z at h U;split at h
   ·generalize hz:a.eval c=v at U;cases U;exact wp_cond_true hz (K _ _ _ h W Φ ρ a w t r p q)
   ·generalize hz:a.eval c=v at U;cases U;exact wp_cond_false hz (L _ _ _ h W Φ ρ a w t r p q)
   ·exact h.elim
 | block id c Z=>
  intro Q e m h W Φ ρ a w t r p q;simp only[Y1,wpT]at h;refine wp_block (wp_mono (Z _ _ _ h W Φ ρ a w t r p q) ?_);intro x C w' g;cases x with
  | exit i=>
   simp only[Exit.inBlock];obtain⟨e',E,o,ρ',F,G,M,N,O,S,X,H⟩:=g;simp only[G3]at H;split
   ·rename_i hi;rw[if_pos hi]at H;exact⟨e',E,o,ρ',F,G,M,N,O,S,fun l g=>(by cases g),H⟩
   ·rename_i hi;rw[if_neg hi]at H;exact⟨e',E,o,ρ',F,G,M,N,O,S,fun l g=>(by cases g),H⟩
  | normal=>exact g
  | goto l=>exact g
  | ret=>exact g
  | panic ch=>exact g
  | outgrown=>exact g
 | loop c Z=>
  intro Q e m h W Φ ρ a w t r p q;simp only[Y1,wpT]at h;obtain⟨I,⟨k0,e0,m0,Y,h0⟩,D⟩:=h;obtain⟨al,ao,ae,ab,ag,ai⟩:=Y.2 W Φ ρ _ w r p;refine wp_loop_ghost (fun k C w'=>∃ e' E o ρ',(∀ B c,Φ B=some c→o B=some c)∧(∀ b,b<n0→ρ' b=ρ b)∧n0≤E.next∧Rel W o ρ' E.mem w'∧RL o ρ' (toE n e') C.tmps∧C.defers=[]∧I k e' E) k0
   ⟨e0,m0,al,ao,ae,ab,Y.1,ag,ai,q,h0⟩ ?_
  rintro k C w' ⟨e',E,o,ρ',F,G,M,N,O,S,X⟩;refine wp_mono (Z _ _ _ (D k e' E X) W o ρ' C w' M N O S) ?_;intro x aa ak g;have key:∀ e',x=e'→e'≠.normal→Zge W Φ ρ n n0 Q x aa ak:=by
   intro e' he J;refine Zhn F G g fun e m hq=>?_
   subst he;cases x<;>first|exact absurd rfl J|exact hq
  cases x with
  | normal=>
   obtain⟨e2,m2,am,aq,g1,g2,g3,g4,g5,g6,_,j,e3,m3,g7,g8,g9⟩:=g;obtain⟨an,ar,af,ac,ah,aj⟩:=g8.2 W am aq _ _ g4 g5;exact⟨j,g7,e3,m3,an,ar,fun B c hB=>af B c (g1 B c (F B c hB)),fun b hb=>(ac b hb).trans ((g2 b hb).trans (G b hb)),g8.1,ah,aj,g6,g9⟩
  | exit i=>exact key _ rfl (by simp)
  | goto l=>exact key _ rfl (by simp)
  | ret=>exact key _ rfl (by simp)
  | panic ch=>exact key _ rfl (by simp)
  | outgrown=>exact key _ rfl (by simp)
 | exit id=>exact fun Q e m h W Φ ρ a w t r p q=>wp_exit ⟨e,m,Φ,ρ,fun _ _ h=>h,fun _ _=>rfl,t,r,p,q,fun l g=>(by cases g),h⟩
 | scope c Z=>
  intro Q e m h W Φ ρ a w t r p q;simp only[Y1,wpT]at h;refine wp_scope_straight (wp_mono (Z _ _ _ h W Φ ρ a w t r p q) ?_);intro x C w' g;cases x with
  | goto l=>
   obtain⟨_,_,_,_,_,_,_,_,_,_,X,_⟩:=g;exact absurd rfl (X l)
  | normal=>exact g
  | exit i=>exact g
  | ret=>exact g
  | panic ch=>exact g
  | outgrown=>exact g
 | label l=>exact fun Q e m h W Φ ρ a w t r p q=>wp_label ⟨e,m,Φ,ρ,fun _ _ h=>h,fun _ _=>rfl,t,r,p,q,fun l g=>(by cases g),h⟩
 | ret=>exact fun Q e m h W Φ ρ a w t r p q=>wp_ret ⟨e,m,Φ,ρ,fun _ _ h=>h,fun _ _=>rfl,t,r,p,q,fun l g=>(by cases g),h⟩
 | rangeFunc f ps x y _ _=>exact fun Q e m h=>by simp[Y1,wpT]at h
 | goto l=>exact fun Q e m h=>by simp[Y1,wpT]at h
 | refuse s=>exact fun Q e m h=>by simp[Y1,wpT]at h
def Q9(n:Nat)(e:Env)(m:SMem):List (Nat×Option (Option Nat))→Option (List AVal)
 | []=>some []
 | (i,none) :: r=>match Q9 n e m r with
  | some l=>some (evE n e (.tmp i) :: l)
  | none=>none
 | (i,some k) :: r=>match T7 m.get k (evE n e (.tmp i))with
  | some v=>(match Q9 n e m r with
   | some l=>some (v :: l)
   | none=>none)
  | none=>none
def B5(K:AVal→SMem→Prop)(m:SMem):Option (List AVal)→Prop
 | some [x]=>K x m
 | some l=>K (.tuple l) m
 | none=>False
def H3(n:Nat)(rs:List (Nat×Option (Option Nat)))(K:AVal→SMem→Prop):Exit→Env→SMem→Prop
 | .normal,e,m=>B5 K m (Q9 n e m rs)
 | .ret,e,m=>B5 K m (Q9 n e m rs)
 | _,_,_=>False
theorem Zzf{e:Env}{m:SMem}{x:Nat×Option (Option Nat)}{v:AVal}{r:List (Nat×Option (Option Nat))}{l:List AVal}(h:Q9 n e m (x :: r)=some (v :: l)):Zac (toE n e) m.mem x=some v∧Q9 n e m r=some l:=by
 obtain⟨i,o⟩:=x;have a:(toE n e).getD i aundef=evE n e (.tmp i):=congrFun (F1 n e) (.tmp i);cases o with
 | none=>
  simp only[Q9]at h;cases b:Q9 n e m r with
  | none=>simp[b]at h
  | some l'=>
   simp only[b,oI,List.cons.injEq]at h;obtain⟨rfl,rfl⟩:=h;exact⟨by simp only[Zac,a],rfl⟩
 | some k=>
  simp only[Q9]at h;cases c:T7 m.get k (evE n e (.tmp i))with
  | none=>simp[c]at h
  | some w=>
   cases b:Q9 n e m r with
   | none=>simp[c,b]at h
   | some l'=>
    simp only[c,b,oI,List.cons.injEq]at h;obtain⟨rfl,rfl⟩:=h;refine⟨?_,rfl⟩;simp only[Zac,a,Znw];exact c
theorem Zrb{e:Env}{m:SMem}:∀ {c:List (Nat×Option (Option Nat))} {l:List AVal},Q9 n e m c=some l→(c=[]∧l=[]) ∨ ∃ x r v t,c=x :: r∧l=v :: t
 | [],l,h=>by simp only[Q9,oI]at h; exact .inl ⟨rfl,h.symm⟩
 | (i,none) :: r,l,h=>by
  simp only[Q9]at h;cases a:Q9 n e m r with
  | none=>simp[a]at h
  | some l'=>simp only[a,oI]at h; exact .inr ⟨_,_,_,_,rfl,h.symm⟩
 | (i,some k) :: r,l,h=>by
  simp only[Q9]at h;cases b:T7 m.get k (evE n e (.tmp i))with
  | none=>simp[b]at h
  | some w=>
   cases a:Q9 n e m r with
   | none=>simp[b,a]at h
   | some l'=>simp only[b,a,oI]at h; exact .inr ⟨_,_,_,_,rfl,h.symm⟩
theorem Zu8{e:Env}{m:SMem}:∀ {b:List (Nat×Option (Option Nat))} {l:List AVal},Q9 n e m b=some l→D8 (toE n e) m.mem b=some l
 | [],l,h=>h
 | x :: r,l,h=>by
  rcases Zrb h with⟨a,_⟩|⟨y,f,v,t,a,rfl⟩
  ·cases a
  ·cases a;obtain⟨c,d⟩:=Zzf h;simp only[D8,c,Zu8 d]
theorem Zwo{e:Env}{m:SMem}{b:List (Nat×Option (Option Nat))}{K:AVal→SMem→Prop}(h:B5 K m (Q9 n e m b)):∃ v,L6 (toE n e) m.mem b=some v∧K v m:=by
 cases a:Q9 n e m b with
 | none=>rw[a]at h; exact h.elim
 | some l=>
  rw[a]at h;have c:=Zu8 a;rcases Zrb a with⟨rfl,rfl⟩|⟨x,r,v,t,rfl,rfl⟩
  ·exact⟨_,rfl,h⟩
  ·obtain⟨d,f⟩:=Zzf a;rcases Zrb f with⟨rfl,rfl⟩|⟨k,j,i,g,rfl,rfl⟩
   ·exact⟨v,by simp only[L6,d],h⟩
   ·exact⟨.tuple (v :: i :: g),by simp only[L6,c],h⟩
def Ctr(P:Program)(f:FuncId)(args:List AVal)(m:SMem)(K:AVal→SMem→Prop):Prop:=ACalls P f args m.mem [] fun r m'=>∃ sm:SMem,m'=sm.mem∧K r sm
def O9(n0:Nat)(K:AVal→SMem→Prop)(v:AVal)(m:SMem):Prop:=∃ v0 m0 l,SubR n0 l [(0,v0)] m0 [(0,v)] m∧K v0 m0
theorem Z3a(hm:P.follows .mixedOrders=true){f:FuncId}{fn:Func}{j:AFn}{args:List AVal}{m:SMem}{K:AVal→SMem→Prop}(J:P.funcs[f]? = some fn)(hc:cFn P fn=some j)(D:Nat.ble args.length j.ntmps=true)
 (h:wpT P j.ntmps m.next j.body (H3 j.ntmps j.results (O9 m.next K)) (U1 0 args []) m):Ctr P f args m K:=by
 obtain⟨c,o,q,E,ac,s⟩:=Zmh hc;have ab:args.length≤j.ntmps:=Nat.le_of_ble_eq_true D;rw[q]at h;refine⟨⟨fn,J,s,by rw[o]; rfl⟩,fun W Φ ρ vs w L Z aa=>?_⟩
 have F:=Zis (k:=fn.ntmps) Z;have G:RL Φ ρ (toE j.ntmps (U1 0 args [])) (vs++Array.replicate (fn.ntmps - vs.size) undef):=by
  refine F.sub (by rw[M0]; simp; omega) fun i x g=>?_
  have hi:i<j.ntmps:=by
   have:=(gS.1 g).1;rwa[M0]at this
  rw[G0 hi,Zlj]at g;injection g with g
  by_cases C:0≤i∧i<0+args.length
  ·rw[if_pos C]at g;rw[List.getElem?_append,if_pos (by omega)]
   refine .inr ?_;rw[← g,Nat.sub_zero,List.getD,gE (by omega)]
   rfl
  ·rw[if_neg C]at g;exact .inl g.symm
 have hs:=Zwa (n0:=m.next) hm c _ _ _ h W Φ ρ { tmps:=vs++Array.replicate (fn.ntmps - vs.size) undef,defers:=[] } w (Nat.le_refl _) L G rfl;refine calls_of_wp J o (wp_mono hs fun x a w' D=>?_)
 obtain⟨e,A,d,ρ',V,C,h3,I,X,Y,h7,z⟩:=D;have B:B5 (O9 m.next K) A (Q9 j.ntmps e A j.results)→a.defers=[] ∧ ∃ v,(results fn a.tmps).run P w'=.ok v w' ∧
  ∃ O r A d ρ',Ending.returned v=.returned O∧Ext Φ ρ d ρ'∧(∀ b,b<m.mem.next→b∉([]:List Nat)→ρ b=none→ρ' b=none)∧Rel W d ρ' A w'∧R d ρ' r O∧m.mem.next≤A.next ∧ ∃ N:SMem,A=N.mem∧K r N:=by
  intro hh;obtain⟨v,Q,v0,m0,l,H,S⟩:=Zwo hh;obtain⟨u,k1,k2⟩:=Zh3 I X E Q;obtain⟨t,j1,j2,j3⟩:=H.rel (n:=1) (vs:=#[u]) I ⟨rfl,fun i x y g M=>by
   cases i with
   | zero=>
    rw[G0 (by omega)]at g
    simp only[Env.get,if_true,oI]at g;have:u=y:=by simpa using M
    subst g; subst this; exact k2
   | succ i=>simp at M⟩
  have k3:R d t v0 u:=j3.2 0 v0 u (by rw[G0 (by omega)]; rfl) rfl
  have p:∀ b,b<m.next→t b=ρ b:=fun b o=>(j1 b o).trans (C b o)
  refine⟨Y,u,k1,u,v0,m0.mem,d,t,rfl,⟨V,fun b l o=>?_⟩,fun b o _ U=>(p b o).trans U,j2,k3,H.1,m0,rfl,S⟩
  exact(p b (L.fresh b l o)).trans o
 cases x with
 | normal=>exact B z
 | ret=>exact B z
 | exit i=>exact z.elim
 | goto l=>exact z.elim
 | panic ch=>exact z.elim
 | outgrown=>exact z.elim
end
end Go.AE
end
section
namespace Go.AE
open Go.RowKit
variable {P:Program}
theorem Zo6{f:FuncId}{args0:List AVal}{m0:Mem}{K0:AVal→Mem→Prop}(h:ACalls P f args0 m0 [] K0){m:Mem}{q:Nat→Nat}{K:AVal→Mem→Prop}
 (H:∀ c x,m0.get c=some x → ∃ y,m.get (q c)=some y∧(y=x.ren q∨BSub (x.ren q) y))
 (af:∀ c c' x x',m0.get c=some x→m0.get c'=some x'→q c=q c'→c=c')
 (hq:∀ c,m0.next≤c→q c=c - m0.next+m.next)
 (hK:∀ r0 m1,K0 r0 m1 → ∃ m':Mem,m'.next=m1.next - m0.next+m.next ∧
   (∀ b x,m'.get b=some x→(∃ c y,m1.get c=some y∧b=q c∧x=y.ren q)∨(m.get b=some x ∧ ∀ c y,m0.get c=some y→q c≠b))∧K (r0.ren q) m')
 (av:List Nat):ACalls P f (U7 q args0) m av K:=by
 refine⟨h.1,fun W Φ ρ vs w E ha an=>?_⟩
 have ag:∀ b,q b<m.next→b<m0.next:=fun b j=>by
  rcases Nat.lt_or_ge b m0.next with a|a
  ·exact a
  ·rw[hq b a]at j; omega
 have N:∀ B,(∃ c l y,m.get c=some y∧(∀ d z,m0.get d=some z→q d≠c)∧ρ c=some l∧l.blk=B) ∨ ¬(∃ c l y,m.get c=some y∧(∀ d z,m0.get d=some z→q d≠c)∧ρ c=some l∧l.blk=B):=fun B=>Classical.em _
 obtain⟨g,Y⟩:∃ g:Nat→Option Obj,∀ B,((∃ c l y,m.get c=some y∧(∀ d z,m0.get d=some z→q d≠c)∧ρ c=some l∧l.blk=B)→g B=w.heap[B]?) ∧
  (¬(∃ c l y,m.get c=some y∧(∀ d z,m0.get d=some z→q d≠c)∧ρ c=some l∧l.blk=B)→g B=W.g B):=by
  refine⟨fun B=>@ite _ (∃ c l y,m.get c=some y∧(∀ d z,m0.get d=some z→q d≠c)∧ρ c=some l∧l.blk=B) (Classical.propDecidable _) (w.heap[B]?) (W.g B),fun B=>⟨fun h=>?_,fun h=>?_⟩⟩
  ·simp only[h,if_true]
  ·simp only[h,if_false]
 let W':Base:=⟨W.w,g,Φ⟩
 have C:∀ B,W'.Free B→W.Free B:=by
  intro B t;refine⟨t.1,?_⟩;rcases N B with a|a
  ·obtain⟨c,l,y,L,_,hl,aa⟩:=a;obtain⟨l',o,s,Q,_⟩:=E.live c y L;rw[hl]at s; injection s with s; subst s
   rw[← aa]; exact Q.2
  ·have J:g B=none:=t.2;rw[(Y B).2 a]at J; exact J
 have ab:∀ B o,g B=some o→w.heap[B]? = some o:=by
  intro B o t;rcases N B with a|a
  ·rw[(Y B).1 a]at t; exact t
  ·rw[(Y B).2 a]at t; exact E.base.prot B o t
 have ac:Rel W Φ (fun b=>ρ (q b)) m0 w:=E.unren H af ag
 have al:Rel W' Φ (fun b=>ρ (q b)) m0 w:=by
  refine⟨⟨E.base.below,ab⟩,E.pers,fun b x hx=>?_,ac.inj,ac.fresh,fun B c t=>.inl t⟩
  obtain⟨l,o,s,Q,g3,g4,g5⟩:=ac.live b x hx;refine⟨l,o,s,⟨Q.1,?_⟩,g3,g4,g5⟩;rcases N l.blk with a|a
  ·obtain⟨c,l',y',am,V,hl,aa⟩:=a;obtain⟨y,L,_⟩:=H b x hx;exact absurd (E.inj _ _ y y' l l' L am s hl aa.symm) (V b x hx)
  ·show g l.blk=none;rw[(Y _).2 a]; exact Q.2
 have aj:RL Φ (fun b=>ρ (q b)) args0 vs:=by
  refine⟨by rw[ha.1,A3],fun i x v hx hv=>?_⟩
  exact(ha.2 i (x.ren q) v (renL_get.2 ⟨x,hx,rfl⟩) hv).unren (q:=q) (fun _ _ j=>j) x rfl
 refine(h.2 W' Φ (fun b=>ρ (q b)) vs w al aj (fun b j=>by simp at j)).mono fun e w' he=>?_
 obtain⟨u,r,m1,G,ad,e1,hE,hk,n,hR,ao,ai⟩:=he;obtain⟨m',S,D,ah⟩:=hK r m1 ai;obtain⟨ρ',I⟩:∃ ρ':Rho,∀ b,ρ' b=if b<m.next then ρ b else ad (b - m.next+m0.next):=⟨_,fun _=>rfl⟩
 have hp:∀ b l,ad b=some l→ρ' (q b)=some l:=by
  intro b l j;rw[I];rcases Nat.lt_or_ge b m0.next with a|a
  ·cases U:ρ (q b)with
   | none=>rw[hk b a (by simp) U]at j; cases j
   | some l'=>
    have J:=hE.rho b l' U;rw[j]at J; injection J with J; subst J
    rw[if_pos (E.fresh _ _ U)]
  ·rw[hq b a,if_neg (by omega)]
   have:b - m0.next+m.next - m.next+m0.next=b:=by omega
   rw[this]; exact j
 have A:∀ b,b<m.next→ρ' b=ρ b:=fun b j=>by rw[I,if_pos j]
 have k:∀ c y,m.get c=some y→(∀ d z,m0.get d=some z→q d≠c) → ∃ l o,ρ' c=some l∧ρ c=some l∧W.Free l.blk∧g l.blk=some o∧G l.blk=none∧w'.heap[l.blk]? = some o∧BR G ρ' y l o:=by
  intro c y L V;obtain⟨l,o,s,Q,g3,g4,g5⟩:=E.live c y L;have Z:g l.blk=some o:=by rw[(Y _).1 ⟨c,l,y,L,V,s,rfl⟩]; exact g4
  refine⟨l,o,(A c (E.fresh _ _ s)).trans s,s,Q,Z,?_,n.base.prot _ _ Z,g5.ext ⟨hE.pers,fun b l j=>(A b (E.fresh _ _ j)).trans j⟩⟩
  cases ak:G l.blk with
  | none=>rfl
  | some cc=>
   rcases n.newp _ _ ak with a|a
   ·have ae:Φ l.blk=some cc:=a;rw[g3]at ae; cases ae
   ·have:g l.blk=none:=a.2;rw[Z]at this; cases this
 have p:∀ c y,m1.get c=some y → ∃ l o,ρ' (q c)=some l∧ad c=some l∧W'.Free l.blk∧G l.blk=none∧w'.heap[l.blk]? = some o∧BR G ρ' (y.ren q) l o:=by
  intro c y L;obtain⟨l,o,s,Q,g3,g4,g5⟩:=n.live c y L;exact⟨l,o,hp _ _ s,s,Q,g3,g4,g5.ren hp⟩
 refine⟨u,r.ren q,m',G,ρ',e1,⟨hE.pers,fun b l j=>(A b (E.fresh _ _ j)).trans j⟩,fun b j _ h0=>(A b j).trans h0,?_,hR.ren hp,by rw[S]; omega,ah⟩
 refine⟨⟨n.base.below,fun B o t=>n.base.prot B o ?_⟩,n.pers,fun b y L=>?_,fun b b' y y' l l' a J k1 k2 he=>?_,fun b l j=>?_,fun B c t=>?_⟩
 ·rcases N B with a|a
  ·show g B=some o;rw[(Y B).1 a]; exact E.base.prot B o t
  ·show g B=some o;rw[(Y B).2 a]; exact t
 ·rcases D b y L with⟨c,z,U,rfl,rfl⟩|⟨j,V⟩
  ·obtain⟨l,o,F,_,q3,q5,q6,q7⟩:=p c z U;exact⟨l,o,F,C _ q3,q5,q6,q7⟩
  ·obtain⟨l,o,F,_,q3,_,q5,q6,q7⟩:=k b y j V;exact⟨l,o,F,q3,q5,q6,q7⟩
 ·rcases D b y a with⟨c,z,U,rfl,rfl⟩|⟨j,V⟩
  ·obtain⟨l1,o1,F,q2,q3,_,_,_⟩:=p c z U;rw[k1]at F; injection F with F; subst F
   rcases D b' y' J with⟨c',z',O,rfl,rfl⟩|⟨M,X⟩
   ·obtain⟨l2,o2,p1,p2,_,_,_,_⟩:=p c' z' O;rw[k2]at p1; injection p1 with p1; subst p1
    rw[n.inj c c' z z' l l' U O q2 p2 he]
   ·obtain⟨l2,o2,p1,_,_,p4,_⟩:=k b' y' M X;rw[k2]at p1; injection p1 with p1; subst p1
    have:g l.blk=none:=q3.2;rw[he,p4]at this; cases this
  ·obtain⟨l1,o1,F,q2,_,q4,_⟩:=k b y j V;rw[k1]at F; injection F with F; subst F
   rcases D b' y' J with⟨c',z',O,rfl,rfl⟩|⟨M,X⟩
   ·obtain⟨l2,o2,p1,p2,p3,_,_,_⟩:=p c' z' O;rw[k2]at p1; injection p1 with p1; subst p1
    have:g l'.blk=none:=p3.2;rw[← he,q4]at this; cases this
   ·obtain⟨l2,o2,p1,p2,_,p4,_⟩:=k b' y' M X;rw[k2]at p1; injection p1 with p1; subst p1
    exact E.inj b b' y y' l l' j M q2 p2 he
 ·rw[I]at j;rw[S];split at j
  ·rename_i a; omega
  ·have:=n.fresh _ _ j;omega
 ·rcases n.newp B c t with a|a
  ·exact E.newp B c a
  ·exact .inr (C B a)
def Y8(b:Nat):List Nat→Bool
 | []=>false
 | c :: r=>if b=c then true else Y8 b r
def M5(q:Nat→Nat):List (Nat×ABlk)→List Nat
 | []=>[]
 | (b,_) :: r=>q b :: M5 q r
def J3(q:Nat→Nat):List (Nat×ABlk)→List (Nat×ABlk)→List (Nat×ABlk)
 | [],t=>t
 | (b,x) :: r,t=>(q b,x.ren q) :: J3 q r t
def Q6(ks:List Nat):List (Nat×ABlk)→List (Nat×ABlk)
 | []=>[]
 | (b,x) :: r=>bif Y8 b ks then Q6 ks r else (b,x) :: Q6 ks r
theorem memN_iff{b:Nat}:∀ {l:List Nat},Y8 b l=true↔b∈l
 | []=>by simp[Y8]
 | c :: r=>by
  simp only[Y8,List.mem_cons];by_cases h:b=c
  ·simp[h]
  ·simp[h,memN_iff (l:=r)]
theorem Zj4{q:Nat→Nat}{l:List (Nat×ABlk)}{c:Nat}{x:ABlk}(h:Z7 l c=some x):q c∈M5 q l:=by
 induction l with
 | nil=>simp[Z7]at h
 | cons a r b=>
  obtain⟨d,y⟩:=a;simp only[Z7]at h;split at h
  ·rename_i e; subst e; exact List.mem_cons_self ..
  ·exact List.mem_cons_of_mem _ (b h)
theorem Zhz{ks:List Nat}{b:Nat}{x:ABlk}:∀ {l:List (Nat×ABlk)},Z7 (Q6 ks l) b=some x→Z7 l b=some x∧b∉ks
 | [],h=>by simp[Q6,Z7]at h
 | (c,y) :: r,h=>by
  simp only[Q6]at h;cases hm:Y8 c ks with
  | true=>
   rw[hm]at h;simp only[cond_true]at h;have:=Zhz h;refine⟨?_,this.2⟩;simp only[Z7];rw[if_neg (fun e:b=c=>this.2 (by rw[e]; exact memN_iff.1 hm))]
   exact this.1
  | false=>
   rw[hm]at h;simp only[cond_false,Z7]at h ⊢;split at h
   ·rename_i e;refine⟨by rw[if_pos e]; exact h,fun a=>?_⟩
    subst e;rw[memN_iff.2 a]at hm; cases hm
   ·rename_i e;have:=Zhz h;exact⟨by rw[if_neg e]; exact this.1,this.2⟩
theorem Zm5{q:Nat→Nat}{b:Nat}{x:ABlk}{t:List (Nat×ABlk)}:∀ {l:List (Nat×ABlk)},Z7 (J3 q l t) b=some x→(∃ c y,Z7 l c=some y∧b=q c∧x=y.ren q)∨Z7 t b=some x
 | [],h=>.inr h
 | (c,y) :: r,h=>by
  simp only[J3,Z7]at h;split at h
  ·rename_i e;injection h with h
   exact .inl ⟨c,y,by simp[Z7],e,h.symm⟩
  ·rename_i e;rcases Zm5 h with⟨d,z,a,f,i⟩|a
   ·refine .inl ⟨d,z,?_,f,i⟩;simp only[Z7];rw[if_neg (fun g=>e (by rw[f,g]))]
    exact a
   ·exact .inr a
theorem Q1{g:FuncId}{args0 args:List AVal}{m0 m:SMem}{n K:AVal→SMem→Prop}{id:Nat}(h:Ctr P g args0 m0 n)(l:List (Nat×Nat))(r:U7 (qOf l 0 m0.next m.next) args0=args)
 (v:SubRB (qOf l 0 m0.next m.next) m0.bl m) (hi:InjK (qOf l 0 m0.next m.next) m0.bl)
 (q:∀ f a,n f a→K (f.ren (qOf l 0 m0.next m.next)) ⟨J3 (qOf l 0 m0.next m.next) a.bl (Q6 (M5 (qOf l 0 m0.next m.next) m0.bl) m.bl),a.next - m0.next+m.next⟩) :
 SC P g args m id K:=by
 subst r;refine Zo6 h (m:=m.mem) (fun c x d=>v.get c x d) (fun c c' x w d k=>hi.get c c' x w d k) (fun c j=>?_) (fun f z t=>?_) [id]
 ·have s:m0.next≤c:=j;simp only[qOf,Nat.not_lt_zero,if_false];rw[if_neg (by omega)]
  rfl
 ·obtain⟨a,rfl,u⟩:=t;refine⟨_,rfl,fun b x d=>?_,⟨⟨J3 (qOf l 0 m0.next m.next) a.bl (Q6 (M5 (qOf l 0 m0.next m.next) m0.bl) m.bl),a.next - m0.next+m.next⟩,rfl,q f a u⟩⟩
  rcases Zm5 d with⟨c,y,i,o,p⟩|i
  ·exact .inl ⟨c,y,i,o,p⟩
  ·have:=Zhz i;exact .inr ⟨this.1,fun c y j e=>this.2 (e ▸ Zj4 j)⟩
theorem Zmt{g:FuncId}{args:List AVal}{v:AVal}(i:X4 args=true)(j:v.closed=true){k:Nat}(h:Ctr P g args ⟨[],1⟩ fun r a=>X3 a.get k r=some v):PCall P g args v:=by
 intro m q;have t:ACalls P g args (SMem.mem ⟨[],1⟩) [0] fun r a=>∃ o:SMem,a=o.mem∧X3 o.get k r=some v:=by
  refine⟨h.1,fun W Φ ρ vs w l B _=>(h.2 W Φ ρ vs w l B (fun b f=>by simp at f)).mono fun e w' C=>?_⟩
  obtain⟨u,r,F,p,ρ',s,z,D,n,A,E,d⟩:=C;exact⟨u,r,F,p,ρ',s,z,fun b f _ y=>D b f (by simp) y,n,A,E,d⟩
 exact Zmz i j (fun c=>rfl) (Nat.lt_succ_self 0) t (fun r a l=>by obtain⟨o,rfl,h⟩:=l; exact⟨k,h⟩) m q
theorem Ctr.mono{g:FuncId}{args:List AVal}{m:SMem}{K b:AVal→SMem→Prop}(h:Ctr P g args m K)(i:∀ r a,K r a→b r a):Ctr P g args m b:=
 ACalls.mono h fun r a f=>by obtain⟨c,e,d⟩:=f; exact⟨c,e,i r c d⟩
def Zew(v:AVal)(A B:Prop):Prop:=
 match v with
 | .bool true=>A
 | .bool false=>B
 | _=>False
@[congr] theorem Ydx{v a : AVal}{A B : Prop}(h : v = a) : Zew v A B = Zew a A B := by rw [h]
end Go.AE
end
