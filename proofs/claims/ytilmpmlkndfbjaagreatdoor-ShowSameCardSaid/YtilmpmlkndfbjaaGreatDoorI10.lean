/- Part 10 of the proof: AeSa, AeSb, AeNa, AeNb, AeNc. -/
import Derived.Test.YtilmpmlkndfbjaaGreatDoorI9
set_option linter.all false
section
namespace Go.AE
open Go.RowKit
abbrev Env:=List (Nat×AVal)
def Env.get:Env→Nat→AVal
 | [],_=>.bot
 | (j,v) :: r,i=>if i=j then v else Env.get r i
def evE(n:Nat)(e:Env):AOpd→AVal
 | .tmp i=>if i<n then e.get i else aundef
 | .const v=>v
 | .fn f=>.func (.func f) [] []
def Y6(e:Env)(d:Option Nat)(v:AVal):Env:=
 match d with
 | some d=>(d,v) :: e
 | none=>e
structure SMem where
 bl:List (Nat×ABlk)
 next:Nat
def Z9:List (Nat×ABlk)→Nat→Option ABlk
 | [],_=>none
 | (c,x) :: r,b=>if b=c then some x else Z9 r b
def Q5:List (Nat×ABlk)→Nat→List (Nat×ABlk)
 | [],_=>[]
 | (c,x) :: r,b=>if b=c then Q5 r b else (c,x) :: Q5 r b
def SMem.get(m:SMem)(b:Nat):Option ABlk:=Z9 m.bl b
def SMem.mem(m:SMem):Mem:=⟨m.get,m.next⟩
def SMem.at(m:SMem)(n:Nat):SMem:=⟨m.bl,n⟩
def SMem.app(m:SMem):List (Nat×Option ABlk)→SMem
 | []=>m
 | (b,some x) :: r=>SMem.app ⟨(b,x) :: m.bl,m.next⟩ r
 | (b,none) :: r=>SMem.app ⟨Q5 m.bl b,m.next⟩ r
theorem Zqx(b c:Nat):∀ (l:List (Nat×ABlk)),Z9 (Q5 l b) c=if c=b then none else Z9 l c
 | []=>by simp[Q5,Z9]
 | (d,x) :: r=>by
  simp only[Q5];by_cases h:b=d
  ·rw[if_pos h,Zqx b c r];simp only[Z9];by_cases a:c=b
   ·simp[a]
   ·rw[if_neg a,if_neg a,if_neg (by omega)]
  ·rw[if_neg h];simp only[Z9];by_cases a:c=d
   ·rw[if_pos a,if_pos a,if_neg (by omega)]
   ·rw[if_neg a,if_neg a,Zqx b c r]
theorem SMem.app_mem:∀ (d:List (Nat×Option ABlk)) (m:SMem),(m.app d).mem=m.mem.apply d
 | [],_=>rfl
 | (b,some x) :: r,m=>by
  simp only[SMem.app,Mem.apply];rw[SMem.app_mem r]
  congr 1
 | (b,none) :: r,m=>by
  simp only[SMem.app,Mem.apply];rw[SMem.app_mem r]
  congr 1
  exact Mem.ext' (fun c=>by simp only[SMem.mem,SMem.get,Mem.get_del]; exact Zqx b c m.bl) rfl
def toE(n:Nat)(e:Env):List AVal:=(List.range n).map e.get
theorem L3(n:Nat)(e:Env):(toE n e).length=n:=by simp[toE]
theorem H8{n:Nat}{e:Env}{i:Nat}(h:i<n):(toE n e)[i]? = some (e.get i):=by simp[toE,h]
theorem L8(n:Nat)(e:Env):ev (toE n e)=evE n e:=by
 funext x
 cases x with
 | tmp i=>
  simp only[ev,evE];by_cases h:i<n
  ·rw[if_pos h,List.getD,H8 h]; rfl
  ·rw[if_neg h,List.getD,List.getElem?_eq_none (by rw[L3]; omega)]; rfl
 | const v=>rfl
 | fn f=>rfl
theorem J0(n:Nat)(e:Env)(d:Option Nat)(v:AVal):put (toE n e) d v=toE n (Y6 e d v):=by
 cases d with
 | none=>rfl
 | some d=>
  simp only[put,Y6];apply List.ext_getElem?;intro i;rw[List.getElem?_set];by_cases hi:i<n
  ·rw[H8 hi,H8 hi];simp only[Env.get];by_cases h:d=i
   ·rw[if_pos h,if_pos (by rw[L3]; omega),if_pos h.symm]
   ·rw[if_neg h,if_neg (fun e=>h e.symm)]
  ·rw[List.getElem?_eq_none (by rw[L3]; omega),List.getElem?_eq_none (by rw[L3]; omega)]
   by_cases h:d=i
   ·rw[if_pos h,if_neg (by rw[L3]; omega)]
   ·rw[if_neg h]
def V4(n:Nat)(e:Env):Option (Nat×Bool)→Option Bool
 | none=>some true
 | some (d,w)=>match evE n e (.tmp d)with
  | .bool b=>some (b == w)
  | .tuple []=>some false
  | _=>none
theorem Zgk(n:Nat)(e:Env)(g:Option (Nat×Bool)):Q3 (toE n e) g=V4 n e g:=by
 cases g with
 | none=>rfl
 | some p=>
  obtain⟨d,w⟩:=p;have h:(toE n e).getD d aundef=evE n e (.tmp d):=congrFun (L8 n e) (.tmp d);simp only[Q3,V4,h];rfl
def W4(n:Nat)(e:Env)(f:AOpd)(xs:List AOpd):Option (FuncId×List AVal):=
 match evE n e f with
 | .func (.func g) first cap=>some (g,first++xs.map (evE n e)++cap)
 | _=>none
theorem Zl5(n:Nat)(e:Env)(f:AOpd)(xs:List AOpd):callee (toE n e) f xs=W4 n e f xs:=by
 simp only[callee,W4,L8];rfl
def SC(P:Program)(g:FuncId)(args:List AVal)(m:SMem)(id:Nat)(K:AVal→SMem→Prop):Prop:=
 ACalls P g args m.mem [id] fun v m''=>∃ m',m''=m'.mem∧K v m'
def PCall(P:Program)(g:FuncId)(args:List AVal)(v:AVal):Prop:=∀ (m:Mem) (av:List Nat),ACalls P g args m av fun r m'=>r=v∧m'=m
theorem U1{P:Program}{g:FuncId}{args:List AVal}{m:SMem}{id:Nat}{v:AVal}{K:AVal→SMem→Prop}(h:PCall P g args v)(a:K v m):SC P g args m id K:=
 (h m.mem [id]).mono fun r c b=>by obtain⟨rfl,rfl⟩:=b; exact⟨m,rfl,a⟩
def K6(P:Program)(n base:Nat):List AOper→Nat→(Env→SMem→Prop)→Env→SMem→Prop
 | [],_,K,e,m=>K e m
 | o :: r,i,K,e,m=>
  match V4 n e o.guard with
  | some false=>K6 P n base r (i+1) K (Y6 e o.dst aundef) m
  | some true=>
   match o.op with
   | .call f xs=>match W4 n e f xs with
    | some (g,args)=>SC P g args m (base+i) fun v m'=>K6 P n base r (i+1) K (Y6 e o.dst v) m'
    | none=>False
   | op=>match stepD (base+i) (evE n e) m.get op with
    | some (v,d)=>K6 P n base r (i+1) K (Y6 e o.dst v) (m.app d)
    | none=>False
  | none=>False
def upX:Nat→Nat→List Nat
 | 0,_=>[]
 | k+1,s=>s :: upX k (s+1)
def xOf(base i n:Nat):List Nat:=upX i base++upX n (base+i+1)
theorem Zo7:∀ {k s c:Nat},c∈upX k s→s≤c∧c<s+k
 | 0,_,_,h=>by simp[upX]at h
 | k+1,s,c,h=>by
  simp only[upX,List.mem_cons]at h;rcases h with rfl|h
  ·omega
  ·have:=Zo7 h; omega
theorem Z00(base i n:Nat):base+i∉xOf base i n:=by
 intro h;rcases List.mem_append.1 h with h|h
 ·have:=Zo7 h; omega
 ·have:=Zo7 h; omega
def Zj4(P:Program)(g:FuncId)(args:List AVal)(v:AVal)(id:Nat)(x:List Nat)(m:Mem):Prop:=ACalls P g args (m.less x) [id] fun r m'=>r=v∧m'=m.less x
theorem PCall.x{P:Program}{g:FuncId}{args:List AVal}{v:AVal}(h:PCall P g args v)(id:Nat)(x:List Nat)(m:Mem):Zj4 P g args v id x m:=h _ _
def A3(P:Program)(n base:Nat):List AOper→List FT→(Env→SMem→Prop)→Env→SMem→Prop
 | [],_,K,e,m=>K e m
 | o :: r,fs,K,e,m=>
  match V4 n e o.guard with
  | some false=>A3 P n base r (fs++[.ops [] []]) K (Y6 e o.dst aundef) m
  | some true=>
   match o.op with
   | .call f xs=>match W4 n e f xs with
    | some (g,args)=>∃ v,Zj4 P g args v (base+fs.length) (xOf base fs.length r.length) m.mem∧S6 fs (.call [] (xOf base fs.length r.length) m.next) o.un∧A3 P n base r (fs++[.call [] (xOf base fs.length r.length) m.next]) K (Y6 e o.dst v) m
    | none=>False
   | op=>match stepD (base+fs.length) (evE n e) m.get op with
    | some (v,d)=>S6 fs (.ops (U4 (base+fs.length) (evE n e) op) (U3 (evE n e) op)) o.un∧A3 P n base r (fs++[.ops (U4 (base+fs.length) (evE n e) op) (U3 (evE n e) op)]) K (Y6 e o.dst v) (m.app d)
    | none=>False
  | none=>False
def SubE:Env→Env→Prop
 | [],_=>True
 | (i,v) :: r,e=>e.get i=v∧SubE r e
def BSub:ABlk→ABlk→Prop
 | .cells k els,.cells k' els'=>k=k'∧els.length=els'.length ∧ ∀(i:Nat) (row row':List AVal),els[i]? = some row→els'[i]? = some row'→row.length=row'.length ∧ ∀(j:Nat) (x:AVal),row[j]? = some x→x=AVal.bot∨row'[j]? = some x
 | x,y=>x=y
theorem BR.bsub{Φ:Pers}{ρ:Rho}{x y:ABlk}{l:Loc}{o:Obj}(p:BSub x y)(h:BR Φ ρ y l o):BR Φ ρ x l o:=by
 cases x with
 | cells k els=>
  cases y with
  | cells G b=>
   obtain⟨rfl,A,n⟩:=p;cases h with
   | cells k b l c e z C B u w=>
    have d:∀ (i:Nat) (row:List AVal),els[i]? = some row → ∃ a,b[i]? = some a∧row.length=a.length ∧ ∀(j:Nat) (x:AVal),row[j]? = some x→x=AVal.bot∨a[j]? = some x:=by
     intro i row hi;have f:i<b.length:=by rw[← A]; exact(gS.1 hi).1
     exact⟨b[i],gE f,n i row _ hi (gE f)⟩
    refine .cells k els l c e z C (by omega) ⟨fun i row hi=>?_,fun i row j x hi t=>?_⟩ w
    ·obtain⟨a,q,r,s⟩:=d i row hi;rw[r]; exact u.1 i a q
    ·obtain⟨a,q,r,s⟩:=d i row hi;have m:j<a.length:=by rw[← r]; exact(gS.1 t).1
     obtain⟨v,D,E,F⟩:=u.2 i a j _ q (gE m);refine⟨v,D,E,?_⟩;rcases s j x t with rfl|g
     ·exact .bot v
     ·rw[gE m]at g;injection g with g
      rw[← g]; exact F
  | _=>cases p
 | _=>cases y<;>first|(cases p; done)|(cases p; exact h)
theorem Rel.bsub{W:Base}{Φ:Pers}{ρ:Rho}{m c:Mem}{w:World}(h:Rel W Φ ρ m w)(t:m.next≤c.next)(f:∀ b x,c.get b=some x→m.get b=some x ∨ ∃ y,m.get b=some y∧BSub x y):Rel W Φ ρ c w:=by
 have a:∀ b x,c.get b=some x → ∃ y,m.get b=some y:=fun b x d=>(f b x d).elim (fun g=>⟨_,g⟩) fun⟨y,g,_⟩=>⟨y,g⟩
 refine⟨h.base,h.pers,fun b x d=>?_,fun b b' x z l l' q r=>?_,fun b l s=>Nat.lt_of_lt_of_le (h.fresh b l s) t,h.newp⟩
 ·rcases f b x d with g|⟨y,g,u⟩
  ·exact h.live b x g
  ·obtain⟨l,o,i,j,k,n,p⟩:=h.live b y g;exact⟨l,o,i,j,k,n,p.bsub u⟩
 ·obtain⟨y,v⟩:=a b x q;obtain⟨A,e⟩:=a b' z r;exact h.inj b b' y A l l' v e
def SubB:List (Nat×ABlk)→SMem→Prop
 | [],_=>True
 | (b,x) :: r,m=>(m.get b=some x ∨ ∃ y,m.get b=some y∧BSub x y)∧SubB r m
def SubS(e0:Env)(m0:SMem)(e:Env)(m:SMem):Prop:=SubE e0 e∧SubB m0.bl m∧m.next≤m0.next
theorem SubE.get:∀ {b e:Env},SubE b e → ∀ i,b.get i=.bot∨b.get i=e.get i
 | [],_,_,i=>.inl rfl
 | (j,v) :: r,e,h,i=>by
  simp only[Env.get];by_cases a:i=j
  ·subst a; rw[if_pos rfl]; exact .inr h.1.symm
  ·rw[if_neg a]; exact h.2.get i
theorem SubB.get:∀ {l:List (Nat×ABlk)} {m:SMem},SubB l m → ∀ b x,Z9 l b=some x→m.get b=some x ∨ ∃ y,m.get b=some y∧BSub x y
 | [],_,_,b,x,h=>by simp[Z9]at h
 | (c,y) :: r,m,a,b,x,h=>by
  simp only[Z9]at h;split at h
  ·rename_i d; subst d; injection h with h; subst h; exact a.1
  ·exact a.2.get b x h
theorem SubS.weak{n:Nat}{d e:Env}{m0 m:SMem}(h:SubS d m0 e m):ASt.Weak ⟨toE n d,m0.mem⟩ ⟨toE n e,m.mem⟩:=by
 refine⟨h.2.2,fun W Φ ρ vs w f g=>⟨Φ,.refl _ _,f.bsub h.2.2 (fun b x a=>h.2.1.get b x a),g.sub (by rw[L3,L3]) (fun i x a=>?_)⟩⟩
 have hi:i<n:=by
  have:=(gS.1 a).1;rw[L3]at this; exact this
 simp only at a ⊢;rw[H8 hi]at a ⊢;injection a with a
 rcases h.1.get i with c|c
 ·exact .inl (a.symm.trans c)
 ·exact .inr (by rw[← c,a])
def O1(next:Env→SMem→Prop)(Q:Exit→Env→SMem→Prop):Exit→Env→SMem→Prop
 | .normal,e,m=>next e m
 | x,e,m=>Q x e m
def J5(id:Nat)(Q:Exit→Env→SMem→Prop):Exit→Env→SMem→Prop
 | .exit id',e,m=>if id'=id then Q .normal e m else Q (.exit id') e m
 | x,e,m=>Q x e m
def wpS(P:Program)(n:Nat):ACode→(Exit→Env→SMem→Prop)→Env→SMem→Prop
 | .skip,Q,e,m=>Q .normal e m
 | .region false ops,Q,e,m=>K6 P n m.next ops 0 (Q .normal) e (m.at (m.next+ops.length))
 | .region true ops,Q,e,m=>A3 P n m.next ops [] (Q .normal) e (m.at (m.next+ops.length))
 | .seq a b,Q,e,m=>wpS P n a (O1 (wpS P n b Q) Q) e m
 | .cond c a b,Q,e,m=>match evE n e c with
  | .bool true=>wpS P n a Q e m
  | .bool false=>wpS P n b Q e m
  | _=>False
 | .block id c,Q,e,m=>wpS P n c (J5 id Q) e m
 | .loop c,Q,e,m=>∃ (I:Nat→Env→SMem→Prop),(∃ k e0 m0,SubS e0 m0 e m∧I k e0 m0) ∧ ∀ k e1 m1,I k e1 m1→wpS P n c (O1 (fun e' m'=>∃ j e0 m0,j<k∧SubS e0 m0 e' m'∧I j e0 m0) Q) e1 m1
 | .exit id,Q,e,m=>Q (.exit id) e m
 | .scope c,Q,e,m=>wpS P n c Q e m
 | .label _,Q,e,m=>Q .normal e m
 | .ret,Q,e,m=>Q .ret e m
 | .bad,_,_,_=>False
def F3(n:Nat)(Q:Exit→Env→SMem→Prop):Exit→ASt→Prop
 | .goto _,_=>False
 | x,σ=>∃ e m,σ=⟨toE n e,m.mem⟩∧Q x e m
section
variable {P:Program} {n:Nat}
theorem Zju{base:Nat}{K:Env→SMem→Prop}:∀ (j:List AOper) (i:Nat) (e:Env) (m:SMem),K6 P n base j i K e m→M6 P base j i (fun σ=>∃ e m,σ=⟨toE n e,m.mem⟩∧K e m) (toE n e) m.mem
 | [],_,e,m,h=>⟨e,m,rfl,h⟩
 | o :: r,i,e,m,h=>by
  simp only[K6]at h;simp only[M6,Zgk];cases l:V4 n e o.guard with
  | none=>simp[l]at h
  | some q=>
   cases q with
   | false=>
    simp only[l]at h;simp only[J0];exact Zju r (i+1) _ m h
   | true=>
    simp only[l]at h;simp only;have b:∀ op,o.op=op→(match stepD (base+i) (evE n e) m.get op with|some (v,d)=>K6 P n base r (i+1) K (Y6 e o.dst v) (m.app d)|none=>False) →
     (match stepA (base+i) (toE n e) m.mem op with|some (v,p)=>M6 P base r (i+1) (fun σ=>∃ e m,σ=⟨toE n e,m.mem⟩∧K e m) (put (toE n e) o.dst v) p|none=>False):=by
     intro op _ c;cases k:stepD (base+i) (evE n e) m.get op with
     | none=>simp[k]at c
     | some z=>
      obtain⟨v,d⟩:=z;simp only[k]at c;have:=Za3 (m:=m.mem) (t:=toE n e) (id:=base+i) (op:=op) (v:=v) (d:=d) (by rw[L8]; exact k)
      rw[this];simp only[J0];rw[← SMem.app_mem];exact Zju r (i+1) _ _ c
    cases a:o.op with
    | call f xs=>
     simp only[a]at h;simp only[Zl5];cases s:W4 n e f xs with
     | none=>simp[s]at h
     | some u=>
      obtain⟨g,args⟩:=u;simp only[s]at h;simp only;refine h.mono fun v y c=>?_
      obtain⟨p,rfl,w⟩:=c;simp only[J0];exact Zju r (i+1) _ p w
    | _=>rw[a]at h; exact b _ a h
theorem Zzw{g:FuncId}{args:List AVal}{v:AVal}(id:Nat)(x:List Nat)(b:id∉x)(m:Mem)(h:Zj4 P g args v id x m):Zfx P g args id x m v m []:=by
 refine⟨m.less x,b,fun c a=>by simp[Mem.less,a],Nat.le_refl _,rfl,fun c=>?_,fun c _ _ a=>by simp[Mem.less,a],h⟩
 by_cases a:c∈x
 ·rw[if_pos a]
 ·rw[if_neg a]; simp[Mem.less,a]
theorem Zmm{base:Nat}{K:Env→SMem→Prop}:∀ (i:List AOper) (a:List FT) (e:Env) (m:SMem),A3 P n base i a K e m→R7 P base i a (fun σ=>∃ e m,σ=⟨toE n e,m.mem⟩∧K e m) (toE n e) m.mem
 | [],_,e,m,h=>⟨e,m,rfl,h⟩
 | o :: r,a,e,m,h=>by
  simp only[A3]at h;simp only[R7,Zgk];cases l:V4 n e o.guard with
  | none=>simp[l]at h
  | some q=>
   cases q with
   | false=>
    simp only[l]at h;simp only[J0];exact Zmm r _ _ m h
   | true=>
    simp only[l]at h;simp only;have c:∀ op,o.op=op→(match stepD (base+a.length) (evE n e) m.get op with|some (v,d)=>S6 a (.ops (U4 (base+a.length) (evE n e) op) (U3 (evE n e) op)) o.un∧A3 P n base r (a++[.ops (U4 (base+a.length) (evE n e) op) (U3 (evE n e) op)]) K (Y6 e o.dst v) (m.app d)|none=>False) →
     (match stepA (base+a.length) (toE n e) m.mem op with|some (v,m')=>S6 a (.ops (S8 (base+a.length) (toE n e) op) (K8 (toE n e) op)) o.un∧R7 P base r (a++[.ops (S8 (base+a.length) (toE n e) op) (K8 (toE n e) op)]) (fun σ=>∃ e m,σ=⟨toE n e,m.mem⟩∧K e m) (put (toE n e) o.dst v) m'|none=>False):=by
     intro op _ j;cases k:stepD (base+a.length) (evE n e) m.get op with
     | none=>simp[k]at j
     | some y=>
      obtain⟨v,d⟩:=y;simp only[k]at j;have:=Za3 (m:=m.mem) (t:=toE n e) (id:=base+a.length) (op:=op) (v:=v) (d:=d) (by rw[L8]; exact k)
      rw[this];simp only[J0,Zkr,Zk3,L8];rw[← SMem.app_mem];exact⟨j.1,Zmm r _ _ _ j.2⟩
    cases b:o.op with
    | call f xs=>
     simp only[b]at h;simp only[Zl5];cases p:W4 n e f xs with
     | none=>simp[p]at h
     | some s=>
      obtain⟨g,args⟩:=s;simp only[p]at h;obtain⟨v,w,hi,u⟩:=h;simp only;refine⟨[],xOf base a.length r.length,v,m.mem,Zzw _ _ (Z00 _ _ _) _ w,hi,?_⟩;simp only[J0];exact Zmm r _ _ m u
    | _=>rw[b]at h; exact c _ b h
theorem Zga{c:ACode}:∀ {Q Q':Exit→ASt→Prop} {σ:ASt},wpc P c Q σ→(∀ x σ,Q x σ→Q' x σ)→wpc P c Q' σ:=by
 induction c with
 | skip=>exact fun h d=>d _ _ h
 | region w e=>
  intro Q Q' σ h d;cases w with
  | false=>
   simp only[wpc]at h ⊢;have:∀ (e:List AOper) (base i:Nat) (t:List AVal) (m:Mem),M6 P base e i (Q .normal) t m→M6 P base e i (Q' .normal) t m:=by
    intro e
    induction e with
    | nil=>exact fun base i t m h=>d _ _ h
    | cons o r n=>
     intro base i t m h;rcases Zx1 h with⟨p,q⟩|⟨p,⟨f,xs,g,args,q,y,D⟩|⟨v,B,q,y⟩⟩
     ·simp only[M6,p]; exact n _ _ _ _ q
     ·simp only[M6,p,q,y]; exact D.mono fun v B F=>n _ _ _ _ F
     ·simp only[M6,p];cases A:o.op<;>rw[A]at q<;>first|(simp only[q]; exact n _ _ _ _ y)|(simp[stepA]at q)
   exact this _ _ _ _ _ h
  | true=>
   simp only[wpc]at h ⊢;have:∀ (e:List AOper) (base:Nat) (z:List FT) (t:List AVal) (m:Mem),R7 P base e z (Q .normal) t m→R7 P base e z (Q' .normal) t m:=by
    intro e
    induction e with
    | nil=>exact fun base i t m h=>d _ _ h
    | cons o r n=>
     intro base z t m h;simp only[R7]at h ⊢;split at h
     ·exact n _ _ _ _ h
     ·split at h
      ·split at h
       ·obtain⟨wl,x,v,B,p,q,y⟩:=h;exact⟨wl,x,v,B,p,q,n _ _ _ _ y⟩
       ·exact h
      ·split at h
       ·exact⟨h.1,n _ _ _ _ h.2⟩
       ·exact h
     ·exact h
   exact this _ _ _ _ _ h
 | seq a b s u=>
  intro Q Q' σ h d;refine s h fun x σ j=>?_
  cases x<;>first|exact u j d|exact d _ _ j
 | cond c a b s u=>
  intro Q Q' σ h d;simp only[wpc]at h ⊢;split at h
  ·exact s h d
  ·exact u h d
  ·exact h
 | block id c n=>
  intro Q Q' σ h d;refine n h fun x σ j=>?_
  cases x<;>simp only[Zav]at j ⊢ <;> first|exact d _ _ j|skip
  split at j
  ·rename_i p; rw[if_pos p]; exact d _ _ j
  ·rename_i p; rw[if_neg p]; exact d _ _ j
 | loop c n=>
  intro Q Q' σ h d;obtain⟨I,p,q⟩:=h;refine⟨I,p,fun k C E=>n (q k C E) fun x σ j=>?_⟩
  cases x<;>first|exact j|exact d _ _ j
 | exit id=>exact fun h d=>d _ _ h
 | scope c n=>
  intro Q Q' σ h d;refine n h fun x σ j=>?_
  cases x<;>first|exact j|exact d _ _ j
 | label l=>exact fun h d=>d _ _ h
 | ret=>exact fun h d=>d _ _ h
 | bad=>exact fun h _=>h
theorem Zo2{c:ACode}:∀ {Q:Exit→Env→SMem→Prop} {e:Env} {m:SMem},wpS P n c Q e m→wpc P c (F3 n Q) ⟨toE n e,m.mem⟩:=by
 induction c with
 | skip=>exact fun h=>⟨_,_,rfl,h⟩
 | region q t=>
  intro Q e m h;cases q with
  | false=>exact Zju t 0 e _ h
  | true=>exact Zmm t [] e _ h
 | seq a b f g=>
  intro Q e m h;show wpc P a (Zit (wpc P b (F3 n Q)) (F3 n Q)) _;refine Zga (f h) fun x σ d=>?_
  cases x<;>simp only[F3]at d<;>first|exact d.elim|skip
  all_goals
   obtain⟨o,p,rfl,d⟩:=d
   first|exact g d|exact⟨o,p,rfl,d⟩
 | cond c a b f g=>
  intro Q e m h;simp only[wpS]at h;simp only[wpc,L8];split at h
  ·rename_i w; rw[w]; exact f h
  ·rename_i w; rw[w]; exact g h
  ·exact h.elim
 | block id c s=>
  intro Q e m h;show wpc P c (Zav id (F3 n Q)) _;refine Zga (s h) fun x σ d=>?_
  cases x<;>simp only[F3,J5]at d<;>first|exact d.elim|skip
  case exit i=>
   obtain⟨o,p,rfl,d⟩:=d;simp only[Zav];split at d
   ·rename_i r; rw[if_pos r]; exact⟨o,p,rfl,d⟩
   ·rename_i r; rw[if_neg r]; exact⟨o,p,rfl,d⟩
  all_goals exact d
 | loop c s=>
  intro Q e m h;obtain⟨I,⟨k,u,m0,r,z⟩,A⟩:=h;refine⟨fun k σ=>∃ e m,σ=⟨toE n e,m.mem⟩∧I k e m,⟨k,_,r.weak,u,m0,rfl,z⟩,?_⟩
  rintro k E ⟨o,p,rfl,B⟩;refine Zga (s (A k o p B)) fun x σ d=>?_
  cases x<;>simp only[F3]at d<;>first|exact d.elim|skip
  all_goals obtain⟨y,m2,rfl,d⟩:=d
  ·obtain⟨j,u,m0,C,D,v⟩:=d;exact⟨j,_,C,D.weak,u,m0,rfl,v⟩
  all_goals exact⟨y,m2,rfl,d⟩
 | exit id=>exact fun h=>⟨_,_,rfl,h⟩
 | scope c s=>
  intro Q e m h;show wpc P c (Zps (F3 n Q)) _;refine Zga (s h) fun x σ d=>?_
  cases x<;>first|exact d.elim|exact d
 | label l=>exact fun h=>⟨_,_,rfl,h⟩
 | ret=>exact fun h=>⟨_,_,rfl,h⟩
 | bad=>exact fun h=>h
def V2(k:Nat):List AVal→Env→Env
 | [],e=>e
 | x :: r,e=>(k,x) :: V2 (k+1) r e
theorem Zhj:∀ (args:List AVal) (k i:Nat) (e:Env),(V2 k args e).get i=if k≤i∧i<k+args.length then args.getD (i - k) .bot else e.get i
 | [],k,i,e=>by
  have:¬(k≤i∧i<k+([]:List AVal).length):=by simp
  rw[if_neg this]; rfl
 | x :: r,k,i,e=>by
  simp only[V2,Env.get];by_cases h:i=k
  ·subst h;rw[if_pos rfl,if_pos (by simp),Nat.sub_self]
   rfl
  ·rw[if_neg h,Zhj r (k+1) i e];by_cases a:k+1≤i∧i<k+1+r.length
   ·rw[if_pos a,if_pos (by simp; omega)]
    have:i - k=(i - (k+1))+1:=by omega
    rw[this];rfl
   ·rw[if_neg a,if_neg (by simp; omega)]
def J6(n:Nat)(rs:List (Nat×Option (Option Nat)))(K:AVal→SMem→Prop):Exit→Env→SMem→Prop
 | .normal,e,m=>match rs with
  | [(i,none)]=>K (evE n e (.tmp i)) m
  | [(i,none),(j,none)]=>K (.tuple [evE n e (.tmp i),evE n e (.tmp j)]) m
  | []=>K (.tuple []) m
  | _=>False
 | .ret,e,m=>match rs with
  | [(i,none)]=>K (evE n e (.tmp i)) m
  | [(i,none),(j,none)]=>K (.tuple [evE n e (.tmp i),evE n e (.tmp j)]) m
  | []=>K (.tuple []) m
  | _=>False
 | _,_,_=>False
theorem Z7x(hm:P.follows .mixedOrders=true){f:FuncId}{fn:Func}{o:AFn}{args:List AVal}{m:Mem}{L:List Nat}{K:AVal→Mem→Prop}(N:P.funcs[f]? = some fn)(hc:cFn P fn=some o){n:ASt}
 (G:ASt.Weak n ⟨args++List.replicate (o.ntmps - args.length) aundef,m⟩) (h:wpc P o.body (retK o.results K) n):ACalls P f args m L K:=by
 obtain⟨c,y,g,D,B,j⟩:=Zin hc;rw[g]at h;refine⟨⟨fn,N,j,by rw[y]; rfl⟩,fun W Φ ρ vs w hr ha aa=>?_⟩
 have E:=Zh3 (k:=fn.ntmps) ha;rw[B]at G;obtain⟨J,z,C,F⟩:=G.rel W Φ ρ _ w hr E;have hs:=Zhb hm c _ _ h W J ρ { tmps:=vs++Array.replicate (fn.ntmps - vs.size) undef,defers:=[] } w C F rfl;refine calls_of_wp N y (wp_mono hs fun e a w' hl=>?_)
 obtain⟨σ,d,ρ',V,X,Y,M,Z,h6,p⟩:=hl;have s:m.next≤n.m.next:=G.next;have q:(match M5 σ.t σ.m o.results with|some r=>K r σ.m|none=>False)→a.defers=[] ∧ ∃ v,(results fn a.tmps).run P w'=.ok v w' ∧
  ∃ O r I d ρ',Ending.returned v=.returned O∧Ext Φ ρ d ρ'∧(∀ b,b<m.next→b∉L→ρ b=none→ρ' b=none)∧Rel W d ρ' I w'∧R d ρ' r O∧m.next≤I.next∧K r I:=by
  intro A;cases H:M5 σ.t σ.m o.results with
  | none=>simp[H]at A
  | some r=>
   simp only[H]at A;obtain⟨u,Q,S⟩:=Zg2 M Z D H;exact⟨h6,u,Q,u,r,σ.m,d,ρ',rfl,z.trans V,fun b y _ U=>X b (Nat.lt_of_lt_of_le y s) U,M,S,Nat.le_trans s Y,A⟩
 cases e with
 | normal=>exact q p
 | ret=>exact q p
 | exit i=>exact p.elim
 | goto l=>exact p.elim
 | panic ch=>exact p.elim
 | outgrown=>exact p.elim
theorem B6(hm:P.follows .mixedOrders=true){f:FuncId}{fn:Func}{b:AFn}{args:List AVal}{m:SMem}{q:List Nat}{K:AVal→Mem→Prop}(u:P.funcs[f]? = some fn)(t:cFn P fn=some b)(y:args.length≤b.ntmps)
 (h:wpS P b.ntmps b.body (J6 b.ntmps b.results fun v c=>K v c.mem) (V2 0 args []) m):ACalls P f args m.mem q K:=by
 have w:ASt.Weak ⟨toE b.ntmps (V2 0 args []),m.mem⟩ ⟨args++List.replicate (b.ntmps - args.length) aundef,m.mem⟩:=by
  refine ASt.Weak.of_sub (by simp[L3]; omega) (fun i x a=>?_) (Mem.Sub.refl _)
  have hi:i<b.ntmps:=by
   have:=(gS.1 a).1;rw[L3]at this; exact this
  simp only at a ⊢;rw[H8 hi,Zhj]at a;injection a with a
  by_cases p:0≤i∧i<0+args.length
  ·rw[if_pos p]at a;rw[List.getElem?_append,if_pos (by omega)]
   refine .inr ?_;rw[← a,Nat.sub_zero,List.getD,gE (by omega)]
   rfl
  ·rw[if_neg p]at a;exact .inl a.symm
 have s:wpc P b.body (retK b.results K) ⟨toE b.ntmps (V2 0 args []),m.mem⟩:=by
  refine Zga (Zo2 h) fun x σ a=>?_
  have d:∀ e c,(match b.results with
   | [(i,none)]=>K (evE b.ntmps e (.tmp i)) c.mem
   | [(i,none),(j,none)]=>K (.tuple [evE b.ntmps e (.tmp i),evE b.ntmps e (.tmp j)]) c.mem
   | []=>K (.tuple []) c.mem
   | _=>False)→(match M5 (toE b.ntmps e) (SMem.mem c) b.results with|some r=>K r c.mem|none=>False):=by
   intro e c k;have g:∀ i,(toE b.ntmps e).getD i aundef=evE b.ntmps e (.tmp i):=fun i=>congrFun (L8 b.ntmps e) (.tmp i)
   split at k
   ·rename_i i l;rw[l];simp only[M5,A5,g];exact k
   ·rename_i i j l;rw[l];simp only[M5,C5,A5,g];exact k
   ·rename_i l;rw[l];exact k
   ·exact k.elim
  cases x<;>simp only[F3,J6]at a<;>first|exact a.elim|skip
  ·obtain⟨n,o,rfl,a⟩:=a; exact d n o a
  ·obtain⟨_,_,_,a⟩:=a; exact a.elim
  ·obtain⟨n,o,rfl,a⟩:=a; exact d n o a
  ·obtain⟨_,_,_,a⟩:=a; exact a.elim
  ·obtain⟨_,_,_,a⟩:=a; exact a.elim
 exact Z7x hm u t w s
end
end Go.AE
end
section
namespace Go.AE
open Go.RowKit
variable {P:Program}
theorem Zz2(get:Nat→Option ABlk):∀ (n:Nat) (v:AVal),(match v with | .int _ _ | .bool _ | .str _=>True|_=>False)→X4 get (n+1) v=some v:=by
 intro n v h;cases v<;>first|exact h.elim|rfl
theorem Zad{g:FuncId}{args:List AVal}{v:AVal}(a:Y7 args=true)(b:match v with | .int _ _ | .bool _ | .str _=>True|_=>False)
 (h:ACalls P g args (SMem.mem ⟨[],1⟩) [0] fun r _=>r=v):PCall P g args v:=by
 intro m d;refine Zny a (by cases v<;>first|exact b.elim|rfl) (fun c=>rfl) (Nat.lt_succ_self 0) h (fun r f e=>⟨1,?_⟩) m d
 subst e;exact Zz2 _ 0 _ b
theorem Z3d{g:FuncId}{args:List AVal}{v:AVal}(a:Y7 args=true)(b:v.closed=true){n:Nat}
 (h:ACalls P g args (SMem.mem ⟨[],1⟩) [0] fun r d=>X4 d.get n r=some v):PCall P g args v:=by
 intro m e;exact Zny a b (fun c=>rfl) (Nat.lt_succ_self 0) h (fun r d f=>⟨n,f⟩) m e
section
variable {n:Nat} {Q:Exit→Env→SMem→Prop} {e:Env} {m:SMem}
theorem F2:wpS P n .skip Q e m=Q .normal e m:=propext Iff.rfl
theorem E3(a:List AOper):wpS P n (.region false a) Q e m=K6 P n m.next a 0 (Q .normal) e (m.at (m.next+a.length)):=propext Iff.rfl
theorem F8(a:List AOper):wpS P n (.region true a) Q e m=A3 P n m.next a [] (Q .normal) e (m.at (m.next+a.length)):=propext Iff.rfl
theorem E4(a b:ACode):wpS P n (.seq a b) Q e m=wpS P n a (O1 (wpS P n b Q) Q) e m:=propext Iff.rfl
theorem E6(c:AOpd)(a b:ACode):wpS P n (.cond c a b) Q e m=match evE n e c with
 | .bool true=>wpS P n a Q e m
 | .bool false=>wpS P n b Q e m
 | _=>False:=propext Iff.rfl
theorem F7(i:Nat)(c:ACode):wpS P n (.block i c) Q e m=wpS P n c (J5 i Q) e m:=propext Iff.rfl
theorem F4(i:Nat):wpS P n (.exit i) Q e m=Q (.exit i) e m:=propext Iff.rfl
theorem F0:wpS P n .ret Q e m=Q .ret e m:=propext Iff.rfl
theorem O4(N:Env→SMem→Prop):O1 N Q .normal e m=N e m:=propext Iff.rfl
theorem P9(N:Env→SMem→Prop):O1 N Q .ret e m=Q .ret e m:=propext Iff.rfl
theorem P7(N:Env→SMem→Prop)(i:Nat):O1 N Q (.exit i) e m=Q (.exit i) e m:=propext Iff.rfl
theorem O0(i:Nat):J5 i Q .normal e m=Q .normal e m:=propext Iff.rfl
theorem P6(i:Nat):J5 i Q .ret e m=Q .ret e m:=propext Iff.rfl
theorem P8(i j:Nat):J5 i Q (.exit j) e m=if j=i then Q .normal e m else Q (.exit j) e m:=propext Iff.rfl
theorem E5{base i:Nat}{K:Env→SMem→Prop}:K6 P n base [] i K e m=K e m:=propext Iff.rfl
theorem F1{base i:Nat}{K:Env→SMem→Prop}(o:AOper)(r:List AOper):K6 P n base (o :: r) i K e m =
 match V4 n e o.guard with
 | some false=>K6 P n base r (i+1) K (Y6 e o.dst aundef) m
 | some true=>
  match o.op with
  | .call f xs=>match W4 n e f xs with
   | some (g,args)=>SC P g args m (base+i) fun v a=>K6 P n base r (i+1) K (Y6 e o.dst v) a
   | none=>False
  | op=>match stepD (base+i) (evE n e) m.get op with
   | some (v,d)=>K6 P n base r (i+1) K (Y6 e o.dst v) (m.app d)
   | none=>False
 | none=>False:=propext Iff.rfl
theorem Zed{base:Nat}{a:List FT}{K:Env→SMem→Prop}:A3 P n base [] a K e m=K e m:=propext Iff.rfl
theorem Zb4{base:Nat}{a:List FT}{K:Env→SMem→Prop}(o:AOper)(r:List AOper):A3 P n base (o :: r) a K e m =
 match V4 n e o.guard with
 | some false=>A3 P n base r (a++[.ops [] []]) K (Y6 e o.dst aundef) m
 | some true=>
  match o.op with
  | .call f xs=>match W4 n e f xs with
   | some (g,args)=>∃ v,Zj4 P g args v (base+a.length) (xOf base a.length r.length) m.mem∧S6 a (.call [] (xOf base a.length r.length) m.next) o.un∧A3 P n base r (a++[.call [] (xOf base a.length r.length) m.next]) K (Y6 e o.dst v) m
   | none=>False
  | op=>match stepD (base+a.length) (evE n e) m.get op with
   | some (v,d)=>S6 a (.ops (U4 (base+a.length) (evE n e) op) (U3 (evE n e) op)) o.un∧A3 P n base r (a++[.ops (U4 (base+a.length) (evE n e) op) (U3 (evE n e) op)]) K (Y6 e o.dst v) (m.app d)
   | none=>False
 | none=>False:=propext Iff.rfl
def Next{α:Type}(E:α→Env)(M:α→SMem)(μ:α→Nat)(Inv:α→Prop)(a:α)(e':Env)(m':SMem):Prop:=∃ a',μ a'<μ a∧Inv a'∧SubS (E a') (M a') e' m'
theorem Za0{α:Type}{c:ACode}(E:α→Env)(M:α→SMem)(d:α→Nat)(b:α→Prop)(f:α)(t:SubS (E f) (M f) e m)(r:b f)
 (h:∀ a,b a→wpS P n c (O1 (Next E M d b a) Q) (E a) (M a)):wpS P n (.loop c) Q e m:=by
 refine⟨fun k e m=>∃ a,k=d a∧b a∧e=E a∧m=M a,⟨d f,_,_,t,f,rfl,r,rfl,rfl⟩,?_⟩
 rintro k u v ⟨a,rfl,s,rfl,rfl⟩;have key:(O1 (Next E M d b a) Q)=(O1 (fun e' q=>∃ j i m0,j<d a∧SubS i m0 e' q∧(∃ a,j=d a∧b a∧i=E a∧m0=M a)) Q):=by
  funext x e' q
  cases x<;>try rfl
  simp only[O1];apply propext;constructor
  ·rintro⟨g,l,o,p⟩;exact⟨d g,_,_,l,p,g,rfl,o,rfl,rfl⟩
  ·rintro⟨j,i,m0,l,p,g,rfl,o,rfl,rfl⟩;exact⟨g,l,o,p⟩
 rw[← key];exact h a s
end
@[congr] theorem Yhn{g : FuncId}{args a : List AVal}{m : SMem}{id : Nat}{K : AVal → SMem → Prop}(h : args = a) : SC P g args m id K = SC P g a m id K := by rw [h]
@[congr] theorem Yih{α : Type}{E : α → Env}{M : α → SMem}{d : α → Nat}{b : α → Prop}{a : α}{e e' : Env}{m c : SMem}(h : e = e')(f : m = c) : Next E M d b a e m = Next E M d b a e' c := by rw [h, f]
@[congr] theorem Yhf{N : Env → SMem → Prop}{Q : Exit → Env → SMem → Prop}{x b : Exit}{e e' : Env}{m a : SMem}(d : x = b)(h : e = e')(c : m = a) : O1 N Q x e m = O1 N Q b e' a := by rw [d, h, c]
@[congr] theorem Yhx{i : Nat}{Q : Exit → Env → SMem → Prop}{x b : Exit}{e e' : Env}{m a : SMem}(d : x = b)(h : e = e')(c : m = a) : J5 i Q x e m = J5 i Q b e' a := by rw [d, h, c]
@[congr] theorem Yht{n : Nat}{c : ACode}{Q : Exit → Env → SMem → Prop}{e e' : Env}{m a : SMem}(h : e = e')(b : m = a) : wpS P n c Q e m = wpS P n c Q e' a := by rw [h, b]
@[congr] theorem Yhw{n base a i c : Nat}{b : List AOper}{K : Env → SMem → Prop}{e e' : Env}{m d : SMem}(g : base = a)(hi : i = c)(h : e = e')(f : m = d) : K6 P n base b i K e m = K6 P n a b c K e' d := by rw [g, hi, h, f]
@[congr] theorem Yhi{n base a : Nat}{d b : List FT}{c : List AOper}{K : Env → SMem → Prop}{e e' : Env}{m f : SMem}(i : base = a)(hi : d = b)(h : e = e')(g : m = f) : A3 P n base c d K e m = A3 P n a c b K e' f := by rw [i, hi, h, g]
end Go.AE
end
section
namespace Go.AE
open Go.RowKit
mutual
def AVal.ren(p:Nat→Nat):AVal→AVal
 | .ptr b i j=>.ptr (p b) i j
 | .iptr els i j=>.iptr (Z4 p els) i j
 | .sl b off len=>.sl (p b) off len
 | .imm els=>.imm (Z4 p els)
 | .map b=>.map (p b)
 | .func fn f c=>.func fn (Q4 p f) (Q4 p c)
 | .yld b=>.yld (p b)
 | .iface t v=>.iface t (v.ren p)
 | .agg cs=>.agg (Q4 p cs)
 | .tuple cs=>.tuple (Q4 p cs)
 | .bool b=>.bool b
 | .int k n=>.int k n
 | .str s=>.str s
 | .nilPtr=>.nilPtr
 | .nilSl=>.nilSl
 | .emp=>.emp
 | .nilMap=>.nilMap
 | .nilFunc=>.nilFunc
 | .atLeast n=>.atLeast n
 | .nilIface=>.nilIface
 | .bot=>.bot
def Q4(p:Nat→Nat):List AVal→List AVal
 | []=>[]
 | x :: r=>x.ren p :: Q4 p r
def Z4(p:Nat→Nat):List (List AVal)→List (List AVal)
 | []=>[]
 | x :: r=>Q4 p x :: Z4 p r
end
theorem Zns(p:Nat→Nat):∀ (l:List AVal),Q4 p l=l.map (·.ren p)
 | []=>rfl
 | x :: r=>by simp only[Q4,List.map_cons,Zns p r]
theorem J3(p:Nat→Nat):∀ (l:List (List AVal)),Z4 p l=l.map (Q4 p)
 | []=>rfl
 | x :: r=>by simp only[Z4,List.map_cons,J3 p r]
theorem Zag(p:Nat→Nat)(l:List AVal):(Q4 p l).length=l.length:=by rw[Zns,List.length_map]
theorem Zh4(p:Nat→Nat)(l:List (List AVal)):(Z4 p l).length=l.length:=by rw[J3,List.length_map]
theorem renL_get{p:Nat→Nat}{l:List AVal}{i:Nat}{y:AVal}:(Q4 p l)[i]? = some y ↔ ∃ x,l[i]? = some x∧y=x.ren p:=by
 rw[Zns,List.getElem?_map];cases l[i]? with
 | none=>simp
 | some x=>simp[eq_comm]
theorem renLL_get{p:Nat→Nat}{l:List (List AVal)}{i:Nat}{y:List AVal}:(Z4 p l)[i]? = some y ↔ ∃ x,l[i]? = some x∧y=Q4 p x:=by
 rw[J3,List.getElem?_map];cases l[i]? with
 | none=>simp
 | some x=>simp[eq_comm]
mutual
theorem AVal.ren_closed(p:Nat→Nat):∀ (x:AVal),x.closed=true→x.ren p=x
 | .bool _,_ | .int _ _,_ | .str _,_ | .nilPtr,_ | .nilSl,_ | .emp,_ | .nilMap,_ | .nilFunc,_ | .nilIface,_ | .bot,_=>rfl
 | .imm els,h=>by rw[AVal.ren,X1 p els h]
 | .agg cs,h=>by rw[AVal.ren,Zhw p cs h]
 | .tuple cs,h=>by rw[AVal.ren,Zhw p cs h]
 | .func _ a b,h=>by
  simp only[AVal.closed,bA]at h;rw[AVal.ren,Zhw p a h.1,Zhw p b h.2]
 | .iptr els _ _,h=>by rw[AVal.ren,X1 p els h]
 | .ptr ..,h | .sl ..,h | .map ..,h | .yld ..,h | .atLeast ..,h | .iface ..,h=>by cases h
theorem Zhw(p:Nat→Nat):∀ (l:List AVal),Y7 l=true→Q4 p l=l
 | [],_=>rfl
 | x :: r,h=>by
  simp only[Y7,bA]at h;rw[Q4,AVal.ren_closed p x h.1,Zhw p r h.2]
theorem X1(p:Nat→Nat):∀ (l:List (List AVal)),V3 l=true→Z4 p l=l
 | [],_=>rfl
 | x :: r,h=>by
  simp only[V3,bA]at h;rw[Z4,Zhw p x h.1,X1 p r h.2]
end
theorem R.ren{Φ:Pers}{ρ ρ':Rho}{p:Nat→Nat}(C:∀ b l,ρ b=some l→ρ' (p b)=some l){x:AVal}{v:Value}(h:R Φ ρ x v):R Φ ρ' (x.ren p) v:=by
 induction h with
 | bool b=>exact .bool b
 | int k n=>exact .int k n
 | str s=>exact .str s
 | ptr b i j l h=>exact .ptr _ i j l (C _ _ h)
 | iptr els i j B o k c f D E u _ r=>
  refine .iptr _ i j B o k c f D (fun i row hi=>?_) (fun i row j x hi w=>?_) (fun i row j x hi w=>?_)
  ·obtain⟨q,m,rfl⟩:=renLL_get.1 hi;rw[Zag]; exact E i q m
  ·obtain⟨q,m,rfl⟩:=renLL_get.1 hi;obtain⟨g,d,rfl⟩:=renL_get.1 w;exact u i q j g m d
  ·obtain⟨q,m,rfl⟩:=renLL_get.1 hi;obtain⟨g,d,rfl⟩:=renL_get.1 w;exact r i q j g m d
 | nilPtr=>exact .nilPtr
 | nilSl=>exact .nilSl
 | emp a=>exact .emp a
 | sl b off len a cap l h M N u K=>exact .sl _ off len a cap l (C _ _ h) M N u K
 | imm0 a cap h=>exact .imm0 a cap h
 | imm els B o k cap c f F A D E u _ r=>
  have e:=Zh4 p els;rw[← e];refine .imm _ B o k cap c f (fun J=>F ?_) (by rw[e]; exact A) D (fun i row hi=>?_) (fun i row j x hi w=>?_) (fun i row j x hi w=>?_)
  ·rw[J]at e;exact List.length_eq_zero_iff.1 e.symm
  ·obtain⟨q,m,rfl⟩:=renLL_get.1 hi;rw[Zag]; exact E i q m
  ·obtain⟨q,m,rfl⟩:=renLL_get.1 hi;obtain⟨g,d,rfl⟩:=renL_get.1 w;exact u i q j g m d
  ·obtain⟨q,m,rfl⟩:=renLL_get.1 hi;obtain⟨g,d,rfl⟩:=renL_get.1 w;exact r i q j g m d
 | map b l h=>exact .map _ l (C _ _ h)
 | nilMap=>exact .nilMap
 | func fn Q cs P O L u _ _ H I=>
  refine .func fn _ _ P O (by rw[Zag]; exact L) (by rw[Zag]; exact u) (fun i x v z y=>?_) (fun i x v z y=>?_)
  ·obtain⟨g,d,rfl⟩:=renL_get.1 z;exact H i g v d y
  ·obtain⟨g,d,rfl⟩:=renL_get.1 z;exact I i g v d y
 | nilFunc=>exact .nilFunc
 | yld b l h=>exact .yld _ l (C _ _ h)
 | atLeast n c h=>exact .atLeast n c h
 | iface t x v _ r=>exact .iface t _ v r
 | nilIface=>exact .nilIface
 | agg cs vs G _ r=>
  refine .agg _ vs (by rw[Zag]; exact G) (fun i x v z y=>?_)
  obtain⟨g,d,rfl⟩:=renL_get.1 z;exact r i g v d y
 | tuple cs vs G _ r=>
  refine .tuple _ vs (by rw[Zag]; exact G) (fun i x v z y=>?_)
  obtain⟨g,d,rfl⟩:=renL_get.1 z;exact r i g v d y
 | bot v=>exact .bot v
theorem R.unren{Φ:Pers}{ρ ρ':Rho}{q:Nat→Nat}(z:∀ b l,ρ (q b)=some l→ρ' b=some l){y:AVal}{v:Value}(h:R Φ ρ y v):∀ x:AVal,y=x.ren q→R Φ ρ' x v:=by
 induction h with
 | bool b=>intro x d; cases x<;>simp only[AVal.ren,reduceCtorEq,AVal.bool.injEq]at d; subst d; exact .bool _
 | int k n=>intro x d; cases x<;>simp only[AVal.ren,reduceCtorEq,AVal.int.injEq]at d; obtain⟨rfl,rfl⟩:=d; exact .int _ _
 | str s=>intro x d; cases x<;>simp only[AVal.ren,reduceCtorEq,AVal.str.injEq]at d; subst d; exact .str _
 | ptr b i j l h=>intro x d; cases x<;>simp only[AVal.ren,reduceCtorEq,AVal.ptr.injEq]at d; obtain⟨rfl,rfl,rfl⟩:=d; exact .ptr _ _ _ l (z _ _ h)
 | iptr els i j B o k c f A C m _ g=>
  intro x d; cases x<;>simp only[AVal.ren,reduceCtorEq,AVal.iptr.injEq]at d; obtain⟨rfl,rfl,rfl⟩:=d
  exact .iptr _ _ _ B o k c f A (fun i row hi=>by have:=C i _ (renLL_get.2 ⟨row,hi,rfl⟩); rwa[Zag]at this) (fun i row j x hi r=>m i _ j _ (renLL_get.2 ⟨row,hi,rfl⟩) (renL_get.2 ⟨x,r,rfl⟩))
   (fun i row j x hi r=>g i _ j _ (renLL_get.2 ⟨row,hi,rfl⟩) (renL_get.2 ⟨x,r,rfl⟩) x rfl)
 | nilPtr=>intro x d; cases x<;>simp only[AVal.ren,reduceCtorEq]at d; exact .nilPtr
 | nilSl=>intro x d; cases x<;>simp only[AVal.ren,reduceCtorEq]at d; exact .nilSl
 | emp a=>intro x d; cases x<;>simp only[AVal.ren,reduceCtorEq]at d; exact .emp a
 | sl b off len a cap l h K L m J=>intro x d; cases x<;>simp only[AVal.ren,reduceCtorEq,AVal.sl.injEq]at d; obtain⟨rfl,rfl,rfl⟩:=d; exact .sl _ _ _ a cap l (z _ _ h) K L m J
 | imm0 a cap M=>
  intro x d; cases x<;>simp only[AVal.ren,reduceCtorEq,AVal.imm.injEq]at d
  rename_i els;have e:=Zh4 q els;rw[← d]at e;have:els=[]:=List.length_eq_zero_iff.1 e.symm;subst this;exact .imm0 a cap M
 | imm els B o k cap c f D p A C m _ g=>
  intro x d; cases x<;>simp only[AVal.ren,reduceCtorEq,AVal.imm.injEq]at d
  rename_i G;subst d;rw[Zh4]at p ⊢;exact .imm _ B o k cap c f (fun I=>D (by rw[I]; rfl)) p A (fun i row hi=>by have:=C i _ (renLL_get.2 ⟨row,hi,rfl⟩); rwa[Zag]at this) (fun i row j x hi r=>m i _ j _ (renLL_get.2 ⟨row,hi,rfl⟩) (renL_get.2 ⟨x,r,rfl⟩))
   (fun i row j x hi r=>g i _ j _ (renLL_get.2 ⟨row,hi,rfl⟩) (renL_get.2 ⟨x,r,rfl⟩) x rfl)
 | map b l h=>intro x d; cases x<;>simp only[AVal.ren,reduceCtorEq,AVal.map.injEq]at d; subst d; exact .map _ l (z _ _ h)
 | nilMap=>intro x d; cases x<;>simp only[AVal.ren,reduceCtorEq]at d; exact .nilMap
 | func fn P cs O N H m _ _ E F=>
  intro x d; cases x<;>simp only[AVal.ren,reduceCtorEq,AVal.func.injEq]at d; obtain⟨rfl,rfl,rfl⟩:=d
  rw[Zag]at H m;exact .func _ _ _ O N H m (fun i x v d u=>E i _ v (renL_get.2 ⟨x,d,rfl⟩) u x rfl) (fun i x v d u=>F i _ v (renL_get.2 ⟨x,d,rfl⟩) u x rfl)
 | nilFunc=>intro x d; cases x<;>simp only[AVal.ren,reduceCtorEq]at d; exact .nilFunc
 | yld b l h=>intro x d; cases x<;>simp only[AVal.ren,reduceCtorEq,AVal.yld.injEq]at d; subst d; exact .yld _ l (z _ _ h)
 | atLeast n c h=>intro x d; cases x<;>simp only[AVal.ren,reduceCtorEq,AVal.atLeast.injEq]at d; subst d; exact .atLeast _ c h
 | iface t x v _ g=>intro x d; cases x<;>simp only[AVal.ren,reduceCtorEq,AVal.iface.injEq]at d; obtain⟨rfl,rfl⟩:=d; exact .iface _ _ v (g _ rfl)
 | nilIface=>intro x d; cases x<;>simp only[AVal.ren,reduceCtorEq]at d; exact .nilIface
 | agg cs vs w _ g=>
  intro x d; cases x<;>simp only[AVal.ren,reduceCtorEq,AVal.agg.injEq]at d; subst d
  rw[Zag]at w;exact .agg _ vs w (fun i x v d u=>g i _ v (renL_get.2 ⟨x,d,rfl⟩) u x rfl)
 | tuple cs vs w _ g=>
  intro x d; cases x<;>simp only[AVal.ren,reduceCtorEq,AVal.tuple.injEq]at d; subst d
  rw[Zag]at w;exact .tuple _ vs w (fun i x v d u=>g i _ v (renL_get.2 ⟨x,d,rfl⟩) u x rfl)
 | bot v=>intro x d; cases x<;>simp only[AVal.ren,reduceCtorEq]at d; exact .bot v
def G8(p:Nat→Nat)(es:List (AVal×AVal×Nat)):List (AVal×AVal×Nat):=es.map fun x=>(x.1.ren p,x.2.1.ren p,x.2.2)
def ABlk.ren(p:Nat→Nat):ABlk→ABlk
 | .cells k els=>.cells k (Z4 p els)
 | .map es clock=>.map (G8 p es) clock
 | .siter s pos=>.siter s pos
 | .miter m since seen stepped=>.miter (m.map p) since seen stepped
theorem RowsIn.ren{Φ:Pers}{ρ ρ':Rho}{p:Nat→Nat}(o:∀ b l,ρ b=some l→ρ' (p b)=some l){els:List (List AVal)}{sh k:Nat}{c:Array Value}(h:RowsIn Φ ρ els sh k c):RowsIn Φ ρ' (Z4 p els) sh k c:=by
 refine⟨fun i row hi=>?_,fun i row j x hi n=>?_⟩
 ·obtain⟨d,a,rfl⟩:=renLL_get.1 hi;rw[Zag]; exact h.1 i d a
 ·obtain⟨d,a,rfl⟩:=renLL_get.1 hi;obtain⟨q,m,rfl⟩:=renL_get.1 n;obtain⟨v,e,f,g⟩:=h.2 i d j q a m;exact⟨v,e,f,g.ren o⟩
theorem BR.ren{Φ:Pers}{ρ ρ':Rho}{p:Nat→Nat}(j:∀ b l,ρ b=some l→ρ' (p b)=some l){x:ABlk}{l:Loc}{o:Obj}(h:BR Φ ρ x l o):BR Φ ρ' (x.ren p) l o:=by
 cases h with
 | cells k els l c e B D C n A=>exact .cells k _ l c e B D (by rw[Zh4]; exact C) (n.ren j) A
 | map r d l q E n=>
  refine .map _ d l q (by rw[G8,List.length_map]; exact E) fun i x f=>?_
  rw[G8,List.getElem?_map]at f;cases g:r[i]? with
  | none=>rw[g]at f; cases f
  | some z=>
   rw[g]at f;injection f with f
   subst f;obtain⟨y,t,u,v,w⟩:=n i z g;exact⟨y,t,u.ren j,v.ren j,w⟩
 | siter s pos l=>exact .siter s pos l
 | miter0 a b c l=>exact .miter0 a b c l
 | miter m F a b c l h g=>exact .miter _ F a b c l (j _ _ h) g
theorem RowsIn.unren{Φ:Pers}{ρ ρ':Rho}{q:Nat→Nat}(g:∀ b l,ρ (q b)=some l→ρ' b=some l){els:List (List AVal)}{sh k:Nat}{c:Array Value}(h:RowsIn Φ ρ (Z4 q els) sh k c):RowsIn Φ ρ' els sh k c:=by
 refine⟨fun i row hi=>by have:=h.1 i _ (renLL_get.2 ⟨row,hi,rfl⟩); rwa[Zag]at this,fun i row j x hi f=>?_⟩
 obtain⟨v,a,d,e⟩:=h.2 i _ j _ (renLL_get.2 ⟨row,hi,rfl⟩) (renL_get.2 ⟨x,f,rfl⟩);exact⟨v,a,d,e.unren g x rfl⟩
theorem BR.unren{Φ:Pers}{ρ ρ':Rho}{q:Nat→Nat}(f:∀ b l,ρ (q b)=some l→ρ' b=some l){x:ABlk}{l:Loc}{o:Obj}(h:BR Φ ρ (x.ren q) l o):BR Φ ρ' x l o:=by
 cases x with
 | cells k els=>
  simp only[ABlk.ren]at h;cases h with
  | cells _ _ _ c e z B A g w=>exact .cells k _ l c e z B (by rwa[Zh4]at A) (g.unren f) w
 | map F a=>
  simp only[ABlk.ren]at h;cases h with
  | map _ _ _ n C g=>
   refine .map _ a l n (by rwa[G8,List.length_map]at C) fun i x D=>?_
   obtain⟨y,p,r,t,u⟩:=g i (x.1.ren q,x.2.1.ren q,x.2.2) (by rw[G8,List.getElem?_map,D]; rfl)
   exact⟨y,p,r.unren f x.1 rfl,t.unren f x.2.1 rfl,u⟩
 | siter s pos=>
  simp only[ABlk.ren]at h;cases h with
  | siter _ _ _=>exact .siter s pos l
 | miter m j seen d=>
  simp only[ABlk.ren]at h;cases m with
  | none=>cases h with|miter0 _ _ _ _=>exact .miter0 _ _ _ l
  | some b=>cases h with|miter _ E _ _ _ _ h v=>exact .miter b E _ _ _ l (f _ _ h) v
end Go.AE
end
section
namespace Go.AE
open Go.RowKit
def Zat:List (Nat×Nat)→Nat→Nat→Nat
 | [],_,b=>b
 | (c,o) :: r,d,b=>if b=c then o else Zat r d b
def qOf(l:List (Nat×Nat))(n0 k n b:Nat):Nat:=if b<n0 then b else if b<k then Zat l n b else b - k+n
theorem Zw8{l:List (Nat×Nat)}{n0 k n b:Nat}(h:qOf l n0 k n b<n)(a:n0≤k):b<k:=by
 unfold qOf at h;split at h
 ·omega
 ·split at h<;>omega
def SubRE(q:Nat→Nat):Env→Env→Prop
 | [],_=>True
 | (i,v) :: r,e=>e.get i=v.ren q∧SubRE q r e
def SubRB(q:Nat→Nat):List (Nat×ABlk)→SMem→Prop
 | [],_=>True
 | (b,x) :: r,m=>(m.get (q b)=some (x.ren q) ∨ ∃ y,m.get (q b)=some y∧BSub (x.ren q) y)∧SubRB q r m
def InjA(q:Nat→Nat)(b:Nat):List (Nat×ABlk)→Prop
 | []=>True
 | (c,_) :: r=>(q b=q c→b=c)∧InjA q b r
def InjK(q:Nat→Nat):List (Nat×ABlk)→Prop
 | []=>True
 | (b,_) :: r=>InjA q b r∧InjK q r
theorem InjA.get{q:Nat→Nat}{b:Nat}:∀ {l:List (Nat×ABlk)},InjA q b l → ∀ c x,Z9 l c=some x→q b=q c→b=c
 | [],_,c,x,h,_=>by simp[Z9]at h
 | (d,y) :: r,hi,c,x,h,a=>by
  simp only[Z9]at h;split at h
  ·rename_i e; subst e; exact hi.1 a
  ·exact hi.2.get c x h a
theorem InjK.get{q:Nat→Nat}:∀ {l:List (Nat×ABlk)},InjK q l → ∀ b c x y,Z9 l b=some x→Z9 l c=some y→q b=q c→b=c
 | [],_,b,c,x,y,h,_,_=>by simp[Z9]at h
 | (d,z) :: r,hi,b,c,x,y,f,a,i=>by
  simp only[Z9]at f a;split at f
  ·rename_i e; subst e;split at a
   ·rename_i g; exact g.symm
   ·exact hi.1.get c y a i
  ·split at a
   ·rename_i g; subst g;exact(hi.1.get b x f i.symm).symm
   ·exact hi.2.get b c x y f a i
theorem SubRE.get{q:Nat→Nat}:∀ {b e:Env},SubRE q b e → ∀ i,b.get i=.bot∨e.get i=(b.get i).ren q
 | [],_,_,i=>.inl rfl
 | (j,v) :: r,e,h,i=>by
  simp only[Env.get];by_cases a:i=j
  ·subst a; rw[if_pos rfl]; exact .inr h.1
  ·rw[if_neg a]; exact h.2.get i
theorem SubRB.get{q:Nat→Nat}:∀ {l:List (Nat×ABlk)} {m:SMem},SubRB q l m → ∀ b x,Z9 l b=some x → ∃ y,m.get (q b)=some y∧(y=x.ren q∨BSub (x.ren q) y)
 | [],m,_,b,x,h=>by simp[Z9]at h
 | (c,y) :: r,m,d,b,x,h=>by
  simp only[Z9]at h;split at h
  ·rename_i f; subst f; injection h with h; subst h
   rcases d.1 with a|⟨g,a,e⟩
   ·exact⟨_,a,.inl rfl⟩
   ·exact⟨_,a,.inr e⟩
  ·exact d.2.get b x h
def SubR(n0:Nat)(l:List (Nat×Nat))(e0:Env)(m0:SMem)(e:Env)(m:SMem):Prop:=
 n0≤m0.next∧n0≤m.next∧SubRE (qOf l n0 m0.next m.next) e0 e∧SubRB (qOf l n0 m0.next m.next) m0.bl m∧InjK (qOf l n0 m0.next m.next) m0.bl
theorem BR.of_sub{Φ:Pers}{ρ:Rho}{x y:ABlk}{l:Loc}{o:Obj}(a:y=x∨BSub x y)(h:BR Φ ρ y l o):BR Φ ρ x l o:=by
 rcases a with rfl|a
 ·exact h
 ·exact h.bsub a
theorem Rel.unren{W:Base}{Φ:Pers}{ρ:Rho}{m m0:Mem}{w:World}{q:Nat→Nat}(h:Rel W Φ ρ m w)(d:∀ b x,m0.get b=some x → ∃ y,m.get (q b)=some y∧(y=x.ren q∨BSub (x.ren q) y))
 (hi:∀ b c x y,m0.get b=some x→m0.get c=some y→q b=q c→b=c) (z:∀ b,q b<m.next→b<m0.next):Rel W Φ (fun b=>ρ (q b)) m0 w:=by
 refine⟨h.base,h.pers,fun b x B=>?_,fun b b' x j l l' g i t u v=>?_,fun b l a=>z b (h.fresh _ _ a),h.newp⟩
 ·obtain⟨y,e,A⟩:=d b x B;obtain⟨l,o,k,n,p,r,s⟩:=h.live _ y e;exact⟨l,o,k,n,p,r,(s.of_sub A).unren (q:=q) (fun _ _ a=>a)⟩
 ·obtain⟨y,e,_⟩:=d b x g;obtain⟨C,f,_⟩:=d b' j i;exact hi b b' x j g i (h.inj _ _ y C l l' e f t u v)
theorem SubR.rel{n0 n:Nat}{l:List (Nat×Nat)}{k e:Env}{m0 m:SMem}(h:SubR n0 l k m0 e m){W:Base}{Φ:Pers}{ρ:Rho}{vs:Array Value}{w:World}(t:Rel W Φ ρ m.mem w)(p:RL Φ ρ (toE n e) vs) :
 ∃ ρ',(∀ b,b<n0→ρ' b=ρ b)∧Rel W Φ ρ' m0.mem w∧RL Φ ρ' (toE n k) vs:=by
 obtain⟨j,z,s,hm,hi⟩:=h;refine⟨fun b=>ρ (qOf l n0 m0.next m.next b),fun b a=>by simp only[qOf,if_pos a],t.unren (fun b x d=>hm.get b x d) (fun b c x y a r=>hi.get b c x y a r) (fun b a=>Zw8 a j),?_⟩
 refine⟨by rw[p.1,L3,L3],fun i x v d u=>?_⟩
 have f:i<n:=by
  have:=(gS.1 d).1;rwa[L3]at this
 rw[H8 f]at d;injection d with d
 subst d;rcases s.get i with g|g
 ·rw[g]; exact .bot v
 ·have o:=p.2 i (e.get i) v (H8 f) u;rw[g]at o;exact o.unren (q:=qOf l n0 m0.next m.next) (fun _ _ a=>a) _ rfl
def WkR(n n0:Nat)(e0:Env)(m0:SMem)(e:Env)(m:SMem):Prop:=n0≤m0.next ∧ ∀(W:Base) (Φ:Pers) (ρ:Rho) (vs:Array Value) (w:World),Rel W Φ ρ m.mem w→RL Φ ρ (toE n e) vs →
 ∃ Φ' ρ',(∀ B c,Φ B=some c→Φ' B=some c)∧(∀ b,b<n0→ρ' b=ρ b)∧Rel W Φ' ρ' m0.mem w∧RL Φ' ρ' (toE n e0) vs
theorem SubR.wk{n0 n:Nat}{l:List (Nat×Nat)}{a e:Env}{m0 m:SMem}(h:SubR n0 l a m0 e m):WkR n n0 a m0 e m:=
 ⟨h.1,fun W Φ ρ vs w b c=>let ⟨ρ',h1,h2,h3⟩:=h.rel b c; ⟨Φ,ρ',fun _ _ h=>h,h1,h2,h3⟩⟩
def Zre(P:Program)(g:FuncId)(args:List AVal)(v:AVal)(d:Option ABlk)(id:Nat)(x:List Nat)(m:Mem):Prop:=
 match d with
 | none=>Zj4 P g args v id x m
 | some b=>ACalls P g args (m.less x) [id] fun r m'=>r=v∧m'=(m.less x).set id b
def ftW(id:Nat):Option ABlk→List Nat
 | none=>[]
 | some _=>[id]
def apD(id:Nat):Option ABlk→List (Nat×Option ABlk)
 | none=>[]
 | some b=>[(id,some b)]
theorem Yfz{P:Program}{g:FuncId}{args:List AVal}{v:AVal}{d:Option ABlk}(id:Nat)(x:List Nat)(f:id∉x)(m:Mem)(h:Zre P g args v d id x m):Zfx P g args id x m v (m.apply (apD id d)) (ftW id d):=by
 cases d with
 | none=>exact Zzw id x f m h
 | some b=>
  refine⟨(m.less x).set id b,f,fun c a=>?_,Nat.le_refl _,rfl,fun c=>?_,fun c i _ a=>?_,h⟩
  ·simp only[Mem.get_set];rw[if_neg (fun e:c=id=>f (e ▸ a))]
   simp[Mem.less,a]
  ·simp only[apD,Mem.apply,Mem.get_set];by_cases a:c∈x
   ·rw[if_pos a,if_neg (fun e:c=id=>f (e ▸ a))]
   ·rw[if_neg a];by_cases hi:c=id
    ·rw[if_pos hi,if_pos hi]
    ·rw[if_neg hi,if_neg hi]; simp[Mem.less,a]
  ·simp only[Mem.get_set];rw[if_neg (fun e:c=id=>i (by rw[e]; exact List.mem_singleton.2 rfl))]
   simp[Mem.less,a]
def C7(P:Program)(n base:Nat):List AOper→List FT→(Env→SMem→Prop)→Env→SMem→Prop
 | [],_,K,e,m=>K e m
 | o :: r,fs,K,e,m=>
  match V4 n e o.guard with
  | some false=>C7 P n base r (fs++[.ops [] []]) K (Y6 e o.dst aundef) m
  | some true=>
   match o.op with
   | .call f xs=>match W4 n e f xs with
    | some (g,args)=>∃ v d,Zre P g args v d (base+fs.length) (xOf base fs.length r.length) m.mem∧S6 fs (.call (ftW (base+fs.length) d) (xOf base fs.length r.length) m.next) o.un ∧
     C7 P n base r (fs++[.call (ftW (base+fs.length) d) (xOf base fs.length r.length) m.next]) K (Y6 e o.dst v) (m.app (apD (base+fs.length) d))
    | none=>False
   | op=>match stepD (base+fs.length) (evE n e) m.get op with
    | some (v,d)=>S6 fs (.ops (U4 (base+fs.length) (evE n e) op) (U3 (evE n e) op)) o.un∧C7 P n base r (fs++[.ops (U4 (base+fs.length) (evE n e) op) (U3 (evE n e) op)]) K (Y6 e o.dst v) (m.app d)
    | none=>False
  | none=>False
theorem Zil{P:Program}{n base:Nat}{K:Env→SMem→Prop}:∀ (i:List AOper) (a:List FT) (e:Env) (m:SMem),C7 P n base i a K e m→R7 P base i a (fun σ=>∃ e m,σ=⟨toE n e,m.mem⟩∧K e m) (toE n e) m.mem
 | [],_,e,m,h=>⟨e,m,rfl,h⟩
 | o :: r,a,e,m,h=>by
  simp only[C7]at h;simp only[R7,Zgk];cases l:V4 n e o.guard with
  | none=>simp[l]at h
  | some q=>
   cases q with
   | false=>
    simp only[l]at h;simp only[J0];exact Zil r _ _ m h
   | true=>
    simp only[l]at h;simp only;have c:∀ op,o.op=op→(match stepD (base+a.length) (evE n e) m.get op with|some (v,d)=>S6 a (.ops (U4 (base+a.length) (evE n e) op) (U3 (evE n e) op)) o.un∧C7 P n base r (a++[.ops (U4 (base+a.length) (evE n e) op) (U3 (evE n e) op)]) K (Y6 e o.dst v) (m.app d)|none=>False) →
     (match stepA (base+a.length) (toE n e) m.mem op with|some (v,m')=>S6 a (.ops (S8 (base+a.length) (toE n e) op) (K8 (toE n e) op)) o.un∧R7 P base r (a++[.ops (S8 (base+a.length) (toE n e) op) (K8 (toE n e) op)]) (fun σ=>∃ e m,σ=⟨toE n e,m.mem⟩∧K e m) (put (toE n e) o.dst v) m'|none=>False):=by
     intro op _ j;cases k:stepD (base+a.length) (evE n e) m.get op with
     | none=>simp[k]at j
     | some y=>
      obtain⟨v,d⟩:=y;simp only[k]at j;have:=Za3 (m:=m.mem) (t:=toE n e) (id:=base+a.length) (op:=op) (v:=v) (d:=d) (by rw[L8]; exact k)
      rw[this];simp only[J0,Zkr,Zk3,L8];rw[← SMem.app_mem];exact⟨j.1,Zil r _ _ _ j.2⟩
    cases b:o.op with
    | call f xs=>
     simp only[b]at h;simp only[Zl5];cases p:W4 n e f xs with
     | none=>simp[p]at h
     | some s=>
      obtain⟨g,args⟩:=s;simp only[p]at h;obtain⟨v,d,w,hi,u⟩:=h;simp only;refine⟨ftW (base+a.length) d,xOf base a.length r.length,v,_,Yfz _ _ (Z00 _ _ _) _ w,hi,?_⟩;simp only[J0];rw[← SMem.app_mem];exact Zil r _ _ _ u
    | _=>rw[b]at h; exact c _ b h
def wpT(P:Program)(n n0:Nat):ACode→(Exit→Env→SMem→Prop)→Env→SMem→Prop
 | .skip,Q,e,m=>Q .normal e m
 | .region false ops,Q,e,m=>K6 P n m.next ops 0 (Q .normal) e (m.at (m.next+ops.length))
 | .region true ops,Q,e,m=>C7 P n m.next ops [] (Q .normal) e (m.at (m.next+ops.length))
 | .seq a b,Q,e,m=>wpT P n n0 a (O1 (wpT P n n0 b Q) Q) e m
 | .cond c a b,Q,e,m=>match evE n e c with
  | .bool true=>wpT P n n0 a Q e m
  | .bool false=>wpT P n n0 b Q e m
  | _=>False
 | .block id c,Q,e,m=>wpT P n n0 c (J5 id Q) e m
 | .loop c,Q,e,m=>∃ (I:Nat→Env→SMem→Prop),(∃ k e0 m0,WkR n n0 e0 m0 e m∧I k e0 m0) ∧ ∀ k e1 m1,I k e1 m1→wpT P n n0 c (O1 (fun e' m'=>∃ j e0 m0,j<k∧WkR n n0 e0 m0 e' m'∧I j e0 m0) Q) e1 m1
 | .exit id,Q,e,m=>Q (.exit id) e m
 | .scope c,Q,e,m=>wpT P n n0 c Q e m
 | .label _,Q,e,m=>Q .normal e m
 | .ret,Q,e,m=>Q .ret e m
 | .bad,_,_,_=>False
def Zfz(W:Base)(Φ:Pers)(ρ:Rho)(n n0:Nat)(Q:Exit→Env→SMem→Prop)(x:Exit)(a:Act)(w:World):Prop:=
 ∃ e m Φ' ρ',(∀ B c,Φ B=some c→Φ' B=some c)∧(∀ b,b<n0→ρ' b=ρ b)∧n0≤m.next∧Rel W Φ' ρ' m.mem w∧RL Φ' ρ' (toE n e) a.tmps∧a.defers=[]∧(∀ l,x≠.goto l)∧Q x e m
theorem Zhr{W:Base}{Φ d:Pers}{ρ ρ':Rho}{n n0:Nat}{Q Q':Exit→Env→SMem→Prop}{x:Exit}{a:Act}{w:World}(v:∀ B c,Φ B=some c→d B=some c)(u:∀ b,b<n0→ρ' b=ρ b)
 (h:Zfz W d ρ' n n0 Q x a w) (y:∀ e m,Q x e m→Q' x e m):Zfz W Φ ρ n n0 Q' x a w:=by
 obtain⟨e,m,f,g,j,k,l,o,p,q,r,s⟩:=h;exact⟨e,m,f,g,fun B c t=>j B c (v B c t),fun b i=>(k b i).trans (u b i),l,o,p,q,r,y _ _ s⟩
section
variable {P:Program} {n n0:Nat}
def AWpT(P:Program)(n n0:Nat)(c:Code)(Q:Exit→Env→SMem→Prop)(e:Env)(m:SMem):Prop:=
 ∀(W:Base) (Φ:Pers) (ρ:Rho) (a:Act) (w:World),n0≤m.next→Rel W Φ ρ m.mem w→RL Φ ρ (toE n e) a.tmps→a.defers=[]→c.wp P (Zfz W Φ ρ n n0 Q) a w
theorem Zu1(hm:P.follows .mixedOrders=true){id:Nat}{d:Array Oper}{c:Bool}{Q:Exit→Env→SMem→Prop}{e:Env}{m:SMem}(p:wpc P (Y3 P (.region id d c)) (F3 n Q) ⟨toE n e,m.mem⟩):AWpT P n n0 (.region id d c) Q e m:=by
 intro W Φ ρ a w q B C A;have y:AWp P (.region id d c) (F3 n Q) ⟨toE n e,m.mem⟩:=by
  cases c with
  | false=>exact Zue p
  | true=>exact Zri hm p
 refine wp_mono (y W Φ ρ a w B C A) fun x E w' i=>?_
 obtain⟨σ,k,ρ',o,r,s,t,u,v,h⟩:=i;have f:∀ b,b<n0→ρ' b=ρ b:=fun b z=>by
  cases g:ρ b with
  | none=>exact r b (Nat.lt_of_lt_of_le z q) g
  | some l=>exact o.rho b l g
 have j:m.next≤σ.m.next:=s;cases x<;>simp only[F3]at h<;>first
  | exact h.elim
  | (obtain ⟨e',D,rfl,g⟩:=h
     exact⟨e',D,k,ρ',o.pers,f,Nat.le_trans q j,t,u,v,fun l i=>(by cases i),g⟩)
theorem Zw5(hm:P.follows .mixedOrders=true):∀ (c:Code) (Q:Exit→Env→SMem→Prop) (e:Env) (m:SMem),wpT P n n0 (Y3 P c) Q e m→AWpT P n n0 c Q e m:=by
 intro c
 induction c with
 | skip=>exact fun Q e m h W Φ ρ a w t r p q=>wp_skip ⟨e,m,Φ,ρ,fun _ _ h=>h,fun _ _=>rfl,t,r,p,q,fun l g=>(by cases g),h⟩
 | region id u V=>
  intro Q e m h;refine Zu1 hm ?_;have hw:∀ A:ACode,(∀ d os,A=.region d os∨A=.bad∨True)→(match A with | .region _ _=>True | .bad=>True|_=>False)→wpT P n n0 A Q e m→wpc P A (F3 n Q) ⟨toE n e,m.mem⟩:=by
   intro A _ hA h;cases A with
   | region d os=>
    cases d with
    | false=>exact Zju os 0 e _ h
    | true=>exact Zil os [] e _ h
   | bad=>exact h.elim
   | _=>exact hA.elim
  refine hw _ (fun _ _=>.inr (.inr trivial)) ?_ h
  cases V with
  | false=>
   simp only[Y3];cases F6 P u u.toList<;>trivial
  | true=>
   simp only[Y3];cases F6 P u u.toList with
   | none=>trivial
   | some as=>
    simp only;cases Zi0 u as (Zbf u.toList)<;>trivial
 | seq x y K L=>
  intro Q e m h W Φ ρ a w t r p q;simp only[Y3,wpT]at h;refine wp_seq (wp_mono (K _ _ _ h W Φ ρ a w t r p q) ?_);intro x' C w' g;have key:∀ e',x'=e'→e'≠.normal→Zfz W Φ ρ n n0 Q x' C w':=by
   intro e' he J;refine Zhr (fun _ _ h=>h) (fun _ _=>rfl) g fun e m hq=>?_
   subst he;cases x'<;>first|exact absurd rfl J|exact hq
  cases x' with
  | normal=>
   obtain⟨e',E,o,ρ',F,G,M,N,O,S,X,H⟩:=g;exact wp_mono (L _ _ _ H W o ρ' C w' M N O S) fun x a w ad=>Zhr F G ad fun _ _ h=>h
  | exit i=>exact key _ rfl (by simp)
  | goto l=>exact key _ rfl (by simp)
  | ret=>exact key _ rfl (by simp)
  | panic ch=>exact key _ rfl (by simp)
  | outgrown=>exact key _ rfl (by simp)
 | cond c x y K L=>
  intro Q e m h W Φ ρ a w t r p q;simp only[Y3]at h;cases hc:Y8 c with
  | none=>simp[hc,wpT]at h
  | some c'=>
   simp only[hc,wpT]at h;have U:=T2 p hc;rw[L8]at U;generalize evE n e c'=z at h U;split at h
   ·generalize hz:a.eval c=v at U;cases U;exact wp_cond_true hz (K _ _ _ h W Φ ρ a w t r p q)
   ·generalize hz:a.eval c=v at U;cases U;exact wp_cond_false hz (L _ _ _ h W Φ ρ a w t r p q)
   ·exact h.elim
 | block id c Z=>
  intro Q e m h W Φ ρ a w t r p q;simp only[Y3,wpT]at h;refine wp_block (wp_mono (Z _ _ _ h W Φ ρ a w t r p q) ?_);intro x C w' g;cases x with
  | exit i=>
   simp only[Exit.inBlock];obtain⟨e',E,o,ρ',F,G,M,N,O,S,X,H⟩:=g;simp only[J5]at H;split
   ·rename_i hi;rw[if_pos hi]at H;exact⟨e',E,o,ρ',F,G,M,N,O,S,fun l g=>(by cases g),H⟩
   ·rename_i hi;rw[if_neg hi]at H;exact⟨e',E,o,ρ',F,G,M,N,O,S,fun l g=>(by cases g),H⟩
  | normal=>exact g
  | goto l=>exact g
  | ret=>exact g
  | panic ch=>exact g
  | outgrown=>exact g
 | loop c Z=>
  intro Q e m h W Φ ρ a w t r p q;simp only[Y3,wpT]at h;obtain⟨I,⟨k0,e0,m0,Y,h0⟩,D⟩:=h;obtain⟨al,ao,ae,ab,ag,ai⟩:=Y.2 W Φ ρ _ w r p;refine wp_loop_ghost (fun k C w'=>∃ e' E o ρ',(∀ B c,Φ B=some c→o B=some c)∧(∀ b,b<n0→ρ' b=ρ b)∧n0≤E.next∧Rel W o ρ' E.mem w'∧RL o ρ' (toE n e') C.tmps∧C.defers=[]∧I k e' E) k0
   ⟨e0,m0,al,ao,ae,ab,Y.1,ag,ai,q,h0⟩ ?_
  rintro k C w' ⟨e',E,o,ρ',F,G,M,N,O,S,X⟩;refine wp_mono (Z _ _ _ (D k e' E X) W o ρ' C w' M N O S) ?_;intro x aa ak g;have key:∀ e',x=e'→e'≠.normal→Zfz W Φ ρ n n0 Q x aa ak:=by
   intro e' he J;refine Zhr F G g fun e m hq=>?_
   subst he;cases x<;>first|exact absurd rfl J|exact hq
  cases x with
  | normal=>
   obtain⟨e2,m2,am,aq,g1,g2,g3,g4,g5,g6,_,j,e3,m3,g7,g8,g9⟩:=g;obtain⟨an,ar,af,ac,ah,aj⟩:=g8.2 W am aq _ _ g4 g5;exact⟨j,g7,e3,m3,an,ar,fun B c hB=>af B c (g1 B c (F B c hB)),fun b hb=>(ac b hb).trans ((g2 b hb).trans (G b hb)),g8.1,ah,aj,g6,g9⟩
  | exit i=>exact key _ rfl (by simp)
  | goto l=>exact key _ rfl (by simp)
  | ret=>exact key _ rfl (by simp)
  | panic ch=>exact key _ rfl (by simp)
  | outgrown=>exact key _ rfl (by simp)
 | exit id=>exact fun Q e m h W Φ ρ a w t r p q=>wp_exit ⟨e,m,Φ,ρ,fun _ _ h=>h,fun _ _=>rfl,t,r,p,q,fun l g=>(by cases g),h⟩
 | scope c Z=>
  intro Q e m h W Φ ρ a w t r p q;simp only[Y3,wpT]at h;refine wp_scope_straight (wp_mono (Z _ _ _ h W Φ ρ a w t r p q) ?_);intro x C w' g;cases x with
  | goto l=>
   obtain⟨_,_,_,_,_,_,_,_,_,_,X,_⟩:=g;exact absurd rfl (X l)
  | normal=>exact g
  | exit i=>exact g
  | ret=>exact g
  | panic ch=>exact g
  | outgrown=>exact g
 | label l=>exact fun Q e m h W Φ ρ a w t r p q=>wp_label ⟨e,m,Φ,ρ,fun _ _ h=>h,fun _ _=>rfl,t,r,p,q,fun l g=>(by cases g),h⟩
 | ret=>exact fun Q e m h W Φ ρ a w t r p q=>wp_ret ⟨e,m,Φ,ρ,fun _ _ h=>h,fun _ _=>rfl,t,r,p,q,fun l g=>(by cases g),h⟩
 | rangeFunc f ps x y _ _=>exact fun Q e m h=>by simp[Y3,wpT]at h
 | goto l=>exact fun Q e m h=>by simp[Y3,wpT]at h
 | refuse s=>exact fun Q e m h=>by simp[Y3,wpT]at h
def S3(n:Nat)(e:Env)(m:SMem):List (Nat×Option (Option Nat))→Option (List AVal)
 | []=>some []
 | (i,none) :: r=>match S3 n e m r with
  | some l=>some (evE n e (.tmp i) :: l)
  | none=>none
 | (i,some k) :: r=>match T9 m.get k (evE n e (.tmp i))with
  | some v=>(match S3 n e m r with
   | some l=>some (v :: l)
   | none=>none)
  | none=>none
def G6(K:AVal→SMem→Prop)(m:SMem):Option (List AVal)→Prop
 | some [x]=>K x m
 | some l=>K (.tuple l) m
 | none=>False
def M8(n:Nat)(rs:List (Nat×Option (Option Nat)))(K:AVal→SMem→Prop):Exit→Env→SMem→Prop
 | .normal,e,m=>G6 K m (S3 n e m rs)
 | .ret,e,m=>G6 K m (S3 n e m rs)
 | _,_,_=>False
theorem Zvc{e:Env}{m:SMem}{x:Nat×Option (Option Nat)}{v:AVal}{r:List (Nat×Option (Option Nat))}{l:List AVal}(h:S3 n e m (x :: r)=some (v :: l)):A5 (toE n e) m.mem x=some v∧S3 n e m r=some l:=by
 obtain⟨i,o⟩:=x;have a:(toE n e).getD i aundef=evE n e (.tmp i):=congrFun (L8 n e) (.tmp i);cases o with
 | none=>
  simp only[S3]at h;cases b:S3 n e m r with
  | none=>simp[b]at h
  | some l'=>
   simp only[b,oI,List.cons.injEq]at h;obtain⟨rfl,rfl⟩:=h;exact⟨by simp only[A5,a],rfl⟩
 | some k=>
  simp only[S3]at h;cases c:T9 m.get k (evE n e (.tmp i))with
  | none=>simp[c]at h
  | some w=>
   cases b:S3 n e m r with
   | none=>simp[c,b]at h
   | some l'=>
    simp only[c,b,oI,List.cons.injEq]at h;obtain⟨rfl,rfl⟩:=h;refine⟨?_,rfl⟩;simp only[A5,a,Zrj];exact c
theorem Zrw{e:Env}{m:SMem}:∀ {c:List (Nat×Option (Option Nat))} {l:List AVal},S3 n e m c=some l→(c=[]∧l=[]) ∨ ∃ x r v t,c=x :: r∧l=v :: t
 | [],l,h=>by simp only[S3,oI]at h; exact .inl ⟨rfl,h.symm⟩
 | (i,none) :: r,l,h=>by
  simp only[S3]at h;cases a:S3 n e m r with
  | none=>simp[a]at h
  | some l'=>simp only[a,oI]at h; exact .inr ⟨_,_,_,_,rfl,h.symm⟩
 | (i,some k) :: r,l,h=>by
  simp only[S3]at h;cases b:T9 m.get k (evE n e (.tmp i))with
  | none=>simp[b]at h
  | some w=>
   cases a:S3 n e m r with
   | none=>simp[b,a]at h
   | some l'=>simp only[b,a,oI]at h; exact .inr ⟨_,_,_,_,rfl,h.symm⟩
theorem Zux{e:Env}{m:SMem}:∀ {b:List (Nat×Option (Option Nat))} {l:List AVal},S3 n e m b=some l→C5 (toE n e) m.mem b=some l
 | [],l,h=>h
 | x :: r,l,h=>by
  rcases Zrw h with⟨a,_⟩|⟨y,f,v,t,a,rfl⟩
  ·cases a
  ·cases a;obtain⟨c,d⟩:=Zvc h;simp only[C5,c,Zux d]
theorem Zlq{e:Env}{m:SMem}{b:List (Nat×Option (Option Nat))}{K:AVal→SMem→Prop}(h:G6 K m (S3 n e m b)):∃ v,M5 (toE n e) m.mem b=some v∧K v m:=by
 cases a:S3 n e m b with
 | none=>rw[a]at h; exact h.elim
 | some l=>
  rw[a]at h;have c:=Zux a;rcases Zrw a with⟨rfl,rfl⟩|⟨x,r,v,t,rfl,rfl⟩
  ·exact⟨_,rfl,h⟩
  ·obtain⟨d,f⟩:=Zvc a;rcases Zrw f with⟨rfl,rfl⟩|⟨k,j,i,g,rfl,rfl⟩
   ·exact⟨v,by simp only[M5,d],h⟩
   ·exact⟨.tuple (v :: i :: g),by simp only[M5,c],h⟩
def Ctr(P:Program)(f:FuncId)(args:List AVal)(m:SMem)(K:AVal→SMem→Prop):Prop:=ACalls P f args m.mem [] fun r m'=>∃ sm:SMem,m'=sm.mem∧K r sm
def S4(n0:Nat)(K:AVal→SMem→Prop)(v:AVal)(m:SMem):Prop:=∃ v0 m0 l,SubR n0 l [(0,v0)] m0 [(0,v)] m∧K v0 m0
theorem Z2f(hm:P.follows .mixedOrders=true){f:FuncId}{fn:Func}{j:AFn}{args:List AVal}{m:SMem}{K:AVal→SMem→Prop}(J:P.funcs[f]? = some fn)(hc:cFn P fn=some j)(D:Nat.ble args.length j.ntmps=true)
 (h:wpT P j.ntmps m.next j.body (M8 j.ntmps j.results (S4 m.next K)) (V2 0 args []) m):Ctr P f args m K:=by
 obtain⟨c,o,q,E,ac,s⟩:=Zin hc;have ab:args.length≤j.ntmps:=Nat.le_of_ble_eq_true D;rw[q]at h;refine⟨⟨fn,J,s,by rw[o]; rfl⟩,fun W Φ ρ vs w L Z aa=>?_⟩
 have F:=Zh3 (k:=fn.ntmps) Z;have G:RL Φ ρ (toE j.ntmps (V2 0 args [])) (vs++Array.replicate (fn.ntmps - vs.size) undef):=by
  refine F.sub (by rw[L3]; simp; omega) fun i x g=>?_
  have hi:i<j.ntmps:=by
   have:=(gS.1 g).1;rwa[L3]at this
  rw[H8 hi,Zhj]at g;injection g with g
  by_cases C:0≤i∧i<0+args.length
  ·rw[if_pos C]at g;rw[List.getElem?_append,if_pos (by omega)]
   refine .inr ?_;rw[← g,Nat.sub_zero,List.getD,gE (by omega)]
   rfl
  ·rw[if_neg C]at g;exact .inl g.symm
 have hs:=Zw5 (n0:=m.next) hm c _ _ _ h W Φ ρ { tmps:=vs++Array.replicate (fn.ntmps - vs.size) undef,defers:=[] } w (Nat.le_refl _) L G rfl;refine calls_of_wp J o (wp_mono hs fun x a w' D=>?_)
 obtain⟨e,A,d,ρ',V,C,h3,I,X,Y,h7,z⟩:=D;have B:G6 (S4 m.next K) A (S3 j.ntmps e A j.results)→a.defers=[] ∧ ∃ v,(results fn a.tmps).run P w'=.ok v w' ∧
  ∃ O r A d ρ',Ending.returned v=.returned O∧Ext Φ ρ d ρ'∧(∀ b,b<m.mem.next→b∉([]:List Nat)→ρ b=none→ρ' b=none)∧Rel W d ρ' A w'∧R d ρ' r O∧m.mem.next≤A.next ∧ ∃ N:SMem,A=N.mem∧K r N:=by
  intro hh;obtain⟨v,Q,v0,m0,l,H,S⟩:=Zlq hh;obtain⟨u,k1,k2⟩:=Zg2 I X E Q;obtain⟨t,j1,j2,j3⟩:=H.rel (n:=1) (vs:=#[u]) I ⟨rfl,fun i x y g M=>by
   cases i with
   | zero=>
    rw[H8 (by omega)]at g
    simp only[Env.get,if_true,oI]at g;have:u=y:=by simpa using M
    subst g; subst this; exact k2
   | succ i=>simp at M⟩
  have k3:R d t v0 u:=j3.2 0 v0 u (by rw[H8 (by omega)]; rfl) rfl
  have p:∀ b,b<m.next→t b=ρ b:=fun b o=>(j1 b o).trans (C b o)
  refine⟨Y,u,k1,u,v0,m0.mem,d,t,rfl,⟨V,fun b l o=>?_⟩,fun b o _ U=>(p b o).trans U,j2,k3,H.1,m0,rfl,S⟩
  exact(p b (L.fresh b l o)).trans o
 cases x with
 | normal=>exact B z
 | ret=>exact B z
 | exit i=>exact z.elim
 | goto l=>exact z.elim
 | panic ch=>exact z.elim
 | outgrown=>exact z.elim
end
end Go.AE
end
section
namespace Go.AE
open Go.RowKit
variable {P:Program}
theorem Zrt{f:FuncId}{s:List AVal}{m0:Mem}{K0:AVal→Mem→Prop}(h:ACalls P f s m0 [] K0){m:Mem}{q:Nat→Nat}{K:AVal→Mem→Prop}
 (I:∀ c x,m0.get c=some x → ∃ y,m.get (q c)=some y∧(y=x.ren q∨BSub (x.ren q) y))
 (ag:∀ c S x x',m0.get c=some x→m0.get S=some x'→q c=q S→c=S)
 (hq:∀ c,m0.next≤c→q c=c - m0.next+m.next)
 (hK:∀ r0 m1,K0 r0 m1 → ∃ m':Mem,m'.next=m1.next - m0.next+m.next ∧
   (∀ b x,m'.get b=some x→(∃ c y,m1.get c=some y∧b=q c∧x=y.ren q)∨(m.get b=some x ∧ ∀ c y,m0.get c=some y→q c≠b))∧K (r0.ren q) m')
 (av:List Nat):ACalls P f (Q4 q s) m av K:=by
 refine⟨h.1,fun W Φ ρ vs w F ha ao=>?_⟩
 have ah:∀ b,q b<m.next→b<m0.next:=fun b j=>by
  rcases Nat.lt_or_ge b m0.next with a|a
  ·exact a
  ·rw[hq b a]at j; omega
 have O:∀ B,(∃ c l y,m.get c=some y∧(∀ d z,m0.get d=some z→q d≠c)∧ρ c=some l∧l.blk=B) ∨ ¬(∃ c l y,m.get c=some y∧(∀ d z,m0.get d=some z→q d≠c)∧ρ c=some l∧l.blk=B):=fun B=>Classical.em _
 obtain⟨g,hg⟩:∃ g:Nat→Option Obj,∀ B,((∃ c l y,m.get c=some y∧(∀ d z,m0.get d=some z→q d≠c)∧ρ c=some l∧l.blk=B)→g B=w.heap[B]?) ∧
  (¬(∃ c l y,m.get c=some y∧(∀ d z,m0.get d=some z→q d≠c)∧ρ c=some l∧l.blk=B)→g B=W.g B):=by
  refine⟨fun B=>@ite _ (∃ c l y,m.get c=some y∧(∀ d z,m0.get d=some z→q d≠c)∧ρ c=some l∧l.blk=B) (Classical.propDecidable _) (w.heap[B]?) (W.g B),fun B=>⟨fun h=>?_,fun h=>?_⟩⟩
  ·simp only[h,if_true]
  ·simp only[h,if_false]
 let W':Base:=⟨W.w,g,Φ⟩
 have D:∀ B,W'.Free B→W.Free B:=by
  intro B A;refine⟨A.1,?_⟩;rcases O B with a|a
  ·obtain⟨c,l,y,M,_,hl,ab⟩:=a;obtain⟨l',o,t,U,_⟩:=F.live c y M;rw[hl]at t; injection t with t; subst t
   rw[← ab]; exact U.2
  ·have L:g B=none:=A.2;rw[(hg B).2 a]at L; exact L
 have ac:∀ B o,g B=some o→w.heap[B]? = some o:=by
  intro B o A;rcases O B with a|a
  ·rw[(hg B).1 a]at A; exact A
  ·rw[(hg B).2 a]at A; exact F.base.prot B o A
 have ad:Rel W Φ (fun b=>ρ (q b)) m0 w:=F.unren I ag ah
 have am:Rel W' Φ (fun b=>ρ (q b)) m0 w:=by
  refine⟨⟨F.base.below,ac⟩,F.pers,fun b x hx=>?_,ad.inj,ad.fresh,fun B c A=>.inl A⟩
  obtain⟨l,o,t,U,g3,g4,g5⟩:=ad.live b x hx;refine⟨l,o,t,⟨U.1,?_⟩,g3,g4,g5⟩;rcases O l.blk with a|a
  ·obtain⟨c,l',y',an,Y,hl,ab⟩:=a;obtain⟨y,M,_⟩:=I b x hx;exact absurd (F.inj _ _ y y' l l' M an t hl ab.symm) (Y b x hx)
  ·show g l.blk=none;rw[(hg _).2 a]; exact U.2
 have ak:RL Φ (fun b=>ρ (q b)) s vs:=by
  refine⟨by rw[ha.1,Zag],fun i x v hx hv=>?_⟩
  exact(ha.2 i (x.ren q) v (renL_get.2 ⟨x,hx,rfl⟩) hv).unren (q:=q) (fun _ _ j=>j) x rfl
 refine(h.2 W' Φ (fun b=>ρ (q b)) vs w am ak (fun b j=>by simp at j)).mono fun e w' he=>?_
 obtain⟨u,r,m1,H,ae,e1,hE,hk,n,hR,aq,aj⟩:=he;obtain⟨m',V,E,ai⟩:=hK r m1 aj;obtain⟨ρ',J⟩:∃ ρ':Rho,∀ b,ρ' b=if b<m.next then ρ b else ae (b - m.next+m0.next):=⟨_,fun _=>rfl⟩
 have hp:∀ b l,ae b=some l→ρ' (q b)=some l:=by
  intro b l j;rw[J];rcases Nat.lt_or_ge b m0.next with a|a
  ·cases X:ρ (q b)with
   | none=>rw[hk b a (by simp) X]at j; cases j
   | some l'=>
    have L:=hE.rho b l' X;rw[j]at L; injection L with L; subst L
    rw[if_pos (F.fresh _ _ X)]
  ·rw[hq b a,if_neg (by omega)]
   have:b - m0.next+m.next - m.next+m0.next=b:=by omega
   rw[this]; exact j
 have C:∀ b,b<m.next→ρ' b=ρ b:=fun b j=>by rw[J,if_pos j]
 have k:∀ c y,m.get c=some y→(∀ d z,m0.get d=some z→q d≠c) → ∃ l o,ρ' c=some l∧ρ c=some l∧W.Free l.blk∧g l.blk=some o∧H l.blk=none∧w'.heap[l.blk]? = some o∧BR H ρ' y l o:=by
  intro c y M Y;obtain⟨l,o,t,U,g3,g4,g5⟩:=F.live c y M;have aa:g l.blk=some o:=by rw[(hg _).1 ⟨c,l,y,M,Y,t,rfl⟩]; exact g4
  refine⟨l,o,(C c (F.fresh _ _ t)).trans t,t,U,aa,?_,n.base.prot _ _ aa,g5.ext ⟨hE.pers,fun b l j=>(C b (F.fresh _ _ j)).trans j⟩⟩
  cases al:H l.blk with
  | none=>rfl
  | some cc=>
   rcases n.newp _ _ al with a|a
   ·have af:Φ l.blk=some cc:=a;rw[g3]at af; cases af
   ·have:g l.blk=none:=a.2;rw[aa]at this; cases this
 have p:∀ c y,m1.get c=some y → ∃ l o,ρ' (q c)=some l∧ae c=some l∧W'.Free l.blk∧H l.blk=none∧w'.heap[l.blk]? = some o∧BR H ρ' (y.ren q) l o:=by
  intro c y M;obtain⟨l,o,t,U,g3,g4,g5⟩:=n.live c y M;exact⟨l,o,hp _ _ t,t,U,g3,g4,g5.ren hp⟩
 refine⟨u,r.ren q,m',H,ρ',e1,⟨hE.pers,fun b l j=>(C b (F.fresh _ _ j)).trans j⟩,fun b j _ h0=>(C b j).trans h0,?_,hR.ren hp,by rw[V]; omega,ai⟩
 refine⟨⟨n.base.below,fun B o A=>n.base.prot B o ?_⟩,n.pers,fun b y M=>?_,fun b b' y y' l l' a L k1 k2 he=>?_,fun b l j=>?_,fun B c A=>?_⟩
 ·rcases O B with a|a
  ·show g B=some o;rw[(hg B).1 a]; exact F.base.prot B o A
  ·show g B=some o;rw[(hg B).2 a]; exact A
 ·rcases E b y M with⟨c,z,X,rfl,rfl⟩|⟨j,Y⟩
  ·obtain⟨l,o,G,_,q3,q5,q6,q7⟩:=p c z X;exact⟨l,o,G,D _ q3,q5,q6,q7⟩
  ·obtain⟨l,o,G,_,q3,_,q5,q6,q7⟩:=k b y j Y;exact⟨l,o,G,q3,q5,q6,q7⟩
 ·rcases E b y a with⟨c,z,X,rfl,rfl⟩|⟨j,Y⟩
  ·obtain⟨l1,o1,G,q2,q3,_,_,_⟩:=p c z X;rw[k1]at G; injection G with G; subst G
   rcases E b' y' L with⟨S,z',Q,rfl,rfl⟩|⟨N,Z⟩
   ·obtain⟨l2,o2,p1,p2,_,_,_,_⟩:=p S z' Q;rw[k2]at p1; injection p1 with p1; subst p1
    rw[n.inj c S z z' l l' X Q q2 p2 he]
   ·obtain⟨l2,o2,p1,_,_,p4,_⟩:=k b' y' N Z;rw[k2]at p1; injection p1 with p1; subst p1
    have:g l.blk=none:=q3.2;rw[he,p4]at this; cases this
  ·obtain⟨l1,o1,G,q2,_,q4,_⟩:=k b y j Y;rw[k1]at G; injection G with G; subst G
   rcases E b' y' L with⟨S,z',Q,rfl,rfl⟩|⟨N,Z⟩
   ·obtain⟨l2,o2,p1,p2,p3,_,_,_⟩:=p S z' Q;rw[k2]at p1; injection p1 with p1; subst p1
    have:g l'.blk=none:=p3.2;rw[← he,q4]at this; cases this
   ·obtain⟨l2,o2,p1,p2,_,p4,_⟩:=k b' y' N Z;rw[k2]at p1; injection p1 with p1; subst p1
    exact F.inj b b' y y' l l' j N q2 p2 he
 ·rw[J]at j;rw[V];split at j
  ·rename_i a; omega
  ·have:=n.fresh _ _ j;omega
 ·rcases n.newp B c A with a|a
  ·exact F.newp B c a
  ·exact .inr (D B a)
def V8(b:Nat):List Nat→Bool
 | []=>false
 | c :: r=>if b=c then true else V8 b r
def M7(q:Nat→Nat):List (Nat×ABlk)→List Nat
 | []=>[]
 | (b,_) :: r=>q b :: M7 q r
def K5(q:Nat→Nat):List (Nat×ABlk)→List (Nat×ABlk)→List (Nat×ABlk)
 | [],t=>t
 | (b,x) :: r,t=>(q b,x.ren q) :: K5 q r t
def R0(ks:List Nat):List (Nat×ABlk)→List (Nat×ABlk)
 | []=>[]
 | (b,x) :: r=>bif V8 b ks then R0 ks r else (b,x) :: R0 ks r
theorem memN_iff{b:Nat}:∀ {l:List Nat},V8 b l=true↔b∈l
 | []=>by simp[V8]
 | c :: r=>by
  simp only[V8,List.mem_cons];by_cases h:b=c
  ·simp[h]
  ·simp[h,memN_iff (l:=r)]
theorem Zje{q:Nat→Nat}{l:List (Nat×ABlk)}{c:Nat}{x:ABlk}(h:Z9 l c=some x):q c∈M7 q l:=by
 induction l with
 | nil=>simp[Z9]at h
 | cons a r b=>
  obtain⟨d,y⟩:=a;simp only[Z9]at h;split at h
  ·rename_i e; subst e; exact List.mem_cons_self ..
  ·exact List.mem_cons_of_mem _ (b h)
theorem Za8{d:List Nat}{b:Nat}{x:ABlk}:∀ {l:List (Nat×ABlk)},Z9 (R0 d l) b=some x→Z9 l b=some x∧b∉d
 | [],h=>by simp[R0,Z9]at h
 | (c,y) :: r,h=>by
  simp only[R0]at h;cases hm:V8 c d with
  | true=>
   rw[hm]at h;simp only[cond_true]at h;have:=Za8 h;refine⟨?_,this.2⟩;simp only[Z9];rw[if_neg (fun e:b=c=>this.2 (by rw[e]; exact memN_iff.1 hm))]
   exact this.1
  | false=>
   rw[hm]at h;simp only[cond_false,Z9]at h ⊢;split at h
   ·rename_i e;refine⟨by rw[if_pos e]; exact h,fun a=>?_⟩
    subst e;rw[memN_iff.2 a]at hm; cases hm
   ·rename_i e;have:=Za8 h;exact⟨by rw[if_neg e]; exact this.1,this.2⟩
theorem Zlf{q:Nat→Nat}{b:Nat}{x:ABlk}{t:List (Nat×ABlk)}:∀ {l:List (Nat×ABlk)},Z9 (K5 q l t) b=some x→(∃ c y,Z9 l c=some y∧b=q c∧x=y.ren q)∨Z9 t b=some x
 | [],h=>.inr h
 | (c,y) :: r,h=>by
  simp only[K5,Z9]at h;split at h
  ·rename_i e;injection h with h
   exact .inl ⟨c,y,by simp[Z9],e,h.symm⟩
  ·rename_i e;rcases Zlf h with⟨d,z,a,f,i⟩|a
   ·refine .inl ⟨d,z,?_,f,i⟩;simp only[Z9];rw[if_neg (fun g=>e (by rw[f,g]))]
    exact a
   ·exact .inr a
theorem U9{g:FuncId}{a args:List AVal}{m0 m:SMem}{o K:AVal→SMem→Prop}{id:Nat}(h:Ctr P g a m0 o)(l:List (Nat×Nat))(t:Q4 (qOf l 0 m0.next m.next) a=args)
 (z:SubRB (qOf l 0 m0.next m.next) m0.bl m) (hi:InjK (qOf l 0 m0.next m.next) m0.bl)
 (s:∀ i d,o i d→K (i.ren (qOf l 0 m0.next m.next)) ⟨K5 (qOf l 0 m0.next m.next) d.bl (R0 (M7 (qOf l 0 m0.next m.next) m0.bl) m.bl),d.next - m0.next+m.next⟩) :
 SC P g args m id K:=by
 subst t;refine Zrt h (m:=m.mem) (fun c x f=>z.get c x f) (fun c p x A f n=>hi.get c p x A f n) (fun c k=>?_) (fun i B v=>?_) [id]
 ·have u:m0.next≤c:=k;simp only[qOf,Nat.not_lt_zero,if_false];rw[if_neg (by omega)]
  rfl
 ·obtain⟨d,rfl,w⟩:=v;refine⟨_,rfl,fun b x f=>?_,⟨⟨K5 (qOf l 0 m0.next m.next) d.bl (R0 (M7 (qOf l 0 m0.next m.next) m0.bl) m.bl),d.next - m0.next+m.next⟩,rfl,s i d w⟩⟩
  rcases Zlf f with⟨c,y,j,q,r⟩|j
  ·exact .inl ⟨c,y,j,q,r⟩
  ·have:=Za8 j;exact .inr ⟨this.1,fun c y k e=>this.2 (e ▸ Zje k)⟩
theorem Zno{g:FuncId}{args:List AVal}{v:AVal}(i:Y7 args=true)(j:v.closed=true){k:Nat}(h:Ctr P g args ⟨[],1⟩ fun r a=>X4 a.get k r=some v):PCall P g args v:=by
 intro m q;have t:ACalls P g args (SMem.mem ⟨[],1⟩) [0] fun r a=>∃ o:SMem,a=o.mem∧X4 o.get k r=some v:=by
  refine⟨h.1,fun W Φ ρ vs w l B _=>(h.2 W Φ ρ vs w l B (fun b f=>by simp at f)).mono fun e w' C=>?_⟩
  obtain⟨u,r,F,p,ρ',s,z,D,n,A,E,d⟩:=C;exact⟨u,r,F,p,ρ',s,z,fun b f _ y=>D b f (by simp) y,n,A,E,d⟩
 exact Zny i j (fun c=>rfl) (Nat.lt_succ_self 0) t (fun r a l=>by obtain⟨o,rfl,h⟩:=l; exact⟨k,h⟩) m q
theorem Ctr.mono{g:FuncId}{args:List AVal}{m:SMem}{K K':AVal→SMem→Prop}(h:Ctr P g args m K)(f:∀ r a,K r a→K' r a):Ctr P g args m K':=
 ACalls.mono h fun r a d=>by obtain⟨b,e,c⟩:=d; exact⟨b,e,f r b c⟩
def Zay(v:AVal)(A B:Prop):Prop:=
 match v with
 | .bool true=>A
 | .bool false=>B
 | _=>False
@[congr] theorem Yis{v a : AVal}{A B : Prop}(h : v = a) : Zay v A B = Zay a A B := by rw [h]
end Go.AE
end
