/- Part 22 of the proof: AeSa, AeSb, AeNa, AeNb, AeNc. -/
import Derived.Test.YtfmnflhggplkmaaGreatDoorO21
set_option linter.all false
section
namespace Go.AE
open Go.RowKit
abbrev Env:=List (Nat×AVal)
def Env.get:Env→Nat→AVal
 | [],_=>.bot
 | (j,v) :: r,i=>if i=j then v else Env.get r i
def evE (n:Nat) (e:Env):AOpd→AVal
 | .tmp i=>if i<n then e.get i else aundef
 | .const v=>v
 | .fn f=>.func (.func f) [] []
def putE (e:Env) (d:Option Nat) (v:AVal):Env:=
 match d with
 | some d=>(d,v) :: e
 | none=>e
structure SMem where
 bl:List (Nat×ABlk)
 next:Nat
def lookB:List (Nat×ABlk)→Nat→Option ABlk
 | [],_=>none
 | (c,x) :: r,b=>if b=c then some x else lookB r b
def eraseB:List (Nat×ABlk)→Nat→List (Nat×ABlk)
 | [],_=>[]
 | (c,x) :: r,b=>if b=c then eraseB r b else (c,x) :: eraseB r b
def SMem.get (m:SMem) (b:Nat):Option ABlk:=lookB m.bl b
def SMem.mem (m:SMem):Mem:=⟨m.get,m.next⟩
def SMem.at (m:SMem) (n:Nat):SMem:=⟨m.bl,n⟩
def SMem.app (m:SMem):List (Nat×Option ABlk)→SMem
 | []=>m
 | (b,some x) :: r=>SMem.app ⟨(b,x) :: m.bl,m.next⟩ r
 | (b,none) :: r=>SMem.app ⟨eraseB m.bl b,m.next⟩ r
theorem lookB_erase (b c:Nat):∀ (l:List (Nat×ABlk)),lookB (eraseB l b) c=if c=b then none else lookB l c
 | []=>by simp[eraseB,lookB]
 | (d,x) :: r=>by
  simp only[eraseB]
  by_cases h:b=d
  ·rw[if_pos h,lookB_erase b c r]
   simp only[lookB]
   by_cases h2:c=b
   ·simp[h2]
   ·rw[if_neg h2,if_neg h2,if_neg (by omega)]
  ·rw[if_neg h]
   simp only[lookB]
   by_cases h2:c=d
   ·rw[if_pos h2,if_pos h2,if_neg (by omega)]
   ·rw[if_neg h2,if_neg h2,lookB_erase b c r]
theorem SMem.app_mem:∀ (d:List (Nat×Option ABlk)) (m:SMem),(m.app d).mem=m.mem.apply d
 | [],_=>rfl
 | (b,some x) :: r,m=>by
  simp only[SMem.app,Mem.apply]
  rw[SMem.app_mem r]
  congr 1
 | (b,none) :: r,m=>by
  simp only[SMem.app,Mem.apply]
  rw[SMem.app_mem r]
  congr 1
  exact Mem.ext' (fun c=>by simp only[SMem.mem,SMem.get,Mem.get_del]; exact lookB_erase b c m.bl) rfl
def toE (n:Nat) (e:Env):List AVal:=(List.range n).map e.get
theorem toE_length (n:Nat) (e:Env):(toE n e).length=n:=by simp[toE]
theorem toE_get {n:Nat} {e:Env} {i:Nat} (h:i<n):(toE n e)[i]? = some (e.get i):=by simp[toE,h]
theorem ev_toE (n:Nat) (e:Env):ev (toE n e)=evE n e:=by
 funext x
 cases x with
 | tmp i=>
  simp only[ev,evE]
  by_cases h:i<n
  ·rw[if_pos h,List.getD,toE_get h]; rfl
  ·rw[if_neg h,List.getD,List.getElem?_eq_none (by rw[toE_length]; omega)]; rfl
 | const v=>rfl
 | fn f=>rfl
theorem toE_put (n:Nat) (e:Env) (d:Option Nat) (v:AVal):put (toE n e) d v=toE n (putE e d v):=by
 cases d with
 | none=>rfl
 | some d=>
  simp only[put,putE]
  apply List.ext_getElem?
  intro i
  rw[List.getElem?_set]
  by_cases hi:i<n
  ·rw[toE_get hi,toE_get hi]
   simp only[Env.get]
   by_cases h:d=i
   ·rw[if_pos h,if_pos (by rw[toE_length]; omega),if_pos h.symm]
   ·rw[if_neg h,if_neg (fun e=>h e.symm)]
  ·rw[List.getElem?_eq_none (by rw[toE_length]; omega),List.getElem?_eq_none (by rw[toE_length]; omega)]
   by_cases h:d=i
   ·rw[if_pos h,if_neg (by rw[toE_length]; omega)]
   ·rw[if_neg h]
def wantedE (n:Nat) (e:Env):Option (Nat×Bool)→Option Bool
 | none=>some true
 | some (d,w)=>match evE n e (.tmp d)with
  | .bool b=>some (b == w)
  | .tuple []=>some false
  | _=>none
theorem wantedE_eq (n:Nat) (e:Env) (g:Option (Nat×Bool)):wantedA (toE n e) g=wantedE n e g:=by
 cases g with
 | none=>rfl
 | some p=>
  obtain⟨d,w⟩:=p
  have h:(toE n e).getD d aundef=evE n e (.tmp d):=congrFun (ev_toE n e) (.tmp d)
  simp only[wantedA,wantedE,h]
  rfl
def calleeE (n:Nat) (e:Env) (f:AOpd) (xs:List AOpd):Option (FuncId×List AVal):=
 match evE n e f with
 | .func (.func g) first cap=>some (g,first++xs.map (evE n e)++cap)
 | _=>none
theorem calleeE_eq (n:Nat) (e:Env) (f:AOpd) (xs:List AOpd):callee (toE n e) f xs=calleeE n e f xs:=by
 simp only[callee,calleeE,ev_toE]
 rfl
def SC (P:Program) (g:FuncId) (args:List AVal) (m:SMem) (id:Nat) (K:AVal→SMem→Prop):Prop:=
 ACalls P g args m.mem [id] fun v m''=>∃ m',m''=m'.mem∧K v m'
def PCall (P:Program) (g:FuncId) (args:List AVal) (v:AVal):Prop:=∀ (m:Mem) (av:List Nat),ACalls P g args m av fun r m'=>r=v∧m'=m
theorem SC_pure {P:Program} {g:FuncId} {args:List AVal} {m:SMem} {id:Nat} {v:AVal} {K:AVal→SMem→Prop} (h:PCall P g args v) (hK:K v m):SC P g args m id K:=
 (h m.mem [id]).mono fun r m' hr=>by obtain⟨rfl,rfl⟩:=hr; exact⟨m,rfl,hK⟩
def sops (P:Program) (n base:Nat):List AOper→Nat→(Env→SMem→Prop)→Env→SMem→Prop
 | [],_,K,e,m=>K e m
 | o :: r,i,K,e,m=>
  match wantedE n e o.guard with
  | some false=>sops P n base r (i+1) K (putE e o.dst aundef) m
  | some true=>
   match o.op with
   | .call f xs=>match calleeE n e f xs with
    | some (g,args)=>SC P g args m (base+i) fun v m'=>sops P n base r (i+1) K (putE e o.dst v) m'
    | none=>False
   | op=>match stepD (base+i) (evE n e) m.get op with
    | some (v,d)=>sops P n base r (i+1) K (putE e o.dst v) (m.app d)
    | none=>False
  | none=>False
def upX:Nat→Nat→List Nat
 | 0,_=>[]
 | k+1,s=>s :: upX k (s+1)
def xOf (base i n:Nat):List Nat:=upX i base++upX n (base+i+1)
theorem mem_upX:∀ {k s c:Nat},c∈upX k s→s≤c∧c<s+k
 | 0,_,_,h=>by simp[upX]at h
 | k+1,s,c,h=>by
  simp only[upX,List.mem_cons]at h
  rcases h with rfl|h
  ·omega
  ·have:=mem_upX h; omega
theorem own_xOf (base i n:Nat):base+i∉xOf base i n:=by
 intro h
 rcases List.mem_append.1 h with h|h
 ·have:=mem_upX h; omega
 ·have:=mem_upX h; omega
def PCallX (P:Program) (g:FuncId) (args:List AVal) (v:AVal) (id:Nat) (x:List Nat) (m:Mem):Prop:=ACalls P g args (m.less x) [id] fun r m'=>r=v∧m'=m.less x
theorem PCall.x {P:Program} {g:FuncId} {args:List AVal} {v:AVal} (h:PCall P g args v) (id:Nat) (x:List Nat) (m:Mem):PCallX P g args v id x m:=h _ _
def sdops (P:Program) (n base:Nat):List AOper→List FT→(Env→SMem→Prop)→Env→SMem→Prop
 | [],_,K,e,m=>K e m
 | o :: r,fs,K,e,m=>
  match wantedE n e o.guard with
  | some false=>sdops P n base r (fs++[.ops [] []]) K (putE e o.dst aundef) m
  | some true=>
   match o.op with
   | .call f xs=>match calleeE n e f xs with
    | some (g,args)=>∃ v,PCallX P g args v (base+fs.length) (xOf base fs.length r.length) m.mem∧indepL fs (.call [] (xOf base fs.length r.length) m.next) o.un∧sdops P n base r (fs++[.call [] (xOf base fs.length r.length) m.next]) K (putE e o.dst v) m
    | none=>False
   | op=>match stepD (base+fs.length) (evE n e) m.get op with
    | some (v,d)=>indepL fs (.ops (footWD (base+fs.length) (evE n e) op) (footRD (evE n e) op)) o.un∧sdops P n base r (fs++[.ops (footWD (base+fs.length) (evE n e) op) (footRD (evE n e) op)]) K (putE e o.dst v) (m.app d)
    | none=>False
  | none=>False
def SubE:Env→Env→Prop
 | [],_=>True
 | (i,v) :: r,e=>e.get i=v∧SubE r e
def BSub:ABlk→ABlk→Prop
 | .cells k els,.cells k' els'=>k=k'∧els.length=els'.length ∧ ∀(i:Nat) (row row':List AVal),els[i]? = some row→els'[i]? = some row'→row.length=row'.length ∧ ∀(j:Nat) (x:AVal),row[j]? = some x→x=AVal.bot∨row'[j]? = some x
 | x,y=>x=y
theorem BR.bsub {Φ:Pers} {ρ:Rho} {x y:ABlk} {l:Loc} {o:Obj} (hs:BSub x y) (h:BR Φ ρ y l o):BR Φ ρ x l o:=by
 cases x with
 | cells k els=>
  cases y with
  | cells k' els'=>
   obtain⟨rfl,hl,hrow⟩:=hs
   cases h with
   | cells k els' l c e hk hn hll hr h1=>
    have hget:∀ (i:Nat) (row:List AVal),els[i]? = some row → ∃ row',els'[i]? = some row'∧row.length=row'.length ∧ ∀(j:Nat) (x:AVal),row[j]? = some x→x=AVal.bot∨row'[j]? = some x:=by
     intro i row hi
     have hi':i<els'.length:=by rw[← hl]; exact(List.getElem?_eq_some_iff.1 hi).1
     exact⟨els'[i],List.getElem?_eq_getElem hi',hrow i row _ hi (List.getElem?_eq_getElem hi')⟩
    refine .cells k els l c e hk hn (by omega) ⟨fun i row hi=>?_,fun i row j x hi hj=>?_⟩ h1
    ·obtain⟨row',g1,g2,g3⟩:=hget i row hi
     rw[g2]; exact hr.1 i row' g1
    ·obtain⟨row',g1,g2,g3⟩:=hget i row hi
     have hj':j<row'.length:=by rw[← g2]; exact(List.getElem?_eq_some_iff.1 hj).1
     obtain⟨v,k1,k2,k3⟩:=hr.2 i row' j _ g1 (List.getElem?_eq_getElem hj')
     refine⟨v,k1,k2,?_⟩
     rcases g3 j x hj with rfl|g
     ·exact .bot v
     ·rw[List.getElem?_eq_getElem hj']at g
      injection g with g
      rw[← g]; exact k3
  | _=>cases hs
 | _=>cases y<;>first|(cases hs; done)|(cases hs; exact h)
theorem Rel.bsub {W:Base} {Φ:Pers} {ρ:Rho} {m m':Mem} {w:World} (h:Rel W Φ ρ m w) (hn:m.next≤m'.next) (hg:∀ b x,m'.get b=some x→m.get b=some x ∨ ∃ y,m.get b=some y∧BSub x y):Rel W Φ ρ m' w:=by
 have hex:∀ b x,m'.get b=some x → ∃ y,m.get b=some y:=fun b x hx=>(hg b x hx).elim (fun g=>⟨_,g⟩) fun⟨y,g,_⟩=>⟨y,g⟩
 refine⟨h.base,h.pers,fun b x hx=>?_,fun b b' x x' l l' h1 h2=>?_,fun b l hb=>Nat.lt_of_lt_of_le (h.fresh b l hb) hn,h.newp⟩
 ·rcases hg b x hx with g|⟨y,g,hs⟩
  ·exact h.live b x g
  ·obtain⟨l,o,g1,g2,g3,g4,g5⟩:=h.live b y g
   exact⟨l,o,g1,g2,g3,g4,g5.bsub hs⟩
 ·obtain⟨y,hy⟩:=hex b x h1
  obtain⟨y',hy'⟩:=hex b' x' h2
  exact h.inj b b' y y' l l' hy hy'
def SubB:List (Nat×ABlk)→SMem→Prop
 | [],_=>True
 | (b,x) :: r,m=>(m.get b=some x ∨ ∃ y,m.get b=some y∧BSub x y)∧SubB r m
def SubS (e0:Env) (m0:SMem) (e:Env) (m:SMem):Prop:=SubE e0 e∧SubB m0.bl m∧m.next≤m0.next
theorem SubE.get:∀ {e0 e:Env},SubE e0 e → ∀ i,e0.get i=.bot∨e0.get i=e.get i
 | [],_,_,i=>.inl rfl
 | (j,v) :: r,e,h,i=>by
  simp only[Env.get]
  by_cases hij:i=j
  ·subst hij; rw[if_pos rfl]; exact .inr h.1.symm
  ·rw[if_neg hij]; exact h.2.get i
theorem SubB.get:∀ {l:List (Nat×ABlk)} {m:SMem},SubB l m → ∀ b x,lookB l b=some x→m.get b=some x ∨ ∃ y,m.get b=some y∧BSub x y
 | [],_,_,b,x,h=>by simp[lookB]at h
 | (c,y) :: r,m,hs,b,x,h=>by
  simp only[lookB]at h
  split at h
  ·rename_i hb; subst hb; injection h with h; subst h; exact hs.1
  ·exact hs.2.get b x h
def thenS (next:Env→SMem→Prop) (Q:Exit→Env→SMem→Prop):Exit→Env→SMem→Prop
 | .normal,e,m=>next e m
 | x,e,m=>Q x e m
def blockS (id:Nat) (Q:Exit→Env→SMem→Prop):Exit→Env→SMem→Prop
 | .exit id',e,m=>if id'=id then Q .normal e m else Q (.exit id') e m
 | x,e,m=>Q x e m
def wpS (P:Program) (n:Nat):ACode→(Exit→Env→SMem→Prop)→Env→SMem→Prop
 | .skip,Q,e,m=>Q .normal e m
 | .region false ops,Q,e,m=>sops P n m.next ops 0 (Q .normal) e (m.at (m.next+ops.length))
 | .region true ops,Q,e,m=>sdops P n m.next ops [] (Q .normal) e (m.at (m.next+ops.length))
 | .seq a b,Q,e,m=>wpS P n a (thenS (wpS P n b Q) Q) e m
 | .cond c a b,Q,e,m=>match evE n e c with
  | .bool true=>wpS P n a Q e m
  | .bool false=>wpS P n b Q e m
  | _=>False
 | .block id c,Q,e,m=>wpS P n c (blockS id Q) e m
 | .loop c,Q,e,m=>∃ (I:Nat→Env→SMem→Prop),(∃ k e0 m0,SubS e0 m0 e m∧I k e0 m0) ∧ ∀ k e1 m1,I k e1 m1→wpS P n c (thenS (fun e' m'=>∃ j e0 m0,j<k∧SubS e0 m0 e' m'∧I j e0 m0) Q) e1 m1
 | .exit id,Q,e,m=>Q (.exit id) e m
 | .scope c,Q,e,m=>wpS P n c Q e m
 | .label _,Q,e,m=>Q .normal e m
 | .ret,Q,e,m=>Q .ret e m
 | .bad,_,_,_=>False
def liftS (n:Nat) (Q:Exit→Env→SMem→Prop):Exit→ASt→Prop
 | .goto _,_=>False
 | x,σ=>∃ e m,σ=⟨toE n e,m.mem⟩∧Q x e m
section
variable {P:Program} {n:Nat}
theorem sops_sound {base:Nat} {K:Env→SMem→Prop}:∀ (ops:List AOper) (i:Nat) (e:Env) (m:SMem),sops P n base ops i K e m→wops P base ops i (fun σ=>∃ e m,σ=⟨toE n e,m.mem⟩∧K e m) (toE n e) m.mem
 | [],_,e,m,h=>⟨e,m,rfl,h⟩
 | o :: r,i,e,m,h=>by
  simp only[sops]at h
  simp only[wops,wantedE_eq]
  cases hw:wantedE n e o.guard with
  | none=>simp[hw]at h
  | some q=>
   cases q with
   | false=>
    simp only[hw]at h
    simp only[toE_put]
    exact sops_sound r (i+1) _ m h
   | true=>
    simp only[hw]at h
    simp only
    have other:∀ op,o.op=op→(match stepD (base+i) (evE n e) m.get op with|some (v,d)=>sops P n base r (i+1) K (putE e o.dst v) (m.app d)|none=>False) →
     (match stepA (base+i) (toE n e) m.mem op with|some (v,m')=>wops P base r (i+1) (fun σ=>∃ e m,σ=⟨toE n e,m.mem⟩∧K e m) (put (toE n e) o.dst v) m'|none=>False):=by
     intro op _ hh
     cases hs:stepD (base+i) (evE n e) m.get op with
     | none=>simp[hs]at hh
     | some vd=>
      obtain⟨v,d⟩:=vd
      simp only[hs]at hh
      have:=stepD_ok (m:=m.mem) (t:=toE n e) (id:=base+i) (op:=op) (v:=v) (d:=d) (by rw[ev_toE]; exact hs)
      rw[this]
      simp only[toE_put]
      rw[← SMem.app_mem]
      exact sops_sound r (i+1) _ _ hh
    cases hop:o.op with
    | call f xs=>
     simp only[hop]at h
     simp only[calleeE_eq]
     cases hc:calleeE n e f xs with
     | none=>simp[hc]at h
     | some ga=>
      obtain⟨g,args⟩:=ga
      simp only[hc]at h
      simp only
      refine h.mono fun v m'' hh=>?_
      obtain⟨m',rfl,hk⟩:=hh
      simp only[toE_put]
      exact sops_sound r (i+1) _ m' hk
    | _=>rw[hop]at h; exact other _ hop h
theorem callAt_pure {g:FuncId} {args:List AVal} {v:AVal} (id:Nat) (x:List Nat) (hx:id∉x) (m:Mem) (h:PCallX P g args v id x m):CallAt P g args id x m v m []:=by
 refine⟨m.less x,hx,fun c hc=>by simp[Mem.less,hc],Nat.le_refl _,rfl,fun c=>?_,fun c _ _ hc=>by simp[Mem.less,hc],h⟩
 by_cases hc:c∈x
 ·rw[if_pos hc]
 ·rw[if_neg hc]; simp[Mem.less,hc]
def argE (k:Nat):List AVal→Env→Env
 | [],e=>e
 | x :: r,e=>(k,x) :: argE (k+1) r e
theorem argE_get:∀ (args:List AVal) (k i:Nat) (e:Env),(argE k args e).get i=if k≤i∧i<k+args.length then args.getD (i - k) .bot else e.get i
 | [],k,i,e=>by
  have:¬(k≤i∧i<k+([]:List AVal).length):=by simp
  rw[if_neg this]; rfl
 | x :: r,k,i,e=>by
  simp only[argE,Env.get]
  by_cases h:i=k
  ·subst h
   rw[if_pos rfl,if_pos (by simp),Nat.sub_self]
   rfl
  ·rw[if_neg h,argE_get r (k+1) i e]
   by_cases h2:k+1≤i∧i<k+1+r.length
   ·rw[if_pos h2,if_pos (by simp; omega)]
    have:i - k=(i - (k+1))+1:=by omega
    rw[this]
    rfl
   ·rw[if_neg h2,if_neg (by simp; omega)]
def retS (n:Nat) (rs:List (Nat×Option (Option Nat))) (K:AVal→SMem→Prop):Exit→Env→SMem→Prop
 | .normal,e,m=>match rs with
  | [(i,none)]=>K (evE n e (.tmp i)) m
  | [(i,none),(j,none)]=>K (.tuple [evE n e (.tmp i),evE n e (.tmp j)]) m
  | []=>K (.tuple []) m
  | _=>False
 | .ret,e,m=>match rs with
  | [(i,none)]=>K (evE n e (.tmp i)) m
  | [(i,none),(j,none)]=>K (.tuple [evE n e (.tmp i),evE n e (.tmp j)]) m
  | []=>K (.tuple []) m
  | _=>False
 | _,_,_=>False
end
end Go.AE
end
section
namespace Go.AE
open Go.RowKit
variable {P:Program}
theorem scalar_freeze (get:Nat→Option ABlk):∀ (n:Nat) (v:AVal),(match v with | .int _ _ | .bool _ | .str _=>True|_=>False)→freezeV get (n+1) v=some v:=by
 intro n v h
 cases v<;>first|exact h.elim|rfl
section
variable {n:Nat} {Q:Exit→Env→SMem→Prop} {e:Env} {m:SMem}
theorem wS_skip:wpS P n .skip Q e m=Q .normal e m:=propext Iff.rfl
theorem wS_region (ops:List AOper):wpS P n (.region false ops) Q e m=sops P n m.next ops 0 (Q .normal) e (m.at (m.next+ops.length)):=propext Iff.rfl
theorem wS_dregion (ops:List AOper):wpS P n (.region true ops) Q e m=sdops P n m.next ops [] (Q .normal) e (m.at (m.next+ops.length)):=propext Iff.rfl
theorem wS_seq (a b:ACode):wpS P n (.seq a b) Q e m=wpS P n a (thenS (wpS P n b Q) Q) e m:=propext Iff.rfl
theorem wS_cond (c:AOpd) (a b:ACode):wpS P n (.cond c a b) Q e m=match evE n e c with
 | .bool true=>wpS P n a Q e m
 | .bool false=>wpS P n b Q e m
 | _=>False:=propext Iff.rfl
theorem wS_block (i:Nat) (c:ACode):wpS P n (.block i c) Q e m=wpS P n c (blockS i Q) e m:=propext Iff.rfl
theorem wS_exit (i:Nat):wpS P n (.exit i) Q e m=Q (.exit i) e m:=propext Iff.rfl
theorem wS_ret:wpS P n .ret Q e m=Q .ret e m:=propext Iff.rfl
theorem thenS_normal (N:Env→SMem→Prop):thenS N Q .normal e m=N e m:=propext Iff.rfl
theorem thenS_ret (N:Env→SMem→Prop):thenS N Q .ret e m=Q .ret e m:=propext Iff.rfl
theorem thenS_exit (N:Env→SMem→Prop) (i:Nat):thenS N Q (.exit i) e m=Q (.exit i) e m:=propext Iff.rfl
theorem blockS_normal (i:Nat):blockS i Q .normal e m=Q .normal e m:=propext Iff.rfl
theorem blockS_ret (i:Nat):blockS i Q .ret e m=Q .ret e m:=propext Iff.rfl
theorem blockS_exit (i j:Nat):blockS i Q (.exit j) e m=if j=i then Q .normal e m else Q (.exit j) e m:=propext Iff.rfl
theorem sops_nil {base i:Nat} {K:Env→SMem→Prop}:sops P n base [] i K e m=K e m:=propext Iff.rfl
theorem sops_cons {base i:Nat} {K:Env→SMem→Prop} (o:AOper) (r:List AOper):sops P n base (o :: r) i K e m =
 match wantedE n e o.guard with
 | some false=>sops P n base r (i+1) K (putE e o.dst aundef) m
 | some true=>
  match o.op with
  | .call f xs=>match calleeE n e f xs with
   | some (g,args)=>SC P g args m (base+i) fun v m'=>sops P n base r (i+1) K (putE e o.dst v) m'
   | none=>False
  | op=>match stepD (base+i) (evE n e) m.get op with
   | some (v,d)=>sops P n base r (i+1) K (putE e o.dst v) (m.app d)
   | none=>False
 | none=>False:=propext Iff.rfl
theorem sdops_nil {base:Nat} {fs:List FT} {K:Env→SMem→Prop}:sdops P n base [] fs K e m=K e m:=propext Iff.rfl
theorem sdops_cons {base:Nat} {fs:List FT} {K:Env→SMem→Prop} (o:AOper) (r:List AOper):sdops P n base (o :: r) fs K e m =
 match wantedE n e o.guard with
 | some false=>sdops P n base r (fs++[.ops [] []]) K (putE e o.dst aundef) m
 | some true=>
  match o.op with
  | .call f xs=>match calleeE n e f xs with
   | some (g,args)=>∃ v,PCallX P g args v (base+fs.length) (xOf base fs.length r.length) m.mem∧indepL fs (.call [] (xOf base fs.length r.length) m.next) o.un∧sdops P n base r (fs++[.call [] (xOf base fs.length r.length) m.next]) K (putE e o.dst v) m
   | none=>False
  | op=>match stepD (base+fs.length) (evE n e) m.get op with
   | some (v,d)=>indepL fs (.ops (footWD (base+fs.length) (evE n e) op) (footRD (evE n e) op)) o.un∧sdops P n base r (fs++[.ops (footWD (base+fs.length) (evE n e) op) (footRD (evE n e) op)]) K (putE e o.dst v) (m.app d)
   | none=>False
 | none=>False:=propext Iff.rfl
def Next {α:Type} (E:α→Env) (M:α→SMem) (μ:α→Nat) (Inv:α→Prop) (a:α) (e':Env) (m':SMem):Prop:=∃ a',μ a'<μ a∧Inv a'∧SubS (E a') (M a') e' m'
end
@[congr] theorem SC_congr {g : FuncId} {args args' : List AVal} {m : SMem} {id : Nat} {K : AVal → SMem → Prop} (h : args = args') : SC P g args m id K = SC P g args' m id K := by rw [h]
@[congr] theorem Next_congr {α : Type} {E : α → Env} {M : α → SMem} {μ : α → Nat} {Inv : α → Prop} {a : α} {e e' : Env} {m m' : SMem} (h : e = e') (h' : m = m') : Next E M μ Inv a e m = Next E M μ Inv a e' m' := by rw [h, h']
@[congr] theorem thenS_congr {N : Env → SMem → Prop} {Q : Exit → Env → SMem → Prop} {x x' : Exit} {e e' : Env} {m m' : SMem} (hx : x = x') (h : e = e') (h' : m = m') : thenS N Q x e m = thenS N Q x' e' m' := by rw [hx, h, h']
@[congr] theorem blockS_congr {i : Nat} {Q : Exit → Env → SMem → Prop} {x x' : Exit} {e e' : Env} {m m' : SMem} (hx : x = x') (h : e = e') (h' : m = m') : blockS i Q x e m = blockS i Q x' e' m' := by rw [hx, h, h']
@[congr] theorem wpS_congr {n : Nat} {c : ACode} {Q : Exit → Env → SMem → Prop} {e e' : Env} {m m' : SMem} (h : e = e') (h' : m = m') : wpS P n c Q e m = wpS P n c Q e' m' := by rw [h, h']
@[congr] theorem sops_congr {n base base' i i' : Nat} {ops : List AOper} {K : Env → SMem → Prop} {e e' : Env} {m m' : SMem} (hb : base = base') (hi : i = i') (h : e = e') (h' : m = m') : sops P n base ops i K e m = sops P n base' ops i' K e' m' := by rw [hb, hi, h, h']
@[congr] theorem sdops_congr {n base base' : Nat} {fs fs' : List FT} {ops : List AOper} {K : Env → SMem → Prop} {e e' : Env} {m m' : SMem} (hb : base = base') (hi : fs = fs') (h : e = e') (h' : m = m') : sdops P n base ops fs K e m = sdops P n base' ops fs' K e' m' := by rw [hb, hi, h, h']
end Go.AE
end
section
namespace Go.AE
open Go.RowKit
mutual
def AVal.ren (p:Nat→Nat):AVal→AVal
 | .ptr b i j=>.ptr (p b) i j
 | .iptr els i j=>.iptr (renLL p els) i j
 | .sl b off len=>.sl (p b) off len
 | .imm els=>.imm (renLL p els)
 | .map b=>.map (p b)
 | .func fn f c=>.func fn (renL p f) (renL p c)
 | .yld b=>.yld (p b)
 | .iface t v=>.iface t (v.ren p)
 | .agg cs=>.agg (renL p cs)
 | .tuple cs=>.tuple (renL p cs)
 | .bool b=>.bool b
 | .int k n=>.int k n
 | .str s=>.str s
 | .nilPtr=>.nilPtr
 | .nilSl=>.nilSl
 | .emp=>.emp
 | .nilMap=>.nilMap
 | .nilFunc=>.nilFunc
 | .atLeast n=>.atLeast n
 | .nilIface=>.nilIface
 | .bot=>.bot
def renL (p:Nat→Nat):List AVal→List AVal
 | []=>[]
 | x :: r=>x.ren p :: renL p r
def renLL (p:Nat→Nat):List (List AVal)→List (List AVal)
 | []=>[]
 | x :: r=>renL p x :: renLL p r
end
theorem renL_map (p:Nat→Nat):∀ (l:List AVal),renL p l=l.map (·.ren p)
 | []=>rfl
 | x :: r=>by simp only[renL,List.map_cons,renL_map p r]
theorem renLL_map (p:Nat→Nat):∀ (l:List (List AVal)),renLL p l=l.map (renL p)
 | []=>rfl
 | x :: r=>by simp only[renLL,List.map_cons,renLL_map p r]
theorem renL_length (p:Nat→Nat) (l:List AVal):(renL p l).length=l.length:=by rw[renL_map,List.length_map]
theorem renLL_length (p:Nat→Nat) (l:List (List AVal)):(renLL p l).length=l.length:=by rw[renLL_map,List.length_map]
theorem renL_get {p:Nat→Nat} {l:List AVal} {i:Nat} {y:AVal}:(renL p l)[i]? = some y ↔ ∃ x,l[i]? = some x∧y=x.ren p:=by
 rw[renL_map,List.getElem?_map]
 grind
theorem renLL_get {p:Nat→Nat} {l:List (List AVal)} {i:Nat} {y:List AVal}:(renLL p l)[i]? = some y ↔ ∃ x,l[i]? = some x∧y=renL p x:=by
 rw[renLL_map,List.getElem?_map]
 grind
mutual
theorem AVal.ren_closed (p:Nat→Nat):∀ (x:AVal),x.closed=true→x.ren p=x
 | .bool _,_ | .int _ _,_ | .str _,_ | .nilPtr,_ | .nilSl,_ | .emp,_ | .nilMap,_ | .nilFunc,_ | .nilIface,_ | .bot,_=>rfl
 | .imm els,h=>by rw[AVal.ren,renLL_closed p els h]
 | .agg cs,h=>by rw[AVal.ren,renL_closed p cs h]
 | .tuple cs,h=>by rw[AVal.ren,renL_closed p cs h]
 | .func _ a b,h=>by
  simp only[AVal.closed,Bool.and_eq_true]at h
  rw[AVal.ren,renL_closed p a h.1,renL_closed p b h.2]
 | .iptr els _ _,h=>by rw[AVal.ren,renLL_closed p els h]
 | .ptr ..,h | .sl ..,h | .map ..,h | .yld ..,h | .atLeast ..,h | .iface ..,h=>by cases h
theorem renL_closed (p:Nat→Nat):∀ (l:List AVal),closedL l=true→renL p l=l
 | [],_=>rfl
 | x :: r,h=>by
  simp only[closedL,Bool.and_eq_true]at h
  rw[renL,AVal.ren_closed p x h.1,renL_closed p r h.2]
theorem renLL_closed (p:Nat→Nat):∀ (l:List (List AVal)),closedLL l=true→renLL p l=l
 | [],_=>rfl
 | x :: r,h=>by
  simp only[closedLL,Bool.and_eq_true]at h
  rw[renLL,renL_closed p x h.1,renLL_closed p r h.2]
end
theorem R.ren {Φ:Pers} {ρ ρ':Rho} {p:Nat→Nat} (hp:∀ b l,ρ b=some l→ρ' (p b)=some l) {x:AVal} {v:Value} (h:R Φ ρ x v):R Φ ρ' (x.ren p) v:=by
 induction h with
 | bool b=>exact .bool b
 | int k n=>exact .int k n
 | str s=>exact .str s
 | ptr b i j l h=>exact .ptr _ i j l (hp _ _ h)
 | iptr els i j B o k c f hB hk hc _ ih=>
  refine .iptr _ i j B o k c f hB (fun i row hi=>?_) (fun i row j x hi hj=>?_) (fun i row j x hi hj=>?_)
  ·obtain⟨r0,h1,rfl⟩:=renLL_get.1 hi
   rw[renL_length]; exact hk i r0 h1
  ·obtain⟨r0,h1,rfl⟩:=renLL_get.1 hi
   obtain⟨x0,h2,rfl⟩:=renL_get.1 hj
   grind
  ·obtain⟨r0,h1,rfl⟩:=renLL_get.1 hi
   obtain⟨x0,h2,rfl⟩:=renL_get.1 hj
   grind
 | nilPtr=>exact .nilPtr
 | nilSl=>exact .nilSl
 | emp a=>exact .emp a
 | sl b off len a cap l h hl hn hc ha=>exact .sl _ off len a cap l (hp _ _ h) hl hn hc ha
 | imm0 a cap h=>exact .imm0 a cap h
 | imm els B o k cap c f hne hcap hB hk hc _ ih=>
  have e:=renLL_length p els
  rw[← e]
  refine .imm _ B o k cap c f (fun h0=>hne ?_) (by rw[e]; exact hcap) hB (fun i row hi=>?_) (fun i row j x hi hj=>?_) (fun i row j x hi hj=>?_)
  ·grind
  ·obtain⟨r0,h1,rfl⟩:=renLL_get.1 hi
   rw[renL_length]; exact hk i r0 h1
  ·obtain⟨r0,h1,rfl⟩:=renLL_get.1 hi
   obtain⟨x0,h2,rfl⟩:=renL_get.1 hj
   grind
  ·obtain⟨r0,h1,rfl⟩:=renLL_get.1 hi
   obtain⟨x0,h2,rfl⟩:=renL_get.1 hj
   grind
 | map b l h=>exact .map _ l (hp _ _ h)
 | nilMap=>exact .nilMap
 | func fn fs cs vf vc hf hc _ _ ih1 ih2=>
  refine .func fn _ _ vf vc (by rw[renL_length]; exact hf) (by rw[renL_length]; exact hc) (fun i x v hx hv=>?_) (fun i x v hx hv=>?_)
  ·obtain⟨x0,h2,rfl⟩:=renL_get.1 hx
   grind
  ·obtain⟨x0,h2,rfl⟩:=renL_get.1 hx
   grind
 | nilFunc=>exact .nilFunc
 | yld b l h=>exact .yld _ l (hp _ _ h)
 | atLeast n c h=>exact .atLeast n c h
 | iface t x v _ ih=>exact .iface t _ v ih
 | nilIface=>exact .nilIface
 | agg cs vs hs _ ih=>
  refine .agg _ vs (by rw[renL_length]; exact hs) (fun i x v hx hv=>?_)
  obtain⟨x0,h2,rfl⟩:=renL_get.1 hx
  grind
 | tuple cs vs hs _ ih=>
  refine .tuple _ vs (by rw[renL_length]; exact hs) (fun i x v hx hv=>?_)
  obtain⟨x0,h2,rfl⟩:=renL_get.1 hx
  grind
 | bot v=>exact .bot v
theorem R.unren {Φ:Pers} {ρ ρ':Rho} {q:Nat→Nat} (hq:∀ b l,ρ (q b)=some l→ρ' b=some l) {y:AVal} {v:Value} (h:R Φ ρ y v):∀ x:AVal,y=x.ren q→R Φ ρ' x v:=by
 induction h with
 | bool b=>intro x hx; cases x<;>simp only[AVal.ren,reduceCtorEq,AVal.bool.injEq]at hx; subst hx; exact .bool _
 | int k n=>intro x hx; cases x<;>simp only[AVal.ren,reduceCtorEq,AVal.int.injEq]at hx; obtain⟨rfl,rfl⟩:=hx; exact .int _ _
 | str s=>intro x hx; cases x<;>simp only[AVal.ren,reduceCtorEq,AVal.str.injEq]at hx; subst hx; exact .str _
 | ptr b i j l h=>intro x hx; cases x<;>simp only[AVal.ren,reduceCtorEq,AVal.ptr.injEq]at hx; obtain⟨rfl,rfl,rfl⟩:=hx; exact .ptr _ _ _ l (hq _ _ h)
 | iptr els i j B o k c f hB hk hc _ ih=>
  intro x hx; cases x<;>simp only[AVal.ren,reduceCtorEq,AVal.iptr.injEq]at hx; obtain⟨rfl,rfl,rfl⟩:=hx
  exact .iptr _ _ _ B o k c f hB (fun i row hi=>by have:=hk i _ (renLL_get.2 ⟨row,hi,rfl⟩); rwa[renL_length]at this) (fun i row j x hi hj=>hc i _ j _ (renLL_get.2 ⟨row,hi,rfl⟩) (renL_get.2 ⟨x,hj,rfl⟩))
   (fun i row j x hi hj=>ih i _ j _ (renLL_get.2 ⟨row,hi,rfl⟩) (renL_get.2 ⟨x,hj,rfl⟩) x rfl)
 | nilPtr=>intro x hx; cases x<;>simp only[AVal.ren,reduceCtorEq]at hx; exact .nilPtr
 | nilSl=>intro x hx; cases x<;>simp only[AVal.ren,reduceCtorEq]at hx; exact .nilSl
 | emp a=>intro x hx; cases x<;>simp only[AVal.ren,reduceCtorEq]at hx; exact .emp a
 | sl b off len a cap l h hl hn hc ha=>intro x hx; cases x<;>simp only[AVal.ren,reduceCtorEq,AVal.sl.injEq]at hx; obtain⟨rfl,rfl,rfl⟩:=hx; exact .sl _ _ _ a cap l (hq _ _ h) hl hn hc ha
 | imm0 a cap hz=>
  intro x hx; cases x<;>simp only[AVal.ren,reduceCtorEq,AVal.imm.injEq]at hx
  rename_i els
  have e:=renLL_length q els
  rw[← hx]at e
  have:els=[]:=by grind
  subst this
  exact .imm0 a cap hz
 | imm els B o k cap c f hne hcap hB hk hc _ ih=>
  intro x hx; cases x<;>simp only[AVal.ren,reduceCtorEq,AVal.imm.injEq]at hx
  rename_i els0
  subst hx
  rw[renLL_length]at hcap ⊢
  exact .imm _ B o k cap c f (fun h0=>hne (by rw[h0]; rfl)) hcap hB (fun i row hi=>by have:=hk i _ (renLL_get.2 ⟨row,hi,rfl⟩); rwa[renL_length]at this) (fun i row j x hi hj=>hc i _ j _ (renLL_get.2 ⟨row,hi,rfl⟩) (renL_get.2 ⟨x,hj,rfl⟩))
   (fun i row j x hi hj=>ih i _ j _ (renLL_get.2 ⟨row,hi,rfl⟩) (renL_get.2 ⟨x,hj,rfl⟩) x rfl)
 | map b l h=>intro x hx; cases x<;>simp only[AVal.ren,reduceCtorEq,AVal.map.injEq]at hx; subst hx; exact .map _ l (hq _ _ h)
 | nilMap=>intro x hx; cases x<;>simp only[AVal.ren,reduceCtorEq]at hx; exact .nilMap
 | func fn fs cs vf vc hf hc _ _ ih1 ih2=>
  intro x hx; cases x<;>simp only[AVal.ren,reduceCtorEq,AVal.func.injEq]at hx; obtain⟨rfl,rfl,rfl⟩:=hx
  rw[renL_length]at hf hc
  exact .func _ _ _ vf vc hf hc (fun i x v hx hv=>ih1 i _ v (renL_get.2 ⟨x,hx,rfl⟩) hv x rfl) (fun i x v hx hv=>ih2 i _ v (renL_get.2 ⟨x,hx,rfl⟩) hv x rfl)
 | nilFunc=>intro x hx; cases x<;>simp only[AVal.ren,reduceCtorEq]at hx; exact .nilFunc
 | yld b l h=>intro x hx; cases x<;>simp only[AVal.ren,reduceCtorEq,AVal.yld.injEq]at hx; subst hx; exact .yld _ l (hq _ _ h)
 | atLeast n c h=>intro x hx; cases x<;>simp only[AVal.ren,reduceCtorEq,AVal.atLeast.injEq]at hx; subst hx; exact .atLeast _ c h
 | iface t x v _ ih=>intro x hx; cases x<;>simp only[AVal.ren,reduceCtorEq,AVal.iface.injEq]at hx; obtain⟨rfl,rfl⟩:=hx; exact .iface _ _ v (ih _ rfl)
 | nilIface=>intro x hx; cases x<;>simp only[AVal.ren,reduceCtorEq]at hx; exact .nilIface
 | agg cs vs hs _ ih=>
  intro x hx; cases x<;>simp only[AVal.ren,reduceCtorEq,AVal.agg.injEq]at hx; subst hx
  rw[renL_length]at hs
  exact .agg _ vs hs (fun i x v hx hv=>ih i _ v (renL_get.2 ⟨x,hx,rfl⟩) hv x rfl)
 | tuple cs vs hs _ ih=>
  intro x hx; cases x<;>simp only[AVal.ren,reduceCtorEq,AVal.tuple.injEq]at hx; subst hx
  rw[renL_length]at hs
  exact .tuple _ vs hs (fun i x v hx hv=>ih i _ v (renL_get.2 ⟨x,hx,rfl⟩) hv x rfl)
 | bot v=>intro x hx; cases x<;>simp only[AVal.ren,reduceCtorEq]at hx; exact .bot v
def renM (p:Nat→Nat) (es:List (AVal×AVal×Nat)):List (AVal×AVal×Nat):=es.map fun x=>(x.1.ren p,x.2.1.ren p,x.2.2)
def ABlk.ren (p:Nat→Nat):ABlk→ABlk
 | .cells k els=>.cells k (renLL p els)
 | .map es clock=>.map (renM p es) clock
 | .siter s pos=>.siter s pos
 | .miter m since seen stepped=>.miter (m.map p) since seen stepped
theorem RowsIn.ren {Φ:Pers} {ρ ρ':Rho} {p:Nat→Nat} (hp:∀ b l,ρ b=some l→ρ' (p b)=some l) {els:List (List AVal)} {sh k:Nat} {c:Array Value} (h:RowsIn Φ ρ els sh k c):RowsIn Φ ρ' (renLL p els) sh k c:=by
 refine⟨fun i row hi=>?_,fun i row j x hi hj=>?_⟩
 ·obtain⟨r0,h1,rfl⟩:=renLL_get.1 hi
  rw[renL_length]; exact h.1 i r0 h1
 ·obtain⟨r0,h1,rfl⟩:=renLL_get.1 hi
  obtain⟨x0,h2,rfl⟩:=renL_get.1 hj
  obtain⟨v,g1,g2,g3⟩:=h.2 i r0 j x0 h1 h2
  exact⟨v,g1,g2,g3.ren hp⟩
theorem BR.ren {Φ:Pers} {ρ ρ':Rho} {p:Nat→Nat} (hp:∀ b l,ρ b=some l→ρ' (p b)=some l) {x:ABlk} {l:Loc} {o:Obj} (h:BR Φ ρ x l o):BR Φ ρ' (x.ren p) l o:=by
 cases h with
 | cells k els l c e hk hn hl hr h1=>exact .cells k _ l c e hk hn (by rw[renLL_length]; exact hl) (hr.ren hp) h1
 | map es clock l en hs hr=>
  refine .map _ clock l en (by rw[renM,List.length_map]; exact hs) fun i x hx=>?_
  rw[renM,List.getElem?_map]at hx
  cases h0:es[i]? with
  | none=>grind
  | some z=>
   rw[h0]at hx
   injection hx with hx
   subst hx
   obtain⟨y,g1,g2,g3,g4⟩:=hr i z h0
   exact⟨y,g1,g2.ren hp,g3.ren hp,g4⟩
 | siter s pos l=>exact .siter s pos l
 | miter0 a b c l=>exact .miter0 a b c l
 | miter m lm a b c l h h0=>exact .miter _ lm a b c l (hp _ _ h) h0
theorem RowsIn.unren {Φ:Pers} {ρ ρ':Rho} {q:Nat→Nat} (hq:∀ b l,ρ (q b)=some l→ρ' b=some l) {els:List (List AVal)} {sh k:Nat} {c:Array Value} (h:RowsIn Φ ρ (renLL q els) sh k c):RowsIn Φ ρ' els sh k c:=by
 refine⟨fun i row hi=>by have:=h.1 i _ (renLL_get.2 ⟨row,hi,rfl⟩); rwa[renL_length]at this,fun i row j x hi hj=>?_⟩
 obtain⟨v,g1,g2,g3⟩:=h.2 i _ j _ (renLL_get.2 ⟨row,hi,rfl⟩) (renL_get.2 ⟨x,hj,rfl⟩)
 exact⟨v,g1,g2,g3.unren hq x rfl⟩
theorem BR.unren {Φ:Pers} {ρ ρ':Rho} {q:Nat→Nat} (hq:∀ b l,ρ (q b)=some l→ρ' b=some l) {x:ABlk} {l:Loc} {o:Obj} (h:BR Φ ρ (x.ren q) l o):BR Φ ρ' x l o:=by
 cases x with
 | cells k els=>
  simp only[ABlk.ren]at h
  cases h with
  | cells _ _ _ c e hk hn hl hr h1=>exact .cells k _ l c e hk hn (by rwa[renLL_length]at hl) (hr.unren hq) h1
 | map es clock=>
  simp only[ABlk.ren]at h
  cases h with
  | map _ _ _ en hs hr=>
   refine .map _ clock l en (by rwa[renM,List.length_map]at hs) fun i x hx=>?_
   obtain⟨y,g1,g2,g3,g4⟩:=hr i (x.1.ren q,x.2.1.ren q,x.2.2) (by rw[renM,List.getElem?_map,hx]; rfl)
   exact⟨y,g1,g2.unren hq x.1 rfl,g3.unren hq x.2.1 rfl,g4⟩
 | siter s pos=>
  simp only[ABlk.ren]at h
  cases h with
  | siter _ _ _=>exact .siter s pos l
 | miter m since seen stepped=>
  simp only[ABlk.ren]at h
  cases m with
  | none=>cases h with|miter0 _ _ _ _=>exact .miter0 _ _ _ l
  | some b=>cases h with|miter _ lm _ _ _ _ h h0=>exact .miter b lm _ _ _ l (hq _ _ h) h0
end Go.AE
end
section
namespace Go.AE
open Go.RowKit
def lookN:List (Nat×Nat)→Nat→Nat→Nat
 | [],_,b=>b
 | (c,o) :: r,d,b=>if b=c then o else lookN r d b
def qOf (l:List (Nat×Nat)) (n0 k n b:Nat):Nat:=if b<n0 then b else if b<k then lookN l n b else b - k+n
theorem qOf_lt {l:List (Nat×Nat)} {n0 k n b:Nat} (h:qOf l n0 k n b<n) (h0:n0≤k):b<k:=by
 unfold qOf at h
 split at h
 ·omega
 ·split at h<;>omega
def SubRE (q:Nat→Nat):Env→Env→Prop
 | [],_=>True
 | (i,v) :: r,e=>e.get i=v.ren q∧SubRE q r e
def SubRB (q:Nat→Nat):List (Nat×ABlk)→SMem→Prop
 | [],_=>True
 | (b,x) :: r,m=>(m.get (q b)=some (x.ren q) ∨ ∃ y,m.get (q b)=some y∧BSub (x.ren q) y)∧SubRB q r m
def InjA (q:Nat→Nat) (b:Nat):List (Nat×ABlk)→Prop
 | []=>True
 | (c,_) :: r=>(q b=q c→b=c)∧InjA q b r
def InjK (q:Nat→Nat):List (Nat×ABlk)→Prop
 | []=>True
 | (b,_) :: r=>InjA q b r∧InjK q r
theorem InjA.get {q:Nat→Nat} {b:Nat}:∀ {l:List (Nat×ABlk)},InjA q b l → ∀ c x,lookB l c=some x→q b=q c→b=c
 | [],_,c,x,h,_=>by simp[lookB]at h
 | (d,y) :: r,hi,c,x,h,hq=>by
  simp only[lookB]at h
  split at h
  ·rename_i e; subst e; exact hi.1 hq
  ·exact hi.2.get c x h hq
theorem InjK.get {q:Nat→Nat}:∀ {l:List (Nat×ABlk)},InjK q l → ∀ b c x y,lookB l b=some x→lookB l c=some y→q b=q c→b=c
 | [],_,b,c,x,y,h,_,_=>by simp[lookB]at h
 | (d,z) :: r,hi,b,c,x,y,hb,hc,hq=>by
  simp only[lookB]at hb hc
  split at hb
  ·rename_i e; subst e
   split at hc
   ·rename_i e2; exact e2.symm
   ·exact hi.1.get c y hc hq
  ·split at hc
   ·rename_i e2; subst e2
    exact(hi.1.get b x hb hq.symm).symm
   ·exact hi.2.get b c x y hb hc hq
theorem SubRE.get {q:Nat→Nat}:∀ {e0 e:Env},SubRE q e0 e → ∀ i,e0.get i=.bot∨e.get i=(e0.get i).ren q
 | [],_,_,i=>.inl rfl
 | (j,v) :: r,e,h,i=>by
  simp only[Env.get]
  by_cases hij:i=j
  ·subst hij; rw[if_pos rfl]; exact .inr h.1
  ·rw[if_neg hij]; exact h.2.get i
theorem SubRB.get {q:Nat→Nat}:∀ {l:List (Nat×ABlk)} {m:SMem},SubRB q l m → ∀ b x,lookB l b=some x → ∃ y,m.get (q b)=some y∧(y=x.ren q∨BSub (x.ren q) y)
 | [],m,_,b,x,h=>by simp[lookB]at h
 | (c,y) :: r,m,hs,b,x,h=>by
  simp only[lookB]at h
  split at h
  ·rename_i hb; subst hb; injection h with h; subst h
   rcases hs.1 with h1|⟨y',h1,h2⟩
   ·exact⟨_,h1,.inl rfl⟩
   ·exact⟨_,h1,.inr h2⟩
  ·exact hs.2.get b x h
def SubR (n0:Nat) (l:List (Nat×Nat)) (e0:Env) (m0:SMem) (e:Env) (m:SMem):Prop:=
 n0≤m0.next∧n0≤m.next∧SubRE (qOf l n0 m0.next m.next) e0 e∧SubRB (qOf l n0 m0.next m.next) m0.bl m∧InjK (qOf l n0 m0.next m.next) m0.bl
theorem BR.of_sub {Φ:Pers} {ρ:Rho} {x y:ABlk} {l:Loc} {o:Obj} (hs:y=x∨BSub x y) (h:BR Φ ρ y l o):BR Φ ρ x l o:=by
 rcases hs with rfl|hs
 ·exact h
 ·exact h.bsub hs
theorem Rel.unren {W:Base} {Φ:Pers} {ρ:Rho} {m m0:Mem} {w:World} {q:Nat→Nat} (h:Rel W Φ ρ m w) (hg:∀ b x,m0.get b=some x → ∃ y,m.get (q b)=some y∧(y=x.ren q∨BSub (x.ren q) y))
 (hi:∀ b c x y,m0.get b=some x→m0.get c=some y→q b=q c→b=c) (hq:∀ b,q b<m.next→b<m0.next):Rel W Φ (fun b=>ρ (q b)) m0 w:=by
 refine⟨h.base,h.pers,fun b x hx=>?_,fun b b' x x' l l' h1 h2 h3 h4 h5=>?_,fun b l hb=>hq b (h.fresh _ _ hb),h.newp⟩
 ·obtain⟨y,hy,hs⟩:=hg b x hx
  obtain⟨l,o,g1,g2,g3,g4,g5⟩:=h.live _ y hy
  exact⟨l,o,g1,g2,g3,g4,(g5.of_sub hs).unren (q:=q) (fun _ _ hb=>hb)⟩
 ·obtain⟨y,hy,_⟩:=hg b x h1
  obtain⟨y',hy',_⟩:=hg b' x' h2
  exact hi b b' x x' h1 h2 (h.inj _ _ y y' l l' hy hy' h3 h4 h5)
theorem SubR.rel {n0 n:Nat} {l:List (Nat×Nat)} {e0 e:Env} {m0 m:SMem} (h:SubR n0 l e0 m0 e m) {W:Base} {Φ:Pers} {ρ:Rho} {vs:Array Value} {w:World} (hr:Rel W Φ ρ m.mem w) (ht:RL Φ ρ (toE n e) vs) :
 ∃ ρ',(∀ b,b<n0→ρ' b=ρ b)∧Rel W Φ ρ' m0.mem w∧RL Φ ρ' (toE n e0) vs:=by
 obtain⟨hn0,hn,he,hm,hi⟩:=h
 refine⟨fun b=>ρ (qOf l n0 m0.next m.next b),fun b hb=>by simp only[qOf,if_pos hb],hr.unren (fun b x hx=>hm.get b x hx) (fun b c x y hb hc=>hi.get b c x y hb hc) (fun b hb=>qOf_lt hb hn0),?_⟩
 refine⟨by rw[ht.1,toE_length,toE_length],fun i x v hx hv=>?_⟩
 have hin:i<n:=by
  have:=(List.getElem?_eq_some_iff.1 hx).1
  rwa[toE_length]at this
 rw[toE_get hin]at hx
 injection hx with hx
 subst hx
 rcases he.get i with h1|h1
 ·rw[h1]; exact .bot v
 ·have hR:=ht.2 i (e.get i) v (toE_get hin) hv
  rw[h1]at hR
  exact hR.unren (q:=qOf l n0 m0.next m.next) (fun _ _ hb=>hb) _ rfl
def WkR (n n0:Nat) (e0:Env) (m0:SMem) (e:Env) (m:SMem):Prop:=n0≤m0.next ∧ ∀(W:Base) (Φ:Pers) (ρ:Rho) (vs:Array Value) (w:World),Rel W Φ ρ m.mem w→RL Φ ρ (toE n e) vs →
 ∃ Φ' ρ',(∀ B c,Φ B=some c→Φ' B=some c)∧(∀ b,b<n0→ρ' b=ρ b)∧Rel W Φ' ρ' m0.mem w∧RL Φ' ρ' (toE n e0) vs
theorem SubR.wk {n0 n:Nat} {l:List (Nat×Nat)} {e0 e:Env} {m0 m:SMem} (h:SubR n0 l e0 m0 e m):WkR n n0 e0 m0 e m:=
 ⟨h.1,fun W Φ ρ vs w hr ht=>let ⟨ρ',h1,h2,h3⟩:=h.rel hr ht; ⟨Φ,ρ',fun _ _ h=>h,h1,h2,h3⟩⟩
def PCallY (P:Program) (g:FuncId) (args:List AVal) (v:AVal) (d:Option ABlk) (id:Nat) (x:List Nat) (m:Mem):Prop:=
 match d with
 | none=>PCallX P g args v id x m
 | some b=>ACalls P g args (m.less x) [id] fun r m'=>r=v∧m'=(m.less x).set id b
def ftW (id:Nat):Option ABlk→List Nat
 | none=>[]
 | some _=>[id]
def apD (id:Nat):Option ABlk→List (Nat×Option ABlk)
 | none=>[]
 | some b=>[(id,some b)]
theorem callAt_Y {P:Program} {g:FuncId} {args:List AVal} {v:AVal} {d:Option ABlk} (id:Nat) (x:List Nat) (hx:id∉x) (m:Mem) (h:PCallY P g args v d id x m):CallAt P g args id x m v (m.apply (apD id d)) (ftW id d):=by
 cases d with
 | none=>exact callAt_pure id x hx m h
 | some b=>
  refine⟨(m.less x).set id b,hx,fun c hc=>?_,Nat.le_refl _,rfl,fun c=>?_,fun c hw _ hc=>?_,h⟩
  ·simp only[Mem.get_set]
   rw[if_neg (fun e:c=id=>hx (e ▸ hc))]
   simp[Mem.less,hc]
  ·simp only[apD,Mem.apply,Mem.get_set]
   by_cases hc:c∈x
   ·rw[if_pos hc,if_neg (fun e:c=id=>hx (e ▸ hc))]
   ·rw[if_neg hc]
    by_cases hi:c=id
    ·rw[if_pos hi,if_pos hi]
    ·rw[if_neg hi,if_neg hi]; simp[Mem.less,hc]
  ·simp only[Mem.get_set]
   rw[if_neg (fun e:c=id=>hw (by rw[e]; exact List.mem_singleton.2 rfl))]
   simp[Mem.less,hc]
def ydops (P:Program) (n base:Nat):List AOper→List FT→(Env→SMem→Prop)→Env→SMem→Prop
 | [],_,K,e,m=>K e m
 | o :: r,fs,K,e,m=>
  match wantedE n e o.guard with
  | some false=>ydops P n base r (fs++[.ops [] []]) K (putE e o.dst aundef) m
  | some true=>
   match o.op with
   | .call f xs=>match calleeE n e f xs with
    | some (g,args)=>∃ v d,PCallY P g args v d (base+fs.length) (xOf base fs.length r.length) m.mem∧indepL fs (.call (ftW (base+fs.length) d) (xOf base fs.length r.length) m.next) o.un ∧
     ydops P n base r (fs++[.call (ftW (base+fs.length) d) (xOf base fs.length r.length) m.next]) K (putE e o.dst v) (m.app (apD (base+fs.length) d))
    | none=>False
   | op=>match stepD (base+fs.length) (evE n e) m.get op with
    | some (v,d)=>indepL fs (.ops (footWD (base+fs.length) (evE n e) op) (footRD (evE n e) op)) o.un∧ydops P n base r (fs++[.ops (footWD (base+fs.length) (evE n e) op) (footRD (evE n e) op)]) K (putE e o.dst v) (m.app d)
    | none=>False
  | none=>False
theorem ydops_sound {P:Program} {n base:Nat} {K:Env→SMem→Prop}:∀ (ops:List AOper) (fs:List FT) (e:Env) (m:SMem),ydops P n base ops fs K e m→dops P base ops fs (fun σ=>∃ e m,σ=⟨toE n e,m.mem⟩∧K e m) (toE n e) m.mem
 | [],_,e,m,h=>⟨e,m,rfl,h⟩
 | o :: r,fs,e,m,h=>by
  simp only[ydops]at h
  simp only[dops,wantedE_eq]
  cases hw:wantedE n e o.guard with
  | none=>simp[hw]at h
  | some q=>
   cases q with
   | false=>
    simp only[hw]at h
    simp only[toE_put]
    exact ydops_sound r _ _ m h
   | true=>
    simp only[hw]at h
    simp only
    have other:∀ op,o.op=op→(match stepD (base+fs.length) (evE n e) m.get op with|some (v,d)=>indepL fs (.ops (footWD (base+fs.length) (evE n e) op) (footRD (evE n e) op)) o.un∧ydops P n base r (fs++[.ops (footWD (base+fs.length) (evE n e) op) (footRD (evE n e) op)]) K (putE e o.dst v) (m.app d)|none=>False) →
     (match stepA (base+fs.length) (toE n e) m.mem op with|some (v,m')=>indepL fs (.ops (footW (base+fs.length) (toE n e) op) (footR (toE n e) op)) o.un∧dops P base r (fs++[.ops (footW (base+fs.length) (toE n e) op) (footR (toE n e) op)]) (fun σ=>∃ e m,σ=⟨toE n e,m.mem⟩∧K e m) (put (toE n e) o.dst v) m'|none=>False):=by
     intro op _ hh
     cases hs:stepD (base+fs.length) (evE n e) m.get op with
     | none=>simp[hs]at hh
     | some vd=>
      obtain⟨v,d⟩:=vd
      simp only[hs]at hh
      have:=stepD_ok (m:=m.mem) (t:=toE n e) (id:=base+fs.length) (op:=op) (v:=v) (d:=d) (by rw[ev_toE]; exact hs)
      rw[this]
      simp only[toE_put,footWD_eq,footRD_eq,ev_toE]
      rw[← SMem.app_mem]
      exact⟨hh.1,ydops_sound r _ _ _ hh.2⟩
    cases hop:o.op with
    | call f xs=>
     simp only[hop]at h
     simp only[calleeE_eq]
     cases hc:calleeE n e f xs with
     | none=>simp[hc]at h
     | some ga=>
      obtain⟨g,args⟩:=ga
      simp only[hc]at h
      obtain⟨v,d,hp,hi,hk⟩:=h
      simp only
      refine⟨ftW (base+fs.length) d,xOf base fs.length r.length,v,_,callAt_Y _ _ (own_xOf _ _ _) _ hp,hi,?_⟩
      simp only[toE_put]
      rw[← SMem.app_mem]
      exact ydops_sound r _ _ _ hk
    | _=>rw[hop]at h; exact other _ hop h
def wpT (P:Program) (n n0:Nat):ACode→(Exit→Env→SMem→Prop)→Env→SMem→Prop
 | .skip,Q,e,m=>Q .normal e m
 | .region false ops,Q,e,m=>sops P n m.next ops 0 (Q .normal) e (m.at (m.next+ops.length))
 | .region true ops,Q,e,m=>ydops P n m.next ops [] (Q .normal) e (m.at (m.next+ops.length))
 | .seq a b,Q,e,m=>wpT P n n0 a (thenS (wpT P n n0 b Q) Q) e m
 | .cond c a b,Q,e,m=>match evE n e c with
  | .bool true=>wpT P n n0 a Q e m
  | .bool false=>wpT P n n0 b Q e m
  | _=>False
 | .block id c,Q,e,m=>wpT P n n0 c (blockS id Q) e m
 | .loop c,Q,e,m=>∃ (I:Nat→Env→SMem→Prop),(∃ k e0 m0,WkR n n0 e0 m0 e m∧I k e0 m0) ∧ ∀ k e1 m1,I k e1 m1→wpT P n n0 c (thenS (fun e' m'=>∃ j e0 m0,j<k∧WkR n n0 e0 m0 e' m'∧I j e0 m0) Q) e1 m1
 | .exit id,Q,e,m=>Q (.exit id) e m
 | .scope c,Q,e,m=>wpT P n n0 c Q e m
 | .label _,Q,e,m=>Q .normal e m
 | .ret,Q,e,m=>Q .ret e m
 | .bad,_,_,_=>False
def liftT (W:Base) (Φ:Pers) (ρ:Rho) (n n0:Nat) (Q:Exit→Env→SMem→Prop) (x:Exit) (a:Act) (w:World):Prop:=
 ∃ e m Φ' ρ',(∀ B c,Φ B=some c→Φ' B=some c)∧(∀ b,b<n0→ρ' b=ρ b)∧n0≤m.next∧Rel W Φ' ρ' m.mem w∧RL Φ' ρ' (toE n e) a.tmps∧a.defers=[]∧(∀ l,x≠.goto l)∧Q x e m
theorem liftT_trans {W:Base} {Φ Φ':Pers} {ρ ρ':Rho} {n n0:Nat} {Q Q':Exit→Env→SMem→Prop} {x:Exit} {a:Act} {w:World} (hp:∀ B c,Φ B=some c→Φ' B=some c) (hk:∀ b,b<n0→ρ' b=ρ b)
 (h:liftT W Φ' ρ' n n0 Q x a w) (hq:∀ e m,Q x e m→Q' x e m):liftT W Φ ρ n n0 Q' x a w:=by
 obtain⟨e,m,Φ2,ρ2,h1,h2,h3,h4,h5,h6,h7,h8⟩:=h
 exact⟨e,m,Φ2,ρ2,fun B c hB=>h1 B c (hp B c hB),fun b hb=>(h2 b hb).trans (hk b hb),h3,h4,h5,h6,h7,hq _ _ h8⟩
section
variable {P:Program} {n n0:Nat}
def AWpT (P:Program) (n n0:Nat) (c:Code) (Q:Exit→Env→SMem→Prop) (e:Env) (m:SMem):Prop:=
 ∀(W:Base) (Φ:Pers) (ρ:Rho) (a:Act) (w:World),n0≤m.next→Rel W Φ ρ m.mem w→RL Φ ρ (toE n e) a.tmps→a.defers=[]→c.wp P (liftT W Φ ρ n n0 Q) a w
theorem regionT (hm:P.follows .mixedOrders=true) {id:Nat} {ops:Array Oper} {draw:Bool} {Q:Exit→Env→SMem→Prop} {e:Env} {m:SMem} (h1:wpc P (cCode P (.region id ops draw)) (liftS n Q) ⟨toE n e,m.mem⟩):AWpT P n n0 (.region id ops draw) Q e m:=by
 intro W Φ ρ a w hn hr ht hd
 have h2:AWp P (.region id ops draw) (liftS n Q) ⟨toE n e,m.mem⟩:=by
  cases draw with
  | false=>exact region_plain h1
  | true=>exact region_draw hm h1
 refine wp_mono (h2 W Φ ρ a w hr ht hd) fun x a' w' hl=>?_
 obtain⟨σ,Φ',ρ',g1,g2,g3,g4,g5,g6,g7⟩:=hl
 have hfix:∀ b,b<n0→ρ' b=ρ b:=fun b hb=>by
  cases hq:ρ b with
  | none=>exact g2 b (Nat.lt_of_lt_of_le hb hn) hq
  | some l=>exact g1.rho b l hq
 have hnx:m.next≤σ.m.next:=g3
 cases x<;>simp only[liftS]at g7<;>first
  | exact g7.elim
  | (obtain ⟨e',m',rfl,hq⟩:=g7
     exact⟨e',m',Φ',ρ',g1.pers,hfix,Nat.le_trans hn hnx,g4,g5,g6,fun l hl=>(by cases hl),hq⟩)
theorem soundT (hm:P.follows .mixedOrders=true):∀ (c:Code) (Q:Exit→Env→SMem→Prop) (e:Env) (m:SMem),wpT P n n0 (cCode P c) Q e m→AWpT P n n0 c Q e m:=by
 intro c
 induction c with
 | skip=>exact fun Q e m h W Φ ρ a w hn hr ht hd=>wp_skip ⟨e,m,Φ,ρ,fun _ _ h=>h,fun _ _=>rfl,hn,hr,ht,hd,fun l hl=>(by cases hl),h⟩
 | region id ops draw=>
  intro Q e m h
  refine regionT hm ?_
  have hw:∀ A:ACode,(∀ d os,A=.region d os∨A=.bad∨True)→(match A with | .region _ _=>True | .bad=>True|_=>False)→wpT P n n0 A Q e m→wpc P A (liftS n Q) ⟨toE n e,m.mem⟩:=by
   intro A _ hA h
   cases A with
   | region d os=>
    cases d with
    | false=>exact sops_sound os 0 e _ h
    | true=>exact ydops_sound os [] e _ h
   | bad=>exact h.elim
   | _=>exact hA.elim
  refine hw _ (fun _ _=>.inr (.inr trivial)) ?_ h
  cases draw with
  | false=>
   simp only[cCode]
   cases cOpers P ops ops.toList<;>trivial
  | true=>
   simp only[cCode]
   cases cOpers P ops ops.toList with
   | none=>trivial
   | some as=>
    simp only
    cases cDrawOk ops as (cPreds ops.toList)<;>trivial
 | seq x y ihx ihy=>
  intro Q e m h W Φ ρ a w hn hr ht hd
  simp only[cCode,wpT]at h
  refine wp_seq (wp_mono (ihx _ _ _ h W Φ ρ a w hn hr ht hd) ?_)
  intro x' a' w' hl
  have key:∀ e',x'=e'→e'≠.normal→liftT W Φ ρ n n0 Q x' a' w':=by
   intro e' he hne
   refine liftT_trans (fun _ _ h=>h) (fun _ _=>rfl) hl fun e m hq=>?_
   subst he
   cases x'<;>first|exact absurd rfl hne|exact hq
  cases x' with
  | normal=>
   obtain⟨e',m',Φ',ρ',h1,h2,h3,h4,h5,h6,h7,h8⟩:=hl
   exact wp_mono (ihy _ _ _ h8 W Φ' ρ' a' w' h3 h4 h5 h6) fun x a w hl'=>liftT_trans h1 h2 hl' fun _ _ h=>h
  | exit i=>exact key _ rfl (by simp)
  | goto l=>exact key _ rfl (by simp)
  | ret=>exact key _ rfl (by simp)
  | panic ch=>exact key _ rfl (by simp)
  | outgrown=>exact key _ rfl (by simp)
 | cond c x y ihx ihy=>
  intro Q e m h W Φ ρ a w hn hr ht hd
  simp only[cCode]at h
  cases hc:cOpd c with
  | none=>simp[hc,wpT]at h
  | some c'=>
   simp only[hc,wpT]at h
   have hv:=ev_R ht hc
   rw[ev_toE]at hv
   generalize evE n e c'=z at h hv
   split at h
   ·generalize hz:a.eval c=v at hv
    cases hv
    exact wp_cond_true hz (ihx _ _ _ h W Φ ρ a w hn hr ht hd)
   ·generalize hz:a.eval c=v at hv
    cases hv
    exact wp_cond_false hz (ihy _ _ _ h W Φ ρ a w hn hr ht hd)
   ·exact h.elim
 | block id c ih=>
  intro Q e m h W Φ ρ a w hn hr ht hd
  simp only[cCode,wpT]at h
  refine wp_block (wp_mono (ih _ _ _ h W Φ ρ a w hn hr ht hd) ?_)
  intro x a' w' hl
  cases x with
  | exit i=>
   simp only[Exit.inBlock]
   obtain⟨e',m',Φ',ρ',h1,h2,h3,h4,h5,h6,h7,h8⟩:=hl
   simp only[blockS]at h8
   split
   ·rename_i hi
    rw[if_pos hi]at h8
    exact⟨e',m',Φ',ρ',h1,h2,h3,h4,h5,h6,fun l hl=>(by cases hl),h8⟩
   ·rename_i hi
    rw[if_neg hi]at h8
    exact⟨e',m',Φ',ρ',h1,h2,h3,h4,h5,h6,fun l hl=>(by cases hl),h8⟩
  | normal=>exact hl
  | goto l=>exact hl
  | ret=>exact hl
  | panic ch=>exact hl
  | outgrown=>exact hl
 | loop c ih=>
  intro Q e m h W Φ ρ a w hn hr ht hd
  simp only[cCode,wpT]at h
  obtain⟨I,⟨k0,e0,m0,hs0,h0⟩,hround⟩:=h
  obtain⟨Φ1,ρ1,hp1,hk1,hr1,ht1⟩:=hs0.2 W Φ ρ _ w hr ht
  refine wp_loop_ghost (fun k a' w'=>∃ e' m' Φ' ρ',(∀ B c,Φ B=some c→Φ' B=some c)∧(∀ b,b<n0→ρ' b=ρ b)∧n0≤m'.next∧Rel W Φ' ρ' m'.mem w'∧RL Φ' ρ' (toE n e') a'.tmps∧a'.defers=[]∧I k e' m') k0
   ⟨e0,m0,Φ1,ρ1,hp1,hk1,hs0.1,hr1,ht1,hd,h0⟩ ?_
  rintro k a' w' ⟨e',m',Φ',ρ',h1,h2,h3,h4,h5,h6,h7⟩
  refine wp_mono (ih _ _ _ (hround k e' m' h7) W Φ' ρ' a' w' h3 h4 h5 h6) ?_
  intro x a'' w'' hl
  have key:∀ e',x=e'→e'≠.normal→liftT W Φ ρ n n0 Q x a'' w'':=by
   intro e' he hne
   refine liftT_trans h1 h2 hl fun e m hq=>?_
   subst he
   cases x<;>first|exact absurd rfl hne|exact hq
  cases x with
  | normal=>
   obtain⟨e2,m2,Φ2,ρ2,g1,g2,g3,g4,g5,g6,_,j,e3,m3,g7,g8,g9⟩:=hl
   obtain⟨Φ3,ρ3,hp3,hk3,hr3,ht3⟩:=g8.2 W Φ2 ρ2 _ _ g4 g5
   exact⟨j,g7,e3,m3,Φ3,ρ3,fun B c hB=>hp3 B c (g1 B c (h1 B c hB)),fun b hb=>(hk3 b hb).trans ((g2 b hb).trans (h2 b hb)),g8.1,hr3,ht3,g6,g9⟩
  | exit i=>exact key _ rfl (by simp)
  | goto l=>exact key _ rfl (by simp)
  | ret=>exact key _ rfl (by simp)
  | panic ch=>exact key _ rfl (by simp)
  | outgrown=>exact key _ rfl (by simp)
 | exit id=>exact fun Q e m h W Φ ρ a w hn hr ht hd=>wp_exit ⟨e,m,Φ,ρ,fun _ _ h=>h,fun _ _=>rfl,hn,hr,ht,hd,fun l hl=>(by cases hl),h⟩
 | scope c ih=>
  intro Q e m h W Φ ρ a w hn hr ht hd
  simp only[cCode,wpT]at h
  refine wp_scope_straight (wp_mono (ih _ _ _ h W Φ ρ a w hn hr ht hd) ?_)
  intro x a' w' hl
  cases x with
  | goto l=>
   obtain⟨_,_,_,_,_,_,_,_,_,_,h7,_⟩:=hl
   exact absurd rfl (h7 l)
  | normal=>exact hl
  | exit i=>exact hl
  | ret=>exact hl
  | panic ch=>exact hl
  | outgrown=>exact hl
 | label l=>exact fun Q e m h W Φ ρ a w hn hr ht hd=>wp_label ⟨e,m,Φ,ρ,fun _ _ h=>h,fun _ _=>rfl,hn,hr,ht,hd,fun l hl=>(by cases hl),h⟩
 | ret=>exact fun Q e m h W Φ ρ a w hn hr ht hd=>wp_ret ⟨e,m,Φ,ρ,fun _ _ h=>h,fun _ _=>rfl,hn,hr,ht,hd,fun l hl=>(by cases hl),h⟩
 | rangeFunc f ps x y _ _=>exact fun Q e m h=>by simp[cCode,wpT]at h
 | goto l=>exact fun Q e m h=>by simp[cCode,wpT]at h
 | refuse s=>exact fun Q e m h=>by simp[cCode,wpT]at h
def yieldE (n:Nat) (e:Env) (m:SMem):List (Nat×Option (Option Nat))→Option (List AVal)
 | []=>some []
 | (i,none) :: r=>match yieldE n e m r with
  | some l=>some (evE n e (.tmp i) :: l)
  | none=>none
 | (i,some k) :: r=>match loadD m.get k (evE n e (.tmp i))with
  | some v=>(match yieldE n e m r with
   | some l=>some (v :: l)
   | none=>none)
  | none=>none
def oneK (K:AVal→SMem→Prop) (m:SMem):Option (List AVal)→Prop
 | some [x]=>K x m
 | some l=>K (.tuple l) m
 | none=>False
def retN (n:Nat) (rs:List (Nat×Option (Option Nat))) (K:AVal→SMem→Prop):Exit→Env→SMem→Prop
 | .normal,e,m=>oneK K m (yieldE n e m rs)
 | .ret,e,m=>oneK K m (yieldE n e m rs)
 | _,_,_=>False
theorem yieldE_one {e:Env} {m:SMem} {x:Nat×Option (Option Nat)} {v:AVal} {r:List (Nat×Option (Option Nat))} {l:List AVal} (h:yieldE n e m (x :: r)=some (v :: l)):resOne (toE n e) m.mem x=some v∧yieldE n e m r=some l:=by
 obtain⟨i,o⟩:=x
 have hev:(toE n e).getD i aundef=evE n e (.tmp i):=congrFun (ev_toE n e) (.tmp i)
 cases o with
 | none=>
  simp only[yieldE]at h
  cases hr:yieldE n e m r with
  | none=>simp[hr]at h
  | some l'=>
   simp only[hr,Option.some.injEq,List.cons.injEq]at h
   obtain⟨rfl,rfl⟩:=h
   exact⟨by simp only[resOne,hev],rfl⟩
 | some k=>
  simp only[yieldE]at h
  cases hl:loadD m.get k (evE n e (.tmp i))with
  | none=>simp[hl]at h
  | some w=>
   cases hr:yieldE n e m r with
   | none=>simp[hl,hr]at h
   | some l'=>
    simp only[hl,hr,Option.some.injEq,List.cons.injEq]at h
    obtain⟨rfl,rfl⟩:=h
    refine⟨?_,rfl⟩
    simp only[resOne,hev,loadD_eq]
    exact hl
theorem yieldE_len {e:Env} {m:SMem}:∀ {rs:List (Nat×Option (Option Nat))} {l:List AVal},yieldE n e m rs=some l→(rs=[]∧l=[]) ∨ ∃ x r v t,rs=x :: r∧l=v :: t
 | [],l,h=>by simp only[yieldE,Option.some.injEq]at h; exact .inl ⟨rfl,h.symm⟩
 | (i,none) :: r,l,h=>by
  simp only[yieldE]at h
  cases hr:yieldE n e m r with
  | none=>simp[hr]at h
  | some l'=>simp only[hr,Option.some.injEq]at h; exact .inr ⟨_,_,_,_,rfl,h.symm⟩
 | (i,some k) :: r,l,h=>by
  simp only[yieldE]at h
  cases hl:loadD m.get k (evE n e (.tmp i))with
  | none=>simp[hl]at h
  | some w=>
   cases hr:yieldE n e m r with
   | none=>simp[hl,hr]at h
   | some l'=>simp only[hl,hr,Option.some.injEq]at h; exact .inr ⟨_,_,_,_,rfl,h.symm⟩
theorem yieldE_resAll {e:Env} {m:SMem}:∀ {rs:List (Nat×Option (Option Nat))} {l:List AVal},yieldE n e m rs=some l→resAll (toE n e) m.mem rs=some l
 | [],l,h=>h
 | x :: r,l,h=>by
  rcases yieldE_len h with⟨h1,_⟩|⟨y,r',v,t,h1,rfl⟩
  ·cases h1
  ·cases h1
   obtain⟨h2,h3⟩:=yieldE_one h
   simp only[resAll,h2,yieldE_resAll h3]
theorem oneK_retA {e:Env} {m:SMem} {rs:List (Nat×Option (Option Nat))} {K:AVal→SMem→Prop} (h:oneK K m (yieldE n e m rs)):∃ v,retA (toE n e) m.mem rs=some v∧K v m:=by
 cases hy:yieldE n e m rs with
 | none=>rw[hy]at h; exact h.elim
 | some l=>
  rw[hy]at h
  have h1:=yieldE_resAll hy
  rcases yieldE_len hy with⟨rfl,rfl⟩|⟨x,r,v,t,rfl,rfl⟩
  ·exact⟨_,rfl,h⟩
  ·obtain⟨h2,h3⟩:=yieldE_one hy
   rcases yieldE_len h3 with⟨rfl,rfl⟩|⟨x',r',v',t',rfl,rfl⟩
   ·exact⟨v,by simp only[retA,h2],h⟩
   ·exact⟨.tuple (v :: v' :: t'),by simp only[retA,h1],h⟩
def Ctr (P:Program) (f:FuncId) (args:List AVal) (m:SMem) (K:AVal→SMem→Prop):Prop:=ACalls P f args m.mem [] fun r m'=>∃ sm:SMem,m'=sm.mem∧K r sm
def EndK (n0:Nat) (K:AVal→SMem→Prop) (v:AVal) (m:SMem):Prop:=∃ v0 m0 l,SubR n0 l [(0,v0)] m0 [(0,v)] m∧K v0 m0
theorem ctr_T (hm:P.follows .mixedOrders=true) {f:FuncId} {fn:Func} {af:AFn} {args:List AVal} {m:SMem} {K:AVal→SMem→Prop} (hf:P.funcs[f]? = some fn) (hc:cFn P fn=some af) (hl:Nat.ble args.length af.ntmps=true)
 (h:wpT P af.ntmps m.next af.body (retN af.ntmps af.results (EndK m.next K)) (argE 0 args []) m):Ctr P f args m K:=by
 obtain⟨c,hb,hbody,hrs,hnt,hname⟩:=cFn_spec hc
 have hl':args.length≤af.ntmps:=Nat.le_of_ble_eq_true hl
 rw[hbody]at h
 refine⟨⟨fn,hf,hname,by rw[hb]; rfl⟩,fun W Φ ρ vs w hr ha hav=>?_⟩
 have ht0:=args_RL (k:=fn.ntmps) ha
 have ht1:RL Φ ρ (toE af.ntmps (argE 0 args [])) (vs++Array.replicate (fn.ntmps - vs.size) undef):=by
  refine ht0.sub (by rw[toE_length]; simp; omega) fun i x hx=>?_
  have hi:i<af.ntmps:=by
   have:=(List.getElem?_eq_some_iff.1 hx).1
   rwa[toE_length]at this
  rw[toE_get hi,argE_get]at hx
  injection hx with hx
  by_cases h2:0≤i∧i<0+args.length
  ·rw[if_pos h2]at hx
   rw[List.getElem?_append,if_pos (by omega)]
   refine .inr ?_
   rw[← hx,Nat.sub_zero,List.getD,List.getElem?_eq_getElem (by omega)]
   rfl
  ·rw[if_neg h2]at hx
   exact .inl hx.symm
 have hs:=soundT (n0:=m.next) hm c _ _ _ h W Φ ρ { tmps:=vs++Array.replicate (fn.ntmps - vs.size) undef,defers:=[] } w (Nat.le_refl _) hr ht1 rfl
 refine calls_of_wp hf hb (wp_mono hs fun x a w' hl=>?_)
 obtain⟨e,m',Φ',ρ',h1,h2,h3,h4,h5,h6,h7,h8⟩:=hl
 have fin:oneK (EndK m.next K) m' (yieldE af.ntmps e m' af.results)→a.defers=[] ∧ ∃ v,(results fn a.tmps).run P w'=.ok v w' ∧
  ∃ v' r m' Φ' ρ',Ending.returned v=.returned v'∧Ext Φ ρ Φ' ρ'∧(∀ b,b<m.mem.next→b∉([]:List Nat)→ρ b=none→ρ' b=none)∧Rel W Φ' ρ' m' w'∧R Φ' ρ' r v'∧m.mem.next≤m'.next ∧ ∃ sm:SMem,m'=sm.mem∧K r sm:=by
  intro hh
  obtain⟨v,g1,v0,m0,l,g2,g3⟩:=oneK_retA hh
  obtain⟨u,k1,k2⟩:=retA_run h4 h5 hrs g1
  obtain⟨ρ2,j1,j2,j3⟩:=g2.rel (n:=1) (vs:=#[u]) h4 ⟨rfl,fun i x y hx hy=>by
   cases i with
   | zero=>
    rw[toE_get (by omega)]at hx
    simp only[Env.get,if_true,Option.some.injEq]at hx
    have:u=y:=by simpa using hy
    subst hx; subst this; exact k2
   | succ i=>simp at hy⟩
  have k3:R Φ' ρ2 v0 u:=j3.2 0 v0 u (by rw[toE_get (by omega)]; rfl) rfl
  have hfix:∀ b,b<m.next→ρ2 b=ρ b:=fun b hb=>(j1 b hb).trans (h2 b hb)
  refine⟨h6,u,k1,u,v0,m0.mem,Φ',ρ2,rfl,⟨h1,fun b l hb=>?_⟩,fun b hb _ h0=>(hfix b hb).trans h0,j2,k3,g2.1,m0,rfl,g3⟩
  exact(hfix b (hr.fresh b l hb)).trans hb
 cases x with
 | normal=>exact fin h8
 | ret=>exact fin h8
 | exit i=>exact h8.elim
 | goto l=>exact h8.elim
 | panic ch=>exact h8.elim
 | outgrown=>exact h8.elim
end
end Go.AE
end
section
namespace Go.AE
open Go.RowKit
variable {P:Program}
def memN (b:Nat):List Nat→Bool
 | []=>false
 | c :: r=>if b=c then true else memN b r
def qKeys (q:Nat→Nat):List (Nat×ABlk)→List Nat
 | []=>[]
 | (b,_) :: r=>q b :: qKeys q r
def renB (q:Nat→Nat):List (Nat×ABlk)→List (Nat×ABlk)→List (Nat×ABlk)
 | [],t=>t
 | (b,x) :: r,t=>(q b,x.ren q) :: renB q r t
def lessB (ks:List Nat):List (Nat×ABlk)→List (Nat×ABlk)
 | []=>[]
 | (b,x) :: r=>bif memN b ks then lessB ks r else (b,x) :: lessB ks r
theorem memN_iff {b:Nat}:∀ {l:List Nat},memN b l=true↔b∈l
 | []=>by simp[memN]
 | c :: r=>by
  simp only[memN,List.mem_cons]
  by_cases h:b=c
  ·simp[h]
  ·simp[h,memN_iff (l:=r)]
theorem lookB_less {ks:List Nat} {b:Nat} {x:ABlk}:∀ {l:List (Nat×ABlk)},lookB (lessB ks l) b=some x→lookB l b=some x∧b∉ks
 | [],h=>by simp[lessB,lookB]at h
 | (c,y) :: r,h=>by
  simp only[lessB]at h
  cases hm:memN c ks with
  | true=>
   rw[hm]at h
   simp only[cond_true]at h
   have:=lookB_less h
   refine⟨?_,this.2⟩
   simp only[lookB]
   rw[if_neg (fun e:b=c=>this.2 (by rw[e]; exact memN_iff.1 hm))]
   exact this.1
  | false=>
   rw[hm]at h
   simp only[cond_false,lookB]at h ⊢
   split at h
   ·rename_i e
    refine⟨by grind,fun hin=>?_⟩
    subst e
    rw[memN_iff.2 hin]at hm; cases hm
   ·rename_i e
    have:=lookB_less h
    grind
theorem PCall_ctr {g:FuncId} {args:List AVal} {v:AVal} (hca:closedL args=true) (hcv:v.closed=true) {k:Nat} (h:Ctr P g args ⟨[],1⟩ fun r m'=>freezeV m'.get k r=some v):PCall P g args v:=by
 intro m av
 have h':ACalls P g args (SMem.mem ⟨[],1⟩) [0] fun r m'=>∃ sm:SMem,m'=sm.mem∧freezeV sm.get k r=some v:=by
  refine⟨h.1,fun W Φ ρ vs w hr ha _=>(h.2 W Φ ρ vs w hr ha (fun b hb=>by simp at hb)).mono fun e w' he=>?_⟩
  grind
 exact pure_frozen hca hcv (fun c=>rfl) (Nat.lt_succ_self 0) h' (fun r m' hr=>by obtain⟨sm,rfl,h⟩:=hr; exact⟨k,h⟩) m av
theorem Ctr.mono {g:FuncId} {args:List AVal} {m:SMem} {K K':AVal→SMem→Prop} (h:Ctr P g args m K) (hk:∀ r m',K r m'→K' r m'):Ctr P g args m K':=
 ACalls.mono h fun r m' hh=>by grind
def condK (v:AVal) (A B:Prop):Prop:=
 match v with
 | .bool true=>A
 | .bool false=>B
 | _=>False
@[congr] theorem condK_congr {v v' : AVal} {A B : Prop} (h : v = v') : condK v A B = condK v' A B := by rw [h]
end Go.AE
end
