/- Part 3 of the proof: AeGe, AeGf. -/
import Derived.Test.YtilmpmlkndfbjaaGreatDoorR2
set_option linter.all false
section
namespace Go.AE
open Go.RowKit
variable {P:Program}
abbrev FCaller:=Fn→List AVal→TM→Option (AVal×TM×List Nat)
def Zji(cw:CallW)(fc:FCaller):Prop:=
 ∀ fn args m v m' wl,fc fn args m=some (v,m',wl)→m.next≤m'.next∧(∀ c,c<m.next→c∉wl→m'.mem.get c=m.mem.get c) ∧ ∀ id (K:AVal→Mem→Prop),K v m'.mem→cw fn args m.mem id K
def Zng(t:Tr AVal)(f:AOpd)(xs:List AOpd):Option (Fn×List AVal):=
 match evT t f with
 | .func (.func g) first cap=>some (.func g,first++xs.map (evT t)++cap)
 | .yld b=>some (.yield b,xs.map (evT t))
 | _=>none
theorem Z04{n:Nat}{t:Tr AVal}(b:TOk n t)(f:AOpd)(a:List AOpd):Zdt (toL n t) f a=Zng t f a:=by
 simp only[Zdt,Zng,Zds b];rfl
abbrev StepD:=Nat→(AOpd→AVal)→(Nat→Option ABlk)→AOp→Option (AVal×List (Nat×Option ABlk))
def Zlm(st:StepA)(sd:StepD):Prop:=
 ∀(n id:Nat) (t:Tr AVal) (m:TM) (op:AOp) (v:AVal) (d:List (Nat×Option ABlk)),TOk n t→sd id (evT t) m.tr.get op=some (v,d)→okD d=true→st id (toL n t) m.mem op=some (v,(m.apply d).mem)
theorem Zm7:Zlm stepA stepD:=fun _ _ _ _ _ _ _ b h a=>Zjh b h a
def Zan(sd:StepD)(fc:FCaller)(lim base:Nat):List AOper→Nat→RS→Option RS
 | [],_,s=>some s
 | o :: r,i,s=>
  match Zfm s.t o.guard with
  | some false=>Zan sd fc lim base r (i+1) { s with t:=S9 s.t o.dst aundef }
  | some true=>
   match o.op with
   | .call f xs=>match Zng s.t f xs with
    | some (g,args)=>match fc g args s.m with
     | some (v,m',wl)=>Zan sd fc lim base r (i+1) ⟨S9 s.t o.dst v,m',addL lim s.wl wl⟩
     | none=>none
    | none=>none
   | op=>match sd (base+i) (evT s.t) s.m.tr.get op with
    | some (v,[])=>Zan sd fc lim base r (i+1) ⟨S9 s.t o.dst v,s.m,s.wl⟩
    | some (v,d)=>bif okD d then Zan sd fc lim base r (i+1) ⟨S9 s.t o.dst v,s.m.apply d,addW lim s.wl d⟩ else none
    | none=>none
  | none=>none
def T5(sd:StepD)(fc:FCaller)(call:Caller)(dr sc:Bool)(lim:Nat):Nat→ACode→RS→Option (REnd×RS)
 | 0,_,_=>none
 | f+1,c,s=>
  match c with
  | .skip | .label _=>some (.normal,s)
  | .region false ops=>
   bif Nat.ble (s.m.next+ops.length) bound then match Zan sd fc lim s.m.next ops 0 ⟨s.t,⟨s.m.tr,s.m.next+ops.length⟩,s.wl⟩ with
    | some s'=>some (.normal,s')
    | none=>none
   else none
  | .region true ops=>
   bif dr then bif Nat.ble (s.m.next+ops.length) bound then match runD call lim s.m.next ops [] ⟨s.t,⟨s.m.tr,s.m.next+ops.length⟩,s.wl⟩ with
    | some s'=>some (.normal,s')
    | none=>none
   else none else none
  | .seq a b=>match T5 sd fc call dr sc lim f a s with
   | some (.normal,s')=>T5 sd fc call dr sc lim f b s'
   | r=>r
  | .cond c a b=>match evT s.t c with
   | .bool true=>T5 sd fc call dr sc lim f a s
   | .bool false=>T5 sd fc call dr sc lim f b s
   | _=>none
  | .block id c=>match T5 sd fc call dr sc lim f c s with
   | some (.exit n,s')=>bif Nat.beq n id then some (.normal,s')else some (.exit n,s')
   | r=>r
  | .loop c=>match T5 sd fc call dr sc lim f c s with
   | some (.normal,s')=>T5 sd fc call dr sc lim f (.loop c) s'
   | r=>r
  | .exit n=>some (.exit n,s)
  | .scope c=>bif sc then T5 sd fc call dr sc lim f c s else none
  | .ret=>some (.ret,s)
  | .bad=>none
theorem Zj9{st:StepA}{sd:StepD}(l:Zlm st sd){X:CallW}{E:FCaller}(a:Zji X E){n lim base:Nat}(G:n≤bound):∀ (J:List AOper) (i:Nat) (s p:RS),TOk n s.t→lim≤s.m.next →
 (J.all fun o=>match o.dst with|some d=>decide (d<n)|none=>true)=true→Zan sd E lim base J i s=some p →
 RunOk n lim s p ∧ ∀ K:ASt→Prop,K (p.st n)→I4 st X base J i K (toL n s.t) s.m.mem
 | [],i,s,p,D,_,_,h=>by
  simp only[Zan,oI]at h;subst h;exact⟨⟨D,Nat.le_refl _,fun c _ N=>⟨N,rfl⟩⟩,fun K u=>u⟩
 | o :: r,i,s,p,D,k,hd,h=>by
  simp only[List.all_cons,bA]at hd;obtain⟨Z,A⟩:=hd;have w:=Zpp Z;simp only[Zan]at h;cases N:Zfm s.t o.guard with
  | none=>simp[N]at h
  | some q=>
   have I:S6 (toL n s.t) o.guard=some q:=by rw[Zrm D]; exact N
   cases q with
   | false=>
    simp only[N]at h;obtain⟨p1,O⟩:=Zbd (v:=aundef) G D w;obtain⟨b,z⟩:=Zj9 l a G r (i+1) ⟨S9 s.t o.dst aundef,s.m,s.wl⟩ p p1 k A h;refine⟨⟨b.t,b.next,b.keep⟩,fun K u=>?_⟩
    simp only[I4,I];rw[← O];exact z K u
   | true=>
    simp only[N]at h;have L:(∀ f y,o.op≠.call f y)→(match sd (base+i) (evT s.t) s.m.tr.get o.op with
     | some (v,[])=>Zan sd E lim base r (i+1) ⟨S9 s.t o.dst v,s.m,s.wl⟩
     | some (v,d)=>bif okD d then Zan sd E lim base r (i+1) ⟨S9 s.t o.dst v,s.m.apply d,addW lim s.wl d⟩ else none
     | none=>none)=some p→RunOk n lim s p ∧ ∀ K:ASt→Prop,K (p.st n) → ∃ v U,st (base+i) (toL n s.t) s.m.mem o.op=some (v,U)∧I4 st X base r (i+1) K (put (toL n s.t) o.dst v) U:=by
     intro C B;cases S:sd (base+i) (evT s.t) s.m.tr.get o.op with
     | none=>simp[S]at B
     | some vd=>
      obtain⟨v,d⟩:=vd;obtain⟨p1,O⟩:=Zbd (v:=v) G D w;cases d with
      | nil=>
       simp only[S]at B;obtain⟨b,z⟩:=Zj9 l a G r (i+1) ⟨S9 s.t o.dst v,s.m,s.wl⟩ p p1 k A B;exact⟨⟨b.t,b.next,b.keep⟩,fun K u=>⟨v,s.m.mem,l _ _ _ _ _ _ _ D S rfl,by rw[← O]; exact z K u⟩⟩
      | cons e d=>
       simp only[S]at B;cases V:okD (e :: d)with
       | false=>rw[V]at B; cases B
       | true=>
        rw[V]at B;simp only[cond_true]at B;obtain⟨b,z⟩:=Zj9 l a G r (i+1) _ p p1 (by rw[TM.apply_next]; exact k) A B
        refine⟨⟨b.t,by have:=b.next; rw[TM.apply_next]at this; exact this,fun c M H=>?_⟩,fun K u=>⟨v,_,l _ _ _ _ _ _ _ D S V,by rw[← O]; exact z K u⟩⟩
        obtain⟨k1,k2⟩:=b.keep c M H;obtain⟨k3,k4⟩:=Zgc (e :: d) s.wl s.m.mem c M k1;exact⟨k3,by rw[k2,TM.apply_mem _ _ V]; exact k4⟩
    by_cases Q:∃ f y,o.op=.call f y
    ·obtain⟨f,y,j⟩:=Q;simp only[j]at h;cases M:Zng s.t f y with
     | none=>simp[M]at h
     | some ga=>
      obtain⟨g,args⟩:=ga;simp only[M]at h;cases F:E g args s.m with
      | none=>simp[F]at h
      | some aa=>
       obtain⟨v,U,wl⟩:=aa;simp only[F]at h;obtain⟨q1,q2,q3⟩:=a g args s.m v U wl F;obtain⟨p1,O⟩:=Zbd (v:=v) G D w;obtain⟨b,z⟩:=Zj9 l a G r (i+1) _ p p1 (Nat.le_trans k q1) A h;refine⟨⟨b.t,Nat.le_trans q1 b.next,fun c P H=>?_⟩,fun K u=>?_⟩
       ·obtain⟨k1,k2⟩:=b.keep c P H;obtain⟨k3,k4⟩:=Zjj wl s.wl c P k1;exact⟨k3,by rw[k2]; exact q2 c (by omega) k4⟩
       ·have Y:Zdt (toL n s.t) f y=some (g,args):=by rw[Z04 D]; exact M
        simp only[I4,I,j,Y];refine q3 (base+i) _ ?_;rw[← O];exact z K u
    ·have C:∀ f y,o.op≠.call f y:=fun f y he=>Q ⟨f,y,he⟩
     have h':(match sd (base+i) (evT s.t) s.m.tr.get o.op with
      | some (v,[])=>Zan sd E lim base r (i+1) ⟨S9 s.t o.dst v,s.m,s.wl⟩
      | some (v,d)=>bif okD d then Zan sd E lim base r (i+1) ⟨S9 s.t o.dst v,s.m.apply d,addW lim s.wl d⟩ else none
      | none=>none)=some p:=by
      cases j:o.op<;>rw[j]at h<;>first|(exact absurd j (C _ _))|exact h
     obtain⟨b,z⟩:=L C h';refine⟨b,fun K u=>?_⟩
     obtain⟨v,U,h3,h4⟩:=z K u;simp only[I4,I];cases j:o.op<;>rw[j]at h3<;>first|(exact absurd j (C _ _))|(simp only[h3]; exact h4)
theorem Zil{st:StepA}{sd:StepD}(S:Zlm st sd){V:CallW}{C:FCaller}(N:Zji V C){o:Caller}(G:O2 P o){dr sc:Bool}{n lim:Nat}(X:n≤bound):∀ (f:Nat) (c:ACode) (s z:RS) (e:REnd),TOk n s.t→lim≤s.m.next→N8 n c=true→T5 sd C o dr sc lim f c s=some (e,z) →
 RunOk n lim s z ∧ ∀ Q:Exit→ASt→Prop,Q e.exit' (z.st n)→T3 (wrG P dr st V) sc c Q (s.st n):=by
 intro f
 induction f using Nat.strongRecOn with
 | ind f E=>
  intro c s z e B p v h;cases f with
  | zero=>simp[T5]at h
  | succ f=>
   have same:RunOk n lim s s:=⟨B,Nat.le_refl _,fun c _ hw=>⟨hw,rfl⟩⟩
   cases c with
   | skip=>
    simp only[T5,oI,pI2]at h;obtain⟨rfl,rfl⟩:=h;exact⟨same,fun Q d=>d⟩
   | label l=>
    simp only[T5,oI,pI2]at h;obtain⟨rfl,rfl⟩:=h;exact⟨same,fun Q d=>d⟩
   | exit i=>
    simp only[T5,oI,pI2]at h;obtain⟨rfl,rfl⟩:=h;exact⟨same,fun Q d=>d⟩
   | ret=>
    simp only[T5,oI,pI2]at h;obtain⟨rfl,rfl⟩:=h;exact⟨same,fun Q d=>d⟩
   | bad=>simp[T5]at h
   | region I q=>
    cases I with
    | false=>
     simp only[T5]at h;cases w:Nat.ble (s.m.next+q.length) bound with
     | false=>rw[w]at h; cases h
     | true=>
      rw[w]at h;simp only[cond_true]at h;cases j:Zan sd C lim s.m.next q 0 ⟨s.t,⟨s.m.tr,s.m.next+q.length⟩,s.wl⟩ with
      | none=>simp[j]at h
      | some y=>
       simp only[j,oI,pI2]at h;obtain⟨rfl,rfl⟩:=h;obtain⟨g,r⟩:=Zj9 S N X q 0 ⟨s.t,⟨s.m.tr,s.m.next+q.length⟩,s.wl⟩ y B (by show lim≤s.m.next+q.length; omega) v j
       refine⟨⟨g.t,Nat.le_trans (Nat.le_add_right _ _) g.next,g.keep⟩,fun Q d=>?_⟩
       exact r (Q .normal) d
    | true=>
     simp only[T5]at h;cases J:dr with
     | false=>rw[J]at h; cases h
     | true=>
     rw[J]at h;simp only[cond_true]at h;cases w:Nat.ble (s.m.next+q.length) bound with
     | false=>rw[w]at h; cases h
     | true=>
      rw[w]at h;simp only[cond_true]at h;cases j:runD o lim s.m.next q [] ⟨s.t,⟨s.m.tr,s.m.next+q.length⟩,s.wl⟩ with
      | none=>simp[j]at h
      | some y=>
       simp only[j,oI,pI2]at h;obtain⟨rfl,rfl⟩:=h;obtain⟨g,r⟩:=Zkc G X q [] ⟨s.t,⟨s.m.tr,s.m.next+q.length⟩,s.wl⟩ y B (by show lim≤s.m.next+q.length; omega) v j
       refine⟨⟨g.t,Nat.le_trans (Nat.le_add_right _ _) g.next,g.keep⟩,fun Q d=>?_⟩
       exact⟨rfl,r (Q .normal) d⟩
   | seq a b=>
    simp only[N8,bA]at v;simp only[T5]at h;cases j:T5 sd C o dr sc lim f a s with
    | none=>simp[j]at h
    | some F=>
     obtain⟨A,y⟩:=F;obtain⟨g,r⟩:=E f (Nat.lt_succ_self f) a s y A B p v.1 j;cases A with
     | normal=>
      simp only[j]at h;obtain⟨h3,h4⟩:=E f (Nat.lt_succ_self f) b y z e g.t (Nat.le_trans p g.next) v.2 h;exact⟨g.trans h3,fun Q d=>r _ (h4 Q d)⟩
     | exit i=>
      simp only[j,oI,pI2]at h;obtain⟨rfl,rfl⟩:=h;exact⟨g,fun Q d=>r _ d⟩
     | ret=>
      simp only[j,oI,pI2]at h;obtain⟨rfl,rfl⟩:=h;exact⟨g,fun Q d=>r _ d⟩
   | cond x a b=>
    simp only[N8,bA]at v;simp only[T5]at h;have Y:ev (toL n s.t) x=evT s.t x:=congrFun (Zds B) x;split at h
    ·rename_i w;obtain⟨g,r⟩:=E f (Nat.lt_succ_self f) a s z e B p v.1 h;refine⟨g,fun Q d=>?_⟩
     simp only[T3,RS.st,Y,w];exact r Q d
    ·rename_i w;obtain⟨g,r⟩:=E f (Nat.lt_succ_self f) b s z e B p v.2 h;refine⟨g,fun Q d=>?_⟩
     simp only[T3,RS.st,Y,w];exact r Q d
    ·cases h
   | block i c=>
    simp only[N8]at v;simp only[T5]at h;cases j:T5 sd C o dr sc lim f c s with
    | none=>simp[j]at h
    | some F=>
     obtain⟨A,y⟩:=F;obtain⟨g,r⟩:=E f (Nat.lt_succ_self f) c s y A B p v j;cases A with
     | normal=>
      simp only[j,oI,pI2]at h;obtain⟨rfl,rfl⟩:=h;exact⟨g,fun Q d=>r _ d⟩
     | ret=>
      simp only[j,oI,pI2]at h;obtain⟨rfl,rfl⟩:=h;exact⟨g,fun Q d=>r _ d⟩
     | exit k=>
      simp only[j]at h;cases w:Nat.beq k i with
      | true=>
       rw[w]at h;simp only[cond_true,oI,pI2]at h;obtain⟨rfl,rfl⟩:=h;have:=Nat.eq_of_beq_eq_true w;subst this;exact⟨g,fun Q d=>r _ (by simp only[REnd.exit',Zaz,if_true]; exact d)⟩
      | false=>
       rw[w]at h;simp only[cond_false,oI,pI2]at h;obtain⟨rfl,rfl⟩:=h;have O:k≠i:=fun e=>by subst e; rw[Nat.beq_refl]at w; cases w
       exact⟨g,fun Q d=>r _ (by simp only[REnd.exit',Zaz,if_neg O]; exact d)⟩
   | scope c=>
    simp only[N8]at v;simp only[T5]at h;cases D:sc with
    | false=>rw[D]at h; cases h
    | true=>
     rw[D]at h;simp only[cond_true]at h;have h':T5 sd C o dr sc lim f c s=some (e,z):=by rw[D]; exact h
     obtain⟨g,r⟩:=E f (Nat.lt_succ_self f) c s z e B p v h';rw[D]at r;refine⟨g,fun Q d=>⟨rfl,r _ ?_⟩⟩
     cases e<;>exact d
   | loop c=>
    have M:=v;simp only[N8]at v;have K:RunOk n lim s z:=by
     simp only[T5]at h;cases j:T5 sd C o dr sc lim f c s with
     | none=>simp[j]at h
     | some F=>
      obtain⟨A,y⟩:=F;obtain⟨g,_⟩:=E f (Nat.lt_succ_self f) c s y A B p v j;cases A with
      | normal=>
       simp only[j]at h;exact g.trans (E f (Nat.lt_succ_self f) (.loop c) y z e g.t (Nat.le_trans p g.next) M h).1
      | exit i=>
       simp only[j,oI,pI2]at h;obtain⟨rfl,rfl⟩:=h;exact g
      | ret=>
       simp only[j,oI,pI2]at h;obtain⟨rfl,rfl⟩:=h;exact g
    refine⟨K,fun Q d=>?_⟩
    refine⟨fun k Z=>k≤f ∧ ∃ H,Z=H.st n∧TOk n H.t∧lim≤H.m.next∧T5 sd C o dr sc lim (k+1) (.loop c) H=some (e,z),⟨f,_,.refl _,Nat.le_refl _,s,rfl,B,p,h⟩,?_⟩
    rintro k Z ⟨aa,H,rfl,U,L,u⟩;simp only[T5]at u;cases j:T5 sd C o dr sc lim k c H with
    | none=>simp[j]at u
    | some F=>
     obtain⟨A,y⟩:=F;obtain⟨g,r⟩:=E k (by omega) c H y A U L v j
     refine r _ ?_;cases A with
     | normal=>
      simp only[j]at u;cases k with
      | zero=>simp[T5]at u
      | succ k=>exact ⟨k,y.st n,Nat.lt_succ_self k,.refl _,by omega,y,rfl,g.t,Nat.le_trans L g.next,u⟩
     | exit i=>
      simp only[j,oI,pI2]at u;obtain⟨rfl,rfl⟩:=u;exact d
     | ret=>
      simp only[j,oI,pI2]at u;obtain⟨rfl,rfl⟩:=u;exact d
end Go.AE
end
section
namespace Go.AE
open Go.RowKit
variable {P:Program}
def fcFn(call:Caller):FCaller:=fun fn args m=>
 match fn with
 | .func g=>call g args m
 | _=>none
theorem Zjk{a:Caller}(b:O2 P a):Zji (cwFn P) (fcFn a):=by
 intro fn args m v j wl h;cases fn<;>simp only[fcFn]at h<;>first|(cases h; done)|skip
 rename_i g;obtain⟨c,d,e⟩:=b g args m v j wl h;refine⟨c,d,fun id K f=>⟨g,rfl,(e id).mono fun r k i=>?_⟩⟩
 obtain⟨rfl,rfl⟩:=i;exact f
def Zg0(t:Tr AVal):List (Nat×AVal)→Tr AVal
 | []=>t
 | (i,x) :: r=>Zg0 (S9 t (some i) x) r
theorem Zs6{n:Nat}(e:n≤bound):∀ (l:List (Nat×AVal)) (t:Tr AVal),TOk n t→(∀ p,p∈l→p.1<n)→TOk n (Zg0 t l)∧toL n (Zg0 t l)=Zd7 (toL n t) l
 | [],t,b,_=>⟨b,rfl⟩
 | (i,x) :: r,t,b,c=>by
  obtain⟨p1,g⟩:=Zbd (v:=x) (d:=some i) e b (fun k a=>by injection a with a; subst a; exact c _ (List.mem_cons_self ..))
  obtain⟨h,j⟩:=Zs6 e r _ p1 (fun p f=>c p (List.mem_cons_of_mem _ f))
  refine⟨h,?_⟩;simp only[Zg0,Zd7];rw[j,g];rfl
def fcY(call:Caller)(b0:Nat)(ps:List Nat)(tR:Tr AVal)(A B:ACode):FCaller:=fun fn args m=>
 match fn with
 | .func g=>call g args m
 | .yield b=>bif Nat.beq b b0 then bif Nat.beq args.length ps.length then
  match T5 stepD (fcFn call) call false false m.next 1000 A ⟨Zg0 tR (ps.zip args),m,[]⟩ with
  | some (.normal,s1)=>match T5 stepD (fcFn call) call false false m.next 1000 B s1 with
   | some (.normal,s2)=>some (.bool true,s2.m,s2.wl)
   | _=>none
  | _=>none
  else none else none
 | _=>none
theorem Z02{d:Caller}(a:O2 P d){b0 n:Nat}{ps:List Nat}{tR:Tr AVal}{A B:ACode}(u:n≤bound)(Q:TOk n tR)(w:(ps.all fun p=>decide (p<n))=true)(L:N8 n A=true)(M:N8 n B=true) :
 Zji (cwY P b0 ps (toL n tR) A B) (fcY d b0 ps tR A B):=by
 intro fn args m v U wl h;cases fn<;>simp only[fcY]at h<;>first|(cases h; done)|skip
 case func g=>
  obtain⟨H,I,J⟩:=Zjk a (.func g) args m v U wl h;exact⟨H,I,fun id K l=>.inl (J id K l)⟩
 case yield b=>
  cases o:Nat.beq b b0 with
  | false=>rw[o]at h; cases h
  | true=>
   rw[o]at h;simp only[cond_true]at h;have q:=Nat.eq_of_beq_eq_true o;subst q;cases r:Nat.beq args.length ps.length with
   | false=>rw[r]at h; cases h
   | true=>
    rw[r]at h;simp only[cond_true]at h;have s:=Nat.eq_of_beq_eq_true r;obtain⟨p1,V⟩:=Zs6 u (ps.zip args) tR Q (fun p O=>by
     have:=List.of_mem_zip O;simpa using List.all_eq_true.1 w _ this.1)
    cases e:T5 stepD (fcFn d) d false false m.next 1000 A ⟨Zg0 tR (ps.zip args),m,[]⟩ with
    | none=>simp[e]at h
    | some j=>
     obtain⟨z,y⟩:=j;obtain⟨k,E⟩:=Zil Zm7 (Zjk a) a u 1000 A ⟨Zg0 tR (ps.zip args),m,[]⟩ y z p1 (Nat.le_refl _) L e;cases z with
     | exit i=>simp[e]at h
     | ret=>simp[e]at h
     | normal=>
      simp only[e]at h;cases f:T5 stepD (fcFn d) d false false m.next 1000 B y with
      | none=>simp[f]at h
      | some j=>
       obtain⟨C,X⟩:=j;obtain⟨F,G⟩:=Zil Zm7 (Zjk a) a u 1000 B y X C k.t k.next M f;cases C with
       | exit i=>simp[f]at h
       | ret=>simp[f]at h
       | normal=>
        simp only[f,oI,pI2]at h;obtain⟨rfl,rfl,rfl⟩:=h;have D:=k.trans F;refine⟨D.next,fun c N S=>(D.keep c N S).2,fun id K l=>.inr ⟨rfl,s,?_⟩⟩
        rw[← V];exact E _ (G _ l)
def Zgl:Code→Option (List Code×Code×Nat×Operand×Array Tmp×Code×Code×Code)
 | .seq (.seq x (.block b (.rangeFunc g ps asn bd))) y=>some ([],x,b,g,ps,asn,bd,y)
 | .seq a r=>match Zgl r with
  | some p=>some (a :: p.1,p.2)
  | none=>none
 | _=>none
def seqs:List Code→Code→Code
 | [],c=>c
 | a :: r,c=>.seq a (seqs r c)
theorem Z7d:∀ (c:Code) (p:List Code×Code×Nat×Operand×Array Tmp×Code×Code×Code),Zgl c=some p →
 c=seqs p.1 (.seq (.seq p.2.1 (.block p.2.2.1 (.rangeFunc p.2.2.2.1 p.2.2.2.2.1 p.2.2.2.2.2.1 p.2.2.2.2.2.2.1))) p.2.2.2.2.2.2.2):=by
 intro c
 induction c with
 | seq a r _ f=>
  intro p h;unfold Zgl at h;split at h
  ·rename_i x b g ps asn bd y d;injection d with h1 h2
   subst h1; subst h2;injection h with h
   subst h;rfl
  ·rename_i i j _ d;injection d with h1 h2
   subst h1; subst h2;cases e:Zgl r with
   | none=>simp[e]at h
   | some q=>
    simp only[e,oI]at h;subst h;simp only[seqs];rw[← f q e]
  ·cases h
 | _=>intro p h; simp[Zgl]at h
structure AParts where
 ntmps:Nat
 results:List (Nat×Option (Option Nat))
 pre:List ACode
 x:ACode
 g:AOpd
 ps:List Nat
 asn:ACode
 bd:ACode
 y:ACode
def Zju(P:Program)(fn:Func):Option AParts:=
 match fn.body with
 | some c=>match Zgl c with
  | some (pre,x,_,g,ps,asn,bd,y)=>match Y4 g,Zad P fn.results.toList with
   | some g',some rs=>if fn.name == "runtime.NumGoroutine" then none else some ⟨fn.ntmps,rs,pre.map (Y1 P),Y1 P x,g',ps.toList,Y1 P asn,Y1 P bd,Y1 P y⟩
   | _,_=>none
  | none=>none
 | none=>none
def Zhj(call:Caller)(lim:Nat):List ACode→RS→Option (REnd×RS)
 | [],s=>some (.normal,s)
 | a :: r,s=>match T9 call lim 1000 a s with
  | some (.normal,s')=>Zhj call lim r s'
  | some (.ret,s')=>some (.ret,s')
  | _=>none
def runR(tab:Nat→Option AFn)(call:Caller)(p:AParts)(args:List AVal)(m:TM):Option (AVal×TM×List Nat):=
 bif Nat.ble args.length p.ntmps then
 match Zhj call m.next p.pre ⟨H0 .nil 0 args,m,[]⟩ with
 | some (.ret,s)=>match A2 s.t s.m p.results with
  | some v=>some (v,s.m,s.wl)
  | none=>none
 | some (.normal,s)=>match T9 call m.next 1000 p.x s with
  | some (.normal,s1)=>match evT s1.t p.g with
   | .func (.func gf) first cap=>match tab gf with
    | some af=>bif Nat.ble (first++[AVal.yld s1.m.next]++cap).length af.ntmps then
     match T5 stepD (fcY call s1.m.next p.ps s1.t p.asn p.bd) call true true m.next 1000 af.body ⟨H0 .nil 0 (first++[.yld s1.m.next]++cap),⟨s1.m.tr,s1.m.next+1⟩,s1.wl⟩ with
     | some (.exit _,_)=>none
     | some (_,s2)=>match A2 s2.t s2.m af.results with
      | some _=>match T5 stepD (fcFn call) call false false m.next 1000 p.y ⟨s1.t,s2.m,s2.wl⟩ with
       | some (.exit _,_)=>none
       | some (_,s3)=>match A2 s3.t s3.m p.results with
        | some v=>some (v,s3.m,s3.wl)
        | none=>none
       | none=>none
      | none=>none
     | none=>none
     else none
    | none=>none
   | _=>none
  | _=>none
 | _=>none
 else none
def AParts.ok(p:AParts):Bool:=
 p.pre.all (N8 p.ntmps)&&N8 p.ntmps p.x&&(p.ps.all fun q=>decide (q<p.ntmps))&&N8 p.ntmps p.asn&&N8 p.ntmps p.bd&&N8 p.ntmps p.y&&decide (p.ntmps≤bound)
theorem Ztk(hm:P.follows .mixedOrders=true){a:Caller}(b:O2 P a){n lim:Nat}(u:n≤bound):∀ (g:List Code) (s f:RS) (e:REnd),TOk n s.t→lim≤s.m.next→(g.map (Y1 P)).all (N8 n)=true→Zhj a lim (g.map (Y1 P)) s=some (e,f) →
 RunOk n lim s f∧(e=.normal∨e=.ret) ∧ ∀(c:Code) (K:ASt→Prop),(e=.ret→K (f.st n))→(e=.normal→AR P c K (f.st n))→AR P (seqs g c) K (s.st n)
 | [],s,f,e,q,_,_,h=>by
  simp only[List.map_nil,Zhj,oI,pI2]at h;obtain⟨rfl,rfl⟩:=h;exact⟨⟨q,Nat.le_refl _,fun c _ C=>⟨C,rfl⟩⟩,.inl rfl,fun c K _ l=>l rfl⟩
 | x :: g,s,f,e,q,d,p,h=>by
  simp only[List.map_cons,List.all_cons,bA]at p;simp only[List.map_cons,Zhj]at h;cases j:T9 a lim 1000 (Y1 P x) s with
  | none=>simp[j]at h
  | some w=>
   obtain⟨r,v⟩:=w;obtain⟨k,l⟩:=Zqd b u 1000 (Y1 P x) s v r q d p.1 j;cases r with
   | exit i=>simp[j]at h
   | ret=>
    simp only[j,oI,pI2]at h;obtain⟨rfl,rfl⟩:=h;exact⟨k,.inr rfl,fun c K o _=>Zxn (Zjr hm x _ _ (l (seqQ K (AR P (seqs g c) K)) (o rfl)))⟩
   | normal=>
    simp only[j]at h;obtain⟨y,z,A⟩:=Ztk hm b u g v f e k.t (Nat.le_trans d k.next) p.2 h;exact⟨k.trans y,z,fun c K o B=>Zxn (Zjr hm x _ _ (l (seqQ K (AR P (seqs g c) K)) (A c K o B)))⟩
theorem Z9g{fn:Func}{p:AParts}(h:Zju P fn=some p):∃ c pre x b g ps asn bd y,fn.body=some c∧c=seqs pre (.seq (.seq x (.block b (.rangeFunc g ps asn bd))) y)∧Y4 g=some p.g∧Zad P fn.results.toList=some p.results ∧
 (fn.name == "runtime.NumGoroutine")=false∧p.ntmps=fn.ntmps∧p.pre=pre.map (Y1 P)∧p.x=Y1 P x∧p.ps=ps.toList∧p.asn=Y1 P asn∧p.bd=Y1 P bd∧p.y=Y1 P y:=by
 unfold Zju at h;cases f:fn.body with
 | none=>simp[f]at h
 | some c=>
  simp only[f]at h;cases d:Zgl c with
  | none=>simp[d]at h
  | some q=>
   obtain⟨pre,x,b,g,ps,asn,bd,y⟩:=q;simp only[d]at h;split at h<;>first|(cases h; done)|skip
   rename_i j k i e;split at h<;>first|(cases h; done)|skip
   rename_i a;injection h with h
   subst h;exact⟨c,pre,x,b,g,ps,asn,bd,y,rfl,Z7d c _ d,i,e,by simpa using a,rfl,rfl,rfl,rfl,rfl,rfl,rfl⟩
theorem Z3j(hm:P.follows .mixedOrders=true){tab:Nat→Option AFn}(X:Ze5 P tab){j:Caller}(a:O2 P j){f:FuncId}{fn:Func}{p:AParts}(hf:P.funcs[f]? = some fn)(hp:Zju P fn=some p)(F:p.ok=true)
 {args:List AVal} {m C:TM} {v:AVal} {wl:List Nat} (h:runR tab j p args m=some (v,C,wl)) :
 m.next≤C.next∧(∀ c,c<m.next→c∉wl→C.mem.get c=m.mem.get c) ∧ ∀ Z,ACalls P f args m.mem Z fun r I=>r=v∧I=C.mem:=by
 obtain⟨c,pre,x,b,g,ps,asn,bd,y,hb,u,hg,ak,E,aj,M,ex,ab,L,aa,ey⟩:=Z9g hp;unfold AParts.ok at F;simp only[bA,decide_eq_true_eq]at F;obtain⟨⟨⟨⟨⟨⟨o1,o2⟩,o3⟩,o4⟩,o5⟩,o6⟩,Y⟩:=F;unfold runR at h;cases hl:Nat.ble args.length p.ntmps with
 | false=>rw[hl]at h; cases h
 | true=>
 rw[hl]at h;simp only[cond_true]at h;obtain⟨a1,a2⟩:=Zlg Y (Zk8 hl);rw[M]at h o1;have N:∀ s:RS,RunOk p.ntmps m.next ⟨H0 .nil 0 args,m,[]⟩ s→A2 s.t s.m p.results=some v→C=s.m→wl=s.wl →
  ((∀ K:ASt→Prop,K (s.st p.ntmps)→AR P c K ((⟨H0 .nil 0 args,m,[]⟩:RS).st p.ntmps)) →
  m.next≤C.next∧(∀ c,c<m.next→c∉wl→C.mem.get c=m.mem.get c) ∧ ∀ Z,ACalls P f args m.mem Z fun r I=>r=v∧I=C.mem):=by
  intro s hs V e1 e2 hA;subst e1; subst e2;refine⟨hs.next,fun c u hw=>(hs.keep c u hw).2,fun Z=>Z3f hf hb E ak ?_⟩
  rw[← aj,← a2];refine hA _ ?_;have:L6 (toL p.ntmps s.t) s.m.mem p.results=some v:=by rw[Znh hs.t]; exact V
  simp only[RS.st,this];exact⟨trivial,trivial⟩
 cases o:Zhj j m.next (pre.map (Y1 P)) ⟨H0 .nil 0 args,m,[]⟩ with
 | none=>simp[o]at h
 | some es=>
  obtain⟨e,s⟩:=es;obtain⟨g1,g2,g3⟩:=Ztk hm a Y (lim:=m.next) pre ⟨H0 .nil 0 args,m,[]⟩ s e a1 (Nat.le_refl _) o1 o;simp only[o]at h;cases e with
  | exit i=>simp at h
  | ret=>
   simp only at h;cases hr:A2 s.t s.m p.results with
   | none=>simp[hr]at h
   | some r=>
    simp only[hr,oI,pI2]at h;obtain⟨rfl,rfl,rfl⟩:=h;refine N s g1 hr rfl rfl fun K hK=>?_
    rw[u];exact g3 _ K (fun _=>hK) (fun he=>by cases he)
  | normal=>
   simp only at h;rw[ex]at h o2;cases hx:T9 j m.next 1000 (Y1 P x) s with
   | none=>simp[hx]at h
   | some es=>
    obtain⟨e1,d⟩:=es;simp only[hx]at h;obtain⟨k1,k2⟩:=Zqd a Y 1000 (Y1 P x) s d e1 g1.t g1.next o2 hx;cases e1 with
    | exit i=>simp at h
    | ret=>simp at h
    | normal=>
     simp only at h;split at h<;>first|(cases h; done)|skip
     rename_i gf first cap ae;cases ht:tab gf with
     | none=>simp[ht]at h
     | some q=>
      simp only[ht]at h;obtain⟨⟨ar,ag,ac⟩,ad,Q⟩:=X gf q ht;cases D:Nat.ble (first++[AVal.yld d.m.next]++cap).length q.ntmps with
      | false=>rw[D]at h; cases h
      | true=>
       rw[D]at h;simp only[cond_true]at h;obtain⟨b1,b2⟩:=Zlg Q (Zk8 D);have gk:=g1.trans k1;have af:=Z02 (P:=P) a (b0:=d.m.next) (ps:=p.ps) (A:=p.asn) (B:=p.bd) Y k1.t o3 o4 o5;split at h<;>first|(cases h; done)|skip
       rename_i e2 k ai ah;obtain⟨j1,j2⟩:=Zil Zm7 af a Q 1000 q.body ⟨H0 .nil 0 (first++[.yld d.m.next]++cap),⟨d.m.tr,d.m.next+1⟩,d.wl⟩ k e2 b1 (by have h1:m.next≤d.m.next:=gk.next; show m.next≤d.m.next+1; omega) ad ah
       cases H:A2 k.t k.m q.results with
       | none=>simp[H]at h
       | some ri=>
        simp only[H]at h;rw[ey]at h o6;split at h<;>first|(cases h; done)|skip
        rename_i e3 J U hy;obtain⟨l1,l2⟩:=Zil (dr:=false) (sc:=false) Zm7 (Zjk a) a Y 1000 (Y1 P y) ⟨d.t,k.m,k.wl⟩ J e3 k1.t (by
         have h1:m.next≤d.m.next:=gk.next;have h2:d.m.next+1≤k.m.next:=j1.next;show m.next≤k.m.next;omega) o6 hy
        cases G:A2 J.t J.m p.results with
        | none=>simp[G]at h
        | some r=>
         simp only[G,oI,pI2]at h;obtain⟨rfl,rfl,rfl⟩:=h;have O:RunOk p.ntmps m.next ⟨H0 .nil 0 args,m,[]⟩ J:=by
          refine⟨l1.t,?_,fun c u hw=>?_⟩
          ·have h1:m.next≤d.m.next:=gk.next;have h2:d.m.next+1≤k.m.next:=j1.next;have h3:k.m.next≤J.m.next:=l1.next;show m.next≤J.m.next;omega
          ·obtain⟨q1,q2⟩:=l1.keep c u hw;obtain⟨q3,q4⟩:=j1.keep c u q1;obtain⟨q5,q6⟩:=gk.keep c u q3;exact⟨q5,q2.trans (q4.trans q6)⟩
         refine N J O G rfl rfl fun K hK=>?_
         rw[u];refine g3 _ K (fun he=>by cases he) fun _=>Z8g hg (Zjr hm x _ _ (k2 _ ?_))
         refine⟨gf,first,cap,by rw[← ae]; exact congrFun (Zds k1.t) p.g,fun l r al am an ao aq=>?_⟩
         have S:=Z0c (P:=P) (n:=0) (b:=d.m.next) (l:=l) (tR:=toL p.ntmps d.t) al am;rw[an,ao,aq,← ab,← L,← aa]at S;refine Zr7 hm HLoop.mono (Zj7 Open.wide) S ag ac ?_;show T3 _ true q.body _ ⟨first++[AVal.yld d.m.next]++cap++List.replicate (q.ntmps - (first++[AVal.yld d.m.next]++cap).length) aundef,d.m.mem.at (d.m.next+1)⟩;rw[← b2];refine j2 _ ?_;have z:L6 (toL q.ntmps k.t) k.m.mem q.results=some ri:=by rw[Znh j1.t]; exact H
         have w:T3 (wrG P false stepA (cwFn P)) false (Y1 P y) (seqQ K K) ⟨toL p.ntmps d.t,k.m.mem⟩:=by
          refine l2 _ ?_;cases e3 with
          | normal=>exact hK
          | ret=>exact hK
          | exit i=>exact absurd rfl (U i)
         cases e2 with
         | normal=>simp only[REnd.exit',retK,RS.st,z]; exact w
         | ret=>simp only[REnd.exit',retK,RS.st,z]; exact w
         | exit i=>exact absurd rfl (ai i)
end Go.AE
end
