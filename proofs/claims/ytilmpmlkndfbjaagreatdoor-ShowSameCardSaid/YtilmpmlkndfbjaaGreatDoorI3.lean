/- Part 3 of the proof: AeGe, AeGf. -/
import Derived.Test.YtilmpmlkndfbjaaGreatDoorI2
set_option linter.all false
section
namespace Go.AE
open Go.RowKit
variable {P:Program}
abbrev FCaller:=Fn→List AVal→TM→Option (AVal×TM×List Nat)
def Zjk(cw:CallW)(fc:FCaller):Prop:=
 ∀ fn args m v m' wl,fc fn args m=some (v,m',wl)→m.next≤m'.next∧(∀ c,c<m.next→c∉wl→m'.mem.get c=m.mem.get c) ∧ ∀ id (K:AVal→Mem→Prop),K v m'.mem→cw fn args m.mem id K
def Zlh(t:Tr AVal)(f:AOpd)(xs:List AOpd):Option (Fn×List AVal):=
 match evT t f with
 | .func (.func g) first cap=>some (.func g,first++xs.map (evT t)++cap)
 | .yld b=>some (.yield b,xs.map (evT t))
 | _=>none
theorem Ydt{n:Nat}{t:Tr AVal}(a:TOk n t)(f:AOpd)(xs:List AOpd):Za4 (toL n t) f xs=Zlh t f xs:=by
 simp only[Za4,Zlh,Zdu a];rfl
abbrev StepD:=Nat→(AOpd→AVal)→(Nat→Option ABlk)→AOp→Option (AVal×List (Nat×Option ABlk))
def Zng(st:StepA)(sd:StepD):Prop:=
 ∀(n id:Nat) (t:Tr AVal) (m:TM) (op:AOp) (v:AVal) (d:List (Nat×Option ABlk)),TOk n t→sd id (evT t) m.tr.get op=some (v,d)→okD d=true→st id (toL n t) m.mem op=some (v,(m.apply d).mem)
theorem Zne:Zng stepA stepD:=fun _ _ _ _ _ _ _ b h a=>Zkm b h a
def Zar(sd:StepD)(fc:FCaller)(lim base:Nat):List AOper→Nat→RS→Option RS
 | [],_,s=>some s
 | o :: r,i,s=>
  match Zf8 s.t o.guard with
  | some false=>Zar sd fc lim base r (i+1) { s with t:=R2 s.t o.dst aundef }
  | some true=>
   match o.op with
   | .call f xs=>match Zlh s.t f xs with
    | some (g,args)=>match fc g args s.m with
     | some (v,m',wl)=>Zar sd fc lim base r (i+1) ⟨R2 s.t o.dst v,m',addL lim s.wl wl⟩
     | none=>none
    | none=>none
   | op=>match sd (base+i) (evT s.t) s.m.tr.get op with
    | some (v,[])=>Zar sd fc lim base r (i+1) ⟨R2 s.t o.dst v,s.m,s.wl⟩
    | some (v,d)=>bif okD d then Zar sd fc lim base r (i+1) ⟨R2 s.t o.dst v,s.m.apply d,addW lim s.wl d⟩ else none
    | none=>none
  | none=>none
def T7(sd:StepD)(fc:FCaller)(call:Caller)(dr sc:Bool)(lim:Nat):Nat→ACode→RS→Option (REnd×RS)
 | 0,_,_=>none
 | f+1,c,s=>
  match c with
  | .skip | .label _=>some (.normal,s)
  | .region false ops=>
   bif Nat.ble (s.m.next+ops.length) bound then match Zar sd fc lim s.m.next ops 0 ⟨s.t,⟨s.m.tr,s.m.next+ops.length⟩,s.wl⟩ with
    | some s'=>some (.normal,s')
    | none=>none
   else none
  | .region true ops=>
   bif dr then bif Nat.ble (s.m.next+ops.length) bound then match runD call lim s.m.next ops [] ⟨s.t,⟨s.m.tr,s.m.next+ops.length⟩,s.wl⟩ with
    | some s'=>some (.normal,s')
    | none=>none
   else none else none
  | .seq a b=>match T7 sd fc call dr sc lim f a s with
   | some (.normal,s')=>T7 sd fc call dr sc lim f b s'
   | r=>r
  | .cond c a b=>match evT s.t c with
   | .bool true=>T7 sd fc call dr sc lim f a s
   | .bool false=>T7 sd fc call dr sc lim f b s
   | _=>none
  | .block id c=>match T7 sd fc call dr sc lim f c s with
   | some (.exit n,s')=>bif Nat.beq n id then some (.normal,s')else some (.exit n,s')
   | r=>r
  | .loop c=>match T7 sd fc call dr sc lim f c s with
   | some (.normal,s')=>T7 sd fc call dr sc lim f (.loop c) s'
   | r=>r
  | .exit n=>some (.exit n,s)
  | .scope c=>bif sc then T7 sd fc call dr sc lim f c s else none
  | .ret=>some (.ret,s)
  | .bad=>none
theorem Zig{st:StepA}{D:StepD}(l:Zng st D){X:CallW}{E:FCaller}(a:Zjk X E){n lim base:Nat}(G:n≤bound):∀ (J:List AOper) (i:Nat) (s p:RS),TOk n s.t→lim≤s.m.next →
 (J.all fun o=>match o.dst with|some d=>decide (d<n)|none=>true)=true→Zar D E lim base J i s=some p →
 RunOk n lim s p ∧ ∀ K:ASt→Prop,K (p.st n)→O9 st X base J i K (toL n s.t) s.m.mem
 | [],i,s,p,C,_,_,h=>by
  simp only[Zar,oI]at h;subst h;exact⟨⟨C,Nat.le_refl _,fun c _ N=>⟨N,rfl⟩⟩,fun K u=>u⟩
 | o :: r,i,s,p,C,k,hd,h=>by
  simp only[List.all_cons,bA]at hd;obtain⟨Z,z⟩:=hd;have w:=Zon Z;simp only[Zar]at h;cases N:Zf8 s.t o.guard with
  | none=>simp[N]at h
  | some q=>
   have I:Q3 (toL n s.t) o.guard=some q:=by rw[Zsd C]; exact N
   cases q with
   | false=>
    simp only[N]at h;obtain⟨p1,O⟩:=Zdi (v:=aundef) G C w;obtain⟨b,y⟩:=Zig l a G r (i+1) ⟨R2 s.t o.dst aundef,s.m,s.wl⟩ p p1 k z h;refine⟨⟨b.t,b.next,b.keep⟩,fun K u=>?_⟩
    simp only[O9,I];rw[← O];exact y K u
   | true=>
    simp only[N]at h;have L:(∀ f xs,o.op≠.call f xs)→(match D (base+i) (evT s.t) s.m.tr.get o.op with
     | some (v,[])=>Zar D E lim base r (i+1) ⟨R2 s.t o.dst v,s.m,s.wl⟩
     | some (v,d)=>bif okD d then Zar D E lim base r (i+1) ⟨R2 s.t o.dst v,s.m.apply d,addW lim s.wl d⟩ else none
     | none=>none)=some p→RunOk n lim s p ∧ ∀ K:ASt→Prop,K (p.st n) → ∃ v U,st (base+i) (toL n s.t) s.m.mem o.op=some (v,U)∧O9 st X base r (i+1) K (put (toL n s.t) o.dst v) U:=by
     intro B A;cases S:D (base+i) (evT s.t) s.m.tr.get o.op with
     | none=>simp[S]at A
     | some vd=>
      obtain⟨v,d⟩:=vd;obtain⟨p1,O⟩:=Zdi (v:=v) G C w;cases d with
      | nil=>
       simp only[S]at A;obtain⟨b,y⟩:=Zig l a G r (i+1) ⟨R2 s.t o.dst v,s.m,s.wl⟩ p p1 k z A;exact⟨⟨b.t,b.next,b.keep⟩,fun K u=>⟨v,s.m.mem,l _ _ _ _ _ _ _ C S rfl,by rw[← O]; exact y K u⟩⟩
      | cons e d=>
       simp only[S]at A;cases V:okD (e :: d)with
       | false=>rw[V]at A; cases A
       | true=>
        rw[V]at A;simp only[cond_true]at A;obtain⟨b,y⟩:=Zig l a G r (i+1) _ p p1 (by rw[TM.apply_next]; exact k) z A
        refine⟨⟨b.t,by have:=b.next; rw[TM.apply_next]at this; exact this,fun c M H=>?_⟩,fun K u=>⟨v,_,l _ _ _ _ _ _ _ C S V,by rw[← O]; exact y K u⟩⟩
        obtain⟨k1,k2⟩:=b.keep c M H;obtain⟨k3,k4⟩:=Zhd (e :: d) s.wl s.m.mem c M k1;exact⟨k3,by rw[k2,TM.apply_mem _ _ V]; exact k4⟩
    by_cases Q:∃ f xs,o.op=.call f xs
    ·obtain⟨f,xs,j⟩:=Q;simp only[j]at h;cases M:Zlh s.t f xs with
     | none=>simp[M]at h
     | some ga=>
      obtain⟨g,args⟩:=ga;simp only[M]at h;cases F:E g args s.m with
      | none=>simp[F]at h
      | some aa=>
       obtain⟨v,U,wl⟩:=aa;simp only[F]at h;obtain⟨q1,q2,q3⟩:=a g args s.m v U wl F;obtain⟨p1,O⟩:=Zdi (v:=v) G C w;obtain⟨b,y⟩:=Zig l a G r (i+1) _ p p1 (Nat.le_trans k q1) z h;refine⟨⟨b.t,Nat.le_trans q1 b.next,fun c P H=>?_⟩,fun K u=>?_⟩
       ·obtain⟨k1,k2⟩:=b.keep c P H;obtain⟨k3,k4⟩:=Zjt wl s.wl c P k1;exact⟨k3,by rw[k2]; exact q2 c (by omega) k4⟩
       ·have Y:Za4 (toL n s.t) f xs=some (g,args):=by rw[Ydt C]; exact M
        simp only[O9,I,j,Y];refine q3 (base+i) _ ?_;rw[← O];exact y K u
    ·have B:∀ f xs,o.op≠.call f xs:=fun f xs he=>Q ⟨f,xs,he⟩
     have h':(match D (base+i) (evT s.t) s.m.tr.get o.op with
      | some (v,[])=>Zar D E lim base r (i+1) ⟨R2 s.t o.dst v,s.m,s.wl⟩
      | some (v,d)=>bif okD d then Zar D E lim base r (i+1) ⟨R2 s.t o.dst v,s.m.apply d,addW lim s.wl d⟩ else none
      | none=>none)=some p:=by
      cases j:o.op<;>rw[j]at h<;>first|(exact absurd j (B _ _))|exact h
     obtain⟨b,y⟩:=L B h';refine⟨b,fun K u=>?_⟩
     obtain⟨v,U,h3,h4⟩:=y K u;simp only[O9,I];cases j:o.op<;>rw[j]at h3<;>first|(exact absurd j (B _ _))|(simp only[h3]; exact h4)
theorem Zjf{st:StepA}{F:StepD}(U:Zng st F){X:CallW}{C:FCaller}(O:Zjk X C){o:Caller}(H:P4 P o){dr sc:Bool}{n lim:Nat}(Y:n≤bound):∀ (f:Nat) (c:ACode) (s z:RS) (e:REnd),TOk n s.t→lim≤s.m.next→M0 n c=true→T7 F C o dr sc lim f c s=some (e,z) →
 RunOk n lim s z ∧ ∀ Q:Exit→ASt→Prop,Q e.exit' (z.st n)→U6 (wrG P dr st X) sc c Q (s.st n):=by
 intro f
 induction f using Nat.strongRecOn with
 | ind f E=>
  intro c s z e B p v h;cases f with
  | zero=>simp[T7]at h
  | succ f=>
   have same:RunOk n lim s s:=⟨B,Nat.le_refl _,fun c _ hw=>⟨hw,rfl⟩⟩
   cases c with
   | skip=>
    simp only[T7,oI,pI2]at h;obtain⟨rfl,rfl⟩:=h;exact⟨same,fun Q d=>d⟩
   | label l=>
    simp only[T7,oI,pI2]at h;obtain⟨rfl,rfl⟩:=h;exact⟨same,fun Q d=>d⟩
   | exit i=>
    simp only[T7,oI,pI2]at h;obtain⟨rfl,rfl⟩:=h;exact⟨same,fun Q d=>d⟩
   | ret=>
    simp only[T7,oI,pI2]at h;obtain⟨rfl,rfl⟩:=h;exact⟨same,fun Q d=>d⟩
   | bad=>simp[T7]at h
   | region J q=>
    cases J with
    | false=>
     simp only[T7]at h;cases w:Nat.ble (s.m.next+q.length) bound with
     | false=>rw[w]at h; cases h
     | true=>
      rw[w]at h;simp only[cond_true]at h;cases j:Zar F C lim s.m.next q 0 ⟨s.t,⟨s.m.tr,s.m.next+q.length⟩,s.wl⟩ with
      | none=>simp[j]at h
      | some y=>
       simp only[j,oI,pI2]at h;obtain⟨rfl,rfl⟩:=h;obtain⟨g,r⟩:=Zig U O Y q 0 ⟨s.t,⟨s.m.tr,s.m.next+q.length⟩,s.wl⟩ y B (by show lim≤s.m.next+q.length; omega) v j
       refine⟨⟨g.t,Nat.le_trans (Nat.le_add_right _ _) g.next,g.keep⟩,fun Q d=>?_⟩
       exact r (Q .normal) d
    | true=>
     simp only[T7]at h;cases K:dr with
     | false=>rw[K]at h; cases h
     | true=>
     rw[K]at h;simp only[cond_true]at h;cases w:Nat.ble (s.m.next+q.length) bound with
     | false=>rw[w]at h; cases h
     | true=>
      rw[w]at h;simp only[cond_true]at h;cases j:runD o lim s.m.next q [] ⟨s.t,⟨s.m.tr,s.m.next+q.length⟩,s.wl⟩ with
      | none=>simp[j]at h
      | some y=>
       simp only[j,oI,pI2]at h;obtain⟨rfl,rfl⟩:=h;obtain⟨g,r⟩:=Zio H Y q [] ⟨s.t,⟨s.m.tr,s.m.next+q.length⟩,s.wl⟩ y B (by show lim≤s.m.next+q.length; omega) v j
       refine⟨⟨g.t,Nat.le_trans (Nat.le_add_right _ _) g.next,g.keep⟩,fun Q d=>?_⟩
       exact⟨rfl,r (Q .normal) d⟩
   | seq a b=>
    simp only[M0,bA]at v;simp only[T7]at h;cases j:T7 F C o dr sc lim f a s with
    | none=>simp[j]at h
    | some G=>
     obtain⟨A,y⟩:=G;obtain⟨g,r⟩:=E f (Nat.lt_succ_self f) a s y A B p v.1 j;cases A with
     | normal=>
      simp only[j]at h;obtain⟨h3,h4⟩:=E f (Nat.lt_succ_self f) b y z e g.t (Nat.le_trans p g.next) v.2 h;exact⟨g.trans h3,fun Q d=>r _ (h4 Q d)⟩
     | exit i=>
      simp only[j,oI,pI2]at h;obtain⟨rfl,rfl⟩:=h;exact⟨g,fun Q d=>r _ d⟩
     | ret=>
      simp only[j,oI,pI2]at h;obtain⟨rfl,rfl⟩:=h;exact⟨g,fun Q d=>r _ d⟩
   | cond x a b=>
    simp only[M0,bA]at v;simp only[T7]at h;have Z:ev (toL n s.t) x=evT s.t x:=congrFun (Zdu B) x;split at h
    ·rename_i w;obtain⟨g,r⟩:=E f (Nat.lt_succ_self f) a s z e B p v.1 h;refine⟨g,fun Q d=>?_⟩
     simp only[U6,RS.st,Z,w];exact r Q d
    ·rename_i w;obtain⟨g,r⟩:=E f (Nat.lt_succ_self f) b s z e B p v.2 h;refine⟨g,fun Q d=>?_⟩
     simp only[U6,RS.st,Z,w];exact r Q d
    ·cases h
   | block i c=>
    simp only[M0]at v;simp only[T7]at h;cases j:T7 F C o dr sc lim f c s with
    | none=>simp[j]at h
    | some G=>
     obtain⟨A,y⟩:=G;obtain⟨g,r⟩:=E f (Nat.lt_succ_self f) c s y A B p v j;cases A with
     | normal=>
      simp only[j,oI,pI2]at h;obtain⟨rfl,rfl⟩:=h;exact⟨g,fun Q d=>r _ d⟩
     | ret=>
      simp only[j,oI,pI2]at h;obtain⟨rfl,rfl⟩:=h;exact⟨g,fun Q d=>r _ d⟩
     | exit k=>
      simp only[j]at h;cases w:Nat.beq k i with
      | true=>
       rw[w]at h;simp only[cond_true,oI,pI2]at h;obtain⟨rfl,rfl⟩:=h;have:=Nat.eq_of_beq_eq_true w;subst this;exact⟨g,fun Q d=>r _ (by simp only[REnd.exit',Zav,if_true]; exact d)⟩
      | false=>
       rw[w]at h;simp only[cond_false,oI,pI2]at h;obtain⟨rfl,rfl⟩:=h;have S:k≠i:=fun e=>by subst e; rw[Nat.beq_refl]at w; cases w
       exact⟨g,fun Q d=>r _ (by simp only[REnd.exit',Zav,if_neg S]; exact d)⟩
   | scope c=>
    simp only[M0]at v;simp only[T7]at h;cases D:sc with
    | false=>rw[D]at h; cases h
    | true=>
     rw[D]at h;simp only[cond_true]at h;have h':T7 F C o dr sc lim f c s=some (e,z):=by rw[D]; exact h
     obtain⟨g,r⟩:=E f (Nat.lt_succ_self f) c s z e B p v h';rw[D]at r;refine⟨g,fun Q d=>⟨rfl,r _ ?_⟩⟩
     cases e<;>exact d
   | loop c=>
    have N:=v;simp only[M0]at v;have L:RunOk n lim s z:=by
     simp only[T7]at h;cases j:T7 F C o dr sc lim f c s with
     | none=>simp[j]at h
     | some G=>
      obtain⟨A,y⟩:=G;obtain⟨g,_⟩:=E f (Nat.lt_succ_self f) c s y A B p v j;cases A with
      | normal=>
       simp only[j]at h;exact g.trans (E f (Nat.lt_succ_self f) (.loop c) y z e g.t (Nat.le_trans p g.next) N h).1
      | exit i=>
       simp only[j,oI,pI2]at h;obtain⟨rfl,rfl⟩:=h;exact g
      | ret=>
       simp only[j,oI,pI2]at h;obtain⟨rfl,rfl⟩:=h;exact g
    refine⟨L,fun Q d=>?_⟩
    refine⟨fun k σ=>k≤f ∧ ∃ I,σ=I.st n∧TOk n I.t∧lim≤I.m.next∧T7 F C o dr sc lim (k+1) (.loop c) I=some (e,z),⟨f,_,.refl _,Nat.le_refl _,s,rfl,B,p,h⟩,?_⟩
    rintro k σ ⟨aa,I,rfl,V,M,u⟩;simp only[T7]at u;cases j:T7 F C o dr sc lim k c I with
    | none=>simp[j]at u
    | some G=>
     obtain⟨A,y⟩:=G;obtain⟨g,r⟩:=E k (by omega) c I y A V M v j
     refine r _ ?_;cases A with
     | normal=>
      simp only[j]at u;cases k with
      | zero=>simp[T7]at u
      | succ k=>exact ⟨k,y.st n,Nat.lt_succ_self k,.refl _,by omega,y,rfl,g.t,Nat.le_trans M g.next,u⟩
     | exit i=>
      simp only[j,oI,pI2]at u;obtain⟨rfl,rfl⟩:=u;exact d
     | ret=>
      simp only[j,oI,pI2]at u;obtain⟨rfl,rfl⟩:=u;exact d
end Go.AE
end
section
namespace Go.AE
open Go.RowKit
variable {P:Program}
def fcFn(call:Caller):FCaller:=fun fn args m=>
 match fn with
 | .func g=>call g args m
 | _=>none
theorem Zjo{a:Caller}(b:P4 P a):Zjk (cwFn P) (fcFn a):=by
 intro fn args m v j wl h;cases fn<;>simp only[fcFn]at h<;>first|(cases h; done)|skip
 rename_i g;obtain⟨c,d,e⟩:=b g args m v j wl h;refine⟨c,d,fun id K f=>⟨g,rfl,(e id).mono fun r k i=>?_⟩⟩
 obtain⟨rfl,rfl⟩:=i;exact f
def Zha(t:Tr AVal):List (Nat×AVal)→Tr AVal
 | []=>t
 | (i,x) :: r=>Zha (R2 t (some i) x) r
theorem Zx9{n:Nat}(e:n≤bound):∀ (l:List (Nat×AVal)) (t:Tr AVal),TOk n t→(∀ p,p∈l→p.1<n)→TOk n (Zha t l)∧toL n (Zha t l)=Za9 (toL n t) l
 | [],t,b,_=>⟨b,rfl⟩
 | (i,x) :: r,t,b,c=>by
  obtain⟨p1,g⟩:=Zdi (v:=x) (d:=some i) e b (fun k a=>by injection a with a; subst a; exact c _ (List.mem_cons_self ..))
  obtain⟨h,j⟩:=Zx9 e r _ p1 (fun p f=>c p (List.mem_cons_of_mem _ f))
  refine⟨h,?_⟩;simp only[Zha,Za9];rw[j,g];rfl
def fcY(call:Caller)(b0:Nat)(ps:List Nat)(tR:Tr AVal)(A B:ACode):FCaller:=fun fn args m=>
 match fn with
 | .func g=>call g args m
 | .yield b=>bif Nat.beq b b0 then bif Nat.beq args.length ps.length then
  match T7 stepD (fcFn call) call false false m.next 1000 A ⟨Zha tR (ps.zip args),m,[]⟩ with
  | some (.normal,s1)=>match T7 stepD (fcFn call) call false false m.next 1000 B s1 with
   | some (.normal,s2)=>some (.bool true,s2.m,s2.wl)
   | _=>none
  | _=>none
  else none else none
 | _=>none
theorem Z30{d:Caller}(a:P4 P d){b0 n:Nat}{ps:List Nat}{tR:Tr AVal}{A B:ACode}(u:n≤bound)(Q:TOk n tR)(w:(ps.all fun p=>decide (p<n))=true)(L:M0 n A=true)(M:M0 n B=true) :
 Zjk (cwY P b0 ps (toL n tR) A B) (fcY d b0 ps tR A B):=by
 intro fn args m v U wl h;cases fn<;>simp only[fcY]at h<;>first|(cases h; done)|skip
 case func g=>
  obtain⟨H,I,J⟩:=Zjo a (.func g) args m v U wl h;exact⟨H,I,fun id K l=>.inl (J id K l)⟩
 case yield b=>
  cases o:Nat.beq b b0 with
  | false=>rw[o]at h; cases h
  | true=>
   rw[o]at h;simp only[cond_true]at h;have q:=Nat.eq_of_beq_eq_true o;subst q;cases r:Nat.beq args.length ps.length with
   | false=>rw[r]at h; cases h
   | true=>
    rw[r]at h;simp only[cond_true]at h;have s:=Nat.eq_of_beq_eq_true r;obtain⟨p1,V⟩:=Zx9 u (ps.zip args) tR Q (fun p O=>by
     have:=List.of_mem_zip O;simpa using List.all_eq_true.1 w _ this.1)
    cases e:T7 stepD (fcFn d) d false false m.next 1000 A ⟨Zha tR (ps.zip args),m,[]⟩ with
    | none=>simp[e]at h
    | some j=>
     obtain⟨z,y⟩:=j;obtain⟨k,E⟩:=Zjf Zne (Zjo a) a u 1000 A ⟨Zha tR (ps.zip args),m,[]⟩ y z p1 (Nat.le_refl _) L e;cases z with
     | exit i=>simp[e]at h
     | ret=>simp[e]at h
     | normal=>
      simp only[e]at h;cases f:T7 stepD (fcFn d) d false false m.next 1000 B y with
      | none=>simp[f]at h
      | some j=>
       obtain⟨C,X⟩:=j;obtain⟨F,G⟩:=Zjf Zne (Zjo a) a u 1000 B y X C k.t k.next M f;cases C with
       | exit i=>simp[f]at h
       | ret=>simp[f]at h
       | normal=>
        simp only[f,oI,pI2]at h;obtain⟨rfl,rfl,rfl⟩:=h;have D:=k.trans F;refine⟨D.next,fun c N S=>(D.keep c N S).2,fun id K l=>.inr ⟨rfl,s,?_⟩⟩
        rw[← V];exact E _ (G _ l)
def Zgp:Code→Option (List Code×Code×Nat×Operand×Array Tmp×Code×Code×Code)
 | .seq (.seq x (.block b (.rangeFunc g ps asn bd))) y=>some ([],x,b,g,ps,asn,bd,y)
 | .seq a r=>match Zgp r with
  | some p=>some (a :: p.1,p.2)
  | none=>none
 | _=>none
def seqs:List Code→Code→Code
 | [],c=>c
 | a :: r,c=>.seq a (seqs r c)
theorem Ye1:∀ (c:Code) (p:List Code×Code×Nat×Operand×Array Tmp×Code×Code×Code),Zgp c=some p →
 c=seqs p.1 (.seq (.seq p.2.1 (.block p.2.2.1 (.rangeFunc p.2.2.2.1 p.2.2.2.2.1 p.2.2.2.2.2.1 p.2.2.2.2.2.2.1))) p.2.2.2.2.2.2.2):=by
 intro c
 induction c with
 | seq a r _ f=>
  intro p h;unfold Zgp at h;split at h
  ·rename_i x b g ps asn bd y d;injection d with h1 h2
   subst h1; subst h2;injection h with h
   subst h;rfl
  ·rename_i i j _ d;injection d with h1 h2
   subst h1; subst h2;cases e:Zgp r with
   | none=>simp[e]at h
   | some q=>
    simp only[e,oI]at h;subst h;simp only[seqs];rw[← f q e]
  ·cases h
 | _=>intro p h; simp[Zgp]at h
structure AParts where
 ntmps:Nat
 results:List (Nat×Option (Option Nat))
 pre:List ACode
 x:ACode
 g:AOpd
 ps:List Nat
 asn:ACode
 bd:ACode
 y:ACode
def Zg1(P:Program)(fn:Func):Option AParts:=
 match fn.body with
 | some c=>match Zgp c with
  | some (pre,x,_,g,ps,asn,bd,y)=>match Y8 g,Zam P fn.results.toList with
   | some g',some rs=>if fn.name == "runtime.NumGoroutine" then none else some ⟨fn.ntmps,rs,pre.map (Y3 P),Y3 P x,g',ps.toList,Y3 P asn,Y3 P bd,Y3 P y⟩
   | _,_=>none
  | none=>none
 | none=>none
def Zht(call:Caller)(lim:Nat):List ACode→RS→Option (REnd×RS)
 | [],s=>some (.normal,s)
 | a :: r,s=>match T8 call lim 1000 a s with
  | some (.normal,s')=>Zht call lim r s'
  | some (.ret,s')=>some (.ret,s')
  | _=>none
def runR(tab:Nat→Option AFn)(call:Caller)(p:AParts)(args:List AVal)(m:TM):Option (AVal×TM×List Nat):=
 bif Nat.ble args.length p.ntmps then
 match Zht call m.next p.pre ⟨H0 .nil 0 args,m,[]⟩ with
 | some (.ret,s)=>match A9 s.t s.m p.results with
  | some v=>some (v,s.m,s.wl)
  | none=>none
 | some (.normal,s)=>match T8 call m.next 1000 p.x s with
  | some (.normal,s1)=>match evT s1.t p.g with
   | .func (.func gf) first cap=>match tab gf with
    | some af=>bif Nat.ble (first++[AVal.yld s1.m.next]++cap).length af.ntmps then
     match T7 stepD (fcY call s1.m.next p.ps s1.t p.asn p.bd) call true true m.next 1000 af.body ⟨H0 .nil 0 (first++[.yld s1.m.next]++cap),⟨s1.m.tr,s1.m.next+1⟩,s1.wl⟩ with
     | some (.exit _,_)=>none
     | some (_,s2)=>match A9 s2.t s2.m af.results with
      | some _=>match T7 stepD (fcFn call) call false false m.next 1000 p.y ⟨s1.t,s2.m,s2.wl⟩ with
       | some (.exit _,_)=>none
       | some (_,s3)=>match A9 s3.t s3.m p.results with
        | some v=>some (v,s3.m,s3.wl)
        | none=>none
       | none=>none
      | none=>none
     | none=>none
     else none
    | none=>none
   | _=>none
  | _=>none
 | _=>none
 else none
def AParts.ok(p:AParts):Bool:=
 p.pre.all (M0 p.ntmps)&&M0 p.ntmps p.x&&(p.ps.all fun q=>decide (q<p.ntmps))&&M0 p.ntmps p.asn&&M0 p.ntmps p.bd&&M0 p.ntmps p.y&&decide (p.ntmps≤bound)
theorem Zxd(hm:P.follows .mixedOrders=true){a:Caller}(b:P4 P a){n lim:Nat}(r:n≤bound):∀ (xs:List Code) (s f:RS) (e:REnd),TOk n s.t→lim≤s.m.next→(xs.map (Y3 P)).all (M0 n)=true→Zht a lim (xs.map (Y3 P)) s=some (e,f) →
 RunOk n lim s f∧(e=.normal∨e=.ret) ∧ ∀(c:Code) (K:ASt→Prop),(e=.ret→K (f.st n))→(e=.normal→AR P c K (f.st n))→AR P (seqs xs c) K (s.st n)
 | [],s,f,e,p,_,_,h=>by
  simp only[List.map_nil,Zht,oI,pI2]at h;obtain⟨rfl,rfl⟩:=h;exact⟨⟨p,Nat.le_refl _,fun c _ B=>⟨B,rfl⟩⟩,.inl rfl,fun c K _ k=>k rfl⟩
 | x :: xs,s,f,e,p,d,o,h=>by
  simp only[List.map_cons,List.all_cons,bA]at o;simp only[List.map_cons,Zht]at h;cases g:T8 a lim 1000 (Y3 P x) s with
  | none=>simp[g]at h
  | some v=>
   obtain⟨q,u⟩:=v;obtain⟨j,k⟩:=Zpw b r 1000 (Y3 P x) s u q p d o.1 g;cases q with
   | exit i=>simp[g]at h
   | ret=>
    simp only[g,oI,pI2]at h;obtain⟨rfl,rfl⟩:=h;exact⟨j,.inr rfl,fun c K l _=>Zsb (Zhb hm x _ _ (k (seqQ K (AR P (seqs xs c) K)) (l rfl)))⟩
   | normal=>
    simp only[g]at h;obtain⟨w,y,z⟩:=Zxd hm b r xs u f e j.t (Nat.le_trans d j.next) o.2 h;exact⟨j.trans w,y,fun c K l A=>Zsb (Zhb hm x _ _ (k (seqQ K (AR P (seqs xs c) K)) (z c K l A)))⟩
theorem Ztq{fn:Func}{p:AParts}(h:Zg1 P fn=some p):∃ c pre x b g ps asn bd y,fn.body=some c∧c=seqs pre (.seq (.seq x (.block b (.rangeFunc g ps asn bd))) y)∧Y8 g=some p.g∧Zam P fn.results.toList=some p.results ∧
 (fn.name == "runtime.NumGoroutine")=false∧p.ntmps=fn.ntmps∧p.pre=pre.map (Y3 P)∧p.x=Y3 P x∧p.ps=ps.toList∧p.asn=Y3 P asn∧p.bd=Y3 P bd∧p.y=Y3 P y:=by
 unfold Zg1 at h;cases f:fn.body with
 | none=>simp[f]at h
 | some c=>
  simp only[f]at h;cases d:Zgp c with
  | none=>simp[d]at h
  | some q=>
   obtain⟨pre,x,b,g,ps,asn,bd,y⟩:=q;simp only[d]at h;split at h<;>first|(cases h; done)|skip
   rename_i j k i e;split at h<;>first|(cases h; done)|skip
   rename_i a;injection h with h
   subst h;exact⟨c,pre,x,b,g,ps,asn,bd,y,rfl,Ye1 c _ d,i,e,by simpa using a,rfl,rfl,rfl,rfl,rfl,rfl,rfl⟩
theorem Ycc(hm:P.follows .mixedOrders=true){tab:Nat→Option AFn}(X:Zeu P tab){j:Caller}(a:P4 P j){f:FuncId}{fn:Func}{p:AParts}(hf:P.funcs[f]? = some fn)(hp:Zg1 P fn=some p)(F:p.ok=true)
 {args:List AVal} {m C:TM} {v:AVal} {wl:List Nat} (h:runR tab j p args m=some (v,C,wl)) :
 m.next≤C.next∧(∀ c,c<m.next→c∉wl→C.mem.get c=m.mem.get c) ∧ ∀ Z,ACalls P f args m.mem Z fun r I=>r=v∧I=C.mem:=by
 obtain⟨c,pre,x,b,g,ps,asn,bd,y,hb,u,hg,ak,E,aj,M,ex,ab,L,aa,ey⟩:=Ztq hp;unfold AParts.ok at F;simp only[bA,decide_eq_true_eq]at F;obtain⟨⟨⟨⟨⟨⟨o1,o2⟩,o3⟩,o4⟩,o5⟩,o6⟩,Y⟩:=F;unfold runR at h;cases hl:Nat.ble args.length p.ntmps with
 | false=>rw[hl]at h; cases h
 | true=>
 rw[hl]at h;simp only[cond_true]at h;obtain⟨a1,a2⟩:=Zmh Y (Zmw hl);rw[M]at h o1;have N:∀ s:RS,RunOk p.ntmps m.next ⟨H0 .nil 0 args,m,[]⟩ s→A9 s.t s.m p.results=some v→C=s.m→wl=s.wl →
  ((∀ K:ASt→Prop,K (s.st p.ntmps)→AR P c K ((⟨H0 .nil 0 args,m,[]⟩:RS).st p.ntmps)) →
  m.next≤C.next∧(∀ c,c<m.next→c∉wl→C.mem.get c=m.mem.get c) ∧ ∀ Z,ACalls P f args m.mem Z fun r I=>r=v∧I=C.mem):=by
  intro s hs V e1 e2 hA;subst e1; subst e2;refine⟨hs.next,fun c u hw=>(hs.keep c u hw).2,fun Z=>Zxb hf hb E ak ?_⟩
  rw[← aj,← a2];refine hA _ ?_;have:M5 (toL p.ntmps s.t) s.m.mem p.results=some v:=by rw[Zmd hs.t]; exact V
  simp only[RS.st,this];exact⟨trivial,trivial⟩
 cases o:Zht j m.next (pre.map (Y3 P)) ⟨H0 .nil 0 args,m,[]⟩ with
 | none=>simp[o]at h
 | some es=>
  obtain⟨e,s⟩:=es;obtain⟨g1,g2,g3⟩:=Zxd hm a Y (lim:=m.next) pre ⟨H0 .nil 0 args,m,[]⟩ s e a1 (Nat.le_refl _) o1 o;simp only[o]at h;cases e with
  | exit i=>simp at h
  | ret=>
   simp only at h;cases hr:A9 s.t s.m p.results with
   | none=>simp[hr]at h
   | some r=>
    simp only[hr,oI,pI2]at h;obtain⟨rfl,rfl,rfl⟩:=h;refine N s g1 hr rfl rfl fun K hK=>?_
    rw[u];exact g3 _ K (fun _=>hK) (fun he=>by cases he)
  | normal=>
   simp only at h;rw[ex]at h o2;cases hx:T8 j m.next 1000 (Y3 P x) s with
   | none=>simp[hx]at h
   | some es=>
    obtain⟨e1,d⟩:=es;simp only[hx]at h;obtain⟨k1,k2⟩:=Zpw a Y 1000 (Y3 P x) s d e1 g1.t g1.next o2 hx;cases e1 with
    | exit i=>simp at h
    | ret=>simp at h
    | normal=>
     simp only at h;split at h<;>first|(cases h; done)|skip
     rename_i gf first cap ae;cases ht:tab gf with
     | none=>simp[ht]at h
     | some q=>
      simp only[ht]at h;obtain⟨⟨ar,ag,ac⟩,ad,Q⟩:=X gf q ht;cases D:Nat.ble (first++[AVal.yld d.m.next]++cap).length q.ntmps with
      | false=>rw[D]at h; cases h
      | true=>
       rw[D]at h;simp only[cond_true]at h;obtain⟨b1,b2⟩:=Zmh Q (Zmw D);have gk:=g1.trans k1;have af:=Z30 (P:=P) a (b0:=d.m.next) (ps:=p.ps) (A:=p.asn) (B:=p.bd) Y k1.t o3 o4 o5;split at h<;>first|(cases h; done)|skip
       rename_i e2 k ai ah;obtain⟨j1,j2⟩:=Zjf Zne af a Q 1000 q.body ⟨H0 .nil 0 (first++[.yld d.m.next]++cap),⟨d.m.tr,d.m.next+1⟩,d.wl⟩ k e2 b1 (by have h1:m.next≤d.m.next:=gk.next; show m.next≤d.m.next+1; omega) ad ah
       cases H:A9 k.t k.m q.results with
       | none=>simp[H]at h
       | some ri=>
        simp only[H]at h;rw[ey]at h o6;split at h<;>first|(cases h; done)|skip
        rename_i e3 J U hy;obtain⟨l1,l2⟩:=Zjf (dr:=false) (sc:=false) Zne (Zjo a) a Y 1000 (Y3 P y) ⟨d.t,k.m,k.wl⟩ J e3 k1.t (by
         have h1:m.next≤d.m.next:=gk.next;have h2:d.m.next+1≤k.m.next:=j1.next;show m.next≤k.m.next;omega) o6 hy
        cases G:A9 J.t J.m p.results with
        | none=>simp[G]at h
        | some r=>
         simp only[G,oI,pI2]at h;obtain⟨rfl,rfl,rfl⟩:=h;have O:RunOk p.ntmps m.next ⟨H0 .nil 0 args,m,[]⟩ J:=by
          refine⟨l1.t,?_,fun c u hw=>?_⟩
          ·have h1:m.next≤d.m.next:=gk.next;have h2:d.m.next+1≤k.m.next:=j1.next;have h3:k.m.next≤J.m.next:=l1.next;show m.next≤J.m.next;omega
          ·obtain⟨q1,q2⟩:=l1.keep c u hw;obtain⟨q3,q4⟩:=j1.keep c u q1;obtain⟨q5,q6⟩:=gk.keep c u q3;exact⟨q5,q2.trans (q4.trans q6)⟩
         refine N J O G rfl rfl fun K hK=>?_
         rw[u];refine g3 _ K (fun he=>by cases he) fun _=>Zwd hg (Zhb hm x _ _ (k2 _ ?_))
         refine⟨gf,first,cap,by rw[← ae]; exact congrFun (Zdu k1.t) p.g,fun l r al am an ao aq=>?_⟩
         have S:=Zvf (P:=P) (n:=0) (b:=d.m.next) (l:=l) (tR:=toL p.ntmps d.t) al am;rw[an,ao,aq,← ab,← L,← aa]at S;refine Zuf hm HLoop.mono (Zhe Open.wide) S ag ac ?_;show U6 _ true q.body _ ⟨first++[AVal.yld d.m.next]++cap++List.replicate (q.ntmps - (first++[AVal.yld d.m.next]++cap).length) aundef,d.m.mem.at (d.m.next+1)⟩;rw[← b2];refine j2 _ ?_;have z:M5 (toL q.ntmps k.t) k.m.mem q.results=some ri:=by rw[Zmd j1.t]; exact H
         have w:U6 (wrG P false stepA (cwFn P)) false (Y3 P y) (seqQ K K) ⟨toL p.ntmps d.t,k.m.mem⟩:=by
          refine l2 _ ?_;cases e3 with
          | normal=>exact hK
          | ret=>exact hK
          | exit i=>exact absurd rfl (U i)
         cases e2 with
         | normal=>simp only[REnd.exit',retK,RS.st,z]; exact w
         | ret=>simp only[REnd.exit',retK,RS.st,z]; exact w
         | exit i=>exact absurd rfl (ai i)
end Go.AE
end
