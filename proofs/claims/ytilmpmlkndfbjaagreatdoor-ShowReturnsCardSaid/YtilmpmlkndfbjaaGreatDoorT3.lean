/- Part 3 -/
import Derived.Test.YtilmpmlkndfbjaaGreatDoorT2
set_option linter.all false
open Nat (ble beq le_trans lt_succ_self)
namespace Go.AE
open Go.RowKit
section
variable {P:Program}
abbrev CU:=Fn→List Aa→TM→Option (Aa×TM×List Nat)
def Xy(cw:Ck)(fc:CU):Prop:=
 ∀ fn args m v m' wl,fc fn args m=some (v,m',wl)→m.next≤m'.next∧(∀ c,c<m.next→c∉wl→m'.mem.get c=m.mem.get c) ∧ ∀ id (K:Aa→Mem→Prop),K v m'.mem→cw fn args m.mem id K
def bJ(t:Tr Aa)(f:Ah)(xs:List Ah):Option (Fn×List Aa):=
 match CS t f with
 | .func (.func g) first cap=>some (.func g,first++xs.map (CS t)++cap)
 | .Dt b=>some (.yield b,xs.map (CS t))
 | _=>none
theorem Z7w{n:Nat}{t:Tr Aa}(a:Fx n t)(f:Ah)(xs:List Ah):KE (Cx n t) f xs=bJ t f xs:=by
 simp only[KE,bJ,MZ a];rfl
abbrev Gt:=Nat→(Ah→Aa)→(Nat→Option Af)→Ba→Option (Aa×List (Nat×Option Af))
def eT(st:Dh)(sd:Gt):Prop:=
 ∀(n id:Nat) (t:Tr Aa) (m:TM) (op:Ba) (v:Aa) (d:List (Nat×Option Af)),Fx n t→sd id (CS t) m.tr.get op=some (v,d)→Hi d=true→st id (Cx n t) m.mem op=some (v,(m.apply d).mem)
theorem dZ:eT Ae Ak:=λ_ _ _ _ _ _ _ b h a=>WW b h a
def JE(sd:Gt)(fc:CU)(lim base:Nat):List Ag→Nat→RS→Option RS
 | [],_,s=>some s
 | o :: r,i,s=>
  match QN s.t o.guard with
  | some false=>JE sd fc lim base r (i+1) { s with t:=O9 s.t o.dst Ai }
  | some true=>
   match o.op with
   | .call f xs=>match bJ s.t f xs with
    | some (g,args)=>match fc g args s.m with
     | some (v,m',wl)=>JE sd fc lim base r (i+1) ⟨O9 s.t o.dst v,m',Hp lim s.wl wl⟩
     | none=>none
    | none=>none
   | op=>match sd (base+i) (CS s.t) s.m.tr.get op with
    | some (v,[])=>JE sd fc lim base r (i+1) ⟨O9 s.t o.dst v,s.m,s.wl⟩
    | some (v,d)=>bif Hi d then JE sd fc lim base r (i+1) ⟨O9 s.t o.dst v,s.m.apply d,ES lim s.wl d⟩ else none
    | none=>none
  | none=>none
def Q4(sd:Gt)(fc:CU)(call:Ax)(dr sc:Bool)(lim:Nat):Nat→An→RS→Option (Dn×RS)
 | 0,_,_=>none
 | f+1,c,s=>
  match c with
  | .skip | .label _=>some (.normal,s)
  | .region false ops=>
   bif ble (s.m.next+ops.length) bound then match JE sd fc lim s.m.next ops 0 ⟨s.t,⟨s.m.tr,s.m.next+ops.length⟩,s.wl⟩ with
    | some s'=>some (.normal,s')
    | none=>none
   else none
  | .region true ops=>
   bif dr then bif ble (s.m.next+ops.length) bound then match FY call lim s.m.next ops [] ⟨s.t,⟨s.m.tr,s.m.next+ops.length⟩,s.wl⟩ with
    | some s'=>some (.normal,s')
    | none=>none
   else none else none
  | .seq a b=>match Q4 sd fc call dr sc lim f a s with
   | some (.normal,s')=>Q4 sd fc call dr sc lim f b s'
   | r=>r
  | .cond c a b=>match CS s.t c with
   | .bool true=>Q4 sd fc call dr sc lim f a s
   | .bool false=>Q4 sd fc call dr sc lim f b s
   | _=>none
  | .block id c=>match Q4 sd fc call dr sc lim f c s with
   | some (.exit n,s')=>bif beq n id then some (.normal,s')else some (.exit n,s')
   | r=>r
  | .loop c=>match Q4 sd fc call dr sc lim f c s with
   | some (.normal,s')=>Q4 sd fc call dr sc lim f (.loop c) s'
   | r=>r
  | .exit n=>some (.exit n,s)
  | .scope c=>bif sc then Q4 sd fc call dr sc lim f c s else none
  | .ret=>some (.ret,s)
  | .bad=>none
theorem Wp{st:Dh}{sd:Gt}(F:eT st sd){Q:Ck}{u:CU}(I:Xy Q u){n lim base:Nat}(z:n<=bound):∀(D:List Ag) (i:Nat) (s j:RS),Fx n s.t->lim<=s.m.next ->
 (D.all λo=>match o.dst with|some d=>decide (d<n)|none=>true)=true->JE sd u lim base D i s=some j ->
 Cc n lim s j /\ ∀K:AY->Prop,K (j.st n)->K6 st Q base D i K (Cx n s.t) s.m.mem
 |[],i,s,j,p,_,_,h=>by
  simp only[JE,oI]at h;subst h;exact⟨⟨p,lR _,λc _ H=>⟨H,rfl⟩⟩,λK w=>w⟩
 |o::r,i,s,j,p,b,X,h=>by
  simp only[List.all_cons,bA]at X;obtain⟨HQ,l⟩:=X;have P:=kP HQ;simp only[JE]at h;cases H:QN s.t o.guard with
  |none=>simp[H]at h
  |some q=>
   have C:P7 (Cx n s.t) o.guard=some q:=by rw[kU p];exact H
   cases q with
   |false=>
    simp only[H]at h;obtain⟨p1,p2⟩:=MK (v:=Ai) z p P;obtain⟨a,J⟩:=Wp F I z r (i+1) ⟨O9 s.t o.dst Ai,s.m,s.wl⟩ j p1 b l h;refine⟨⟨a.t,a.next,a.keep⟩,λK w=>?_⟩;simp only[K6,C];grind
   |true=>
    simp only[H]at h;have E:(∀f xs,o.op≠.call f xs)->(match sd (base+i) (CS s.t) s.m.tr.get o.op with
     |some (v,[])=>JE sd u lim base r (i+1) ⟨O9 s.t o.dst v,s.m,s.wl⟩
     |some (v,d)=>bif Hi d then JE sd u lim base r (i+1) ⟨O9 s.t o.dst v,s.m.apply d,ES lim s.wl d⟩ else none
     |none=>none)=some j->Cc n lim s j /\ ∀K:AY->Prop,K (j.st n) -> ∃v N,st (base+i) (Cx n s.t) s.m.mem o.op=some (v,N)/\K6 st Q base r (i+1) K (put (Cx n s.t) o.dst v) N:=by
     intro A y;cases M:sd (base+i) (CS s.t) s.m.tr.get o.op with
     |none=>simp[M]at y
     |some vd=>
      obtain⟨v,d⟩:=vd;obtain⟨p1,p2⟩:=MK (v:=v) z p P;cases d with
      |nil=>
       simp only[M]at y;obtain⟨a,J⟩:=Wp F I z r (i+1) ⟨O9 s.t o.dst v,s.m,s.wl⟩ j p1 b l y;exact⟨⟨a.t,a.next,a.keep⟩,λK w=>⟨v,s.m.mem,F _ _ _ _ _ _ _ p M rfl,by grind⟩⟩
      |cons e d=>
       simp only[M]at y;cases S:Hi (e::d)with
       |false=>grind
       |true=>
        rw[S]at y;simp only[cond_true]at y;obtain⟨a,J⟩:=Wp F I z r (i+1) _ j p1 (by rw[TM.BM];exact b) l y;refine⟨⟨a.t,by have:=a.next;rw[TM.BM]at this;exact this,λc G B=>?_⟩,λK w=>⟨v,_,F _ _ _ _ _ _ _ p M S,by grind⟩⟩;obtain⟨T,Y⟩:=a.keep c G B;obtain⟨Z,k4⟩:=Sv (e::d) s.wl s.m.mem c G T;exact⟨Z,by rw[Y,TM.Cf _ _ S];exact k4⟩
    by_cases V:∃f xs,o.op=.call f xs
    ·obtain⟨f,xs,k⟩:=V;simp only[k]at h;cases G:bJ s.t f xs with
     |none=>simp[G]at h
     |some ga=>
      obtain⟨g,args⟩:=ga;simp only[G]at h;cases O:u g args s.m with
      |none=>simp[O]at h
      |some U=>
       obtain⟨v,N,wl⟩:=U;simp only[O]at h;obtain⟨q1,q2,q3⟩:=I g args s.m v N wl O;obtain⟨p1,p2⟩:=MK (v:=v) z p P;obtain⟨a,J⟩:=Wp F I z r (i+1) _ j p1 (le_trans b q1) l h;refine⟨⟨a.t,le_trans q1 a.next,λc L B=>?_⟩,λK w=>?_⟩
       ·obtain⟨T,Y⟩:=a.keep c L B;obtain⟨Z,k4⟩:=WI wl s.wl c L T;grind
       have Ki:KE (Cx n s.t) f xs=some (g,args):=by rw[Z7w p];exact G
       simp only[K6,C,k,Ki];grind
    have A:∀f xs,o.op≠.call f xs:=λf xs he=>V ⟨f,xs,he⟩;have h':(match sd (base+i) (CS s.t) s.m.tr.get o.op with
     |some (v,[])=>JE sd u lim base r (i+1) ⟨O9 s.t o.dst v,s.m,s.wl⟩
     |some (v,d)=>bif Hi d then JE sd u lim base r (i+1) ⟨O9 s.t o.dst v,s.m.apply d,ES lim s.wl d⟩ else none
     |none=>none)=some j:=by
     cases k:o.op<;>rw[k]at h<;>first|(exact absurd k (A _ _))|exact h
    obtain⟨a,J⟩:=E A h';refine⟨a,λK w=>?_⟩;obtain⟨v,N,h3,h4⟩:=J K w;simp only[K6,C];grind
theorem WA{st:Dh}{sd:Gt}(V:eT st sd){O:Ck}{C:CU}(wK:Xy O C){j:Ax}(U:K2 P j){dr sc:Bool}{n lim:Nat}(S:n<=bound):∀(f:Nat) (c:An) (s z:RS) (e:Dn),Fx n s.t->lim<=s.m.next->I0 n c=true->Q4 sd C j dr sc lim f c s=some (e,z) ->
 Cc n lim s z /\ ∀Q:Exit->AY->Prop,Q e.exit' (z.st n)->S4 (IQ P dr st O) sc c Q (s.st n):=by
 intro f;induction f using Nat.strongRecOn with
 |ind f E=>
  intro c s z e B o v h;cases f with
  |zero=>simp[Q4]at h
  |succ f=>
   have same:Cc n lim s s:=⟨B,lR _,λc _ hw=>⟨hw,rfl⟩⟩;cases c with
   |skip=>
    simp only[Q4,oI,AT]at h;obtain⟨rfl,rfl⟩:=h;exact⟨same,λQ d=>d⟩
   |label l=>
    simp only[Q4,oI,AT]at h;obtain⟨rfl,rfl⟩:=h;exact⟨same,λQ d=>d⟩
   |exit i=>
    simp only[Q4,oI,AT]at h;obtain⟨rfl,rfl⟩:=h;exact⟨same,λQ d=>d⟩
   |ret=>
    simp only[Q4,oI,AT]at h;obtain⟨rfl,rfl⟩:=h;exact⟨same,λQ d=>d⟩
   |bad=>simp[Q4]at h
   |region H r=>
    cases H with
    |false=>
     simp only[Q4]at h;cases y:ble (s.m.next+r.length) bound with
     |false=>rw[y]at h;cases h
     |true=>
      rw[y]at h;simp only[cond_true]at h;cases p:JE sd C lim s.m.next r 0 ⟨s.t,⟨s.m.tr,s.m.next+r.length⟩,s.wl⟩ with
      |none=>simp[p]at h
      |some w=>
       simp only[p,oI,AT]at h;obtain⟨rfl,rfl⟩:=h;obtain⟨g,q⟩:=Wp V wK S r 0 ⟨s.t,⟨s.m.tr,s.m.next+r.length⟩,s.wl⟩ w B (by grind) v p;refine⟨⟨g.t,le_trans (Nat.le_add_right _ _) g.next,g.keep⟩,λQ d=>?_⟩;exact q (Q .normal) d
    |true=>
     simp only[Q4]at h;cases I:dr with
     |false=>rw[I]at h;cases h
     |true=>
     rw[I]at h;simp only[cond_true]at h;cases y:ble (s.m.next+r.length) bound with
     |false=>rw[y]at h;cases h
     |true=>
      rw[y]at h;simp only[cond_true]at h;cases p:FY j lim s.m.next r [] ⟨s.t,⟨s.m.tr,s.m.next+r.length⟩,s.wl⟩ with
      |none=>simp[p]at h
      |some w=>
       simp only[p,oI,AT]at h;obtain⟨rfl,rfl⟩:=h;obtain⟨g,q⟩:=WD U S r [] ⟨s.t,⟨s.m.tr,s.m.next+r.length⟩,s.wl⟩ w B (by grind) v p;refine⟨⟨g.t,le_trans (Nat.le_add_right _ _) g.next,g.keep⟩,λQ d=>?_⟩;exact⟨rfl,q (Q .normal) d⟩
   |seq a b=>
    simp only[I0,bA]at v;simp only[Q4]at h;cases p:Q4 sd C j dr sc lim f a s with
    |none=>simp[p]at h
    |some F=>
     obtain⟨A,w⟩:=F;obtain⟨g,q⟩:=E f (lt_succ_self f) a s w A B o v.1 p;cases A with
     |normal=>
      simp only[p]at h;obtain⟨Y,Z⟩:=E f (lt_succ_self f) b w z e g.t (le_trans o g.next) v.2 h;exact⟨g.trans Y,λQ d=>q _ (Z Q d)⟩
     |exit i=>
      simp only[p,oI,AT]at h;obtain⟨rfl,rfl⟩:=h;exact⟨g,λQ d=>q _ d⟩
     |ret=>
      simp only[p,oI,AT]at h;obtain⟨rfl,rfl⟩:=h;exact⟨g,λQ d=>q _ d⟩
   |cond x a b=>
    simp only[I0,bA]at v;simp only[Q4]at h;have T:ev (Cx n s.t) x=CS s.t x:=congrFun (MZ B) x;split at h
    ·rename_i y;obtain⟨g,q⟩:=E f (lt_succ_self f) a s z e B o v.1 h;refine⟨g,λQ d=>?_⟩;simp only[S4,RS.st,T,y];exact q Q d
    ·rename_i y;obtain⟨g,q⟩:=E f (lt_succ_self f) b s z e B o v.2 h;refine⟨g,λQ d=>?_⟩;simp only[S4,RS.st,T,y];exact q Q d
    cases h
   |block i c=>
    simp only[I0]at v;simp only[Q4]at h;cases p:Q4 sd C j dr sc lim f c s with
    |none=>simp[p]at h
    |some F=>
     obtain⟨A,w⟩:=F;obtain⟨g,q⟩:=E f (lt_succ_self f) c s w A B o v p;cases A with
     |normal=>
      simp only[p,oI,AT]at h;obtain⟨rfl,rfl⟩:=h;exact⟨g,λQ d=>q _ d⟩
     |ret=>
      simp only[p,oI,AT]at h;obtain⟨rfl,rfl⟩:=h;exact⟨g,λQ d=>q _ d⟩
     |exit k=>
      simp only[p]at h;cases y:beq k i with
      |true=>
       rw[y]at h;simp only[cond_true,oI,AT]at h;obtain⟨rfl,rfl⟩:=h;have:=Nat.eq_of_beq_eq_true y;subst this;exact⟨g,λQ d=>q _ (by simp only[Dn.exit',KD,if_true];exact d)⟩
      |false=>
       rw[y]at h;simp only[cond_false,oI,AT]at h;obtain⟨rfl,rfl⟩:=h;have M:k≠i:=λe=>by simp_all
       exact⟨g,λQ d=>q _ (by simp only[Dn.exit',KD,iN M];exact d)⟩
   |scope c=>
    simp only[I0]at v;simp only[Q4]at h;cases D:sc with
    |false=>rw[D]at h;cases h
    |true=>
     rw[D]at h;simp only[cond_true]at h;have X:Q4 sd C j dr sc lim f c s=some (e,z):=by rw[D];exact h
     obtain⟨g,q⟩:=E f (lt_succ_self f) c s z e B o v X;rw[D]at q;refine⟨g,λQ d=>⟨rfl,q _ ?_⟩⟩;cases e<;>exact d
   |loop c=>
    have L:=v;simp only[I0]at v;have J:Cc n lim s z:=by
     simp only[Q4]at h;cases p:Q4 sd C j dr sc lim f c s with
     |none=>simp[p]at h
     |some F=>
      obtain⟨A,w⟩:=F;obtain⟨g,_⟩:=E f (lt_succ_self f) c s w A B o v p;cases A with
      |normal=>
       simp only[p]at h;exact g.trans (E f (lt_succ_self f) (.loop c) w z e g.t (le_trans o g.next) L h).1
      |exit i=>
       grind
      |ret=>
       grind
    refine⟨J,λQ d=>?_⟩;refine⟨λk σ=>k<=f /\ ∃G,σ=G.st n/\Fx n G.t/\lim<=G.m.next/\Q4 sd C j dr sc lim (k+1) (.loop c) G=some (e,z),⟨f,_,.refl _,lR _,s,rfl,B,o,h⟩,?_⟩;rintro k σ ⟨aa,G,rfl,N,K,u⟩;simp only[Q4]at u;cases p:Q4 sd C j dr sc lim k c G with
    |none=>simp[p]at u
    |some F=>
     obtain⟨A,w⟩:=F;obtain⟨g,q⟩:=E k (by omega) c G w A N K v p;refine q _ ?_;cases A with
     |normal=>
      simp only[p]at u;cases k with
      |zero=>simp[Q4]at u
      |succ k=>exact ⟨k,w.st n,lt_succ_self k,.refl _,by omega,w,rfl,g.t,le_trans K g.next,u⟩
     |exit i=>
      simp only[p,oI,AT]at u;obtain⟨rfl,rfl⟩:=u;exact d
     |ret=>
      simp only[p,oI,AT]at u;obtain⟨rfl,rfl⟩:=u;exact d
end
variable {P:Program}
def Iu(call:Ax):CU:=fun fn args m=>
 match fn with
 | .func g=>call g args m
 | _=>none
theorem Xb{a:Ax}(b:K2 P a):Xy (Gi P) (Iu a):=by
 intro fn args m v f wl h;cases fn<;>simp only[Iu]at h<;>first|(cases h;done)|skip
 rename_i g;obtain⟨c,d,e⟩:=b g args m v f wl h;refine⟨c,d,λid K j=>⟨g,rfl,(e id).mono λr i k=>?_⟩⟩;grind
def Si(t:Tr Aa):List (Nat×Aa)→Tr Aa
 | []=>t
 | (i,x) :: r=>Si (O9 t (some i) x) r
theorem Zwm{n:Nat}(b:n<=bound):∀(l:List (Nat×Aa)) (t:Tr Aa),Fx n t->(∀p,p∈l->p.1<n)->Fx n (Si t l)/\Cx n (Si t l)=Le (Cx n t) l
 |[],t,a,_=>⟨a,rfl⟩
 | (i,x)::r,t,a,c=>by
  obtain⟨p1,f⟩:=MK (v:=x) (d:=some i) b a (λk j=>by simp_all);obtain⟨g,h⟩:=Zwm b r _ p1 (λp e=>c p (List.mem_cons_of_mem _ e));refine⟨g,?_⟩;simp only[Si,Le];rw[h,f];rfl
def tK(call:Ax)(b0:Nat)(ps:List Nat)(tR:Tr Aa)(A B:An):CU:=fun fn args m=>
 match fn with
 | .func g=>call g args m
 | .yield b=>bif beq b b0 then bif beq args.length ps.length then
  match Q4 Ak (Iu call) call false false m.next 1000 A ⟨Si tR (ps.zip args),m,[]⟩ with
  | some (.normal,s1)=>match Q4 Ak (Iu call) call false false m.next 1000 B s1 with
   | some (.normal,s2)=>some (.bool true,s2.m,s2.wl)
   | _=>none
  | _=>none
  else none else none
 | _=>none
theorem Ybo{a:Ax}(f:K2 P a){b0 n:Nat}{ps:List Nat}{tR:Tr Aa}{A B:An}(r:n<=bound)(Q:Fx n tR)(O:(ps.all λp=>decide (p<n))=true)(J:I0 n A=true)(L:I0 n B=true) :
 Xy (Tm P b0 ps (Cx n tR) A B) (tK a b0 ps tR A B):=by
 intro fn args m v T wl h;cases fn<;>simp only[tK]at h<;>first|(cases h;done)|skip
 case func g=>
  obtain⟨G,H,I⟩:=Xb f (.func g) args m v T wl h;exact⟨G,H,λid K l=>.inl (I id K l)⟩
 case yield b=>
  cases z:beq b b0 with
  |false=>grind
  |true=>
   rw[z]at h;simp only[cond_true]at h;have o:=Nat.eq_of_beq_eq_true z;subst o;cases C:beq args.length ps.length with
   |false=>grind
   |true=>
    rw[C]at h;simp only[cond_true]at h;have q:=Nat.eq_of_beq_eq_true C;obtain⟨p1,U⟩:=Zwm r (ps.zip args) tR Q (λp N=>by
     have:=List.of_mem_zip N;grind)
    cases d:Q4 Ak (Iu a) a false false m.next 1000 A ⟨Si tR (ps.zip args),m,[]⟩ with
    |none=>simp[d]at h
    |some j=>
     obtain⟨u,s⟩:=j;obtain⟨k,D⟩:=WA dZ (Xb f) f r 1000 A ⟨Si tR (ps.zip args),m,[]⟩ s u p1 (lR _) J d;cases u with
     |exit i=>simp[d]at h
     |ret=>simp[d]at h
     |normal=>
      simp only[d]at h;cases e:Q4 Ak (Iu a) a false false m.next 1000 B s with
      |none=>simp[e]at h
      |some j=>
       obtain⟨w,V⟩:=j;obtain⟨E,F⟩:=WA dZ (Xb f) f r 1000 B s V w k.t k.next L e;cases w with
       |exit i=>simp[e]at h
       |ret=>simp[e]at h
       |normal=>
        simp only[e,oI,AT]at h;obtain⟨rfl,rfl,rfl⟩:=h;have y:=k.trans E;refine⟨y.next,λc M S=>(y.keep c M S).2,λid K l=>.inr ⟨rfl,q,?_⟩⟩;rw[<-U];exact D _ (F _ l)
def SD:Code→Option (List Code×Code×Nat×Operand×Array Tmp×Code×Code×Code)
 | .seq (.seq x (.block b (.rangeFunc g ps Ed bd))) y=>some ([],x,b,g,ps,Ed,bd,y)
 | .seq a r=>match SD r with
  | some p=>some (a :: p.1,p.2)
  | none=>none
 | _=>none
def GZ:List Code→Code→Code
 | [],c=>c
 | a :: r,c=>.seq a (GZ r c)
theorem Yi5:∀(c:Code) (p:List Code×Code×Nat×Operand×Array Tmp×Code×Code×Code),SD c=some p ->
 c=GZ p.1 (.seq (.seq p.2.1 (.block p.2.2.1 (.rangeFunc p.2.2.2.1 p.2.2.2.2.1 p.2.2.2.2.2.1 p.2.2.2.2.2.2.1))) p.2.2.2.2.2.2.2):=by
 intro c;induction c with
 |seq a r _ f=>
  intro p h;unfold SD at h;split at h
  ·rename_i x b g ps Ed bd y d;injection d with h1 h2
   subst h1;subst h2;injection h with h
   subst h;rfl
  ·rename_i i j _ d;injection d with h1 h2
   subst h1;subst h2;cases e:SD r with
   |none=>simp[e]at h
   |some q=>
    simp only[e,oI]at h;subst h;simp only[GZ];rw[<-f q e]
  cases h
 |_=>intro p h;simp[SD]at h
structure Ct where
 ntmps:Nat
 results:List (Nat×Option (Option Nat))
 pre:List An
 x:An
 g:Ah
 ps:List Nat
 Ed:An
 bd:An
 y:An
def RZ(P:Program)(fn:Func):Option Ct:=
 match fn.body with
 | some c=>match SD c with
  | some (pre,x,_,g,ps,Ed,bd,y)=>match X5 g,KG P fn.results.toList with
   | some g',some rs=>if fn.name == "runtime.NumGoroutine" then none else some ⟨fn.ntmps,rs,pre.map (Y1 P),Y1 P x,g',ps.toList,Y1 P Ed,Y1 P bd,Y1 P y⟩
   | _,_=>none
  | none=>none
 | none=>none
def UF(call:Ax)(lim:Nat):List An→RS→Option (Dn×RS)
 | [],s=>some (.normal,s)
 | a :: r,s=>match P3 call lim 1000 a s with
  | some (.normal,s')=>UF call lim r s'
  | some (.ret,s')=>some (.ret,s')
  | _=>none
def Ud(BS:Nat→Option AD)(call:Ax)(p:Ct)(args:List Aa)(m:TM):Option (Aa×TM×List Nat):=
 bif ble args.length p.ntmps then
 match UF call m.next p.pre ⟨D8 .nil 0 args,m,[]⟩ with
 | some (.ret,s)=>match EH s.t s.m p.results with
  | some v=>some (v,s.m,s.wl)
  | none=>none
 | some (.normal,s)=>match P3 call m.next 1000 p.x s with
  | some (.normal,s1)=>match CS s1.t p.g with
   | .func (.func gf) first cap=>match BS gf with
    | some af=>bif ble (first++[Aa.Dt s1.m.next]++cap).length af.ntmps then
     match Q4 Ak (tK call s1.m.next p.ps s1.t p.Ed p.bd) call true true m.next 1000 af.body ⟨D8 .nil 0 (first++[.Dt s1.m.next]++cap),⟨s1.m.tr,s1.m.next+1⟩,s1.wl⟩ with
     | some (.exit _,_)=>none
     | some (_,s2)=>match EH s2.t s2.m af.results with
      | some _=>match Q4 Ak (Iu call) call false false m.next 1000 p.y ⟨s1.t,s2.m,s2.wl⟩ with
       | some (.exit _,_)=>none
       | some (_,s3)=>match EH s3.t s3.m p.results with
        | some v=>some (v,s3.m,s3.wl)
        | none=>none
       | none=>none
      | none=>none
     | none=>none
     else none
    | none=>none
   | _=>none
  | _=>none
 | _=>none
 else none
def Ct.ok(p:Ct):Bool:=
 p.pre.all (I0 p.ntmps)&&I0 p.ntmps p.x&&(p.ps.all fun q=>decide (q<p.ntmps))&&I0 p.ntmps p.Ed&&I0 p.ntmps p.bd&&I0 p.ntmps p.y&&decide (p.ntmps≤bound)
theorem Zxp(hm:P.follows .mixedOrders=true){a:Ax}(p:K2 P a){n lim:Nat}(r:n<=bound):∀(xs:List Code) (s d:RS) (e:Dn),Fx n s.t->lim<=s.m.next->(xs.map (Y1 P)).all (I0 n)=true->UF a lim (xs.map (Y1 P)) s=some (e,d) ->
 Cc n lim s d/\(e=.normal\/e=.ret) /\ ∀(c:Code) (K:AY->Prop),(e=.ret->K (d.st n))->(e=.normal->AR P c K (d.st n))->AR P (GZ xs c) K (s.st n)
 |[],s,d,e,o,_,_,h=>by
  simp only[List.map_nil,UF,oI,AT]at h;obtain⟨rfl,rfl⟩:=h;exact⟨⟨o,lR _,λc _ B=>⟨B,rfl⟩⟩,.inl rfl,λc K _ j=>j rfl⟩
 |x::xs,s,d,e,o,b,l,h=>by
  simp only[List.map_cons,List.all_cons,bA]at l;simp only[List.map_cons,UF]at h;cases f:P3 a lim 1000 (Y1 P x) s with
  |none=>simp[f]at h
  |some v=>
   obtain⟨q,u⟩:=v;obtain⟨g,j⟩:=oL p r 1000 (Y1 P x) s u q o b l.1 f;cases q with
   |exit i=>simp[f]at h
   |ret=>
    simp only[f,oI,AT]at h;obtain⟨rfl,rfl⟩:=h;exact⟨g,.inr rfl,λc K k _=>iX (St hm x _ _ (j (Kq K (AR P (GZ xs c) K)) (k rfl)))⟩
   |normal=>
    simp only[f]at h;obtain⟨w,y,z⟩:=Zxp hm p r xs u d e g.t (le_trans b g.next) l.2 h;exact⟨g.trans w,y,λc K k A=>iX (St hm x _ _ (j (Kq K (AR P (GZ xs c) K)) (z c K k A)))⟩
theorem Zxf{fn:Func}{p:Ct}(h:RZ P fn=some p):∃c pre x b g ps Ed bd y,fn.body=some c/\c=GZ pre (.seq (.seq x (.block b (.rangeFunc g ps Ed bd))) y)/\X5 g=some p.g/\KG P fn.results.toList=some p.results /\
 (fn.name == "runtime.NumGoroutine")=false/\p.ntmps=fn.ntmps/\p.pre=pre.map (Y1 P)/\p.x=Y1 P x/\p.ps=ps.toList/\p.Ed=Y1 P Ed/\p.bd=Y1 P bd/\p.y=Y1 P y:=by
 unfold RZ at h;cases e:fn.body with
 |none=>simp[e]at h
 |some c=>
  simp only[e]at h;cases d:SD c with
  |none=>simp[d]at h
  |some q=>
   obtain⟨pre,x,b,g,ps,Ed,bd,y⟩:=q;simp only[d]at h;split at h<;>first|(cases h;done)|skip
   rename_i j k i f;split at h<;>first|(cases h;done)|skip
   rename_i a;injection h with h
   subst h;exact⟨c,pre,x,b,g,ps,Ed,bd,y,rfl,Yi5 c _ d,i,f,by simpa using a,rfl,rfl,rfl,rfl,rfl,rfl,rfl⟩
theorem Yc8(hm:P.follows .mixedOrders=true){BS:Nat->Option AD}(Eh:Ph P BS){d:Ax}(I:K2 P d){f:FuncId}{fn:Func}{p:Ct}(hf:P.funcs[f]?=some fn)(hp:RZ P fn=some p)(E:p.ok=true)
 {args:List Aa}{m w:TM}{v:Aa}{wl:List Nat}(h:Ud BS d p args m=some (v,w,wl)) :
 m.next<=w.next/\(∀c,c<m.next->c∉wl->w.mem.get c=m.mem.get c) /\ ∀U,Aw P f args m.mem U λr H=>r=v/\H=w.mem:=by
 obtain⟨c,pre,x,b,g,ps,Ed,bd,y,hb,z,hg,Cz,D,ai,M,ex,ab,L,aa,ey⟩:=Zxf hp;unfold Ct.ok at E;simp only[bA,decide_eq_true_eq]at E;obtain⟨⟨⟨⟨⟨⟨o1,o2⟩,o3⟩,o4⟩,o5⟩,o6⟩,T⟩:=E;unfold Ud at h;cases hl:ble args.length p.ntmps with
 |false=>rw[hl]at h;cases h
 |true=>
 rw[hl]at h;simp only[cond_true]at h;obtain⟨a1,a2⟩:=aJ T (fM hl);rw[M]at h o1;have N:∀s:RS,Cc p.ntmps m.next ⟨D8 .nil 0 args,m,[]⟩ s->EH s.t s.m p.results=some v->w=s.m->wl=s.wl ->
  ((∀K:AY->Prop,K (s.st p.ntmps)->AR P c K ((⟨D8 .nil 0 args,m,[]⟩:RS).st p.ntmps)) ->
  m.next<=w.next/\(∀c,c<m.next->c∉wl->w.mem.get c=m.mem.get c) /\ ∀U,Aw P f args m.mem U λr H=>r=v/\H=w.mem):=by
  intro s hs S V X hA;subst V;subst X;refine⟨hs.next,λc z hw=>(hs.keep c z hw).2,λU=>Zxt hf hb D Cz ?_⟩;rw[<-ai,<-a2];refine hA _ ?_;have:I6 (Cx p.ntmps s.t) s.m.mem p.results=some v:=by rw[bR hs.t];exact S
  simp only[RS.st,this];grind
 cases j:UF d m.next (pre.map (Y1 P)) ⟨D8 .nil 0 args,m,[]⟩ with
 |none=>simp[j]at h
 |some es=>
  obtain⟨e,s⟩:=es;obtain⟨Y,g2,g3⟩:=Zxp hm I T (lim:=m.next) pre ⟨D8 .nil 0 args,m,[]⟩ s e a1 (lR _) o1 j;simp only[j]at h;cases e with
  |exit i=>simp at h
  |ret=>
   simp only at h;cases hr:EH s.t s.m p.results with
   |none=>simp[hr]at h
   |some r=>
    simp only[hr,oI,AT]at h;obtain⟨rfl,rfl,rfl⟩:=h;refine N s Y hr rfl rfl λK hK=>?_;grind
  |normal=>
   simp only at h;rw[ex]at h o2;cases hx:P3 d m.next 1000 (Y1 P x) s with
   |none=>simp[hx]at h
   |some es=>
    obtain⟨V,a⟩:=es;simp only[hx]at h;obtain⟨k1,k2⟩:=oL I T 1000 (Y1 P x) s a V Y.t Y.next o2 hx;cases V with
    |exit i=>simp at h
    |ret=>simp at h
    |normal=>
     simp only at h;split at h<;>first|(cases h;done)|skip
     rename_i gf first cap ae;cases ht:BS gf with
     |none=>simp[ht]at h
     |some o=>
      simp only[ht]at h;obtain⟨⟨aq,af,ac⟩,ad,Q⟩:=Eh gf o ht;cases C:ble (first++[Aa.Dt a.m.next]++cap).length o.ntmps with
      |false=>rw[C]at h;cases h
      |true=>
       rw[C]at h;simp only[cond_true]at h;obtain⟨b1,b2⟩:=aJ Q (fM C);have Z:=Y.trans k1;have wK:=Ybo (P:=P) I (b0:=a.m.next) (ps:=p.ps) (A:=p.Ed) (B:=p.bd) T k1.t o3 o4 o5;split at h<;>first|(cases h;done)|skip
       rename_i X k ah ag;obtain⟨j1,j2⟩:=WA dZ wK I Q 1000 o.body ⟨D8 .nil 0 (first++[.Dt a.m.next]++cap),⟨a.m.tr,a.m.next+1⟩,a.wl⟩ k X b1 (by have h1:m.next<=a.m.next:=Z.next;grind) ad ag;cases G:EH k.t k.m o.results with
       |none=>simp[G]at h
       |some ri=>
        simp only[G]at h;rw[ey]at h o6;split at h<;>first|(cases h;done)|skip
        rename_i e3 J ao hy;obtain⟨l1,l2⟩:=WA (dr:=false) (sc:=false) dZ (Xb I) I T 1000 (Y1 P y) ⟨a.t,k.m,k.wl⟩ J e3 k1.t (by
         have h1:m.next<=a.m.next:=Z.next;have h2:a.m.next+1<=k.m.next:=j1.next;grind) o6 hy
        cases F:EH J.t J.m p.results with
        |none=>simp[F]at h
        |some r=>
         simp only[F,oI,AT]at h;obtain⟨rfl,rfl,rfl⟩:=h;have O:Cc p.ntmps m.next ⟨D8 .nil 0 args,m,[]⟩ J:=by
          refine⟨l1.t,?_,λc z hw=>?_⟩
          ·have h1:m.next<=a.m.next:=Z.next;have h2:a.m.next+1<=k.m.next:=j1.next;have h3:k.m.next<=J.m.next:=l1.next;grind
          obtain⟨q1,q2⟩:=l1.keep c z hw;obtain⟨q3,q4⟩:=j1.keep c z q1;obtain⟨q5,q6⟩:=Z.keep c z q3;exact⟨q5,q2.trans (q4.trans q6)⟩
         refine N J O F rfl rfl λK hK=>?_;rw[z];refine g3 _ K (λhe=>by cases he) λ_=>Zx1 hg (St hm x _ _ (k2 _ ?_));refine⟨gf,first,cap,by rw[<-ae];exact congrFun (MZ k1.t) p.g,λl r aj ak al am an=>?_⟩;have DA:=yl (P:=P) (n:=0) (b:=a.m.next) (l:=l) (tR:=Cx p.ntmps a.t) aj ak;rw[al,am,an,<-ab,<-L,<-aa]at DA;refine v7 hm Fc.mono (Ve Open.wide) DA af ac ?_;show S4 _ true o.body _ ⟨first++[Aa.Dt a.m.next]++cap++List.replicate (o.ntmps-(first++[Aa.Dt a.m.next]++cap).length) Ai,a.m.mem.at (a.m.next+1)⟩;rw[<-b2];refine j2 _ ?_;have u:I6 (Cx o.ntmps k.t) k.m.mem o.results=some ri:=by rw[bR j1.t];exact G
         have q:S4 (IQ P false Ae (Gi P)) false (Y1 P y) (Kq K K) ⟨Cx p.ntmps a.t,k.m.mem⟩:=by
          refine l2 _ ?_;cases e3 with
          |normal=>exact hK
          |ret=>exact hK
          |exit i=>grind
         cases X with
         |normal=>simp only[Dn.exit',FX,RS.st,u];exact q
         |ret=>simp only[Dn.exit',FX,RS.st,u];exact q
         |exit i=>exact absurd rfl (ah i)
end Go.AE
