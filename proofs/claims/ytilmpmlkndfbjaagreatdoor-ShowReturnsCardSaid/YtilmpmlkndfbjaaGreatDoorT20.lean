/- Part 20 -/
import Derived.Test.YtilmpmlkndfbjaaGreatDoorT19
set_option linter.all false
set_option maxRecDepth 100000
set_option maxHeartbeats 16000000
open List (replicate mem_singleton)
namespace Go.Ad
open Go Go.AE Go.Proofs Go.Plain
section
attribute [local simp] NV Ni NF NU MJ NI Np Mn Nr G4 Im E5 B7 Ih E3 Mr MN NL NR Ox Ov MF Nz NX NC MX Nc Mp Oe Mx NP Na NK Ms MH NY MW Ob MD On MY Oc Oo NO MQ Nj Oa Ol Nq Nu Nb Nf MP ME Od NA My NQ MS Mz Mw MV Nw Ns Nv Ow MA KX Of Env.get R4 Ac.at Ac.app Ac.get Z7 O7 Aa.cells Aa.one K4 H9 MR NW NN Ou NM Og MO NS Nl MB MU Om Nh Gy C3 K5 B0 H3 U9 Ai Mo Mq Oj Ot NB L8 V1 H8 I8 L3 D3 Q9 G9 Bm Cm BO CQ Dw BC V5 Aa.AM Q3 Z3 Af.AM E7 N9 I3
theorem jL(T:Nat->Nat)(N:Nat):∀(k:Nat) (seen:List Bool),Gu T N k seen<=k
 |0,_=>lR _
 |k+1,seen=>by
  simp only[Gu];split
  ·have:=jL T N k seen;omega
  have:=jL T N k (Plain.mark T (N+1) seen (N-(k+1)));omega
theorem rC(F:Nat)(ls:List Lt)(E:List DO)(hg:GA ls E)(hT:∀d,d<2*ls.length+2*(Z2 ls).length->X4 ls (Z2 ls) d<2*ls.length+2*(Z2 ls).length)(hE:E.length<=1000) :
 Bo Tryz.prog 144 [.ptr 1 0 0] (dF F ls (ls.map Ab) E) λr m=>r=.bool (decide (H0 (X4 ls (Z2 ls)) (2*ls.length+2*(Z2 ls).length)=(Z2 ls).length+E.length+2))/\m=dF F ls (ls.map Ab) E:=by
 refine Ii hm Tryz.func144 tv rfl rfl λK hK=>?_;have hR:=H1 ls;have h:=hg.small;have w:=λd hd=>qV F ls E hg d hd;unfold dF dM Ke at *;have u:∀q,Z3 q (ls.map Ab)=ls.map Ab:=λq=>Y2 q _ (Y6 ls);generalize ls.map Ab=rows at *;have Q:=hR.len;have ao:=hg.some;have aq:(Z2 ls).length<=ls.length:=by rw[Q7];exact Ib
 generalize ab:BB (W8 ls.length ls.length (U5 ls) false)=B at *;generalize ac:Z1 (W8 ls.length ls.length (O8 ls) 0)=C at *;generalize aa:Z1 (Z2 ls)=A at *;have j:∀q,Z3 q A=A:=λq=>by rw[<-aa];exact Z5 q _
 have k:∀q,Z3 q B=B:=λq=>by rw[<-ab];exact V6 q _
 have n:∀q,Z3 q C=C:=λq=>by rw[<-ac];exact Z5 q _
 generalize (Z2 ls).length=m at *;generalize X4 ls (Z2 ls)=T at *;obtain⟨g,M⟩:∃g,2*ls.length+2*m=g:=⟨_,rfl⟩;have ah:=Y0 (2*(ls.length:Int));have ai:=Y0 (2*(m:Int));have aj:=W7 (2*(ls.length:Int)+2*(m:Int)) (g:Int);obtain⟨ad,an⟩:g<=1048576/\g<=4000:=by omega
 rw[M]at hT w;simp only[M]at hK;obtain⟨L,H⟩:∃L,replicate g false=L:=⟨_,rfl⟩;have e1:replicate g [Aa.bool false]=BB L:=by rw[<-H,fZ]
 have P:L.length=g:=by rw[<-H];simp
 simp[W6,Q,ah,ai,aj,ad,e1];refine M4 (α:=Nat×Nat×List Bool) (λa=>[(25,.int .i64 a.1),(24,.int .i64 g),(5,.int .i64 a.2.1),(4,.sl 7 0 g),(0,.ptr 1 0 0)])
  (λa=>⟨[(1,.cells 7 [[.int .i64 (F:Int),.Al rows,.sl 3 0 ls.length,.sl 5 0 m,.sl 4 0 ls.length,.map 6,.sl 2 0 (F+1)]]),(2,.cells 1 (Z1 (O6 F ls))),(3,.cells 1 B),(4,.cells 1 C),(5,.cells 1 A),(6,.map (FB 0 E) E.length),(7,.cells 1 (BB a.2.2))],8⟩)
  (λa=>g-a.1) (λa=>a.1<=g/\a.2.2.length=g/\a.2.1+Gu T g (g-a.1) a.2.2=H0 T g) (0,0,L) [(7,24)] (by simp[u,j,k,n,Z9,Z5,V6]) ⟨by simp,P,by simp[H0,H]⟩ ?_
 rintro⟨d,c,seen⟩ ⟨hd,hs,e⟩ N hN;simp only at hd hs e hN ⊢;have Ch:c<=g:=by
  have:=jL T g g (replicate g false);unfold H0 at e;omega
 by_cases t:d<g
 ·have Z:=Y0 ((d:Int)+1);have ak:=Y0 ((c:Int)+1);obtain⟨b,hb⟩:∃b,seen[d]?=some b:=⟨_,gE (by omega)⟩;have I:=OL hb;have Fp:(BB seen).length=g:=by rw[BB,lM,hs]
  cases b with
  |true=>
   rw[Ybe t hb]at e;generalize p:BB seen=S at *;obtain⟨_,s⟩:=Y3 I;simp[t,s,Fp,Z];exact hN (d+1,c,seen) [] _ _ (by simp;omega) ⟨by simp;omega,hs,e⟩ (by simp[u,j,k,n,Z9,Z5,V6,p.symm])
  |false=>
   rw[Zyo t hb]at e;have am:=I;generalize p:BB seen=S at *;obtain⟨_,s⟩:=Y3 I;simp[t,s,Fp,ak];subst p;refine M4 (α:=Nat×List Bool×Nat) (λa=>[(7,.int .i64 a.1),(5,.int .i64 ((c:Int)+1)),(25,.int .i64 d),(24,.int .i64 g),(4,.sl 7 0 g),(0,.ptr 1 0 0)])
    (λa=>⟨[(1,.cells 7 [[.int .i64 (F:Int),.Al rows,.sl 3 0 ls.length,.sl 5 0 m,.sl 4 0 ls.length,.map 6,.sl 2 0 (F+1)]]),(2,.cells 1 (Z1 (O6 F ls))),(3,.cells 1 B),(4,.cells 1 C),(5,.cells 1 A),(6,.map (FB 0 E) E.length),(7,.cells 1 (BB a.2.1))],8⟩)
    (λa=>A4 a.2.1) (λa=>a.1<g/\a.2.1.length=g/\A4 a.2.1<=a.2.2/\Plain.mark T (g+1) seen d=Plain.mark T (a.2.2+1) a.2.1 a.1) (d,seen,g) [] (by simp[u,j,k,n,Z9,Z5,V6]) ⟨t,hs,by have:=UI (l:=seen);simp;omega,rfl⟩ ?_
   rintro⟨x,D,fu⟩ ⟨hx,v,ag,i⟩ N2 O;simp only at hx v ag i O ⊢;obtain⟨b2,By⟩:∃b2,D[x]?=some b2:=⟨_,gE (by omega)⟩;have y:=OL By;have z:(BB D).length=g:=by rw[BB,lM,v]
   cases b2 with
   |true=>
    rw[zm By]at i;generalize p:BB D=S at *;obtain⟨_,o⟩:=Y3 y;simp[hx,o,z,Z];subst p;refine hN (d+1,c+1,D) [] _ _ (by simp;omega) ⟨by simp;omega,v,?_⟩ (by simp[u,j,k,n,Z9,Z5,V6]);simp only;rw[i]at e;rw[<-e,Nat.add_assoc]
   |false=>
    rw[Z5t By]at i;have au:=pW By;have U:=fK D x true;have ae:=hT x hx;have V:(D.set x true).length=g:=by simpa using v
    generalize D.set x true=al at *;generalize p:BB D=S at *;obtain⟨_,o⟩:=Y3 y;simp[hx,o,z,U];refine S3 (w x hx) [] (by simp) (by simp[u,j,k,n,Z9,Z5]) (by simp) ?_;rintro r sm ⟨rfl,rfl⟩;simp[u,j,k,n,Z9,Z5];obtain⟨G,af⟩:∃G,fu=G+1:=⟨fu-1,by omega⟩;subst af;exact O (T x,al,G) [] _ _ (by simp;omega) ⟨ae,V,by simp;omega,i⟩ (by simp[u,j,k,n,Z9,Z5,V6])
 have he:d=g:=by omega
 subst he;rw[Nat.sub_self]at e;simp only[Gu,Nat.add_zero]at e;have X:=Y0 ((m:Int)+(E.length:Int));have Y:=Y0 ((m:Int)+(E.length:Int)+2);by_cases hc:c=m+E.length+2
 ·have J:(c:Int)=(m:Int)+(E.length:Int)+2:=by omega
  simp[VN,X,Y,J];refine Z6 hK [] ?_;rw[<-e];simp[u,j,k,n,Z9,Z5,hc]
 have J:¬(c:Int)=(m:Int)+(E.length:Int)+2:=by omega
 simp[VN,X,Y,J];refine Z6 hK [] ?_;rw[<-e];simp[u,j,k,n,Z9,Z5,hc]
end
section
attribute [local simp] NV Ni NF NU MJ NI Np Mn Nr G4 Im E5 B7 Ih E3 Mr MN NL NR Ox Ov MF Nz NX NC MX Nc Mp Oe Mx NP Na NK Ms MH NY MW Ob MD On MY Oc Oo NO MQ Nj Oa Ol Nq Nu Nb Nf MP ME Od NA My NQ MS Mz Mw MV Nw Ns Nv Ow MA KX Of Env.get R4 Ac.at Ac.app Ac.get Z7 O7 Aa.cells Aa.one K4 H9 MR NW NN Ou NM Og MO NS Nl MB MU Om Nh Gy C3 K5 B0 H3 U9 Ai Mo Mq Oj Ot NB L8 V1 H8 I8 L3 D3 Q9 G9 Bm Cm BO CQ Dw BC V5 Aa.AM Q3 Z3 Af.AM E7 N9 I3
def QC(F:Nat)(ls:List Lt):Prop:=
 ls.all (DR F)=true∧(at' ls 0).k=1∧Z0 ls % 2=0∧EI ls (Z0 ls) ls.length=true∧HY ls∧H0 (X4 ls (Z2 ls)) (2*ls.length+2*(Z2 ls).length)=(Z2 ls).length+(Bf ls ls.length).length+2
def Kt(F:Nat)(ls:List Lt)(rows:List (List Aa)):Nat→List (Nat×Af)
 | 0|1|2=>[(1,Rz F rows)]
 | 3=>[(1,gF F ls.length (Z2 ls).length rows),(2,.cells 1 (Z1 (O6 F ls))),(3,.cells 1 (BB (W8 ls.length ls.length (U5 ls) false))),(4,.cells 1 (Z1 (W8 ls.length ls.length (O8 ls) 0))),(5,.cells 1 (Z1 (Z2 ls)))]
 | _=>[(1,Ke F ls.length (Z2 ls).length rows),(2,.cells 1 (Z1 (O6 F ls))),(3,.cells 1 (BB (W8 ls.length ls.length (U5 ls) false))),(4,.cells 1 (Z1 (W8 ls.length ls.length (O8 ls) 0))),(5,.cells 1 (Z1 (Z2 ls))),(6,.map (FB 0 (Bf ls ls.length)) (Bf ls ls.length).length)]
abbrev tG:Af:=.cells 1 [[.func (.func 140) [.ptr 1 0 0] []],[.func (.func 141) [.ptr 1 0 0] []],[.func (.func 142) [.ptr 1 0 0] []],[.func (.func 143) [.ptr 1 0 0] []],[.func (.func 144) [.ptr 1 0 0] []]]
theorem qU(F:Nat)(ls:List Lt)(h:ls.length<=1000)(hF:F<=1000) :
 Bo Tryz.prog 111 [.ptr 1 0 0] (HN F (ls.map Ab)) λr m=>(ls=[]/\r=.bool true/\m=HN F (ls.map Ab))\/(ls≠[]/\QC F ls/\r=.bool true/\m=dF F ls (ls.map Ab) (Bf ls ls.length))\/(ls≠[] /\ ¬QC F ls/\r=.bool false/\m=⟨[],2⟩):=by
 refine D2 hm Tryz.func111 Zy7 rfl rfl λK P=>?_;have hR:=H1 ls;have G:=qY F ls h;have H:=qZ F ls h;have I:=rA F ls h hF;have J:=λA B C D=>rB F ls (Z2 ls).length h A B C D;have L:=rC F ls (Bf ls ls.length);have b:∀q,Z3 q (ls.map Ab)=ls.map Ab:=λq=>Y2 q _ (Y6 ls);generalize ls.map Ab=rows at *;have c:=hR.len;by_cases w:ls=[]
 ·have aa:rows=[]:=List.length_eq_zero_iff.1 (by rw[c,w];rfl);have X:=P _ _ (.inl ⟨w,rfl,rfl⟩);subst aa;simp;exact Z6 X [] (by simp)
 have o:0<ls.length:=List.length_pos_iff.2 w;have ab:¬rows=[]:=λe=>by rw[e]at c;simp at c;omega
 have M:QC F ls -> ∀l m,Bm 2 l [(0,.bool true)] (dF F ls rows (Bf ls ls.length)) [(0,.bool true)] m->R9 2 K (.bool true) m:=
  λhr l m hs=>Z6 (P _ _ (.inr (.inl ⟨w,hr,rfl,rfl⟩))) l hs
 have g:¬QC F ls -> ∀l m,Bm 2 l [(0,.bool false)] ⟨[],2⟩ [(0,.bool false)] m->R9 2 K (.bool false) m:=
  λhr l m hs=>Z6 (P _ _ (.inr (.inr ⟨w,hr,rfl,rfl⟩))) l hs
 clear P;simp[c,w];refine M4 (α:=Nat) (λi=>[(24,.int .i64 i),(23,.int .i64 5),(22,.sl 7 0 5),(0,.ptr 1 0 0)]) (λi=>⟨Kt F ls rows i++[(7,tG)],8⟩)
  (λi=>5-i) (λi=>i<=5/\(0<i->ls.all (DR F)=true)/\(1<i->(at' ls 0).k=1/\Z0 ls%2=0)/\(2<i->EI ls (Z0 ls) ls.length=true)/\(3<i->HY ls) /\
    (4<i->H0 (X4 ls (Z2 ls)) (2*ls.length+2*(Z2 ls).length)=(Z2 ls).length+(Bf ls ls.length).length+2)) 0 [(7,20)] (by simp[Kt,b,Z9,Z5,V6]) (by simp) ?_
 rintro i ⟨hi,n,p,E,O,g5⟩ N y
 try simp only at hi n p E O g5 y ⊢
 have w1:IntKind.i64.wrap 1=1:=by decide
 have w2:IntKind.i64.wrap 2=2:=by decide
 have z:IntKind.i64.wrap 3=3:=by decide
 have t:IntKind.i64.wrap 4=4:=by decide
 have u:IntKind.i64.wrap 5=5:=by decide
 rcases (show i=0\/i=1\/i=2\/i=3\/i=4\/i=5 by omega)with rfl|rfl|rfl|rfl|rfl|rfl
 ·simp[Kt];refine S3 G [] (by simp) (by simp[b,Z9,Z5,V6]) (by simp) ?_;rintro r S ⟨rfl,rfl⟩;cases a:ls.all (DR F)with
  |true=>
   simp[b,Z9,Z5,V6,w1,w2,z,t,u];exact y 1 [] _ _ (by omega) ⟨by omega,λ_=>a,by omega,by omega,by omega,by omega⟩ (by simp[Kt,b,Z9,Z5,V6])
  |false=>
   simp[b,Z9,Z5,V6,w1,w2,z,t,u];exact g (λj=>by rw[j.1]at a;cases a) [] _ (by simp)
 ·simp[Kt];refine S3 (H o) [] (by simp) (by simp[b,Z9,Z5,V6]) (by simp) ?_;rintro r S ⟨rfl,rfl⟩;by_cases a:(at' ls 0).k=1/\Z0 ls%2=0
  ·simp[b,w2,a];exact y 2 [] _ _ (by omega) ⟨by omega,λ_=>n (by omega),λ_=>a,by omega,by omega,by omega⟩ (by simp[Kt,b,Z9,Z5,V6])
  have By:(decide ((at' ls 0).k=1)&&decide (Z0 ls%2=0))=false:=by
   rw[<-Bool.not_eq_true];simpa using a
  rw[By];simp[b,Z9,Z5,V6,w1,w2,z,t,u];exact g (λj=>a ⟨j.2.1,j.2.2.1⟩) [] _ (by simp)
 ·have V:=UD (n (by omega));simp[Kt];refine S3 (I V) [] (by simp) (by simp[b,Z9,Z5,V6]) (by simp) ?_;rintro r S (⟨a,rfl,rfl⟩|⟨a,rfl,rfl⟩)
  ·have T:=Yfo V a;have Y:=Q7 ls;unfold dR;rw[T,<-Y];simp[b,Z9,Z5,V6,w1,w2,z,t,u];exact y 3 [(2,15),(3,16),(4,17),(5,18)] _ _ (by omega) ⟨by omega,λ_=>n (by omega),λ_=>p (by omega),λ_=>a,by omega,by omega⟩ (by simp[Kt,b,Z5,V6])
  simp[b,Z9,Z5,V6,w1,w2,z,t,u];exact g (λj=>by rw[j.2.2.2.1]at a;cases a) [] _ (by simp)
 ·simp[Kt];refine S3 (J (Z1 (O6 F ls)) (BB (W8 ls.length ls.length (U5 ls) false)) (Z1 (W8 ls.length ls.length (O8 ls) 0)) (Z1 (Z2 ls)) (λq=>Z5 q _) (λq=>V6 q _) (λq=>Z5 q _) (λq=>Z5 q _)) [] (by simp) (by simp[b,Z5,V6]) (by simp) ?_;rintro r S (⟨a,rfl,rfl⟩|⟨a,rfl,rfl⟩)
  ·simp[b,Z9,Z5,V6,t];exact y 4 [(6,15)] _ _ (by omega) ⟨by omega,λ_=>n (by omega),λ_=>p (by omega),λ_=>E (by omega),λ_=>a,by omega⟩ (by simp[Kt,b,Z9,Z5,V6])
  simp[b,Z9,Z5,V6,w1,w2,z,t,u];exact g (λj=>a j.2.2.2.2.1) [] _ (by simp)
 ·have V:=UD (n (by omega));have s:=Yeo h (n (by omega)) o (p (by omega)).1 (E (by omega)) (O (by omega));have T:∀v,v∈Z2 ls->v<ls.length:=λv Q=>(AA.1 Q).1;have Z:∀v,v<ls.length->(at' ls v).k≠2->v∈Z2 ls:=λv Q h2=>AA.2 ⟨Q,by simp[As,(s.kind v Q).resolve_right h2]⟩;have hT:∀d,d<2*ls.length+2*(Z2 ls).length->X4 ls (Z2 ls) d<2*ls.length+2*(Z2 ls).length:=λd hd=>jI T Z s.some hd;have U:(Bf ls ls.length).length<=1000:=by have:=yR ls ls.length;omega
  simp[Kt];refine S3 (L s hT U) [] (by simp) (by simp[b,Z9,Z5,V6]) (by simp) ?_;rintro r S ⟨rfl,rfl⟩;by_cases a:H0 (X4 ls (Z2 ls)) (2*ls.length+2*(Z2 ls).length)=(Z2 ls).length+(Bf ls ls.length).length+2
  ·simp[b,Z9,Z5,V6,u,a];exact y 5 [] _ _ (by omega) ⟨by omega,λ_=>n (by omega),λ_=>p (by omega),λ_=>E (by omega),λ_=>O (by omega),λ_=>a⟩ (by simp[Kt,b,Z9,Z5,V6])
  simp[b,Z9,Z5,V6,a];exact g (λj=>a j.2.2.2.2.2) [] _ (by simp)
 simp[Kt];exact M ⟨n (by omega),(p (by omega)).1,(p (by omega)).2,E (by omega),O (by omega),g5 (by omega)⟩ [] _ (by simp[b,Z9,Z5,V6])
end
abbrev HE:=Nat×Nat×Bool
def Dv(ls:List Lt)(d:Nat):Bool:=(at' ls (V2 ls.length d)).k == 2
def pP(ls:List Lt)(w:List Nat):Nat:=(w.filter (Dv ls)).length
def Mg(ls:List Lt)(w:List Nat×Bool):HE:=(pP ls w.1,w.1.length,!w.2)
def Vf(ls:List Lt):List HE:=(fR (X4 ls (Z2 ls)) (2*ls.length)).map (Mg ls)
def UW(out:List Nat)(c:Nat):List Nat:=out++replicate (c+1 - out.length) 0
def GF(out:List Nat)(c:Nat):List Nat:=out.set c (out.getD c 0+1)
def B9(out:List Nat)(p:HE):List Nat:=if p.2.2 then GF (UW out p.1) p.1 else out
def FV(ps:List HE):List Nat:=ps.foldl B9 []
def ID(m:Nat)(p:HE):Nat:=if p.2.2 then max m (p.1+1)else m
def Zw(ps:List HE):Nat:=ps.foldl ID 0
def FW(out:List Nat)(p:HE):List Nat:=if p.2.2 then GF out p.1 else out
def TZ(ps:List HE):List Nat:=ps.foldl FW (replicate (Zw ps) 0)
theorem Z5n(a:List Nat)(c:Nat):(UW a c).length=max a.length (c+1):=by simp[UW];omega
theorem Z9r(a:List Nat)(c:Nat):(GF a c).length=a.length:=by simp[GF]
theorem Z6y{a b:List Nat}{c:Nat}(h:c<a.length):GF (a++b) c=GF a c++b:=by
 unfold GF;grind
theorem Yaw(p:HE)(m:Nat):m<=ID m p:=by unfold ID;split<;>omega
theorem v8:∀(ps:List HE) (m:Nat),m<=ps.foldl ID m
 |[],m=>lR _
 |p::r,m=>Nat.le_trans (Yaw p m) (v8 r _)
theorem lQ(M:Nat):∀(ps:List HE) (a:List Nat),ps.foldl ID a.length<=M->ps.foldl FW (a++replicate (M-a.length) 0)=ps.foldl B9 a++replicate (M-(ps.foldl B9 a).length) 0/\(ps.foldl B9 a).length=ps.foldl ID a.length
 |[],a,_=>⟨rfl,rfl⟩
 |p::r,a,h=>by
  simp only[List.foldl_cons]at h ⊢;cases b:p.2.2 with
  |false=>
   have e:FW (a++replicate (M-a.length) 0) p=a++replicate (M-a.length) 0:=by simp[FW,b]
   have c:B9 a p=a:=by simp[B9,b]
   have d:ID a.length p=a.length:=by simp[ID,b]
   rw[e,c,d];rw[d]at h;exact lQ M r a h
  |true=>
   have d:ID a.length p=max a.length (p.1+1):=by simp[ID,b]
   rw[d]at h ⊢;have g:max a.length (p.1+1)<=M:=Nat.le_trans (v8 r _) h;have c:B9 a p=GF (UW a p.1) p.1:=by simp[B9,b]
   have f:(B9 a p).length=max a.length (p.1+1):=by rw[c,Z9r,Z5n]
   have e:FW (a++replicate (M-a.length) 0) p=B9 a p++replicate (M-(B9 a p).length) 0:=by
    have:a++replicate (M-a.length) 0=UW a p.1++replicate (M-max a.length (p.1+1)) 0:=by
     unfold UW;rw[List.append_assoc,List.replicate_append_replicate]
     congr 2
     omega
    rw[f,c,this];simp only[FW,b,if_true];exact Z6y (by rw[Z5n];omega)
   rw[e,<-f];rw[<-f]at h;exact lQ M r _ h
theorem Zxe(ps:List HE):TZ ps=FV ps:=by
 obtain⟨b,a⟩:=lQ (Zw ps) ps [] (lR _);unfold TZ FV;have c:(ps.foldl B9 []).length=Zw ps:=a;simp_all
attribute [simp] NV Ni NF NU MJ NI Np Mn Nr G4 Im E5 B7 Ih E3 Mr MN NL NR Ox Ov MF Nz NX NC MX Nc Mp Oe Mx NP Na NK Ms MH NY MW Ob MD On MY Oc Oo NO MQ Nj Oa Ol Nq Nu Nb Nf MP ME Od NA My NQ MS Mz Mw MV Nw Ns Nv Ow MA KX Of Env.get R4 Ac.at Ac.app Ac.get Z7 O7 K4 H9 MR NW NN Ou NM Og MO NS Nl MB MU Om Nh Gy C3 K5 B0 H3 U9 Ai Mo Mq Oj Ot NB L8 V1 H8 I8 L3 D3 Q9 G9 Bm Cm BO CQ Dw BC V5 Aa.AM Q3 Z3 Af.AM E7 N9 I3 S9 S8 FT.indep G3 B5 Je Fs Ma Wo F8 JF W6 Yl0 uq Ykr Ye5 pX wh zK Yfv Z8x Z79 Yj8 Ygq Zzp Yfh Ycg Ykp Ybi Yle Yc0 Ykb Yie Z6t Yfi Yjy DX Ui Yga Yis nM Ul RU Ww Yk4 Yg3
@[simp] theorem sK(k:IntKind)(n:Int): Aa.cells (.int k n)=some [(.int k n)]:=rfl
@[simp] theorem xW(k:IntKind)(n:Int): Aa.one (.int k n)=true:=rfl
@[simp] theorem Ym0(b:Bool): Aa.cells (.bool b)=some [(.bool b)]:=rfl
@[simp] theorem Ynf(b:Bool): Aa.one (.bool b)=true:=rfl
@[simp] theorem sM(a b c:Nat): Aa.cells (.ptr a b c)=some [(.ptr a b c)]:=rfl
@[simp] theorem xY(a b c:Nat): Aa.one (.ptr a b c)=true:=rfl
@[simp] theorem Ym5(l:List (List Aa))(a b:Nat): Aa.cells (.Bc l a b)=some [(.Bc l a b)]:=rfl
@[simp] theorem Yno(l:List (List Aa))(a b:Nat): Aa.one (.Bc l a b)=true:=rfl
@[simp] theorem ce_sl(a b c:Nat): Aa.cells (.sl a b c)=some [(.sl a b c)]:=rfl
@[simp] theorem on_sl(a b c:Nat): Aa.one (.sl a b c)=true:=rfl
@[simp] theorem sJ(l:List (List Aa)): Aa.cells (.Al l)=some [(.Al l)]:=rfl
@[simp] theorem xV(l:List (List Aa)): Aa.one (.Al l)=true:=rfl
@[simp] theorem sL(b:Nat): Aa.cells (.map b)=some [(.map b)]:=rfl
@[simp] theorem xX(b:Nat): Aa.one (.map b)=true:=rfl
@[simp] theorem Ynq(f:Fn)(a b:List Aa): Aa.cells (.func f a b)=some [(.func f a b)]:=rfl
@[simp] theorem Ymb(f:Fn)(a b:List Aa): Aa.one (.func f a b)=true:=rfl
@[simp] theorem sN(l:List UInt8): Aa.cells (.str l)=some [(.str l)]:=rfl
@[simp] theorem xZ(l:List UInt8): Aa.one (.str l)=true:=rfl
@[simp] theorem Ymj:Aa.cells .Aj=some [.Aj]:=rfl
@[simp] theorem Yna:Aa.one .Aj=true:=rfl
@[simp] theorem Ynh:Aa.cells .nilPtr=some [.nilPtr]:=rfl
@[simp] theorem Yms:Aa.one .nilPtr=true:=rfl
@[simp] theorem Ym6:Aa.cells .AF=some [.AF]:=rfl
@[simp] theorem Ymq:Aa.one .AF=true:=rfl
@[simp] theorem Ynd:Aa.cells .nilFunc=some [.nilFunc]:=rfl
@[simp] theorem Ymd:Aa.one .nilFunc=true:=rfl
@[simp] theorem sI(l:List Aa):Aa.cells (.agg l)=some l:=rfl
def G6(l:List (List Nat)):List (List Aa):=l.map fun w=>[.Al (Z1 w)]
theorem qH(l:List (List Nat)):(G6 l).length=l.length:=by simp[G6]
theorem pJ(l:List (List Nat))(w:List Nat):G6 (l++[w])=G6 l++[[.Al (Z1 w)]]:=by simp[G6]
theorem eO:∀(l:List (List Nat)),W3 (G6 l)=true
 |[]=>rfl
 |w::r=>by
  have:=eO r;simp only[G6,List.map_cons,W3,Y7,Aa.closed,B3,Bool.and_true,Bool.true_and]at this ⊢;exact this
theorem Wd(q:Nat->Nat)(l:List (List Nat)):Z3 q (G6 l)=G6 l:=Y2 q _ (eO l)
theorem Yl5{get:Nat->Option Af}{S:List Nat}{A:List (List Aa)}(a:W3 A=true)(r:List Aa):C5 get S (A++[r])=A++[r.map (DP get S)]:=by
 rw[Yav,mU a];rfl
@[simp] theorem cA(q:Nat -> Nat)(a b:List (List Aa)):Z3 q (a ++ b)=Z3 q a ++ Z3 q b:=by simp [J1]
theorem Yjq{get:Nat->Option Af}{S:List Nat}{b:Nat}{l:List Nat}(c:V1 b S=true)(d:get b=if Z1 l=[]then none else some (.cells 1 (Z1 l))):DP get S (Bt b (Z1 l))=Bg (Z1 l):=
 yf c d λrow e x a=>by
  obtain⟨i,_,rfl⟩:=mM.1 e;rw[mem_singleton]at a;subst a;rfl
theorem Ur{get:Nat->Option Af}{b k n:Nat}{rows:List (List Aa)}(h:get b=some (.cells k rows))(c:∀row,row∈rows -> ∀x,x∈row->X8 get n x=some x):X8 get (n+1) (.sl b 0 rows.length)=some (.Al rows):=by
 have a:Nat.ble (0+rows.length) rows.length=true:=by rw[Nat.zero_add];exact Nat.ble_self_eq_true _
 rw[X8];simp only[h,a,cond_true,List.drop_zero,List.take_length,Xl c]
theorem bP{get:Nat->Option Af}{n:Nat}{rows:List (List Aa)}(a:∀row,row∈rows -> ∀x,x∈row->X8 get n x=some x):X8 get (n+1) (.Al rows)=some (.Al rows):=by
 rw[X8];simp only[Xl a]
theorem XF{get:Nat->Option Af}{n:Nat}(l:List Nat):∀row,row∈Z1 l -> ∀x,x∈row->X8 get (n+1) x=some x:=by
 intro row b x a;obtain⟨i,_,rfl⟩:=mM.1 b;rw[mem_singleton]at a;subst a;rfl
theorem Ya0{get:Nat->Option Af}{n:Nat}(l:List (List Nat)):∀row,row∈G6 l -> ∀x,x∈row->X8 get (n+2) x=some x:=by
 intro row b x a;obtain⟨w,_,rfl⟩:=mM.1 b;rw[mem_singleton]at a;subst a;exact bP (XF w)
set_option maxRecDepth 100000
set_option maxHeartbeats 400000
def qT:AD:=by
 have h:=rQ Tryz.f12
 conv at h=>rhs; reduce
 dsimp at h
 exact oR h
theorem tF:Bk Tryz.prog Tryz.f12=some qT:=by kernel_rfl
end Go.Ad
namespace Go.AE
open Go.RowKit
def Qw(n k:Nat)(get:Nat→Option Af)(v:Aa)(lh:Option (Nat×Nat)):Option (Aa×Nat):=
 match k,v,lh with
 | 1,.ptr b i j,some (l,h)=>match get b with
  | some (.cells _ els)=>match DP get [b] (.sl b i 1)with
   | .Al [row]=>if i<els.length∧j+n≤row.length∧h≤n∧l≤h then some (.Al (((row.drop (j+l)).take (h - l)).map fun y=>[y]),b)else none
   | _=>none
  | _=>none
 | _,_,_=>none
section
variable {P:Program} {W:Aq} {Φ:Ap} {ρ:AI} {w:World} {m:Mem} {a:Act} {t:List Aa}
theorem Yf0{o:Oper}{n k:Nat}{x:Ah}{lo hi:Option Ah}(f:N8 P o=.CM n k x lo hi):∃ty e x0 c b,o.op=.slice ty x0 c b none/\P.underlying ty=some (.array n e)/\J7 P e=some k/\X5 x0=some x/\B1 c=some lo/\B1 b=some hi:=by
 unfold N8 at f;cases a:HM P o with
 |none=>simp[a]at f
 |some op=>
  simp only[a,Option.getD_some]at f;subst f;unfold HM at a;split at a<;>first|(cases a;done)|skip
  all_goals first
   | (simp only[mO]at a;obtain⟨_,_,a⟩:=a;cases a;done)
   | (split at a<;>first|(cases a;done)|skip
      all_goals (split at a<;>first|(cases a;done)|skip)
      rename_i ty x0 c b d h _ _ _ _ _ n0 r x1 u s m p l i hm _ t j;cases a;have g:d=none:=by
       cases d with
       |none=>rfl
       |some z=>simp only[B1]at hm;cases q:X5 z<;>simp[q]at hm
      subst g;exact⟨ty,_,x0,c,b,h,m,j,p,l,i⟩)
   |skip
  all_goals (try unfold La at a)
  all_goals (repeat' (split at a<;>first|(cases a;done)|(simp only[mO]at a;obtain⟨_,_,a⟩:=a;cases a;done)|skip))
  all_goals (first|(cases a;done)|skip)
theorem Yc3{K:Act->World->Prop}{Q:Exit->Act->World->Prop}(ht:RL Φ ρ t a.tmps)(G:Rel W Φ ρ m w)(o:Oper){n k:Nat}{x:Ah}{lo hi:Option Ah}(ho:N8 P o=.CM n k x lo hi){v:Aa}{b:Nat}
 (h:Qw n k m.get (ev t x) (F0 t n n lo hi)=some (v,b))
 (hK:∀T u,Ext Φ ρ T ρ->Rel W T ρ (m.del b) w->R T ρ v u->K (a.put o.dst u) w):o.wp P a w K Q:=by
 obtain⟨ty,e,x0,S,L,ad,hu,hk,I,hl,hh⟩:=Yf0 ho;have hv:=Q1 ht I;have ac:=Ut ht hl;have aa:=Ut ht hh;obtain⟨an,M,ae⟩:=Pq hk;unfold Qw at h;split at h
 ·rename_i b0 i j l g X V;split at h<;>first|(cases h;done)|skip
  rename_i kk els Z;split at h<;>first|(cases h;done)|skip
  rename_i row Y;split at h<;>first|(cases h;done)|skip
  rename_i hc;obtain⟨ai,aj,ak,al⟩:=hc;injection h with h
  injection h with h1 h2
  subst h1;subst h2;obtain⟨Bs,hE,f1,f2,f3,f4⟩:=Sg [b0] G;have hb:=(UQ (P:=P) (w:=w) (cap:=n) (b:=false) ac aa V (lR _)).1;rw[X]at hv;obtain⟨d,ob,q1,q2,q3,q4,q5⟩:=G.live b0 _ Z;have ah:d.sh+els.length<=d.n:=by
   cases q5 with
   |cells _ _ _ c e hk hn hl G h1=>exact hl
  have hR:=f4 _ _ (R.sl (Φ:=Φ) (ρ:=ρ) b0 i 1 (some ⟨d.blk,(d.sh+i)*d.k,none⟩) (d.n-(d.sh+i)) d q1 (by omega) (by omega) (λ_=>rfl) rfl);rw[Y]at hR;generalize af:a.eval x0=vv at hv;cases hv with
  |ptr _ _ _ l2 E=>
  rw[q1]at E;injection E with E
  subst E;cases hR with
  |Al _ B o' k cap c f N ag hB ab CC Ao=>
   have D:[row][0]?=some row:=rfl;have O:(Instr.sliceAt ty (.pointer (some ⟨d.blk,(d.sh+i)*d.k+j,none⟩)) (S.map a.eval) (L.map a.eval) none).run P w=.ok (.slice (some (if n=l then ⟨d.blk,(d.sh+i)*d.k+j,none⟩ else (⟨d.blk,(d.sh+i)*d.k+j,none⟩:Addr).add (l*1))) (g-l) (n-l)) w:=by
    simp only[Instr.sliceAt,Instr.sureAddr,Sem.run_bind,V8 hu,Result.andThen_ok,Sem.run_pure,hb,B8 M,ae]
   have e0:execOp a.eval o=(do pure (Next.value (<-Instr.sliceAt ty (a.eval x0) (S.map a.eval) (L.map a.eval) none))):=by unfold execOp;rw[ad];rfl
   have H:(execOp a.eval o).run P w=.ok (Next.value (.slice (some (if n=l then ⟨d.blk,(d.sh+i)*d.k+j,none⟩ else (⟨d.blk,(d.sh+i)*d.k+j,none⟩:Addr).add (l*1))) (g-l) (n-l))) w:=by
    rw[e0,af];simp only[Sem.run_bind,O,Result.andThen_ok,Sem.run_pure]
   unfold Oper.wp;rw[H];have am:row.length=k:=ab _ _ D;have s:(((row.drop (j+l)).take (g-l)).map λy=>[y]).length=g-l:=by simp;omega
   refine hK Bs _ hE ⟨G.base,f1,λc x I=>?_,λc c' x x' l l' F J=>?_,G.fresh,f2⟩ ?_
   ·simp only[Mem.Bx]at I;split at I
    ·cases I
    rename_i N;obtain⟨l,o,F,J,g3,g4,g5⟩:=G.live c x I;exact⟨l,o,F,J,f3 c x l I F (by simp[V1,N]),g4,g5.ext hE⟩
   ·simp only[Mem.Bx]at F J;split at F<;>first|(cases F;done)|skip
    split at J<;>first|(cases J;done)|skip
    exact G.inj _ _ _ _ _ _ F J
   by_cases hz:g=l
   ·have e1:(((row.drop (j+l)).take (g-l)).map λy=>[y])=[]:=List.eq_nil_of_length_eq_zero (by rw[s];omega);rw[e1,show g-l=0 by omega];refine .CA _ _ λ_=>?_;split
    ·exact⟨_,_,rfl⟩
    exact⟨d.blk,_,by rw[Addr.Bd]⟩
   rw[iN (by omega),Addr.Bd];have C:∀(p:Nat) (r:List Aa),(((row.drop (j+l)).take (g-l)).map λy=>[y])[p]?=some r -> ∃y,row[j+l+p]?=some y/\r=[y]:=λp r z=>by
    rw[gM]at z;cases A:((row.drop (j+l)).take (g-l))[p]? with
    |none=>rw[A]at z;cases z
    |some y=>
     rw[A]at z;injection z with z
     rw[List.getElem?_take]at A;split at A
     ·rw[List.getElem?_drop]at A;exact⟨y,A,z.symm⟩
     cases A
   suffices key:R Bs ρ (.Al (((row.drop (j+l)).take (g-l)).map λy=>[y])) (.slice (some ⟨d.blk,(d.sh+i)*d.k+j+l*1,none⟩) (((row.drop (j+l)).take (g-l)).map λy=>[y]).length (n-l)) by
    rw[s]at key;exact key
   refine .Al _ d.blk ((d.sh+i)*d.k+j+l*1) 1 (n-l) c (λp q=>f 0 (j+l+p)) (λe=>by have:=congrArg List.length e;rw[s]at this;simp at this;omega) (by rw[s];omega) hB (λp r z=>?_) (λp r q y z A=>?_) (λp r q y z A=>?_)
   ·obtain⟨y,_,rfl⟩:=C p r z;rfl
   ·obtain⟨y',U,rfl⟩:=C p r z;cases q with
    |succ q=>simp at A
    |zero=>
     obtain⟨k1,k2⟩:=CC 0 row (j+l+p) y' D U;refine⟨?_,k2⟩;rw[<-k1]
     congr 1
     omega
   obtain⟨y',U,rfl⟩:=C p r z;cases q with
   |succ q=>simp at A
   |zero=>
    simp only[List.getElem?_cons_zero,oI]at A;subst A;exact Ao 0 row (j+l+p) y' D U
 cases h
def B4(P:Program)(base:Nat):List Ag→Nat→(AY→Prop)→List Aa→Mem→Prop
 | [],_,K,t,m=>K ⟨t,m⟩
 | o :: r,i,K,t,m=>
  match P7 t o.guard with
  | some false=>B4 P base r (i+1) K (put t o.dst Ai) m
  | some true=>
   match o.op with
   | .call f xs=>match callee t f xs with
    | some (g,args)=>Aw P g args m [base+i] fun v m'=>B4 P base r (i+1) K (put t o.dst v) m'
    | none=>False
   | .CM n k x lo hi=>match Qw n k m.get (ev t x) (F0 t n n lo hi)with
    | some (v,b)=>B4 P base r (i+1) K (put t o.dst v) (m.del b)
    | none=>False
   | op=>match Ae (base+i) t m op with
    | some (v,m')=>B4 P base r (i+1) K (put t o.dst v) m'
    | none=>False
  | none=>False
theorem Yac{base i:Nat}{b:Ag}{a:List Ag}{K:AY->Prop}{t:List Aa}{m:Mem}(h:B4 P base (b::a) i K t m) :
 (P7 t b.guard=some false/\B4 P base a (i+1) K (put t b.dst Ai) m) \/
 (P7 t b.guard=some true/\((∃f xs g args,b.op=.call f xs/\callee t f xs=some (g,args)/\Aw P g args m [base+i] λv d=>B4 P base a (i+1) K (put t b.dst v) d) \/
   (∃n k x lo hi v c,b.op=.CM n k x lo hi/\Qw n k m.get (ev t x) (F0 t n n lo hi)=some (v,c)/\B4 P base a (i+1) K (put t b.dst v) (m.del c)) \/
   (∃v d,Ae (base+i) t m b.op=some (v,d)/\B4 P base a (i+1) K (put t b.dst v) d))):=by
 simp only[B4]at h;cases p:P7 t b.guard with
 |none=>simp[p]at h
 |some q=>
  cases q with
  |false=>simp only[p]at h;exact .inl ⟨rfl,h⟩
  |true=>
   simp only[p]at h;refine .inr ⟨rfl,?_⟩;have l:∀op,b.op=op->(match Ae (base+i) t m op with|some (v,d)=>B4 P base a (i+1) K (put t b.dst v) d|none=>False) ->
    ∃v d,Ae (base+i) t m op=some (v,d)/\B4 P base a (i+1) K (put t b.dst v) d:=by
    intro op _ o;cases s:Ae (base+i) t m op with
    |none=>simp[s]at o
    |some r=>obtain ⟨v,d⟩:=r;simp only[s]at o;exact⟨v,d,rfl,o⟩
   cases e:b.op with
   |call f xs=>
    simp only[e]at h;cases j:callee t f xs with
    |none=>simp[j]at h
    |some r=>
     obtain⟨g,args⟩:=r;simp only[j]at h;exact .inl ⟨f,xs,g,args,rfl,j,h⟩
   |CM n k x lo hi=>
    simp only[e]at h;cases j:Qw n k m.get (ev t x) (F0 t n n lo hi)with
    |none=>simp[j]at h
    |some r=>
     obtain⟨v,c⟩:=r;simp only[j]at h;exact .inr (.inl ⟨n,k,x,lo,hi,v,c,rfl,j,h⟩)
   |_=>rw[e]at h;exact .inr (.inr (l _ e h))
theorem VG(W:Aq)(base:Nat)(n0:Nat)(e:Array Oper)(Q:Exit->AY->Prop)(F:Ap)(C:AI)(G:n0<=base) :
 ∀(l:List Oper) (p:List Ag) (i:Nat) (t:List Aa) (m:Mem) (Φ:Ap) (ρ:AI) (a:Act) (w:World),
  p.length=l.length->(∀(j:Nat) (o:Oper) (b:Ag),l[j]?=some o->p[j]?=some b->b.dst=o.dst/\b.op=N8 P o/\IU e o.guard=some b.guard) ->
  B4 P base p i (Q .normal) t m->Rel W Φ ρ m w->RL Φ ρ t a.tmps->a.defers=[]->Ext F C Φ ρ->Bq n0 C ρ->(∀j,i<=j->j<i+p.length->ρ (base+j)=none)->base+i+p.length<=m.next->n0<=m.next ->
  wpList P e (lift W F C n0 Q) l a w
 |[],[],i,t,m,Φ,ρ,a,w,_,_,h,K,y,H,I,J,_,_,O=>⟨⟨t,m⟩,Φ,ρ,I,J,O,K,y,H,h⟩
 |[],_::_,_,_,_,_,_,_,_,M,_,_,_,_,_,_,_,_,_,_=>by simp at M
 |_::_,[],_,_,_,_,_,_,_,M,_,_,_,_,_,_,_,_,_,_=>by simp at M
 |o::l,b::p,i,t,m,Φ,ρ,a,w,M,hg,h,K,y,H,I,J,d,DB,O=>by
  obtain⟨V,X,e3⟩:=hg 0 o b rfl rfl;have z:∀(j:Nat) (o:Oper) (b:Ag),l[j]?=some o->p[j]?=some b->b.dst=o.dst/\b.op=N8 P o/\IU e o.guard=some b.guard:=λj o b ho G=>hg (j+1) o b (by simpa using ho) (by simpa using G);have A:p.length=l.length:=by simpa using M
  simp only[lC]at DB d;have N:base+i<m.next:=by omega
  have S:ρ (base+i)=none:=d i (lR _) (by omega);unfold wpList;rcases Yac h with⟨hw,D⟩|⟨hw,D⟩
  ·rw[OR y e3 hw,iN (by simp)];rw[<-V];exact VG W base n0 e Q F C G l p (i+1) _ m Φ ρ _ w A z D K (y.put b.dst (MI Φ ρ)) (by rw[KZ];exact H) I J (λj Z h2=>d j (by omega) (by omega)) (by omega) O
  rw[OR y e3 hw,iP rfl];refine .inl ?_;rcases D with⟨f,xs,g,args,E,Bn,hA⟩|⟨n,k,x,lo,hi,v,c,E,T,D⟩|⟨v,m',T,D⟩
  ·refine nG y K S N o (by rw[<-X];exact E) Bn hA λL ρ' x m' u w' B q s U r hW=>?_;rw[<-V];exact VG W base n0 e Q F C G l p (i+1) _ m' L ρ' _ w' A z hW s ((y.ext B).put b.dst U) (by rw[KZ];exact H) (I.trans B) (λc hc Y=>q c (by omega) (by omega) (J c hc Y))
    (λj Z h2=>q _ (by omega) (by omega) (d j (by omega) (by omega))) (by omega) (by omega)
  ·refine Yc3 y K o (by rw[<-X];exact E) T λL u B s U=>?_;rw[<-V];exact VG W base n0 e Q F C G l p (i+1) _ _ L ρ _ w A z D s ((y.ext B).put b.dst U) (by rw[KZ];exact H) (I.trans B) J
    (λj Z h2=>d j (by omega) (by omega)) (by rw[Mem.Hy];omega) (by rw[Mem.Hy];exact O)
  have r:=iH T;rw[X]at T;refine dN y K S N o T λL ρ' u w' B q s U=>?_;rw[<-V];exact VG W base n0 e Q F C G l p (i+1) _ m' L ρ' _ w' A z D s ((y.ext B).put b.dst U) (by rw[KZ];exact H) (I.trans B) (λc hc Y=>q c (by omega) (J c hc Y))
   (λj Z h2=>q _ (by omega) (d j (by omega) (by omega))) (by rw[r];omega) (by rw[r];exact O)
theorem Yew{id:Nat}{b:Array Oper}{os:List Ag}{Q:Exit->AY->Prop}{σ:AY}(f:D7 P b b.toList=some os)(h:B4 P σ.m.next os 0 (Q .normal) σ.t (σ.m.at (σ.m.next+os.length))):KT P (.region id b false) Q σ:=by
 intro W Φ ρ a w c k g;obtain⟨d,e⟩:=VO P b _ _ f;refine wp_region_list (VG W σ.m.next σ.m.next b Q Φ ρ (lR _) b.toList os 0 σ.t _ Φ ρ a w d e h (c.at_ (by omega)) k g (.refl _ _) (.refl _ _) ?_ (by simp) (by simp));intro j _ _;cases i:ρ (σ.m.next+j)with
 |none=>rfl
 |some l=>have:=c.fresh _ _ i;omega
def VP(n k:Nat)(get:Nat→Option Af)(v:Aa)(lh:Option (Nat×Nat)):Option (Aa×List (Nat×Option Af)):=
 match Qw n k get v lh with
 | some (v,b)=>some (v,[(b,none)])
 | none=>none
def Es(P:Program)(n base:Nat):List Ag→Nat→(Env→Ac→Prop)→Env→Ac→Prop
 | [],_,K,e,m=>K e m
 | o :: r,i,K,e,m=>HO (S2 n e o.guard)
  (match o.op with
  | .call f xs=>PC (U9 n e f xs) fun g args=>SC P g args m (base+i) fun v m'=>Es P n base r (i+1) K (Y8 e o.dst v) m'
  | .CM nn k x lo hi=>He (VP nn k m.get (AG n e x) (F8 (AG n e) nn nn lo hi)) fun v d=>Es P n base r (i+1) K (Y8 e o.dst v) (m.app d)
  | op=>He (Ak (base+i) (AG n e) m.get op) fun v d=>Es P n base r (i+1) K (Y8 e o.dst v) (m.app d))
  (Es P n base r (i+1) K (Y8 e o.dst Ai) m)
theorem WL{n base:Nat}{K:Env->Ac->Prop}{K':AY->Prop}(p:∀e m,K e m->K' ⟨AQ n e,m.mem⟩):∀(s:List Ag) (i:Nat) (e:Env) (m:Ac),Es P n base s i K e m->B4 P base s i K' (AQ n e) m.mem
 |[],_,_,_,h=>p _ _ h
 |o::r,i,e,m,h=>by
  simp only[Es]at h;simp only[B4,Qh];cases z:S2 n e o.guard with
  |none=>rw[z]at h;exact h
  |some q=>
   rw[z]at h;cases q with
   |false=>
    simp only[J9];exact WL p r _ _ _ h
   |true=>
    simp only[HO]at h;simp only;have j:∀op,He (Ak (base+i) (AG n e) m.get op) (λv d=>Es P n base r (i+1) K (Y8 e o.dst v) (m.app d)) ->
     (match Ae (base+i) (AQ n e) m.mem op with|some (v,m')=>B4 P base r (i+1) K' (put (AQ n e) o.dst v) m'|none=>False):=by
     intro op a;cases l:Ak (base+i) (AG n e) m.get op with
     |none=>rw[l]at a;exact a.elim
     |some u=>
      obtain⟨v,d⟩:=u;rw[l]at a;have:=JO (m:=m.mem) (t:=AQ n e) (id:=base+i) (op:=op) (v:=v) (d:=d) (by rw[K8];exact l);rw[this];simp only[J9];rw[<-Ac.Bw];exact WL p r _ _ _ a
    cases c:o.op with
    |call f xs=>
     simp only[c]at h;simp only[Xr];cases y:U9 n e f xs with
     |none=>rw[y]at h;exact h
     |some C=>
      obtain⟨g,args⟩:=C;rw[y]at h;simp only[PC]at h;simp only[J9];refine Aw.mono h λv D a=>?_;obtain⟨E,rfl,a⟩:=a;exact WL p r _ _ _ a
    |CM nn k x lo hi=>
     simp only[c]at h;simp only[K8,J9];have A:F8 (AG n e) nn nn lo hi=F0 (AQ n e) nn nn lo hi:=by rw[zf,K8]
     rw[A]at h;unfold VP at h;have B:m.mem.get=m.get:=rfl;rw[B];cases l:Qw nn k m.get (AG n e x) (F0 (AQ n e) nn nn lo hi)with
     |none=>rw[l]at h;exact h.elim
     |some u=>
      obtain⟨v,b⟩:=u;rw[l]at h;have w:=WL p r _ _ _ h;rw[Ac.Bw]at w;exact w
    |_=>rw[c]at h;exact j _ h
def IC:Ba→Bool
 | .CM ..=>true
 | _=>false
def RH:Ag→Bool
 | ⟨_,op,_,_⟩=>IC op
variable {n n0:Nat}
theorem Z9n{id:Nat}{c:Array Oper}{os:List Ag}{Q:Exit->Env->Ac->Prop}{e:Env}{m:Ac}(A:D7 P c c.toList=some os)
 (u:Es P n m.next os 0 (Q .normal) e (m.at (m.next+os.length))):Ju P n n0 (.region id c false) Q e m:=by
 have v:B4 P m.next os 0 (E4 n Q .normal) (AQ n e) (m.at (m.next+os.length)).mem:=WL (λe m C=>⟨e,m,rfl,C⟩) os 0 e _ u;intro W Φ ρ a w i D E B;have y:KT P (.region id c false) (E4 n Q) ⟨AQ n e,m.mem⟩:=Yew A v;refine wp_mono (y W Φ ρ a w D E B) λx G w' g=>?_;obtain⟨σ,j,ρ',h,p,q,r,s,t,f⟩:=g;have k:∀b,b<n0->ρ' b=ρ b:=λb z=>by
  cases d:ρ b with
  |none=>exact p b (Nat.lt_of_lt_of_le z i) d
  |some l=>exact h.CN b l d
 have o:m.next<=σ.m.next:=q;cases x<;>simp only[E4]at f<;>first
  |exact f.elim
  | (obtain ⟨e',F,rfl,d⟩:=f
     exact⟨e',F,j,ρ',h.AX,k,Nat.le_trans i o,r,s,t,λl g=>(by cases g),d⟩)
variable {e:Env} {m:Ac} {base:Nat} {K:Env→Ac→Prop}
theorem UH{i:Nat}:Es P n base [] i K e m=K e m:=propext Iff.rfl
theorem UY{i:Nat}(d:Option Nat)(op:Ba)(un:List Nat)(r:List Ag):Es P n base (⟨d,op,none,un⟩ :: r) i K e m=match op with
 |.call f xs=>PC (U9 n e f xs) λg args=>SC P g args m (base+i) λv b=>Es P n base r (i+1) K (Y8 e d v) b
 |.CM nn k x lo hi=>He (VP nn k m.get (AG n e x) (F8 (AG n e) nn nn lo hi)) λv a=>Es P n base r (i+1) K (Y8 e d v) (m.app a)
 |op=>He (Ak (base+i) (AG n e) m.get op) λv a=>Es P n base r (i+1) K (Y8 e d v) (m.app a):=by
 cases op<;>rfl
end
end Go.AE
