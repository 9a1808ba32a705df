/- Part 21 -/
import Derived.Test.YtilmpmlkndfbjaaGreatDoorT20
set_option linter.all false
set_option maxRecDepth 100000
set_option maxHeartbeats 16000000
open Go.Proofs.Tryz (prog)
namespace Go.Ad
open Go Go.AE Go.Proofs Go.Plain
theorem Yei{T:Nat->Nat}{N d:Nat}{seen:List Bool}(b:d<N)(h:seen[d]?=some true):EL T N (N-d) seen=EL T N (N-(d+1)) seen:=by
 obtain⟨k,a⟩:∃k,N-d=k+1:=⟨N-d-1,by omega⟩;rw[a,EL,show N-(k+1)=d by omega,Qy h,iP rfl]
 congr 1;omega
theorem Yh8{T:Nat->Nat}{N d:Nat}{seen:List Bool}(b:d<N)(h:seen[d]?=some false):EL T N (N-d) seen=tr T (N+1) seen d::EL T N (N-(d+1)) (Plain.mark T (N+1) seen d):=by
 obtain⟨k,a⟩:∃k,N-d=k+1:=⟨N-d-1,by omega⟩;rw[a,EL,show N-(k+1)=d by omega,Qy h,iN (by simp)]
 congr 2;omega
theorem Yfe{T:Nat->Nat}{k x:Nat}{seen:List Bool}(h:seen[x]?=some true):tr T k seen x=[]:=by
 cases k with
 |zero=>rfl
 |succ k=>rw[tr,Qy h,iP rfl]
theorem qg{T:Nat->Nat}{k x:Nat}{seen:List Bool}(h:seen[x]?=some false):tr T (k+1) seen x=x::tr T k (seen.set x true) (T x):=by
 rw[tr,Qy h,iN (by simp)]
theorem c16(f:Int)(ls:List Lt)(T:Nat->Nat)(m:Nat)(h:ls.length<=1000)(h0:0<Z0 ls)(ag:(Z2 ls).length=m)(am:m<=1000)
 (hT:∀d,d<2*ls.length+2*m->T d<2*ls.length+2*m) (hC:∀d,d<2*ls.length+2*m->Au prog 100 [cV f ls,.Al (Z1 (Z2 ls)),.int .i64 d] (.int .i64 (T d:Nat))) :
 Au prog 63 [cV f ls] (.Al (G6 (Q8 T (2*ls.length+2*m)))):=by
 refine Jd hm 3 Tryz.func63 sS rfl rfl (by simp[Y7,Ln]) (by simp[Aa.closed,eO]) λK hK=>?_;have hR:=H1 ls;have Y:=c39 f ls h h0;have ab:(Z1 (Z2 ls)).length=m:=by rw[tw];exact ag
 have F:∀q,Z3 q (ls.map Ab)=ls.map Ab:=λq=>Y2 q _ (Y6 ls);have p:∀q,Z3 q (Z1 (Z2 ls))=Z1 (Z2 ls):=λq=>Z5 q _;unfold cV at *;generalize ls.map Ab=rows at *;generalize Z1 (Z2 ls)=H at *;have M:=hR.len;generalize hN:2*ls.length+2*m=N at *;have ah:=Y0 (2*(ls.length:Int));have ai:=Y0 (2*(m:Int));have aj:=W7 (2*(ls.length:Int)+2*(m:Int)) (N:Int);have Z:N<=1048576:=by omega
 simp;refine T0 Y ?_;obtain⟨G,C⟩:∃G,List.replicate N false=G:=⟨_,rfl⟩;have e1:List.replicate N [Aa.bool false]=BB G:=by rw[<-C,fZ]
 have J:G.length=N:=by rw[<-C];simp
 simp[M,ab,ah,ai,aj,Z,e1];refine Zz4 (α:=Nat×List Bool×List (List Nat)) (λa=>[(6,.int .i64 a.1),(5,.sl 2 0 N),(4,.Al H),(3,Bt 3 (G6 a.2.2)),(1,.ptr 1 0 0)])
  (λa=>⟨(1,.cells 2 [[.int .i64 f,.Al rows]])::(2,.cells 1 (BB a.2.1))::Bp 3 1 (G6 a.2.2) [],4⟩)
  (λa=>N-a.1) (λa=>a.1<=N/\a.2.1.length=N/\a.2.2.length<=a.1/\a.2.2++EL T N (N-a.1) a.2.1=Q8 T N) (0,G,[]) (Bm.wk (l:=[(2,15)]) (by simp[F,p,V6,G6])) ⟨by simp,J,by simp,by simp[Q8,C]⟩ ?_
 rintro⟨d,seen,r⟩ ⟨hd,s,EC,c⟩ N1 B;simp only at hd s EC c B ⊢;by_cases n:d<N
 ·have Q:=Y0 ((d:Int)+1);obtain⟨b,V⟩:∃b,seen[d]?=some b:=⟨_,gE (by omega)⟩;have ac:=OL V;have Fp:(BB seen).length=N:=by rw[BB,lM,s]
  obtain⟨_,y⟩:=Y3 ac;cases b with
  |true=>
   rw[Yei n V]at c;generalize g:BB seen=S at *;simp[n,y,Fp,Q];exact B (d+1,seen,r) _ _ (by simp;omega) ⟨by simp;omega,s,by simp;omega,c⟩ (Bm.wk (l:=[]) (by simp +contextual [F,p,<-g,V6,Wd]))
  |false=>
   rw[Yh8 n V]at c;generalize g:BB seen=S at *;simp[n,y,Fp];subst g;refine M4 (α:=Nat×List Bool×List Nat×Nat) (λa=>[(8,.int .i64 a.1),(7,Bt 4 (Z1 a.2.2.1)),(6,.int .i64 d),(5,.sl 2 0 N),(4,.Al H),(3,Bt 3 (G6 r)),(1,.ptr 1 0 0)])
    (λa=>⟨(1,.cells 2 [[.int .i64 f,.Al rows]])::(2,.cells 1 (BB a.2.1))::Bp 3 1 (G6 r) (Bp 4 1 (Z1 a.2.2.1) []),5⟩)
    (λa=>A4 a.2.1) (λa=>a.1<N/\a.2.1.length=N/\A4 a.2.1<a.2.2.2/\a.2.2.1.length+A4 a.2.1<=N/\Plain.mark T (N+1) seen d=Plain.mark T a.2.2.2 a.2.1 a.1/\tr T (N+1) seen d=a.2.2.1++tr T a.2.2.2 a.2.1 a.1) (d,seen,[],N+1) [] (by simp +contextual [F,p,V6,Wd]) ⟨n,s,by have:=UI (l:=seen);simp;omega,by have:=UI (l:=seen);simp;omega,rfl,rfl⟩ ?_
   rintro⟨x,z,w,fu⟩ ⟨U,t,af,ak,o,i⟩ N2 I;simp only at U t af ak o i I ⊢;obtain⟨X,E⟩:∃X,z[x]?=some X:=⟨_,gE (by omega)⟩;have L:=OL E;have v:(BB z).length=N:=by rw[BB,lM,t]
   obtain⟨_,j⟩:=Y3 L;cases X with
   |true=>
    rw[zm E]at o;rw[Yfe E,List.append_nil]at i;rw[o,i]at c;have u:w≠[]:=by
     rw[<-i,qg V];simp
    generalize g:BB z=S at *;have D:(G6 r).length<=1048575:=by rw[qH];omega
    simp[U,j,v,Q,D];refine B (d+1,z,r++[w]) _ _ (by simp;omega) ⟨by simp;omega,t,by simp;omega,by simp[<-c]⟩ (RO.wk (l:=[(3,13)]) (S:=[4]) ⟨by simp,by simp,by simp[pJ,p],?_,by simp[pJ]⟩);simp[DZ,pJ,F,Wd,V6,<-g];refine .inr ⟨1,_,⟨rfl,rfl⟩,rfl,?_⟩;rw[Z5,Yl5 (eO _)];simp[Yjq,Bg,u]
   |false=>
    have an:=pW E;have O:=fK z x true;obtain⟨A,rfl⟩:∃A,fu=A+1:=⟨fu-1,by omega⟩;rw[Z5t E]at o;rw[qg E]at i;have ae:=hC x U;have aa:=hT x U;have D:w.length<=1048575:=by omega
    have P:(z.set x true).length=N:=by simpa using t
    generalize z.set x true=al at *;generalize g:BB z=S at *;simp[U,j,v,O,D];refine T0 ae ?_;simp;exact I (T x,al,w++[x],A) [(4,17)] _ _ (by simp;omega) ⟨aa,P,by simp;omega,by simp;omega,o,by simp[i]⟩ (by simp +contextual [F,p,V6,Wd,Z5,<-g])
 have he:d=N:=by omega
 subst he;rw[Nat.sub_self]at c;simp only[EL,List.append_nil]at c;subst c;have u:G6 (Q8 T d)≠[]:=by
  have ad:=Z91 (T:=T) (N:=d) (by have:=Q7 ls;omega);have hl:=Pc T d d (List.replicate d false);intro e;have:=qH (Q8 T d);rw[e]at this;unfold Q8 at this;unfold H0 at ad;simp at this;omega
 simp;refine Z6 (hK (Bt 3 (G6 (Q8 T d))) ⟨Bp 3 1 (G6 (Q8 T d)) [],4⟩ ?_) [] (by simp +contextual [Wd]);simp only[Bt,iN u];exact Ur (k:=1) (by simp[u]) (Ya0 _)
theorem rI(f:Int)(ls:List Lt)(h:ls.length<=1000)(j:0<Z0 ls)(m:∀v,v<ls.length->(at' ls v).k≠2->(at' ls v).k=1) :
 Au prog 63 [cV f ls] (.Al (G6 (Q8 (X4 ls (Z2 ls)) (2*ls.length+2*Z0 ls)))):=by
 have a:=Q7 ls;have g:∀v,v∈Z2 ls->v<ls.length:=λv c=>(AA.1 c).1;have b:∀v,v<ls.length->(at' ls v).k≠2->v∈Z2 ls:=λv c l=>AA.2 ⟨c,by simp[As,m v c l]⟩;have n:Z0 ls<=ls.length:=Ib;refine c16 f ls _ _ h j a (by omega) (λd e=>?_) (λd e=>?_)
 ·rw[<-a]at e ⊢;exact jI g b (by omega) e
 by_cases i:2*ls.length<=d
 ·exact rU f ls _ d h (by omega) i (by omega) g
 exact rV f ls _ d h (by omega) i b (by omega)
def ZE(l:List (Int×Int)):List (List Aa):=l.map fun p=>[.int .i64 p.1,.int .i64 p.2]
def Y9(l:List Int):List (List Aa):=l.map fun x=>[.int .i64 x]
@[simp] theorem Ymk:ZE []=[]:=rfl
@[simp] theorem Ynk:Y9 []=[]:=rfl
theorem NG:∀(l:List Int),W3 (Y9 l)=true
 |[]=>rfl
 |p::r=>by
  have:=NG r;simp only[Y9,List.map_cons,W3,Y7,Aa.closed,Bool.and_true,Bool.true_and]at this ⊢;exact this
theorem JU{rows:List (List Aa)}(h:W3 rows=true):(Bg rows).closed=true:=by unfold Bg;split<;>first|rfl|exact h
@[simp] theorem Ym9:Bg []=.Aj:=rfl
@[simp] theorem yB(rows:List (List Aa)):S7 (Bg rows)=some rows.length:=by
 unfold Bg;split
 ·rename_i h;subst h;rfl
 rfl
theorem y7{get:Nat->Option Af}{b k n:Nat}{rows:List (List Aa)}(a:get b=if rows=[]then none else some (.cells k rows))(c:∀row,row∈rows -> ∀x,x∈row->X8 get (n+1) x=some x):X8 get (n+2) (Bt b rows)=some (Bg rows):=by
 unfold Bt Bg;by_cases h:rows=[]
 ·rw[iP h,iP h];rfl
 rw[iN h,iN h];exact Ur (by rw[a,iN h]) c
theorem zj{get:Nat->Option Af}{n:Nat}{rows:List (List Aa)}(a:∀row,row∈rows -> ∀x,x∈row->X8 get (n+1) x=some x):X8 get (n+2) (Bg rows)=some (Bg rows):=by
 unfold Bg;by_cases h:rows=[]
 ·rw[iP h];rfl
 rw[iN h];exact bP a
def gV(w:List Nat×Bool)(row:List Aa):Prop:=∃ (ab o:Bool) (P:List (Int×Int)) (G:List Int),row=[.bool ab,Bg (Z1 w.1),Bg (ZE P),Bg (Y9 G),.bool o]∧(w.2=true↔P≠[])
def yH(l:List (List Nat×Bool))(rows:List (List Aa)):Prop:=rows.length=l.length ∧ ∀(i:Nat) (w:List Nat×Bool),l[i]? = some w → ∃ row,rows[i]? = some row∧gV w row
theorem Zxb(T:Nat->Nat):∀(k:Nat) (seen:List Bool) (x:Nat),(tr T k seen x).length<=k
 |0,_,_=>lR _
 |k+1,seen,x=>by
  simp only[tr];split
  ·simp
  have:=Zxb T k (seen.set x true) (T x);simp;omega
attribute [local simp] NV Ni NF NU MJ NI Np Mn Nr G4 Im E5 B7 Ih E3 Mr MN NL NR Ox Ov MF Nz NX NC MX Nc Mp Oe Mx NP Na NK Ms MH NY MW Ob MD On MY Oc Oo NO MQ Nj Oa Ol Nq Nu Nb Nf MP ME Od NA My NQ MS Mz Mw MV Nw Ns Nv Ow MA KX Of Env.get R4 Ac.at Ac.app Ac.get Z7 O7 Aa.cells Aa.one K4 H9 MR NW NN Ou NM Og MO NS Nl MB MU Om Nh Gy C3 K5 B0 H3 U9 Ai Mo Mq Oj Ot NB L8 V1 H8 I8 L3 D3 Q9 G9 Bm Cm BO CQ Dw BC V5 Aa.AM Q3 Z3 Af.AM E7 N9 I3
def OkV(f:Int)(ls:List Lt):Prop:=ls=[]∨QC f.toNat ls
open Classical in
noncomputable def V3(f:Int)(ls:List Lt):Int:=
 if 400<ls.length∨200<X6 ls then 7 else if f<0∨40<f then 2 else if OkV f ls then 0 else 3
theorem YQ(f:Int)(ls:List Lt)(h:ls.length<=1000) :
 Bo prog 71 [cV f ls] ⟨[],1⟩ λr m=>(V3 f ls≠0/\r=.tuple [.nilPtr,.int .i64 (V3 f ls)]/\m=⟨[],1⟩) \/
  (V3 f ls=0/\ls=[]/\0<=f/\f<=40/\r=.tuple [.ptr 1 0 0,.int .i64 0]/\m=HN f (ls.map Ab)) \/
  (V3 f ls=0/\ls≠[]/\0<=f/\f<=40/\QC f.toNat ls/\r=.tuple [.ptr 1 0 0,.int .i64 0]/\m=dF f.toNat ls (ls.map Ab) (Bf ls ls.length)):=by
 refine D2 hm Tryz.func71 Zf rfl rfl λK v=>?_;have y:=H1 ls;have i:∀q,Z3 q (ls.map Ab)=ls.map Ab:=λq=>Y2 q _ (Y6 ls);have k:=YN f ls h;have l:=λF u=>qU F ls h u;have o:∀e:Int,V3 f ls=e->e≠0 -> ∀m,Bm 1 [] [(0,.tuple [.nilPtr,.int .i64 e])] ⟨[],1⟩ [(0,.tuple [.nilPtr,.int .i64 e])] m->R9 1 K (.tuple [.nilPtr,.int .i64 e]) m:=
  λe p w m B=>by subst p;exact Z6 (v _ _ (.inl ⟨w,rfl,rfl⟩)) [] B
 unfold cV at *;generalize ls.map Ab=rows at *;have c:=y.len;have C:Z4 AO ls=X6 ls:=rfl;by_cases A:400<ls.length
 ·have g:(400:Int)<(ls.length:Int):=by omega
  simp[c,g];exact o 7 (by unfold V3;rw[iP (.inl A)]) (by omega) _ (by simp)
 have g:¬(400:Int)<(ls.length:Int):=by omega
 simp[c,g];refine T0 k ?_;rw[C];by_cases D:200<X6 ls
 ·have a:(200:Int)<(X6 ls:Int):=by omega
  simp[a];exact o 7 (by unfold V3;rw[iP (.inr D)]) (by omega) _ (by simp)
 obtain⟨a,n⟩:¬(200:Int)<(X6 ls:Int)/\¬(400<ls.length\/200<X6 ls):=by omega
 by_cases s:f<0
 ·simp[a,s];exact o 2 (by unfold V3;rw[iN n,iP (.inl s)]) (by omega) _ (by simp)
 by_cases d:40<f
 ·simp[a,s,d];exact o 2 (by unfold V3;rw[iN n,iP (.inr d)]) (by omega) _ (by simp)
 have t:¬(f<0\/40<f):=by omega
 obtain⟨F,u⟩:∃F:Nat,f=(F:Int):=⟨f.toNat,by omega⟩;subst u;simp[a,s,d];refine S3 (l F (by omega)) [(1,23)] (by simp) (by simp[i,Z9,Z5,V6]) (by simp) ?_;rintro r E (⟨j,rfl,rfl⟩|⟨j,b,rfl,rfl⟩|⟨j,b,rfl,rfl⟩)
 ·have p:V3 F ls=0:=by unfold V3;rw[iN n,iN t,iP (.inl j)]
  simp[i,Z9,Z5,V6];exact Z6 (v _ _ (.inr (.inl ⟨p,j,by omega,by omega,rfl,rfl⟩))) [(1,23)] (by simp[i,Z9,Z5,V6])
 ·have p:V3 F ls=0:=by unfold V3;rw[iN n,iN t,iP (.inr b)]
  simp[i,Z9,Z5,V6];exact Z6 (v _ _ (.inr (.inr ⟨p,j,by omega,by omega,b,rfl,rfl⟩))) [(1,23),(2,28),(3,29),(4,30),(5,31),(6,32)] (by simp[i,Z9,Z5,V6])
 simp[i,Z9,Z5,V6];exact o 3 (by unfold V3;rw[iN n,iN t,iN (λz=>z.elim j b)]) (by omega) _ (by simp)
theorem c30(f:Int)(ls:List Lt)(h:ls.length<=1000):Au prog 51 [cV f ls] (.int .i64 (V3 f ls)):=by
 refine JH hm Tryz.func51 YY rfl rfl (by simp[Y7,Ln]) trivial λK a=>?_;have c:=YQ f ls h;have d:∀q,Z3 q (ls.map Ab)=ls.map Ab:=λq=>Y2 q _ (Y6 ls);unfold cV at *;generalize ls.map Ab=rows at *;simp;refine S3 c [] (by simp[d]) (by simp) (by simp) ?_;rintro r i (⟨b,rfl,rfl⟩|⟨b,e,_,_,rfl,rfl⟩|⟨b,e,_,_,g,rfl,rfl⟩)
 ·simp;exact Z6 a [] (by simp)
 ·simp;rw[b]at a;exact Z6 a [] (by simp)
 simp;rw[b]at a;exact Z6 a [] (by simp)
end Go.Ad
