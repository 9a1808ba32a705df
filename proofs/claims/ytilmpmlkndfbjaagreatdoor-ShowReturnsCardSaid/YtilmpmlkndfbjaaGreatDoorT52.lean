/- Part 52 -/
import Derived.Test.YtilmpmlkndfbjaaGreatDoorT51
set_option linter.all false
set_option maxRecDepth 100000
set_option maxHeartbeats 16000000
open List (take_add_one append_assoc getD range_succ map_append sum_append take_length replicate take length_nil)
open Int (toNat)
open Go.Proofs.Tryz (prog)
namespace Go.Ad
open Go Go.AE Go.Proofs
open Go.Plain
attribute [local simp] UZ Uo Us Uw Ux Va Vi Vj Un UH UY RH IC Sl Sz Sh UL
def R7(rs:List Ro):Nat:=(rs.filter fun r=>decide (r.1=2)).length
theorem Ye6{a:List Ro}{i:Nat}(h:i<a.length):R7 (a.take (i+1))=R7 (a.take i)+if a[i].1=2 then 1 else 0:=by
 unfold R7;rw[take_add_one,gE h,Option.toList_some,List.filter_append,lA];grind
theorem oU(a:List Ro):R7 a<=a.length:=List.length_filter_le _ _
instance (m:Nat) (X:List Nd) (L:List (Nat×Nat)):Decidable (FI m X L):=
 decidable_of_iff (AK m L (m+2*X.length)=0 ∧ ∀ t,t<m+2*X.length→0<t→AK m L t≠0) ⟨fun h=>⟨h.1,fun t h1 h2=>h.2 t h2 h1⟩,fun h=>⟨h.1,fun t h1 h2=>h.2 t h2 h1⟩⟩
def GV(F:Int)(G:List Int)(A B:List Ro):Int×List Lt×Int:=
 if F<0∨40<F∨(G.length:Int)≠F+1∨Hw G<0 then (0,[],2)
 else if 100<R7 A+R7 B∨400<(G.map toNat).sum+2*(R7 A+R7 B)then (0,[],7)
 else if (G.map toNat).sum=0∧A.length+B.length=0 then (F,[],0)
 else if (G.map toNat).sum=0∨(K9 (G.map toNat).sum A B).1=false then (0,[],3)
 else if FI (G.map toNat).sum (K9 (G.map toNat).sum A B).2.2 (K9 (G.map toNat).sum A B).2.1 then
  (F,X7 (X9 (G.map toNat).sum (AN 0 (G.map toNat)) (K9 (G.map toNat).sum A B).2.2 (K9 (G.map toNat).sum A B).2.1),0)
 else (0,[],3)
def CE(V:Aa)(rs:List Ro):Prop:=V=.Al (rs.map GY)∨(V=.Aj∧rs=[])
theorem CE.AM{V:Aa}{a:List Ro}(h:CE V a)(q:Nat->Nat):V.AM q=V:=by
 rcases h with rfl|⟨rfl,_⟩
 ·exact Aa.Be q _ (by simp[Aa.closed,XH])
 rfl
theorem CE.len{V:Aa}{a:List Ro}(h:CE V a):S7 V=some a.length:=by
 rcases h with rfl|⟨rfl,rfl⟩
 ·simp
 rfl
theorem CE.cells{V:Aa}{a:List Ro}(h:CE V a):V.cells=some [V]/\V.one=true/\V.closed=true:=by
 rcases h with rfl|⟨rfl,rfl⟩
 ·exact⟨rfl,rfl,by simp[Aa.closed,XH]⟩
 exact⟨rfl,rfl,rfl⟩
theorem CE.idx{V:Aa}{a:List Ro}(h:CE V a){get:Nat->Option Af}{i:Nat}(hi:i<a.length):LZ get 4 V (some i)=some (.Bc (a.map GY) i 0,[]):=by
 rcases h with rfl|⟨rfl,rfl⟩
 ·rw[KX,gM,gE hi];rfl
 simp at hi
theorem Zxl:∀(a b:List Nat) (g:Nat),AN g (a++b)=AN g a++AN (g+a.length) b
 |[],b,g=>rfl
 |x::a,b,g=>by
  show _++AN (g+1) (a++b)=(_++AN (g+1) a)++_;rw[Zxl a b (g+1),append_assoc,lC,show g+(a.length+1)=g+1+a.length by omega]
theorem Xf:∀(gs:List Nat) (g:Nat),(AN g gs).length=gs.sum
 |[],_=>rfl
 |c::r,g=>by
  show(_++AN (g+1) r).length=_;rw[lA,Xf r,lM,List.length_range,List.sum_cons]
def Mf(gs:List Nat)(i k:Nat):List (Nat×Nat):=AN 0 (gs.take i)++(List.range k).map fun r=>(i,r+1)
theorem Yhg{gs:List Nat}{i:Nat}(h:i<gs.length):Mf gs i (gs.getD i 0)=Mf gs (i+1) 0:=by
 unfold Mf;rw[take_add_one,gE h,Option.toList_some,Zxl,getD,gE h];show _=_++(_++AN _ [])++_;simp[AN,Nat.min_eq_left (Nat.le_of_lt h)]
theorem Yed(gs:List Nat)(i k:Nat):Mf gs i (k+1)=Mf gs i k++[(i,k+1)]:=by
 unfold Mf;rw[range_succ,map_append,append_assoc];rfl
theorem Yh6(gs:List Nat)(i k:Nat):(Mf gs i k).length=(gs.take i).sum+k:=by
 unfold Mf;rw[lA,Xf,lM,List.length_range]
theorem Ygk(gs:List Nat):Mf gs gs.length 0=AN 0 gs:=by
 unfold Mf;grind
theorem Ydq(t:Nat):Z1 (Q5 (t+1))=Z1 (Q5 t)++[[.int .i64 ((2*t:Nat):Int)]]:=by
 unfold Q5;rw[range_succ,map_append];simp[Z1]
theorem Yex(t:Nat):Z1 (J5 (t+1))=Z1 (J5 t)++[[.int .i64 ((2*t+1:Nat):Int)]]:=by
 unfold J5;rw[range_succ,map_append];simp[Z1]
theorem Ygz(t:Nat):(Z1 (Q5 t)).length=t:=by rw[M6];simp[Q5]
theorem Z8y(t:Nat):(Z1 (J5 t)).length=t:=by rw[M6];simp[J5]
theorem Zy5(P:List (List Aa))(b:W3 P=true)(m:Nat)(below:Bool)(V:Aa)(a:List Ro)(e:CE V a)(F Cp:List Nat)(L:List (Nat×Nat))(X:List Nd)(d:Fw m F Cp L X)(g:2*m+4*(X.length+a.length)<=100000) :
 Bo prog 27 [.ptr 1 0 0,V,.sl 4 0 F.length,.bool below] ⟨(4,.cells 1 (Z1 F))::kM m (Bg P) 2 3 L X,5⟩ λr c=>
  r=.bool (U1 m below a F L X).1/\c=⟨kM m (Bg P) 5 6 (U1 m below a F L X).2.1 (U1 m below a F L X).2.2,7⟩:=by
 rcases e with rfl|⟨rfl,rfl⟩
 ·exact Ygd P b m below a F Cp L X d g
 refine(Yls P b m below F L X).mono λr c h=>?_;obtain⟨rfl,rfl⟩:=h;refine⟨?_,rfl⟩;show Aa.bool (decide (F.length=0))=.bool (decide (F=[]));simp
theorem Yj5{f:Int}{y:List Lt}(b:AH f y)(c:y≠[]):AH f (X7 y):=by
 refine b.de (mN c) ?_ (lP λa hm d=>((Ik d).1 (b.Ea a hm)).2.2.2.2.2.2);have e:0<y.length:=by grind
 rw[eZ e];unfold Ep;rw[iN (by rw[b.fst];decide)];exact b.fst
theorem gP{p:Prop} [Decidable p] {c d:Nat}(h:c≠d):V1 c (if p then []else [d])=false:=by
 split
 ·rfl
 simp[V1,h]
theorem gQ{b k:Nat}{R:List (List Aa)}{X:List (Nat×Af)}:(bif V1 b (if R=[]then []else [b])then X else Bp b k R X)=X:=by
 by_cases h:R=[]
 ·subst h;rfl
 simp_all
theorem Uq{m:Nat}{below:Bool}:∀(a:List Ro) (front:List Nat) (L:List (Nat×Nat)) (X:List Nd) (c:List (Nat×Nat)) (b:List Nd),U1 m below a front L X=(true,c,b)->b.length=X.length+R7 a
 |[],front,L,X,c,b,h=>by
  simp only[U1,AT,decide_eq_true_eq]at h;obtain⟨_,_,rfl⟩:=h;rfl
 |r::a,front,L,X,c,b,h=>by
  have e:R7 (r::a)=R7 a+if r.1=2 then 1 else 0:=by
   unfold R7;grind
  simp only[U1]at h;split at h
  ·rename_i d;rw[Uq a _ _ _ _ _ h,e,iN (by rw[d.1];decide),Nat.add_zero]
  split at h
  ·rename_i d;rw[Uq a _ _ _ _ _ h,e,iP d.1,lA,List.length_singleton];omega
  cases h
def fU(F:Int)(G:List Int)(A B:List Ro):Prop:=∀ L X,K9 (G.map toNat).sum A B=(true,L,X)→FI (G.map toNat).sum X L→(G.map toNat).sum≠0→(AN 0 (G.map toNat)).length=(G.map toNat).sum →
 (G.map toNat).length=F.toNat+1→0≤F→F≤40→(G.map toNat).sum+2*X.length≤400→X.length≤100→V3 F (X7 (X9 (G.map toNat).sum (AN 0 (G.map toNat)) X L))=0
theorem Yc6(F:Int)(G:List Int)(A B:List Ro)(AV BV:Aa)(RF:fU F G A B)(hA:CE AV A)(hB:CE BV B)(hG:G.length<=1000)(Iw:A.length<=1000)(EV:B.length<=1000) :
 Bo prog 9 [.agg [.int .i64 F,.Al (Y9 G),AV,BV]] ⟨[],1⟩ λr mm=>∃rows,rows=(GV F G A B).2.1.map Ab /\
  r=.tuple [.agg [.int .i64 (GV F G A B).1,Bt 1 rows],.int .i64 (GV F G A B).2.2]/\mm=⟨Bp 1 6 rows [],2⟩:=by
 refine aP hm [] Tryz.func9 YX rfl rfl λK hK=>?_;obtain⟨aq,au,eg⟩:=hA.cells;obtain⟨aj,ak,eh⟩:=hB.cells;have w:=hA.len;have u:=hB.len;have a:=hA.AM;have b:=hB.AM;have L:=Uu G;have v:∀q,Z3 q (Y9 G)=Y9 G:=λq=>Y2 q _ (NG G);have hk:∀f ls e,GV F G A B=(f,ls,e)->K (.tuple [.agg [.int .i64 f,Bt 1 (ls.map Ab)],.int .i64 e]) ⟨Bp 1 6 (ls.map Ab) [],2⟩:=λf ls e he=>hK _ _ ⟨_,rfl,by rw[he],by rw[he]⟩;clear hK;by_cases a2:F<0
 ·have o:=hk 0 [] 2 (by unfold GV;grind);simp[aq,aj,au,ak,a2,w,u,L,S7];exact Z6 o [] (by simp)
 by_cases bp:40<F
 ·have o:=hk 0 [] 2 (by unfold GV;grind);simp[aq,aj,au,ak,a2,bp,w,u,L,S7];exact Z6 o [] (by simp)
 have cd:=Y0 (F+1);by_cases ag:¬(G.length:Int)=F+1
 ·have o:=hk 0 [] 2 (by unfold GV;grind);simp[aq,aj,au,ak,a2,bp,w,u,L,S7,cd,ag];exact Z6 o [] (by simp)
 replace ag:(G.length:Int)=F+1:=Classical.not_not.1 ag;have ck:G≠[]:=λe=>by grind
 have a3:Au prog 26 [.Al (Y9 G)] (.int .i64 (Hw G)):=by
  cases G with
  |nil=>exact absurd rfl ck
  |cons x l=>exact sF x l (by simp at hG;omega)
 by_cases bt:Hw G<0
 ·have o:=hk 0 [] 2 (by unfold GV;grind);simp[aq,aj,au,ak,a2,bp,w,u,L,S7,cd,ag];refine T0 a3 ?_;simp[bt];exact Z6 o [] (by simp)
 have ez:∀y,y∈G->0<=y:=λy hy=>by
  rcases Int.lt_or_le y 0 with c|c
  ·exact absurd ((Zz3 ck).2 ⟨y,hy,c⟩) bt
  exact c
 obtain⟨gs,cb⟩:∃gs:List Nat,gs=G.map toNat:=⟨_,rfl⟩;unfold fU at RF;rw[<-cb]at RF;have ei:G=gs.map λg=>((g:Nat):Int):=by
  rw[cb,List.map_map]
  conv=>lhs;rw[<-List.map_id G]
  refine List.map_congr_left λy hy=>?_;grind
 have DT:gs.length=G.length:=by grind
 have H:∀z,(if 100<R7 A+R7 B\/400<gs.sum+2*(R7 A+R7 B)then (0,[],7)
  else if gs.sum=0/\A.length+B.length=0 then (F,[],0)
  else if gs.sum=0\/(K9 gs.sum A B).1=false then (0,[],3)
  else if FI gs.sum (K9 gs.sum A B).2.2 (K9 gs.sum A B).2.1 then (F,X7 (X9 gs.sum (AN 0 gs) (K9 gs.sum A B).2.2 (K9 gs.sum A B).2.1),0)else (0,[],3))=z->GV F G A B=z:=λz hz=>by
  unfold GV;rw[iN (by omega),<-cb];exact hz
 have cl:∀i,i<gs.length->(Y9 G)[i]?=some [.int .i64 (gs.getD i 0:Nat)]:=λi hi=>by
  rw[ZZ (by omega)];grind
 simp[aq,aj,au,ak,a2,bp,w,u,L,S7,cd,ag];refine T0 a3 ?_;simp[bt,L,S7];have e0:∀q:Nat->Nat,Q3 q [.int .i64 F,.Al (Y9 G),AV,BV]=[.int .i64 F,.Al (Y9 G),AV,BV]:=λq=>by simp[Q3,Aa.AM,v,a,b]
 have al:(Y9 G).length=G.length:=L;generalize Y9 G=GR at *;have eo:gs.length<=1000:=by omega
 refine OZ (α:=Nat) (λi=>[(1,.ptr 1 0 0),(2,.ptr 2 0 0),(4,.int .i64 (min (gs.take i).sum 401:Nat)),(5,.int .i64 0),(46,.Al GR),(47,.int .i64 gs.length),(48,.int .i64 i)])
  (λ_=>⟨[(2,.cells 2 [[.int .i64 0,.Aj]]),(1,.cells 4 [[.int .i64 F,.Al GR,AV,BV]])],3⟩) (λi=>gs.length-i) (λi=>i<=gs.length) 0 [] (by simp[v,a,b,DT]) (by omega) ?_
 intro i hi N hN;by_cases d:¬i=gs.length
 ·have p:i<gs.length:=by omega
  have hg:=cl i p;obtain⟨_,ae⟩:=Y3 hg;have dd:(gs.take (i+1)).sum=(gs.take i).sum+gs.getD i 0:=by
   rw[take_add_one,sum_append,getD,gE p];simp
  have I:=hN (i+1);rw[dd]at I;have hw:=W7 ((i:Int)+1) ((i+1:Nat):Int);generalize gs.getD i 0=g at *;generalize (gs.take i).sum=s at *;have ea:IntKind.i64.wrap (((min s 401:Nat):Int)+(if (401:Int)<(g:Int)then (401:Int)else (g:Int)))=((min s 401:Nat):Int)+(if (401:Int)<(g:Int)then (401:Int)else (g:Int)):=by
   rw[L6 (by split<;>omega) (by split<;>omega)]
  have d2:(if (401:Int)<((min s 401:Nat):Int)+(if (401:Int)<(g:Int)then (401:Int)else (g:Int))then (401:Int)else ((min s 401:Nat):Int)+(if (401:Int)<(g:Int)then (401:Int)else (g:Int)))=((min (s+g) 401:Nat):Int):=by
   omega
  generalize ((min (s+g) 401:Nat):Int)=Vv at *;generalize ((min s 401:Nat):Int)=gN at *;simp[p,hg,ae,al,<-DT,Nk,hw,ea,d2];exact I [] _ _ (by omega) (by omega) (by simp[v,a,b])
 replace d:i=gs.length:=Classical.not_not.1 d;subst d;rw[take_length];clear hN hi;simp[aq,aj,au,ak];obtain⟨m4,d0⟩:∃m4,m4=min gs.sum 401:=⟨_,rfl⟩;obtain⟨FQ,bf⟩:∃FQ:Int,FQ=((min gs.sum 401:Nat):Int):=⟨_,rfl⟩;rw[<-bf];obtain⟨nJ,bg⟩:∃nJ:Nat->Nat,nJ=λj=>if j=0 then 0 else if j=1 then R7 A else R7 A+R7 B:=⟨_,rfl⟩
 have Ki:=oU A;have dx:=oU B;obtain⟨VV,ba⟩:∃VV:List (List Aa),VV=[[AV],[BV]]:=⟨_,rfl⟩;have Z:∀q,Z3 q VV=VV:=λq=>by rw[ba];simp[Z3,Q3,a,b]
 have b2:VV.length=2:=by rw[ba];rfl
 refine OZ (α:=Nat) (λj=>[(1,.ptr 1 0 0),(2,.ptr 2 0 0),(4,.int .i64 FQ),(5,.int .i64 (nJ j:Nat)),(62,.sl 3 0 2),(63,.int .i64 2),(64,.int .i64 j)])
  (λ_=>⟨[(2,.cells 2 [[.int .i64 0,.Aj]]),(1,.cells 4 [[.int .i64 F,.Al GR,AV,BV]]),(3,.cells 1 VV)],4⟩) (λj=>2-j) (λj=>j<=2) 0 [(3,8)] (by simp[v,a,b,bg,Z];exact .inl ba.symm) (by omega) ?_
 intro j hj N hN;by_cases d:¬j=2
 ·obtain⟨V,J,hV,cv,dv,e1⟩:∃(V:Aa) (J:List Ro),CE V J/\VV[j]?=some [V]/\nJ (j+1)=nJ j+R7 J/\J.length<=1000:=by
   have:j=0\/j=1:=by omega
   rcases this with rfl|rfl
   ·grind
   exact⟨BV,B,hB,by rw[ba];rfl,by rw[bg];simp,EV⟩
  have ey:nJ j<=2000:=by
   rw[bg];show(if j=0 then 0 else if j=1 then R7 A else R7 A+R7 B)<=2000;split
   ·omega
   split<;>omega
  have I:=hN (j+1);rw[dv]at I;clear hN;have dy:j<2:=by omega
  have b9:=hV.len;have bb:=hV.AM;obtain⟨es,et,_⟩:=hV.cells;have du:=λ{get:Nat->Option Af}{i:Nat}(hi:i<J.length)=>hV.idx (get:=get) hi;obtain⟨_,cw⟩:=Y3 cv;have dt:∀i (h:i<J.length),(J.map GY)[i]?=some (GY J[i]):=λi h=>by rw[gM,gE h];rfl
  have el:∀q,Z3 q (J.map GY)=J.map GY:=λq=>Y2 q _ (XH J);have eb:=W7 ((j:Int)+1) ((j+1:Nat):Int);have c6:(j:Int)<2:=by omega
  simp[dy,c6,cv,cw,b9,b2];refine OZ (α:=Nat) (λi=>[(1,.ptr 1 0 0),(2,.ptr 2 0 0),(4,.int .i64 FQ),(5,.int .i64 (nJ j+R7 (J.take i):Nat)),(62,.sl 3 0 2),(63,.int .i64 2),(64,.int .i64 j),(68,V),(69,.int .i64 J.length),(70,.int .i64 i)])
   (λ_=>⟨[(2,.cells 2 [[.int .i64 0,.Aj]]),(1,.cells 4 [[.int .i64 F,.Al GR,AV,BV]]),(3,.cells 1 VV)],4⟩) (λi=>J.length-i) (λi=>i<=J.length) 0 [] (by simp[v,a,b,bb,R7,Z]) (by omega) ?_
  intro i hi N2 bq;have CG:=oU (J.take i);rw[lK]at CG;by_cases an:¬i=J.length
  ·have p:i<J.length:=by omega
   have E:=bq (i+1);rw[Ye6 p]at E;have c5:=λ(get:Nat->Option Af)=>du (get:=get) p;have hg:=dt i p;obtain⟨_,ae⟩:=Y3 hg;generalize J.map GY=RR at *;have dj:=W7 ((i:Int)+1) ((i+1:Nat):Int);obtain⟨⟨kd,em,nn,ov⟩,hr⟩:∃r,r=J[i]:=⟨_,rfl⟩;rw[<-hr]at hg ae E;simp only[GY]at hg ae E;by_cases bd:kd=2
   ·rw[iP bd]at E;have ec:=W7 (((nJ j+R7 (J.take i):Nat):Int)+1) ((nJ j+(R7 (J.take i)+1):Nat):Int);generalize nJ j+(R7 (J.take i)+1)=c1 at *;generalize nJ j+R7 (J.take i)=c0 at *;simp[p,c5,hg,ae,bd,ec,dj];exact E [] _ _ (by omega) (by omega) (by simp[v,a,b,bb,Z])
   rw[iN bd,Nat.add_zero]at E;generalize nJ j+R7 (J.take i)=c0 at *;simp[p,c5,hg,ae,bd,dj];exact E [] _ _ (by omega) (by omega) (by simp[v,a,b,bb,Z])
  replace an:i=J.length:=Classical.not_not.1 an;subst an;rw[take_length];generalize nJ j+R7 J=c0 at *;simp[eb];exact I [] _ _ (by omega) (by omega) (by simp[v,a,b,Z])
 replace d:j=2:=Classical.not_not.1 d;subst d;clear hN hj;have da:nJ 2=R7 A+R7 B:=by rw[bg];rfl
 rw[da];clear da bg;obtain⟨n,hn⟩:∃n,n=R7 A+R7 B:=⟨_,rfl⟩;rw[<-hn]at H ⊢;have dq:n<=2000:=by omega
 by_cases ax:100<n
 ·have o:=hk 0 [] 7 (H _ (by grind));have aa:(100:Int)<n:=by omega
  simp[ax,aa];exact Z6 o [] (by simp)
 have aa:¬(100:Int)<n:=by omega
 have b7:IntKind.i64.wrap (2*(n:Int))=2*n:=L6 (by omega) (by omega);have bh:IntKind.i64.wrap (FQ+2*(n:Int))=FQ+2*n:=L6 (by omega) (by omega);by_cases ch:400<gs.sum+2*n
 ·have o:=hk 0 [] 7 (H _ (by grind));have ab:(400:Int)<FQ+2*n:=by omega
  simp[ax,aa,b7,bh,ab];exact Z6 o [] (by simp)
 have ab:¬(400:Int)<FQ+2*n:=by omega
 rw[iN (by omega)]at H;obtain⟨m,hm⟩:∃m,m=gs.sum:=⟨_,rfl⟩;rw[<-hm]at RF;have c9:FQ=(m:Nat):=by rw[bf];omega
 rw[<-hm]at H ch;have dm:IntKind.i64.wrap (2*(m:Int))=2*m:=L6 (by omega) (by omega);rw[c9]at bh ab ⊢;obtain⟨d1,dp,dg⟩:2*m<=1048576/\(0:Int)<=2*m/\(2*(m:Int)).toNat=2*m:=by omega
 clear bf d0;simp[ax,aa,b7,bh,ab,dm,d1,dp,dg];clear a3 bt Ki dx Z b2 ba;obtain⟨ZR,ca⟩:∃ZR,ZR=replicate (2*m) [Aa.int .i64 0]:=⟨_,rfl⟩;have av:∀q,Z3 q ZR=ZR:=λq=>by rw[ca,J1];simp
 rw[<-ca];obtain⟨PR,am⟩:∃PR:Nat->Nat->List (List Aa),PR=λi k=>((Mf gs i k).map AP).map Ab:=⟨_,rfl⟩;have Y:∀i k q,Z3 q (PR i k)=PR i k:=λi k q=>by rw[am];exact Y2 q _ (Y6 _)
 have X:∀i k,(PR i k).length=(gs.take i).sum+k:=λi k=>by rw[am];simp[Yh6]
 have ad:∀i k,PR i (k+1)=PR i k++[Ab (AP (i,k+1))]:=λi k=>by rw[am];simp[Yed]
 have b1:∀i,i<gs.length->PR i (gs.getD i 0)=PR (i+1) 0:=λi hi=>by rw[am];simp only[Yhg hi]
 have b0:PR gs.length 0=((AN 0 gs).map AP).map Ab:=by rw[am];simp only[Ygk]
 have bz:PR 0 0=[]:=by rw[am];rfl
 clear am;have T:∀q t,Z3 q (Z1 (Q5 t))=Z1 (Q5 t):=λq t=>Z5 q _;have P:∀q t,Z3 q (Z1 (J5 t))=Z1 (J5 t):=λq t=>Z5 q _;obtain⟨U,hU⟩:∃U:Nat->List (List Aa),U=λt=>Z1 (Q5 t):=⟨_,rfl⟩;obtain⟨D,hD⟩:∃D:Nat->List (List Aa),D=λt=>Z1 (J5 t):=⟨_,rfl⟩;have T:∀t q,Z3 q (U t)=U t:=λt q=>by grind
 have P:∀t q,Z3 q (D t)=D t:=λt q=>by grind
 have ct:U 0=[]:=by rw[hU];rfl
 have ci:D 0=[]:=by rw[hD];rfl
 have Q:∀t,(U t).length=t:=λt=>by rw[hU];exact Ygz t
 have O:∀t,(D t).length=t:=λt=>by rw[hD];exact Z8y t
 have cu:∀t,U (t+1)=U t++[[.int .i64 ((2*t:Nat):Int)]]:=λt=>by rw[hU];exact Ydq t
 have cj:∀t,D (t+1)=D t++[[.int .i64 ((2*t+1:Nat):Int)]]:=λt=>by rw[hD];exact Yex t
 have ao:∀i,i<gs.length->(gs.take i).sum+gs.getD i 0<=m:=λi hi=>by
  have h1:(gs.take (i+1)).sum=(gs.take i).sum+gs.getD i 0:=by
   rw[take_add_one,sum_append,getD,gE hi];simp
  have h2:(gs.take (i+1)).sum+(gs.drop (i+1)).sum=gs.sum:=by rw[<-sum_append,List.take_append_drop]
  omega
 refine OZ (α:=Nat) (λi=>[(1,.ptr 1 0 0),(2,.ptr 2 0 0),(4,.int .i64 m),(12,.ptr 10 0 0),(13,Bt 13 (U (gs.take i).sum)),(14,Bt 14 (D (gs.take i).sum)),(97,.Al GR),(98,.int .i64 gs.length),(99,.int .i64 i)])
  (λi=>⟨[(2,.cells 2 [[.int .i64 0,.Aj]]),(1,.cells 4 [[.int .i64 F,.Al GR,AV,BV]]),(10,.cells 3 [[Bt 11 (PR i 0),.sl 12 0 (2*m),.Aj]]),(12,.cells 1 ZR)]++Bp 11 6 (PR i 0) (Bp 13 1 (U (gs.take i).sum) (Bp 14 1 (D (gs.take i).sum) [])),15⟩) (λi=>gs.length-i) (λi=>i<=gs.length) 0 [(10,18),(12,16)] (by simp[v,a,b,ct,ci,bz,av,DT,al]) (by omega) ?_
 intro i hi N hN;by_cases d:¬i=gs.length
 ·have p:i<gs.length:=by omega
  have hg:=cl i p;obtain⟨_,ae⟩:=Y3 hg;have I:=hN (i+1);have d5:=ao i p;have d4:(gs.take (i+1)).sum=(gs.take i).sum+gs.getD i 0:=by
   rw[take_add_one,sum_append,getD,gE p];simp
  have hw:=W7 ((i:Int)+1) ((i+1:Nat):Int);rw[d4,<-b1 i p]at I;generalize gs.getD i 0=c at *;obtain⟨s,hs⟩:∃s,s=(gs.take i).sum:=⟨_,rfl⟩;have X:=λk=>X i k;have ad:=λk=>ad i k;have Y:=λk=>Y i k;rw[<-hs]at I d5;simp only[<-hs]at X ⊢;simp[p,hg,ae,al,<-DT];refine OZ (α:=Nat) (λk=>[(1,.ptr 1 0 0),(2,.ptr 2 0 0),(4,.int .i64 m),(12,.ptr 10 0 0),(13,Bt 13 (U (s+k))),(14,Bt 14 (D (s+k))),(97,.Al GR),(98,.int .i64 gs.length),(99,.int .i64 i),(15,.int .i64 i),(104,.int .i64 c),(105,.int .i64 k)])
   (λk=>⟨[(2,.cells 2 [[.int .i64 0,.Aj]]),(1,.cells 4 [[.int .i64 F,.Al GR,AV,BV]]),(10,.cells 3 [[Bt 11 (PR i k),.sl 12 0 (2*m),.Aj]]),(12,.cells 1 ZR)]++Bp 11 6 (PR i k) (Bp 13 1 (U (s+k)) (Bp 14 1 (D (s+k)) [])),15⟩) (λk=>c-k) (λk=>k<=c) 0 [] (by simp +contextual [v,a,b,T,P,Y,av]) (by omega) ?_
  intro k bd N2 bq;by_cases an:¬k=c
  ·have c7:k<c:=by omega
   have E:=bq (k+1);obtain⟨t,ht⟩:∃t,t=s+k:=⟨_,rfl⟩;have a5:=X k;rw[ad k,show s+(k+1)=t+1 by omega,cu t,cj t]at E;have dk:=W7 ((k:Int)+1) ((k+1:Nat):Int);have dn:=W7 (2*(t:Int)) ((2*t:Nat):Int);have bi:=W7 (((2*t:Nat):Int)+1) ((2*t+1:Nat):Int);rw[<-ht]at a5 ⊢;have Q:=Q t;have O:=O t;have a9:=T t;have a1:=P t;have a6:=Y k;obtain⟨db,d7⟩:¬t+1<=t/\t<=1048575:=by omega
   obtain⟨cg,df⟩:∃cg,cg=2*t+1:=⟨_,rfl⟩;obtain⟨t2,d6⟩:∃t2,t2=2*t:=⟨_,rfl⟩;rw[<-df]at bi E;rw[<-d6]at dn bi E;generalize PR i k=C at *;generalize U t=UU at *;generalize D t=DD at *;by_cases e2:t=0
   ·have e1:C=[]:=List.eq_nil_of_length_eq_zero (by omega);have e2:UU=[]:=List.eq_nil_of_length_eq_zero (by omega);have e3:DD=[]:=List.eq_nil_of_length_eq_zero (by omega);subst e1;subst e2;subst e3;have d8:IntKind.i64.wrap 0=0:=rfl;have d9:IntKind.i64.wrap 1=1:=rfl;obtain⟨z2,ef⟩:t2=0/\cg=1:=by omega
    rw[z2,ef]at E;simp[c7,dk,d8,d9,RU,Ww,W4];exact E [(11,49),(13,26),(14,36)] _ _ (by omega) (by omega) (by simp[v,a,b,av,Ab,AP,Bt,Bp])
   have e1:¬C=[]:=λe=>by rw[e]at a5;simp at a5;omega
   have e2:¬UU=[]:=λe=>by rw[e]at Q;simp at Q;omega
   have e3:¬DD=[]:=λe=>by rw[e]at O;simp at O;omega
   have q1:take t C=C:=tL (by omega);have q2:take t UU=UU:=tL (by omega);have q3:take t DD=DD:=tL (by omega);simp[c7,dk,dn,bi,P8 e1,P8 e2,P8 e3,U0 e1,U0 e2,U0 e3,e1,e2,e3,a5,Q,O,db,d7,W4,q1,q2,q3];exact E [(11,49),(13,26),(14,36)] _ _ (by omega) (by omega) (by simp[v,a,b,av,Ab,AP,a6,a9,a1,a5,Q,O])
  replace an:k=c:=Classical.not_not.1 an;subst an;have a6:=Y k;have a9:=T (s+k);have a1:=P (s+k);clear bq ad X;generalize PR i k=C at *;generalize U (s+k)=UU at *;generalize D (s+k)=DD at *;simp[hw];exact I [] _ _ (by omega) (by omega) (by simp +contextual [v,a,b,av,a6,a9,a1])
 replace d:i=gs.length:=Classical.not_not.1 d;subst d;rw[take_length,<-hm,b0];clear hN hi X ad b1 Y b0 bz ao;obtain⟨C,a4⟩:∃C,C=((AN 0 gs).map AP).map Ab:=⟨_,rfl⟩;have ej:C.length=m:=by rw[a4,lM,lM,Xf,hm]
 have ac:W3 C=true:=by rw[a4];exact Y6 _
 have ek:∀q,Z3 q C=C:=λq=>Y2 q _ ac;have cr:∀(get:Nat->Option Af) row,row∈C -> ∀x,x∈row->X8 get 4 x=some x:=λget=>by rw[a4];exact OX (n:=3) _
 rw[<-a4];have T:=T m;have P:=P m;have Q:=Q m;have O:=O m;obtain⟨UU,a7⟩:∃UU,UU=U m:=⟨_,rfl⟩;obtain⟨DD,az⟩:∃DD,DD=D m:=⟨_,rfl⟩;rw[<-a7]at T Q ⊢;rw[<-az]at P O ⊢;rw[hU]at a7;rw[hD]at az;replace a7:UU=Z1 (Q5 m):=a7;replace az:DD=Z1 (J5 m):=az;clear hU hD cu cj ct ci;simp;obtain⟨ZM,bc⟩:∃ZM:Nat->List (List Aa),ZM=λi=>replicate i [Aa.int .i64 (-1)]++replicate (2*m-i) [Aa.int .i64 0]:=⟨_,rfl⟩;have cx:ZM 0=ZR:=by rw[bc,ca];rfl
 have b5:∀i q,Z3 q (ZM i)=ZM i:=λi q=>by rw[bc,J1];simp
 have c0:∀i,i<=2*m->(ZM i).length=2*m:=λi hi=>by grind
 have b6:∀i,i<2*m->(ZM i).set i [Aa.int .i64 (-1)]=ZM (i+1):=λi hi=>by
  rw[bc];simp only;rw[List.set_append_right _ _ (by simp),List.length_replicate,Nat.sub_self,show 2*m-i=2*m-(i+1)+1 by omega,List.replicate_succ,List.set_cons_zero,List.replicate_succ',append_assoc];rfl
 have cz:∀i,i<2*m -> ∃y,(ZM i)[i]?=some [y]:=λi hi=>by
  rw[bc];simp only;rw[List.getElem?_append_right (by simp),List.length_replicate,Nat.sub_self,show 2*m-i=2*m-(i+1)+1 by omega,List.replicate_succ];exact⟨_,rfl⟩
 have cy:ZM (2*m)=Y9 (BZ (2*m) []):=by
  rw[bc];simp[Y9,BZ]
 refine VS (α:=Nat) (λi=>[(1,.ptr 1 0 0),(2,.ptr 2 0 0),(4,.int .i64 m),(12,.ptr 10 0 0),(13,Bt 13 UU),(14,Bt 14 DD),(145,.sl 12 0 (2*m)),(146,.int .i64 (2*m:Nat)),(147,.int .i64 i)])
  (λi=>⟨[(2,.cells 2 [[.int .i64 0,.Aj]]),(1,.cells 4 [[.int .i64 F,.Al GR,AV,BV]]),(10,.cells 3 [[Bg C,.sl 12 0 (2*m),.Aj]]),(12,.cells 1 (ZM i))]++Bp 13 1 UU (Bp 14 1 DD []),15⟩) (λi=>2*m-i) (λi=>i<=2*m) 0 (RP.wk (l:=[]) (S:=[11]) ⟨by simp,by simp,?_,?_,?_⟩) (by omega) ?_
 ·simp[Ho]
 ·have M:∀q,(Bg C).AM q=Bg C:=λq=>Aa.Be q _ (JU ac);have c2:∀get:Nat->Option Af,get 11=(if C=[]then none else some (.cells 6 C))->C5 get [11] [[Bt 11 C,.sl 12 0 (2*m),.Aj]]=[[Bg C,.sl 12 0 (2*m),.Aj]]:=λget hg=>by
   unfold C5;simp only[List.map_cons,List.map_nil];rw[yf rfl hg (cr _)];rfl
  simp +contextual [DZ,V1,Yak,v,a,b,b5,cx,T,P,M];refine⟨.inr ⟨3,_,⟨rfl,rfl⟩,rfl,(c2 _ (by simp)).symm⟩,.inl (av _).symm⟩
 ·simp
 intro i hi N hN;have M:∀q,(Bg C).AM q=Bg C:=λq=>Aa.Be q _ (JU ac);have ep:=Jb C;have er:=Jh C;by_cases d:¬i=2*m
 ·have p:i<2*m:=by omega
  obtain⟨y,hy⟩:=cz i p;obtain⟨_,ee⟩:=Y3 hy;have I:=hN (i+1);rw[<-b6 i p]at I;have d3:∀q,Z3 q ((ZM i).set i [Aa.int .i64 (-1)])=(ZM i).set i [Aa.int .i64 (-1)]:=λq=>by rw[b6 i p,b5]
  have c8:=c0 i hi;have hw:=W7 ((i:Int)+1) ((i+1:Nat):Int);have c3:(i:Int)<((2*m:Nat):Int):=by omega
  obtain⟨m2,dz⟩:∃m2,m2=2*m:=⟨_,rfl⟩;rw[<-dz]at p c8 c3 I ⊢;generalize Bg C=IP at *;simp[p,hy,ee,c8,hw];refine I _ _ (by omega) (by omega) (Bm.wk (l:=[]) ?_);simp +contextual [v,a,b,T,P,M,d3]
 replace d:i=2*m:=Classical.not_not.1 d;subst d;clear hN hi;rw[cy];have ce:=Y0 ((A.length:Int)+B.length);by_cases be:m=0
 ·by_cases en:A.length+B.length=0
  ·have o:=hk F [] 0 (H _ (by grind));obtain⟨ay,ah⟩:(A.length:Int)+B.length=0/\((m:Nat):Int)=0:=by omega
   generalize Bg C=IP at *;simp[w,u,ce,ay,be,ah];exact Z6 o [] (by simp)
  have o:=hk 0 [] 3 (H _ (by grind));obtain⟨ay,ah⟩:¬(A.length:Int)+B.length=0/\((m:Nat):Int)=0:=by omega
  generalize Bg C=IP at *;simp[w,u,ce,ay,be,ah];exact Z6 o [] (by simp)
 have ah:¬((m:Nat):Int)=0:=by omega
 rw[iN (λe=>be e.1)]at H;have a8:¬UU=[]:=λe=>by grind
 have a0:¬DD=[]:=λe=>by grind
 have co:Fw m (Q5 m) (J5 m) [] []:=by
  unfold Fw;simp only[O1,List.flatMap_nil,List.append_nil,length_nil,Nat.mul_zero,Nat.add_zero];exact qG m
 have af:=Zy5 C ac m false AV A hA (Q5 m) (J5 m) [] [] co (by simp;omega);have dh:(Q5 m).length=m:=by simp[Q5]
 have c1:(J5 m).length=m:=by simp[J5]
 rw[dh,<-a7]at af;unfold kM Fj at af;have ed:(xJ m []).map Co=[]:=rfl;rw[ed,RU,Ww]at af;simp only[length_nil,Nat.mul_zero,Nat.add_zero]at af;obtain⟨b1,L1,X1,bu⟩:∃b1 L1 X1,U1 m false A (Q5 m) [] []=(b1,L1,X1):=⟨_,_,_,rfl⟩;rw[bu]at af;simp only at af;obtain⟨bm,b3⟩:∃bm,bm=(xJ m X1).map Co:=⟨_,rfl⟩;obtain⟨bj,bw⟩:∃bj,bj=Y9 (BZ (2*m+4*X1.length) L1):=⟨_,rfl⟩;rw[<-b3,<-bw]at af;have ai:K9 m A B=if b1 then U1 m true B (J5 m) L1 X1 else (b1,L1,X1):=by unfold K9;rw[bu]
 generalize cm:Bg C=IP at *;simp[w,u,ce,be,ah,P8 a8,U0 a8,P8 a0,U0 a0,a8,a0,Q,O];have dr:∀(l:List Int) q,Z3 q (Y9 l)=Y9 l:=λl q=>Y2 q _ (NG l);have eu:∀(l:List (Int×Nd)) q,Z3 q (l.map Co)=l.map Co:=λl q=>Y2 q _ (Sp l);have cf:∀q,Z3 q bm=bm:=λq=>by grind
 have cc:∀q,Z3 q bj=bj:=λq=>by grind
 refine S3 af [(1,10),(2,12),(4,13)] (by simp[a]) (by simp[M,T,dr]) (by simp) ?_;rintro _ _ ⟨rfl,rfl⟩;cases b1 with
 |false=>
  have o:=hk 0 [] 3 (H _ (by grind));simp[M,cc,cf];exact Z6 o [] (by simp)
 |true=>
  rw[iP rfl]at ai;have dw:=Uq A _ _ _ _ _ bu;simp only[length_nil,Nat.zero_add]at dw;obtain⟨cp,_,_⟩:=Wl A _ _ _ _ _ co bu;have ds:Fw m (J5 m) [] L1 X1:=by unfold Fw at cp ⊢; simpa using cp
  have aw:=Zy5 C ac m true BV B hB (J5 m) [] L1 X1 ds (by grind);rw[c1,<-az,cm]at aw;unfold kM Fj at aw;obtain⟨b2,L2,X2,dc⟩:∃b2 L2 X2,U1 m true B (J5 m) L1 X1=(b2,L2,X2):=⟨_,_,_,rfl⟩;rw[dc]at aw ai;simp only at aw;obtain⟨bn,b4⟩:∃bn,bn=(xJ m X2).map Co:=⟨_,rfl⟩;obtain⟨bl,bx⟩:∃bl,bl=Y9 (BZ (2*m+4*X2.length) L2):=⟨_,rfl⟩;rw[<-b3,<-bw,<-b4,<-bx]at aw;have bv:∀q,Z3 q bn=bn:=λq=>by grind
  have bs:∀q,Z3 q bl=bl:=λq=>by grind
  simp[M,cc,cf,u,aj,ak];refine S3 aw [(1,10),(2,46),(3,47),(4,14)] (by simp[b]) (by simp +contextual [M,P,cc,cf]) (by simp) ?_;rintro _ _ ⟨rfl,rfl⟩;cases b2 with
  |false=>
   have o:=hk 0 [] 3 (H _ (by grind));simp[M,bs,bv,gP,gQ];exact Z6 o [] (by simp)
  |true=>
   have ew:=Uq B _ _ _ _ _ dc;rw[ai,iN (λe=>by grind)]at H;simp only at H;have cs:Jy m X2 L2:=yw (by omega) ai;have Cb:(AN 0 gs).length=m:=by rw[Xf,hm]
   have OA:gs.length=F.toNat+1:=by omega
   have di:FI m X2 L2->V3 F (X7 (X9 m (AN 0 gs) X2 L2))=0:=λhw=>RF L2 X2 ai hw be Cb OA (by omega) (by omega) (by omega) (by omega);have br:=Ybc F m gs Cb X2 L2 cs (by omega) (λr sm=>(FI m X2 L2->r=.tuple [.agg [.int .i64 F,.sl 4 0 (m+2*X2.length)],.bool true]/\sm=⟨[(4,.cells 6 ((X7 (X9 m (AN 0 gs) X2 L2)).map Ab))],5⟩) /\
    (¬FI m X2 L2->r=.tuple [.agg [.int .i64 0,.Aj],.bool false]/\sm=⟨[],4⟩)) di (λhw=>⟨λ_=>⟨rfl,rfl⟩,λh=>absurd hw h⟩) (λhw=>⟨λh=>absurd h hw,λ_=>⟨rfl,rfl⟩⟩)
   have cq:¬C=[]:=λe=>by grind
   have cn:IP=.Al C:=by rw[<-cm];unfold Bg;rw[iN cq]
   unfold Fj at br;rw[<-a4,<-cn,<-b4,<-bx]at br;simp[M,bs,bv,gP,gQ];by_cases hW:FI m X2 L2
   ·have o:=hk F _ 0 (H _ (by rw[iP hW]));refine S3 br [(1,10),(2,48),(3,49)] (by simp) (by simp +contextual [M,bs,bv]) (by simp) ?_;rintro r sm ⟨h1,_⟩;obtain⟨rfl,rfl⟩:=h1 hW;have v:=λq=>Y2 q _ (Y6 (X7 (X9 m (AN 0 gs) X2 L2)));have L:((X7 (X9 m (AN 0 gs) X2 L2)).map Ab).length=m+2*X2.length:=by rw[lM,Sy,Po cs hW Cb]
    have b8:¬(X7 (X9 m (AN 0 gs) X2 L2)).map Ab=[]:=λe=>by rw[e]at L;simp at L;omega
    generalize (X7 (X9 m (AN 0 gs) X2 L2)).map Ab=GL at *;simp[v,gP,gQ];exact Z6 o [(1,60)] (by simp[P8 b8,U0 b8,L,v,b8])
   have o:=hk 0 [] 3 (H _ (by rw[iN hW]));refine S3 br [(1,10),(2,48),(3,49)] (by simp) (by simp +contextual [M,bs,bv]) (by simp) ?_;rintro r sm ⟨_,h1⟩;obtain⟨rfl,rfl⟩:=h1 hW;simp[gP,gQ];exact Z6 o [] (by simp)
def ZF(F:Int)(G:List Int)(A B:List Ro):Aa:=.tuple [.agg [.int .i64 (GV F G A B).1,Bg ((GV F G A B).2.1.map Ab)],.int .i64 (GV F G A B).2.2]
theorem Yhq(F:Int)(G:List Int)(A B:List Ro):(ZF F G A B).closed=true:=by
 unfold ZF;simp[Aa.closed,Y7,JU,Y6]
theorem Yly(F:Int)(G:List Int)(A B:List Ro)(d e:Aa)(m:fU F G A B)(g:CE d A)(i:CE e B)(t:G.length<=1000)(l:A.length<=1000)(j:B.length<=1000) :
 Au prog 9 [.agg [.int .i64 F,.Al (Y9 G),d,e]] (ZF F G A B):=by
 obtain⟨o,p,a⟩:=g.cells;obtain⟨q,s,c⟩:=i.cells;refine WG (k:=6) (by simp[Y7,Aa.closed,NG,a,c]) (Yhq F G A B) ((Yc6 F G A B d e m g i t l j).mono λr v h=>?_);obtain⟨rows,rfl,rfl,rfl⟩:=h;have u:X8 (Ac.get ⟨Bp 1 6 ((GV F G A B).2.1.map Ab) [],2⟩) 4 (Bt 1 ((GV F G A B).2.1.map Ab))=some (Bg ((GV F G A B).2.1.map Ab)):=y7 (n:=2) (b:=1) (k:=6) (by simp) (OX _);unfold ZF;rw[X8];simp only[U4];rw[X8];simp only[U4,u];rfl
end Go.Ad
