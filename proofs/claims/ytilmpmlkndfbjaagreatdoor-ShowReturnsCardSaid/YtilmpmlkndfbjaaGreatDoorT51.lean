/- Part 51 -/
import Derived.Test.YtilmpmlkndfbjaaGreatDoorT50
set_option linter.all false
set_option maxRecDepth 100000
set_option maxHeartbeats 16000000
open List (range map_map map_append getD mem_append_left map)
open Prod (fst snd)
namespace Go.Ad
open Go.Plain Go Go.AE Go.Proofs
structure Mt (x:List Lt) (m:Nat) (L:List (Nat×Nat)) (X:List Nd) (P:List (Nat×Nat)):Prop where
 lt:∀ p,p∈P→p.1<2*x.length
 nd:(P.map fst).Nodup
 en:(P.map snd).Nodup
 eb:∀ p,p∈P→p.2<2*m+4*X.length
 cn:P.length=2*m+4*X.length
 jn:∀ p,p∈L → ∃ d,(d,p.1)∈P∧(Av d,p.2)∈P
 ps:∀ i,i<m→(Ca x ((Z2 x).getD i 0),2*i)∈P∧(Fe x ((Z2 x).getD i 0),2*i+1)∈P
 cr:∀ j,j<X.length → ∃ v b,v<x.length∧(at' x v).k=2∧(at' x v).o=((X.getD j (false,false)).1 != (X.getD j (false,false)).2)∧(Y5 x.length v (!b),2*m+4*j)∈P∧(Y5 x.length v b,2*m+4*j+2)∈P ∧
  (Y5 x.length (BY x v) ((b == Cw x v) != (X.getD j (false,false)).2),2*m+4*j+1)∈P∧(Y5 x.length (BY x v) ((b == Cw x v) == (X.getD j (false,false)).2),2*m+4*j+3)∈P
theorem Zwe{f:Int}{x y:List Lt}{ρ σ:Nat->Nat}(j:AH f x)(i:x≠[])(o:AH f y)(p:y≠[])(h:RK x y ρ σ true):∀n v,v<n->v<x.length->M8 y (ρ v) = !M8 x v
 |0,_,l,_=>absurd l (Nat.not_lt_zero _)
 |n+1,v,l,a=>by
  have g:=h.len;have d:=h.lt v a;have ps:∀{z:List Lt}{w:Nat},w<z.length->(at' z w).k=1->M8 z w = !down z w:=λ{z w} s e=>by
   unfold M8 down;rw[ON s,iP (by simp[As,e]),Bool.eq_iff_iff];simp;omega
  rcases Decidable.em ((at' x v).k=2)with e|e
  ·obtain⟨t,q⟩:=oW j i a e;have b:(at' y (ρ v)).k=2:=by rw[h.Cs v a];exact e
   obtain⟨u,r⟩:=oW o p (by rw[g];exact d) b;have m:=h.pre v a;rw[OS a,iN (by omega),OS d,iN (by omega)]at m;rw[<-q,<-r,<-m];exact Zwe j i o p h n (v-1) (by omega) (by omega)
  have c:=(j.wv i).Cs v a e;have b:(at' y (ρ v)).k=1:=by rw[h.Cs v a];exact c
  rw[ps a c,ps (by rw[g];exact d) b,h.dn v a c];cases down x v<;>rfl
theorem Yaq(σ:Nat->Nat)(d:Nat):th σ d / 2=σ (d / 2):=by unfold th;split<;>omega
theorem Yg7{f:Int}{x:List Lt}(H:AH f x)(F:x≠[]):∃L X P,K9 (Z0 x) ((X3 4 x).map HV) ((X3 4 (Bi x)).map HV)=(true,L,X)/\Mt x (Z0 x) L X P:=by
 obtain⟨c,aa⟩:=z6 H F;have V:=(H.IL F).1;have Z:=zl H F;obtain⟨y,ad⟩:∃y,y=Bi x:=⟨_,rfl⟩;have U:Z0 y=Z0 x:=by rw[ad];exact UB
 rw[<-ad]at c aa V Z ⊢;generalize ak:CN x.length (BP x x.length)=ρ at *;generalize wP:KS x.length (BP x x.length)=σ at *;have A:=c.len;obtain⟨m,hm⟩:∃m,m=Z0 x:=⟨_,rfl⟩;rw[<-hm]at U ⊢;have i1:=Re.Mb H F (m:=m) (n0:=0) (below:=false) (L0:=[]) 0 rfl [] hm rfl;have f1:((range m).map λi=>(Ca x ((Z2 x).getD i 0),2*i+0)).map fst=Y4 x:=by rw[eD,map_map,<-hm];rfl
 have f2:((range m).map λi=>(Ca x ((Z2 x).getD i 0),2*i+0)).map snd=Q5 m:=by rw[map_map];rfl
 obtain⟨P1,d1,L1,X1,E,g2,g3⟩:=i1.run H F (En x (Y4 x) []+1) _ _ _ _ _ (by rw[f1];exact oV H F);rw[f1,f2]at g3;have i2:=Re.Mb V Z (m:=m) (n0:=X1.length) (below:=true) (L0:=L1) 1 rfl X1 U.symm rfl;have e1:((range m).map λi=>(Ca y ((Z2 y).getD i 0),2*i+1)).map fst=Y4 y:=by rw[eD,map_map,U];rfl
 have e2:((range m).map λi=>(Ca y ((Z2 y).getD i 0),2*i+1)).map snd=J5 m:=by rw[map_map];rfl
 obtain⟨D,d2,L2,Q,I,k2,k3⟩:=i2.run V Z (En y (Y4 y) []+1) _ _ _ _ _ (by rw[e1];exact oV V Z);rw[e1,e2]at k3;have ag:K9 m ((X3 4 x).map HV) ((X3 4 y).map HV)=(true,L2,Q):=by
  unfold K9;have a1:U1 m false ((X3 4 x).map HV) (Q5 m) [] []=(true,L1,X1):=g3;rw[a1];exact k3
 have ac:∃Y,Q=X1++Y:=by
  have:∀(rs:List Ro) (front:List Nat) (L0:List (Nat×Nat)) (X0:List Nd),U1 m true rs front L0 X0=(true,L2,Q) -> ∃Y,Q=X0++Y:=by
   intro rs;induction rs with
   |nil=>
    intro front L0 X0 h;simp only[U1,AT,decide_eq_true_eq]at h;simp_all
   |cons r rs ih=>
    intro front L0 X0 h;simp only[U1]at h;grind
  exact this _ _ _ _ k3
 obtain⟨Y,hY⟩:=ac;have ai:X1.length<=Q.length:=by grind
 obtain⟨T,hT⟩:∃T:Nat×Nat->Nat×Nat,T=λp=>(th σ p.1,p.2):=⟨_,rfl⟩;have w:∀p,p∈D->p.1<2*x.length:=λp g=>by have:=I.lt p g;omega
 have aj:∀p,p∈D->M8 x (th σ p.1 / 2)=false:=λp g=>by
  have h1:=I.sd p g;have h2:=w p g;have h3:=Zwe H F V Z c (x.length+1) (σ (p.1 / 2)) (by have:=c.Fz (p.1 / 2) (by omega);omega) (c.Fz _ (by omega));rw[c.inr _ (by omega),h1]at h3;rw[Yaq];grind
 have s:∀d e,(d,e)∈D->(th σ d,e)∈P1++D.map T:=λd e h=>by
  grind
 refine⟨L2,Q,P1++D.map T,ag,λp g=>?_,?_,?_,λp g=>?_,?_,λp g=>?_,λi hi=>⟨?_,?_⟩,λj hj=>?_⟩
 ·rcases List.mem_append.1 g with g|g
  ·exact E.lt p g
  obtain⟨q,G,rfl⟩:=mM.1 g;rw[hT];exact rz c (w q G)
 ·rw[map_append,List.nodup_append];refine⟨E.nd,?_,λd hd d' S e=>?_⟩
  ·have:(D.map T).map fst=(D.map fst).map (th σ):=by simp_all
   rw[this];refine KJ (λa b ha hb e=>?_) I.nd;obtain⟨p,g,rfl⟩:=mM.1 ha;obtain⟨q,G,rfl⟩:=mM.1 hb;exact Yhd c _ _ (w p g) (w q G) e
  obtain⟨p,g,rfl⟩:=mM.1 hd;obtain⟨q,G,rfl⟩:=mM.1 S;obtain⟨z,hz,rfl⟩:=mM.1 G;have a1:=E.sd p g;grind
 ·rw[map_append,List.nodup_append];have:(D.map T).map snd=D.map snd:=by rw[map_map,hT];rfl
  rw[this];refine⟨E.en,I.en,λd hd d' S e=>?_⟩;obtain⟨p,g,rfl⟩:=mM.1 hd;obtain⟨q,G,rfl⟩:=mM.1 S;have a1:=E.ev p g;have a2:=I.ev q G;have b1:=E.eb p g;have b2:=I.eb q G;grind
 ·rcases List.mem_append.1 g with g|g
  ·have:=(E.eb p g).2;omega
  obtain⟨q,G,rfl⟩:=mM.1 g;rw[hT];exact(I.eb q G).2
 ·have a1:=E.cn;have a2:=I.cn;grind
 ·obtain⟨M,m1,m2⟩:=I.jn;rw[m1]at g;rcases List.mem_append.1 g with g|g
  ·obtain⟨M1,n1,n2⟩:=E.jn;grind
  obtain⟨d,C,J⟩:=m2 p g;refine⟨th σ d,s _ _ C,?_⟩;rw[<-UM];exact s _ _ J
 ·grind
 ·have:=s _ _ (k2 _ (mM.2 ⟨i,mR.2 hi,rfl⟩));rw[Ye9 c (V.wv Z).Cs (by omega)]at this;exact this
 by_cases ab:j<X1.length
 ·obtain⟨u,u1,O,u3,N⟩:=E.cr j (Nat.zero_le _) ab;obtain⟨v,b,n,rfl⟩:=L4 u1;rw[K1 n]at O u3;obtain⟨r1,r2,r3⟩:=aG H F n O b;obtain⟨w1,_⟩:=(H.wv F).Cp v n O;have ae:Q.getD j (false,false)=((at' x v).o,false):=by
   rw[hY,getD,List.getElem?_append_left ab];exact u3
  rw[ae];have B:=N 0 (by omega);have C:=N 1 (by omega);have J:=N 2 (by omega);have K:=N 3 (by omega);rw[r1,KF]at C;rw[r2,KF,Bool.not_not]at J;rw[r3,KF]at K;have B:(Av (arr x.length v b),2*m+4*j+0)∈P1:=B;rw[KF]at B;refine⟨v,b,n,O,by simp,mem_append_left _ B,mem_append_left _ J,mem_append_left _ ?_,mem_append_left _ ?_⟩
  ·have e:(!(b != Cw x v))=((b == Cw x v) != false):=by cases b<;>cases Cw x v<;>rfl
   rw[e]at C;exact C
  have e:(!(b == Cw x v))=((b == Cw x v) == false):=by cases b<;>cases Cw x v<;>rfl
  rw[e]at K;exact K
 obtain⟨u,u1,O,u3,N⟩:=I.cr j (by omega) hj;obtain⟨v',b,t,rfl⟩:=L4 u1;have n:v'<x.length:=by rw[A]at t;exact t
 rw[K1 t]at O u3;obtain⟨r1,r2,r3⟩:=aG V Z t O b;obtain⟨v,l,ah⟩:∃v,v<x.length/\ρ v=v':=⟨σ v',c.Fz _ n,c.inr _ n⟩;subst ah;have kv:(at' x v).k=2:=by rw[<-c.Cs v l];exact O
 obtain⟨w1,w2,_⟩:=(H.wv F).Cp v l kv;have ho:BY y (ρ v)=ρ (BY x v):=by unfold BY;rw[A];exact c.Cp v l kv
 have hs:Cw y (ρ v) = !Cw x v:=c.ov v l kv;have af:(at' y (ρ v)).o = !(at' x v).o:=by rw[aa v l,Qp kv]
 rw[ho,hs]at r1 r3;have B:=N 0 (by omega);have C:=N 1 (by omega);have J:=N 2 (by omega);have K:=N 3 (by omega);rw[r1,KF,A]at C;rw[r2,KF,Bool.not_not,A]at J;rw[r3,KF,A]at K;have B:(Av (arr y.length (ρ v) b),2*m+4*j+0)∈D:=B;rw[KF,A]at B;have B:=s _ _ B;have C:=s _ _ C;have J:=s _ _ J;have K:=s _ _ K;rw[Wh c (c.lt v l),c.inv v l]at B J;rw[Wh c (c.lt _ w1),c.inv _ w1]at C K;rw[u3];refine⟨v,b,l,kv,by rw[af];simp,B,J,?_,?_⟩
 ·have e:(!(b != !Cw x v))=((b == Cw x v) != true):=by cases b<;>cases Cw x v<;>rfl
  rw[e]at C;exact C
 have e:(!(b == !Cw x v))=((b == Cw x v) == true):=by cases b<;>cases Cw x v<;>rfl
 rw[e]at K;exact K
section
attribute [local simp] UZ Uo Us Uw Ux Va Vi Vj Un UH UY RH IC Sl Sz Sh UL
attribute [local simp] kK iZ
theorem A2{n c:Nat}(h:c<20):¬(c=20+n):=by omega
theorem ua:∀(a b:List (List Aa)),W3 (a++b)=(W3 a&&W3 b)
 |[],_=>rfl
 |x::r,b=>by
  show(Y7 x&&W3 (r++b))=((Y7 x&&W3 r)&&W3 b);rw[ua r b,Bool.and_assoc]
theorem PG(b:List (List Aa))(A B C D G H:Af)(R:List (List Aa))(c:Nat)(y:Af)(d:Z7 ([(10,A),(11,B),(12,C),(13,D),(1,G),(2,H)]++Bp 14 6 R (Bp 3 6 b [])) c=some y):c<20:=by
 refine VI (λp a=>?_) d;simp only[List.cons_append,List.nil_append,mC]at a;rcases a with rfl|rfl|rfl|rfl|rfl|rfl|a
 any_goals (show _<_;omega)
 rcases Wn a with e|a
 ·omega
 rcases Wn a with e|a
 ·omega
 cases a
theorem Tq(b:List (List Aa))(A B C D G:Af)(c:Nat)(y:Af)(d:Z7 ([(10,A),(11,B),(12,C),(1,D),(14,G)]++Bp 3 6 b []) c=some y):c<20:=by
 refine VI (λp a=>?_) d;simp only[List.cons_append,List.nil_append,mC]at a;rcases a with rfl|rfl|rfl|rfl|rfl|a
 any_goals (show _<_;omega)
 rcases Wn a with e|a
 ·omega
 cases a
theorem Ybc(f:Int)(m:Nat)(gs:List Nat)(Cb:(AN 0 gs).length=m)(X:List Nd)(L:List (Nat×Nat))(h:Jy m X L)(hb:2*m+4*X.length<=1000)(a2:Aa->Ac->Prop)
 (hC:FI m X L->V3 f (X7 (X9 m (AN 0 gs) X L))=0)
 (b0:FI m X L->a2 (.tuple [.agg [.int .i64 f,.sl 4 0 (m+2*X.length)],.bool true]) ⟨[(4,.cells 6 ((X7 (X9 m (AN 0 gs) X L)).map Ab))],5⟩) (Zs:¬FI m X L->a2 (.tuple [.agg [.int .i64 0,.Aj],.bool false]) ⟨[],4⟩) :
 Bo Tryz.prog 28 [.ptr 1 0 0,.int .i64 f] ⟨(1,Fj (.Al (((AN 0 gs).map AP).map Ab)) (.sl 2 0 (2*m+4*X.length)) (Bt 3 ((xJ m X).map Co)))::(2,.cells 1 (Y9 (BZ (2*m+4*X.length) L)))::Bp 3 6 ((xJ m X).map Co) [],4⟩ a2:=by
 refine aP hm [] Tryz.func28 Zc rfl rfl λK hK=>?_;have ak:(((AN 0 gs).map AP).map Ab).length=m:=by simp[Cb]
 have b3:((xJ m X).map Co).length=X.length:=by rw[lM,bE]
 have cd:IntKind.i64.wrap (2*(X.length:Int))=2*X.length:=L6 (by omega) (by omega);have ce:IntKind.i64.wrap ((m:Int)+2*X.length)=m+2*X.length:=L6 (by omega) (by omega);obtain⟨b2,bq⟩:X.length<=1048576/\24*X.length<=1048576:=by omega
 have bh:∀q,Z3 q (((AN 0 gs).map AP).map Ab)=((AN 0 gs).map AP).map Ab:=λq=>Y2 q _ (Y6 _);have af:∀q,Z3 q (Y9 (BZ (2*m+4*X.length) L))=Y9 (BZ (2*m+4*X.length) L):=λq=>Y2 q _ (NG _);have DE:∀q,Z3 q ((xJ m X).map Co)=(xJ m X).map Co:=λq=>Y2 q _ (Sp _);have o:=λhw e mm hW=>Yke f h hw Cb hb (((AN 0 gs).map AP).map Ab) bh K (hC hw) (hK _ _ (b0 hw)) e mm hW;unfold Fj;have b1:∀i,i<m->(((AN 0 gs).map AP).map Ab)[i]?=some (Ab (AP ((AN 0 gs).getD i (0,0)))):=λi hi=>by
  grind
 have bl:∀e,e<2*m+4*X.length->(Y9 (BZ (2*m+4*X.length) L))[e]?=some [.int .i64 ((Eb L e:Nat):Int)]:=λe he=>
  Yea h.nd (λp hp=>⟨(h.en _).2 (BA.2 ⟨p,hp,.inl rfl⟩),(h.en _).2 (BA.2 ⟨p,hp,.inr rfl⟩)⟩) ((h.en e).1 he)
 generalize ((AN 0 gs).map AP).map Ab=P at *;generalize Y9 (BZ (2*m+4*X.length) L)=J at *;generalize (xJ m X).map Co=XX at *;simp[ak,b3,cd,ce,b2,bq];have Ff:∀q,Z3 q P=P:=bh;have bt:∀x,(Q0 m L 0 x).map DN=[]:=λx=>rfl;refine VS (α:=Nat) (λt=>[(0,.ptr 1 0 0),(1,.int .i64 f),(4,.ptr 10 0 0),(5,.bool false),(6,.ptr 11 0 0),(7,.int .i64 m),(8,.sl 12 0 X.length),(9,.map 13),(10,.int .i64 ((m:Int)+2*X.length-t)),(11,.int .i64 (AK m L t))])
  (λt=>⟨G7 2 20 (λx=>(Q0 m L t x).map DN) X.length ([(10,.cells 2 [[.int .i64 0,.Aj]]),(11,.cells 2 [[.int .i64 f,Bt 14 ((C2 m (AN 0 gs) L t).map Ab)]]),(12,.cells 1 (H2 20 X.length λx=>(Q0 m L t x).map DN)),
    (13,.map (GP 0 (DF m L t)) (DF m L t).length),(1,.cells 3 [[.Al P,.sl 2 0 (2*m+4*X.length),Bt 3 XX]]),(2,.cells 1 J)]++Bp 14 6 ((C2 m (AN 0 gs) L t).map Ab) (Bp 3 6 XX [])),20+X.length⟩)
  (λt=>m+2*X.length+1-t) (λt=>t<=m+2*X.length /\ ∀s,0<s->s<=t->AK m L s≠0) 0 ?_ ⟨by omega,λs h1 h2=>by omega⟩ ?_
 ·rw[Yau _ λx _=>bt x,Yco λx _=>bt x];refine Bm.wk (l:=[(10,4),(11,8),(12,21),(13,23)]) ?_;have w:(C2 m (AN 0 gs) L 0).map Ab=[]:=rfl;have b8:GP 0 (DF m L 0)=[]:=rfl;have b4:AK m L 0=0:=rfl;have b9:DF m L 0=[]:=rfl;have Ao:∀q,Z3 q (List.replicate X.length [Aa.Aj])=List.replicate X.length [.Aj]:=λq=>by rw[J1];simp
  rw[w,b8,b9,b4];obtain⟨cg,ch,ci,cj,k4⟩:10<20+X.length/\11<20+X.length/\12<20+X.length/\13<20+X.length/\4<=20+X.length:=by omega
  simp +contextual [Ao,Ff,af,DE,C0,cg,ch,ci,cj,k4]
 rintro t ⟨ht,ac⟩ N hN;have cq:=h.hm;have Kj:∀t y,W3 ((Q0 m L t y).map DN)=true:=λt y=>aC _;have ai:∀(c:Nat) (x:List Aa),Bt c [x]=.sl c 0 1:=λ_ _=>rfl;have BL:∀(c k:Nat) (x:List Aa) (r:List (Nat×Af)),Bp c k [x] r=(c,.cells k [x])::r:=λ_ _ _ _=>rfl;by_cases br:t=m+2*X.length
 ·have aq:¬FI m X L:=λhw=>ac t (by omega) (lR _) (by rw[br];exact hw.back);have C:IntKind.i64.wrap ((m:Int)+2*X.length-t-1) = -1:=by rw[L6 (by omega) (by omega)];omega
  simp[C];exact Z6 (hK _ _ (Zs aq)) [] (by simp)
 have cp:t<m+2*X.length:=by omega
 have C:=W7 ((m:Int)+2*X.length-t-1) ((m:Int)+2*X.length-(t+1:Nat));have H:¬((m:Int)+2*X.length-(t+1:Nat)<0):=by omega
 have M:IntKind.i64.wrap (2*(m:Int))=2*m:=L6 (by omega) (by omega);have b5:=Lm h t;have ck:=Lm h (t+1);have cl:AK m L (t+1)=Eb L (Ec m (AK m L t)):=rfl;obtain⟨cf,_,_⟩:=Lj (m:=m) (X:=X) b5;have B:J[Ec m (AK m L t)]?=some [.int .i64 (AK m L (t+1):Nat)]:=bl _ cf;have A:(C2 m (AN 0 gs) L (t+1)).map Ab=(C2 m (AN 0 gs) L t).map Ab++[Ab (OE m (AN 0 gs) L t)]:=by
  unfold C2;rw[List.range_succ,map_append,map_append];rfl
 obtain⟨left,a8⟩:∃left:Int,left=(m:Int)+2*X.length-(t+1:Nat):=⟨_,rfl⟩;rw[<-a8]at C H;have Q:=hN (t+1);rw[<-a8]at Q;have aq:left≠0->AK m L (t+1)=0 -> ¬FI m X L:=λhl G hw=>by
  rcases lG (t+1) (m+2*X.length)with c|c
  ·exact hw.first (t+1) (by omega) c G
  omega
 have co:=h.ev;have a3:left=0->AK m L (t+1)=0->m+2*X.length=t+1/\FI m X L:=λhl G=>by
  have e1:m+2*X.length=t+1:=by omega
  refine⟨e1,by rw[e1];exact G,λs h1 h2=>ac s h1 (by omega)⟩
 by_cases hp:AK m L t<2*m
 ·have bu:∀x,Q0 m L (t+1) x=Q0 m L t x:=λx=>by
   show(if _ then _ else _)=_;grind
  have ca:DF m L (t+1)=DF m L t:=by
   unfold DF;show map _ (if _ then _ else _)=_;grind
  simp only[bu,ca]at Q;have D:((AK m L t:Nat):Int)<2*m:=by omega
  have E:((AK m L t:Nat):Int).tdiv 2=((AK m L t / 2:Nat):Int):=rfl;have ag:AK m L t / 2<m:=by omega
  have ay:=Y0 ((AK m L t / 2:Nat):Int);have ad:=b1 _ ag;have a9:OE m (AN 0 gs) L t=AP ((AN 0 gs).getD (AK m L t / 2) (0,0)):=by unfold OE;rw[iP hp]
  rw[a9]at A;have hx:=yF (AK m L t) (by omega);rw[aH hp]at B;have j:((C2 m (AN 0 gs) L t).map Ab).length=t:=by unfold C2;simp
  generalize AP ((AN 0 gs).getD (AK m L t / 2) (0,0))=pl at *;have Cy:∀q,Z3 q ((C2 m (AN 0 gs) L t).map Ab)=(C2 m (AN 0 gs) L t).map Ab:=λq=>Y2 q _ (Y6 _);generalize (C2 m (AN 0 gs) L t).map Ab=RL at *;obtain⟨d,hd⟩:∃d,AK m L t / 2=d:=⟨_,rfl⟩;rw[hd]at E ag ay ad;unfold Ab at ad;obtain⟨DT,ae⟩:=Y3 ad;obtain⟨b,a4⟩:∃b,Av (AK m L t)=b:=⟨_,rfl⟩;rw[a4]at B hx;obtain⟨bz,v⟩:=Y3 B;obtain⟨al,U⟩:RL.length<=1048575/\¬RL.length+1<=RL.length:=by omega
  have Fp:b<2*m+4*X.length:=by rw[<-a4];unfold Av;split<;>omega
  by_cases G:AK m L (t+1)=0
  ·have bp:((AK m L (t+1):Nat):Int)=0:=by omega
   by_cases w:left=0
   ·obtain⟨bb,hw⟩:=a3 w G;have g:RL≠[]:=λe=>by rw[e]at j;simp at j;omega
    have o:=o hw;unfold eS mS at o;rw[bb]at o;simp only[bu]at o;rw[A]at o;simp[C,H,M,D,E,ay,ad,ae,ak,ag,hx,Fp,B,v,W4,U,al,P8 g,U0 g,g,bp,w,G];refine o _ _ (Di.DJ (x:=X.length) (N:=0) (l:=[(14,20+X.length+3+2+4+11)]) (by omega) (Tq _ _ _ _ _ _) ?_ (λe=>absurd e (Nat.lt_irrefl _)) ?_ ?_ ?_ ?_ ?_)
    ·simp[IG];try omega
    ·simp[O4,V5]
    ·simp +contextual [O4,V5,JN,Lr,Ff,af,DE,ai,BL,Ab,Cy,n20,A2,D4,j]
    ·simp;intro y O T S
     repeat rw[iN (by omega)]
     rw[J6 _ O,iN (by simpa using S)]
    ·omega
    exact λy _=>Kj t y
   by_cases g:RL=[]
   ·subst g;simp[C,H,M,D,E,ay,ad,ae,ak,ag,hx,Fp,B,v,W4,U,al,bp,w,G];exact Z6 (hK _ _ (Zs (aq w G))) [] (by simp)
   simp[C,H,M,D,E,ay,ad,ae,ak,ag,hx,Fp,B,v,W4,U,al,P8 g,U0 g,g,bp,w,G];exact Z6 (hK _ _ (Zs (aq w G))) [] (by simp)
  have EN:¬((AK m L (t+1):Nat):Int)<0:=by omega
  have Y:=λe mm hW=>Q e mm (by omega) ⟨by omega,λs h1 h2=>by
   rcases lG s (t+1)with c|c
   ·exact ac s h1 (by omega)
   grind⟩ hW
  rw[A]at Y;by_cases g:RL=[]
  ·subst g;simp[C,H,M,D,E,ay,ad,ae,ak,ag,hx,Fp,B,v,W4,U,al,G,EN];refine Y _ _ (Di.DJ (x:=X.length) (N:=0) (l:=[(14,20+X.length+3+2+4+11)]) (by omega) (PG _ _ _ _ _ _ _ _) ?_ (λe=>absurd e (Nat.lt_irrefl _)) ?_ ?_ ?_ ?_ ?_)
   ·simp[IG];try omega
   ·simp[O4,V5]
   ·simp +contextual [O4,V5,JN,Lr,Ff,af,DE,ai,BL,Ab,Cy,n20,A2,D4]
   ·simp;intro y O T S
    repeat rw[iN (by omega)]
    rw[J6 _ O,iN (by simpa using S)]
   ·omega
   exact λy _=>Kj t y
  simp[C,H,M,D,E,ay,ad,ae,ak,ag,hx,Fp,B,v,W4,U,al,P8 g,U0 g,g,G,EN];refine Y _ _ (Di.DJ (x:=X.length) (N:=0) (l:=[(14,20+X.length+3+2+4+11)]) (by omega) (PG _ _ _ _ _ _ _ _) ?_ (λe=>absurd e (Nat.lt_irrefl _)) ?_ ?_ ?_ ?_ ?_)
  ·simp[IG];try omega
  ·simp[O4,V5]
  ·simp +contextual [O4,V5,JN,Lr,Ff,af,DE,ai,BL,Ab,Cy,n20,A2,D4]
  ·simp;intro y O T S
   repeat rw[iN (by omega)]
   rw[J6 _ O,iN (by simpa using S)]
  ·omega
  exact λy _=>Kj t y
 have D:¬((AK m L t:Nat):Int)<2*m:=by omega
 obtain⟨a,ah⟩:∃a,a=AK m L t:=⟨_,rfl⟩;obtain⟨x,hx⟩:∃x,x=DG m a:=⟨_,rfl⟩;obtain⟨q,hq⟩:∃q,q=HU m a:=⟨_,rfl⟩;have z:x<X.length:=by rw[hx,ah];unfold DG;omega
 have cc:q<4:=by rw[hq];exact Nat.mod_lt _ (by omega)
 have b6:a=2*m+4*x+q:=by rw[hx,hq];unfold DG HU;omega
 have bm:∀y,Q0 m L (t+1) y=if y=x then Q0 m L t x++[(t,q)]else Q0 m L t y:=λy=>by
  show(if _ then _ else _)=_;rw[<-ah,<-hx,<-hq];by_cases O:y=x
  ·subst O;rw[iP ⟨by rw[ah];exact hp,rfl⟩,iP rfl]
  grind
 have a9:OE m (AN 0 gs) L t=⟨2,0,0,((V0 ((x:Nat):Int) (DF m L (t+1)):Nat):Int),0,false⟩:=by
  unfold OE;rw[iN hp,hx,ah];rfl
 rw[a9]at A;have aw:=W7 ((a:Int)-2*m) ((4*x+q:Nat):Int);have E:((4*x+q:Nat):Int).tdiv 4=(x:Nat):=by
  show(((4*x+q) / 4:Nat):Int)=_
  congr 1;omega
 have av:((4*x+q:Nat):Int).tmod 4=(q:Nat):=by
  show(((4*x+q)%4:Nat):Int)=_
  congr 1;omega
 have a1:IntKind.i64.wrap (x:Int)=x:=L6 (by omega) (by omega);have az:=W7 ((q:Int)+2) ((q+2:Nat):Int);have aj:((q+2:Nat):Int).tmod 4=(((q+2)%4:Nat):Int):=rfl;have cb:=Nat.mod_lt (q+2) (show 0<4 by omega);have bx:Ec m a=2*m+4*x+(q+2)%4:=by rw[b6];exact Wf cc
 obtain⟨q2,bs⟩:∃q2,(q+2)%4=q2:=⟨_,rfl⟩;rw[bs]at aj cb bx;have a0:=Y0 ((q2:Int)-q);obtain⟨b,a4⟩:∃b,Ec m a=b:=⟨_,rfl⟩;rw[a4]at bx;have ax:=W7 ((a:Int)+((q2:Int)-q)) (b:Nat);have Fp:b<2*m+4*X.length:=by omega
 rw[<-ah,a4]at B;obtain⟨bz,v⟩:=Y3 B;have j:((C2 m (AN 0 gs) L t).map Ab).length=t:=by unfold C2;simp
 have Cy:∀q,Z3 q ((C2 m (AN 0 gs) L t).map Ab)=(C2 m (AN 0 gs) L t).map Ab:=λq=>Y2 q _ (Y6 _);generalize (C2 m (AN 0 gs) L t).map Ab=RL at *;rw[<-ah]at D ⊢;generalize cm:4*x+q=dd at *;generalize cn:q+2=dq at *;obtain⟨al,U,V⟩:RL.length<=1048575/\¬RL.length+1<=RL.length/\¬t+1<=t:=by omega
 have RE:List.take t RL=RL:=tL (by omega);have au:t<=1048575:=by omega
 have aa:=VJ (x:Int) 0 (DF m L t);have ao:=jZ 0 (DF m L t);have cr:(DF m L t).length<=t:=Zyf t;have bn:=W7 (((DF m L t).length:Int)+1) ((DF m L t).length+1:Nat);have bg:DF m L (t+1)=if V0 (x:Int) (DF m L t)=0 then DF m L t++[(x:Int)]else DF m L t:=by
  have e2:Eu m L (t+1)=if AK m L t<2*m\/DG m (AK m L t)∈Eu m L t then Eu m L t else Eu m L t++[DG m (AK m L t)]:=rfl
  by_cases hm:x∈Eu m L t
  ·rw[iN (λe=>(IE.1 e) hm)];unfold DF;rw[e2,iP (.inr (by grind))]
  rw[iP (IE.2 hm)];unfold DF;rw[e2,iN (λe=>e.elim hp (by grind)),map_append,<-ah,<-hx];rfl
 have bw:V0 (x:Int) (DF m L t)=0↔Q0 m L t x=[]:=by rw[IE,qv]
 have cs:(Q0 m L t x).length<=1000:=by have:=su (m:=m) (L:=L) (x:=x) t;omega
 simp only[bm]at Q;obtain⟨F,hF⟩:∃F:Nat->List (List Aa),F=λy=>(Q0 m L t y).map DN:=⟨_,rfl⟩;have bd:(λy=>(if y=x then Q0 m L t x++[(t,q)]else Q0 m L t y).map DN)=Gb F x (F x++[DN (t,q)]):=by
  funext y
  unfold Gb;by_cases O:y=x
  ·subst O;rw[iP rfl,iP rfl,hF,map_append];rfl
  rw[iN O,iN O,hF]
 rw[bd]at Q;have Jm:∀y,W3 (F y)=true:=λy=>by rw[hF];exact aC _
 have bv:(F x).length<=1048575:=by rw[hF,lM];omega
 have bi:V0 (x:Int) (DF m L t)=0↔F x=[]:=by rw[bw,hF];simp
 rw[<-hF];clear hF bw;have Z:(H2 20 X.length F)[x]?=some [Bt (20+x) (F x)]:=Zyb z;obtain⟨_,I⟩:=Y3 Z;have am:(H2 20 X.length F).length=X.length:=nB;have an:∀bc,Z7 (G7 2 20 F X.length bc) (20+x)=if F x=[]then Z7 bc (20+x)else some (.cells 2 (F x)):=λbc=>J6 _ z
 have g:¬RL=[]:=λe=>by
  rw[e]at j;have:t=0:=j.symm;subst this;exact hp (by show 0<2*m;omega)
 by_cases u:V0 (x:Int) (DF m L t)=0
 ·have be:DF m L (t+1)=DF m L t++[(x:Int)]:=by rw[bg,iP u]
  have n:F x=[]:=bi.1 u;have a5:∀y,y<X.length->W3 (Gb F x [DN (t,q)] y)=true:=λy _=>by
   unfold Gb;split
   ·rfl
   exact Jm y
  have ab:=VJ (x:Int) 0 (DF m L t++[(x:Int)]);have bf:=iJ (x:Int) 0 (DF m L t);rw[Wi u,iN (by omega)]at ab;rw[be,Wi u]at A;rw[be]at Q;rw[n]at Z I Q bd;simp at bf ab;by_cases G:AK m L (t+1)=0
  ·by_cases w:left=0
   ·obtain⟨bb,hw⟩:=a3 w G;have o:=o hw;unfold eS mS at o;rw[bb]at o;simp only[bm]at o;rw[bd,A]at o;simp[C,H,M,D,aw,E,av,a1,aa,u,ao,Z,I,am,z,j,W4,P8 g,U0 g,g,V,RE,au,az,aj,a0,ax,Fp,B,v,an,n20,A2,OF z, Jn,Jo, Jp,   D4,bn,bf,ab,RU,n,G,w];refine o _ _ (Di.DJ (x:=x) (N:=20+X.length+3+2+4+12+4+6+12) (l:=[(14,20+X.length+3+2+4+12+4+6+15+7)]) (by omega) (Tq _ _ _ _ _ _) ?_ (λ_=>⟨by omega,by simp⟩) ?_ ?_ ?_ ?_ ?_)
    ·simp[IG];try omega
    ·simp[O4,V5]
    ·simp +contextual [O4,V5,ZX z,Lr,Ff,af,DE,ai,BL,Ab,Cy,n20,A2,D4,j]
    ·simp;intro y O T S
     repeat rw[iN (by omega)]
     rw[VF T]at S ⊢
     first|rw[J6 _ O,iN S]|(simp only[D4];repeat rw[iN (by omega)];rw[J6 _ O,iN S];try rw[iN (by omega)])
    ·intro _;simp[WU,n,DN,n20,A2, Jn,Jo, Jp]
    exact a5
   simp[C,H,M,D,aw,E,av,a1,aa,u,ao,Z,I,am,z,j,W4,P8 g,U0 g,g,V,RE,au,az,aj,a0,ax,Fp,B,v,an,n20,A2,OF z, Jn,Jo, Jp,   D4,bn,bf,ab,RU,n,G,w];exact Z6 (hK _ _ (Zs (aq w G))) [] (by simp)
  have EN:¬((AK m L (t+1):Nat):Int)<0:=by omega
  have Y:=λe mm hW=>Q e mm (by omega) ⟨by omega,λs h1 h2=>by
   rcases lG s (t+1)with c|c
   ·exact ac s h1 (by omega)
   have:s=t+1:=by omega
   rw[this];exact G⟩ hW
  rw[A]at Y;simp[C,H,M,D,aw,E,av,a1,aa,u,ao,Z,I,am,z,j,W4,P8 g,U0 g,g,V,RE,au,az,aj,a0,ax,Fp,B,v,an,n20,A2,OF z, Jn,Jo, Jp,   D4,bn,bf,ab,RU,n,G,EN];refine Y _ _ (Di.DJ (x:=x) (N:=20+X.length+3+2+4+12+4+6+12) (l:=[(14,20+X.length+3+2+4+12+4+6+15+7)]) (by omega) (PG _ _ _ _ _ _ _ _) ?_ (λ_=>⟨by omega,by simp⟩) ?_ ?_ ?_ ?_ ?_)
  ·simp[IG];try omega
  ·simp[O4,V5]
  ·simp +contextual [O4,V5,ZX z,Lr,Ff,af,DE,ai,BL,Ab,Cy,n20,A2,D4,j]
  ·simp;intro y O T S
   repeat rw[iN (by omega)]
   rw[VF T]at S ⊢
   first|rw[J6 _ O,iN S]|(simp only[D4];repeat rw[iN (by omega)];rw[J6 _ O,iN S];try rw[iN (by omega)])
  ·intro _;simp[WU,n,DN,n20,A2, Jn,Jo, Jp]
  exact a5
 have be:DF m L (t+1)=DF m L t:=by rw[bg,iN u]
 have n:¬F x=[]:=λe=>u (bi.2 e);have a5:∀y,y<X.length->W3 (Gb F x (F x++[DN (t,q)]) y)=true:=λy _=>by
  unfold Gb;split
  ·rw[ua,Jm x,Bool.true_and];rfl
  exact Jm y
 rw[be]at Q A;obtain⟨ix,b7⟩:∃ix,ix=V0 (x:Int) (DF m L t):=⟨_,rfl⟩;obtain⟨a6,a7⟩:¬ix=0/\¬((ix:Nat):Int)=0:=by omega
 rw[iN u,Nat.zero_add,Nat.zero_add]at aa;rw[<-b7]at aa A;have ba:¬(F x).length+1<=(F x).length:=by omega
 have bj:(F x).length<=1048575:=bv;by_cases G:AK m L (t+1)=0
 ·by_cases w:left=0
  ·obtain⟨bb,hw⟩:=a3 w G;have o:=o hw;unfold eS mS at o;rw[bb]at o;simp only[bm]at o;rw[bd,A]at o;simp[C,H,M,D,aw,E,av,a1,aa,u,ao,Z,I,am,z,j,W4,P8 g,U0 g,g,V,RE,au,az,aj,a0,ax,Fp,B,v,an,n20,A2,OF z, Jn,Jo, Jp,   D4,P8 n,n,ba,bj,a6,a7,G,w];refine o _ _ (Di.DJ (x:=x) (N:=20+X.length+3+2+4+12+4+12) (l:=[(14,20+X.length+3+2+4+12+4+15+7)]) (by omega) (Tq _ _ _ _ _ _) ?_ (λ_=>⟨by omega,by simp⟩) ?_ ?_ ?_ ?_ ?_)
   ·simp[IG];try omega
   ·simp[O4,V5]
   ·simp +contextual [O4,V5,ZX z,Lr,Ff,af,DE,ai,BL,Ab,Cy,n20,A2,D4,j]
   ·simp;intro y O T S
    repeat rw[iN (by omega)]
    rw[VF T]at S ⊢
    first|rw[J6 _ O,iN S]|(simp only[D4];repeat rw[iN (by omega)];rw[J6 _ O,iN S];try rw[iN (by omega)])
   ·intro _;simp[WU,n,DN,n20,A2, Jn,Jo, Jp]
   exact a5
  simp[C,H,M,D,aw,E,av,a1,aa,u,ao,Z,I,am,z,j,W4,P8 g,U0 g,g,V,RE,au,az,aj,a0,ax,Fp,B,v,an,n20,A2,OF z, Jn,Jo, Jp,   D4,P8 n,n,ba,bj,a6,a7,G,w];exact Z6 (hK _ _ (Zs (aq w G))) [] (by simp)
 have EN:¬((AK m L (t+1):Nat):Int)<0:=by omega
 have Y:=λe mm hW=>Q e mm (by omega) ⟨by omega,λs h1 h2=>by
  rcases lG s (t+1)with c|c
  ·exact ac s h1 (by omega)
  have:s=t+1:=by omega
  rw[this];exact G⟩ hW
 rw[A]at Y;simp[C,H,M,D,aw,E,av,a1,aa,u,ao,Z,I,am,z,j,W4,P8 g,U0 g,g,V,RE,au,az,aj,a0,ax,Fp,B,v,an,n20,A2,OF z, Jn,Jo, Jp,   D4,P8 n,n,ba,bj,a6,a7,G,EN];refine Y _ _ (Di.DJ (x:=x) (N:=20+X.length+3+2+4+12+4+12) (l:=[(14,20+X.length+3+2+4+12+4+15+7)]) (by omega) (PG _ _ _ _ _ _ _ _) ?_ (λ_=>⟨by omega,by simp⟩) ?_ ?_ ?_ ?_ ?_)
 ·simp[IG];try omega
 ·simp[O4,V5]
 ·simp +contextual [O4,V5,ZX z,Lr,Ff,af,DE,ai,BL,Ab,Cy,n20,A2,D4,j]
 ·simp;intro y O T S
  repeat rw[iN (by omega)]
  rw[VF T]at S ⊢
  first|rw[J6 _ O,iN S]|(simp only[D4];repeat rw[iN (by omega)];rw[J6 _ O,iN S];try rw[iN (by omega)])
 ·intro _;simp[WU,n,DN,n20,A2, Jn,Jo, Jp]
 exact a5
end
def Hw:List Int→Int
 | []=>0
 | x :: r=>r.foldl (fun a b=>if b<a then b else a) x
theorem zU:∀(l:List Int) (x:Int),(l.foldl (λa b=>if b<a then b else a) x<0)↔(x<0 \/ ∃y,y∈l/\y<0)
 |[],x=>by simp
 |y::r,x=>by
  rw[List.foldl_cons,zU r];simp only[mC,exists_eq_or_imp];split<;>constructor<;>intro h
  ·rcases h with h|h
   ·exact .inr (.inl h)
   exact .inr (.inr h)
  ·rcases h with h|h|h
   ·exact .inl (by omega)
   ·exact .inl h
   exact .inr h
  ·rcases h with h|h
   ·exact .inl h
   exact .inr (.inr h)
  rcases h with h|h|h
  ·exact .inl h
  ·exact .inl (by omega)
  exact .inr h
theorem Zz3{l:List Int}(h:l≠[]):Hw l<0 ↔ ∃y,y∈l/\y<0:=by
 cases l with
 |nil=>exact absurd rfl h
 |cons x r=>
  rw[Hw,zU];simp[mC]
theorem sF(x:Int)(l:List Int)(D:l.length<=100000):Au Tryz.prog 26 [.Al (Y9 (x::l))] (.int .i64 (Hw (x::l))):=by
 refine JH hm Tryz.func26 Zb rfl rfl (by simp only[Y7,Aa.closed,NG,Bool.and_true]) trivial λK v=>?_;have j:=Uu (x::l);have s:∀q,Z3 q (Y9 (x::l))=Y9 (x::l):=λq=>Y2 q _ (NG _);have e:=λi (h:i<(x::l).length)=>ZZ h;have t:=e 0 (by simp);obtain⟨_,k⟩:=Y3 t;rw[lC]at j;generalize Y9 (x::l)=R at *;obtain⟨o,A⟩:¬((l.length:Int)+1<1)/\¬((R.length:Int)<1):=by omega
 simp[j,o,t,k];refine M4 (α:=Nat) (λi=>[(0,.Al R),(3,.int .i64 ((l.take i).foldl (λa b=>if b<a then b else a) x)),(4,.int .i64 ((i:Int)+1))]) (λ_=>⟨[],1⟩) (λi=>l.length-i) (λi=>i<=l.length) 0 [] (by simp[s]) (by omega) ?_;intro i hi N w;by_cases g:i=l.length
 ·subst g;rw[List.take_length];simp[j];exact Z6 v [] (by simp[Hw])
 have c:i<l.length:=by omega
 have u:=e (i+1) (by simp;omega);obtain⟨_,m⟩:=Y3 u;have B:=W7 ((i:Int)+1+1) (((i+1:Nat):Int)+1);have n:(i:Int)+1<(l.length:Int)+1:=by omega
 have p:(l.take (i+1)).foldl (λa b=>if b<a then b else a) x=if (x::l).getD (i+1) 0<(l.take i).foldl (λa b=>if b<a then b else a) x then (x::l).getD (i+1) 0 else (l.take i).foldl (λa b=>if b<a then b else a) x:=by
  rw[List.take_add_one,gE c,Option.toList_some,List.foldl_append];have:(x::l).getD (i+1) 0=l[i]:=by rw[getD,List.getElem?_cons_succ,gE c];rfl
  rw[this];rfl
 have d:=w (i+1);rw[p]at d;obtain⟨C,r⟩:(0:Int)<=(i:Int)+1/\((i:Int)+1).toNat=i+1:=by omega
 generalize (x::l).getD (i+1) 0=y at *;generalize (l.take i).foldl (λa b=>if b<a then b else a) x=z at *;simp[j,n,u,m,B,C,r,c,Nk];exact d [] _ _ (by omega) (by omega) (by simp[s])
theorem yY{f:Int}{b:List Lt}(a:AH f b)(b0:b≠[]):R8 b≠[]:=(Yh3 a b0).2.1
theorem Z82{F:Nat}{a b:List Lt}(j:V3 F a=0)(g:V3 F b=0)(h:R8 a=R8 b):Mi F F a b=true:=by
 unfold Mi;rw[decide_eq_true rfl,Bool.true_and];by_cases f:a=[]
 ·subst f;by_cases b0:b=[]
  ·subst b0;simp
  exact absurd (h.symm.trans rfl) (yY (Ll g b0) b0)
 have c:=Ll j f;by_cases b0:b=[]
 ·subst b0;exact absurd (h.trans rfl) (yY c f)
 have d:=Ll g b0;have fa:As (at' a 0)=true:=by simp[As,c.fst]
 have i:As (at' b 0)=true:=by simp[As,d.fst]
 simp only[bA,decide_eq_true_eq];obtain⟨e,k⟩:=Yjh (d.To b0) (c.To f) i fa h.symm;obtain⟨_,_,p1,l,m⟩:=aU d b0 k c.fst c.nm;exact⟨Yhf m,p1,l⟩
section
set_option maxRecDepth 100000
set_option maxHeartbeats 400000
def Kc:AD:=by
 have h:=rQ Tryz.f4
 conv at h=>rhs; reduce
 dsimp at h
 exact oR h
theorem Ylp:Bk Tryz.prog Tryz.f4=some Kc:=by kernel_rfl
end
theorem qf{f:Int}{ls:List Lt}(c:V3 f ls=0):ls.length<=400/\(Bi ls).length<=400:=by
 by_cases a:ls=[]
 ·subst a;rw[iU];simp
 have b:=Ll c a;exact⟨b.len,(b.IL a).1.len⟩
end Go.Ad
