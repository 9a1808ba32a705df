/- Part 39 -/
import Derived.Test.YtilmpmlkndfbjaaGreatDoorT38
set_option linter.all false
set_option maxRecDepth 100000
set_option maxHeartbeats 16000000
open Go.Proofs.Tryz (prog)
namespace Go.Ad
open Go Go.AE Go.Proofs Go.Plain
section
attribute [local simp] pR qB iL oP kV nW Ub Ua kS jF
theorem Yap{P:Program}{y:Yd}{f:FuncId}{args:List Aa}{m:Ac}{K K':Aa->Ac->Prop}(h:Jv P y f args m K)(n:∀r i,K r i->K' r i):Jv P y f args m K':=λl r a b c d e=>
 (h l r a b c d e).mono λv o k=>by obtain⟨g,e,j⟩:=k;exact⟨g,e,n v g j⟩
theorem Z8q(f:Int)(ls:List Lt)(k:AH f ls)(c:ls≠[]) :
 Bo prog 35 [cV f ls] ⟨[],1⟩ λr m=>r=Bt 1 ((X3 4 ls).map Bh)/\m=⟨Bp 1 4 ((X3 4 ls).map Bh) [],2⟩:=by
 refine Zx0 hm Tryz.func35 Tl rfl rfl λK l=>?_;have i:=Z8j f ls k c;have d:(ls.map Ab).length=ls.length:=lM ..;have j:∀q,Z3 q (ls.map Ab)=ls.map Ab:=λq=>Y2 q _ (Y6 ls);have b:=Z5;unfold Js cV at *;have a:=λe n=>Yev e n f ls k c;unfold Js at a;generalize ls.map Ab=rows at *;have g:∀q,Z3 q ((X3 4 ls).map Bh)=(X3 4 ls).map Bh:=λq=>Y2 q _ (KB _);simp[d,c];refine S3 i [] (by simp[j]) (by simp) (by simp) ?_;rintro _ _ ⟨rfl,rfl⟩;simp[j,b];refine S3 (Ybx 1 rfl) [(1,11)] (by simp) (by simp) (by simp) ?_;rintro _ _ ⟨rfl,rfl⟩;simp;refine⟨_,_,rfl,Yap (a _ rfl) λr p h=>?_⟩;subst h;generalize (X3 4 ls).map Bh=o at *;simp;exact Z6 (l _ _ ⟨rfl,rfl⟩) [(1,19)] (by simp +contextual [g])
end
attribute [local simp] pR qB iL oP kV nW Ub Ua kS jF
theorem kX{get:Nat->Option Af}{n:Nat}(l:List Rw):∀row,row∈l.map Bh -> ∀x,x∈row->X8 get (n+1) x=some x:=by
 intro row b x a;obtain⟨i,_,rfl⟩:=mM.1 b;simp only[Bh,mC,List.not_mem_nil,or_false]at a;rcases a with rfl|rfl|rfl|rfl<;>rfl
theorem Yfg(f:Int):Au prog 35 [cV f []] .Aj:=by
 refine WG (k:=4) (by simp[Y7,Aa.closed,W3]) rfl (Bo.mono (K:=λr m=>r=.Aj/\m=⟨[],1⟩) ?_ λr b h=>by
  obtain⟨rfl,rfl⟩:=h;rfl)
 refine Zx0 hm Tryz.func35 Tl rfl rfl λK a=>?_;simp;exact Z6 (a _ _ ⟨rfl,rfl⟩) [] (by simp)
theorem Zzw(f:Int)(ls:List Lt)(c:V3 f ls=0):Au prog 35 [cV f ls] (Bg ((X3 4 ls).map Bh)):=by
 by_cases a:ls=[]
 ·subst a;exact Yfg f
 have d:=Ll c a;refine WG (k:=4) (by simp[Y7,Aa.closed,Y6]) (JU (KB _)) (Bo.mono (Z8q f ls d a) λr e h=>?_);obtain⟨rfl,rfl⟩:=h;exact y7 (n:=2) (b:=1) (k:=4) (by simp) (kX _)
def CW(F:Nat)(ls:List Lt)(i:Nat):List Nat:=(List.range (F+1)).map fun g:Nat=>Bl g (ls.take i)
theorem KC(F:Nat)(ls:List Lt)(i:Nat):(CW F ls i).length=F+1:=by simp[CW]
theorem VR{F g:Nat}(ls:List Lt)(i:Nat)(h:g<=F):(CW F ls i)[g]?=some (Bl g (ls.take i)):=by
 unfold CW;rw[gM,List.getElem?_range (by omega)];rfl
theorem Z96{F:Nat}{ls:List Lt}{i:Nat}(h:i<ls.length){g:Nat}(c:(at' ls i).g=g)(f:g<=F)(d:As (at' ls i)=true):CW F ls (i+1)=(CW F ls i).set g (Bl g (ls.take i)+1):=by
 apply List.ext_getElem?;intro j;by_cases b:j<=F
 ·rw[VR _ _ b,List.getElem?_set];have a:Bl j (ls.take (i+1))=Bl j (ls.take i)+if (As (at' ls i)&&(at' ls i).g == (j:Int))=true then 1 else 0:=JL h
  rw[a,d,c];by_cases e:g=j
  ·subst e;simp only[Bool.true_and,beq_self_eq_true,if_true];rw[iP (by rw[KC];omega)]
  rw[iN e,VR _ _ b];have:¬((g:Int)=(j:Int)):=by omega
  simp[this]
 rw[List.getElem?_eq_none (by rw[KC];omega),List.getElem?_eq_none (by rw[List.length_set,KC];omega)]
theorem Yfu{F:Nat}{ls:List Lt}{i:Nat}(h:i<ls.length)(a:As (at' ls i)=false):CW F ls (i+1)=CW F ls i:=by
 unfold CW Bl;apply List.map_congr_left;intro g _;rw[JL h,a];simp
abbrev ZD(F:Nat)(G:List Nat)(A B:List (List Aa)):Aa:=.agg [.int .i64 (F:Int),.Al (Z1 G),Bg A,Bg B]
def HC(F:Nat)(ls:List Lt):Aa:=ZD F (CW F ls ls.length) ((X3 4 ls).map Bh) ((X3 4 (Bi ls)).map Bh)
theorem Z6c(F:Nat)(ls:List Lt):(HC F ls).closed=true:=by simp[HC,ZD,Aa.closed,Y7,B3,JU,KB]
theorem Yl6{get:Nat->Option Af}{b:Nat}(F:Nat)(G:List Nat)(A B:List Rw)(g:G≠[])(f:get b=some (.cells 1 (Z1 G)))(e:Int) :
 X8 get 6 (.tuple [.agg [.int .i64 (F:Int),.sl b 0 G.length,Bg (A.map Bh),Bg (B.map Bh)],.int .i64 e])=some (.tuple [ZD F G (A.map Bh) (B.map Bh),.int .i64 e]):=by
 have a:X8 get 4 (.sl b 0 G.length)=some (.Al (Z1 G)):=by
  have:=Ur (n:=3) f (XF (get:=get) (n:=2) G);rwa[M6]at this
 have c:=zj (get:=get) (n:=2) (kX (get:=get) (n:=2) A);have d:=zj (get:=get) (n:=2) (kX (get:=get) (n:=2) B);rw[X8];simp only[U4];rw[X8];simp only[U4];rw[a,c,d];rfl
theorem iU:Bi []=[]:=rfl
theorem Z5m(F:Nat)(ls:List Lt)(s:V3 F ls=0):Au prog 13 [cV F ls] (.tuple [HC F ls,.int .i64 0]):=by
 have hT:Au prog 34 [cV F ls] (.tuple [cV F (Bi ls),.int .i64 0]):=by
  by_cases m:ls=[]
  ·subst m;exact rP F s
  exact rR F ls (Ll s m) m
 have S:V3 F (Bi ls)=0:=by
  by_cases m:ls=[]
  ·subst m;exact s
  exact((Ll s m).IL m).1.to
 have hA:=Zzw F ls s;have hB:=Zzw F (Bi ls) S;have ac:(F:Int)<=40:=(bU s).2;have hl:ls.length<=400:=by
  by_cases m:ls=[]
  ·subst m;simp
  exact(Ll s m).len
 have v:∀i,i<ls.length->(at' ls i).k=1->0<=(at' ls i).g/\(at' ls i).g<=F:=λi hi u=>by
  have m:ls≠[]:=λe=>by subst e;simp at hi
  have hv:=Ll s m;obtain⟨_,_,_,c,d,_⟩:=(JY u).1 (hv.Ea _ (P4 hi));exact⟨c,d⟩
 refine Jd hm 6 Tryz.func13 cf6 rfl rfl (by simp[Y7,Aa.closed,Y6]) (by simp[Aa.closed,Y7,Z6c]) λK hK=>?_;have E:CW F ls ls.length≠[]:=λe=>by have:=KC F ls ls.length;rw[e]at this;simp at this
 have y:=hK (.tuple [.agg [.int .i64 (F:Int),.sl 1 0 (CW F ls ls.length).length,Bg ((X3 4 ls).map Bh),Bg ((X3 4 (Bi ls)).map Bh)],.int .i64 0]) ⟨[(1,.cells 1 (Z1 (CW F ls ls.length)))],2⟩ (Yl6 (b:=1) F _ _ _ E rfl 0);clear hK;have U:(ls.map Ab).length=ls.length:=lM ..;have P:∀q,Z3 q (ls.map Ab)=ls.map Ab:=λq=>Y2 q _ (Y6 ls);have t:=λi hi=>A8 ls (i:=i) hi;have z:=Jb ((X3 4 ls).map Bh);have G:=Jh ((X3 4 ls).map Bh);have A:=Jb ((X3 4 (Bi ls)).map Bh);have H:=Jh ((X3 4 (Bi ls)).map Bh);have o:∀q,(Bg ((X3 4 ls).map Bh)).AM q=Bg ((X3 4 ls).map Bh):=λq=>Aa.Be q _ (JU (KB _));have p:∀q,(Bg ((X3 4 (Bi ls)).map Bh)).AM q=Bg ((X3 4 (Bi ls)).map Bh):=λq=>Aa.Be q _ (JU (KB _));have Z:=W7 ((F:Int)+1) ((F+1:Nat):Int);unfold cV at *;generalize ls.map Ab=rows at *;generalize (Bi ls).map Ab=ab at *;generalize Bg ((X3 4 ls).map Bh)=IA at *;generalize Bg ((X3 4 (Bi ls)).map Bh)=IB at *;unfold Ab at t;have hb:F+1<=1048576:=by omega
 simp;refine T0 hT ?_;simp[Z,hb,-Int.natCast_add];refine JQ hA ?_;simp;refine JQ hB ?_;simp[z,G,A,H];have a:=Z5;have B:Z1 (CW F ls 0)=List.replicate (F+1) [.int .i64 0]:=by
  apply List.ext_getElem?;intro j;by_cases hj:j<=F
  ·rw[Ip (VR ls 0 hj),List.getElem?_replicate,iP (by omega)];rfl
  rw[List.getElem?_eq_none (by rw[M6,KC];omega),List.getElem?_eq_none (by rw[List.length_replicate];omega)]
 have J:∀q,Z3 q (List.replicate (F+1) [Aa.int .i64 0])=List.replicate (F+1) [Aa.int .i64 0]:=λq=>by rw[<-B,a]
 rw[U];refine M4 (α:=Nat) (λi=>[(32,.int .i64 i),(31,.int .i64 ls.length),(30,.Al rows),(6,.ptr 3 0 0),(2,.ptr 2 0 0)])
  (λi=>⟨[(2,.cells 4 [[.int .i64 0,.Aj,.Aj,.Aj]]),(3,.cells 4 [[.int .i64 (F:Int),.sl 4 0 (F+1),IA,IB]]),(4,.cells 1 (Z1 (CW F ls i)))],5⟩)
  (λi=>ls.length-i) (λi=>i<=ls.length) 0 [(2,2),(3,25),(4,19)] (by simp[P,o,p,B,J]) (by simp) ?_
 intro i hi N hN
 try simp only at hi hN ⊢
 have M:=Y0 ((i:Int)+1);have V:(Z1 (CW F ls i)).length=F+1:=by rw[M6,KC]
 by_cases h:i<ls.length
 ·have O:=t i h;obtain⟨_,w⟩:=Y3 O;have n:=hN (i+1);rw[Int.natCast_add,Int.natCast_one]at n;by_cases u:(at' ls i).k=1
  ·have X:As (at' ls i)=true:=by simp[As,u]
   obtain⟨c,d⟩:=v i h u;obtain⟨g,hg⟩:∃g:Nat,(at' ls i).g=g:=⟨(at' ls i).g.toNat,by omega⟩;have Y:=Z96 (F:=F) h hg (by omega) X;have C:=Ip (VR (F:=F) (g:=g) ls i (by omega));obtain⟨DT,D⟩:=Y3 C;have ad:Bl g (ls.take i)<=400:=Nat.le_trans Ib (by rw[lK];omega);have L:=Zip (CW F ls i) g (Bl g (ls.take i)+1);rw[Y]at n;have r:=λq=>a q (CW F ls i);have I:=λq=>a q ((CW F ls i).set g (Bl g (ls.take i)+1));have OA:g<F+1:=by omega
   rw[hg]at O w;generalize (CW F ls i).set g (Bl g (ls.take i)+1)=G2 at *;generalize Bl g (ls.take i)=Q at *;generalize CW F ls i=G1 at *;generalize at' ls i=l at *;have aa:=W7 ((Q:Int)+1) ((Q+1:Nat):Int);generalize Q+1=c2 at *;simp[h,O,w,u,C,D,V,OA,M,aa,L];refine n [(2,2),(3,3),(4,4)] _ _ (by omega) (by omega) ?_;simp +contextual [P,o,p,I]
  have X:As (at' ls i)=false:=by simp[As,u]
  rw[Yfu h X]at n;have r:=λq=>a q (CW F ls i);generalize at' ls i=l at *;simp[h,O,w,u,M];refine n [(2,2),(3,3),(4,4)] _ _ (by omega) (by omega) ?_;simp +contextual [P,o,p,r]
 have T:i=ls.length:=by omega
 subst T;have r:=λq=>a q (CW F ls ls.length);rw[KC]at y;simp[z,G,A,H];exact Z6 y [(1,4)] (by simp[o,p,r])
end Go.Ad
