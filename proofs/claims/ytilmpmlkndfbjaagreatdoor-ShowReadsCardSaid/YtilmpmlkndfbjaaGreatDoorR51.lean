/- Part 51 of the proof: Ev. -/
import Derived.Test.YtilmpmlkndfbjaaGreatDoorR50
set_option linter.all false
namespace Go.Known
open Go Go.AE Go.Proofs
open Go.Plain
attribute [local simp] Zd6 Ze1 Zeb Zee Zep Ze7 Zex Zen Zef Zd8 Ze4 isV isVo Zeo Zez Zeu Zd9
theorem Z24{X:List Nd}{j:Nat}(h:j<X.length):(orR X)[j]? = some [.bool (X.getD j (false,false)).1]∧(lwR X)[j]? = some [.bool (X.getD j (false,false)).2]:=by
 unfold orR lwR;rw[List.getElem?_map,List.getElem?_map,gE h,List.getD,gE h];exact⟨rfl,rfl⟩
theorem Z5v(X:List Nd):(orR X).length=X.length∧(lwR X).length=X.length:=by simp[orR,lwR]
theorem Zq7{gs:List Nat}{g s c m:Nat}(h:(gs.take (g+1)).sum=s+c)(hm:gs.sum=m):c≤m:=by
 have:gs.sum=(gs.take (g+1)).sum+(gs.drop (g+1)).sum:=by rw[← List.sum_append,List.take_append_drop]
 omega
set_option maxRecDepth 100000 in
set_option maxHeartbeats 16000000 in
theorem Z2v(m:Nat)(gs:List Nat)(G:List Int)(hG:∀ i,i<gs.length→(Z2 G)[i]? = some [.int .i64 (gs.getD i 0:Nat)])(di:gs.length=G.length)(af:gs.sum=m)(dh:gs.length≤1000)(X:List Nd)(L:List (Nat×Nat))(h:Rdg m X L)(hb:2*m+4*X.length≤1000) :
 Ctr Tryz.prog 31 [.agg [.int .i64 m,.sl 1 0 (2*m+4*X.length),slV 2 (orR X),slV 3 (lwR X)],.imm (Z2 G),.int .i64 X.length] ⟨(1,.cells 1 (Z2 (jnZ (2*m+4*X.length) L))) :: blV 2 1 (orR X) (blV 3 1 (lwR X) []),4⟩ fun r mm=>
  r=.sl 4 0 (bkT m X L)∧mm=⟨[(4,.cells 6 ((frR m (plE 0 gs) X L (bkT m X L) (bkT m X L)).map rowL))],5⟩:=by
 refine Zg4 hm [] Tryz.func31 Z8v rfl rfl fun K hK=>?_
 obtain⟨ch,bw,bv,cj⟩:=Zoy h;obtain⟨T,hT⟩:∃ T,T=bkT m X L:=⟨_,rfl⟩
 rw[← hT]at hK ch bw bv cj;have bt:∀ q (l:List Int),Z6 q (Z2 l)=Z2 l:=fun q l=>X6 q _ (L5 l)
 have D:∀ q,Z6 q (orR X)=orR X:=fun q=>X6 q _ (Zgd X).1
 have B:∀ q,Z6 q (lwR X)=lwR X:=fun q=>X6 q _ (Zgd X).2
 have bc:∀ q (l:List Nat),Z6 q (Z0 l)=Z0 l:=fun q l=>Z8 q l
 have ca:∀ q (l:List Lt),Z6 q (l.map rowL)=l.map rowL:=fun q l=>X6 q _ (U6 l)
 have bg:∀ (c:Nat) (x:List AVal),slV c [x]=.sl c 0 1:=fun _ _=>rfl
 have ba:∀ (c k:Nat) (x:List AVal) (r:List (Nat×ABlk)),blV c k [x] r=(c,.cells k [x]) :: r:=fun _ _ _ _=>rfl
 have a6:∀ e,e<2*m+4*X.length→(Z2 (jnZ (2*m+4*X.length) L))[e]? = some [.int .i64 ((ptn L e:Nat):Int)]:=fun e he=>
  Z73 h.nd (fun p hp=>⟨(h.en _).2 (mem_flt.2 ⟨p,hp,.inl rfl⟩),(h.en _).2 (mem_flt.2 ⟨p,hp,.inr rfl⟩)⟩) ((h.en e).1 he)
 have H:∀ q,Z6 q (Z2 (jnZ (2*m+4*X.length) L))=Z2 (jnZ (2*m+4*X.length) L):=fun q=>bt q _
 have a7:(Z2 (jnZ (2*m+4*X.length) L)).length=2*m+4*X.length:=by rw[Zap,Zgb]
 have F:∀ q,Z6 q (Z2 G)=Z2 G:=fun q=>bt q _
 have dd:=Zap G;obtain⟨M,N⟩:=Z5v X;have a1:=fun j (hj:j<X.length)=>Z24 (X:=X) hj
 have c2:IntKind.i64.wrap (2*(X.length:Int))=2*X.length:=Z1 (by omega) (by omega)
 have ck:2*X.length≤1048576:=by omega
 have bx:8*(2*X.length)≤1048576:=by omega
 have dk:m≤500:=by omega
 have cm:(0:Int)≤2*(X.length:Int):=by omega
 have cl:(2*(X.length:Int)).toNat=2*X.length:=by omega
 generalize Z2 (jnZ (2*m+4*X.length) L)=J at *;generalize Z2 G=IG at *;simp[c2,ck,bx,cm,cl];refine G1 (α:=Nat) (fun t=>[(1,.imm IG),(3,.ptr 4 0 0),(7,slV 6 ((frR m (plE 0 gs) X L t 0).map rowL)),(8,.sl 5 0 (2*X.length)),(9,.int .i64 (arE m L t)),(10,.bool (decide (t=0)))])
  (fun t=>⟨[(4,.cells 4 [[.int .i64 m,.sl 1 0 (2*m+4*X.length),slV 2 (orR X),slV 3 (lwR X)]]),(1,.cells 1 J),(5,.cells 1 (Z0 (enN m L X.length t)))]++blV 6 6 ((frR m (plE 0 gs) X L t 0).map rowL) (blV 2 1 (orR X) (blV 3 1 (lwR X) [])),7⟩) (fun t=>T - t) (fun t=>t≤T) 0 [(5,9)]
  ?_ (by omega) ?_
 ·have e0:(frR m (plE 0 gs) X L 0 0).map rowL=[]:=rfl;have e1:arE m L 0=0:=rfl;have e2:enN m L X.length 0=List.replicate (2*X.length) 0:=rfl;rw[e0,e1,e2,Zin];have cy:∀ q,Z6 q (List.replicate (2*X.length) [AVal.int .i64 0])=List.replicate (2*X.length) [.int .i64 0]:=fun q=>by rw[Zah]; simp[U7,AVal.ren]
  simp +contextual [H,D,B,F,cy]
 ·intro t ht N' hN;have I:=fun q=>ca q (frR m (plE 0 gs) X L t 0)
  have U:=fun q=>bc q (enN m L X.length t)
  have A:((frR m (plE 0 gs) X L t 0).map rowL).length=t:=by rw[List.length_map,Zlo]
  by_cases bz:T=t
  ·subst bz;have b:¬(frR m (plE 0 gs) X L T 0).map rowL=[]:=fun e=>by rw[e]at A; simp at A; omega
   have a5:=Zj8 m L X.length T;have ag:=fun q=>bc q (enN m L X.length T)
   have ae:=fun i (hi:i<2*X.length)=>Zfu (l:=enN m L X.length T) (i:=i) (by omega)
   have a8:(Z0 (enN m L X.length T)).length=2*X.length:=by rw[N9,a5]
   clear hN;have ci:¬T=0:=by omega
   have bu:=hK _ _ ⟨rfl,rfl⟩;clear hK;obtain⟨E,P⟩:∃ E,E=fun x=>(frR m (plE 0 gs) X L T x).map rowL:=⟨_,rfl⟩
   have bb:∀ x,(E x).length=T:=fun x=>by rw[P]; simp[Zlo]
   have Q:∀ x q,Z6 q (E x)=E x:=fun x q=>by rw[P]; exact ca q _
   have O:∀ x,x<T→(E x)[x]? = some (rowL (frG m (plE 0 gs) X (arE m L x) 0)):=fun x hx=>by
    rw[P];show((frR m (plE 0 gs) X L T x).map rowL)[x]? = _;rw[List.getElem?_map,Z6n hx];rfl
   have aj:∀ x,arE m L x<2*m→E (x+1)=E x:=fun x hp=>by
    rw[P];show(frR m (plE 0 gs) X L T (x+1)).map rowL=_;rw[Ybj hp]
   have ad:∀ x,x<T→E (x+1)=(E x).set x (rowL (frG m (plE 0 gs) X (arE m L x) (frZ m X (enN m L X.length T) (arE m L x)))):=fun x hx=>by
    rw[P];show(frR m (plE 0 gs) X L T (x+1)).map rowL=_;rw[Zz3 hx,List.map_set]
   have b1:(frR m (plE 0 gs) X L T T).map rowL=E T:=by rw[P]
   have b0:(frR m (plE 0 gs) X L T 0).map rowL=E 0:=by rw[P]
   rw[b1]at bu;rw[b0]at b A ⊢;rw[bw];unfold frZ at ad;generalize enN m L X.length T=a4 at *;generalize dc:Z0 a4=EN at *;clear P b1 b0 I U;simp[W4 b,Y7 b,b,ci,A];have c8:∀ x,xoE m (arE m L x)<X.length∨arE m L x<2*m:=fun x=>by
    have:=P9 h x;unfold xoE;omega
   refine G1 (α:=Nat) (fun x=>[(3,.ptr 4 0 0),(7,.sl 6 0 T),(8,.sl 5 0 (2*X.length)),(15,.int .i64 x)])
    (fun x=>⟨[(4,.cells 4 [[.int .i64 m,.sl 1 0 (2*m+4*X.length),slV 2 (orR X),slV 3 (lwR X)]]),(5,.cells 1 EN),(6,.cells 6 (E x))]++blV 2 1 (orR X) (blV 3 1 (lwR X) []),7⟩) (fun x=>T - x) (fun x=>x≤T) 0 []
    (by simp +contextual [D,B,ag,Q]) (by omega) ?_
   intro x hx N2 V;have ac:=bb x;have a2:=Q x;by_cases he:¬x=T
   ·have ar:x<T:=by omega
    have cf:(x:Int)<T:=by omega
    have hg:=O x ar;have u:=V (x+1);have hw:IntKind.i64.wrap ((x:Int)+1)=((x+1:Nat):Int):=by rw[Z1 (by omega) (by omega)]; omega
    by_cases hp:arE m L x<2*m
    ·rw[aj x hp]at u;have ab:frG m (plE 0 gs) X (arE m L x) 0=passL ((plE 0 gs).getD (arE m L x / 2) (0,0)):=by unfold frG; rw[if_pos hp]
     rw[ab]at hg;generalize (plE 0 gs).getD (arE m L x / 2) (0,0)=pp at *;simp only[rowL,passL]at hg;obtain⟨_,aw⟩:=Y5 hg;have a3:x<(E x).length:=by omega
     generalize E x=R at *;clear bb Q O aj ad V;simp[ac,ar,cf,hg,aw,hw];exact u [] _ _ (by omega) (by omega) (by simp +contextual [D,B,ag,a2])
    ·have ak:=(c8 x).resolve_right hp;have ay:=fun q=>Q (x+1) q
     rw[ad x ar]at u ay;have ab:∀ z,frG m (plE 0 gs) X (arE m L x) z=⟨2,0,0,((xoE m (arE m L x)+1:Nat):Int),z,((X.getD (xoE m (arE m L x)) (false,false)).1 == (qoE m (arE m L x) % 2 == 0)) != (X.getD (xoE m (arE m L x)) (false,false)).2⟩:=fun z=>by unfold frG; rw[if_neg hp]
     rw[ab]at hg u ay;obtain⟨al,_⟩:=a1 _ ak;obtain⟨_,be⟩:=Y5 al;generalize (((X.getD (xoE m (arE m L x)) (false,false)).1 == (qoE m (arE m L x) % 2 == 0)) != (X.getD (xoE m (arE m L x)) (false,false)).2)=ov at *;generalize (X.getD (xoE m (arE m L x)) (false,false)).1=o at *;generalize xoE m (arE m L x)=j at *;have b2:=ae (2*j) (by omega)
     have b4:=ae (2*j+1) (by omega)
     generalize a4.getD (2*j) 0=e1 at *;generalize a4.getD (2*j+1) 0=e2 at *;obtain⟨_,b3⟩:=Y5 b2;obtain⟨_,b5⟩:=Y5 b4;have cz:=Z38 e1 e2 o;generalize sgE e1 e2 o=sg at *;simp only[rowL]at hg u ay;obtain⟨_,aw⟩:=Y5 hg;have bm:IntKind.i64.wrap (((j+1:Nat):Int) - 1)=(j:Int):=by rw[Z1 (by omega) (by omega)]; omega
     have c3:IntKind.i64.wrap (2*(j:Int))=((2*j:Nat):Int):=by rw[Z1 (by omega) (by omega)]; omega
     have c5:IntKind.i64.wrap (((2*j:Nat):Int)+1)=((2*j+1:Nat):Int):=by rw[Z1 (by omega) (by omega)]; omega
     have cs:2*j<2*X.length:=by omega
     have ct:2*j+1<2*X.length:=by omega
     generalize 2*j+1=d1 at *;generalize 2*j=d0 at *;generalize j+1=j1 at *;have v:¬orR X=[]:=fun e=>by rw[e]at M; simp at M; omega
     have y:¬lwR X=[]:=fun e=>by rw[e]at N; simp at N; omega
     have a3:x<(E x).length:=by omega
     generalize E x=R at *;clear bb Q O aj ad V ab ae;simp[ac,ar,cf,hg,aw,hw,bm,c3,c5,cs,ct,b2,b3,b4,b5,a8,al,be,ak,M,N,W4 v,W4 y,Y7 v,Y7 y,v,y];refine A6 cz ?_;simp[ac,ar,hg,aw,a3,hw];exact u [] _ _ (by omega) (by omega) (by simp +contextual [D,B,ag,ay,W4 v,W4 y,Y7 v,Y7 y,v,y,M,N])
   ·replace he:x=T:=Classical.not_not.1 he
    subst he;generalize E x=R at *;simp[ac];exact Z9 bu [(4,6)] (by simp[a2])
  have cu:t<T:=by omega
  have cn:=P9 h t;have c9:=P9 h (t+1);have da:arE m L (t+1)=ptn L (wiE m (arE m L t)):=rfl;obtain⟨a0,_,_⟩:=F7 (m:=m) (X:=X) cn;have au:J[wiE m (arE m L t)]? = some [.int .i64 (arE m L (t+1):Nat)]:=a6 _ a0;obtain⟨_,ai⟩:=Y5 au;have bl:=Z1a m (arE m L t) (by omega) (by omega)
  have bh:=Z3n m (plE 0 gs) X L t;have ao:(frR m (plE 0 gs) X L (t+1) 0).map rowL=(frR m (plE 0 gs) X L t 0).map rowL++[rowL (frG m (plE 0 gs) X (arE m L t) 0)]:=by rw[bh,List.map_append]; rfl
  have C:=hN (t+1);rw[ao]at C;have bn:IntKind.i64.wrap (2*(m:Int))=2*m:=Z1 (by omega) (by omega)
  have b7:t≤1048575:=by omega
  have b8:¬t+1≤t:=by omega
  by_cases hp:arE m L t<2*m
  ·have ax:((arE m L t:Nat):Int)<2*m:=by omega
   have av:enN m L X.length (t+1)=enN m L X.length t:=by
    show(if _ then _ else _)=_
    rw[if_pos hp]
   have az:((arE m L t:Nat):Int).tdiv 2=((arE m L t / 2:Nat):Int):=rfl;have df:arE m L t / 2<m:=by omega
   have cc:IntKind.i64.wrap ((arE m L t / 2:Nat):Int)=((arE m L t / 2:Nat):Int):=Z1 (by omega) (by omega)
   have O:frG m (plE 0 gs) X (arE m L t) 0=passL ((plE 0 gs).getD (arE m L t / 2) (0,0)):=by unfold frG; rw[if_pos hp]
   rw[av,O]at C;clear hN bh ao;generalize cg:(frR m (plE 0 gs) X L t 0).map rowL=RL at *;generalize enN m L X.length t=EN at *;generalize arE m L (t+1)=a1 at *;generalize ha:arE m L t=a at *;generalize a / 2=d at *;by_cases h0:t=0
   ·subst h0;have b:RL=[]:=List.length_eq_zero_iff.1 A;simp[bn,ax,az,cc];refine G1 (α:=Nat) (fun g=>[(1,.imm IG),(3,.ptr 4 0 0),(7,slV 6 RL),(8,.sl 5 0 (2*X.length)),(9,.int .i64 a),(11,.int .i64 g),(12,.int .i64 (d - (gs.take g).sum:Nat))])
     (fun g=>⟨[(4,.cells 4 [[.int .i64 m,.sl 1 0 (2*m+4*X.length),slV 2 (orR X),slV 3 (lwR X)]]),(1,.cells 1 J),(5,.cells 1 (Z0 EN))]++blV 6 6 RL (blV 2 1 (orR X) (blV 3 1 (lwR X) [])),7⟩) (fun g=>gs.length - g) (fun g=>g<gs.length∧(gs.take g).sum≤d) 0 []
     (by simp +contextual [H,D,B,F,I,U]) ⟨by rcases Nat.eq_zero_or_pos gs.length with c|c; exact absurd (List.length_eq_zero_iff.1 c) (fun e=>by rw[e]at af; simp at af; omega); exact c,by simp⟩ ?_
    rintro g ⟨n,cq⟩ N2 V;have Z:=hG g n;obtain⟨_,S⟩:=Y5 Z;have ah:g<IG.length:=by omega
    have aq:(gs.take (g+1)).sum=(gs.take g).sum+gs.getD g 0:=by
     rw[List.take_add_one,gE n,Option.toList_some,List.sum_append,List.getD,gE n];simp
    have co:gs.getD g 0≤m:=Zq7 aq af;have am:=Zpy gs 0 g (d - (gs.take g).sum) n;have u:=V (g+1);have aa:(gs.take (g+1)).sum≤d→g+1<gs.length:=fun e=>by
     rcases Nat.lt_or_ge (g+1) gs.length with c|c
     ·exact c
     ·rw[List.take_of_length_le c]at e;omega
    rw[aq]at u aa;rw[show (gs.take g).sum+(d - (gs.take g).sum)=d by omega,Nat.zero_add]at am
    have bj:IntKind.i64.wrap ((g:Int)+1)=((g+1:Nat):Int):=by rw[Z1 (by omega) (by omega)]; omega
    generalize (gs.take g).sum=s at *;generalize gs.getD g 0=c at *;have bf:d - (s+c)=d - s - c:=by omega
    rw[bf]at u;generalize hr:d - s=r at *;have bp:IntKind.i64.wrap ((r:Int)+1)=((r+1:Nat):Int):=by rw[Z1 (by omega) (by omega)]; omega
    by_cases cp:c≤r
    ·have Y:(c:Int)≤r:=by omega
     have bi:IntKind.i64.wrap ((r:Int) - c)=((r - c:Nat):Int):=by rw[Z1 (by omega) (by omega)]; omega
     simp[ah,Z,S,Y,bi,bj,n];exact u [] _ _ (by have:=aa (by omega); omega) ⟨aa (by omega),by omega⟩ (by simp +contextual [H,D,B,F,I,U])
    ·have Y:¬(c:Int)≤r:=by omega
     have an:=am (by omega)
     rw[an]at C;simp only[rowL,passL]at C;subst b;simp[ah,Z,S,Y,bp,n,X5,Zay,Za4];refine A6 bl ?_;simp[a7,a0,au,ai];exact C [(6,19)] _ _ (by omega) (by omega) (by simp +contextual [H,D,B,F,I,U,bg,ba,A])
   ·have b:¬RL=[]:=fun e=>h0 (by rw[← A,e]; rfl)
    have bd:¬a=0:=fun e=>bv t (by omega) cu (by omega)
    have a9:List.take t RL=RL:=List.take_of_length_le (by omega)
    simp[bn,ax,az,cc,h0,bd];refine G1 (α:=Nat) (fun g=>[(1,.imm IG),(3,.ptr 4 0 0),(7,slV 6 RL),(8,.sl 5 0 (2*X.length)),(9,.int .i64 a),(11,.int .i64 g),(12,.int .i64 (d - (gs.take g).sum:Nat))])
     (fun g=>⟨[(4,.cells 4 [[.int .i64 m,.sl 1 0 (2*m+4*X.length),slV 2 (orR X),slV 3 (lwR X)]]),(1,.cells 1 J),(5,.cells 1 (Z0 EN))]++blV 6 6 RL (blV 2 1 (orR X) (blV 3 1 (lwR X) [])),7⟩) (fun g=>gs.length - g) (fun g=>g<gs.length∧(gs.take g).sum≤d) 0 []
     (by simp +contextual [H,D,B,F,I,U]) ⟨by rcases Nat.eq_zero_or_pos gs.length with c|c; exact absurd (List.length_eq_zero_iff.1 c) (fun e=>by rw[e]at af; simp at af; omega); exact c,by simp⟩ ?_
    rintro g ⟨n,cq⟩ N2 V;have Z:=hG g n;obtain⟨_,S⟩:=Y5 Z;have ah:g<IG.length:=by omega
    have aq:(gs.take (g+1)).sum=(gs.take g).sum+gs.getD g 0:=by
     rw[List.take_add_one,gE n,Option.toList_some,List.sum_append,List.getD,gE n];simp
    have co:gs.getD g 0≤m:=Zq7 aq af;have am:=Zpy gs 0 g (d - (gs.take g).sum) n;have u:=V (g+1);have aa:(gs.take (g+1)).sum≤d→g+1<gs.length:=fun e=>by
     rcases Nat.lt_or_ge (g+1) gs.length with c|c
     ·exact c
     ·rw[List.take_of_length_le c]at e;omega
    rw[aq]at u aa;rw[show (gs.take g).sum+(d - (gs.take g).sum)=d by omega,Nat.zero_add]at am
    have bj:IntKind.i64.wrap ((g:Int)+1)=((g+1:Nat):Int):=by rw[Z1 (by omega) (by omega)]; omega
    generalize (gs.take g).sum=s at *;generalize gs.getD g 0=c at *;have bf:d - (s+c)=d - s - c:=by omega
    rw[bf]at u;generalize hr:d - s=r at *;have bp:IntKind.i64.wrap ((r:Int)+1)=((r+1:Nat):Int):=by rw[Z1 (by omega) (by omega)]; omega
    by_cases cp:c≤r
    ·have Y:(c:Int)≤r:=by omega
     have bi:IntKind.i64.wrap ((r:Int) - c)=((r - c:Nat):Int):=by rw[Z1 (by omega) (by omega)]; omega
     simp[ah,Z,S,Y,bi,bj,n];exact u [] _ _ (by have:=aa (by omega); omega) ⟨aa (by omega),by omega⟩ (by simp +contextual [H,D,B,F,I,U])
    ·have Y:¬(c:Int)≤r:=by omega
     have an:=am (by omega)
     rw[an]at C;simp only[rowL,passL]at C;simp[ah,Z,S,Y,bp,n,X5,W4 b,Y7 b,b,A,b8,b7,a9];refine A6 bl ?_;simp[a7,a0,au,ai];exact C [(6,19)] _ _ (by omega) (by omega) (by simp +contextual [H,D,B,F,I,U,bg,ba,A])
  ·have ax:¬((arE m L t:Nat):Int)<2*m:=by omega
   have h0:¬t=0:=fun e=>by
    subst e;exact hp (by show 0<2*m; have:=h.hm; omega)
   have O:frG m (plE 0 gs) X (arE m L t) 0=⟨2,0,0,((xoE m (arE m L t)+1:Nat):Int),0,((X.getD (xoE m (arE m L t)) (false,false)).1 == (qoE m (arE m L t) % 2 == 0)) != (X.getD (xoE m (arE m L t)) (false,false)).2⟩:=by
    unfold frG;rw[if_neg hp]
   have av:enN m L X.length (t+1)=(enN m L X.length t).set (2*xoE m (arE m L t)+qoE m (arE m L t) % 2) (qoE m (arE m L t)):=by
    show(if _ then _ else _)=_
    rw[if_neg hp]
   have bd:¬arE m L t=0:=by have:=h.hm; omega
   have ak:xoE m (arE m L t)<X.length:=by unfold xoE; omega
   have dn:qoE m (arE m L t)<4:=Nat.mod_lt _ (by omega)
   have dg:arE m L t=2*m+4*xoE m (arE m L t)+qoE m (arE m L t):=by unfold xoE qoE; omega
   have a5:=Zj8 m L X.length t;rw[av,O]at C;clear hN bh ao av O;have bq:=Zjb (enN m L X.length t) (2*xoE m (arE m L t)+qoE m (arE m L t) % 2) (qoE m (arE m L t));obtain⟨al,b9⟩:=a1 _ ak;obtain⟨_,be⟩:=Y5 al;obtain⟨_,cv⟩:=Y5 b9;have ae:=Zfu (l:=enN m L X.length t) (i:=2*xoE m (arE m L t)+qoE m (arE m L t) % 2) (by omega)
   generalize (enN m L X.length t).getD (2*xoE m (arE m L t)+qoE m (arE m L t) % 2) 0=e at *;obtain⟨_,br⟩:=Y5 ae;have a8:(Z0 (enN m L X.length t)).length=2*X.length:=by rw[N9,a5]
   generalize cg:(frR m (plE 0 gs) X L t 0).map rowL=RL at *;have bs:=fun q=>bc q ((enN m L X.length t).set (2*xoE m (arE m L t)+qoE m (arE m L t) % 2) (qoE m (arE m L t)))
   generalize Z0 ((enN m L X.length t).set (2*xoE m (arE m L t)+qoE m (arE m L t) % 2) (qoE m (arE m L t)))=db at *;generalize Z0 (enN m L X.length t)=EN at *;generalize xoE m (arE m L t)=j at *;generalize qoE m (arE m L t)=q at *;generalize arE m L (t+1)=a1 at *;generalize arE m L t=a at *;have c6:IntKind.i64.wrap ((a:Int) - 2*m)=((4*j+q:Nat):Int):=by rw[Z1 (by omega) (by omega)]; omega
   have az:((4*j+q:Nat):Int).tdiv 4=(j:Nat):=by
    show(((4*j+q) / 4:Nat):Int)=_
    congr 1; omega
   have c0:((4*j+q:Nat):Int).tmod 4=(q:Nat):=by
    show(((4*j+q) % 4:Nat):Int)=_
    congr 1; omega
   generalize 4*j+q=jq at *;have bm:IntKind.i64.wrap (j:Int)=(j:Int):=Z1 (by omega) (by omega)
   have c7:IntKind.i64.wrap (q:Int)=(q:Int):=Z1 (by omega) (by omega)
   have cb:IntKind.i64.wrap (2*(j:Int))=2*(j:Int):=Z1 (by omega) (by omega)
   have c1:((q:Nat):Int).tmod 2=((q % 2:Nat):Int):=rfl;have dm:q % 2<2:=Nat.mod_lt _ (by omega)
   generalize dp:q % 2=q2 at *;have cd:IntKind.i64.wrap (2*(j:Int)+q2)=((2*j+q2:Nat):Int):=by rw[Z1 (by omega) (by omega)]; omega
   have cr:2*j+q2<2*X.length:=by omega
   have b6:2*j+q2<EN.length:=by omega
   have ce:IntKind.i64.wrap ((j:Int)+1)=((j+1:Nat):Int):=by rw[Z1 (by omega) (by omega)]; omega
   have cx:((q2:Int)=0)=(q2=0):=propext ⟨fun h=>by omega,fun h=>by omega⟩
   generalize dj:2*j+q2=ii at *;generalize (X.getD j (false,false)).1=o at *;generalize (X.getD j (false,false)).2=w at *;have v:¬orR X=[]:=fun e=>by rw[e]at M; simp at M; omega
   have y:¬lwR X=[]:=fun e=>by rw[e]at N; simp at N; omega
   have b:¬RL=[]:=fun e=>h0 (by rw[← A,e]; rfl)
   have a9:List.take t RL=RL:=List.take_of_length_le (by omega)
   have cw:((o == (q2 == 0)) != w) = !((o == decide (q2=0)) == w):=by
    have:(q2 == 0)=decide (q2=0):=by cases q2<;>rfl
    rw[this];rfl
   simp only[rowL,cw]at C;simp[bn,ax,h0,bd,c6,az,c0,bm,c7,cb,c1,cd,W4 v,W4 y,Y7 v,Y7 y,v,y,cr,b6,ae,br,bq,ce,al,b9,be,cv,ak,M,N,a8,cx,X5,W4 b,Y7 b,b,A,b8,b7,a9];refine A6 bl ?_;simp[a7,a0,au,ai];exact C [(6,60)] _ _ (by omega) (by omega) (by simp +contextual [W4 v,W4 y,Y7 v,Y7 y,v,y,M,N,H,D,B,F,I,bs,bg,ba,A])
end Go.Known
