/- Part 49 -/
import Derived.Test.YtilmpmlkndfbjaaGreatDoorT48
set_option linter.all false
set_option maxRecDepth 100000
set_option maxHeartbeats 16000000
open List (all_map eq_nil_of_length_eq_zero map_cons map_nil take drop drop_eq_nil_of_le)
open Nat (zero_add add_zero reduceSub reduceMod reduceAdd lt_irrefl)
namespace Go.Ad
open Go Go.AE Go.Proofs Go.Plain
section
theorem UL(l:List FuncId)(k:Nat)(x:Ah)(lo hi a:Option Ah):F6 l (.Er k x lo hi a)=false:=rfl
attribute [local simp] UZ Uo Us Uw Ux Va Vi Vj Un UH UY RH IC Sl Sz Sh UL
def kM(m:Nat)(PV:Aa)(j c:Nat)(L:List (Nat×Nat))(X:List Nd):List (Nat×Af):=
 (1,Fj PV (.sl j 0 (2*m+4*X.length)) (Bt c ((xJ m X).map Co))) :: (j,.cells 1 (Y9 (BZ (2*m+4*X.length) L))) :: Bp c 6 ((xJ m X).map Co) []
theorem xw(l:List Nat):((Z1 l).all λrow=>row.all jU)=true:=by
 unfold Z1;rw[all_map];exact List.all_eq_true.2 λx _=>rfl
theorem zW(l:List Nat):((Z1 l).all λrow=>row.length == 1)=true:=by
 unfold Z1;rw[all_map];exact List.all_eq_true.2 λx _=>rfl
theorem Z7b(front:List Nat)(a e n:Nat):ED front a e (n+1)=ED front a e n++[(front.getD (a+n) 0,e+(4-n)%4)]:=by
 unfold ED;rw[List.range_succ,List.map_append];rfl
theorem dK{get:Nat->Option Af}{b l h:Nat}{x0 x1 x2 x3:Int}{o p:Bool}(a:get b=some (.cells 6 [[.int .i64 x0,.int .i64 x1,.int .i64 x2,.int .i64 x3,.bool o,.bool p]]))(f:h<=4)(g:l<=h) :
 VP 4 1 get (.ptr b 0 0) (some (l,h))=some (.Al ((([.int .i64 x0,.int .i64 x1,.int .i64 x2,.int .i64 x3,.bool o,.bool p].drop l).take (h-l)).map λy=>[y]),[(b,none)]):=by
 have e:DP get [b] (.sl b 0 1)=.Al [[.int .i64 x0,.int .i64 x1,.int .i64 x2,.int .i64 x3,.bool o,.bool p]]:=WS (k:=6) (by simp[V1]) a rfl (by
  intro row c x d;simp only[mC,List.not_mem_nil,or_false]at c;subst c;simp only[mC,List.not_mem_nil,or_false]at d;rcases d with rfl|rfl|rfl|rfl|rfl|rfl<;>rfl)
 unfold VP Qw;simp only[a,e];rw[iP ⟨by simp,by simp,f,g⟩];simp
theorem HK(e:Nat):DW e 1=[e+1,e+2,e+3]:=rfl
theorem HG(e:Nat):DW e 2=[e+1,e+2]:=rfl
theorem HI(e:Nat):DW e 3=[e+1]:=rfl
theorem HL(e:Nat):DW e 4=[]:=rfl
theorem Ygd(P:List (List Aa))(hP:W3 P=true)(m:Nat)(below:Bool)(rs:List Ro)(F Cp:List Nat)(L:List (Nat×Nat))(X:List Nd)(hO:Fw m F Cp L X)(hb:2*m+4*(X.length+rs.length)≤100000) :
 Bo Tryz.prog 27 [.ptr 1 0 0,.Al (rs.map GY),.sl 4 0 F.length,.bool below] ⟨(4,.cells 1 (Z1 F)) :: kM m (Bg P) 2 3 L X,5⟩ fun r mm=>
  r=.bool (U1 m below rs F L X).1∧mm=⟨kM m (Bg P) 5 6 (U1 m below rs F L X).2.1 (U1 m below rs F L X).2.2,7⟩:=by
 refine aP hm [53] Tryz.func27 Tg rfl rfl fun K hK=>?_
 obtain⟨da,cw⟩:∃ da,da=U1 m below rs F L X:=⟨_,rfl⟩
 rw[← cw]at hK;have dx:=Jb P;have dy:=Jh P;have c:∀ q,(Bg P).AM q=Bg P:=fun q=>Aa.Be q _ (JU hP)
 have a7:=fun J XR a b ha hb=>Z7t P hP J XR a b ha hb
 have Cy:∀ q,Z3 q (rs.map GY)=rs.map GY:=fun q=>Y2 q _ (XH rs)
 have Gv:(rs.map GY).length=rs.length:=lM ..;have dk:∀ i (h:i<rs.length),(rs.map GY)[i]? = some (GY rs[i]):=fun i h=>by rw[gM,gE h]; rfl
 have ai:∀ q (l:List Nat),Z3 q (Z1 l)=Z1 l:=fun q l=>Z5 q l
 have aq:∀ q (l:List Int),Z3 q (Y9 l)=Y9 l:=fun q l=>Y2 q _ (NG l)
 have a2:∀ q (l:List (Int×Nd)),Z3 q (l.map Co)=l.map Co:=fun q l=>Y2 q _ (Sp l)
 generalize Bg P=PV at *;generalize hR:rs.map GY=R at *;simp[Gv,S7];refine OZ (α:=Nat×List Nat×List (Nat×Nat)×List Nd) (fun a=>[(0,.ptr 1 0 0),(1,.Al R),(2,.sl 7 0 a.2.1.length),(3,.bool below),(15,.Al R),(16,.int .i64 rs.length),(17,.int .i64 a.1)])
  (fun a=>⟨(7,.cells 1 (Z1 a.2.1)) :: kM m PV 8 9 a.2.2.1 a.2.2.2,10⟩) (fun a=>rs.length - a.1)
  (fun a=>a.1≤rs.length∧Fw m a.2.1 Cp a.2.2.1 a.2.2.2∧a.2.2.2.length+(rs.length - a.1)≤X.length+rs.length∧U1 m below (rs.drop a.1) a.2.1 a.2.2.1 a.2.2.2=da)
  (0,F,L,X) [(7,4),(8,2),(9,3)] (by simp +contextual [kM,Fj,Cy,ai,aq,a2,c]) ⟨by simp,hO,by simp,by simpa using cw.symm⟩ ?_
 rintro⟨i,F,L,X⟩ ⟨hi,hO,hk,O⟩ N hN;simp only at hi hO hk O hN ⊢;obtain⟨cy,dj,dw⟩:=hO.lt;have Y:=Y0 ((i:Int)+1);by_cases di:i=rs.length
 ·subst di;rw[List.drop_length]at O;simp only[U1]at O;subst O;have hd:(decide (F=[]))=decide (F.length=0):=by simp
  simp only[hd]at hK;simp;exact Z6 (hK _ _ ⟨rfl,rfl⟩) [(5,8),(6,9)] (by simp +contextual [kM,Fj,ai,aq,a2,c])
 have a5:i<rs.length:=by omega
 have hg:=dk i a5;obtain⟨_,a4⟩:=Y3 hg;rw[List.drop_eq_getElem_cons a5]at O;obtain⟨⟨kd,b7,nn,ov⟩,hr⟩:∃ r,r=rs[i]:=⟨_,rfl⟩
 rw[← hr]at O hg a4;simp only[U1,GY]at O hg a4;have a8:=Y0 ((F.length:Int) - 1);by_cases h1:kd=1
 ·subst h1;by_cases c1:b7<0
  ·rw[iN (by simp only[DS]; first|omega|simp),iN (by simp only[Ey]; omega)]at O
   subst O;have ad:=hK _ _ ⟨rfl,rfl⟩;clear hK hN a7;unfold kM Fj at *;have v:=fun q=>a2 q (xJ m X)
   have ab:=fun q=>aq q (BZ (2*m+4*X.length) L)
   generalize (xJ m X).map Co=XX at *;generalize Y9 (BZ (2*m+4*X.length) L)=JR at *;generalize 2*m+4*X.length=bt at *;simp[a5,hg,a4,Gv,a8,c1];exact Z6 ad [(5,8),(6,9)] (by simp +contextual [ai,v,ab,c])
  obtain⟨a,rfl⟩:∃ a:Nat,b7=(a:Int):=⟨b7.toNat,by omega⟩
  by_cases c2:(F.length:Int) - 1≤a
  ·rw[iN (by simp only[DS]; first|omega|simp),iN (by simp only[Ey]; omega)]at O
   subst O;have ad:=hK _ _ ⟨rfl,rfl⟩;clear hK hN a7;unfold kM Fj at *;have v:=fun q=>a2 q (xJ m X)
   have ab:=fun q=>aq q (BZ (2*m+4*X.length) L)
   generalize (xJ m X).map Co=XX at *;generalize Y9 (BZ (2*m+4*X.length) L)=JR at *;generalize 2*m+4*X.length=bt at *;simp[a5,hg,a4,Gv,a8,c1,c2];exact Z6 ad [(5,8),(6,9)] (by simp +contextual [ai,v,ab,c])
  by_cases c3:nn=0
  ·subst c3;cases ov with
   | true=>
    rw[iN (by simp only[DS]; first|omega|simp),iN (by simp only[Ey]; omega)]at O
    subst O;have ad:=hK _ _ ⟨rfl,rfl⟩;clear hK hN a7;unfold kM Fj at *;have v:=fun q=>a2 q (xJ m X)
    have ab:=fun q=>aq q (BZ (2*m+4*X.length) L)
    generalize (xJ m X).map Co=XX at *;generalize Y9 (BZ (2*m+4*X.length) L)=JR at *;generalize 2*m+4*X.length=bt at *;simp[a5,hg,a4,Gv,a8,c1,c2];exact Z6 ad [(5,8),(6,9)] (by simp +contextual [ai,v,ab,c])
   | false=>
    have dh:DS F.length (1,(a:Int),0,false):=⟨rfl,by show(0:Int)≤a; omega,by show(a:Int)<F.length - 1; omega,rfl,rfl⟩
    rw[iP dh]at O;have ca:a+1<F.length:=by omega
    have cj:a<F.length:=by omega
    have c5:=Sd (l:=F) (i:=a) cj;obtain⟨_,cu⟩:=Y3 c5;have c6:=Sd (l:=F) (i:=a+1) ca;obtain⟨_,cv⟩:=Y3 c6;have dt:F.getD a 0<2*m+4*X.length:=cy _ (Kz cj);have du:F.getD (a+1) 0<2*m+4*X.length:=cy _ (Kz ca);have hj:=a7 (BZ (2*m+4*X.length) L) (xJ m X) (F.getD a 0) (F.getD (a+1) 0) (by rw[QB]; exact dt) (by rw[QB]; exact du)
    rw[QB,← Z6l]at hj;have Q:=hO.cap ca;simp only[Int.toNat_natCast]at O;have cd:=Y0 ((a:Int)+1);have cp:=Y0 ((a:Int)+2);have EN:(0:Int)≤(a:Int)+1:=by omega
    have H:=hN (i+1,F.take a++F.drop (a+2),L++[(F.getD a 0,F.getD (a+1) 0)],X);simp only at H;have cx:Z1 (F.take a++F.drop (a+2))=Z1 (F.take a)++Z1 (F.drop (a+2)):=by simp[Z1]
    have b2:(F.take a++F.drop (a+2)).length=F.length - 2:=by simp; omega
    have G:=M6 F;have a6:(Z1 F).take a=Z1 (F.take a):=by simp[Z1]
    have u:(Z1 F).drop (a+2)=Z1 (F.drop (a+2)):=by simp[Z1]
    have g:(Z1 (F.take a)).length=a:=by rw[M6,lK]; omega
    have aa:(Z1 (F.drop (a+2))).length=F.length - (a+2):=by rw[M6,List.length_drop]
    have bs:(Z1 (F.drop (a+2))).take (F.length - (a+2))=Z1 (F.drop (a+2)):=tL (by rw[aa]; omega)
    have Ch:=fun (h0:0<a)=>YS (Z1 (F.take a)) (fun e=>by rw[e]at g; simp at g; omega) (by rw[g]; omega) (zW _) (B3 _)
    rw[g]at Ch;have bc:=B3 (F.take a);have bd:=xw (F.take a);have be:=fun get=>XF (get:=get) (n:=3) (F.take a)
    have T:=fun q=>ai q (F.take a)
    have U:=fun q=>ai q (F.drop (a+2))
    rw[cx,b2]at H;clear hN a7;unfold kM Fj at *;have v:=fun q=>a2 q (xJ m X)
    have ab:=fun q=>aq q (BZ (2*m+4*X.length) L)
    have ac:=fun q=>aq q (BZ (2*m+4*X.length) (L++[(F.getD a 0,F.getD (a+1) 0)]))
    generalize (xJ m X).map Co=XX at *;generalize Y9 (BZ (2*m+4*X.length) (L++[(F.getD a 0,F.getD (a+1) 0)]))=dv at *;generalize Y9 (BZ (2*m+4*X.length) L)=JR at *;generalize F.getD a 0=x at *;generalize F.getD (a+1) 0=y at *;have Gf:F.length≤1048578:=by omega
    have a3:a≤F.length:=by omega
    have br:a+2≤F.length:=by omega
    have b4:(a:Int)+2≤F.length:=by omega
    have co:((a:Int)+2).toNat=a+2:=by omega
    have cr:(0:Int)≤(a:Int)+2:=by omega
    generalize Z1 (F.take a)=M at *;generalize Z1 (F.drop (a+2))=RB at *;by_cases Df:XX=[]
    ·subst Df;simp[a5,hg,a4,Gv,a8,c1,c2,c5,cu,c6,cv,G,cj,ca,cd,EN];refine OW hj (by simp[]) [(1,1),(2,8),(3,9)] (by simp[]) (by simp +contextual [v,ab,c]) (by simp +contextual []) (by simp[Gq]) (by decide) (by simp[]) (by simp[]) (by simp[]) ?_
     simp[v,ac,c,a3];by_cases af:a=0
     ·subst af;refine Uz (by simp) Kd ?_
      have ce:IntKind.i64.wrap 2=2:=rfl;have ae:M=[]:=eq_nil_of_length_eq_zero g;subst ae;simp only[zero_add]at u aa bs;by_cases hq:F.length=2
      ·have D:RB=[]:=eq_nil_of_length_eq_zero (by omega)
       subst D;simp[ce,br,c,ac,v,L5,W4,G,u,aa,hq];exact H [(7,56),(8,8),(9,9)] _ _ (by omega) ⟨by omega,Q,by omega,O⟩ (by simp +contextual [Y,c,ac,v,T,U,Cy,hq])
      ·have bx:¬F.length - 2=0:=by omega
       simp[ce,br,c,ac,v,L5,W4,G,u,aa,bs,bx,Gf];exact H [(7,62),(8,8),(9,9)] _ _ (by omega) ⟨by omega,Q,by omega,O⟩ (by simp +contextual [Y,c,ac,v,T,U,Cy])
     ·refine UO [7] (Bj:=[.Al M]) ?_ (by simp only[Y7,Aa.closed,bc,Bool.and_true]) bd (Ch (by omega)) ?_
      ·simp only[map_cons,map_nil];rw[Uk (k:=1) (els:=Z1 F) rfl (by simp[Ig,V1]) (by rw[G]; exact a3) (by rw[a6]; exact be _),a6]
      have S:take a M=M:=tL (by omega)
      have Z:drop a M=[]:=drop_eq_nil_of_le (by omega)
      by_cases hq:F.length=a+2
      ·have D:RB=[]:=eq_nil_of_length_eq_zero (by omega)
       subst D;simp[cp,cr,br,b4,co,c,ac,v,L5,W4,G,g,u,aa,hq,S,Z];exact H [(7,56),(8,8),(9,9)] _ _ (by omega) ⟨by omega,Q,by omega,O⟩ (by simp +contextual [Y,c,ac,v,T,U,Cy,hq])
      ·have bx:¬a+(F.length - (a+2))≤a:=by omega
       have c7:a+(F.length - (a+2))≤1048576:=by omega
       have c8:a+(F.length - (a+2))=F.length - 2:=by omega
       simp[cp,cr,br,b4,co,c,ac,v,L5,W4,G,g,u,aa,bs,bx,c7,S];exact H [(7,62),(8,8),(9,9)] _ _ (by omega) ⟨by omega,Q,by omega,O⟩ (by simp +contextual [Y,c,ac,v,T,U,Cy,c8])
    ·simp[a5,hg,a4,Gv,a8,c1,c2,c5,cu,c6,cv,G,cj,ca,cd,EN,U0 Df,Df];refine OW hj (by simp[U0 Df,Df]) [(1,1),(2,8),(3,9)] (by simp[U0 Df,Df]) (by simp +contextual [v,ab,c,U0 Df,Df]) (by simp +contextual [U0 Df,Df]) (by simp[Gq,U0 Df,Df]) (by decide) (by simp[U0 Df,Df]) (by simp[U0 Df,Df]) (by simp[U0 Df,Df]) ?_
     simp[v,ac,c,a3,U0 Df,Df];by_cases af:a=0
     ·subst af;refine Uz (by simp) Kd ?_
      have ce:IntKind.i64.wrap 2=2:=rfl;have ae:M=[]:=eq_nil_of_length_eq_zero g;subst ae;simp only[zero_add]at u aa bs;by_cases hq:F.length=2
      ·have D:RB=[]:=eq_nil_of_length_eq_zero (by omega)
       subst D;simp[ce,br,c,ac,v,L5,W4,G,u,aa,hq,U0 Df,Df];exact H [(7,56),(8,8),(9,9)] _ _ (by omega) ⟨by omega,Q,by omega,O⟩ (by simp +contextual [Y,c,ac,v,T,U,Cy,hq,U0 Df,Df])
      ·have bx:¬F.length - 2=0:=by omega
       simp[ce,br,c,ac,v,L5,W4,G,u,aa,bs,bx,Gf,U0 Df,Df];exact H [(7,62),(8,8),(9,9)] _ _ (by omega) ⟨by omega,Q,by omega,O⟩ (by simp +contextual [Y,c,ac,v,T,U,Cy,U0 Df,Df])
     ·refine UO [7] (Bj:=[.Al M]) ?_ (by simp only[Y7,Aa.closed,bc,Bool.and_true]) bd (Ch (by omega)) ?_
      ·simp only[map_cons,map_nil];rw[Uk (k:=1) (els:=Z1 F) rfl (by simp[Ig,V1,U0 Df,Df]) (by rw[G]; exact a3) (by rw[a6]; exact be _),a6]
      have S:take a M=M:=tL (by omega)
      have Z:drop a M=[]:=drop_eq_nil_of_le (by omega)
      by_cases hq:F.length=a+2
      ·have D:RB=[]:=eq_nil_of_length_eq_zero (by omega)
       subst D;simp[cp,cr,br,b4,co,c,ac,v,L5,W4,G,g,u,aa,hq,S,Z,U0 Df,Df];exact H [(7,56),(8,8),(9,9)] _ _ (by omega) ⟨by omega,Q,by omega,O⟩ (by simp +contextual [Y,c,ac,v,T,U,Cy,hq,U0 Df,Df])
      ·have bx:¬a+(F.length - (a+2))≤a:=by omega
       have c7:a+(F.length - (a+2))≤1048576:=by omega
       have c8:a+(F.length - (a+2))=F.length - 2:=by omega
       simp[cp,cr,br,b4,co,c,ac,v,L5,W4,G,g,u,aa,bs,bx,c7,S,U0 Df,Df];exact H [(7,62),(8,8),(9,9)] _ _ (by omega) ⟨by omega,Q,by omega,O⟩ (by simp +contextual [Y,c,ac,v,T,U,Cy,c8,U0 Df,Df])
  ·rw[iN (by simp only[DS]; first|omega|simp),iN (by simp only[Ey]; omega)]at O
   subst O;have ad:=hK _ _ ⟨rfl,rfl⟩;clear hK hN a7;unfold kM Fj at *;have v:=fun q=>a2 q (xJ m X)
   have ab:=fun q=>aq q (BZ (2*m+4*X.length) L)
   generalize (xJ m X).map Co=XX at *;generalize Y9 (BZ (2*m+4*X.length) L)=JR at *;generalize 2*m+4*X.length=bt at *;simp[a5,hg,a4,Gv,a8,c1,c2,c3];exact Z6 ad [(5,8),(6,9)] (by simp +contextual [ai,v,ab,c])
 ·by_cases h2:kd=2
  ·subst h2;by_cases c1:nn<1
   ·rw[iN (by simp only[DS]; first|omega|simp),iN (by simp only[Ey]; omega)]at O
    subst O;have ad:=hK _ _ ⟨rfl,rfl⟩;clear hK hN a7;unfold kM Fj at *;have v:=fun q=>a2 q (xJ m X)
    have ab:=fun q=>aq q (BZ (2*m+4*X.length) L)
    generalize (xJ m X).map Co=XX at *;generalize Y9 (BZ (2*m+4*X.length) L)=JR at *;generalize 2*m+4*X.length=bt at *;simp[a5,hg,a4,Gv,a8,c1];exact Z6 ad [(5,8),(6,9)] (by simp +contextual [ai,v,ab,c])
   by_cases c2:4<nn
   ·rw[iN (by simp only[DS]; first|omega|simp),iN (by simp only[Ey]; omega)]at O
    subst O;have ad:=hK _ _ ⟨rfl,rfl⟩;clear hK hN a7;unfold kM Fj at *;have v:=fun q=>a2 q (xJ m X)
    have ab:=fun q=>aq q (BZ (2*m+4*X.length) L)
    generalize (xJ m X).map Co=XX at *;generalize Y9 (BZ (2*m+4*X.length) L)=JR at *;generalize 2*m+4*X.length=bt at *;simp[a5,hg,a4,Gv,a8,c1,c2];exact Z6 ad [(5,8),(6,9)] (by simp +contextual [ai,v,ab,c])
   by_cases c3:b7<0
   ·rw[iN (by simp only[DS]; first|omega|simp),iN (by simp only[Ey]; omega)]at O
    subst O;have ad:=hK _ _ ⟨rfl,rfl⟩;clear hK hN a7;unfold kM Fj at *;have v:=fun q=>a2 q (xJ m X)
    have ab:=fun q=>aq q (BZ (2*m+4*X.length) L)
    generalize (xJ m X).map Co=XX at *;generalize Y9 (BZ (2*m+4*X.length) L)=JR at *;generalize 2*m+4*X.length=bt at *;simp[a5,hg,a4,Gv,a8,c1,c2,c3];exact Z6 ad [(5,8),(6,9)] (by simp +contextual [ai,v,ab,c])
   obtain⟨a,rfl⟩:∃ a:Nat,b7=(a:Int):=⟨b7.toNat,by omega⟩
   obtain⟨k,rfl⟩:∃ k:Nat,nn=(k:Int):=⟨nn.toNat,by omega⟩
   have cd:=Y0 ((F.length:Int) - k);by_cases c4:(F.length:Int) - k<a
   ·rw[iN (by simp only[DS]; first|omega|simp),iN (by simp only[Ey]; omega)]at O
    subst O;have ad:=hK _ _ ⟨rfl,rfl⟩;clear hK hN a7;unfold kM Fj at *;have v:=fun q=>a2 q (xJ m X)
    have ab:=fun q=>aq q (BZ (2*m+4*X.length) L)
    generalize (xJ m X).map Co=XX at *;generalize Y9 (BZ (2*m+4*X.length) L)=JR at *;generalize 2*m+4*X.length=bt at *;simp[a5,hg,a4,Gv,a8,c1,c2,c3,c4,cd];exact Z6 ad [(5,8),(6,9)] (by simp +contextual [ai,v,ab,c])
   have CC:Ey F.length (2,(a:Int),(k:Int),ov):=⟨rfl,by show(1:Int)≤k; omega,by show(k:Int)≤4; omega,by show(0:Int)≤a; omega,by show(a:Int)≤F.length - k; omega⟩
   rw[iN (by simp only[DS]; omega),iP CC]at O
   simp only[Int.toNat_natCast]at O;have dp:1≤k:=by omega
   have dq:k≤4:=by omega
   have cb:a+k≤F.length:=by omega
   have Q:=hO.DH dp dq cb (ov,below);have H:=hN (i+1,F.take a++DW (2*m+4*X.length) k++F.drop (a+k),L++ED F a (2*m+4*X.length) k,X++[(ov,below)]);simp only at H;clear hN;obtain⟨JR,cz⟩:∃ JR,JR=BZ (2*m+4*X.length) L:=⟨_,rfl⟩
   have bn:(Y9 JR).length=2*m+4*X.length:=by rw[Uu,cz,QB]
   have v:=fun q=>a2 q (xJ m X)
   unfold kM Fj;rw[← cz];have dg:((xJ m X).map Co).length=X.length:=by rw[lM,bE]
   obtain⟨XX,df⟩:∃ XX,XX=(xJ m X).map Co:=⟨_,rfl⟩
   rw[← df]at dg v ⊢;obtain⟨e,he⟩:∃ e,e=2*m+4*X.length:=⟨_,rfl⟩
   rw[← he]at bn H O Q ⊢;simp[a5,hg,a4,Gv,a8,c1,c2,c3,c4,cd];have bp:=fun q=>ai q F
   have ck:e≤1048575:=by omega
   have cl:e≤1048574:=by omega
   have cm:e≤1048573:=by omega
   have cn:e≤1048572:=by omega
   have dm:X.length≤1048575:=by omega
   have ch:take (e+2) (Y9 JR++[[Aa.int .i64 (-1)],[.int .i64 (-1)]])=Y9 JR++[[.int .i64 (-1)],[.int .i64 (-1)]]:=tL (by rw[lA,bn]; exact lR _)
   have ci:take (e+3) (Y9 JR++[[Aa.int .i64 (-1)],[.int .i64 (-1)],[.int .i64 (-1)]])=Y9 JR++[[.int .i64 (-1)],[.int .i64 (-1)],[.int .i64 (-1)]]:=tL (by rw[lA,bn]; exact lR _)
   have b5:¬e+1≤e:=by omega
   have b6:¬e+2≤e+1:=by omega
   have cg:take (e+1) (Y9 JR++[[Aa.int .i64 (-1)]])=Y9 JR++[[.int .i64 (-1)]]:=tL (by rw[lA,bn]; exact lR _)
   have cf:take e (Y9 JR)=Y9 JR:=tL (by rw[bn]; exact lR _)
   have w:IntKind.i64.wrap 1=1:=rfl;have A:IntKind.i64.wrap 2=2:=rfl;have B:IntKind.i64.wrap 3=3:=rfl;have C:IntKind.i64.wrap 4=4:=rfl;have cc:=fun q=>aq q JR
   refine OZ (α:=Nat) (fun j=>[(0,.ptr 1 0 0),(1,.Al R),(2,.sl 7 0 F.length),(3,.bool below),(10,.ptr 10 0 0),(11,.ptr 11 0 0),(15,.Al R),(16,.int .i64 rs.length),(17,.int .i64 i),(98,.int .i64 j)])
    (fun j=>⟨(7,.cells 1 (Z1 F)) :: (1,.cells 3 [[PV,.sl 8 0 (e+j),Bt 9 XX]]) :: (8,.cells 1 (Y9 JR++List.replicate j [.int .i64 (-1)])) ::
      (10,.cells 4 [[.int .i64 2,.int .i64 a,.int .i64 k,.bool ov]]) ::
      (11,.cells 6 [[.int .i64 (if 0<j then (e:Int)else 0),.int .i64 (if 1<j then (e:Int)+1 else 0),.int .i64 (if 2<j then (e:Int)+2 else 0),.int .i64 (if 3<j then (e:Int)+3 else 0),.bool ov,.bool below]]) :: Bp 9 6 XX [],12⟩)
    (fun j=>4 - j) (fun j=>j≤4) 0 [(7,7),(8,8),(9,9),(10,13),(11,48)] (by simp +contextual [c,v,Cy,bp,cc]) (by omega) ?_
   intro j hj N3 b8;have dn:j=0∨j=1∨j=2∨j=3∨j=4:=by omega
   rcases dn with rfl|rfl|rfl|rfl|rfl
   ·have ba:=b8 1;simp[bn,W4,ck,cl,cm,cn,cf,cg,ch,ci,b5,b6];exact ba [(7,7),(8,30),(9,9),(10,10),(11,11)] _ _ (by omega) (by omega) (by simp +contextual [c,v,Cy,bp,cc,w])
   ·have ba:=b8 2;simp[bn,W4,ck,cl,cm,cn,cf,cg,ch,ci,b5,b6];exact ba [(7,7),(8,30),(9,9),(10,10),(11,11)] _ _ (by omega) (by omega) (by simp +contextual [c,v,Cy,bp,cc,A])
   ·have ba:=b8 3;simp[bn,W4,ck,cl,cm,cn,cf,cg,ch,ci,b5,b6];exact ba [(7,7),(8,30),(9,9),(10,10),(11,11)] _ _ (by omega) (by omega) (by simp +contextual [c,v,Cy,bp,cc,B])
   ·have ba:=b8 4;simp[bn,W4,ck,cl,cm,cn,cf,cg,ch,ci,b5,b6];exact ba [(7,7),(8,30),(9,9),(10,10),(11,11)] _ _ (by omega) (by omega) (by simp +contextual [c,v,Cy,bp,cc,C])
   ·simp[bn,dg,dm];have c0:(xJ m (X++[(ov,below)])).map Co=XX++[[.int .i64 e,.int .i64 ((e:Int)+1),.int .i64 ((e:Int)+2),.int .i64 ((e:Int)+3),.bool ov,.bool below]]:=by
     rw[Yff,List.map_append,← df,← he];rfl
    have ct:((xJ m (X++[(ov,below)])).map Co).length=X.length+1:=by rw[lM,bE]; simp
    have b3:(xJ m (X++[(ov,below)])).map Co≠[]:=by rw[c0]; simp
    have s:=fun q=>a2 q (xJ m (X++[(ov,below)]))
    have dc:Y9 (BZ (e+4) (L++ED F a e 0))=Y9 JR++[[.int .i64 (-1)],[.int .i64 (-1)],[.int .i64 (-1)],[.int .i64 (-1)]]:=by
     have e1:L++ED F a e 0=L:=by simp[ED]
     rw[e1,Yi0 4 (by rw[he]; exact dj),cz,he]
     simp[Y9]
    have db:∀ t,t<k→F.getD (a+t) 0<e+4:=fun t ht=>by
     have:=cy _ (Kz (l:=F) (i:=a+t) (by omega))
     omega
    have OA:∀ t,t<k→(Z1 F)[a+t]? = some [.int .i64 ((F.getD (a+t) 0:Nat):Int)]:=fun t ht=>Sd (by omega)
    have bq:∀ t,t<k→_:=fun t ht=>a7 (BZ (e+4) (L++ED F a e t)) (xJ m (X++[(ov,below)])) (F.getD (a+t) 0) (e+(4 - t) % 4) (by rw[QB]; exact db t ht) (by rw[QB]; omega)
    simp only[QB,← Z6l,List.append_assoc,← Z7b]at bq;have a9:=fun q t=>aq q (BZ (e+4) (L++ED F a e t))
    have dd:=fun t=>(Uu (BZ (e+4) (L++ED F a e t))).trans (QB _ _)
    have G:=M6 F;have cq:IntKind.i64.wrap (a:Int)=a:=L6 (by omega) (by omega)
    rw[← c0,← dc];clear a7 c0 b8 dc;unfold Fj Bt at bq;simp only[iN b3,U0 b3,ct]at bq;have dr:2*m+4*(X++[(ov,below)]).length=e+4:=by simp; omega
    unfold kM Fj Bt at H;simp only[dr,iN b3,U0 b3,ct]at H;generalize (xJ m (X++[(ov,below)])).map Co=X2 at *;refine OZ (α:=Nat) (fun t=>[(0,.ptr 1 0 0),(1,.Al R),(2,.sl 7 0 F.length),(3,.bool below),(10,.ptr 10 0 0),(11,.ptr 11 0 0),(15,.Al R),(16,.int .i64 rs.length),(17,.int .i64 i),(130,.int .i64 k),(131,.int .i64 t)])
     (fun t=>⟨[(7,.cells 1 (Z1 F)),(1,.cells 3 [[PV,.sl 8 0 (e+4),.sl 9 0 (X.length+1)]]),(8,.cells 1 (Y9 (BZ (e+4) (L++ED F a e t)))),(9,.cells 6 X2),
       (10,.cells 4 [[.int .i64 2,.int .i64 a,.int .i64 k,.bool ov]]),
       (11,.cells 6 [[.int .i64 (e:Int),.int .i64 ((e:Int)+1),.int .i64 ((e:Int)+2),.int .i64 ((e:Int)+3),.bool ov,.bool below]])],12⟩)
     (fun t=>k - t) (fun t=>t≤k) 0 [(7,7),(8,8),(9,20),(10,10),(11,11)] (by simp +contextual [c,Cy,bp,a9,s]) (by omega) ?_
    intro t ht N5 b9;by_cases ds:t=k
    ·subst ds;have I:=fun q=>a9 q t
     have a6:(Z1 F).take a=Z1 (F.take a):=by simp[Z1]
     have u:(Z1 F).drop (a+t)=Z1 (F.drop (a+t)):=by simp[Z1]
     have g:(Z1 (F.take a)).length=a:=by rw[M6,lK]; omega
     have aa:(Z1 (F.drop (a+t))).length=F.length - (a+t):=by rw[M6,List.length_drop]
     have bs:(Z1 (F.drop (a+t))).take (F.length - (a+t))=Z1 (F.drop (a+t)):=tL (by rw[aa]; omega)
     have Ch:=fun (h0:0<a)=>YS (Z1 (F.take a)) (fun e=>by rw[e]at g; simp at g; omega) (by rw[g]; omega) (zW _) (B3 _)
     rw[g]at Ch;have bc:=B3 (F.take a);have bd:=xw (F.take a);have be:=fun get=>XF (get:=get) (n:=3) (F.take a)
     have T:=fun q=>ai q (F.take a)
     have U:=fun q=>ai q (F.drop (a+t))
     have a3:a≤F.length:=by omega
     have cx:Z1 (F.take a++DW e t++F.drop (a+t))=Z1 (F.take a)++Z1 (DW e t)++Z1 (F.drop (a+t)):=by simp[Z1]
     have b2:(F.take a++DW e t++F.drop (a+t)).length=a+(4 - t)+(F.length - (a+t)):=by simp[DW]; omega
     have d1:=Y0 ((a:Int)+t);have d2:(0:Int)≤(a:Int)+t:=by omega
     have d0:((a:Int)+t).toNat=a+t:=by omega
     obtain⟨d,hd⟩:∃ d,F.length=a+t+d:=⟨F.length - (a+t),by omega⟩
     have E:(Z1 (F.drop (a+t))).length=d:=by rw[aa]; omega
     have V:(Z1 (F.drop (a+t))).take d=Z1 (F.drop (a+t)):=tL (by rw[E]; exact lR _)
     have cs:(F.take a++DW e t++F.drop (a+t)).length=a+(4 - t)+d:=by rw[b2]; omega
     rw[cx,cs]at H;clear b2 aa bs cs db;have dz:=fun q=>ai q (DW e t)
     have BL:a≤100000:=by omega
     have By:d≤100000:=by omega
     have Gf:a≤1048575:=by omega
     have am:a≤1048574:=by omega
     have GN:a≤1048573:=by omega
     have Dg:¬a+1≤a:=by omega
     have an:¬a+2≤a:=by omega
     have ao:¬a+3≤a:=by omega
     clear OA bq a9 dd b9;generalize Y9 (BZ (e+4) (L++ED F a e t))=R5 at *;generalize Z1 (F.take a)=M at *;generalize Z1 (F.drop (a+t))=RB at *;have c9:t=1∨t=2∨t=3∨t=4:=by omega
     rcases c9 with rfl|rfl|rfl|rfl
     ·simp[w,A,B,C];rw[dK (x0:=(e:Int)) (x1:=(e:Int)+1) (x2:=(e:Int)+2) (x3:=(e:Int)+3) (o:=ov) (p:=below) (by simp) (by omega) (by omega)]
      have bw:a≤a+1+d:=by omega
      have ak:=Y0 ((a:Int)+1);have al:(0:Int)≤(a:Int)+1:=by omega
      have aj:((a:Int)+1).toNat=a+1:=by omega
      have ah:a+1≤a+1+d:=by omega
      simp[hd,bw];by_cases af:a=0
      ·subst af;refine Uz (by simp) Kd ?_
       have ae:M=[]:=eq_nil_of_length_eq_zero g;subst ae;simp only[zero_add]at u cb hd;by_cases hq:d=0
       ·have D:RB=[]:=eq_nil_of_length_eq_zero (by omega)
        subst D;subst hq;simp[w,A,B,C,c,I,s,L5,W4,hd,u,E,V,Gf,am,GN,Dg,an,ao];exact H [(7,25 - 2*(1 / 4)),(8,8),(9,9)] _ _ (by omega) ⟨by omega,Q,by simp; omega,O⟩ (by simp +contextual [Y,c,I,s,T,U,Cy,hd,g,HK,HG,HI,HL,Z1])
       ·have av:¬1+d≤1:=by omega
        have aw:¬2+d≤2:=by omega
        have ax:¬3+d≤3:=by omega
        have ay:1+d≤1048576:=by omega
        have az:2+d≤1048576:=by omega
        have a0:3+d≤1048576:=by omega
        have a1:d≤1048576:=by omega
        simp[av,aw,ax,ay,az,a0,a1,w,A,B,C,c,I,s,L5,W4,hd,u,E,V,Gf,am,GN,Dg,an,ao,hq];exact H [(7,33),(8,8),(9,9)] _ _ (by omega) ⟨by omega,Q,by simp; omega,O⟩ (by simp +contextual [Y,c,I,s,T,U,Cy,hd,HK,HG,HI,HL,Z1])
      ·refine UO [7] (Bj:=[.Al M]) ?_ (by simp only[Y7,Aa.closed,bc,Bool.and_true]) bd (Ch (by omega)) ?_
       ·simp only[map_cons,map_nil];rw[Uk (k:=1) (els:=Z1 F) rfl (by simp[Ig,V1]) (by rw[G]; exact a3) (by rw[a6]; exact be _),a6]
       have S:take a M=M:=tL (by omega)
       have Z:drop a M=[]:=drop_eq_nil_of_le (by omega)
       have bf:∀ x:List Aa,take (a+1) (M++[x])=M++[x]:=fun x=>tL (by rw[lA,g]; exact lR _)
       have bg:∀ x y:List Aa,take (a+2) (M++[x,y])=M++[x,y]:=fun x y=>tL (by rw[lA,g]; exact lR _)
       have bh:∀ x y z:List Aa,take (a+3) (M++[x,y,z])=M++[x,y,z]:=fun x y z=>tL (by rw[lA,g]; exact lR _)
       by_cases hq:d=0
       ·have D:RB=[]:=eq_nil_of_length_eq_zero (by omega)
        subst D;subst hq;simp[bf,bg,bh,ak,al,aj,ah,g,S,Z,w,A,B,C,c,I,s,L5,W4,hd,u,E,V,Gf,am,GN,Dg,an,ao];exact H [(7,25 - 2*(1 / 4)),(8,8),(9,9)] _ _ (by omega) ⟨by omega,Q,by simp; omega,O⟩ (by simp +contextual [Y,c,I,s,T,U,Cy,hd,g,HK,HG,HI,HL,Z1])
       ·have av:¬a+1+d≤a+1:=by omega
        have aw:¬a+2+d≤a+2:=by omega
        have ax:¬a+3+d≤a+3:=by omega
        have ay:a+1+d≤1048576:=by omega
        have az:a+2+d≤1048576:=by omega
        have a0:a+3+d≤1048576:=by omega
        have a1:a+d≤1048576:=by omega
        have bv:¬a+d≤a:=by omega
        simp[av,aw,ax,ay,az,a0,a1,bv,bf,bg,bh,ak,al,aj,ah,g,S,Z,w,A,B,C,c,I,s,L5,W4,hd,u,E,V,Gf,am,GN,Dg,an,ao,hq];exact H [(7,33),(8,8),(9,9)] _ _ (by omega) ⟨by omega,Q,by simp; omega,O⟩ (by simp +contextual [Y,c,I,s,T,U,Cy,hd,HK,HG,HI,HL,Z1])
     ·simp[w,A,B,C];rw[dK (x0:=(e:Int)) (x1:=(e:Int)+1) (x2:=(e:Int)+2) (x3:=(e:Int)+3) (o:=ov) (p:=below) (by simp) (by omega) (by omega)]
      have bw:a≤a+2+d:=by omega
      have ak:=Y0 ((a:Int)+2);have al:(0:Int)≤(a:Int)+2:=by omega
      have aj:((a:Int)+2).toNat=a+2:=by omega
      have ah:a+2≤a+2+d:=by omega
      simp[hd,bw];by_cases af:a=0
      ·subst af;refine Uz (by simp) Kd ?_
       have ae:M=[]:=eq_nil_of_length_eq_zero g;subst ae;simp only[zero_add]at u cb hd;by_cases hq:d=0
       ·have D:RB=[]:=eq_nil_of_length_eq_zero (by omega)
        subst D;subst hq;simp[w,A,B,C,c,I,s,L5,W4,hd,u,E,V,Gf,am,GN,Dg,an,ao];exact H [(7,25 - 2*(2 / 4)),(8,8),(9,9)] _ _ (by omega) ⟨by omega,Q,by simp; omega,O⟩ (by simp +contextual [Y,c,I,s,T,U,Cy,hd,g,HK,HG,HI,HL,Z1])
       ·have av:¬1+d≤1:=by omega
        have aw:¬2+d≤2:=by omega
        have ax:¬3+d≤3:=by omega
        have ay:1+d≤1048576:=by omega
        have az:2+d≤1048576:=by omega
        have a0:3+d≤1048576:=by omega
        have a1:d≤1048576:=by omega
        simp[av,aw,ax,ay,az,a0,a1,w,A,B,C,c,I,s,L5,W4,hd,u,E,V,Gf,am,GN,Dg,an,ao,hq];exact H [(7,33),(8,8),(9,9)] _ _ (by omega) ⟨by omega,Q,by simp; omega,O⟩ (by simp +contextual [Y,c,I,s,T,U,Cy,hd,HK,HG,HI,HL,Z1])
      ·refine UO [7] (Bj:=[.Al M]) ?_ (by simp only[Y7,Aa.closed,bc,Bool.and_true]) bd (Ch (by omega)) ?_
       ·simp only[map_cons,map_nil];rw[Uk (k:=1) (els:=Z1 F) rfl (by simp[Ig,V1]) (by rw[G]; exact a3) (by rw[a6]; exact be _),a6]
       have S:take a M=M:=tL (by omega)
       have Z:drop a M=[]:=drop_eq_nil_of_le (by omega)
       have bf:∀ x:List Aa,take (a+1) (M++[x])=M++[x]:=fun x=>tL (by rw[lA,g]; exact lR _)
       have bg:∀ x y:List Aa,take (a+2) (M++[x,y])=M++[x,y]:=fun x y=>tL (by rw[lA,g]; exact lR _)
       have bh:∀ x y z:List Aa,take (a+3) (M++[x,y,z])=M++[x,y,z]:=fun x y z=>tL (by rw[lA,g]; exact lR _)
       by_cases hq:d=0
       ·have D:RB=[]:=eq_nil_of_length_eq_zero (by omega)
        subst D;subst hq;simp[bf,bg,bh,ak,al,aj,ah,g,S,Z,w,A,B,C,c,I,s,L5,W4,hd,u,E,V,Gf,am,GN,Dg,an,ao];exact H [(7,25 - 2*(2 / 4)),(8,8),(9,9)] _ _ (by omega) ⟨by omega,Q,by simp; omega,O⟩ (by simp +contextual [Y,c,I,s,T,U,Cy,hd,g,HK,HG,HI,HL,Z1])
       ·have av:¬a+1+d≤a+1:=by omega
        have aw:¬a+2+d≤a+2:=by omega
        have ax:¬a+3+d≤a+3:=by omega
        have ay:a+1+d≤1048576:=by omega
        have az:a+2+d≤1048576:=by omega
        have a0:a+3+d≤1048576:=by omega
        have a1:a+d≤1048576:=by omega
        have bv:¬a+d≤a:=by omega
        simp[av,aw,ax,ay,az,a0,a1,bv,bf,bg,bh,ak,al,aj,ah,g,S,Z,w,A,B,C,c,I,s,L5,W4,hd,u,E,V,Gf,am,GN,Dg,an,ao,hq];exact H [(7,33),(8,8),(9,9)] _ _ (by omega) ⟨by omega,Q,by simp; omega,O⟩ (by simp +contextual [Y,c,I,s,T,U,Cy,hd,HK,HG,HI,HL,Z1])
     ·simp[w,A,B,C];rw[dK (x0:=(e:Int)) (x1:=(e:Int)+1) (x2:=(e:Int)+2) (x3:=(e:Int)+3) (o:=ov) (p:=below) (by simp) (by omega) (by omega)]
      have bw:a≤a+3+d:=by omega
      have ak:=Y0 ((a:Int)+3);have al:(0:Int)≤(a:Int)+3:=by omega
      have aj:((a:Int)+3).toNat=a+3:=by omega
      have ah:a+3≤a+3+d:=by omega
      simp[hd,bw];by_cases af:a=0
      ·subst af;refine Uz (by simp) Kd ?_
       have ae:M=[]:=eq_nil_of_length_eq_zero g;subst ae;simp only[zero_add]at u cb hd;by_cases hq:d=0
       ·have D:RB=[]:=eq_nil_of_length_eq_zero (by omega)
        subst D;subst hq;simp[w,A,B,C,c,I,s,L5,W4,hd,u,E,V,Gf,am,GN,Dg,an,ao];exact H [(7,25 - 2*(3 / 4)),(8,8),(9,9)] _ _ (by omega) ⟨by omega,Q,by simp; omega,O⟩ (by simp +contextual [Y,c,I,s,T,U,Cy,hd,g,HK,HG,HI,HL,Z1])
       ·have av:¬1+d≤1:=by omega
        have aw:¬2+d≤2:=by omega
        have ax:¬3+d≤3:=by omega
        have ay:1+d≤1048576:=by omega
        have az:2+d≤1048576:=by omega
        have a0:3+d≤1048576:=by omega
        have a1:d≤1048576:=by omega
        simp[av,aw,ax,ay,az,a0,a1,w,A,B,C,c,I,s,L5,W4,hd,u,E,V,Gf,am,GN,Dg,an,ao,hq];exact H [(7,33),(8,8),(9,9)] _ _ (by omega) ⟨by omega,Q,by simp; omega,O⟩ (by simp +contextual [Y,c,I,s,T,U,Cy,hd,HK,HG,HI,HL,Z1])
      ·refine UO [7] (Bj:=[.Al M]) ?_ (by simp only[Y7,Aa.closed,bc,Bool.and_true]) bd (Ch (by omega)) ?_
       ·simp only[map_cons,map_nil];rw[Uk (k:=1) (els:=Z1 F) rfl (by simp[Ig,V1]) (by rw[G]; exact a3) (by rw[a6]; exact be _),a6]
       have S:take a M=M:=tL (by omega)
       have Z:drop a M=[]:=drop_eq_nil_of_le (by omega)
       have bf:∀ x:List Aa,take (a+1) (M++[x])=M++[x]:=fun x=>tL (by rw[lA,g]; exact lR _)
       have bg:∀ x y:List Aa,take (a+2) (M++[x,y])=M++[x,y]:=fun x y=>tL (by rw[lA,g]; exact lR _)
       have bh:∀ x y z:List Aa,take (a+3) (M++[x,y,z])=M++[x,y,z]:=fun x y z=>tL (by rw[lA,g]; exact lR _)
       by_cases hq:d=0
       ·have D:RB=[]:=eq_nil_of_length_eq_zero (by omega)
        subst D;subst hq;simp[bf,bg,bh,ak,al,aj,ah,g,S,Z,w,A,B,C,c,I,s,L5,W4,hd,u,E,V,Gf,am,GN,Dg,an,ao];exact H [(7,25 - 2*(3 / 4)),(8,8),(9,9)] _ _ (by omega) ⟨by omega,Q,by simp; omega,O⟩ (by simp +contextual [Y,c,I,s,T,U,Cy,hd,g,HK,HG,HI,HL,Z1])
       ·have av:¬a+1+d≤a+1:=by omega
        have aw:¬a+2+d≤a+2:=by omega
        have ax:¬a+3+d≤a+3:=by omega
        have ay:a+1+d≤1048576:=by omega
        have az:a+2+d≤1048576:=by omega
        have a0:a+3+d≤1048576:=by omega
        have a1:a+d≤1048576:=by omega
        have bv:¬a+d≤a:=by omega
        simp[av,aw,ax,ay,az,a0,a1,bv,bf,bg,bh,ak,al,aj,ah,g,S,Z,w,A,B,C,c,I,s,L5,W4,hd,u,E,V,Gf,am,GN,Dg,an,ao,hq];exact H [(7,33),(8,8),(9,9)] _ _ (by omega) ⟨by omega,Q,by simp; omega,O⟩ (by simp +contextual [Y,c,I,s,T,U,Cy,hd,HK,HG,HI,HL,Z1])
     ·simp[w,A,B,C];rw[dK (x0:=(e:Int)) (x1:=(e:Int)+1) (x2:=(e:Int)+2) (x3:=(e:Int)+3) (o:=ov) (p:=below) (by simp) (by omega) (by omega)]
      have bw:a≤a+4+d:=by omega
      have ak:=Y0 ((a:Int)+4);have al:(0:Int)≤(a:Int)+4:=by omega
      have aj:((a:Int)+4).toNat=a+4:=by omega
      have ah:a+4≤a+4+d:=by omega
      simp[hd,bw];by_cases af:a=0
      ·subst af;refine Uz (by simp) Kd ?_
       have ae:M=[]:=eq_nil_of_length_eq_zero g;subst ae;simp only[zero_add]at u cb hd;by_cases hq:d=0
       ·have D:RB=[]:=eq_nil_of_length_eq_zero (by omega)
        subst D;subst hq;simp[w,A,B,C,c,I,s,L5,W4,hd,u,E,V,Gf,am,GN,Dg,an,ao];exact H [(7,25 - 2*(4 / 4)),(8,8),(9,9)] _ _ (by omega) ⟨by omega,Q,by simp; omega,O⟩ (by simp +contextual [Y,c,I,s,T,U,Cy,hd,g,HK,HG,HI,HL,Z1])
       ·have av:¬1+d≤1:=by omega
        have aw:¬2+d≤2:=by omega
        have ax:¬3+d≤3:=by omega
        have ay:1+d≤1048576:=by omega
        have az:2+d≤1048576:=by omega
        have a0:3+d≤1048576:=by omega
        have a1:d≤1048576:=by omega
        simp[av,aw,ax,ay,az,a0,a1,w,A,B,C,c,I,s,L5,W4,hd,u,E,V,Gf,am,GN,Dg,an,ao,hq];exact H [(7,33),(8,8),(9,9)] _ _ (by omega) ⟨by omega,Q,by simp; omega,O⟩ (by simp +contextual [Y,c,I,s,T,U,Cy,hd,HK,HG,HI,HL,Z1])
      ·refine UO [7] (Bj:=[.Al M]) ?_ (by simp only[Y7,Aa.closed,bc,Bool.and_true]) bd (Ch (by omega)) ?_
       ·simp only[map_cons,map_nil];rw[Uk (k:=1) (els:=Z1 F) rfl (by simp[Ig,V1]) (by rw[G]; exact a3) (by rw[a6]; exact be _),a6]
       have S:take a M=M:=tL (by omega)
       have Z:drop a M=[]:=drop_eq_nil_of_le (by omega)
       have bf:∀ x:List Aa,take (a+1) (M++[x])=M++[x]:=fun x=>tL (by rw[lA,g]; exact lR _)
       have bg:∀ x y:List Aa,take (a+2) (M++[x,y])=M++[x,y]:=fun x y=>tL (by rw[lA,g]; exact lR _)
       have bh:∀ x y z:List Aa,take (a+3) (M++[x,y,z])=M++[x,y,z]:=fun x y z=>tL (by rw[lA,g]; exact lR _)
       by_cases hq:d=0
       ·have D:RB=[]:=eq_nil_of_length_eq_zero (by omega)
        subst D;subst hq;simp[bf,bg,bh,ak,al,aj,ah,g,S,Z,w,A,B,C,c,I,s,L5,W4,hd,u,E,V,Gf,am,GN,Dg,an,ao];exact H [(7,25 - 2*(4 / 4)),(8,8),(9,9)] _ _ (by omega) ⟨by omega,Q,by simp; omega,O⟩ (by simp +contextual [Y,c,I,s,T,U,Cy,hd,g,HK,HG,HI,HL,Z1])
       ·have av:¬a+1+d≤a+1:=by omega
        have aw:¬a+2+d≤a+2:=by omega
        have ax:¬a+3+d≤a+3:=by omega
        have ay:a+1+d≤1048576:=by omega
        have az:a+2+d≤1048576:=by omega
        have a0:a+3+d≤1048576:=by omega
        have a1:a+d≤1048576:=by omega
        have bv:¬a+d≤a:=by omega
        simp[av,aw,ax,ay,az,a0,a1,bv,bf,bg,bh,ak,al,aj,ah,g,S,Z,w,A,B,C,c,I,s,L5,W4,hd,u,E,V,Gf,am,GN,Dg,an,ao,hq];exact H [(7,33),(8,8),(9,9)] _ _ (by omega) ⟨by omega,Q,by simp; omega,O⟩ (by simp +contextual [Y,c,I,s,T,U,Cy,hd,HK,HG,HI,HL,Z1])
    ·have c9:t=0∨t=1∨t=2∨t=3:=by omega
     rcases c9 with rfl|rfl|rfl|rfl
     ·have bb:=b9 1;have hj:=bq 0 (by omega)
      have au:=OA 0 (by omega)
      obtain⟨_,ag⟩:=Y3 au;have b1:=Y0 ((a:Int)+0);have OC:(0:Int)≤(a:Int)+0:=by omega
      have bj:a+0<F.length:=by omega
      have bl:(a:Int)+0<F.length:=by omega
      have b0:((a:Int)+0).toNat=a+0:=by omega
      have bz:=fun q=>a9 q 0
      have bm:=fun q=>a9 q 1
      have bu:(0:Int)<(k:Int):=by omega
      have bi:0<k:=by omega
      simp only[add_zero,reduceSub,reduceMod,reduceAdd]at hj au ag bj;generalize F.getD (a+0) 0=y at *;generalize Y9 (BZ (e+4) (L++ED F a e 0))=R5 at *;generalize Y9 (BZ (e+4) (L++ED F a e 1))=R6 at *;simp[bu,bi,au,ag,b1,cq,OC,bj,bl,b0,G,w,A,B,C];refine OW hj (by simp) [(1,1),(2,8),(3,9)] (by simp) (by simp +contextual [s,bz,c]) (by simp +contextual) (by simp[Gq]) (by decide) (by simp) (by simp) (by simp) ?_
      simp[s,bm,c];exact bb [(7,7),(8,8),(9,9),(10,10),(11,11)] _ _ (by omega) (by omega) (by simp +contextual [bm,s,c,Cy,bp])
     ·have bb:=b9 2;have hj:=bq 1 (by omega)
      have au:=OA 1 (by omega)
      obtain⟨_,ag⟩:=Y3 au;have b1:=Y0 ((a:Int)+1);have OC:(0:Int)≤(a:Int)+1:=by omega
      have bj:a+1<F.length:=by omega
      have bl:(a:Int)+1<F.length:=by omega
      have b0:((a:Int)+1).toNat=a+1:=by omega
      have bz:=fun q=>a9 q 1
      have bm:=fun q=>a9 q 2
      have bu:(1:Int)<(k:Int):=by omega
      have bi:1<k:=by omega
      simp only[add_zero,reduceSub,reduceMod,reduceAdd]at hj au ag bj;generalize F.getD (a+1) 0=y at *;generalize Y9 (BZ (e+4) (L++ED F a e 1))=R5 at *;generalize Y9 (BZ (e+4) (L++ED F a e 2))=R6 at *;simp[bu,bi,au,ag,b1,cq,OC,bj,bl,b0,G,w,A,B,C];refine OW hj (by simp) [(1,1),(2,8),(3,9)] (by simp) (by simp +contextual [s,bz,c]) (by simp +contextual) (by simp[Gq]) (by decide) (by simp) (by simp) (by simp) ?_
      simp[s,bm,c];exact bb [(7,7),(8,8),(9,9),(10,10),(11,11)] _ _ (by omega) (by omega) (by simp +contextual [bm,s,c,Cy,bp])
     ·have bb:=b9 3;have hj:=bq 2 (by omega)
      have au:=OA 2 (by omega)
      obtain⟨_,ag⟩:=Y3 au;have b1:=Y0 ((a:Int)+2);have OC:(0:Int)≤(a:Int)+2:=by omega
      have bj:a+2<F.length:=by omega
      have bl:(a:Int)+2<F.length:=by omega
      have b0:((a:Int)+2).toNat=a+2:=by omega
      have bz:=fun q=>a9 q 2
      have bm:=fun q=>a9 q 3
      have bu:(2:Int)<(k:Int):=by omega
      have bi:2<k:=by omega
      simp only[add_zero,reduceSub,reduceMod,reduceAdd]at hj au ag bj;generalize F.getD (a+2) 0=y at *;generalize Y9 (BZ (e+4) (L++ED F a e 2))=R5 at *;generalize Y9 (BZ (e+4) (L++ED F a e 3))=R6 at *;simp[bu,bi,au,ag,b1,cq,OC,bj,bl,b0,G,w,A,B,C];refine OW hj (by simp) [(1,1),(2,8),(3,9)] (by simp) (by simp +contextual [s,bz,c]) (by simp +contextual) (by simp[Gq]) (by decide) (by simp) (by simp) (by simp) ?_
      simp[s,bm,c];exact bb [(7,7),(8,8),(9,9),(10,10),(11,11)] _ _ (by omega) (by omega) (by simp +contextual [bm,s,c,Cy,bp])
     ·have bb:=b9 4;have hj:=bq 3 (by omega)
      have au:=OA 3 (by omega)
      obtain⟨_,ag⟩:=Y3 au;have b1:=Y0 ((a:Int)+3);have OC:(0:Int)≤(a:Int)+3:=by omega
      have bj:a+3<F.length:=by omega
      have bl:(a:Int)+3<F.length:=by omega
      have b0:((a:Int)+3).toNat=a+3:=by omega
      have bz:=fun q=>a9 q 3
      have bm:=fun q=>a9 q 4
      have bu:(3:Int)<(k:Int):=by omega
      have bi:3<k:=by omega
      simp only[add_zero,reduceSub,reduceMod,reduceAdd]at hj au ag bj;generalize F.getD (a+3) 0=y at *;generalize Y9 (BZ (e+4) (L++ED F a e 3))=R5 at *;generalize Y9 (BZ (e+4) (L++ED F a e 4))=R6 at *;simp[bu,bi,au,ag,b1,cq,OC,bj,bl,b0,G,w,A,B,C];refine OW hj (by simp) [(1,1),(2,8),(3,9)] (by simp) (by simp +contextual [s,bz,c]) (by simp +contextual) (by simp[Gq]) (by decide) (by simp) (by simp) (by simp) ?_
      simp[s,bm,c];exact bb [(7,7),(8,8),(9,9),(10,10),(11,11)] _ _ (by omega) (by omega) (by simp +contextual [bm,s,c,Cy,bp])
  ·rw[iN (by simp only[DS]; first|omega|simp),iN (by simp only[Ey]; omega)]at O
   subst O;have ad:=hK _ _ ⟨rfl,rfl⟩;clear hK hN a7;unfold kM Fj at *;have v:=fun q=>a2 q (xJ m X)
   have ab:=fun q=>aq q (BZ (2*m+4*X.length) L)
   generalize (xJ m X).map Co=XX at *;generalize Y9 (BZ (2*m+4*X.length) L)=JR at *;generalize 2*m+4*X.length=bt at *;simp[a5,hg,a4,Gv,a8,h1,h2];exact Z6 ad [(5,8),(6,9)] (by simp +contextual [ai,v,ab,c])
theorem Yls(P:List (List Aa))(i:W3 P=true)(m:Nat)(below:Bool)(F:List Nat)(L:List (Nat×Nat))(X:List Nd) :
 Bo Tryz.prog 27 [.ptr 1 0 0,.Aj,.sl 4 0 F.length,.bool below] ⟨(4,.cells 1 (Z1 F))::kM m (Bg P) 2 3 L X,5⟩ λr j=>
  r=.bool (decide (F.length=0))/\j=⟨kM m (Bg P) 5 6 L X,7⟩:=by
 refine aP hm [53] Tryz.func27 Tg rfl rfl λK g=>?_;have e:=g _ _ ⟨rfl,rfl⟩;have d:∀q,(Bg P).AM q=Bg P:=λq=>Aa.Be q _ (JU i);have c:∀q (l:List Nat),Z3 q (Z1 l)=Z1 l:=λq l=>Z5 q l;have a:∀q (l:List Int),Z3 q (Y9 l)=Y9 l:=λq l=>Y2 q _ (NG l);have b:∀q (l:List (Int×Nd)),Z3 q (l.map Co)=l.map Co:=λq l=>Y2 q _ (Sp l);generalize Bg P=h at *;clear g;simp[S7];refine OZ (α:=Unit) (λ_=>[(0,.ptr 1 0 0),(1,.Aj),(2,.sl 7 0 F.length),(3,.bool below),(15,.Aj),(16,.int .i64 0),(17,.int .i64 0)])
  (λ_=>⟨(7,.cells 1 (Z1 F))::kM m h 8 9 L X,10⟩) (λ_=>0) (λ_=>True) () [(7,4),(8,2),(9,3)] (by simp +contextual [kM,Fj,c,a,b,d]) trivial ?_
 intro _ _ N k;simp;exact Z6 e [(5,8),(6,9)] (by simp +contextual [kM,Fj,c,a,b,d])
end
theorem iQ(p:Nat×Nat)(L:List (Nat×Nat)):O1 (p::L)=p.1::p.2::O1 L:=rfl
theorem pO:∀(L:List (Nat×Nat)) (J:List Int) (e:Nat),e∉O1 L->(L.foldl (λJ p=>C6 J p.1 p.2) J)[e]?=J[e]?
 |[],_,_,_=>rfl
 |p::L,J,e,h=>by
  rw[iQ,mC,mC,not_or,not_or]at h;rw[List.foldl_cons,pO L _ e h.2.2];unfold C6;grind
theorem Yce(p:Nat×Nat)(L:List (Nat×Nat))(e:Nat):Eb (p::L) e=if p.1=e then p.2 else if p.2=e then p.1 else Eb L e:=by
 unfold Eb;grind
theorem Z5b:∀(L:List (Nat×Nat)) (J:List Int) (e:Nat),(O1 L).Nodup->(∀p,p∈L->p.1<J.length/\p.2<J.length)->e∈O1 L->(L.foldl (λJ p=>C6 J p.1 p.2) J)[e]?=some ((Eb L e:Nat):Int)
 |[],_,_,_,_,h=>by cases h
 |p::L,J,e,c,d,h=>by
  rw[iQ,List.nodup_cons,List.nodup_cons,mC,not_or]at c;obtain⟨⟨n1,n2⟩,f,g⟩:=c;obtain⟨i,j⟩:=d p (List.mem_cons_self ..);rw[List.foldl_cons,Yce];rw[iQ,mC,mC]at h;by_cases a:p.1=e
  ·subst a;rw[iP rfl,pO L _ _ n2];unfold C6;grind
  rw[iN a];by_cases b:p.2=e
  ·subst b;rw[iP rfl,pO L _ _ f];unfold C6;grind
  rw[iN b];refine Z5b L _ e g (λq k=>?_) ((h.resolve_left (Ne.symm a)).resolve_left (Ne.symm b));rw[jE];grind
theorem Yea{n:Nat}{L:List (Nat×Nat)}(c:(O1 L).Nodup)(a:∀p,p∈L->p.1<n/\p.2<n){e:Nat}(b:e∈O1 L):(Y9 (BZ n L))[e]?=some [.int .i64 ((Eb L e:Nat):Int)]:=by
 unfold Y9 BZ;rw[gM,Z5b L _ e c (by simpa using a) b];rfl
section
attribute [local simp] UZ Uo Us Uw Ux Va Vi Vj Un UH UY RH IC Sl Sz Sh UL
def OE(m:Nat)(PL:List (Nat×Nat))(L:List (Nat×Nat))(t:Nat):Lt:=
 if AK m L t<2*m then AP (PL.getD (AK m L t / 2) (0,0))else ⟨2,0,0,((V0 ((DG m (AK m L t):Nat):Int) ((Eu m L (t+1)).map fun x=>((x:Nat):Int)):Nat):Int),0,false⟩
def C2(m:Nat)(PL:List (Nat×Nat))(L:List (Nat×Nat))(t:Nat):List Lt:=(List.range t).map (OE m PL L)
def DN(p:Nat×Nat):List Aa:=[.int .i64 (p.1:Nat),.int .i64 (p.2:Nat)]
theorem aC:∀(l:List (Nat×Nat)),W3 (l.map DN)=true
 |[]=>rfl
 |r::l=>by
  have:=aC l;simp only[map_cons,W3,DN,Y7,Aa.closed,Bool.and_true,Bool.true_and]at this ⊢;exact this
def DF(m:Nat)(L:List (Nat×Nat))(t:Nat):List Int:=(Eu m L t).map fun x=>((x:Nat):Int)
theorem Zyj(x:Nat):∀N:List Nat,V0 (((x+1:Nat):Nat):Int) (N.map λx=>((x+1:Nat):Int))=V0 ((x:Nat):Int) (N.map λx=>((x:Nat):Int))
 |[]=>rfl
 |y::r=>by
  have a:=Zyj x r;simp only[map_cons,V0];grind
theorem qv{m:Nat}{L:List (Nat×Nat)}{x:Nat}:∀t,Q0 m L t x=[]↔x∉Eu m L t
 |0=>by simp[Q0,Eu]
 |t+1=>by
  have g:=qv (m:=m) (L:=L) (x:=x) t;have c:Q0 m L (t+1) x=if ¬AK m L t<2*m/\DG m (AK m L t)=x then Q0 m L t x++[(t,HU m (AK m L t))]else Q0 m L t x:=rfl
  have d:Eu m L (t+1)=if AK m L t<2*m\/DG m (AK m L t)∈Eu m L t then Eu m L t else Eu m L t++[DG m (AK m L t)]:=rfl
  rw[c,d];by_cases b:AK m L t<2*m
  ·grind
  by_cases f:DG m (AK m L t)=x
  ·subst f;rw[iP ⟨b,rfl⟩];by_cases a:DG m (AK m L t)∈Eu m L t
   ·rw[iP (.inr a)];simp[a]
   rw[iN (λe=>e.elim b a)];simp
  grind
theorem su{m:Nat}{L:List (Nat×Nat)}{x:Nat}:∀t,(Q0 m L t x).length<=t
 |0=>lR _
 |t+1=>by
  have b:=su (m:=m) (L:=L) (x:=x) t;have a:Q0 m L (t+1) x=if ¬AK m L t<2*m/\DG m (AK m L t)=x then Q0 m L t x++[(t,HU m (AK m L t))]else Q0 m L t x:=rfl
  grind
theorem Zyf{m:Nat}{L:List (Nat×Nat)}:∀t,(DF m L t).length<=t
 |0=>lR _
 |t+1=>by
  have a:=Zyf (m:=m) (L:=L) t;have b:Eu m L (t+1)=if AK m L t<2*m\/DG m (AK m L t)∈Eu m L t then Eu m L t else Eu m L t++[DG m (AK m L t)]:=rfl
  unfold DF at a ⊢;grind
theorem IE{m:Nat}{L:List (Nat×Nat)}{t x:Nat}:V0 ((x:Nat):Int) (DF m L t)=0↔x∉Eu m L t:=by
 rw[nP];unfold DF;grind
theorem yF(d:Nat)(c:d<=10000):W5 .xor .num (.int .i64 d) (.int .i64 1)=some (.int .i64 (Av d:Nat)):=by
 have b:Av d<=10001:=by unfold Av;split<;>omega
 have a:(BitVec.ofInt 64 (d:Int) ^^^ BitVec.ofInt 64 1).toNat=Av d:=by
  rw[BitVec.toNat_xor,<-ye];grind
 show some (Aa.int .i64 (IntKind.i64.wrap ((BitVec.ofInt 64 (d:Int) ^^^ BitVec.ofInt 64 1).toNat:Nat)))=_;rw[a,L6 (by omega) (by omega)]
end
attribute [local simp] UZ Uo Us Uw Ux Va Vi Vj Un UH UY RH IC Sl Sz Sh UL
attribute [local simp] kK iZ
theorem OF{x n a k:Nat}(h:x<n)(b:20+n<=a):¬(20+x=a+k):=by omega
theorem Jn{a i j:Nat}:a<=a+i+j:=by omega
theorem Jo{a i j k:Nat}:a<=a+i+j+k:=by omega
theorem Jp{a i j k l n:Nat}:a<=a+i+j+k+l+n:=by omega
theorem n20{n c:Nat}(h:c<20):¬(20+n=c):=by omega
def YV:An:=.loop (sr [cL 172 171 170]
(.seq (.cond (tZ 172) .skip
(.exit 4))
(.seq (.block 5 (sr [ix 173 2 169 171,lw 174 2 173,oZ 21 (.alloc [(.int .i64 0),(.int .i64 0)]),so 2 21 174]
(sr [fa 175 1 6,lo 176 175,fa 177 0 21,lo 178 177,ix 179 6 176 178,mv 22 179]
(.region true [mv 180 22,mv 181 22,mv 182 19,lw 183 2 21,lw 184 2 17,oZ 185 (.bin .eql (.flat [.int,.int]) (tZ 183) (tZ 184)),fa 186 5 16,lo 187 186,oZ 188 (.bin .neq .bool (tZ 185) (tZ 187)),nc 189 180,fa 190 4 189,⟨none,.store 1 (tZ 190) (tZ 182),none,[3,4,7]⟩,nc 191 181,fa 192 5 191,so 1 192 188]))))
(rf [Iq 193 171 1,mv 171 193]))))
def eI(n x:Nat)(sg:Int)(k:Nat):Env:=[(0,.ptr 1 0 0),(4,.ptr 10 0 0),(6,.ptr 11 0 0),(133,.sl 12 0 n),(134,.int .i64 n),(135,.int .i64 x),(16,.ptr 15 0 0),(17,.ptr 16 0 0),(19,.int .i64 sg),(169,.sl (20+x) 0 2),(170,.int .i64 2),(171,.int .i64 k)]
def mI(f:Int)(n K j:Nat)(F:Nat→List (List Aa))(P XX R:List (List Aa))(x0 x1 x2 x3:Int)(d low:Bool)(so po:Nat):Ac:=⟨G7 2 20 F n ([(10,.cells 2 [[.int .i64 0,.Aj]]),(11,.cells 2 [[.int .i64 f,.sl 14 0 K]]),(12,.cells 1 (H2 20 n F)),
 (1,.cells 3 [[.Al P,.sl 2 0 j,Bt 3 XX]]),(14,.cells 6 R),(15,.cells 6 [[.int .i64 x0,.int .i64 x1,.int .i64 x2,.int .i64 x3,.bool d,.bool low]]),(16,.cells 2 [[.int .i64 so,.int .i64 po]])]++Bp 3 6 XX []),20+n⟩
theorem pI(q:Nat->Nat)(R:List (List Aa))(i:Nat)(row:List Aa):Z3 q (R.set i row)=(Z3 q R).set i (Q3 q row):=by
 rw[J1,J1,List.map_set]
theorem Kh(b:List (List Aa))(A B C D G H I:Af)(c:Nat)(y:Af)(d:Z7 ([(10,A),(11,B),(12,C),(1,D),(14,G),(15,H),(16,I)]++Bp 3 6 b []) c=some y):c<20:=by
 refine VI (λp a=>?_) d;simp only[List.cons_append,List.nil_append,mC]at a;rcases a with rfl|rfl|rfl|rfl|rfl|rfl|rfl|a
 any_goals (show _<_;omega)
 rcases Wn a with e|a
 ·omega
 cases a
theorem Yci(f:Int)(n K j x s t p q so m ids I:Nat)(h:Int)(F:Nat->List (List Aa))(P r R:List (List Aa))(x0 x1 x2 x3:Int)(d g J M:Bool)(Ff:∀q,Z3 q P=P)(DE:∀q,Z3 q r=r)(Df:¬r=[])(Cy:∀q,Z3 q R=R)(Jm:∀y,W3 (F y)=true)
 (Y:x<n) (Gv:R.length=K) (ae:s<t) (ht:t<K) (hK:K<=1000) (hF:F x=[[.int .i64 s,.int .i64 p],[.int .i64 t,.int .i64 q]])
 (gJ:R[s]?=some (Ab ⟨2,0,0,(ids:Nat),0,false⟩)) (RE:R[t]?=some (Ab ⟨2,0,0,(I:Nat),0,false⟩)) (wH:J=(decide (s=so/\p=m) != g)) (wI:M=(decide (t=so/\q=m) != g))
 (Q:Exit->Env->Ac->Prop) (e:Env) (mm:Ac) (hW:Di 199 4 (eI n x h 0) (mI f n K j F P r R x0 x1 x2 x3 d g so m) e mm)
 (hQ:Q (.exit 4) ((172,.bool false)::eI n x h 2) ((mI f n K j F P r ((R.set s (Ab ⟨2,0,0,(ids:Nat),h,J⟩)).set t (Ab ⟨2,0,0,(I:Nat),h,M⟩)) x0 x1 x2 x3 d g so m).at (20+n+1))):CO Tryz.prog [] 199 4 YV Q e mm:=by
 unfold YV;have ab:(H2 20 n F).length=n:=nB;have G:∀v,Z7 (G7 2 20 F n v) (20+x)=some (.cells 2 [[.int .i64 s,.int .i64 p],[.int .i64 t,.int .i64 q]]):=λv=>by rw[J6 _ Y,hF,iN (by simp)]
 obtain⟨L,o⟩:∃L:Nat->List (List Aa),L=λk=>if k=0 then R else if k=1 then R.set s (Ab ⟨2,0,0,(ids:Nat),h,J⟩)else (R.set s (Ab ⟨2,0,0,(ids:Nat),h,J⟩)).set t (Ab ⟨2,0,0,(I:Nat),h,M⟩):=⟨_,rfl⟩
 refine VS (λk=>eI n x h k) (λk=>mI f n K j F P r (L k) x0 x1 x2 x3 d g so m) (λk=>2-k) (λk=>k<=2) 0 (by rw[o];exact hW) (by omega) ?_;intro k hk N O;by_cases h2:k=2
 ·subst h2;rw[o]at O ⊢;unfold eI mI at *;simpa using hQ
 have S:k=0\/k=1:=by omega
 have i:=O (k+1);clear O hW hQ;have ac:∀(A B:Int),(A=B)=(B=A):=λA B=>propext ⟨Eq.symm,Eq.symm⟩;obtain⟨_,C⟩:=Y3 gJ;obtain⟨_,aa⟩:=Y3 RE;obtain⟨ad,T⟩:s≠t/\s<K:=by omega
 have E:∀a b c d:Nat,W5 .eql (.flat [.int,.int]) (.agg [.int .i64 a,.int .i64 b]) (.agg [.int .i64 c,.int .i64 d])=some (.bool (decide (a=c/\b=d))):=λa b c d=>by
  have e1:((a:Int) == (c:Int))=decide (a=c):=by rw[Bool.eq_iff_iff];simp;omega
  have e2:((b:Int) == (d:Int))=decide (b=d):=by rw[Bool.eq_iff_iff];simp;omega
  simp only[W5,Ez,KW,A7,if_true,e1,e2];grind
 subst wH;subst wI;have D:∀a b:Bool,(!(a == b))=(a != b):=λ_ _=>rfl;have V:IntKind.i64.wrap 1=1:=rfl;have X:IntKind.i64.wrap 2=2:=rfl;have Ch:∀y,y<n->W3 (F y)=true:=λy _=>Jm y;rcases S with rfl|rfl
 ·rw[o]at i ⊢;unfold eI mI at *;simp only[Ab]at *;simp[G,E,gJ,C,Gv,T,Df,n20,V];refine i _ _ (by omega) (by omega) (Di.DJ (x:=n) (N:=0) (l:=[]) (by omega) (Kh r _ _ _ _ _ _ _) trivial (λe=>absurd e (lt_irrefl _)) ?_ ?_ ?_ (λe=>absurd e (lt_irrefl _)) Ch)
  ·simp[O4,V5,Qt Y (show x≠n by omega)]
  ·simp +contextual [O4,V5,JN,pI,Ff,DE,Cy,n20,D]
  simp;intro y Z _ U
  repeat rw[iN (by omega)]
  rw[J6 _ Z,iN (by simpa using U)]
 rw[o]at i ⊢;unfold eI mI at *;have z:(R.set s (Ab ⟨2,0,0,(ids:Nat),h,(decide (s=so/\p=m) != g)⟩)).length=K:=by grind
 have u:(R.set s (Ab ⟨2,0,0,(ids:Nat),h,(decide (s=so/\p=m) != g)⟩))[t]?=some (Ab ⟨2,0,0,(I:Nat),0,false⟩):=by grind
 have H:∀q,Z3 q (R.set s (Ab ⟨2,0,0,(ids:Nat),h,(decide (s=so/\p=m) != g)⟩))=R.set s (Ab ⟨2,0,0,(ids:Nat),h,(decide (s=so/\p=m) != g)⟩):=λq=>by rw[pI,Cy];rfl
 simp only[Nat.one_ne_zero,if_false,if_true]at i ⊢;generalize R.set s (Ab ⟨2,0,0,(ids:Nat),h,(decide (s=so/\p=m) != g)⟩)=R1 at *;obtain⟨_,w⟩:=Y3 u;simp only[Ab]at *;simp[G,E,u,w,z,ht,Df,n20,X];refine i _ _ (by omega) (by omega) (Di.DJ (x:=n) (N:=0) (l:=[]) (by omega) (Kh r _ _ _ _ _ _ _) trivial (λe=>absurd e (lt_irrefl _)) ?_ ?_ ?_ (λe=>absurd e (lt_irrefl _)) Ch)
 ·simp[O4,V5,Qt Y (show x≠n by omega)]
 ·simp +contextual [O4,V5,JN,pI,Ff,DE,H,n20,D]
 simp;intro y Z _ U
 repeat rw[iN (by omega)]
 rw[J6 _ Z,iN (by simpa using U)]
end Go.Ad
