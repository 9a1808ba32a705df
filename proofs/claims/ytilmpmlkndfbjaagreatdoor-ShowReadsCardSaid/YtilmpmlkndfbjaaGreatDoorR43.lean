/- Part 43 of the proof: Ei. -/
import Derived.Test.YtilmpmlkndfbjaaGreatDoorR42
set_option linter.all false
namespace Go.Known
open Go Go.AE Go.Proofs
open Go.Plain
theorem Zd9(l:List FuncId)(k:Nat)(x:AOpd)(lo hi a:Option AOpd):K9 l (.slSl k x lo hi a)=false:=rfl
attribute [local simp] Zd6 Ze1 Zeb Zee Zep Ze7 Zex Zen Zef Zd8 Ze4 isV isVo Zeo Zez Zeu Zd9
def kM(m:Nat)(PV:AVal)(j c:Nat)(L:List (Nat×Nat))(X:List Nd):List (Nat×ABlk):=
 (1,knB PV (.sl j 0 (2*m+4*X.length)) (slV c ((xJ m X).map ndL))) :: (j,.cells 1 (Z2 (jnA (2*m+4*X.length) L))) :: blV c 6 ((xJ m X).map ndL) []
theorem Zw0(l:List Nat):((Z0 l).all fun row=>row.all Zot)=true:=by
 unfold Z0;rw[List.all_map];exact List.all_eq_true.2 fun x _=>rfl
theorem Zyx(l:List Nat):((Z0 l).all fun row=>row.length == 1)=true:=by
 unfold Z0;rw[List.all_map];exact List.all_eq_true.2 fun x _=>rfl
theorem Zuw(b:List Nat)(a e n:Nat):jnE b a e (n+1)=jnE b a e n++[(b.getD (a+n) 0,e+(4 - n) % 4)]:=by
 unfold jnE;rw[List.range_succ,List.map_append];rfl
theorem Zno{get:Nat→Option ABlk}{b l h:Nat}{x0 x1 x2 x3:Int}{o p:Bool}(a:get b=some (.cells 6 [[.int .i64 x0,.int .i64 x1,.int .i64 x2,.int .i64 x3,.bool o,.bool p]]))(f:h≤4)(g:l≤h) :
 Zka 4 1 get (.ptr b 0 0) (some (l,h))=some (.imm ((([.int .i64 x0,.int .i64 x1,.int .i64 x2,.int .i64 x3,.bool o,.bool p].drop l).take (h - l)).map fun y=>[y]),[(b,none)]):=by
 have e:fzV get [b] (.sl b 0 1)=.imm [[.int .i64 x0,.int .i64 x1,.int .i64 x2,.int .i64 x3,.bool o,.bool p]]:=Zuy (k:=6) (by simp[Y8]) a rfl (by
  intro row c x d;simp only[List.mem_cons,List.not_mem_nil,or_false]at c;subst c;simp only[List.mem_cons,List.not_mem_nil,or_false]at d;rcases d with rfl|rfl|rfl|rfl|rfl|rfl<;>rfl)
 unfold Zka Zf7;simp only[a,e];rw[if_pos ⟨by simp,by simp,f,g⟩]
 simp
theorem C7(e:Nat):K7 e 1=[e+1,e+2,e+3]:=rfl
theorem D9(e:Nat):K7 e 2=[e+1,e+2]:=rfl
theorem C0(e:Nat):K7 e 3=[e+1]:=rfl
theorem C9(e:Nat):K7 e 4=[]:=rfl
set_option maxRecDepth 100000 in
set_option maxHeartbeats 16000000 in
theorem Z7t(P:List (List AVal))(hP:W5 P=true)(m:Nat)(below:Bool)(rs:List Ro)(F oth:List Nat)(L:List (Nat×Nat))(X:List Nd)(hO:OpE m F oth L X)(hb:2*m+4*(X.length+rs.length)≤100000) :
 Ctr Tryz.prog 27 [.ptr 1 0 0,.imm (rs.map roR),.sl 4 0 F.length,.bool below] ⟨(4,.cells 1 (Z0 F)) :: kM m (imV P) 2 3 L X,5⟩ fun r mm=>
  r=.bool (W1 m below rs F L X).1∧mm=⟨kM m (imV P) 5 6 (W1 m below rs F L X).2.1 (W1 m below rs F L X).2.2,7⟩:=by
 refine Zg4 hm [53] Tryz.func27 cf46 rfl rfl fun K hK=>?_
 obtain⟨dh,c6⟩:∃ dh,dh=W1 m below rs F L X:=⟨_,rfl⟩
 rw[← c6]at hK;have d7:=Zlh P;have d8:=Zk9 P;have c:∀ q,(imV P).ren q=imV P:=fun q=>AVal.ren_closed q _ (Zaq hP)
 have bd:=fun J XR a b ha hb=>Z6f P hP J XR a b ha hb
 have H:∀ q,Z6 q (rs.map roR)=rs.map roR:=fun q=>X6 q _ (Zf0 rs)
 have bc:(rs.map roR).length=rs.length:=List.length_map ..;have dt:∀ i (h:i<rs.length),(rs.map roR)[i]? = some (roR rs[i]):=fun i h=>by rw[List.getElem?_map,gE h]; rfl
 have am:∀ q (l:List Nat),Z6 q (Z0 l)=Z0 l:=fun q l=>Z8 q l
 have ay:∀ q (l:List Int),Z6 q (Z2 l)=Z2 l:=fun q l=>X6 q _ (L5 l)
 have a7:∀ q (l:List (Int×Nd)),Z6 q (l.map ndL)=l.map ndL:=fun q l=>X6 q _ (Zg3 l)
 generalize imV P=PV at *;generalize hR:rs.map roR=R at *;simp[bc,W2];refine G1 (α:=Nat×List Nat×List (Nat×Nat)×List Nd) (fun a=>[(0,.ptr 1 0 0),(1,.imm R),(2,.sl 7 0 a.2.1.length),(3,.bool below),(15,.imm R),(16,.int .i64 rs.length),(17,.int .i64 a.1)])
  (fun a=>⟨(7,.cells 1 (Z0 a.2.1)) :: kM m PV 8 9 a.2.2.1 a.2.2.2,10⟩) (fun a=>rs.length - a.1)
  (fun a=>a.1≤rs.length∧OpE m a.2.1 oth a.2.2.1 a.2.2.2∧a.2.2.2.length+(rs.length - a.1)≤X.length+rs.length∧W1 m below (rs.drop a.1) a.2.1 a.2.2.1 a.2.2.2=dh)
  (0,F,L,X) [(7,4),(8,2),(9,3)] (by simp +contextual [kM,knB,H,am,ay,a7,c]) ⟨by simp,hO,by simp,by simpa using c6.symm⟩ ?_
 rintro⟨i,F,L,X⟩ ⟨hi,hO,hk,S⟩ N hN;simp only at hi hO hk S hN ⊢;obtain⟨c8,ds,d4⟩:=hO.lt;have ab:IntKind.i64.wrap ((i:Int)+1)=(i:Int)+1:=Z1 (by omega) (by omega)
 by_cases dq:i=rs.length
 ·subst dq;rw[List.drop_length]at S;simp only[W1]at S;subst S;have hd:(decide (F=[]))=decide (F.length=0):=by simp
  simp only[hd]at hK;simp;exact Z9 (hK _ _ ⟨rfl,rfl⟩) [(5,8),(6,9)] (by simp +contextual [kM,knB,am,ay,a7,c])
 have ba:i<rs.length:=by omega
 have hg:=dt i ba;obtain⟨_,a9⟩:=Y5 hg;rw[List.drop_eq_getElem_cons ba]at S;obtain⟨⟨kd,cf,nn,ov⟩,hr⟩:∃ r,r=rs[i]:=⟨_,rfl⟩
 rw[← hr]at S hg a9;simp only[W1,roR]at S hg a9;have be:IntKind.i64.wrap ((F.length:Int) - 1)=(F.length:Int) - 1:=Z1 (by omega) (by omega)
 by_cases h1:kd=1
 ·subst h1;by_cases c1:cf<0
  ·rw[if_neg (by simp only[J5]; first|omega|simp),if_neg (by simp only[I5]; omega)]at S
   subst S;have ah:=hK _ _ ⟨rfl,rfl⟩;clear hK hN bd;unfold kM knB at *;have v:=fun q=>a7 q (xJ m X)
   have ae:=fun q=>ay q (jnA (2*m+4*X.length) L)
   generalize (xJ m X).map ndL=XX at *;generalize Z2 (jnA (2*m+4*X.length) L)=JR at *;generalize 2*m+4*X.length=b1 at *;simp[ba,hg,a9,bc,be,c1];exact Z9 ah [(5,8),(6,9)] (by simp +contextual [am,v,ae,c])
  obtain⟨a,rfl⟩:∃ a:Nat,cf=(a:Int):=⟨cf.toNat,by omega⟩
  by_cases c2:(F.length:Int) - 1≤a
  ·rw[if_neg (by simp only[J5]; first|omega|simp),if_neg (by simp only[I5]; omega)]at S
   subst S;have ah:=hK _ _ ⟨rfl,rfl⟩;clear hK hN bd;unfold kM knB at *;have v:=fun q=>a7 q (xJ m X)
   have ae:=fun q=>ay q (jnA (2*m+4*X.length) L)
   generalize (xJ m X).map ndL=XX at *;generalize Z2 (jnA (2*m+4*X.length) L)=JR at *;generalize 2*m+4*X.length=b1 at *;simp[ba,hg,a9,bc,be,c1,c2];exact Z9 ah [(5,8),(6,9)] (by simp +contextual [am,v,ae,c])
  by_cases c3:nn=0
  ·subst c3;cases ov with
   | true=>
    rw[if_neg (by simp only[J5]; first|omega|simp),if_neg (by simp only[I5]; omega)]at S
    subst S;have ah:=hK _ _ ⟨rfl,rfl⟩;clear hK hN bd;unfold kM knB at *;have v:=fun q=>a7 q (xJ m X)
    have ae:=fun q=>ay q (jnA (2*m+4*X.length) L)
    generalize (xJ m X).map ndL=XX at *;generalize Z2 (jnA (2*m+4*X.length) L)=JR at *;generalize 2*m+4*X.length=b1 at *;simp[ba,hg,a9,bc,be,c1,c2];exact Z9 ah [(5,8),(6,9)] (by simp +contextual [am,v,ae,c])
   | false=>
    have dp:J5 F.length (1,(a:Int),0,false):=⟨rfl,by show(0:Int)≤a; omega,by show(a:Int)<F.length - 1; omega,rfl,rfl⟩
    rw[if_pos dp]at S;have ci:a+1<F.length:=by omega
    have cs:a<F.length:=by omega
    have db:=Zfu (l:=F) (i:=a) cs;obtain⟨_,c3⟩:=Y5 db;have dc:=Zfu (l:=F) (i:=a+1) ci;obtain⟨_,c5⟩:=Y5 dc;have d1:F.getD a 0<2*m+4*X.length:=c8 _ (Zco cs);have d2:F.getD (a+1) 0<2*m+4*X.length:=c8 _ (Zco ci);have hj:=bd (jnA (2*m+4*X.length) L) (xJ m X) (F.getD a 0) (F.getD (a+1) 0) (by rw[Zfp]; exact d1) (by rw[Zfp]; exact d2)
    rw[Zfp,← Zze]at hj;have U:=hO.cap ci;simp only[Int.toNat_natCast]at S;have cm:IntKind.i64.wrap ((a:Int)+1)=(a:Int)+1:=Z1 (by omega) (by omega)
    have cy:IntKind.i64.wrap ((a:Int)+2)=(a:Int)+2:=Z1 (by omega) (by omega)
    have dr:(0:Int)≤(a:Int)+1:=by omega
    have M:=hN (i+1,F.take a++F.drop (a+2),L++[(F.getD a 0,F.getD (a+1) 0)],X);simp only at M;have c7:Z0 (F.take a++F.drop (a+2))=Z0 (F.take a)++Z0 (F.drop (a+2)):=by simp[Z0]
    have ca:(F.take a++F.drop (a+2)).length=F.length - 2:=by simp; omega
    have I:=N9 F;have bb:(Z0 F).take a=Z0 (F.take a):=by simp[Z0]
    have u:(Z0 F).drop (a+2)=Z0 (F.drop (a+2)):=by simp[Z0]
    have g:(Z0 (F.take a)).length=a:=by rw[N9,List.length_take]; omega
    have ad:(Z0 (F.drop (a+2))).length=F.length - (a+2):=by rw[N9,List.length_drop]
    have b0:(Z0 (F.drop (a+2))).take (F.length - (a+2))=Z0 (F.drop (a+2)):=List.take_of_length_le (by rw[ad]; omega)
    have bw:=fun (h0:0<a)=>c77s (Z0 (F.take a)) (fun e=>by rw[e]at g; simp at g; omega) (by rw[g]; omega) (Zyx _) (Zas _)
    rw[g]at bw;have bi:=Zas (F.take a);have bj:=Zw0 (F.take a);have bl:=fun get=>Zqq (get:=get) (n:=3) (F.take a)
    have Y:=fun q=>am q (F.take a)
    have Z:=fun q=>am q (F.drop (a+2))
    rw[c7,ca]at M;clear hN bd;unfold kM knB at *;have v:=fun q=>a7 q (xJ m X)
    have ae:=fun q=>ay q (jnA (2*m+4*X.length) L)
    have ag:=fun q=>ay q (jnA (2*m+4*X.length) (L++[(F.getD a 0,F.getD (a+1) 0)]))
    generalize (xJ m X).map ndL=XX at *;generalize Z2 (jnA (2*m+4*X.length) (L++[(F.getD a 0,F.getD (a+1) 0)]))=d3 at *;generalize Z2 (jnA (2*m+4*X.length) L)=JR at *;generalize F.getD a 0=x at *;generalize F.getD (a+1) 0=y at *;have af:F.length≤1048578:=by omega
    have a8:a≤F.length:=by omega
    have bz:a+2≤F.length:=by omega
    have cc:(a:Int)+2≤F.length:=by omega
    have cx:((a:Int)+2).toNat=a+2:=by omega
    have c0:(0:Int)≤(a:Int)+2:=by omega
    generalize Z0 (F.take a)=Q at *;generalize Z0 (F.drop (a+2))=RB at *;by_cases w:XX=[]
    ·subst w;simp[ba,hg,a9,bc,be,c1,c2,db,c3,dc,c5,I,cs,ci,cm,dr];refine Zfq hj (by simp[]) [(1,1),(2,8),(3,9)] (by simp[]) (by simp +contextual [v,ae,c]) (by simp +contextual []) (by simp[subK]) (by decide) (by simp[]) (by simp[]) (by simp[]) ?_
     simp[v,ag,c,a8];by_cases aj:a=0
     ·subst aj;refine Zh8 (by simp) c77o ?_
      have cn:IntKind.i64.wrap 2=2:=rfl;have ai:Q=[]:=List.eq_nil_of_length_eq_zero g;subst ai;simp only[Nat.zero_add]at u ad b0;by_cases hq:F.length=2
      ·have E:RB=[]:=List.eq_nil_of_length_eq_zero (by omega)
       subst E;simp[cn,bz,c,ag,v,P1,X5,I,u,ad,hq];exact M [(7,56),(8,8),(9,9)] _ _ (by omega) ⟨by omega,U,by omega,S⟩ (by simp +contextual [ab,c,ag,v,Y,Z,H,hq])
      ·have b5:¬F.length - 2=0:=by omega
       simp[cn,bz,c,ag,v,P1,X5,I,u,ad,b0,b5,af];exact M [(7,62),(8,8),(9,9)] _ _ (by omega) ⟨by omega,U,by omega,S⟩ (by simp +contextual [ab,c,ag,v,Y,Z,H])
     ·refine Zhw [7] (args0:=[.imm Q]) ?_ (by simp only[X4,AVal.closed,bi,Bool.and_true]) bj (bw (by omega)) ?_
      ·simp only[List.map_cons,List.map_nil];rw[Zhq (k:=1) (els:=Z0 F) rfl (by simp[B7,Y8]) (by rw[I]; exact a8) (by rw[bb]; exact bl _),bb]
      have V:List.take a Q=Q:=List.take_of_length_le (by omega)
      have ac:List.drop a Q=[]:=List.drop_eq_nil_of_le (by omega)
      by_cases hq:F.length=a+2
      ·have E:RB=[]:=List.eq_nil_of_length_eq_zero (by omega)
       subst E;simp[cy,c0,bz,cc,cx,c,ag,v,P1,X5,I,g,u,ad,hq,V,ac];exact M [(7,56),(8,8),(9,9)] _ _ (by omega) ⟨by omega,U,by omega,S⟩ (by simp +contextual [ab,c,ag,v,Y,Z,H,hq])
      ·have b5:¬a+(F.length - (a+2))≤a:=by omega
       have dd:a+(F.length - (a+2))≤1048576:=by omega
       have df:a+(F.length - (a+2))=F.length - 2:=by omega
       simp[cy,c0,bz,cc,cx,c,ag,v,P1,X5,I,g,u,ad,b0,b5,dd,V];exact M [(7,62),(8,8),(9,9)] _ _ (by omega) ⟨by omega,U,by omega,S⟩ (by simp +contextual [ab,c,ag,v,Y,Z,H,df])
    ·simp[ba,hg,a9,bc,be,c1,c2,db,c3,dc,c5,I,cs,ci,cm,dr,Y7 w,w];refine Zfq hj (by simp[Y7 w,w]) [(1,1),(2,8),(3,9)] (by simp[Y7 w,w]) (by simp +contextual [v,ae,c,Y7 w,w]) (by simp +contextual [Y7 w,w]) (by simp[subK,Y7 w,w]) (by decide) (by simp[Y7 w,w]) (by simp[Y7 w,w]) (by simp[Y7 w,w]) ?_
     simp[v,ag,c,a8,Y7 w,w];by_cases aj:a=0
     ·subst aj;refine Zh8 (by simp) c77o ?_
      have cn:IntKind.i64.wrap 2=2:=rfl;have ai:Q=[]:=List.eq_nil_of_length_eq_zero g;subst ai;simp only[Nat.zero_add]at u ad b0;by_cases hq:F.length=2
      ·have E:RB=[]:=List.eq_nil_of_length_eq_zero (by omega)
       subst E;simp[cn,bz,c,ag,v,P1,X5,I,u,ad,hq,Y7 w,w];exact M [(7,56),(8,8),(9,9)] _ _ (by omega) ⟨by omega,U,by omega,S⟩ (by simp +contextual [ab,c,ag,v,Y,Z,H,hq,Y7 w,w])
      ·have b5:¬F.length - 2=0:=by omega
       simp[cn,bz,c,ag,v,P1,X5,I,u,ad,b0,b5,af,Y7 w,w];exact M [(7,62),(8,8),(9,9)] _ _ (by omega) ⟨by omega,U,by omega,S⟩ (by simp +contextual [ab,c,ag,v,Y,Z,H,Y7 w,w])
     ·refine Zhw [7] (args0:=[.imm Q]) ?_ (by simp only[X4,AVal.closed,bi,Bool.and_true]) bj (bw (by omega)) ?_
      ·simp only[List.map_cons,List.map_nil];rw[Zhq (k:=1) (els:=Z0 F) rfl (by simp[B7,Y8,Y7 w,w]) (by rw[I]; exact a8) (by rw[bb]; exact bl _),bb]
      have V:List.take a Q=Q:=List.take_of_length_le (by omega)
      have ac:List.drop a Q=[]:=List.drop_eq_nil_of_le (by omega)
      by_cases hq:F.length=a+2
      ·have E:RB=[]:=List.eq_nil_of_length_eq_zero (by omega)
       subst E;simp[cy,c0,bz,cc,cx,c,ag,v,P1,X5,I,g,u,ad,hq,V,ac,Y7 w,w];exact M [(7,56),(8,8),(9,9)] _ _ (by omega) ⟨by omega,U,by omega,S⟩ (by simp +contextual [ab,c,ag,v,Y,Z,H,hq,Y7 w,w])
      ·have b5:¬a+(F.length - (a+2))≤a:=by omega
       have dd:a+(F.length - (a+2))≤1048576:=by omega
       have df:a+(F.length - (a+2))=F.length - 2:=by omega
       simp[cy,c0,bz,cc,cx,c,ag,v,P1,X5,I,g,u,ad,b0,b5,dd,V,Y7 w,w];exact M [(7,62),(8,8),(9,9)] _ _ (by omega) ⟨by omega,U,by omega,S⟩ (by simp +contextual [ab,c,ag,v,Y,Z,H,df,Y7 w,w])
  ·rw[if_neg (by simp only[J5]; first|omega|simp),if_neg (by simp only[I5]; omega)]at S
   subst S;have ah:=hK _ _ ⟨rfl,rfl⟩;clear hK hN bd;unfold kM knB at *;have v:=fun q=>a7 q (xJ m X)
   have ae:=fun q=>ay q (jnA (2*m+4*X.length) L)
   generalize (xJ m X).map ndL=XX at *;generalize Z2 (jnA (2*m+4*X.length) L)=JR at *;generalize 2*m+4*X.length=b1 at *;simp[ba,hg,a9,bc,be,c1,c2,c3];exact Z9 ah [(5,8),(6,9)] (by simp +contextual [am,v,ae,c])
 ·by_cases h2:kd=2
  ·subst h2;by_cases c1:nn<1
   ·rw[if_neg (by simp only[J5]; first|omega|simp),if_neg (by simp only[I5]; omega)]at S
    subst S;have ah:=hK _ _ ⟨rfl,rfl⟩;clear hK hN bd;unfold kM knB at *;have v:=fun q=>a7 q (xJ m X)
    have ae:=fun q=>ay q (jnA (2*m+4*X.length) L)
    generalize (xJ m X).map ndL=XX at *;generalize Z2 (jnA (2*m+4*X.length) L)=JR at *;generalize 2*m+4*X.length=b1 at *;simp[ba,hg,a9,bc,be,c1];exact Z9 ah [(5,8),(6,9)] (by simp +contextual [am,v,ae,c])
   by_cases c2:4<nn
   ·rw[if_neg (by simp only[J5]; first|omega|simp),if_neg (by simp only[I5]; omega)]at S
    subst S;have ah:=hK _ _ ⟨rfl,rfl⟩;clear hK hN bd;unfold kM knB at *;have v:=fun q=>a7 q (xJ m X)
    have ae:=fun q=>ay q (jnA (2*m+4*X.length) L)
    generalize (xJ m X).map ndL=XX at *;generalize Z2 (jnA (2*m+4*X.length) L)=JR at *;generalize 2*m+4*X.length=b1 at *;simp[ba,hg,a9,bc,be,c1,c2];exact Z9 ah [(5,8),(6,9)] (by simp +contextual [am,v,ae,c])
   by_cases c3:cf<0
   ·rw[if_neg (by simp only[J5]; first|omega|simp),if_neg (by simp only[I5]; omega)]at S
    subst S;have ah:=hK _ _ ⟨rfl,rfl⟩;clear hK hN bd;unfold kM knB at *;have v:=fun q=>a7 q (xJ m X)
    have ae:=fun q=>ay q (jnA (2*m+4*X.length) L)
    generalize (xJ m X).map ndL=XX at *;generalize Z2 (jnA (2*m+4*X.length) L)=JR at *;generalize 2*m+4*X.length=b1 at *;simp[ba,hg,a9,bc,be,c1,c2,c3];exact Z9 ah [(5,8),(6,9)] (by simp +contextual [am,v,ae,c])
   obtain⟨a,rfl⟩:∃ a:Nat,cf=(a:Int):=⟨cf.toNat,by omega⟩
   obtain⟨k,rfl⟩:∃ k:Nat,nn=(k:Int):=⟨nn.toNat,by omega⟩
   have cm:IntKind.i64.wrap ((F.length:Int) - k)=(F.length:Int) - k:=Z1 (by omega) (by omega)
   by_cases c4:(F.length:Int) - k<a
   ·rw[if_neg (by simp only[J5]; first|omega|simp),if_neg (by simp only[I5]; omega)]at S
    subst S;have ah:=hK _ _ ⟨rfl,rfl⟩;clear hK hN bd;unfold kM knB at *;have v:=fun q=>a7 q (xJ m X)
    have ae:=fun q=>ay q (jnA (2*m+4*X.length) L)
    generalize (xJ m X).map ndL=XX at *;generalize Z2 (jnA (2*m+4*X.length) L)=JR at *;generalize 2*m+4*X.length=b1 at *;simp[ba,hg,a9,bc,be,c1,c2,c3,c4,cm];exact Z9 ah [(5,8),(6,9)] (by simp +contextual [am,v,ae,c])
   have dv:I5 F.length (2,(a:Int),(k:Int),ov):=⟨rfl,by show(1:Int)≤k; omega,by show(k:Int)≤4; omega,by show(0:Int)≤a; omega,by show(a:Int)≤F.length - k; omega⟩
   rw[if_neg (by simp only[J5]; omega),if_pos dv]at S
   simp only[Int.toNat_natCast]at S;have dx:1≤k:=by omega
   have dy:k≤4:=by omega
   have cj:a+k≤F.length:=by omega
   have U:=hO.cross dx dy cj (ov,below);have M:=hN (i+1,F.take a++K7 (2*m+4*X.length) k++F.drop (a+k),L++jnE F a (2*m+4*X.length) k,X++[(ov,below)]);simp only at M;clear hN;obtain⟨JR,c9⟩:∃ JR,JR=jnA (2*m+4*X.length) L:=⟨_,rfl⟩
   have bu:(Z2 JR).length=2*m+4*X.length:=by rw[Zap,c9,Zfp]
   have v:=fun q=>a7 q (xJ m X)
   unfold kM knB;rw[← c9];have dn:((xJ m X).map ndL).length=X.length:=by rw[List.length_map,Zmj]
   obtain⟨XX,dm⟩:∃ XX,XX=(xJ m X).map ndL:=⟨_,rfl⟩
   rw[← dm]at dn v ⊢;obtain⟨e,he⟩:∃ e,e=2*m+4*X.length:=⟨_,rfl⟩
   rw[← he]at bu M S U ⊢;simp[ba,hg,a9,bc,be,c1,c2,c3,c4,cm];have bv:=fun q=>am q F
   have ct:e≤1048575:=by omega
   have cu:e≤1048574:=by omega
   have cv:e≤1048573:=by omega
   have cw:e≤1048572:=by omega
   have du:X.length≤1048575:=by omega
   have cq:List.take (e+2) (Z2 JR++[[AVal.int .i64 (-1)],[.int .i64 (-1)]])=Z2 JR++[[.int .i64 (-1)],[.int .i64 (-1)]]:=List.take_of_length_le (by rw[List.length_append,bu]; exact Nat.le_refl _)
   have cr:List.take (e+3) (Z2 JR++[[AVal.int .i64 (-1)],[.int .i64 (-1)],[.int .i64 (-1)]])=Z2 JR++[[.int .i64 (-1)],[.int .i64 (-1)],[.int .i64 (-1)]]:=List.take_of_length_le (by rw[List.length_append,bu]; exact Nat.le_refl _)
   have cd:¬e+1≤e:=by omega
   have ce:¬e+2≤e+1:=by omega
   have cp:List.take (e+1) (Z2 JR++[[AVal.int .i64 (-1)]])=Z2 JR++[[.int .i64 (-1)]]:=List.take_of_length_le (by rw[List.length_append,bu]; exact Nat.le_refl _)
   have co:List.take e (Z2 JR)=Z2 JR:=List.take_of_length_le (by rw[bu]; exact Nat.le_refl _)
   have A:IntKind.i64.wrap 1=1:=rfl;have B:IntKind.i64.wrap 2=2:=rfl;have C:IntKind.i64.wrap 3=3:=rfl;have D:IntKind.i64.wrap 4=4:=rfl;have cl:=fun q=>ay q JR
   refine G1 (α:=Nat) (fun j=>[(0,.ptr 1 0 0),(1,.imm R),(2,.sl 7 0 F.length),(3,.bool below),(10,.ptr 10 0 0),(11,.ptr 11 0 0),(15,.imm R),(16,.int .i64 rs.length),(17,.int .i64 i),(98,.int .i64 j)])
    (fun j=>⟨(7,.cells 1 (Z0 F)) :: (1,.cells 3 [[PV,.sl 8 0 (e+j),slV 9 XX]]) :: (8,.cells 1 (Z2 JR++List.replicate j [.int .i64 (-1)])) ::
      (10,.cells 4 [[.int .i64 2,.int .i64 a,.int .i64 k,.bool ov]]) ::
      (11,.cells 6 [[.int .i64 (if 0<j then (e:Int)else 0),.int .i64 (if 1<j then (e:Int)+1 else 0),.int .i64 (if 2<j then (e:Int)+2 else 0),.int .i64 (if 3<j then (e:Int)+3 else 0),.bool ov,.bool below]]) :: blV 9 6 XX [],12⟩)
    (fun j=>4 - j) (fun j=>j≤4) 0 [(7,7),(8,8),(9,9),(10,13),(11,48)] (by simp +contextual [c,v,H,bv,cl]) (by omega) ?_
   intro j hj N3 cg;have dw:j=0∨j=1∨j=2∨j=3∨j=4:=by omega
   rcases dw with rfl|rfl|rfl|rfl|rfl
   ·have bg:=cg 1;simp[bu,X5,ct,cu,cv,cw,co,cp,cq,cr,cd,ce];exact bg [(7,7),(8,30),(9,9),(10,10),(11,11)] _ _ (by omega) (by omega) (by simp +contextual [c,v,H,bv,cl,A])
   ·have bg:=cg 2;simp[bu,X5,ct,cu,cv,cw,co,cp,cq,cr,cd,ce];exact bg [(7,7),(8,30),(9,9),(10,10),(11,11)] _ _ (by omega) (by omega) (by simp +contextual [c,v,H,bv,cl,B])
   ·have bg:=cg 3;simp[bu,X5,ct,cu,cv,cw,co,cp,cq,cr,cd,ce];exact bg [(7,7),(8,30),(9,9),(10,10),(11,11)] _ _ (by omega) (by omega) (by simp +contextual [c,v,H,bv,cl,C])
   ·have bg:=cg 4;simp[bu,X5,ct,cu,cv,cw,co,cp,cq,cr,cd,ce];exact bg [(7,7),(8,30),(9,9),(10,10),(11,11)] _ _ (by omega) (by omega) (by simp +contextual [c,v,H,bv,cl,D])
   ·simp[bu,dn,du];have da:(xJ m (X++[(ov,below)])).map ndL=XX++[[.int .i64 e,.int .i64 ((e:Int)+1),.int .i64 ((e:Int)+2),.int .i64 ((e:Int)+3),.bool ov,.bool below]]:=by
     rw[Z19,List.map_append,← dm,← he];rfl
    have c2:((xJ m (X++[(ov,below)])).map ndL).length=X.length+1:=by rw[List.length_map,Zmj]; simp
    have cb:(xJ m (X++[(ov,below)])).map ndL≠[]:=by rw[da]; simp
    have s:=fun q=>a7 q (xJ m (X++[(ov,below)]))
    have dj:Z2 (jnA (e+4) (L++jnE F a e 0))=Z2 JR++[[.int .i64 (-1)],[.int .i64 (-1)],[.int .i64 (-1)],[.int .i64 (-1)]]:=by
     have e1:L++jnE F a e 0=L:=by simp[jnE]
     rw[e1,Z1m 4 (by rw[he]; exact ds),c9,he]
     simp[Z2]
    have di:∀ t,t<k→F.getD (a+t) 0<e+4:=fun t ht=>by
     have:=c8 _ (Zco (l:=F) (i:=a+t) (by omega))
     omega
    have ck:∀ t,t<k→(Z0 F)[a+t]? = some [.int .i64 ((F.getD (a+t) 0:Nat):Int)]:=fun t ht=>Zfu (by omega)
    have bx:∀ t,t<k→_:=fun t ht=>bd (jnA (e+4) (L++jnE F a e t)) (xJ m (X++[(ov,below)])) (F.getD (a+t) 0) (e+(4 - t) % 4) (by rw[Zfp]; exact di t ht) (by rw[Zfp]; omega)
    simp only[Zfp,← Zze,List.append_assoc,← Zuw]at bx;have bf:=fun q t=>ay q (jnA (e+4) (L++jnE F a e t))
    have dk:=fun t=>(Zap (jnA (e+4) (L++jnE F a e t))).trans (Zfp _ _)
    have I:=N9 F;have cz:IntKind.i64.wrap (a:Int)=a:=Z1 (by omega) (by omega)
    rw[← da,← dj];clear bd da cg dj;unfold knB slV at bx;simp only[if_neg cb,Y7 cb,c2]at bx;have dz:2*m+4*(X++[(ov,below)]).length=e+4:=by simp; omega
    unfold kM knB slV at M;simp only[dz,if_neg cb,Y7 cb,c2]at M;generalize (xJ m (X++[(ov,below)])).map ndL=X2 at *;refine G1 (α:=Nat) (fun t=>[(0,.ptr 1 0 0),(1,.imm R),(2,.sl 7 0 F.length),(3,.bool below),(10,.ptr 10 0 0),(11,.ptr 11 0 0),(15,.imm R),(16,.int .i64 rs.length),(17,.int .i64 i),(130,.int .i64 k),(131,.int .i64 t)])
     (fun t=>⟨[(7,.cells 1 (Z0 F)),(1,.cells 3 [[PV,.sl 8 0 (e+4),.sl 9 0 (X.length+1)]]),(8,.cells 1 (Z2 (jnA (e+4) (L++jnE F a e t)))),(9,.cells 6 X2),
       (10,.cells 4 [[.int .i64 2,.int .i64 a,.int .i64 k,.bool ov]]),
       (11,.cells 6 [[.int .i64 (e:Int),.int .i64 ((e:Int)+1),.int .i64 ((e:Int)+2),.int .i64 ((e:Int)+3),.bool ov,.bool below]])],12⟩)
     (fun t=>k - t) (fun t=>t≤k) 0 [(7,7),(8,8),(9,20),(10,10),(11,11)] (by simp +contextual [c,H,bv,bf,s]) (by omega) ?_
    intro t ht N5 ch;by_cases d0:t=k
    ·subst d0;have O:=fun q=>bf q t
     have bb:(Z0 F).take a=Z0 (F.take a):=by simp[Z0]
     have u:(Z0 F).drop (a+t)=Z0 (F.drop (a+t)):=by simp[Z0]
     have g:(Z0 (F.take a)).length=a:=by rw[N9,List.length_take]; omega
     have ad:(Z0 (F.drop (a+t))).length=F.length - (a+t):=by rw[N9,List.length_drop]
     have b0:(Z0 (F.drop (a+t))).take (F.length - (a+t))=Z0 (F.drop (a+t)):=List.take_of_length_le (by rw[ad]; omega)
     have bw:=fun (h0:0<a)=>c77s (Z0 (F.take a)) (fun e=>by rw[e]at g; simp at g; omega) (by rw[g]; omega) (Zyx _) (Zas _)
     rw[g]at bw;have bi:=Zas (F.take a);have bj:=Zw0 (F.take a);have bl:=fun get=>Zqq (get:=get) (n:=3) (F.take a)
     have Y:=fun q=>am q (F.take a)
     have Z:=fun q=>am q (F.drop (a+t))
     have a8:a≤F.length:=by omega
     have c7:Z0 (F.take a++K7 e t++F.drop (a+t))=Z0 (F.take a)++Z0 (K7 e t)++Z0 (F.drop (a+t)):=by simp[Z0]
     have ca:(F.take a++K7 e t++F.drop (a+t)).length=a+(4 - t)+(F.length - (a+t)):=by simp[K7]; omega
     have eb:IntKind.i64.wrap ((a:Int)+t)=(a:Int)+t:=Z1 (by omega) (by omega)
     have ec:(0:Int)≤(a:Int)+t:=by omega
     have ea:((a:Int)+t).toNat=a+t:=by omega
     obtain⟨d,hd⟩:∃ d,F.length=a+t+d:=⟨F.length - (a+t),by omega⟩
     have G:(Z0 (F.drop (a+t))).length=d:=by rw[ad]; omega
     have aa:(Z0 (F.drop (a+t))).take d=Z0 (F.drop (a+t)):=List.take_of_length_le (by rw[G]; exact Nat.le_refl _)
     have c1:(F.take a++K7 e t++F.drop (a+t)).length=a+(4 - t)+d:=by rw[ca]; omega
     rw[c7,c1]at M;clear ca ad b0 c1 di;have d9:=fun q=>am q (K7 e t)
     have d5:a≤100000:=by omega
     have d6:d≤100000:=by omega
     have af:a≤1048575:=by omega
     have ar:a≤1048574:=by omega
     have au:a≤1048573:=by omega
     have av:¬a+1≤a:=by omega
     have aw:¬a+2≤a:=by omega
     have ax:¬a+3≤a:=by omega
     clear ck bx bf dk ch;generalize Z2 (jnA (e+4) (L++jnE F a e t))=R5 at *;generalize Z0 (F.take a)=Q at *;generalize Z0 (F.drop (a+t))=RB at *;have dg:t=1∨t=2∨t=3∨t=4:=by omega
     rcases dg with rfl|rfl|rfl|rfl
     ·simp[A,B,C,D];rw[Zno (x0:=(e:Int)) (x1:=(e:Int)+1) (x2:=(e:Int)+2) (x3:=(e:Int)+3) (o:=ov) (p:=below) (by simp) (by omega) (by omega)]
      have b4:a≤a+1+d:=by omega
      have ao:IntKind.i64.wrap ((a:Int)+1)=(a:Int)+1:=Z1 (by omega) (by omega)
      have aq:(0:Int)≤(a:Int)+1:=by omega
      have an:((a:Int)+1).toNat=a+1:=by omega
      have al:a+1≤a+1+d:=by omega
      simp[hd,b4];by_cases aj:a=0
      ·subst aj;refine Zh8 (by simp) c77o ?_
       have ai:Q=[]:=List.eq_nil_of_length_eq_zero g;subst ai;simp only[Nat.zero_add]at u cj hd;by_cases hq:d=0
       ·have E:RB=[]:=List.eq_nil_of_length_eq_zero (by omega)
        subst E;subst hq;simp[A,B,C,D,c,O,s,P1,X5,hd,u,G,aa,af,ar,au,av,aw,ax];exact M [(7,25 - 2*(1 / 4)),(8,8),(9,9)] _ _ (by omega) ⟨by omega,U,by simp; omega,S⟩ (by simp +contextual [ab,c,O,s,Y,Z,H,hd,g,C7,D9,C0,C9,Z0])
       ·have a0:¬1+d≤1:=by omega
        have a1:¬2+d≤2:=by omega
        have a2:¬3+d≤3:=by omega
        have a3:1+d≤1048576:=by omega
        have a4:2+d≤1048576:=by omega
        have a5:3+d≤1048576:=by omega
        have a6:d≤1048576:=by omega
        simp[a0,a1,a2,a3,a4,a5,a6,A,B,C,D,c,O,s,P1,X5,hd,u,G,aa,af,ar,au,av,aw,ax,hq];exact M [(7,33),(8,8),(9,9)] _ _ (by omega) ⟨by omega,U,by simp; omega,S⟩ (by simp +contextual [ab,c,O,s,Y,Z,H,hd,C7,D9,C0,C9,Z0])
      ·refine Zhw [7] (args0:=[.imm Q]) ?_ (by simp only[X4,AVal.closed,bi,Bool.and_true]) bj (bw (by omega)) ?_
       ·simp only[List.map_cons,List.map_nil];rw[Zhq (k:=1) (els:=Z0 F) rfl (by simp[B7,Y8]) (by rw[I]; exact a8) (by rw[bb]; exact bl _),bb]
       have V:List.take a Q=Q:=List.take_of_length_le (by omega)
       have ac:List.drop a Q=[]:=List.drop_eq_nil_of_le (by omega)
       have bm:∀ x:List AVal,List.take (a+1) (Q++[x])=Q++[x]:=fun x=>List.take_of_length_le (by rw[List.length_append,g]; exact Nat.le_refl _)
       have bn:∀ x y:List AVal,List.take (a+2) (Q++[x,y])=Q++[x,y]:=fun x y=>List.take_of_length_le (by rw[List.length_append,g]; exact Nat.le_refl _)
       have bp:∀ x y z:List AVal,List.take (a+3) (Q++[x,y,z])=Q++[x,y,z]:=fun x y z=>List.take_of_length_le (by rw[List.length_append,g]; exact Nat.le_refl _)
       by_cases hq:d=0
       ·have E:RB=[]:=List.eq_nil_of_length_eq_zero (by omega)
        subst E;subst hq;simp[bm,bn,bp,ao,aq,an,al,g,V,ac,A,B,C,D,c,O,s,P1,X5,hd,u,G,aa,af,ar,au,av,aw,ax];exact M [(7,25 - 2*(1 / 4)),(8,8),(9,9)] _ _ (by omega) ⟨by omega,U,by simp; omega,S⟩ (by simp +contextual [ab,c,O,s,Y,Z,H,hd,g,C7,D9,C0,C9,Z0])
       ·have a0:¬a+1+d≤a+1:=by omega
        have a1:¬a+2+d≤a+2:=by omega
        have a2:¬a+3+d≤a+3:=by omega
        have a3:a+1+d≤1048576:=by omega
        have a4:a+2+d≤1048576:=by omega
        have a5:a+3+d≤1048576:=by omega
        have a6:a+d≤1048576:=by omega
        have b3:¬a+d≤a:=by omega
        simp[a0,a1,a2,a3,a4,a5,a6,b3,bm,bn,bp,ao,aq,an,al,g,V,ac,A,B,C,D,c,O,s,P1,X5,hd,u,G,aa,af,ar,au,av,aw,ax,hq];exact M [(7,33),(8,8),(9,9)] _ _ (by omega) ⟨by omega,U,by simp; omega,S⟩ (by simp +contextual [ab,c,O,s,Y,Z,H,hd,C7,D9,C0,C9,Z0])
     ·simp[A,B,C,D];rw[Zno (x0:=(e:Int)) (x1:=(e:Int)+1) (x2:=(e:Int)+2) (x3:=(e:Int)+3) (o:=ov) (p:=below) (by simp) (by omega) (by omega)]
      have b4:a≤a+2+d:=by omega
      have ao:IntKind.i64.wrap ((a:Int)+2)=(a:Int)+2:=Z1 (by omega) (by omega)
      have aq:(0:Int)≤(a:Int)+2:=by omega
      have an:((a:Int)+2).toNat=a+2:=by omega
      have al:a+2≤a+2+d:=by omega
      simp[hd,b4];by_cases aj:a=0
      ·subst aj;refine Zh8 (by simp) c77o ?_
       have ai:Q=[]:=List.eq_nil_of_length_eq_zero g;subst ai;simp only[Nat.zero_add]at u cj hd;by_cases hq:d=0
       ·have E:RB=[]:=List.eq_nil_of_length_eq_zero (by omega)
        subst E;subst hq;simp[A,B,C,D,c,O,s,P1,X5,hd,u,G,aa,af,ar,au,av,aw,ax];exact M [(7,25 - 2*(2 / 4)),(8,8),(9,9)] _ _ (by omega) ⟨by omega,U,by simp; omega,S⟩ (by simp +contextual [ab,c,O,s,Y,Z,H,hd,g,C7,D9,C0,C9,Z0])
       ·have a0:¬1+d≤1:=by omega
        have a1:¬2+d≤2:=by omega
        have a2:¬3+d≤3:=by omega
        have a3:1+d≤1048576:=by omega
        have a4:2+d≤1048576:=by omega
        have a5:3+d≤1048576:=by omega
        have a6:d≤1048576:=by omega
        simp[a0,a1,a2,a3,a4,a5,a6,A,B,C,D,c,O,s,P1,X5,hd,u,G,aa,af,ar,au,av,aw,ax,hq];exact M [(7,33),(8,8),(9,9)] _ _ (by omega) ⟨by omega,U,by simp; omega,S⟩ (by simp +contextual [ab,c,O,s,Y,Z,H,hd,C7,D9,C0,C9,Z0])
      ·refine Zhw [7] (args0:=[.imm Q]) ?_ (by simp only[X4,AVal.closed,bi,Bool.and_true]) bj (bw (by omega)) ?_
       ·simp only[List.map_cons,List.map_nil];rw[Zhq (k:=1) (els:=Z0 F) rfl (by simp[B7,Y8]) (by rw[I]; exact a8) (by rw[bb]; exact bl _),bb]
       have V:List.take a Q=Q:=List.take_of_length_le (by omega)
       have ac:List.drop a Q=[]:=List.drop_eq_nil_of_le (by omega)
       have bm:∀ x:List AVal,List.take (a+1) (Q++[x])=Q++[x]:=fun x=>List.take_of_length_le (by rw[List.length_append,g]; exact Nat.le_refl _)
       have bn:∀ x y:List AVal,List.take (a+2) (Q++[x,y])=Q++[x,y]:=fun x y=>List.take_of_length_le (by rw[List.length_append,g]; exact Nat.le_refl _)
       have bp:∀ x y z:List AVal,List.take (a+3) (Q++[x,y,z])=Q++[x,y,z]:=fun x y z=>List.take_of_length_le (by rw[List.length_append,g]; exact Nat.le_refl _)
       by_cases hq:d=0
       ·have E:RB=[]:=List.eq_nil_of_length_eq_zero (by omega)
        subst E;subst hq;simp[bm,bn,bp,ao,aq,an,al,g,V,ac,A,B,C,D,c,O,s,P1,X5,hd,u,G,aa,af,ar,au,av,aw,ax];exact M [(7,25 - 2*(2 / 4)),(8,8),(9,9)] _ _ (by omega) ⟨by omega,U,by simp; omega,S⟩ (by simp +contextual [ab,c,O,s,Y,Z,H,hd,g,C7,D9,C0,C9,Z0])
       ·have a0:¬a+1+d≤a+1:=by omega
        have a1:¬a+2+d≤a+2:=by omega
        have a2:¬a+3+d≤a+3:=by omega
        have a3:a+1+d≤1048576:=by omega
        have a4:a+2+d≤1048576:=by omega
        have a5:a+3+d≤1048576:=by omega
        have a6:a+d≤1048576:=by omega
        have b3:¬a+d≤a:=by omega
        simp[a0,a1,a2,a3,a4,a5,a6,b3,bm,bn,bp,ao,aq,an,al,g,V,ac,A,B,C,D,c,O,s,P1,X5,hd,u,G,aa,af,ar,au,av,aw,ax,hq];exact M [(7,33),(8,8),(9,9)] _ _ (by omega) ⟨by omega,U,by simp; omega,S⟩ (by simp +contextual [ab,c,O,s,Y,Z,H,hd,C7,D9,C0,C9,Z0])
     ·simp[A,B,C,D];rw[Zno (x0:=(e:Int)) (x1:=(e:Int)+1) (x2:=(e:Int)+2) (x3:=(e:Int)+3) (o:=ov) (p:=below) (by simp) (by omega) (by omega)]
      have b4:a≤a+3+d:=by omega
      have ao:IntKind.i64.wrap ((a:Int)+3)=(a:Int)+3:=Z1 (by omega) (by omega)
      have aq:(0:Int)≤(a:Int)+3:=by omega
      have an:((a:Int)+3).toNat=a+3:=by omega
      have al:a+3≤a+3+d:=by omega
      simp[hd,b4];by_cases aj:a=0
      ·subst aj;refine Zh8 (by simp) c77o ?_
       have ai:Q=[]:=List.eq_nil_of_length_eq_zero g;subst ai;simp only[Nat.zero_add]at u cj hd;by_cases hq:d=0
       ·have E:RB=[]:=List.eq_nil_of_length_eq_zero (by omega)
        subst E;subst hq;simp[A,B,C,D,c,O,s,P1,X5,hd,u,G,aa,af,ar,au,av,aw,ax];exact M [(7,25 - 2*(3 / 4)),(8,8),(9,9)] _ _ (by omega) ⟨by omega,U,by simp; omega,S⟩ (by simp +contextual [ab,c,O,s,Y,Z,H,hd,g,C7,D9,C0,C9,Z0])
       ·have a0:¬1+d≤1:=by omega
        have a1:¬2+d≤2:=by omega
        have a2:¬3+d≤3:=by omega
        have a3:1+d≤1048576:=by omega
        have a4:2+d≤1048576:=by omega
        have a5:3+d≤1048576:=by omega
        have a6:d≤1048576:=by omega
        simp[a0,a1,a2,a3,a4,a5,a6,A,B,C,D,c,O,s,P1,X5,hd,u,G,aa,af,ar,au,av,aw,ax,hq];exact M [(7,33),(8,8),(9,9)] _ _ (by omega) ⟨by omega,U,by simp; omega,S⟩ (by simp +contextual [ab,c,O,s,Y,Z,H,hd,C7,D9,C0,C9,Z0])
      ·refine Zhw [7] (args0:=[.imm Q]) ?_ (by simp only[X4,AVal.closed,bi,Bool.and_true]) bj (bw (by omega)) ?_
       ·simp only[List.map_cons,List.map_nil];rw[Zhq (k:=1) (els:=Z0 F) rfl (by simp[B7,Y8]) (by rw[I]; exact a8) (by rw[bb]; exact bl _),bb]
       have V:List.take a Q=Q:=List.take_of_length_le (by omega)
       have ac:List.drop a Q=[]:=List.drop_eq_nil_of_le (by omega)
       have bm:∀ x:List AVal,List.take (a+1) (Q++[x])=Q++[x]:=fun x=>List.take_of_length_le (by rw[List.length_append,g]; exact Nat.le_refl _)
       have bn:∀ x y:List AVal,List.take (a+2) (Q++[x,y])=Q++[x,y]:=fun x y=>List.take_of_length_le (by rw[List.length_append,g]; exact Nat.le_refl _)
       have bp:∀ x y z:List AVal,List.take (a+3) (Q++[x,y,z])=Q++[x,y,z]:=fun x y z=>List.take_of_length_le (by rw[List.length_append,g]; exact Nat.le_refl _)
       by_cases hq:d=0
       ·have E:RB=[]:=List.eq_nil_of_length_eq_zero (by omega)
        subst E;subst hq;simp[bm,bn,bp,ao,aq,an,al,g,V,ac,A,B,C,D,c,O,s,P1,X5,hd,u,G,aa,af,ar,au,av,aw,ax];exact M [(7,25 - 2*(3 / 4)),(8,8),(9,9)] _ _ (by omega) ⟨by omega,U,by simp; omega,S⟩ (by simp +contextual [ab,c,O,s,Y,Z,H,hd,g,C7,D9,C0,C9,Z0])
       ·have a0:¬a+1+d≤a+1:=by omega
        have a1:¬a+2+d≤a+2:=by omega
        have a2:¬a+3+d≤a+3:=by omega
        have a3:a+1+d≤1048576:=by omega
        have a4:a+2+d≤1048576:=by omega
        have a5:a+3+d≤1048576:=by omega
        have a6:a+d≤1048576:=by omega
        have b3:¬a+d≤a:=by omega
        simp[a0,a1,a2,a3,a4,a5,a6,b3,bm,bn,bp,ao,aq,an,al,g,V,ac,A,B,C,D,c,O,s,P1,X5,hd,u,G,aa,af,ar,au,av,aw,ax,hq];exact M [(7,33),(8,8),(9,9)] _ _ (by omega) ⟨by omega,U,by simp; omega,S⟩ (by simp +contextual [ab,c,O,s,Y,Z,H,hd,C7,D9,C0,C9,Z0])
     ·simp[A,B,C,D];rw[Zno (x0:=(e:Int)) (x1:=(e:Int)+1) (x2:=(e:Int)+2) (x3:=(e:Int)+3) (o:=ov) (p:=below) (by simp) (by omega) (by omega)]
      have b4:a≤a+4+d:=by omega
      have ao:IntKind.i64.wrap ((a:Int)+4)=(a:Int)+4:=Z1 (by omega) (by omega)
      have aq:(0:Int)≤(a:Int)+4:=by omega
      have an:((a:Int)+4).toNat=a+4:=by omega
      have al:a+4≤a+4+d:=by omega
      simp[hd,b4];by_cases aj:a=0
      ·subst aj;refine Zh8 (by simp) c77o ?_
       have ai:Q=[]:=List.eq_nil_of_length_eq_zero g;subst ai;simp only[Nat.zero_add]at u cj hd;by_cases hq:d=0
       ·have E:RB=[]:=List.eq_nil_of_length_eq_zero (by omega)
        subst E;subst hq;simp[A,B,C,D,c,O,s,P1,X5,hd,u,G,aa,af,ar,au,av,aw,ax];exact M [(7,25 - 2*(4 / 4)),(8,8),(9,9)] _ _ (by omega) ⟨by omega,U,by simp; omega,S⟩ (by simp +contextual [ab,c,O,s,Y,Z,H,hd,g,C7,D9,C0,C9,Z0])
       ·have a0:¬1+d≤1:=by omega
        have a1:¬2+d≤2:=by omega
        have a2:¬3+d≤3:=by omega
        have a3:1+d≤1048576:=by omega
        have a4:2+d≤1048576:=by omega
        have a5:3+d≤1048576:=by omega
        have a6:d≤1048576:=by omega
        simp[a0,a1,a2,a3,a4,a5,a6,A,B,C,D,c,O,s,P1,X5,hd,u,G,aa,af,ar,au,av,aw,ax,hq];exact M [(7,33),(8,8),(9,9)] _ _ (by omega) ⟨by omega,U,by simp; omega,S⟩ (by simp +contextual [ab,c,O,s,Y,Z,H,hd,C7,D9,C0,C9,Z0])
      ·refine Zhw [7] (args0:=[.imm Q]) ?_ (by simp only[X4,AVal.closed,bi,Bool.and_true]) bj (bw (by omega)) ?_
       ·simp only[List.map_cons,List.map_nil];rw[Zhq (k:=1) (els:=Z0 F) rfl (by simp[B7,Y8]) (by rw[I]; exact a8) (by rw[bb]; exact bl _),bb]
       have V:List.take a Q=Q:=List.take_of_length_le (by omega)
       have ac:List.drop a Q=[]:=List.drop_eq_nil_of_le (by omega)
       have bm:∀ x:List AVal,List.take (a+1) (Q++[x])=Q++[x]:=fun x=>List.take_of_length_le (by rw[List.length_append,g]; exact Nat.le_refl _)
       have bn:∀ x y:List AVal,List.take (a+2) (Q++[x,y])=Q++[x,y]:=fun x y=>List.take_of_length_le (by rw[List.length_append,g]; exact Nat.le_refl _)
       have bp:∀ x y z:List AVal,List.take (a+3) (Q++[x,y,z])=Q++[x,y,z]:=fun x y z=>List.take_of_length_le (by rw[List.length_append,g]; exact Nat.le_refl _)
       by_cases hq:d=0
       ·have E:RB=[]:=List.eq_nil_of_length_eq_zero (by omega)
        subst E;subst hq;simp[bm,bn,bp,ao,aq,an,al,g,V,ac,A,B,C,D,c,O,s,P1,X5,hd,u,G,aa,af,ar,au,av,aw,ax];exact M [(7,25 - 2*(4 / 4)),(8,8),(9,9)] _ _ (by omega) ⟨by omega,U,by simp; omega,S⟩ (by simp +contextual [ab,c,O,s,Y,Z,H,hd,g,C7,D9,C0,C9,Z0])
       ·have a0:¬a+1+d≤a+1:=by omega
        have a1:¬a+2+d≤a+2:=by omega
        have a2:¬a+3+d≤a+3:=by omega
        have a3:a+1+d≤1048576:=by omega
        have a4:a+2+d≤1048576:=by omega
        have a5:a+3+d≤1048576:=by omega
        have a6:a+d≤1048576:=by omega
        have b3:¬a+d≤a:=by omega
        simp[a0,a1,a2,a3,a4,a5,a6,b3,bm,bn,bp,ao,aq,an,al,g,V,ac,A,B,C,D,c,O,s,P1,X5,hd,u,G,aa,af,ar,au,av,aw,ax,hq];exact M [(7,33),(8,8),(9,9)] _ _ (by omega) ⟨by omega,U,by simp; omega,S⟩ (by simp +contextual [ab,c,O,s,Y,Z,H,hd,C7,D9,C0,C9,Z0])
    ·have dg:t=0∨t=1∨t=2∨t=3:=by omega
     rcases dg with rfl|rfl|rfl|rfl
     ·have bh:=ch 1;have hj:=bx 0 (by omega)
      have az:=ck 0 (by omega)
      obtain⟨_,ak⟩:=Y5 az;have b8:IntKind.i64.wrap ((a:Int)+0)=(a:Int)+0:=Z1 (by omega) (by omega)
      have b9:(0:Int)≤(a:Int)+0:=by omega
      have br:a+0<F.length:=by omega
      have bs:(a:Int)+0<F.length:=by omega
      have b7:((a:Int)+0).toNat=a+0:=by omega
      have b6:=fun q=>bf q 0
      have bt:=fun q=>bf q 1
      have b2:(0:Int)<(k:Int):=by omega
      have bq:0<k:=by omega
      simp only[Nat.add_zero,Nat.reduceSub,Nat.reduceMod,Nat.reduceAdd]at hj az ak br;generalize F.getD (a+0) 0=y at *;generalize Z2 (jnA (e+4) (L++jnE F a e 0))=R5 at *;generalize Z2 (jnA (e+4) (L++jnE F a e 1))=R6 at *;simp[b2,bq,az,ak,b8,cz,b9,br,bs,b7,I,A,B,C,D];refine Zfq hj (by simp) [(1,1),(2,8),(3,9)] (by simp) (by simp +contextual [s,b6,c]) (by simp +contextual) (by simp[subK]) (by decide) (by simp) (by simp) (by simp) ?_
      simp[s,bt,c];exact bh [(7,7),(8,8),(9,9),(10,10),(11,11)] _ _ (by omega) (by omega) (by simp +contextual [bt,s,c,H,bv])
     ·have bh:=ch 2;have hj:=bx 1 (by omega)
      have az:=ck 1 (by omega)
      obtain⟨_,ak⟩:=Y5 az;have b8:IntKind.i64.wrap ((a:Int)+1)=(a:Int)+1:=Z1 (by omega) (by omega)
      have b9:(0:Int)≤(a:Int)+1:=by omega
      have br:a+1<F.length:=by omega
      have bs:(a:Int)+1<F.length:=by omega
      have b7:((a:Int)+1).toNat=a+1:=by omega
      have b6:=fun q=>bf q 1
      have bt:=fun q=>bf q 2
      have b2:(1:Int)<(k:Int):=by omega
      have bq:1<k:=by omega
      simp only[Nat.add_zero,Nat.reduceSub,Nat.reduceMod,Nat.reduceAdd]at hj az ak br;generalize F.getD (a+1) 0=y at *;generalize Z2 (jnA (e+4) (L++jnE F a e 1))=R5 at *;generalize Z2 (jnA (e+4) (L++jnE F a e 2))=R6 at *;simp[b2,bq,az,ak,b8,cz,b9,br,bs,b7,I,A,B,C,D];refine Zfq hj (by simp) [(1,1),(2,8),(3,9)] (by simp) (by simp +contextual [s,b6,c]) (by simp +contextual) (by simp[subK]) (by decide) (by simp) (by simp) (by simp) ?_
      simp[s,bt,c];exact bh [(7,7),(8,8),(9,9),(10,10),(11,11)] _ _ (by omega) (by omega) (by simp +contextual [bt,s,c,H,bv])
     ·have bh:=ch 3;have hj:=bx 2 (by omega)
      have az:=ck 2 (by omega)
      obtain⟨_,ak⟩:=Y5 az;have b8:IntKind.i64.wrap ((a:Int)+2)=(a:Int)+2:=Z1 (by omega) (by omega)
      have b9:(0:Int)≤(a:Int)+2:=by omega
      have br:a+2<F.length:=by omega
      have bs:(a:Int)+2<F.length:=by omega
      have b7:((a:Int)+2).toNat=a+2:=by omega
      have b6:=fun q=>bf q 2
      have bt:=fun q=>bf q 3
      have b2:(2:Int)<(k:Int):=by omega
      have bq:2<k:=by omega
      simp only[Nat.add_zero,Nat.reduceSub,Nat.reduceMod,Nat.reduceAdd]at hj az ak br;generalize F.getD (a+2) 0=y at *;generalize Z2 (jnA (e+4) (L++jnE F a e 2))=R5 at *;generalize Z2 (jnA (e+4) (L++jnE F a e 3))=R6 at *;simp[b2,bq,az,ak,b8,cz,b9,br,bs,b7,I,A,B,C,D];refine Zfq hj (by simp) [(1,1),(2,8),(3,9)] (by simp) (by simp +contextual [s,b6,c]) (by simp +contextual) (by simp[subK]) (by decide) (by simp) (by simp) (by simp) ?_
      simp[s,bt,c];exact bh [(7,7),(8,8),(9,9),(10,10),(11,11)] _ _ (by omega) (by omega) (by simp +contextual [bt,s,c,H,bv])
     ·have bh:=ch 4;have hj:=bx 3 (by omega)
      have az:=ck 3 (by omega)
      obtain⟨_,ak⟩:=Y5 az;have b8:IntKind.i64.wrap ((a:Int)+3)=(a:Int)+3:=Z1 (by omega) (by omega)
      have b9:(0:Int)≤(a:Int)+3:=by omega
      have br:a+3<F.length:=by omega
      have bs:(a:Int)+3<F.length:=by omega
      have b7:((a:Int)+3).toNat=a+3:=by omega
      have b6:=fun q=>bf q 3
      have bt:=fun q=>bf q 4
      have b2:(3:Int)<(k:Int):=by omega
      have bq:3<k:=by omega
      simp only[Nat.add_zero,Nat.reduceSub,Nat.reduceMod,Nat.reduceAdd]at hj az ak br;generalize F.getD (a+3) 0=y at *;generalize Z2 (jnA (e+4) (L++jnE F a e 3))=R5 at *;generalize Z2 (jnA (e+4) (L++jnE F a e 4))=R6 at *;simp[b2,bq,az,ak,b8,cz,b9,br,bs,b7,I,A,B,C,D];refine Zfq hj (by simp) [(1,1),(2,8),(3,9)] (by simp) (by simp +contextual [s,b6,c]) (by simp +contextual) (by simp[subK]) (by decide) (by simp) (by simp) (by simp) ?_
      simp[s,bt,c];exact bh [(7,7),(8,8),(9,9),(10,10),(11,11)] _ _ (by omega) (by omega) (by simp +contextual [bt,s,c,H,bv])
  ·rw[if_neg (by simp only[J5]; first|omega|simp),if_neg (by simp only[I5]; omega)]at S
   subst S;have ah:=hK _ _ ⟨rfl,rfl⟩;clear hK hN bd;unfold kM knB at *;have v:=fun q=>a7 q (xJ m X)
   have ae:=fun q=>ay q (jnA (2*m+4*X.length) L)
   generalize (xJ m X).map ndL=XX at *;generalize Z2 (jnA (2*m+4*X.length) L)=JR at *;generalize 2*m+4*X.length=b1 at *;simp[ba,hg,a9,bc,be,h1,h2];exact Z9 ah [(5,8),(6,9)] (by simp +contextual [am,v,ae,c])
set_option maxRecDepth 100000 in
set_option maxHeartbeats 16000000 in
theorem Ycr(P:List (List AVal))(i:W5 P=true)(m:Nat)(below:Bool)(F:List Nat)(L:List (Nat×Nat))(X:List Nd) :
 Ctr Tryz.prog 27 [.ptr 1 0 0,.nilSl,.sl 4 0 F.length,.bool below] ⟨(4,.cells 1 (Z0 F)) :: kM m (imV P) 2 3 L X,5⟩ fun r j=>
  r=.bool (decide (F.length=0))∧j=⟨kM m (imV P) 5 6 L X,7⟩:=by
 refine Zg4 hm [53] Tryz.func27 cf46 rfl rfl fun K g=>?_
 have e:=g _ _ ⟨rfl,rfl⟩;have d:∀ q,(imV P).ren q=imV P:=fun q=>AVal.ren_closed q _ (Zaq i)
 have c:∀ q (l:List Nat),Z6 q (Z0 l)=Z0 l:=fun q l=>Z8 q l
 have a:∀ q (l:List Int),Z6 q (Z2 l)=Z2 l:=fun q l=>X6 q _ (L5 l)
 have b:∀ q (l:List (Int×Nd)),Z6 q (l.map ndL)=l.map ndL:=fun q l=>X6 q _ (Zg3 l)
 generalize imV P=h at *;clear g;simp[W2];refine G1 (α:=Unit) (fun _=>[(0,.ptr 1 0 0),(1,.nilSl),(2,.sl 7 0 F.length),(3,.bool below),(15,.nilSl),(16,.int .i64 0),(17,.int .i64 0)])
  (fun _=>⟨(7,.cells 1 (Z0 F)) :: kM m h 8 9 L X,10⟩) (fun _=>0) (fun _=>True) () [(7,4),(8,2),(9,3)] (by simp +contextual [kM,knB,c,a,b,d]) trivial ?_
 intro _ _ N k;simp;exact Z9 e [(5,8),(6,9)] (by simp +contextual [kM,knB,c,a,b,d])
end Go.Known
