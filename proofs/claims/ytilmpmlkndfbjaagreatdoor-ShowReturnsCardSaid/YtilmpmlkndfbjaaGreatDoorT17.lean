/- Part 17 -/
import Derived.Test.YtilmpmlkndfbjaaGreatDoorT16
set_option linter.all false
set_option maxRecDepth 100000
set_option maxHeartbeats 16000000
open Nat (mod_lt)
namespace Go.Ad
open Go Go.AE Go.Proofs
open Go.Plain
attribute [local simp] NV Ni NF NU MJ NI Np Mn Nr G4 Im E5 B7 Ih E3 Mr MN NL NR Ox Ov MF Nz NX NC MX Nc Mp Oe Mx NP Na NK Ms MH NY MW Ob MD On MY Oc Oo NO MQ Nj Oa Ol Nq Nu Nb Nf MP ME Od NA My NQ MS Mz Mw MV Nw Ns Nv Ow MA KX Of Env.get R4 Ac.at Ac.app Ac.get Z7 O7 Aa.cells Aa.one K4 H9 MR NW NN Ou NM Og MO NS Nl MB MU Om Nh Gy C3 K5 B0 H3 U9 Ai Mo Mq Oj Ot NB L8 V1 H8 I8 L3 D3 Q9 G9 Bm Cm BO CQ Dw BC V5 Aa.AM Q3 Z3 Af.AM E7 N9 I3 S9 S8 W9 FT.indep G3 B5 Je Fs Ma Wo
abbrev dF(F:Nat)(ls:List Lt)(rows:List (List Aa))(E:List DO):Ac:=
 dM F ls.length (Z2 ls).length rows (Z1 (O6 F ls)) (BB (W8 ls.length ls.length (U5 ls) false)) (Z1 (W8 ls.length ls.length (O8 ls) 0)) (Z1 (Z2 ls)) E
structure GA (ls:List Lt) (E:List DO):Prop where
 small:ls.length≤1000
 some:0<(Z2 ls).length
 kind:∀ v,v<ls.length→(at' ls v).k=1∨(at' ls v).k=2
 place:∀ v,v<ls.length→(at' ls v).k=1→O8 ls v=V9 v (Z2 ls)∧V9 v (Z2 ls)<(Z2 ls).length
 DH:∀ v,v<ls.length→(at' ls v).k=2 → ∃ p w,Dz (at' ls v).i E=.some (p,w)∧P9 (!(at' ls v).o) w=(V4 ls v ls.length 0:Nat)∧V4 ls v ls.length 0<ls.length
theorem rD(F:Nat)(ls:List Lt)(E:List DO)(i:Nat)(h:ls.length<=1000)(hi:i<ls.length) :
 Bo Tryz.prog 189 [.ptr 1 0 0,.int .i64 i] (dF F ls (ls.map Ab) E) λr m=>r=.int .i64 (Y5 ls.length i false:Nat)/\m=dF F ls (ls.map Ab) E:=by
 refine Ii hm Tryz.func189 yt rfl rfl λK p=>?_;have s:=H1 ls;have o:∀q,Z3 q (ls.map Ab)=ls.map Ab:=λq=>Y2 q _ (Y6 ls);generalize ls.map Ab=rows at *;have a:=s.len;have t:¬((ls.length:Int)=0):=by omega
 have d:ls≠[]:=by intro e;subst e;simp at hi
 have g:=Y0 ((i:Int)-1);have j:=W7 ((i:Int)-1+ls.length) ((i+ls.length-1:Nat):Int);have n:=mod_lt (i+ls.length-1) (show 0<ls.length by omega);have b:((Y5 ls.length i false:Nat):Int)=2*(((i+ls.length-1)%ls.length:Nat):Int)+1:=by simp only[Y5,bF,if_false];omega
 have c:((i+ls.length-1:Nat):Int).tmod (ls.length:Int)=(((i+ls.length-1)%ls.length:Nat):Int):=rfl;generalize (i+ls.length-1)%ls.length=x at *;generalize i+ls.length-1=y at *;have k:=Y0 (2*(x:Int));have l:=Y0 (2*(x:Int)+1);simp[a,g,j,d,c,k,l];refine Z6 p [] ?_;simp[o,Z5,V6,Z9,b]
theorem rE(F:Nat)(ls:List Lt)(E:List DO)(i:Nat)(h:ls.length<=1000)(hi:i<ls.length) :
 Bo Tryz.prog 190 [.ptr 1 0 0,.int .i64 i] (dF F ls (ls.map Ab) E) λr m=>r=.int .i64 (Y5 ls.length i true:Nat)/\m=dF F ls (ls.map Ab) E:=by
 refine Ii hm Tryz.func190 uo rfl rfl λK d=>?_;have c:∀q,Z3 q (ls.map Ab)=ls.map Ab:=λq=>Y2 q _ (Y6 ls);generalize ls.map Ab=rows at *;have a:((Y5 ls.length i true:Nat):Int)=2*(i:Int):=by simp only[Y5,if_true];omega
 have b:=Y0 (2*(i:Int));simp[b];refine Z6 d [] ?_;simp[c,Z5,V6,Z9,a]
theorem qV(F:Nat)(ls:List Lt)(E:List DO)(hg:GA ls E)(d:Nat)(hd:d<2*ls.length+2*(Z2 ls).length) :
 Bo Tryz.prog 174 [.ptr 1 0 0,.int .i64 d] (dF F ls (ls.map Ab) E) λr m=>r=.int .i64 (X4 ls (Z2 ls) d:Nat)/\m=dF F ls (ls.map Ab) E:=by
 refine Ii hm Tryz.func174 qi rfl rfl λK hK=>?_;have hR:=H1 ls;have h:=hg.small;have U:=λi hi=>rD F ls E i h hi;have V:=λi hi=>rE F ls E i h hi;unfold dF dM Ke at *;have I:∀q,Z3 q (ls.map Ab)=ls.map Ab:=λq=>Y2 q _ (Y6 ls);generalize ls.map Ab=rows at *;have G:=hR.len;have ah:=hg.some;have bm:(Z2 ls).length<=ls.length:=by rw[Q7];exact Ib
 have Iw:(Z1 (Z2 ls)).length=(Z2 ls).length:=M6 _;have EV:(BB (W8 ls.length ls.length (U5 ls) false)).length=ls.length:=by rw[BB,lM,KH]
 have aq:(Z1 (W8 ls.length ls.length (O8 ls) 0)).length=ls.length:=by rw[M6,KH]
 have a2:∀v,v<ls.length->(BB (W8 ls.length ls.length (U5 ls) false))[v]?=some [Aa.bool (U5 ls v)]:=λv hv=>by
  have:=OL (Lf (i:=ls.length) (v:=U5 ls) (d:=false) hv);rw[iP hv]at this;exact this
 have bj:∀v,v<ls.length->(Z1 (W8 ls.length ls.length (O8 ls) 0))[v]?=some [Aa.int .i64 (O8 ls v:Nat)]:=λv hv=>by
  have:=Ip (Lf (i:=ls.length) (v:=O8 ls) (d:=0) hv);rw[iP hv]at this;exact this
 have a7:∀j,j<(Z2 ls).length->(Z1 (Z2 ls))[j]?=some [Aa.int .i64 ((Z2 ls).getD j 0:Nat)]:=λj hj=>by
  apply Ip;rw[gE hj,List.getD,gE hj];rfl
 have a8:∀j,j<(Z2 ls).length->(Z2 ls).getD j 0<ls.length/\As (at' ls ((Z2 ls).getD j 0))=true:=λj hj=>by
  have:(Z2 ls).getD j 0=(Z2 ls)[j]:=by rw[List.getD,gE hj];rfl
  rw[this];exact AA.1 (List.getElem_mem hj)
 have av:=hg.place;have au:=hg.DH;have a3:=hg.kind;have bn:¬((ls.length:Int)=0):=by omega
 have aj:ls≠[]:=by intro e;rw[e]at bm ah;have:([]:List Lt).length=0:=rfl;omega
 have ba:¬(((Z2 ls).length:Nat):Int)=0:=by omega
 have a0:Z2 ls≠[]:=by intro e;rw[e]at ah;simp at ah
 have H:=Y0 (2*(ls.length:Int));have a:∀v m,v=X4 ls (Z2 ls) d->Bm 7 [] [(0,.int .i64 (v:Nat))] ⟨[(1,.cells 7 [[.int .i64 (F:Int),.Al rows,.sl 3 0 ls.length,.sl 5 0 (Z2 ls).length,.sl 4 0 ls.length,.map 6,.sl 2 0 (F+1)]]),(2,.cells 1 (Z1 (O6 F ls))),(3,.cells 1 (BB (W8 ls.length ls.length (U5 ls) false))),(4,.cells 1 (Z1 (W8 ls.length ls.length (O8 ls) 0))),(5,.cells 1 (Z1 (Z2 ls))),(6,.map (FB 0 E) E.length)],7⟩ [(0,.int .i64 (v:Nat))] m->R9 7 K (.int .i64 (v:Nat)) m:=λv m hv hs=>by
  subst hv;exact Z6 hK [] hs
 clear hK;unfold X4 at a;generalize bh:BB (W8 ls.length ls.length (U5 ls) false)=B at *;generalize bi:Z1 (W8 ls.length ls.length (O8 ls) 0)=C at *;generalize be:Z1 (Z2 ls)=A at *;have b:∀q,Z3 q A=A:=λq=>by rw[<-be];exact Z5 q _
 have c:∀q,Z3 q B=B:=λq=>by rw[<-bh];exact V6 q _
 have l:∀q,Z3 q C=C:=λq=>by rw[<-bi];exact Z5 q _
 generalize bq:(Z2 ls).length=m at *;have Y:¬m=0:=by omega
 have M:(d:Int).tmod 2=((d%2:Nat):Int):=rfl;by_cases HQ:2*ls.length<=d
 ·rw[iP HQ]at a;have z:2*(ls.length:Int)<=(d:Int):=by omega
  obtain⟨e,he⟩:∃e,d-2*ls.length=e:=⟨_,rfl⟩;have ax:=W7 ((d:Int)-2*(ls.length:Int)) (e:Int);obtain⟨j,hj⟩:∃j,e / 2=j:=⟨_,rfl⟩;have aw:=W7 ((e:Int) / 2) (j:Int);rw[he,hj]at a;have ag:j<m:=by omega
  have bf:=a7 j ag;obtain⟨_,af⟩:=Y3 bf;by_cases O:d%2=0
  ·rw[iP O]at a;have n:=O;obtain⟨y,hy⟩:∃y,(j+1)%m=y:=⟨_,rfl⟩;have ay:y<m:=by rw[<-hy];exact mod_lt _ ah
   have a1:=Y0 ((j:Int)+1);have br:((j:Int)+1)%(m:Int)=(y:Int):=by rw[<-hy];rfl
   have bc:((j:Int)+1).tmod (m:Int)=(y:Int):=by rw[<-hy];rfl
   have bg:=a7 y ay;obtain⟨_,az⟩:=Y3 bg;obtain⟨u,a5⟩:=a8 y ay;rw[hy]at a;generalize (Z2 ls).getD y 0=v at *;have J:=a2 v u;obtain⟨_,t⟩:=Y3 J;have ae:U5 ls v=down ls v:=by simp[U5,a5]
   rw[ae]at J t;cases T:down ls v with
   |true=>
    rw[T]at a J t;simp[G,H,z,ax,aw,ag,af,Iw,M,n,Y,a1,bc,ay,az,u,t,EV];refine S3 (U v u) [] (by simp) (by simp[I,b,c,l,Z9,Z5]) (by simp) ?_;rintro r sm ⟨rfl,rfl⟩;simp[I,b,c,l,Z9,Z5];exact a _ _ rfl (by simp[I,b,c,l,Z9,Z5])
   |false=>
    rw[T]at a J t;simp[G,H,z,ax,aw,ag,af,Iw,M,n,Y,a1,bc,ay,az,u,t,EV];refine S3 (V v u) [] (by simp) (by simp[I,b,c,l,Z9,Z5]) (by simp) ?_;rintro r sm ⟨rfl,rfl⟩;simp[I,b,c,l,Z9,Z5];exact a _ _ rfl (by simp[I,b,c,l,Z9,Z5])
  rw[iN O]at a;have n:d%2=1:=by omega
  obtain⟨u,a5⟩:=a8 j ag;generalize (Z2 ls).getD j 0=v at *;have J:=a2 v u;obtain⟨_,t⟩:=Y3 J;have ae:U5 ls v=down ls v:=by simp[U5,a5]
  rw[ae]at J t;cases T:down ls v with
  |true=>
   rw[T]at a J t;simp[G,H,z,ax,aw,ag,af,Iw,M,n,u,t,EV];refine S3 (V v u) [] (by simp) (by simp[I,b,c,l,Z9,Z5]) (by simp) ?_;rintro r sm ⟨rfl,rfl⟩;simp[I,b,c,l,Z9,Z5];exact a _ _ rfl (by simp[I,b,c,l,Z9,Z5])
  |false=>
   rw[T]at a J t;simp[G,H,z,ax,aw,ag,af,Iw,M,n,u,t,EV];refine S3 (U v u) [] (by simp) (by simp[I,b,c,l,Z9,Z5]) (by simp) ?_;rintro r sm ⟨rfl,rfl⟩;simp[I,b,c,l,Z9,Z5];exact a _ _ rfl (by simp[I,b,c,l,Z9,Z5])
 rw[iN HQ]at a;have z:¬2*(ls.length:Int)<=(d:Int):=by omega
 obtain⟨g,bl⟩:∃g,d / 2=g:=⟨_,rfl⟩;rw[bl]at a;have S:=W7 ((d:Int) / 2) (g:Int);have Z:=Y0 ((g:Int)+1);obtain⟨v,hv⟩:∃v,(if d%2=0 then (g+1)%ls.length else g)=v:=⟨_,rfl⟩;have u:v<ls.length:=by
  rw[<-hv];split
  ·exact mod_lt _ (by omega)
  omega
 rw[hv]at a;simp only at a;have am:=hR.row v u;obtain⟨_,D⟩:=Y3 am;have J:=a2 v u;obtain⟨_,t⟩:=Y3 J;have ak:=bj v u;obtain⟨_,X⟩:=Y3 ak;have a9:=a3 v u;have bb:=av v u;have CG:=au v u;by_cases O:d%2=0
 ·rw[iP O]at hv;have n:=O;have hb:(d%2 == 0)=true:=by simp[O]
  have ai:((g:Int)+1).tmod (ls.length:Int)=(v:Int):=by rw[<-hv];rfl
  rw[hb]at a;by_cases hk:(at' ls v).k=2
  ·rw[iP hk]at a;obtain⟨p,w,hf,hs,ho⟩:=CG hk;have P:=eF (at' ls v).i 0 E;rw[hf]at P;simp only[Gd]at P;generalize V4 ls v ls.length 0=x at *;cases Q:(at' ls v).o with
   |true=>
    rw[Q]at a hs;simp only[P9,Bool.not_true,bF,if_false]at hs;by_cases L:(at' ls v).s=1
    ·have N:((at' ls v).s == 1)=true:=by simp[L]
     rw[N]at a;simp[G,H,z,S,M,n,Z,aj,ai,u,D,Ab,hk,P,Q,L,hs];refine S3 (V x ho) [] (by simp) (by simp[I,b,c,l,Z9,Z5]) (by simp) ?_;rintro r sm ⟨rfl,rfl⟩;simp[I,b,c,l,Z9,Z5];exact a _ _ rfl (by simp[I,b,c,l,Z9,Z5])
    have N:((at' ls v).s == 1)=false:=by simp[L]
    rw[N]at a;simp[G,H,z,S,M,n,Z,aj,ai,u,D,Ab,hk,P,Q,L,hs];refine S3 (U x ho) [] (by simp) (by simp[I,b,c,l,Z9,Z5]) (by simp) ?_;rintro r sm ⟨rfl,rfl⟩;simp[I,b,c,l,Z9,Z5];exact a _ _ rfl (by simp[I,b,c,l,Z9,Z5])
   |false=>
    rw[Q]at a hs;simp only[P9,Bool.not_false,if_true]at hs;by_cases L:(at' ls v).s=1
    ·have N:((at' ls v).s == 1)=true:=by simp[L]
     rw[N]at a;simp[G,H,z,S,M,n,Z,aj,ai,u,D,Ab,hk,P,Q,L,hs];refine S3 (U x ho) [] (by simp) (by simp[I,b,c,l,Z9,Z5]) (by simp) ?_;rintro r sm ⟨rfl,rfl⟩;simp[I,b,c,l,Z9,Z5];exact a _ _ rfl (by simp[I,b,c,l,Z9,Z5])
    have N:((at' ls v).s == 1)=false:=by simp[L]
    rw[N]at a;simp[G,H,z,S,M,n,Z,aj,ai,u,D,Ab,hk,P,Q,L,hs];refine S3 (V x ho) [] (by simp) (by simp[I,b,c,l,Z9,Z5]) (by simp) ?_;rintro r sm ⟨rfl,rfl⟩;simp[I,b,c,l,Z9,Z5];exact a _ _ rfl (by simp[I,b,c,l,Z9,Z5])
  have aa:(at' ls v).k=1:=a9.resolve_right hk;have hp:As (at' ls v)=true:=by simp[As,aa]
  rw[iN hk]at a;obtain⟨a4,bp⟩:=bb aa;rw[a4]at ak X;have ae:U5 ls v=down ls v:=by simp[U5,hp]
  rw[ae]at J t;generalize V9 v (Z2 ls)=x at *;have a6:=Y0 (2*(x:Int));have an:=W7 (2*(ls.length:Int)+2*(x:Int)) ((2*ls.length+2*x:Nat):Int);have KR:=Y0 ((x:Int)-1);have ab:=W7 ((x:Int)-1+m) ((x+m-1:Nat):Int);have al:((x+m-1:Nat):Int).tmod (m:Int)=(((x+m-1)%m:Nat):Int):=rfl;have bd:=mod_lt (x+m-1) ah;generalize (x+m-1)%m=y at *;generalize x+m-1=y0 at *;have ao:=Y0 (2*(y:Int));have ac:=Y0 (2*(ls.length:Int)+2*(y:Int));have ad:=W7 (2*(ls.length:Int)+2*(y:Int)+1) ((2*ls.length+2*y+1:Nat):Int);cases T:down ls v with
  |true=>
   rw[T]at a J t;rw[iP rfl]at a;simp[-Int.natCast_add,-Int.natCast_mul,G,H,z,S,M,n,Y,Z,bn,aj,ai,u,am,D,Ab,J,t,EV,aa,aq,ak,X,a6,an,KR,ab,ba,a0,al,ao,ac,ad];exact a _ _ rfl (by simp[I,b,c,l,Z9,Z5])
  |false=>
   rw[T]at a J t;rw[iN (by simp)]at a;simp[-Int.natCast_add,-Int.natCast_mul,G,H,z,S,M,n,Y,Z,aj,ai,u,D,Ab,t,EV,aa,aq,X,KR,ab,al,ao,ac,ad];exact a _ _ rfl (by simp[I,b,c,l,Z9,Z5])
 rw[iN O]at hv;have n:d%2=1:=by omega
 have hb:(d%2 == 0)=false:=by simp[O]
 rw[hv]at S;rw[hb]at a;by_cases hk:(at' ls v).k=2
 ·rw[iP hk]at a;obtain⟨p,w,hf,hs,ho⟩:=CG hk;have P:=eF (at' ls v).i 0 E;rw[hf]at P;simp only[Gd]at P;generalize V4 ls v ls.length 0=x at *;cases Q:(at' ls v).o with
  |true=>
   rw[Q]at a hs;simp only[P9,Bool.not_true,bF,if_false]at hs;by_cases L:(at' ls v).s=1
   ·have N:((at' ls v).s == 1)=true:=by simp[L]
    rw[N]at a;simp[G,H,z,S,M,n,u,D,Ab,hk,P,Q,L,hs];refine S3 (U x ho) [] (by simp) (by simp[I,b,c,l,Z9,Z5]) (by simp) ?_;rintro r sm ⟨rfl,rfl⟩;simp[I,b,c,l,Z9,Z5];exact a _ _ rfl (by simp[I,b,c,l,Z9,Z5])
   have N:((at' ls v).s == 1)=false:=by simp[L]
   rw[N]at a;simp[G,H,z,S,M,n,u,D,Ab,hk,P,Q,L,hs];refine S3 (V x ho) [] (by simp) (by simp[I,b,c,l,Z9,Z5]) (by simp) ?_;rintro r sm ⟨rfl,rfl⟩;simp[I,b,c,l,Z9,Z5];exact a _ _ rfl (by simp[I,b,c,l,Z9,Z5])
  |false=>
   rw[Q]at a hs;simp only[P9,Bool.not_false,if_true]at hs;by_cases L:(at' ls v).s=1
   ·have N:((at' ls v).s == 1)=true:=by simp[L]
    rw[N]at a;simp[G,H,z,S,M,n,u,D,Ab,hk,P,Q,L,hs];refine S3 (V x ho) [] (by simp) (by simp[I,b,c,l,Z9,Z5]) (by simp) ?_;rintro r sm ⟨rfl,rfl⟩;simp[I,b,c,l,Z9,Z5];exact a _ _ rfl (by simp[I,b,c,l,Z9,Z5])
   have N:((at' ls v).s == 1)=false:=by simp[L]
   rw[N]at a;simp[G,H,z,S,M,n,u,D,Ab,hk,P,Q,L,hs];refine S3 (U x ho) [] (by simp) (by simp[I,b,c,l,Z9,Z5]) (by simp) ?_;rintro r sm ⟨rfl,rfl⟩;simp[I,b,c,l,Z9,Z5];exact a _ _ rfl (by simp[I,b,c,l,Z9,Z5])
 have aa:(at' ls v).k=1:=a9.resolve_right hk;have hp:As (at' ls v)=true:=by simp[As,aa]
 rw[iN hk]at a;obtain⟨a4,bp⟩:=bb aa;rw[a4]at ak X;have ae:U5 ls v=down ls v:=by simp[U5,hp]
 rw[ae]at J t;generalize V9 v (Z2 ls)=x at *;have a6:=Y0 (2*(x:Int));have an:=W7 (2*(ls.length:Int)+2*(x:Int)) ((2*ls.length+2*x:Nat):Int);have KR:=Y0 ((x:Int)-1);have ab:=W7 ((x:Int)-1+m) ((x+m-1:Nat):Int);have al:((x+m-1:Nat):Int).tmod (m:Int)=(((x+m-1)%m:Nat):Int):=rfl;have bd:=mod_lt (x+m-1) ah;generalize (x+m-1)%m=y at *;generalize x+m-1=y0 at *;have ao:=Y0 (2*(y:Int));have ac:=Y0 (2*(ls.length:Int)+2*(y:Int));have ad:=W7 (2*(ls.length:Int)+2*(y:Int)+1) ((2*ls.length+2*y+1:Nat):Int);cases T:down ls v with
 |true=>
  rw[T]at a J t;rw[iN (by simp)]at a;simp[-Int.natCast_add,-Int.natCast_mul,G,H,z,S,M,n,Y,u,D,Ab,t,EV,aa,aq,X,KR,ab,al,ao,ac,ad];exact a _ _ rfl (by simp[I,b,c,l,Z9,Z5])
 |false=>
  rw[T]at a J t;rw[iP rfl]at a;simp[-Int.natCast_add,-Int.natCast_mul,G,H,z,S,M,n,Y,u,am,D,Ab,J,t,EV,aa,aq,ak,X,a6,an,KR,ab,ba,a0,al,ao,ac,ad];exact a _ _ rfl (by simp[I,b,c,l,Z9,Z5])
end Go.Ad
