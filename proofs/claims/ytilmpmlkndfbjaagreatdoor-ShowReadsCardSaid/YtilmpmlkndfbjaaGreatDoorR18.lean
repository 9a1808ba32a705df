/- Part 18 of the proof: Rd. -/
import Derived.Test.YtilmpmlkndfbjaaGreatDoorR15
import Derived.Test.YtilmpmlkndfbjaaGreatDoorR17
set_option linter.all false
namespace Go.Known
open Go Go.AE Go.Proofs
open Go.Plain
attribute [local simp] Zdk Zcv Zbn Zdb Zb9 Zdz Zcb Zcm Zc7 O6 O3 P8 P7 O1 O5 Zcy Zbm Zdo Zdd Zd5 Zdy Zdf Zdi Zbj Zbv Zdw Zbe Zbz Zbf Zca Zde Zbg Zd2 Zbh Zc5 Zdj Zc4 Zcq Zcr Zbu Zb8 Zd0 Zch Zby Zbq Zcg Zb5 Zcn Zcl Zbp Zck Zdc Zb3 Zcu Zdh Zb0 Zdq Zbs Zc2 Zb4 Zb7 Zdn Zdr Zd1 Zcp Zcd Zb1 Za8 Za3 Zc8 Env.get U1 SMem.at SMem.app SMem.get Z7 S3 AVal.cells AVal.one T7 P0 Zc6 Zbi Zbo Zbc Zda Zcx Zdp Zcz Zbw Zc3 Zdm Zc9 Zdv unA Q7 T0 H5 L4 W8 aundef Zbx Zbr Zce Zbt Zdg P5 Y8 L8 L3 H3 B5 Q9 F4 SubR SubRE SubRB InjK InjA qOf W3 AVal.ren U7 Z6 ABlk.ren J3 Q6 M5 V7 V8 Y9 FT.indep N4 O4 I0 H4 in1 Zkb
abbrev dF(F:Nat)(ls:List Lt)(rows:List (List AVal))(E:List Ent):SMem:=
 dM F ls.length (Z4 ls).length rows (Z0 (P4 F ls)) (bls (V5 ls.length ls.length (Q2 ls) false)) (Z0 (V5 ls.length ls.length (O0 ls) 0)) (Z0 (Z4 ls)) E
structure Filled (ls:List Lt) (E:List Ent):Prop where
 small:ls.length≤1000
 some:0<(Z4 ls).length
 kind:∀ v,v<ls.length→(at' ls v).k=1∨(at' ls v).k=2
 place:∀ v,v<ls.length→(at' ls v).k=1→O0 ls v=T8 v (Z4 ls)∧T8 v (Z4 ls)<(Z4 ls).length
 cross:∀ v,v<ls.length→(at' ls v).k=2 → ∃ p w,fnd (at' ls v).i E=.some (p,w)∧S5 (!(at' ls v).o) w=(T2 ls v ls.length 0:Nat)∧T2 ls v ls.length 0<ls.length
theorem c136(F:Nat)(ls:List Lt)(E:List Ent)(i:Nat)(h:ls.length≤1000)(hi:i<ls.length) :
 Ctr Tryz.prog 189 [.ptr 1 0 0,.int .i64 i] (dF F ls (ls.map rowL) E) fun r m=>r=.int .i64 (T6 ls.length i false:Nat)∧m=dF F ls (ls.map rowL) E:=by
 refine Za1 hm Tryz.func189 Ztf rfl rfl fun K s=>?_
 have t:=M9 ls;have j:∀ q,Z6 q (ls.map rowL)=ls.map rowL:=fun q=>X6 q _ (U6 ls)
 generalize ls.map rowL=rows at *;have a:=t.len;have d:¬((ls.length:Int)=0):=by omega
 have g:ls≠[]:=by intro e; subst e; simp at hi
 have k:IntKind.i64.wrap ((i:Int) - 1)=(i:Int) - 1:=Z1 (by omega) (by omega)
 have l:IntKind.i64.wrap ((i:Int) - 1+ls.length)=((i+ls.length - 1:Nat):Int):=by rw[Z1 (by omega) (by omega)]; omega
 have p:=Nat.mod_lt (i+ls.length - 1) (show 0<ls.length by omega)
 have b:((T6 ls.length i false:Nat):Int)=2*(((i+ls.length - 1) % ls.length:Nat):Int)+1:=by simp only[T6,bF,if_false]; omega
 have c:((i+ls.length - 1:Nat):Int).tmod (ls.length:Int)=(((i+ls.length - 1) % ls.length:Nat):Int):=rfl;generalize (i+ls.length - 1) % ls.length=x at *;generalize i+ls.length - 1=y at *;have n:IntKind.i64.wrap (2*(x:Int))=2*(x:Int):=Z1 (by omega) (by omega)
 have o:IntKind.i64.wrap (2*(x:Int)+1)=2*(x:Int)+1:=Z1 (by omega) (by omega)
 simp[a,k,l,d,g,c,n,o];refine Z9 s [] ?_;simp[j,Z8,V0,Y2,b]
theorem c137(F:Nat)(ls:List Lt)(E:List Ent)(i:Nat)(h:ls.length≤1000)(hi:i<ls.length) :
 Ctr Tryz.prog 190 [.ptr 1 0 0,.int .i64 i] (dF F ls (ls.map rowL) E) fun r m=>r=.int .i64 (T6 ls.length i true:Nat)∧m=dF F ls (ls.map rowL) E:=by
 refine Za1 hm Tryz.func190 Ztj rfl rfl fun K d=>?_
 have b:∀ q,Z6 q (ls.map rowL)=ls.map rowL:=fun q=>X6 q _ (U6 ls)
 generalize ls.map rowL=rows at *;have a:((T6 ls.length i true:Nat):Int)=2*(i:Int):=by simp only[T6,if_true]; omega
 have c:IntKind.i64.wrap (2*(i:Int))=2*(i:Int):=Z1 (by omega) (by omega)
 simp[c];refine Z9 d [] ?_;simp[b,Z8,V0,Y2,a]
set_option maxRecDepth 100000 in
set_option maxHeartbeats 4000000 in
theorem c105(F:Nat)(ls:List Lt)(E:List Ent)(hg:Filled ls E)(d:Nat)(hd:d<2*ls.length+2*(Z4 ls).length) :
 Ctr Tryz.prog 174 [.ptr 1 0 0,.int .i64 d] (dF F ls (ls.map rowL) E) fun r m=>r=.int .i64 (V1 ls (Z4 ls) d:Nat)∧m=dF F ls (ls.map rowL) E:=by
 refine Za1 hm Tryz.func174 Zu9 rfl rfl fun K hK=>?_
 have hR:=M9 ls;have h:=hg.small;have Z:=fun i hi=>c136 F ls E i h hi
 have aa:=fun i hi=>c137 F ls E i h hi
 unfold dF dM dV2 at *;have t:∀ q,Z6 q (ls.map rowL)=ls.map rowL:=fun q=>X6 q _ (U6 ls)
 generalize ls.map rowL=rows at *;have I:=hR.len;have an:=hg.some;have bv:(Z4 ls).length≤ls.length:=by rw[H6]; exact Za6
 have a0:(Z0 (Z4 ls)).length=(Z4 ls).length:=N9 _;have O:(bls (V5 ls.length ls.length (Q2 ls) false)).length=ls.length:=by rw[bls,List.length_map,Zb2]
 have a1:(Z0 (V5 ls.length ls.length (O0 ls) 0)).length=ls.length:=by rw[N9,Zb2]
 have ba:∀ v,v<ls.length→(bls (V5 ls.length ls.length (Q2 ls) false))[v]? = some [AVal.bool (Q2 ls v)]:=fun v hv=>by
  have:=Zga (Zel (i:=ls.length) (v:=Q2 ls) (d:=false) hv);rw[if_pos hv]at this; exact this
 have bs:∀ v,v<ls.length→(Z0 (V5 ls.length ls.length (O0 ls) 0))[v]? = some [AVal.int .i64 (O0 ls v:Nat)]:=fun v hv=>by
  have:=Zcw (Zel (i:=ls.length) (v:=O0 ls) (d:=0) hv);rw[if_pos hv]at this; exact this
 have be:∀ j,j<(Z4 ls).length→(Z0 (Z4 ls))[j]? = some [AVal.int .i64 ((Z4 ls).getD j 0:Nat)]:=fun j hj=>by
  apply Zcw;rw[gE hj,List.getD,gE hj]; rfl
 have bf:∀ j,j<(Z4 ls).length→(Z4 ls).getD j 0<ls.length∧isP (at' ls ((Z4 ls).getD j 0))=true:=fun j hj=>by
  have:(Z4 ls).getD j 0=(Z4 ls)[j]:=by rw[List.getD,gE hj]; rfl
  rw[this];exact mem_axis.1 (List.getElem_mem hj)
 have a3:=hg.place;have a2:=hg.cross;have bb:=hg.kind;have ar:¬((ls.length:Int)=0):=by omega
 have au:ls≠[]:=by intro e; rw[e]at bv an; have:([]:List Lt).length=0:=rfl; omega
 have aq:¬(((Z4 ls).length:Nat):Int)=0:=by omega
 have ac:Z4 ls≠[]:=by intro e; rw[e]at an; simp at an
 have L:IntKind.i64.wrap (2*(ls.length:Int))=2*(ls.length:Int):=Z1 (by omega) (by omega)
 have a:∀ v m,v=V1 ls (Z4 ls) d→SubR 7 [] [(0,.int .i64 (v:Nat))] ⟨[(1,.cells 7 [[.int .i64 (F:Int),.imm rows,.sl 3 0 ls.length,.sl 5 0 (Z4 ls).length,.sl 4 0 ls.length,.map 6,.sl 2 0 (F+1)]]),(2,.cells 1 (Z0 (P4 F ls))),(3,.cells 1 (bls (V5 ls.length ls.length (Q2 ls) false))),(4,.cells 1 (Z0 (V5 ls.length ls.length (O0 ls) 0))),(5,.cells 1 (Z0 (Z4 ls))),(6,.map (mkE 0 E) E.length)],7⟩ [(0,.int .i64 (v:Nat))] m→O9 7 K (.int .i64 (v:Nat)) m:=fun v m hv hs=>by
  subst hv; exact Z9 hK [] hs
 clear hK;have bt:∀ i,i<ls.length→True:=fun _ _=>trivial
 unfold V1 at a;generalize bq:bls (V5 ls.length ls.length (Q2 ls) false)=B at *;generalize br:Z0 (V5 ls.length ls.length (O0 ls) 0)=C at *;generalize bp:Z0 (Z4 ls)=A at *;have c:∀ q,Z6 q A=A:=fun q=>by rw[← bp]; exact Z8 q _
 have l:∀ q,Z6 q B=B:=fun q=>by rw[← bq]; exact V0 q _
 have n:∀ q,Z6 q C=C:=fun q=>by rw[← br]; exact Z8 q _
 generalize bx:(Z4 ls).length=m at *;have J:¬m=0:=by omega
 have P:(d:Int).tmod 2=((d % 2:Nat):Int):=rfl;by_cases bh:2*ls.length≤d
 ·rw[if_pos bh]at a;have G:2*(ls.length:Int)≤(d:Int):=by omega
  obtain⟨e,he⟩:∃ e,d - 2*ls.length=e:=⟨_,rfl⟩
  have a5:IntKind.i64.wrap ((d:Int) - 2*(ls.length:Int))=(e:Int):=by rw[Z1 (by omega) (by omega)]; omega
  obtain⟨j,hj⟩:∃ j,e / 2=j:=⟨_,rfl⟩
  have a4:IntKind.i64.wrap ((e:Int) / 2)=(j:Int):=by rw[Z1 (by omega) (by omega)]; omega
  rw[he,hj]at a;have am:j<m:=by omega
  have av:=be j am;obtain⟨_,al⟩:=Y5 av;by_cases S:d % 2=0
  ·rw[if_pos S]at a;have u:=S;obtain⟨y,hy⟩:∃ y,(j+1) % m=y:=⟨_,rfl⟩
   have a6:y<m:=by rw[← hy]; exact Nat.mod_lt _ an
   have a8:IntKind.i64.wrap ((j:Int)+1)=(j:Int)+1:=Z1 (by omega) (by omega)
   have bl:((j:Int)+1) % (m:Int)=(y:Int):=by rw[← hy]; rfl
   have bm:((j:Int)+1).tmod (m:Int)=(y:Int):=by rw[← hy]; rfl
   have a9:=be y a6;obtain⟨_,a7⟩:=Y5 a9;obtain⟨D,bd⟩:=bf y a6;rw[hy]at a;generalize (Z4 ls).getD y 0=v at *;have z:=ba v D;obtain⟨_,b⟩:=Y5 z;have ak:Q2 ls v=down ls v:=by simp[Q2,bd]
   rw[ak]at z b;cases Y:down ls v with
   | true=>
    rw[Y]at a z b;simp[I,L,G,a5,a4,am,av,al,a0,P,u,J,a8,aq,ac,bl,bm,a6,a9,a7,D,z,b,O];refine Q1 (Z v D) [] (by simp) (by simp[t,c,l,n,Y2,Z8]) (by simp) ?_
    rintro r sm ⟨rfl,rfl⟩;simp[t,c,l,n,Y2,Z8];exact a _ _ rfl (by simp[t,c,l,n,Y2,Z8])
   | false=>
    rw[Y]at a z b;simp[I,L,G,a5,a4,am,av,al,a0,P,u,J,a8,aq,ac,bl,bm,a6,a9,a7,D,z,b,O];refine Q1 (aa v D) [] (by simp) (by simp[t,c,l,n,Y2,Z8]) (by simp) ?_
    rintro r sm ⟨rfl,rfl⟩;simp[t,c,l,n,Y2,Z8];exact a _ _ rfl (by simp[t,c,l,n,Y2,Z8])
  ·rw[if_neg S]at a;have u:d % 2=1:=by omega
   obtain⟨D,bd⟩:=bf j am;generalize (Z4 ls).getD j 0=v at *;have z:=ba v D;obtain⟨_,b⟩:=Y5 z;have ak:Q2 ls v=down ls v:=by simp[Q2,bd]
   rw[ak]at z b;cases Y:down ls v with
   | true=>
    rw[Y]at a z b;simp[I,L,G,a5,a4,am,av,al,a0,P,u,J,D,z,b,O];refine Q1 (aa v D) [] (by simp) (by simp[t,c,l,n,Y2,Z8]) (by simp) ?_
    rintro r sm ⟨rfl,rfl⟩;simp[t,c,l,n,Y2,Z8];exact a _ _ rfl (by simp[t,c,l,n,Y2,Z8])
   | false=>
    rw[Y]at a z b;simp[I,L,G,a5,a4,am,av,al,a0,P,u,J,D,z,b,O];refine Q1 (Z v D) [] (by simp) (by simp[t,c,l,n,Y2,Z8]) (by simp) ?_
    rintro r sm ⟨rfl,rfl⟩;simp[t,c,l,n,Y2,Z8];exact a _ _ rfl (by simp[t,c,l,n,Y2,Z8])
 rw[if_neg bh]at a;have G:¬2*(ls.length:Int)≤(d:Int):=by omega
 obtain⟨g,bu⟩:∃ g,d / 2=g:=⟨_,rfl⟩
 rw[bu]at a;have X:IntKind.i64.wrap ((d:Int) / 2)=(g:Int):=by rw[Z1 (by omega) (by omega)]; omega
 have ad:IntKind.i64.wrap ((g:Int)+1)=(g:Int)+1:=Z1 (by omega) (by omega)
 obtain⟨v,hv⟩:∃ v,(if d % 2=0 then (g+1) % ls.length else g)=v:=⟨_,rfl⟩
 have D:v<ls.length:=by
  rw[← hv];split
  ·exact Nat.mod_lt _ (by omega)
  ·omega
 rw[hv]at a;simp only at a;have M:=hR.row v D;obtain⟨_,H⟩:=Y5 M;have z:=ba v D;obtain⟨_,b⟩:=Y5 z;have aj:=bs v D;obtain⟨_,ab⟩:=Y5 aj;have bi:=bb v D;have bj:=a3 v D;have bg:=a2 v D;by_cases S:d % 2=0
 ·rw[if_pos S]at hv;have u:=S;have hb:(d % 2 == 0)=true:=by simp[S]
  have ao:((g:Int)+1).tmod (ls.length:Int)=(v:Int):=by rw[← hv]; rfl
  rw[hb]at a;by_cases hk:(at' ls v).k=2
  ·rw[if_pos hk]at a;obtain⟨p,w,hf,hs,ho⟩:=bg hk;have U:=Zmw (at' ls v).i 0 E;rw[hf]at U;simp only[visV]at U;generalize T2 ls v ls.length 0=x at *;cases V:(at' ls v).o with
   | true=>
    rw[V]at a hs;simp only[S5,Bool.not_true,Bool.not_false,bF,if_true,if_false]at hs;by_cases N:(at' ls v).s=1
    ·have Q:((at' ls v).s == 1)=true:=by simp[N]
     rw[Q]at a;simp[I,L,G,X,P,u,J,ad,ar,au,ao,D,M,H,rowL,z,b,O,hk,U,V,N,hs];refine Q1 (aa x ho) [] (by simp) (by simp[t,c,l,n,Y2,Z8]) (by simp) ?_
     rintro r sm ⟨rfl,rfl⟩;simp[t,c,l,n,Y2,Z8];exact a _ _ rfl (by simp[t,c,l,n,Y2,Z8])
    ·have Q:((at' ls v).s == 1)=false:=by simp[N]
     rw[Q]at a;simp[I,L,G,X,P,u,J,ad,ar,au,ao,D,M,H,rowL,z,b,O,hk,U,V,N,hs];refine Q1 (Z x ho) [] (by simp) (by simp[t,c,l,n,Y2,Z8]) (by simp) ?_
     rintro r sm ⟨rfl,rfl⟩;simp[t,c,l,n,Y2,Z8];exact a _ _ rfl (by simp[t,c,l,n,Y2,Z8])
   | false=>
    rw[V]at a hs;simp only[S5,Bool.not_true,Bool.not_false,bF,if_true,if_false]at hs;by_cases N:(at' ls v).s=1
    ·have Q:((at' ls v).s == 1)=true:=by simp[N]
     rw[Q]at a;simp[I,L,G,X,P,u,J,ad,ar,au,ao,D,M,H,rowL,z,b,O,hk,U,V,N,hs];refine Q1 (Z x ho) [] (by simp) (by simp[t,c,l,n,Y2,Z8]) (by simp) ?_
     rintro r sm ⟨rfl,rfl⟩;simp[t,c,l,n,Y2,Z8];exact a _ _ rfl (by simp[t,c,l,n,Y2,Z8])
    ·have Q:((at' ls v).s == 1)=false:=by simp[N]
     rw[Q]at a;simp[I,L,G,X,P,u,J,ad,ar,au,ao,D,M,H,rowL,z,b,O,hk,U,V,N,hs];refine Q1 (aa x ho) [] (by simp) (by simp[t,c,l,n,Y2,Z8]) (by simp) ?_
     rintro r sm ⟨rfl,rfl⟩;simp[t,c,l,n,Y2,Z8];exact a _ _ rfl (by simp[t,c,l,n,Y2,Z8])
  ·have ae:(at' ls v).k=1:=bi.resolve_right hk;have hp:isP (at' ls v)=true:=by simp[isP,ae]
   rw[if_neg hk]at a;obtain⟨bc,bw⟩:=bj ae;rw[bc]at aj ab;have ak:Q2 ls v=down ls v:=by simp[Q2,hp]
   rw[ak]at z b;generalize T8 v (Z4 ls)=x at *;have ax:IntKind.i64.wrap (2*(x:Int))=2*(x:Int):=Z1 (by omega) (by omega)
   have af:IntKind.i64.wrap (2*(ls.length:Int)+2*(x:Int))=((2*ls.length+2*x:Nat):Int):=by rw[Z1 (by omega) (by omega)]; omega
   have ay:IntKind.i64.wrap ((x:Int) - 1)=(x:Int) - 1:=Z1 (by omega) (by omega)
   have ag:IntKind.i64.wrap ((x:Int) - 1+m)=((x+m - 1:Nat):Int):=by rw[Z1 (by omega) (by omega)]; omega
   have aw:((x+m - 1:Nat):Int).tmod (m:Int)=(((x+m - 1) % m:Nat):Int):=rfl;have bn:=Nat.mod_lt (x+m - 1) an;generalize (x+m - 1) % m=y at *;generalize x+m - 1=y0 at *;have az:IntKind.i64.wrap (2*(y:Int))=2*(y:Int):=Z1 (by omega) (by omega)
   have ah:IntKind.i64.wrap (2*(ls.length:Int)+2*(y:Int))=2*(ls.length:Int)+2*(y:Int):=Z1 (by omega) (by omega)
   have ai:IntKind.i64.wrap (2*(ls.length:Int)+2*(y:Int)+1)=((2*ls.length+2*y+1:Nat):Int):=by rw[Z1 (by omega) (by omega)]; omega
   cases Y:down ls v with
   | true=>
    rw[Y]at a z b;rw[if_pos rfl]at a;simp[-Int.natCast_add,-Int.natCast_mul,I,L,G,X,P,u,J,ad,ar,au,ao,D,M,H,rowL,z,b,O,ae,a1,aj,ab,ax,af,ay,ag,aq,ac,aw,az,ah,ai];exact a _ _ rfl (by simp[t,c,l,n,Y2,Z8])
   | false=>
    rw[Y]at a z b;rw[if_neg (by simp)]at a
    simp[-Int.natCast_add,-Int.natCast_mul,I,L,G,X,P,u,J,ad,ar,au,ao,D,M,H,rowL,z,b,O,ae,a1,aj,ab,ax,af,ay,ag,aq,ac,aw,az,ah,ai];exact a _ _ rfl (by simp[t,c,l,n,Y2,Z8])
 ·rw[if_neg S]at hv;have u:d % 2=1:=by omega
  have hb:(d % 2 == 0)=false:=by simp[S]
  rw[hv]at X;rw[hb]at a;by_cases hk:(at' ls v).k=2
  ·rw[if_pos hk]at a;obtain⟨p,w,hf,hs,ho⟩:=bg hk;have U:=Zmw (at' ls v).i 0 E;rw[hf]at U;simp only[visV]at U;generalize T2 ls v ls.length 0=x at *;cases V:(at' ls v).o with
   | true=>
    rw[V]at a hs;simp only[S5,Bool.not_true,Bool.not_false,bF,if_true,if_false]at hs;by_cases N:(at' ls v).s=1
    ·have Q:((at' ls v).s == 1)=true:=by simp[N]
     rw[Q]at a;simp[I,L,G,X,P,u,J,D,M,H,rowL,z,b,O,hk,U,V,N,hs];refine Q1 (Z x ho) [] (by simp) (by simp[t,c,l,n,Y2,Z8]) (by simp) ?_
     rintro r sm ⟨rfl,rfl⟩;simp[t,c,l,n,Y2,Z8];exact a _ _ rfl (by simp[t,c,l,n,Y2,Z8])
    ·have Q:((at' ls v).s == 1)=false:=by simp[N]
     rw[Q]at a;simp[I,L,G,X,P,u,J,D,M,H,rowL,z,b,O,hk,U,V,N,hs];refine Q1 (aa x ho) [] (by simp) (by simp[t,c,l,n,Y2,Z8]) (by simp) ?_
     rintro r sm ⟨rfl,rfl⟩;simp[t,c,l,n,Y2,Z8];exact a _ _ rfl (by simp[t,c,l,n,Y2,Z8])
   | false=>
    rw[V]at a hs;simp only[S5,Bool.not_true,Bool.not_false,bF,if_true,if_false]at hs;by_cases N:(at' ls v).s=1
    ·have Q:((at' ls v).s == 1)=true:=by simp[N]
     rw[Q]at a;simp[I,L,G,X,P,u,J,D,M,H,rowL,z,b,O,hk,U,V,N,hs];refine Q1 (aa x ho) [] (by simp) (by simp[t,c,l,n,Y2,Z8]) (by simp) ?_
     rintro r sm ⟨rfl,rfl⟩;simp[t,c,l,n,Y2,Z8];exact a _ _ rfl (by simp[t,c,l,n,Y2,Z8])
    ·have Q:((at' ls v).s == 1)=false:=by simp[N]
     rw[Q]at a;simp[I,L,G,X,P,u,J,D,M,H,rowL,z,b,O,hk,U,V,N,hs];refine Q1 (Z x ho) [] (by simp) (by simp[t,c,l,n,Y2,Z8]) (by simp) ?_
     rintro r sm ⟨rfl,rfl⟩;simp[t,c,l,n,Y2,Z8];exact a _ _ rfl (by simp[t,c,l,n,Y2,Z8])
  ·have ae:(at' ls v).k=1:=bi.resolve_right hk;have hp:isP (at' ls v)=true:=by simp[isP,ae]
   rw[if_neg hk]at a;obtain⟨bc,bw⟩:=bj ae;rw[bc]at aj ab;have ak:Q2 ls v=down ls v:=by simp[Q2,hp]
   rw[ak]at z b;generalize T8 v (Z4 ls)=x at *;have ax:IntKind.i64.wrap (2*(x:Int))=2*(x:Int):=Z1 (by omega) (by omega)
   have af:IntKind.i64.wrap (2*(ls.length:Int)+2*(x:Int))=((2*ls.length+2*x:Nat):Int):=by rw[Z1 (by omega) (by omega)]; omega
   have ay:IntKind.i64.wrap ((x:Int) - 1)=(x:Int) - 1:=Z1 (by omega) (by omega)
   have ag:IntKind.i64.wrap ((x:Int) - 1+m)=((x+m - 1:Nat):Int):=by rw[Z1 (by omega) (by omega)]; omega
   have aw:((x+m - 1:Nat):Int).tmod (m:Int)=(((x+m - 1) % m:Nat):Int):=rfl;have bn:=Nat.mod_lt (x+m - 1) an;generalize (x+m - 1) % m=y at *;generalize x+m - 1=y0 at *;have az:IntKind.i64.wrap (2*(y:Int))=2*(y:Int):=Z1 (by omega) (by omega)
   have ah:IntKind.i64.wrap (2*(ls.length:Int)+2*(y:Int))=2*(ls.length:Int)+2*(y:Int):=Z1 (by omega) (by omega)
   have ai:IntKind.i64.wrap (2*(ls.length:Int)+2*(y:Int)+1)=((2*ls.length+2*y+1:Nat):Int):=by rw[Z1 (by omega) (by omega)]; omega
   cases Y:down ls v with
   | true=>
    rw[Y]at a z b;rw[if_neg (by simp)]at a
    simp[-Int.natCast_add,-Int.natCast_mul,I,L,G,X,P,u,J,D,M,H,rowL,z,b,O,ae,a1,aj,ab,ax,af,ay,ag,aq,ac,aw,az,ah,ai];exact a _ _ rfl (by simp[t,c,l,n,Y2,Z8])
   | false=>
    rw[Y]at a z b;rw[if_pos rfl]at a;simp[-Int.natCast_add,-Int.natCast_mul,I,L,G,X,P,u,J,D,M,H,rowL,z,b,O,ae,a1,aj,ab,ax,af,ay,ag,aq,ac,aw,az,ah,ai];exact a _ _ rfl (by simp[t,c,l,n,Y2,Z8])
end Go.Known
