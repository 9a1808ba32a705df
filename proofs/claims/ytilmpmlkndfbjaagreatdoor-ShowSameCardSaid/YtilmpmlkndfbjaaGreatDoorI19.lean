/- Part 19 of the proof: Rd. -/
import Derived.Test.YtilmpmlkndfbjaaGreatDoorI16
import Derived.Test.YtilmpmlkndfbjaaGreatDoorI18
set_option linter.all false
namespace Go.Known
open Go Go.AE Go.Proofs
open Go.Plain
attribute [local simp] Zb1 Zcg Zb5 Zc7 Zdf Zd8 Zen Zbx Zcz O4 P9 P7 O0 P6 P8 Zd0 Zbw Zb6 Zco Zeg Zbo Zc3 Zc0 Zdx Zbv Zem Zb8 Zd9 Zcl Zej Zbz Zcs Zdy Zec Zch Zck Zbu Zdd Zc8 Zb7 Zcw Zbt Zds Zdj Zdt Zc9 Zeb Zea Zcv Zcu Zby Zdz Zee Zc1 Zd4 Zcr Zeh Zek Zb0 Zel Zdq Zcn Zcx Zdo Zdg Zcj Zdp Zbj Zc6 Zc5 Env.get V2 SMem.at SMem.app SMem.get Z9 Q5 AVal.cells AVal.one T9 Q8 Zd5 Zda Zei Zcq Zdk Zd7 Zcf Zb2 Zdl Zbq Zcp Zdm Zde unA R8 U8 G5 L4 W4 aundef Zdw Zct Zc4 Zb9 Zbs P3 V8 L5 L1 M8 G6 S3 H7 SubR SubRE SubRB InjK InjA qOf Zat AVal.ren Q4 Z4 ABlk.ren K5 R0 M7 U4 U3 X0 FT.indep N6 P5 K9 H3 in1 Zjc
abbrev dF(F:Nat)(ls:List Lt)(rows:List (List AVal))(E:List Ent):SMem:=
 dM F ls.length (Z1 ls).length rows (Z2 (R5 F ls)) (bls (X8 ls.length ls.length (V6 ls) false)) (Z2 (X8 ls.length ls.length (R6 ls) 0)) (Z2 (Z1 ls)) E
structure Filled (ls:List Lt) (E:List Ent):Prop where
 small:ls.length≤1000
 some:0<(Z1 ls).length
 kind:∀ v,v<ls.length→(at' ls v).k=1∨(at' ls v).k=2
 place:∀ v,v<ls.length→(at' ls v).k=1→R6 ls v=V1 v (Z1 ls)∧V1 v (Z1 ls)<(Z1 ls).length
 cross:∀ v,v<ls.length→(at' ls v).k=2 → ∃ p w,fnd (at' ls v).i E=.some (p,w)∧S5 (!(at' ls v).o) w=(X9 ls v ls.length 0:Nat)∧X9 ls v ls.length 0<ls.length
theorem c136(F:Nat)(ls:List Lt)(E:List Ent)(i:Nat)(h:ls.length≤1000)(hi:i<ls.length) :
 Ctr Tryz.prog 189 [.ptr 1 0 0,.int .i64 i] (dF F ls (ls.map rowL) E) fun r m=>r=.int .i64 (Y0 ls.length i false:Nat)∧m=dF F ls (ls.map rowL) E:=by
 refine A8 hm Tryz.func189 Zzt rfl rfl fun K s=>?_
 have t:=L0 ls;have j:∀ q,Z4 q (ls.map rowL)=ls.map rowL:=fun q=>X1 q _ (Y5 ls)
 generalize ls.map rowL=rows at *;have a:=t.len;have d:¬((ls.length:Int)=0):=by omega
 have g:ls≠[]:=by intro e; subst e; simp at hi
 have k:IntKind.i64.wrap ((i:Int) - 1)=(i:Int) - 1:=Z5 (by omega) (by omega)
 have l:IntKind.i64.wrap ((i:Int) - 1+ls.length)=((i+ls.length - 1:Nat):Int):=by rw[Z5 (by omega) (by omega)]; omega
 have p:=Nat.mod_lt (i+ls.length - 1) (show 0<ls.length by omega)
 have b:((Y0 ls.length i false:Nat):Int)=2*(((i+ls.length - 1) % ls.length:Nat):Int)+1:=by simp only[Y0,bF,if_false]; omega
 have c:((i+ls.length - 1:Nat):Int).tmod (ls.length:Int)=(((i+ls.length - 1) % ls.length:Nat):Int):=rfl;generalize (i+ls.length - 1) % ls.length=x at *;generalize i+ls.length - 1=y at *;have n:IntKind.i64.wrap (2*(x:Int))=2*(x:Int):=Z5 (by omega) (by omega)
 have o:IntKind.i64.wrap (2*(x:Int)+1)=2*(x:Int)+1:=Z5 (by omega) (by omega)
 simp[a,k,l,d,g,c,n,o];refine Y1 s [] ?_;simp[j,Z6,W3,Z8,b]
theorem c137(F:Nat)(ls:List Lt)(E:List Ent)(i:Nat)(h:ls.length≤1000)(hi:i<ls.length) :
 Ctr Tryz.prog 190 [.ptr 1 0 0,.int .i64 i] (dF F ls (ls.map rowL) E) fun r m=>r=.int .i64 (Y0 ls.length i true:Nat)∧m=dF F ls (ls.map rowL) E:=by
 refine A8 hm Tryz.func190 Zt5 rfl rfl fun K d=>?_
 have b:∀ q,Z4 q (ls.map rowL)=ls.map rowL:=fun q=>X1 q _ (Y5 ls)
 generalize ls.map rowL=rows at *;have a:((Y0 ls.length i true:Nat):Int)=2*(i:Int):=by simp only[Y0,if_true]; omega
 have c:IntKind.i64.wrap (2*(i:Int))=2*(i:Int):=Z5 (by omega) (by omega)
 simp[c];refine Y1 d [] ?_;simp[b,Z6,W3,Z8,a]
set_option maxRecDepth 100000 in
set_option maxHeartbeats 4000000 in
theorem c105(F:Nat)(ls:List Lt)(E:List Ent)(hg:Filled ls E)(d:Nat)(hd:d<2*ls.length+2*(Z1 ls).length) :
 Ctr Tryz.prog 174 [.ptr 1 0 0,.int .i64 d] (dF F ls (ls.map rowL) E) fun r m=>r=.int .i64 (Y4 ls (Z1 ls) d:Nat)∧m=dF F ls (ls.map rowL) E:=by
 refine A8 hm Tryz.func174 Zwp rfl rfl fun K hK=>?_
 have hR:=L0 ls;have h:=hg.small;have Z:=fun i hi=>c136 F ls E i h hi
 have aa:=fun i hi=>c137 F ls E i h hi
 unfold dF dM dV2 at *;have t:∀ q,Z4 q (ls.map rowL)=ls.map rowL:=fun q=>X1 q _ (Y5 ls)
 generalize ls.map rowL=rows at *;have I:=hR.len;have an:=hg.some;have bv:(Z1 ls).length≤ls.length:=by rw[T4]; exact D2
 have a0:(Z2 (Z1 ls)).length=(Z1 ls).length:=L6 _;have O:(bls (X8 ls.length ls.length (V6 ls) false)).length=ls.length:=by rw[bls,List.length_map,Zaw]
 have a1:(Z2 (X8 ls.length ls.length (R6 ls) 0)).length=ls.length:=by rw[L6,Zaw]
 have ba:∀ v,v<ls.length→(bls (X8 ls.length ls.length (V6 ls) false))[v]? = some [AVal.bool (V6 ls v)]:=fun v hv=>by
  have:=Ze0 (Zbc (i:=ls.length) (v:=V6 ls) (d:=false) hv);rw[if_pos hv]at this; exact this
 have bs:∀ v,v<ls.length→(Z2 (X8 ls.length ls.length (R6 ls) 0))[v]? = some [AVal.int .i64 (R6 ls v:Nat)]:=fun v hv=>by
  have:=B4 (Zbc (i:=ls.length) (v:=R6 ls) (d:=0) hv);rw[if_pos hv]at this; exact this
 have be:∀ j,j<(Z1 ls).length→(Z2 (Z1 ls))[j]? = some [AVal.int .i64 ((Z1 ls).getD j 0:Nat)]:=fun j hj=>by
  apply B4;rw[gE hj,List.getD,gE hj]; rfl
 have bf:∀ j,j<(Z1 ls).length→(Z1 ls).getD j 0<ls.length∧isP (at' ls ((Z1 ls).getD j 0))=true:=fun j hj=>by
  have:(Z1 ls).getD j 0=(Z1 ls)[j]:=by rw[List.getD,gE hj]; rfl
  rw[this];exact mem_axis.1 (List.getElem_mem hj)
 have a3:=hg.place;have a2:=hg.cross;have bb:=hg.kind;have ar:¬((ls.length:Int)=0):=by omega
 have au:ls≠[]:=by intro e; rw[e]at bv an; have:([]:List Lt).length=0:=rfl; omega
 have aq:¬(((Z1 ls).length:Nat):Int)=0:=by omega
 have ac:Z1 ls≠[]:=by intro e; rw[e]at an; simp at an
 have L:IntKind.i64.wrap (2*(ls.length:Int))=2*(ls.length:Int):=Z5 (by omega) (by omega)
 have a:∀ v m,v=Y4 ls (Z1 ls) d→SubR 7 [] [(0,.int .i64 (v:Nat))] ⟨[(1,.cells 7 [[.int .i64 (F:Int),.imm rows,.sl 3 0 ls.length,.sl 5 0 (Z1 ls).length,.sl 4 0 ls.length,.map 6,.sl 2 0 (F+1)]]),(2,.cells 1 (Z2 (R5 F ls))),(3,.cells 1 (bls (X8 ls.length ls.length (V6 ls) false))),(4,.cells 1 (Z2 (X8 ls.length ls.length (R6 ls) 0))),(5,.cells 1 (Z2 (Z1 ls))),(6,.map (mkE 0 E) E.length)],7⟩ [(0,.int .i64 (v:Nat))] m→S4 7 K (.int .i64 (v:Nat)) m:=fun v m hv hs=>by
  subst hv; exact Y1 hK [] hs
 clear hK;have bt:∀ i,i<ls.length→True:=fun _ _=>trivial
 unfold Y4 at a;generalize bq:bls (X8 ls.length ls.length (V6 ls) false)=B at *;generalize br:Z2 (X8 ls.length ls.length (R6 ls) 0)=C at *;generalize bp:Z2 (Z1 ls)=A at *;have c:∀ q,Z4 q A=A:=fun q=>by rw[← bp]; exact Z6 q _
 have l:∀ q,Z4 q B=B:=fun q=>by rw[← bq]; exact W3 q _
 have n:∀ q,Z4 q C=C:=fun q=>by rw[← br]; exact Z6 q _
 generalize bx:(Z1 ls).length=m at *;have J:¬m=0:=by omega
 have P:(d:Int).tmod 2=((d % 2:Nat):Int):=rfl;by_cases bh:2*ls.length≤d
 ·rw[if_pos bh]at a;have G:2*(ls.length:Int)≤(d:Int):=by omega
  obtain⟨e,he⟩:∃ e,d - 2*ls.length=e:=⟨_,rfl⟩
  have a5:IntKind.i64.wrap ((d:Int) - 2*(ls.length:Int))=(e:Int):=by rw[Z5 (by omega) (by omega)]; omega
  obtain⟨j,hj⟩:∃ j,e / 2=j:=⟨_,rfl⟩
  have a4:IntKind.i64.wrap ((e:Int) / 2)=(j:Int):=by rw[Z5 (by omega) (by omega)]; omega
  rw[he,hj]at a;have am:j<m:=by omega
  have av:=be j am;obtain⟨_,al⟩:=X5 av;by_cases S:d % 2=0
  ·rw[if_pos S]at a;have u:=S;obtain⟨y,hy⟩:∃ y,(j+1) % m=y:=⟨_,rfl⟩
   have a6:y<m:=by rw[← hy]; exact Nat.mod_lt _ an
   have a8:IntKind.i64.wrap ((j:Int)+1)=(j:Int)+1:=Z5 (by omega) (by omega)
   have bl:((j:Int)+1) % (m:Int)=(y:Int):=by rw[← hy]; rfl
   have bm:((j:Int)+1).tmod (m:Int)=(y:Int):=by rw[← hy]; rfl
   have a9:=be y a6;obtain⟨_,a7⟩:=X5 a9;obtain⟨D,bd⟩:=bf y a6;rw[hy]at a;generalize (Z1 ls).getD y 0=v at *;have z:=ba v D;obtain⟨_,b⟩:=X5 z;have ak:V6 ls v=down ls v:=by simp[V6,bd]
   rw[ak]at z b;cases Y:down ls v with
   | true=>
    rw[Y]at a z b;simp[I,L,G,a5,a4,am,av,al,a0,P,u,J,a8,aq,ac,bl,bm,a6,a9,a7,D,z,b,O];refine U9 (Z v D) [] (by simp) (by simp[t,c,l,n,Z8,Z6]) (by simp) ?_
    rintro r sm ⟨rfl,rfl⟩;simp[t,c,l,n,Z8,Z6];exact a _ _ rfl (by simp[t,c,l,n,Z8,Z6])
   | false=>
    rw[Y]at a z b;simp[I,L,G,a5,a4,am,av,al,a0,P,u,J,a8,aq,ac,bl,bm,a6,a9,a7,D,z,b,O];refine U9 (aa v D) [] (by simp) (by simp[t,c,l,n,Z8,Z6]) (by simp) ?_
    rintro r sm ⟨rfl,rfl⟩;simp[t,c,l,n,Z8,Z6];exact a _ _ rfl (by simp[t,c,l,n,Z8,Z6])
  ·rw[if_neg S]at a;have u:d % 2=1:=by omega
   obtain⟨D,bd⟩:=bf j am;generalize (Z1 ls).getD j 0=v at *;have z:=ba v D;obtain⟨_,b⟩:=X5 z;have ak:V6 ls v=down ls v:=by simp[V6,bd]
   rw[ak]at z b;cases Y:down ls v with
   | true=>
    rw[Y]at a z b;simp[I,L,G,a5,a4,am,av,al,a0,P,u,J,D,z,b,O];refine U9 (aa v D) [] (by simp) (by simp[t,c,l,n,Z8,Z6]) (by simp) ?_
    rintro r sm ⟨rfl,rfl⟩;simp[t,c,l,n,Z8,Z6];exact a _ _ rfl (by simp[t,c,l,n,Z8,Z6])
   | false=>
    rw[Y]at a z b;simp[I,L,G,a5,a4,am,av,al,a0,P,u,J,D,z,b,O];refine U9 (Z v D) [] (by simp) (by simp[t,c,l,n,Z8,Z6]) (by simp) ?_
    rintro r sm ⟨rfl,rfl⟩;simp[t,c,l,n,Z8,Z6];exact a _ _ rfl (by simp[t,c,l,n,Z8,Z6])
 rw[if_neg bh]at a;have G:¬2*(ls.length:Int)≤(d:Int):=by omega
 obtain⟨g,bu⟩:∃ g,d / 2=g:=⟨_,rfl⟩
 rw[bu]at a;have X:IntKind.i64.wrap ((d:Int) / 2)=(g:Int):=by rw[Z5 (by omega) (by omega)]; omega
 have ad:IntKind.i64.wrap ((g:Int)+1)=(g:Int)+1:=Z5 (by omega) (by omega)
 obtain⟨v,hv⟩:∃ v,(if d % 2=0 then (g+1) % ls.length else g)=v:=⟨_,rfl⟩
 have D:v<ls.length:=by
  rw[← hv];split
  ·exact Nat.mod_lt _ (by omega)
  ·omega
 rw[hv]at a;simp only at a;have M:=hR.row v D;obtain⟨_,H⟩:=X5 M;have z:=ba v D;obtain⟨_,b⟩:=X5 z;have aj:=bs v D;obtain⟨_,ab⟩:=X5 aj;have bi:=bb v D;have bj:=a3 v D;have bg:=a2 v D;by_cases S:d % 2=0
 ·rw[if_pos S]at hv;have u:=S;have hb:(d % 2 == 0)=true:=by simp[S]
  have ao:((g:Int)+1).tmod (ls.length:Int)=(v:Int):=by rw[← hv]; rfl
  rw[hb]at a;by_cases hk:(at' ls v).k=2
  ·rw[if_pos hk]at a;obtain⟨p,w,hf,hs,ho⟩:=bg hk;have U:=Zlw (at' ls v).i 0 E;rw[hf]at U;simp only[visV]at U;generalize X9 ls v ls.length 0=x at *;cases V:(at' ls v).o with
   | true=>
    rw[V]at a hs;simp only[S5,Bool.not_true,Bool.not_false,bF,if_true,if_false]at hs;by_cases N:(at' ls v).s=1
    ·have Q:((at' ls v).s == 1)=true:=by simp[N]
     rw[Q]at a;simp[I,L,G,X,P,u,J,ad,ar,au,ao,D,M,H,rowL,z,b,O,hk,U,V,N,hs];refine U9 (aa x ho) [] (by simp) (by simp[t,c,l,n,Z8,Z6]) (by simp) ?_
     rintro r sm ⟨rfl,rfl⟩;simp[t,c,l,n,Z8,Z6];exact a _ _ rfl (by simp[t,c,l,n,Z8,Z6])
    ·have Q:((at' ls v).s == 1)=false:=by simp[N]
     rw[Q]at a;simp[I,L,G,X,P,u,J,ad,ar,au,ao,D,M,H,rowL,z,b,O,hk,U,V,N,hs];refine U9 (Z x ho) [] (by simp) (by simp[t,c,l,n,Z8,Z6]) (by simp) ?_
     rintro r sm ⟨rfl,rfl⟩;simp[t,c,l,n,Z8,Z6];exact a _ _ rfl (by simp[t,c,l,n,Z8,Z6])
   | false=>
    rw[V]at a hs;simp only[S5,Bool.not_true,Bool.not_false,bF,if_true,if_false]at hs;by_cases N:(at' ls v).s=1
    ·have Q:((at' ls v).s == 1)=true:=by simp[N]
     rw[Q]at a;simp[I,L,G,X,P,u,J,ad,ar,au,ao,D,M,H,rowL,z,b,O,hk,U,V,N,hs];refine U9 (Z x ho) [] (by simp) (by simp[t,c,l,n,Z8,Z6]) (by simp) ?_
     rintro r sm ⟨rfl,rfl⟩;simp[t,c,l,n,Z8,Z6];exact a _ _ rfl (by simp[t,c,l,n,Z8,Z6])
    ·have Q:((at' ls v).s == 1)=false:=by simp[N]
     rw[Q]at a;simp[I,L,G,X,P,u,J,ad,ar,au,ao,D,M,H,rowL,z,b,O,hk,U,V,N,hs];refine U9 (aa x ho) [] (by simp) (by simp[t,c,l,n,Z8,Z6]) (by simp) ?_
     rintro r sm ⟨rfl,rfl⟩;simp[t,c,l,n,Z8,Z6];exact a _ _ rfl (by simp[t,c,l,n,Z8,Z6])
  ·have ae:(at' ls v).k=1:=bi.resolve_right hk;have hp:isP (at' ls v)=true:=by simp[isP,ae]
   rw[if_neg hk]at a;obtain⟨bc,bw⟩:=bj ae;rw[bc]at aj ab;have ak:V6 ls v=down ls v:=by simp[V6,hp]
   rw[ak]at z b;generalize V1 v (Z1 ls)=x at *;have ax:IntKind.i64.wrap (2*(x:Int))=2*(x:Int):=Z5 (by omega) (by omega)
   have af:IntKind.i64.wrap (2*(ls.length:Int)+2*(x:Int))=((2*ls.length+2*x:Nat):Int):=by rw[Z5 (by omega) (by omega)]; omega
   have ay:IntKind.i64.wrap ((x:Int) - 1)=(x:Int) - 1:=Z5 (by omega) (by omega)
   have ag:IntKind.i64.wrap ((x:Int) - 1+m)=((x+m - 1:Nat):Int):=by rw[Z5 (by omega) (by omega)]; omega
   have aw:((x+m - 1:Nat):Int).tmod (m:Int)=(((x+m - 1) % m:Nat):Int):=rfl;have bn:=Nat.mod_lt (x+m - 1) an;generalize (x+m - 1) % m=y at *;generalize x+m - 1=y0 at *;have az:IntKind.i64.wrap (2*(y:Int))=2*(y:Int):=Z5 (by omega) (by omega)
   have ah:IntKind.i64.wrap (2*(ls.length:Int)+2*(y:Int))=2*(ls.length:Int)+2*(y:Int):=Z5 (by omega) (by omega)
   have ai:IntKind.i64.wrap (2*(ls.length:Int)+2*(y:Int)+1)=((2*ls.length+2*y+1:Nat):Int):=by rw[Z5 (by omega) (by omega)]; omega
   cases Y:down ls v with
   | true=>
    rw[Y]at a z b;rw[if_pos rfl]at a;simp[-Int.natCast_add,-Int.natCast_mul,I,L,G,X,P,u,J,ad,ar,au,ao,D,M,H,rowL,z,b,O,ae,a1,aj,ab,ax,af,ay,ag,aq,ac,aw,az,ah,ai];exact a _ _ rfl (by simp[t,c,l,n,Z8,Z6])
   | false=>
    rw[Y]at a z b;rw[if_neg (by simp)]at a
    simp[-Int.natCast_add,-Int.natCast_mul,I,L,G,X,P,u,J,ad,ar,au,ao,D,M,H,rowL,z,b,O,ae,a1,aj,ab,ax,af,ay,ag,aq,ac,aw,az,ah,ai];exact a _ _ rfl (by simp[t,c,l,n,Z8,Z6])
 ·rw[if_neg S]at hv;have u:d % 2=1:=by omega
  have hb:(d % 2 == 0)=false:=by simp[S]
  rw[hv]at X;rw[hb]at a;by_cases hk:(at' ls v).k=2
  ·rw[if_pos hk]at a;obtain⟨p,w,hf,hs,ho⟩:=bg hk;have U:=Zlw (at' ls v).i 0 E;rw[hf]at U;simp only[visV]at U;generalize X9 ls v ls.length 0=x at *;cases V:(at' ls v).o with
   | true=>
    rw[V]at a hs;simp only[S5,Bool.not_true,Bool.not_false,bF,if_true,if_false]at hs;by_cases N:(at' ls v).s=1
    ·have Q:((at' ls v).s == 1)=true:=by simp[N]
     rw[Q]at a;simp[I,L,G,X,P,u,J,D,M,H,rowL,z,b,O,hk,U,V,N,hs];refine U9 (Z x ho) [] (by simp) (by simp[t,c,l,n,Z8,Z6]) (by simp) ?_
     rintro r sm ⟨rfl,rfl⟩;simp[t,c,l,n,Z8,Z6];exact a _ _ rfl (by simp[t,c,l,n,Z8,Z6])
    ·have Q:((at' ls v).s == 1)=false:=by simp[N]
     rw[Q]at a;simp[I,L,G,X,P,u,J,D,M,H,rowL,z,b,O,hk,U,V,N,hs];refine U9 (aa x ho) [] (by simp) (by simp[t,c,l,n,Z8,Z6]) (by simp) ?_
     rintro r sm ⟨rfl,rfl⟩;simp[t,c,l,n,Z8,Z6];exact a _ _ rfl (by simp[t,c,l,n,Z8,Z6])
   | false=>
    rw[V]at a hs;simp only[S5,Bool.not_true,Bool.not_false,bF,if_true,if_false]at hs;by_cases N:(at' ls v).s=1
    ·have Q:((at' ls v).s == 1)=true:=by simp[N]
     rw[Q]at a;simp[I,L,G,X,P,u,J,D,M,H,rowL,z,b,O,hk,U,V,N,hs];refine U9 (aa x ho) [] (by simp) (by simp[t,c,l,n,Z8,Z6]) (by simp) ?_
     rintro r sm ⟨rfl,rfl⟩;simp[t,c,l,n,Z8,Z6];exact a _ _ rfl (by simp[t,c,l,n,Z8,Z6])
    ·have Q:((at' ls v).s == 1)=false:=by simp[N]
     rw[Q]at a;simp[I,L,G,X,P,u,J,D,M,H,rowL,z,b,O,hk,U,V,N,hs];refine U9 (Z x ho) [] (by simp) (by simp[t,c,l,n,Z8,Z6]) (by simp) ?_
     rintro r sm ⟨rfl,rfl⟩;simp[t,c,l,n,Z8,Z6];exact a _ _ rfl (by simp[t,c,l,n,Z8,Z6])
  ·have ae:(at' ls v).k=1:=bi.resolve_right hk;have hp:isP (at' ls v)=true:=by simp[isP,ae]
   rw[if_neg hk]at a;obtain⟨bc,bw⟩:=bj ae;rw[bc]at aj ab;have ak:V6 ls v=down ls v:=by simp[V6,hp]
   rw[ak]at z b;generalize V1 v (Z1 ls)=x at *;have ax:IntKind.i64.wrap (2*(x:Int))=2*(x:Int):=Z5 (by omega) (by omega)
   have af:IntKind.i64.wrap (2*(ls.length:Int)+2*(x:Int))=((2*ls.length+2*x:Nat):Int):=by rw[Z5 (by omega) (by omega)]; omega
   have ay:IntKind.i64.wrap ((x:Int) - 1)=(x:Int) - 1:=Z5 (by omega) (by omega)
   have ag:IntKind.i64.wrap ((x:Int) - 1+m)=((x+m - 1:Nat):Int):=by rw[Z5 (by omega) (by omega)]; omega
   have aw:((x+m - 1:Nat):Int).tmod (m:Int)=(((x+m - 1) % m:Nat):Int):=rfl;have bn:=Nat.mod_lt (x+m - 1) an;generalize (x+m - 1) % m=y at *;generalize x+m - 1=y0 at *;have az:IntKind.i64.wrap (2*(y:Int))=2*(y:Int):=Z5 (by omega) (by omega)
   have ah:IntKind.i64.wrap (2*(ls.length:Int)+2*(y:Int))=2*(ls.length:Int)+2*(y:Int):=Z5 (by omega) (by omega)
   have ai:IntKind.i64.wrap (2*(ls.length:Int)+2*(y:Int)+1)=((2*ls.length+2*y+1:Nat):Int):=by rw[Z5 (by omega) (by omega)]; omega
   cases Y:down ls v with
   | true=>
    rw[Y]at a z b;rw[if_neg (by simp)]at a
    simp[-Int.natCast_add,-Int.natCast_mul,I,L,G,X,P,u,J,D,M,H,rowL,z,b,O,ae,a1,aj,ab,ax,af,ay,ag,aq,ac,aw,az,ah,ai];exact a _ _ rfl (by simp[t,c,l,n,Z8,Z6])
   | false=>
    rw[Y]at a z b;rw[if_pos rfl]at a;simp[-Int.natCast_add,-Int.natCast_mul,I,L,G,X,P,u,J,D,M,H,rowL,z,b,O,ae,a1,aj,ab,ax,af,ay,ag,aq,ac,aw,az,ah,ai];exact a _ _ rfl (by simp[t,c,l,n,Z8,Z6])
end Go.Known
