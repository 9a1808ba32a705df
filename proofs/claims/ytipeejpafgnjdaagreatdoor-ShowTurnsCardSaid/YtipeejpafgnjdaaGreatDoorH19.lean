/- Part 19 of the proof: Rd. -/
import Derived.Test.YtipeejpafgnjdaaGreatDoorH16
import Derived.Test.YtipeejpafgnjdaaGreatDoorH18
set_option linter.all false
namespace Go.Known
open Go Go.AE Go.Proofs
open Go.Plain
attribute [local simp] Zbv Zdd Zcl Zcs Zch Zcw Zby Zcv Zbp P1 P3 Q7 P6 Q9 P4 Zdx Zbu Zbi Zdw Zd1 Zb8 Zd2 Zbn Zb2 Zdt Zbt Zbo Zdf Zdj Zco Zbx Zd4 Zdg Zdp Zde Zbj Zcu Zdk Zcf Zcy Zc2 Zbf Zc5 Zcq Zb3 Zdz Zdb Zc9 Zc1 Zd3 Zce Zc6 Zcb Zc0 Zbh Zda Zb1 Zd5 Zd0 Zbl Zci Zdy Zc8 Zdc Zdq Zcm Zcz Za2 Zc4 Zdl Env.get W9 SMem.at SMem.app SMem.get Z8 R6 AVal.cells AVal.one T6 Q1 Zds Zb7 Zbw Zb9 Zbm Zbg Zcx Zbs Zcr Zdn Zdh Zct Zdr unA R5 U8 I4 M8 X9 aundef Zdi Zdm Zbk Zbz Zc3 Q3 V3 M6 M5 N9 I7 S1 J3 SubR SubRE SubRB InjK InjA qOf Zap AVal.ren Q0 Z3 ABlk.ren L9 S8 M2 V9 V8 Y8 FT.indep O8 Q8 K1 J2 in1 Zir
abbrev dF(F:Nat)(ls:List Lt)(rows:List (List AVal))(E:List Ent):SMem:=
 dM F ls.length (Z2 ls).length rows (Z0 (S7 F ls)) (bls (X2 ls.length ls.length (V0 ls) false)) (Z0 (X2 ls.length ls.length (S6 ls) 0)) (Z0 (Z2 ls)) E
structure Filled (ls:List Lt) (E:List Ent):Prop where
 small:ls.length≤1000
 some:0<(Z2 ls).length
 kind:∀ v,v<ls.length→(at' ls v).k=1∨(at' ls v).k=2
 place:∀ v,v<ls.length→(at' ls v).k=1→S6 ls v=U1 v (Z2 ls)∧U1 v (Z2 ls)<(Z2 ls).length
 cross:∀ v,v<ls.length→(at' ls v).k=2 → ∃ p w,fnd (at' ls v).i E=.some (p,w)∧T9 (!(at' ls v).o) w=(W1 ls v ls.length 0:Nat)∧W1 ls v ls.length 0<ls.length
theorem c136(F:Nat)(ls:List Lt)(E:List Ent)(i:Nat)(h:ls.length≤1000)(hi:i<ls.length) :
 Ctr Tryz.prog 204 [.ptr 1 0 0,.int .i64 i] (dF F ls (ls.map rowL) E) fun r m=>r=.int .i64 (U3 ls.length i false:Nat)∧m=dF F ls (ls.map rowL) E:=by
 refine A3 hm Tryz.func204 Zt5 rfl rfl fun K hK=>?_
 have hR:=N8 ls;have hrr:∀ q,Z3 q (ls.map rowL)=ls.map rowL:=fun q=>Y6 q _ (Z9 ls)
 generalize ls.map rowL=rows at *;have hlen:=hR.len;have hn0:¬((ls.length:Int)=0):=by omega
 have hne:ls≠[]:=by intro e; subst e; simp at hi
 have hw1:IntKind.i64.wrap ((i:Int) - 1)=(i:Int) - 1:=Z6 (by omega) (by omega)
 have hw2:IntKind.i64.wrap ((i:Int) - 1+ls.length)=((i+ls.length - 1:Nat):Int):=by rw[Z6 (by omega) (by omega)]; omega
 have hmod:=Nat.mod_lt (i+ls.length - 1) (show 0<ls.length by omega)
 have hal:((U3 ls.length i false:Nat):Int)=2*(((i+ls.length - 1) % ls.length:Nat):Int)+1:=by simp only[U3,bF,if_false]; omega
 have hm2:((i+ls.length - 1:Nat):Int).tmod (ls.length:Int)=(((i+ls.length - 1) % ls.length:Nat):Int):=rfl;generalize (i+ls.length - 1) % ls.length=x at *;generalize i+ls.length - 1=y at *;have hw3:IntKind.i64.wrap (2*(x:Int))=2*(x:Int):=Z6 (by omega) (by omega)
 have hw4:IntKind.i64.wrap (2*(x:Int)+1)=2*(x:Int)+1:=Z6 (by omega) (by omega)
 simp[hlen,hw1,hw2,hn0,hne,hm2,hw3,hw4];refine Y1 hK [] ?_;simp[hrr,Z5,X7,Z7,hal]
theorem c137(F:Nat)(ls:List Lt)(E:List Ent)(i:Nat)(h:ls.length≤1000)(hi:i<ls.length) :
 Ctr Tryz.prog 205 [.ptr 1 0 0,.int .i64 i] (dF F ls (ls.map rowL) E) fun r m=>r=.int .i64 (U3 ls.length i true:Nat)∧m=dF F ls (ls.map rowL) E:=by
 refine A3 hm Tryz.func205 Zsk rfl rfl fun K hK=>?_
 have hrr:∀ q,Z3 q (ls.map rowL)=ls.map rowL:=fun q=>Y6 q _ (Z9 ls)
 generalize ls.map rowL=rows at *;have hal:((U3 ls.length i true:Nat):Int)=2*(i:Int):=by simp only[U3,if_true]; omega
 have hw3:IntKind.i64.wrap (2*(i:Int))=2*(i:Int):=Z6 (by omega) (by omega)
 simp[hw3];refine Y1 hK [] ?_;simp[hrr,Z5,X7,Z7,hal]
set_option maxRecDepth 100000 in
set_option maxHeartbeats 4000000 in
theorem c105(F:Nat)(ls:List Lt)(E:List Ent)(hg:Filled ls E)(d:Nat)(hd:d<2*ls.length+2*(Z2 ls).length) :
 Ctr Tryz.prog 178 [.ptr 1 0 0,.int .i64 d] (dF F ls (ls.map rowL) E) fun r m=>r=.int .i64 (Y3 ls (Z2 ls) d:Nat)∧m=dF F ls (ls.map rowL) E:=by
 refine A3 hm Tryz.func178 Zx8 rfl rfl fun K hK=>?_
 have hR:=N8 ls;have h:=hg.small;have h136:=fun i hi=>c136 F ls E i h hi
 have h137:=fun i hi=>c137 F ls E i h hi
 unfold dF dM dV2 at *;have hrr:∀ q,Z3 q (ls.map rowL)=ls.map rowL:=fun q=>Y6 q _ (Z9 ls)
 generalize ls.map rowL=rows at *;have hlen:=hR.len;have hm0:=hg.some;have hml:(Z2 ls).length≤ls.length:=by rw[O6]; exact E5
 have hAl:(Z0 (Z2 ls)).length=(Z2 ls).length:=M0 _;have hBl:(bls (X2 ls.length ls.length (V0 ls) false)).length=ls.length:=by rw[bls,List.length_map,Zat]
 have hCl:(Z0 (X2 ls.length ls.length (S6 ls) 0)).length=ls.length:=by rw[M0,Zat]
 have hBg:∀ v,v<ls.length→(bls (X2 ls.length ls.length (V0 ls) false))[v]? = some [AVal.bool (V0 ls v)]:=fun v hv=>by
  have:=Zeg (Za7 (i:=ls.length) (v:=V0 ls) (d:=false) hv);rw[if_pos hv]at this; exact this
 have hCg:∀ v,v<ls.length→(Z0 (X2 ls.length ls.length (S6 ls) 0))[v]? = some [AVal.int .i64 (S6 ls v:Nat)]:=fun v hv=>by
  have:=D6 (Za7 (i:=ls.length) (v:=S6 ls) (d:=0) hv);rw[if_pos hv]at this; exact this
 have hAg:∀ j,j<(Z2 ls).length→(Z0 (Z2 ls))[j]? = some [AVal.int .i64 ((Z2 ls).getD j 0:Nat)]:=fun j hj=>by
  apply D6;rw[gE hj,List.getD,gE hj]; rfl
 have hAm:∀ j,j<(Z2 ls).length→(Z2 ls).getD j 0<ls.length∧isP (at' ls ((Z2 ls).getD j 0))=true:=fun j hj=>by
  have:(Z2 ls).getD j 0=(Z2 ls)[j]:=by rw[List.getD,gE hj]; rfl
  rw[this];exact mem_axis.1 (List.getElem_mem hj)
 have hplace:=hg.place;have hcross:=hg.cross;have hkind:=hg.kind;have hn0:¬((ls.length:Int)=0):=by omega
 have hne:ls≠[]:=by intro e; rw[e]at hml hm0; have:([]:List Lt).length=0:=rfl; omega
 have hmz:¬(((Z2 ls).length:Nat):Int)=0:=by omega
 have hmz':Z2 ls≠[]:=by intro e; rw[e]at hm0; simp at hm0
 have hw2n:IntKind.i64.wrap (2*(ls.length:Int))=2*(ls.length:Int):=Z6 (by omega) (by omega)
 have fin:∀ v m,v=Y3 ls (Z2 ls) d→SubR 7 [] [(0,.int .i64 (v:Nat))] ⟨[(1,.cells 7 [[.int .i64 (F:Int),.imm rows,.sl 3 0 ls.length,.sl 5 0 (Z2 ls).length,.sl 4 0 ls.length,.map 6,.sl 2 0 (F+1)]]),(2,.cells 1 (Z0 (S7 F ls))),(3,.cells 1 (bls (X2 ls.length ls.length (V0 ls) false))),(4,.cells 1 (Z0 (X2 ls.length ls.length (S6 ls) 0))),(5,.cells 1 (Z0 (Z2 ls))),(6,.map (mkE 0 E) E.length)],7⟩ [(0,.int .i64 (v:Nat))] m→S4 7 K (.int .i64 (v:Nat)) m:=fun v m hv hs=>by
  subst hv; exact Y1 hK [] hs
 clear hK;have hcall:∀ i,i<ls.length→True:=fun _ _=>trivial
 unfold Y3 at fin;generalize hBe:bls (X2 ls.length ls.length (V0 ls) false)=B at *;generalize hCe:Z0 (X2 ls.length ls.length (S6 ls) 0)=C at *;generalize hAe:Z0 (Z2 ls)=A at *;have hrA:∀ q,Z3 q A=A:=fun q=>by rw[← hAe]; exact Z5 q _
 have hrB:∀ q,Z3 q B=B:=fun q=>by rw[← hBe]; exact X7 q _
 have hrC:∀ q,Z3 q C=C:=fun q=>by rw[← hCe]; exact Z5 q _
 generalize hme:(Z2 ls).length=m at *;have hm00:¬m=0:=by omega
 have htm:(d:Int).tmod 2=((d % 2:Nat):Int):=rfl;by_cases hd1:2*ls.length≤d
 ·rw[if_pos hd1]at fin;have hd1':2*(ls.length:Int)≤(d:Int):=by omega
  obtain⟨e,he⟩:∃ e,d - 2*ls.length=e:=⟨_,rfl⟩
  have hws:IntKind.i64.wrap ((d:Int) - 2*(ls.length:Int))=(e:Int):=by rw[Z6 (by omega) (by omega)]; omega
  obtain⟨j,hj⟩:∃ j,e / 2=j:=⟨_,rfl⟩
  have hwj:IntKind.i64.wrap ((e:Int) / 2)=(j:Int):=by rw[Z6 (by omega) (by omega)]; omega
  rw[he,hj]at fin;have hjm:j<m:=by omega
  have hAj:=hAg j hjm;obtain⟨_,hAj2⟩:=Y9 hAj;by_cases hpar:d % 2=0
  ·rw[if_pos hpar]at fin;have hpar':=hpar;obtain⟨y,hy⟩:∃ y,(j+1) % m=y:=⟨_,rfl⟩
   have hym:y<m:=by rw[← hy]; exact Nat.mod_lt _ hm0
   have hwj1:IntKind.i64.wrap ((j:Int)+1)=(j:Int)+1:=Z6 (by omega) (by omega)
   have hy2:((j:Int)+1) % (m:Int)=(y:Int):=by rw[← hy]; rfl
   have hy3:((j:Int)+1).tmod (m:Int)=(y:Int):=by rw[← hy]; rfl
   have hAy:=hAg y hym;obtain⟨_,hAy2⟩:=Y9 hAy;obtain⟨hvl,hvp⟩:=hAm y hym;rw[hy]at fin;generalize (Z2 ls).getD y 0=v at *;have hBv:=hBg v hvl;obtain⟨_,hBv2⟩:=Y9 hBv;have hdv:V0 ls v=down ls v:=by simp[V0,hvp]
   rw[hdv]at hBv hBv2;cases hdn:down ls v with
   | true=>
    rw[hdn]at fin hBv hBv2;simp[hlen,hw2n,hd1',hws,hwj,hjm,hAj,hAj2,hAl,htm,hpar',hm00,hwj1,hmz,hmz',hy2,hy3,hym,hAy,hAy2,hvl,hBv,hBv2,hBl];refine U6 (h136 v hvl) [] (by simp) (by simp[hrr,hrA,hrB,hrC,Z7,Z5]) (by simp) ?_
    rintro r sm ⟨rfl,rfl⟩;simp[hrr,hrA,hrB,hrC,Z7,Z5];exact fin _ _ rfl (by simp[hrr,hrA,hrB,hrC,Z7,Z5])
   | false=>
    rw[hdn]at fin hBv hBv2;simp[hlen,hw2n,hd1',hws,hwj,hjm,hAj,hAj2,hAl,htm,hpar',hm00,hwj1,hmz,hmz',hy2,hy3,hym,hAy,hAy2,hvl,hBv,hBv2,hBl];refine U6 (h137 v hvl) [] (by simp) (by simp[hrr,hrA,hrB,hrC,Z7,Z5]) (by simp) ?_
    rintro r sm ⟨rfl,rfl⟩;simp[hrr,hrA,hrB,hrC,Z7,Z5];exact fin _ _ rfl (by simp[hrr,hrA,hrB,hrC,Z7,Z5])
  ·rw[if_neg hpar]at fin;have hpar':d % 2=1:=by omega
   obtain⟨hvl,hvp⟩:=hAm j hjm;generalize (Z2 ls).getD j 0=v at *;have hBv:=hBg v hvl;obtain⟨_,hBv2⟩:=Y9 hBv;have hdv:V0 ls v=down ls v:=by simp[V0,hvp]
   rw[hdv]at hBv hBv2;cases hdn:down ls v with
   | true=>
    rw[hdn]at fin hBv hBv2;simp[hlen,hw2n,hd1',hws,hwj,hjm,hAj,hAj2,hAl,htm,hpar',hm00,hvl,hBv,hBv2,hBl];refine U6 (h137 v hvl) [] (by simp) (by simp[hrr,hrA,hrB,hrC,Z7,Z5]) (by simp) ?_
    rintro r sm ⟨rfl,rfl⟩;simp[hrr,hrA,hrB,hrC,Z7,Z5];exact fin _ _ rfl (by simp[hrr,hrA,hrB,hrC,Z7,Z5])
   | false=>
    rw[hdn]at fin hBv hBv2;simp[hlen,hw2n,hd1',hws,hwj,hjm,hAj,hAj2,hAl,htm,hpar',hm00,hvl,hBv,hBv2,hBl];refine U6 (h136 v hvl) [] (by simp) (by simp[hrr,hrA,hrB,hrC,Z7,Z5]) (by simp) ?_
    rintro r sm ⟨rfl,rfl⟩;simp[hrr,hrA,hrB,hrC,Z7,Z5];exact fin _ _ rfl (by simp[hrr,hrA,hrB,hrC,Z7,Z5])
 rw[if_neg hd1]at fin;have hd1':¬2*(ls.length:Int)≤(d:Int):=by omega
 obtain⟨g,hgd⟩:∃ g,d / 2=g:=⟨_,rfl⟩
 rw[hgd]at fin;have hwd:IntKind.i64.wrap ((d:Int) / 2)=(g:Int):=by rw[Z6 (by omega) (by omega)]; omega
 have hwd1:IntKind.i64.wrap ((g:Int)+1)=(g:Int)+1:=Z6 (by omega) (by omega)
 obtain⟨v,hv⟩:∃ v,(if d % 2=0 then (g+1) % ls.length else g)=v:=⟨_,rfl⟩
 have hvl:v<ls.length:=by
  rw[← hv];split
  ·exact Nat.mod_lt _ (by omega)
  ·omega
 rw[hv]at fin;simp only at fin;have hrow:=hR.row v hvl;obtain⟨_,hrow2⟩:=Y9 hrow;have hBv:=hBg v hvl;obtain⟨_,hBv2⟩:=Y9 hBv;have hCv:=hCg v hvl;obtain⟨_,hCv2⟩:=Y9 hCv;have hkv:=hkind v hvl;have hpl:=hplace v hvl;have hcr:=hcross v hvl;by_cases hpar:d % 2=0
 ·rw[if_pos hpar]at hv;have hpar':=hpar;have hb:(d % 2 == 0)=true:=by simp[hpar]
  have hmd:((g:Int)+1).tmod (ls.length:Int)=(v:Int):=by rw[← hv]; rfl
  rw[hb]at fin;by_cases hk:(at' ls v).k=2
  ·rw[if_pos hk]at fin;obtain⟨p,w,hf,hs,ho⟩:=hcr hk;have hfa:=Zm8 (at' ls v).i 0 E;rw[hf]at hfa;simp only[visV]at hfa;generalize W1 ls v ls.length 0=x at *;cases hov:(at' ls v).o with
   | true=>
    rw[hov]at fin hs;simp only[T9,Bool.not_true,Bool.not_false,bF,if_true,if_false]at hs;by_cases hsg:(at' ls v).s=1
    ·have hsb:((at' ls v).s == 1)=true:=by simp[hsg]
     rw[hsb]at fin;simp[hlen,hw2n,hd1',hwd,htm,hpar',hm00,hwd1,hn0,hne,hmd,hvl,hrow,hrow2,rowL,hBv,hBv2,hBl,hk,hfa,hov,hsg,hs];refine U6 (h137 x ho) [] (by simp) (by simp[hrr,hrA,hrB,hrC,Z7,Z5]) (by simp) ?_
     rintro r sm ⟨rfl,rfl⟩;simp[hrr,hrA,hrB,hrC,Z7,Z5];exact fin _ _ rfl (by simp[hrr,hrA,hrB,hrC,Z7,Z5])
    ·have hsb:((at' ls v).s == 1)=false:=by simp[hsg]
     rw[hsb]at fin;simp[hlen,hw2n,hd1',hwd,htm,hpar',hm00,hwd1,hn0,hne,hmd,hvl,hrow,hrow2,rowL,hBv,hBv2,hBl,hk,hfa,hov,hsg,hs];refine U6 (h136 x ho) [] (by simp) (by simp[hrr,hrA,hrB,hrC,Z7,Z5]) (by simp) ?_
     rintro r sm ⟨rfl,rfl⟩;simp[hrr,hrA,hrB,hrC,Z7,Z5];exact fin _ _ rfl (by simp[hrr,hrA,hrB,hrC,Z7,Z5])
   | false=>
    rw[hov]at fin hs;simp only[T9,Bool.not_true,Bool.not_false,bF,if_true,if_false]at hs;by_cases hsg:(at' ls v).s=1
    ·have hsb:((at' ls v).s == 1)=true:=by simp[hsg]
     rw[hsb]at fin;simp[hlen,hw2n,hd1',hwd,htm,hpar',hm00,hwd1,hn0,hne,hmd,hvl,hrow,hrow2,rowL,hBv,hBv2,hBl,hk,hfa,hov,hsg,hs];refine U6 (h136 x ho) [] (by simp) (by simp[hrr,hrA,hrB,hrC,Z7,Z5]) (by simp) ?_
     rintro r sm ⟨rfl,rfl⟩;simp[hrr,hrA,hrB,hrC,Z7,Z5];exact fin _ _ rfl (by simp[hrr,hrA,hrB,hrC,Z7,Z5])
    ·have hsb:((at' ls v).s == 1)=false:=by simp[hsg]
     rw[hsb]at fin;simp[hlen,hw2n,hd1',hwd,htm,hpar',hm00,hwd1,hn0,hne,hmd,hvl,hrow,hrow2,rowL,hBv,hBv2,hBl,hk,hfa,hov,hsg,hs];refine U6 (h137 x ho) [] (by simp) (by simp[hrr,hrA,hrB,hrC,Z7,Z5]) (by simp) ?_
     rintro r sm ⟨rfl,rfl⟩;simp[hrr,hrA,hrB,hrC,Z7,Z5];exact fin _ _ rfl (by simp[hrr,hrA,hrB,hrC,Z7,Z5])
  ·have hk1:(at' ls v).k=1:=hkv.resolve_right hk;have hp:isP (at' ls v)=true:=by simp[isP,hk1]
   rw[if_neg hk]at fin;obtain⟨hpv,hpm⟩:=hpl hk1;rw[hpv]at hCv hCv2;have hdv:V0 ls v=down ls v:=by simp[V0,hp]
   rw[hdv]at hBv hBv2;generalize U1 v (Z2 ls)=x at *;have hwx:IntKind.i64.wrap (2*(x:Int))=2*(x:Int):=Z6 (by omega) (by omega)
   have hwx2:IntKind.i64.wrap (2*(ls.length:Int)+2*(x:Int))=((2*ls.length+2*x:Nat):Int):=by rw[Z6 (by omega) (by omega)]; omega
   have hwy:IntKind.i64.wrap ((x:Int) - 1)=(x:Int) - 1:=Z6 (by omega) (by omega)
   have hwy2:IntKind.i64.wrap ((x:Int) - 1+m)=((x+m - 1:Nat):Int):=by rw[Z6 (by omega) (by omega)]; omega
   have hmy:((x+m - 1:Nat):Int).tmod (m:Int)=(((x+m - 1) % m:Nat):Int):=rfl;have hylt:=Nat.mod_lt (x+m - 1) hm0;generalize (x+m - 1) % m=y at *;generalize x+m - 1=y0 at *;have hwz:IntKind.i64.wrap (2*(y:Int))=2*(y:Int):=Z6 (by omega) (by omega)
   have hwz2:IntKind.i64.wrap (2*(ls.length:Int)+2*(y:Int))=2*(ls.length:Int)+2*(y:Int):=Z6 (by omega) (by omega)
   have hwz3:IntKind.i64.wrap (2*(ls.length:Int)+2*(y:Int)+1)=((2*ls.length+2*y+1:Nat):Int):=by rw[Z6 (by omega) (by omega)]; omega
   cases hdn:down ls v with
   | true=>
    rw[hdn]at fin hBv hBv2;rw[if_pos rfl]at fin;simp[-Int.natCast_add,-Int.natCast_mul,hlen,hw2n,hd1',hwd,htm,hpar',hm00,hwd1,hn0,hne,hmd,hvl,hrow,hrow2,rowL,hBv,hBv2,hBl,hk1,hCl,hCv,hCv2,hwx,hwx2,hwy,hwy2,hmz,hmz',hmy,hwz,hwz2,hwz3];exact fin _ _ rfl (by simp[hrr,hrA,hrB,hrC,Z7,Z5])
   | false=>
    rw[hdn]at fin hBv hBv2;rw[if_neg (by simp)]at fin
    simp[-Int.natCast_add,-Int.natCast_mul,hlen,hw2n,hd1',hwd,htm,hpar',hm00,hwd1,hn0,hne,hmd,hvl,hrow,hrow2,rowL,hBv,hBv2,hBl,hk1,hCl,hCv,hCv2,hwx,hwx2,hwy,hwy2,hmz,hmz',hmy,hwz,hwz2,hwz3];exact fin _ _ rfl (by simp[hrr,hrA,hrB,hrC,Z7,Z5])
 ·rw[if_neg hpar]at hv;have hpar':d % 2=1:=by omega
  have hb:(d % 2 == 0)=false:=by simp[hpar]
  rw[hv]at hwd;rw[hb]at fin;by_cases hk:(at' ls v).k=2
  ·rw[if_pos hk]at fin;obtain⟨p,w,hf,hs,ho⟩:=hcr hk;have hfa:=Zm8 (at' ls v).i 0 E;rw[hf]at hfa;simp only[visV]at hfa;generalize W1 ls v ls.length 0=x at *;cases hov:(at' ls v).o with
   | true=>
    rw[hov]at fin hs;simp only[T9,Bool.not_true,Bool.not_false,bF,if_true,if_false]at hs;by_cases hsg:(at' ls v).s=1
    ·have hsb:((at' ls v).s == 1)=true:=by simp[hsg]
     rw[hsb]at fin;simp[hlen,hw2n,hd1',hwd,htm,hpar',hm00,hvl,hrow,hrow2,rowL,hBv,hBv2,hBl,hk,hfa,hov,hsg,hs];refine U6 (h136 x ho) [] (by simp) (by simp[hrr,hrA,hrB,hrC,Z7,Z5]) (by simp) ?_
     rintro r sm ⟨rfl,rfl⟩;simp[hrr,hrA,hrB,hrC,Z7,Z5];exact fin _ _ rfl (by simp[hrr,hrA,hrB,hrC,Z7,Z5])
    ·have hsb:((at' ls v).s == 1)=false:=by simp[hsg]
     rw[hsb]at fin;simp[hlen,hw2n,hd1',hwd,htm,hpar',hm00,hvl,hrow,hrow2,rowL,hBv,hBv2,hBl,hk,hfa,hov,hsg,hs];refine U6 (h137 x ho) [] (by simp) (by simp[hrr,hrA,hrB,hrC,Z7,Z5]) (by simp) ?_
     rintro r sm ⟨rfl,rfl⟩;simp[hrr,hrA,hrB,hrC,Z7,Z5];exact fin _ _ rfl (by simp[hrr,hrA,hrB,hrC,Z7,Z5])
   | false=>
    rw[hov]at fin hs;simp only[T9,Bool.not_true,Bool.not_false,bF,if_true,if_false]at hs;by_cases hsg:(at' ls v).s=1
    ·have hsb:((at' ls v).s == 1)=true:=by simp[hsg]
     rw[hsb]at fin;simp[hlen,hw2n,hd1',hwd,htm,hpar',hm00,hvl,hrow,hrow2,rowL,hBv,hBv2,hBl,hk,hfa,hov,hsg,hs];refine U6 (h137 x ho) [] (by simp) (by simp[hrr,hrA,hrB,hrC,Z7,Z5]) (by simp) ?_
     rintro r sm ⟨rfl,rfl⟩;simp[hrr,hrA,hrB,hrC,Z7,Z5];exact fin _ _ rfl (by simp[hrr,hrA,hrB,hrC,Z7,Z5])
    ·have hsb:((at' ls v).s == 1)=false:=by simp[hsg]
     rw[hsb]at fin;simp[hlen,hw2n,hd1',hwd,htm,hpar',hm00,hvl,hrow,hrow2,rowL,hBv,hBv2,hBl,hk,hfa,hov,hsg,hs];refine U6 (h136 x ho) [] (by simp) (by simp[hrr,hrA,hrB,hrC,Z7,Z5]) (by simp) ?_
     rintro r sm ⟨rfl,rfl⟩;simp[hrr,hrA,hrB,hrC,Z7,Z5];exact fin _ _ rfl (by simp[hrr,hrA,hrB,hrC,Z7,Z5])
  ·have hk1:(at' ls v).k=1:=hkv.resolve_right hk;have hp:isP (at' ls v)=true:=by simp[isP,hk1]
   rw[if_neg hk]at fin;obtain⟨hpv,hpm⟩:=hpl hk1;rw[hpv]at hCv hCv2;have hdv:V0 ls v=down ls v:=by simp[V0,hp]
   rw[hdv]at hBv hBv2;generalize U1 v (Z2 ls)=x at *;have hwx:IntKind.i64.wrap (2*(x:Int))=2*(x:Int):=Z6 (by omega) (by omega)
   have hwx2:IntKind.i64.wrap (2*(ls.length:Int)+2*(x:Int))=((2*ls.length+2*x:Nat):Int):=by rw[Z6 (by omega) (by omega)]; omega
   have hwy:IntKind.i64.wrap ((x:Int) - 1)=(x:Int) - 1:=Z6 (by omega) (by omega)
   have hwy2:IntKind.i64.wrap ((x:Int) - 1+m)=((x+m - 1:Nat):Int):=by rw[Z6 (by omega) (by omega)]; omega
   have hmy:((x+m - 1:Nat):Int).tmod (m:Int)=(((x+m - 1) % m:Nat):Int):=rfl;have hylt:=Nat.mod_lt (x+m - 1) hm0;generalize (x+m - 1) % m=y at *;generalize x+m - 1=y0 at *;have hwz:IntKind.i64.wrap (2*(y:Int))=2*(y:Int):=Z6 (by omega) (by omega)
   have hwz2:IntKind.i64.wrap (2*(ls.length:Int)+2*(y:Int))=2*(ls.length:Int)+2*(y:Int):=Z6 (by omega) (by omega)
   have hwz3:IntKind.i64.wrap (2*(ls.length:Int)+2*(y:Int)+1)=((2*ls.length+2*y+1:Nat):Int):=by rw[Z6 (by omega) (by omega)]; omega
   cases hdn:down ls v with
   | true=>
    rw[hdn]at fin hBv hBv2;rw[if_neg (by simp)]at fin
    simp[-Int.natCast_add,-Int.natCast_mul,hlen,hw2n,hd1',hwd,htm,hpar',hm00,hvl,hrow,hrow2,rowL,hBv,hBv2,hBl,hk1,hCl,hCv,hCv2,hwx,hwx2,hwy,hwy2,hmz,hmz',hmy,hwz,hwz2,hwz3];exact fin _ _ rfl (by simp[hrr,hrA,hrB,hrC,Z7,Z5])
   | false=>
    rw[hdn]at fin hBv hBv2;rw[if_pos rfl]at fin;simp[-Int.natCast_add,-Int.natCast_mul,hlen,hw2n,hd1',hwd,htm,hpar',hm00,hvl,hrow,hrow2,rowL,hBv,hBv2,hBl,hk1,hCl,hCv,hCv2,hwx,hwx2,hwy,hwy2,hmz,hmz',hmy,hwz,hwz2,hwz3];exact fin _ _ rfl (by simp[hrr,hrA,hrB,hrC,Z7,Z5])
end Go.Known
