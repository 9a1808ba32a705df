/- Part 17 of the proof: Rd. -/
import Derived.Test.YtilmpmlkndfbjaaGreatDoorK14
import Derived.Test.YtilmpmlkndfbjaaGreatDoorK16
set_option linter.all false
namespace Go.Ab
open Go Go.AE Go.Proofs
open Go.Plain
attribute [local simp] KV KF Kv KM K8 KI K2 Ku KT HG HJ HC HK HL HF JC Ld Kb Jw JF Kk JM Kz KE KZ KY Kl KU K4 KD JO KP K6 Jv Kt Ks Kw JI KR K7 K1 Jx Kq Kd KB JU Ky JY JG JZ Kc Ko KX KN Km JX K3 Jy KW Kr Kg Kx JP JE Kf Jz Lf Iy JW Env.get P3 Ac.at Ac.app Ac.get Y2 P0 Aa.cells Aa.one J4 C0 Ke KQ K9 K5 JQ KL Jq JL KJ Ka Jt KH KC Ga F5 N6 H9 I8 U5 Aj La Ki JT JH O3 X3 J0 M0 I6 D4 Q6 I0 Bq BY BB Cz Df Bz W5 Aa.AA U3 Z3 Ag.AA L7 Q8 N8 U9 T2 W2 FT.indep E4 Iz A0 EC Jg Sx
abbrev dF(F:Nat)(ls:List Lt)(rows:List (List Aa))(E:List DW):Ac:=
 dM F ls.length (Z4 ls).length rows (Z0 (P1 F ls)) (Cw (V2 ls.length ls.length (R4 ls) false)) (Z0 (V2 ls.length ls.length (P6 ls) 0)) (Z0 (Z4 ls)) E
structure FM (ls:List Lt) (E:List DW):Prop where
 small:ls.length≤1000
 some:0<(Z4 ls).length
 kind:∀ v,v<ls.length→(at' ls v).k=1∨(at' ls v).k=2
 place:∀ v,v<ls.length→(at' ls v).k=1→P6 ls v=R9 v (Z4 ls)∧R9 v (Z4 ls)<(Z4 ls).length
 DE:∀ v,v<ls.length→(at' ls v).k=2 → ∃ p w,Dg (at' ls v).i E=.some (p,w)∧S4 (!(at' ls v).o) w=(Q9 ls v ls.length 0:Nat)∧Q9 ls v ls.length 0<ls.length
theorem dQ(F:Nat)(ls:List Lt)(E:List DW)(i:Nat)(h:ls.length≤1000)(hi:i<ls.length) :
 Cc Tryz.prog 189 [.ptr 1 0 0,.int .i64 i] (dF F ls (ls.map Ad) E) fun r m=>r=.int .i64 (Q5 ls.length i false:Nat)∧m=dF F ls (ls.map Ad) E:=by
 refine It hm Tryz.func189 wD rfl rfl fun K hK=>?_
 have hR:=IA ls;have As:∀ q,Z3 q (ls.map Ad)=ls.map Ad:=fun q=>X7 q _ (R7 ls)
 generalize ls.map Ad=rows at *;have hlen:=hR.len;have hn0:¬((ls.length:Int)=0):=by omega
 have hne:ls≠[]:=by intro e; subst e; simp at hi
 have hw1:=X5 ((i:Int) - 1);have hw2:=Y1 ((i:Int) - 1+ls.length) ((i+ls.length - 1:Nat):Int);have hmod:=Nat.mod_lt (i+ls.length - 1) (show 0<ls.length by omega)
 have hal:((Q5 ls.length i false:Nat):Int)=2*(((i+ls.length - 1) % ls.length:Nat):Int)+1:=by simp only[Q5,bF,if_false]; omega
 have hm2:((i+ls.length - 1:Nat):Int).tmod (ls.length:Int)=(((i+ls.length - 1) % ls.length:Nat):Int):=rfl;generalize (i+ls.length - 1) % ls.length=x at *;generalize i+ls.length - 1=y at *;have hw3:=X5 (2*(x:Int));have hw4:=X5 (2*(x:Int)+1);simp[hlen,hw1,hw2,hne,hm2,hw3,hw4];refine Z6 hK [] ?_;simp[As,Y0,V7,Y8,hal]
theorem dS(F:Nat)(ls:List Lt)(E:List DW)(i:Nat)(h:ls.length≤1000)(hi:i<ls.length) :
 Cc Tryz.prog 190 [.ptr 1 0 0,.int .i64 i] (dF F ls (ls.map Ad) E) fun r m=>r=.int .i64 (Q5 ls.length i true:Nat)∧m=dF F ls (ls.map Ad) E:=by
 refine It hm Tryz.func190 rZ rfl rfl fun K hK=>?_
 have As:∀ q,Z3 q (ls.map Ad)=ls.map Ad:=fun q=>X7 q _ (R7 ls)
 generalize ls.map Ad=rows at *;have hal:((Q5 ls.length i true:Nat):Int)=2*(i:Int):=by simp only[Q5,if_true]; omega
 have hw3:=X5 (2*(i:Int));simp[hw3];refine Z6 hK [] ?_;simp[As,Y0,V7,Y8,hal]
set_option maxRecDepth 100000 in
set_option maxHeartbeats 4000000 in
theorem dJ(F:Nat)(ls:List Lt)(E:List DW)(hg:FM ls E)(d:Nat)(hd:d<2*ls.length+2*(Z4 ls).length) :
 Cc Tryz.prog 174 [.ptr 1 0 0,.int .i64 d] (dF F ls (ls.map Ad) E) fun r m=>r=.int .i64 (U2 ls (Z4 ls) d:Nat)∧m=dF F ls (ls.map Ad) E:=by
 refine It hm Tryz.func174 mU rfl rfl fun K hK=>?_
 have hR:=IA ls;have h:=hg.small;have h136:=fun i hi=>dQ F ls E i h hi
 have h137:=fun i hi=>dS F ls E i h hi
 unfold dF dM XK at *;have As:∀ q,Z3 q (ls.map Ad)=ls.map Ad:=fun q=>X7 q _ (R7 ls)
 generalize ls.map Ad=rows at *;have hlen:=hR.len;have hm0:=hg.some;have hml:(Z4 ls).length≤ls.length:=by rw[HI]; exact Si
 have Ee:(Z0 (Z4 ls)).length=(Z4 ls).length:=O5 _;have Dh:(Cw (V2 ls.length ls.length (R4 ls) false)).length=ls.length:=by rw[Cw,lM,KS]
 have hCl:(Z0 (V2 ls.length ls.length (P6 ls) 0)).length=ls.length:=by rw[O5,KS]
 have hBg:∀ v,v<ls.length→(Cw (V2 ls.length ls.length (R4 ls) false))[v]? = some [Aa.bool (R4 ls v)]:=fun v hv=>by
  have:=TC (LF (i:=ls.length) (v:=R4 ls) (d:=false) hv);rw[iP hv]at this; exact this
 have hCg:∀ v,v<ls.length→(Z0 (V2 ls.length ls.length (P6 ls) 0))[v]? = some [Aa.int .i64 (P6 ls v:Nat)]:=fun v hv=>by
  have:=Lc (LF (i:=ls.length) (v:=P6 ls) (d:=0) hv);rw[iP hv]at this; exact this
 have hAg:∀ j,j<(Z4 ls).length→(Z0 (Z4 ls))[j]? = some [Aa.int .i64 ((Z4 ls).getD j 0:Nat)]:=fun j hj=>by
  apply Lc;rw[gE hj,List.getD,gE hj]; rfl
 have hAm:∀ j,j<(Z4 ls).length→(Z4 ls).getD j 0<ls.length∧AT (at' ls ((Z4 ls).getD j 0))=true:=fun j hj=>by
  have:(Z4 ls).getD j 0=(Z4 ls)[j]:=by rw[List.getD,gE hj]; rfl
  rw[this];exact Bb.1 (List.getElem_mem hj)
 have hplace:=hg.place;have hcross:=hg.DE;have hkind:=hg.kind;have hn0:¬((ls.length:Int)=0):=by omega
 have hne:ls≠[]:=by intro e; rw[e]at hml hm0; have:([]:List Lt).length=0:=rfl; omega
 have hmz:¬(((Z4 ls).length:Nat):Int)=0:=by omega
 have hmz':Z4 ls≠[]:=by intro e; rw[e]at hm0; simp at hm0
 have hw2n:=X5 (2*(ls.length:Int));have fin:∀ v m,v=U2 ls (Z4 ls) d→Bq 7 [] [(0,.int .i64 (v:Nat))] ⟨[(1,.cells 7 [[.int .i64 (F:Int),.An rows,.sl 3 0 ls.length,.sl 5 0 (Z4 ls).length,.sl 4 0 ls.length,.map 6,.sl 2 0 (F+1)]]),(2,.cells 1 (Z0 (P1 F ls))),(3,.cells 1 (Cw (V2 ls.length ls.length (R4 ls) false))),(4,.cells 1 (Z0 (V2 ls.length ls.length (P6 ls) 0))),(5,.cells 1 (Z0 (Z4 ls))),(6,.map (FH 0 E) E.length)],7⟩ [(0,.int .i64 (v:Nat))] m→M4 7 K (.int .i64 (v:Nat)) m:=fun v m hv hs=>by
  subst hv; exact Z6 hK [] hs
 clear hK;unfold U2 at fin;generalize hBe:Cw (V2 ls.length ls.length (R4 ls) false)=B at *;generalize hCe:Z0 (V2 ls.length ls.length (P6 ls) 0)=C at *;generalize hAe:Z0 (Z4 ls)=A at *;have hrA:∀ q,Z3 q A=A:=fun q=>by rw[← hAe]; exact Y0 q _
 have hrB:∀ q,Z3 q B=B:=fun q=>by rw[← hBe]; exact V7 q _
 have hrC:∀ q,Z3 q C=C:=fun q=>by rw[← hCe]; exact Y0 q _
 generalize hme:(Z4 ls).length=m at *;have hm00:¬m=0:=by omega
 have htm:(d:Int).tmod 2=((d % 2:Nat):Int):=rfl;by_cases hd1:2*ls.length≤d
 ·rw[iP hd1]at fin;have hd1':2*(ls.length:Int)≤(d:Int):=by omega
  obtain⟨e,he⟩:∃ e,d - 2*ls.length=e:=⟨_,rfl⟩
  have hws:=Y1 ((d:Int) - 2*(ls.length:Int)) (e:Int);obtain⟨j,hj⟩:∃ j,e / 2=j:=⟨_,rfl⟩
  have hwj:=Y1 ((e:Int) / 2) (j:Int);rw[he,hj]at fin;have hjm:j<m:=by omega
  have hAj:=hAg j hjm;obtain⟨_,hAj2⟩:=Y6 hAj;by_cases hpar:d % 2=0
  ·rw[iP hpar]at fin;have hpar':=hpar;obtain⟨y,hy⟩:∃ y,(j+1) % m=y:=⟨_,rfl⟩
   have hym:y<m:=by rw[← hy]; exact Nat.mod_lt _ hm0
   have hwj1:=X5 ((j:Int)+1);have hy2:((j:Int)+1) % (m:Int)=(y:Int):=by rw[← hy]; rfl
   have hy3:((j:Int)+1).tmod (m:Int)=(y:Int):=by rw[← hy]; rfl
   have hAy:=hAg y hym;obtain⟨_,hAy2⟩:=Y6 hAy;obtain⟨hvl,hvp⟩:=hAm y hym;rw[hy]at fin;generalize (Z4 ls).getD y 0=v at *;have hBv:=hBg v hvl;obtain⟨_,hBv2⟩:=Y6 hBv;have hdv:R4 ls v=W4 ls v:=by simp[R4,hvp]
   rw[hdv]at hBv hBv2;cases hdn:W4 ls v with
   | true=>
    rw[hdn]at fin hBv hBv2;simp[hlen,hw2n,hd1',hws,hwj,hjm,hAj2,Ee,htm,hpar',hm00,hwj1,hy3,hym,hAy2,hvl,hBv2,Dh];refine V4 (h136 v hvl) [] (by simp) (by simp[As,hrA,hrB,hrC,Y8,Y0]) (by simp) ?_
    rintro r sm ⟨rfl,rfl⟩;simp[As,hrA,hrB,hrC,Y8,Y0];exact fin _ _ rfl (by simp[As,hrA,hrB,hrC,Y8,Y0])
   | false=>
    rw[hdn]at fin hBv hBv2;simp[hlen,hw2n,hd1',hws,hwj,hjm,hAj2,Ee,htm,hpar',hm00,hwj1,hy3,hym,hAy2,hvl,hBv2,Dh];refine V4 (h137 v hvl) [] (by simp) (by simp[As,hrA,hrB,hrC,Y8,Y0]) (by simp) ?_
    rintro r sm ⟨rfl,rfl⟩;simp[As,hrA,hrB,hrC,Y8,Y0];exact fin _ _ rfl (by simp[As,hrA,hrB,hrC,Y8,Y0])
  ·rw[iN hpar]at fin;have hpar':d % 2=1:=by omega
   obtain⟨hvl,hvp⟩:=hAm j hjm;generalize (Z4 ls).getD j 0=v at *;have hBv:=hBg v hvl;obtain⟨_,hBv2⟩:=Y6 hBv;have hdv:R4 ls v=W4 ls v:=by simp[R4,hvp]
   rw[hdv]at hBv hBv2;cases hdn:W4 ls v with
   | true=>
    rw[hdn]at fin hBv hBv2;simp[hlen,hw2n,hd1',hws,hwj,hjm,hAj2,Ee,htm,hpar',hvl,hBv2,Dh];refine V4 (h137 v hvl) [] (by simp) (by simp[As,hrA,hrB,hrC,Y8,Y0]) (by simp) ?_
    rintro r sm ⟨rfl,rfl⟩;simp[As,hrA,hrB,hrC,Y8,Y0];exact fin _ _ rfl (by simp[As,hrA,hrB,hrC,Y8,Y0])
   | false=>
    rw[hdn]at fin hBv hBv2;simp[hlen,hw2n,hd1',hws,hwj,hjm,hAj2,Ee,htm,hpar',hvl,hBv2,Dh];refine V4 (h136 v hvl) [] (by simp) (by simp[As,hrA,hrB,hrC,Y8,Y0]) (by simp) ?_
    rintro r sm ⟨rfl,rfl⟩;simp[As,hrA,hrB,hrC,Y8,Y0];exact fin _ _ rfl (by simp[As,hrA,hrB,hrC,Y8,Y0])
 rw[iN hd1]at fin;have hd1':¬2*(ls.length:Int)≤(d:Int):=by omega
 obtain⟨g,hgd⟩:∃ g,d / 2=g:=⟨_,rfl⟩
 rw[hgd]at fin;have hwd:=Y1 ((d:Int) / 2) (g:Int);have hwd1:=X5 ((g:Int)+1);obtain⟨v,hv⟩:∃ v,(if d % 2=0 then (g+1) % ls.length else g)=v:=⟨_,rfl⟩
 have hvl:v<ls.length:=by
  rw[← hv];split
  ·exact Nat.mod_lt _ (by omega)
  ·omega
 rw[hv]at fin;simp only at fin;have hrow:=hR.row v hvl;obtain⟨_,hrow2⟩:=Y6 hrow;have hBv:=hBg v hvl;obtain⟨_,hBv2⟩:=Y6 hBv;have hCv:=hCg v hvl;obtain⟨_,hCv2⟩:=Y6 hCv;have hkv:=hkind v hvl;have hpl:=hplace v hvl;have Dx:=hcross v hvl;by_cases hpar:d % 2=0
 ·rw[iP hpar]at hv;have hpar':=hpar;have hb:(d % 2 == 0)=true:=by simp[hpar]
  have hmd:((g:Int)+1).tmod (ls.length:Int)=(v:Int):=by rw[← hv]; rfl
  rw[hb]at fin;by_cases hk:(at' ls v).k=2
  ·rw[iP hk]at fin;obtain⟨p,w,hf,hs,ho⟩:=Dx hk;have hfa:=WE (at' ls v).i 0 E;rw[hf]at hfa;simp only[Ff]at hfa;generalize Q9 ls v ls.length 0=x at *;cases hov:(at' ls v).o with
   | true=>
    rw[hov]at fin hs;simp only[S4,Bool.not_true,bF,if_false]at hs;by_cases hsg:(at' ls v).s=1
    ·have hsb:((at' ls v).s == 1)=true:=by simp[hsg]
     rw[hsb]at fin;simp[hlen,hw2n,hd1',hwd,htm,hpar',hwd1,hne,hmd,hvl,hrow2,Ad,hk,hfa,hov,hsg,hs];refine V4 (h137 x ho) [] (by simp) (by simp[As,hrA,hrB,hrC,Y8,Y0]) (by simp) ?_
     rintro r sm ⟨rfl,rfl⟩;simp[As,hrA,hrB,hrC,Y8,Y0];exact fin _ _ rfl (by simp[As,hrA,hrB,hrC,Y8,Y0])
    ·have hsb:((at' ls v).s == 1)=false:=by simp[hsg]
     rw[hsb]at fin;simp[hlen,hw2n,hd1',hwd,htm,hpar',hwd1,hne,hmd,hvl,hrow2,Ad,hk,hfa,hov,hsg,hs];refine V4 (h136 x ho) [] (by simp) (by simp[As,hrA,hrB,hrC,Y8,Y0]) (by simp) ?_
     rintro r sm ⟨rfl,rfl⟩;simp[As,hrA,hrB,hrC,Y8,Y0];exact fin _ _ rfl (by simp[As,hrA,hrB,hrC,Y8,Y0])
   | false=>
    rw[hov]at fin hs;simp only[S4,Bool.not_false,if_true]at hs;by_cases hsg:(at' ls v).s=1
    ·have hsb:((at' ls v).s == 1)=true:=by simp[hsg]
     rw[hsb]at fin;simp[hlen,hw2n,hd1',hwd,htm,hpar',hwd1,hne,hmd,hvl,hrow2,Ad,hk,hfa,hov,hsg,hs];refine V4 (h136 x ho) [] (by simp) (by simp[As,hrA,hrB,hrC,Y8,Y0]) (by simp) ?_
     rintro r sm ⟨rfl,rfl⟩;simp[As,hrA,hrB,hrC,Y8,Y0];exact fin _ _ rfl (by simp[As,hrA,hrB,hrC,Y8,Y0])
    ·have hsb:((at' ls v).s == 1)=false:=by simp[hsg]
     rw[hsb]at fin;simp[hlen,hw2n,hd1',hwd,htm,hpar',hwd1,hne,hmd,hvl,hrow2,Ad,hk,hfa,hov,hsg,hs];refine V4 (h137 x ho) [] (by simp) (by simp[As,hrA,hrB,hrC,Y8,Y0]) (by simp) ?_
     rintro r sm ⟨rfl,rfl⟩;simp[As,hrA,hrB,hrC,Y8,Y0];exact fin _ _ rfl (by simp[As,hrA,hrB,hrC,Y8,Y0])
  ·have hk1:(at' ls v).k=1:=hkv.resolve_right hk;have hp:AT (at' ls v)=true:=by simp[AT,hk1]
   rw[iN hk]at fin;obtain⟨hpv,hpm⟩:=hpl hk1;rw[hpv]at hCv hCv2;have hdv:R4 ls v=W4 ls v:=by simp[R4,hp]
   rw[hdv]at hBv hBv2;generalize R9 v (Z4 ls)=x at *;have hwx:=X5 (2*(x:Int));have hwx2:=Y1 (2*(ls.length:Int)+2*(x:Int)) ((2*ls.length+2*x:Nat):Int);have hwy:=X5 ((x:Int) - 1);have hwy2:=Y1 ((x:Int) - 1+m) ((x+m - 1:Nat):Int);have hmy:((x+m - 1:Nat):Int).tmod (m:Int)=(((x+m - 1) % m:Nat):Int):=rfl;have hylt:=Nat.mod_lt (x+m - 1) hm0;generalize (x+m - 1) % m=y at *;generalize x+m - 1=y0 at *;have hwz:=X5 (2*(y:Int));have hwz2:=X5 (2*(ls.length:Int)+2*(y:Int));have hwz3:=Y1 (2*(ls.length:Int)+2*(y:Int)+1) ((2*ls.length+2*y+1:Nat):Int);cases hdn:W4 ls v with
   | true=>
    rw[hdn]at fin hBv hBv2;rw[iP rfl]at fin;simp[-Int.natCast_add,-Int.natCast_mul,hlen,hw2n,hd1',hwd,htm,hpar',hm00,hwd1,hn0,hne,hmd,hvl,hrow,hrow2,Ad,hBv,hBv2,Dh,hk1,hCl,hCv,hCv2,hwx,hwx2,hwy,hwy2,hmz,hmz',hmy,hwz,hwz2,hwz3];exact fin _ _ rfl (by simp[As,hrA,hrB,hrC,Y8,Y0])
   | false=>
    rw[hdn]at fin hBv hBv2;rw[iN (by simp)]at fin
    simp[-Int.natCast_add,-Int.natCast_mul,hlen,hw2n,hd1',hwd,htm,hpar',hm00,hwd1,hne,hmd,hvl,hrow2,Ad,hBv2,Dh,hk1,hCl,hCv2,hwy,hwy2,hmy,hwz,hwz2,hwz3];exact fin _ _ rfl (by simp[As,hrA,hrB,hrC,Y8,Y0])
 ·rw[iN hpar]at hv;have hpar':d % 2=1:=by omega
  have hb:(d % 2 == 0)=false:=by simp[hpar]
  rw[hv]at hwd;rw[hb]at fin;by_cases hk:(at' ls v).k=2
  ·rw[iP hk]at fin;obtain⟨p,w,hf,hs,ho⟩:=Dx hk;have hfa:=WE (at' ls v).i 0 E;rw[hf]at hfa;simp only[Ff]at hfa;generalize Q9 ls v ls.length 0=x at *;cases hov:(at' ls v).o with
   | true=>
    rw[hov]at fin hs;simp only[S4,Bool.not_true,bF,if_false]at hs;by_cases hsg:(at' ls v).s=1
    ·have hsb:((at' ls v).s == 1)=true:=by simp[hsg]
     rw[hsb]at fin;simp[hlen,hw2n,hd1',hwd,htm,hpar',hvl,hrow2,Ad,hk,hfa,hov,hsg,hs];refine V4 (h136 x ho) [] (by simp) (by simp[As,hrA,hrB,hrC,Y8,Y0]) (by simp) ?_
     rintro r sm ⟨rfl,rfl⟩;simp[As,hrA,hrB,hrC,Y8,Y0];exact fin _ _ rfl (by simp[As,hrA,hrB,hrC,Y8,Y0])
    ·have hsb:((at' ls v).s == 1)=false:=by simp[hsg]
     rw[hsb]at fin;simp[hlen,hw2n,hd1',hwd,htm,hpar',hvl,hrow2,Ad,hk,hfa,hov,hsg,hs];refine V4 (h137 x ho) [] (by simp) (by simp[As,hrA,hrB,hrC,Y8,Y0]) (by simp) ?_
     rintro r sm ⟨rfl,rfl⟩;simp[As,hrA,hrB,hrC,Y8,Y0];exact fin _ _ rfl (by simp[As,hrA,hrB,hrC,Y8,Y0])
   | false=>
    rw[hov]at fin hs;simp only[S4,Bool.not_false,if_true]at hs;by_cases hsg:(at' ls v).s=1
    ·have hsb:((at' ls v).s == 1)=true:=by simp[hsg]
     rw[hsb]at fin;simp[hlen,hw2n,hd1',hwd,htm,hpar',hvl,hrow2,Ad,hk,hfa,hov,hsg,hs];refine V4 (h137 x ho) [] (by simp) (by simp[As,hrA,hrB,hrC,Y8,Y0]) (by simp) ?_
     rintro r sm ⟨rfl,rfl⟩;simp[As,hrA,hrB,hrC,Y8,Y0];exact fin _ _ rfl (by simp[As,hrA,hrB,hrC,Y8,Y0])
    ·have hsb:((at' ls v).s == 1)=false:=by simp[hsg]
     rw[hsb]at fin;simp[hlen,hw2n,hd1',hwd,htm,hpar',hvl,hrow2,Ad,hk,hfa,hov,hsg,hs];refine V4 (h136 x ho) [] (by simp) (by simp[As,hrA,hrB,hrC,Y8,Y0]) (by simp) ?_
     rintro r sm ⟨rfl,rfl⟩;simp[As,hrA,hrB,hrC,Y8,Y0];exact fin _ _ rfl (by simp[As,hrA,hrB,hrC,Y8,Y0])
  ·have hk1:(at' ls v).k=1:=hkv.resolve_right hk;have hp:AT (at' ls v)=true:=by simp[AT,hk1]
   rw[iN hk]at fin;obtain⟨hpv,hpm⟩:=hpl hk1;rw[hpv]at hCv hCv2;have hdv:R4 ls v=W4 ls v:=by simp[R4,hp]
   rw[hdv]at hBv hBv2;generalize R9 v (Z4 ls)=x at *;have hwx:=X5 (2*(x:Int));have hwx2:=Y1 (2*(ls.length:Int)+2*(x:Int)) ((2*ls.length+2*x:Nat):Int);have hwy:=X5 ((x:Int) - 1);have hwy2:=Y1 ((x:Int) - 1+m) ((x+m - 1:Nat):Int);have hmy:((x+m - 1:Nat):Int).tmod (m:Int)=(((x+m - 1) % m:Nat):Int):=rfl;have hylt:=Nat.mod_lt (x+m - 1) hm0;generalize (x+m - 1) % m=y at *;generalize x+m - 1=y0 at *;have hwz:=X5 (2*(y:Int));have hwz2:=X5 (2*(ls.length:Int)+2*(y:Int));have hwz3:=Y1 (2*(ls.length:Int)+2*(y:Int)+1) ((2*ls.length+2*y+1:Nat):Int);cases hdn:W4 ls v with
   | true=>
    rw[hdn]at fin hBv hBv2;rw[iN (by simp)]at fin
    simp[-Int.natCast_add,-Int.natCast_mul,hlen,hw2n,hd1',hwd,htm,hpar',hm00,hvl,hrow2,Ad,hBv2,Dh,hk1,hCl,hCv2,hwy,hwy2,hmy,hwz,hwz2,hwz3];exact fin _ _ rfl (by simp[As,hrA,hrB,hrC,Y8,Y0])
   | false=>
    rw[hdn]at fin hBv hBv2;rw[iP rfl]at fin;simp[-Int.natCast_add,-Int.natCast_mul,hlen,hw2n,hd1',hwd,htm,hpar',hm00,hvl,hrow,hrow2,Ad,hBv,hBv2,Dh,hk1,hCl,hCv,hCv2,hwx,hwx2,hwy,hwy2,hmz,hmz',hmy,hwz,hwz2,hwz3];exact fin _ _ rfl (by simp[As,hrA,hrB,hrC,Y8,Y0])
end Go.Ab
