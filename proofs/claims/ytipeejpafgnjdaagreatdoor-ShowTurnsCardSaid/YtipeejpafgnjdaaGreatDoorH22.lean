/- Part 22 of the proof: Re, Rf. -/
import Derived.Test.YtipeejpafgnjdaaGreatDoorH19
import Derived.Test.YtipeejpafgnjdaaGreatDoorH20
import Derived.Test.YtipeejpafgnjdaaGreatDoorH21
set_option linter.all false
section
namespace Go.Known
open Go Go.AE Go.Proofs
open Go.Plain
attribute [local simp] Zbv Zdd Zcl Zcs Zch Zcw Zby Zcv Zbp P1 P3 Q7 P6 Q9 P4 Zdx Zbu Zbi Zdw Zd1 Zb8 Zd2 Zbn Zb2 Zdt Zbt Zbo Zdf Zdj Zco Zbx Zd4 Zdg Zdp Zde Zbj Zcu Zdk Zcf Zcy Zc2 Zbf Zc5 Zcq Zb3 Zdz Zdb Zc9 Zc1 Zd3 Zce Zc6 Zcb Zc0 Zbh Zda Zb1 Zd5 Zd0 Zbl Zci Zdy Zc8 Zdc Zdq Zcm Zcz Za2 Zc4 Zdl Env.get W9 SMem.at SMem.app SMem.get Z8 R6 AVal.cells AVal.one T6 Q1 Zds Zb7 Zbw Zb9 Zbm Zbg Zcx Zbs Zcr Zdn Zdh Zct Zdr unA R5 U8 I4 M8 X9 aundef Zdi Zdm Zbk Zbz Zc3 Q3 V3 M6 M5 N9 I7 S1 J3 SubR SubRE SubRB InjK InjA qOf Zap AVal.ren Q0 Z3 ABlk.ren L9 S8 M2
theorem Zqy(T:Nat→Nat)(N:Nat):∀ (k:Nat) (seen:List Bool),cyc T N k seen≤k
 | 0,_=>Nat.le_refl _
 | k+1,seen=>by
  simp only[cyc];split
  ·have:=Zqy T N k seen; omega
  ·have:=Zqy T N k (Plain.mark T (N+1) seen (N - (k+1))); omega
set_option maxRecDepth 100000 in
set_option maxHeartbeats 4000000 in
theorem c135(F:Nat)(ls:List Lt)(E:List Ent)(hg:Filled ls E)(hT:∀ d,d<2*ls.length+2*(Z2 ls).length→Y3 ls (Z2 ls) d<2*ls.length+2*(Z2 ls).length)(hE:E.length≤1000) :
 Ctr Tryz.prog 171 [.ptr 1 0 0] (dF F ls (ls.map rowL) E) fun r m=>r=.bool (decide (I0 (Y3 ls (Z2 ls)) (2*ls.length+2*(Z2 ls).length)=(Z2 ls).length+E.length+2))∧m=dF F ls (ls.map rowL) E:=by
 refine A3 hm Tryz.func171 Zsm rfl rfl fun K hK=>?_
 have hR:=N8 ls;have h:=hg.small;have h105:=fun d hd=>c105 F ls E hg d hd
 unfold dF dM dV2 at *;have hrr:∀ q,Z3 q (ls.map rowL)=ls.map rowL:=fun q=>Y6 q _ (Z9 ls)
 generalize ls.map rowL=rows at *;have hlen:=hR.len;have hm0:=hg.some;have hml:(Z2 ls).length≤ls.length:=by rw[O6]; exact E5
 generalize hBe:bls (X2 ls.length ls.length (V0 ls) false)=B at *;generalize hCe:Z0 (X2 ls.length ls.length (S6 ls) 0)=C at *;generalize hAe:Z0 (Z2 ls)=A at *;have hrA:∀ q,Z3 q A=A:=fun q=>by rw[← hAe]; exact Z5 q _
 have hrB:∀ q,Z3 q B=B:=fun q=>by rw[← hBe]; exact X7 q _
 have hrC:∀ q,Z3 q C=C:=fun q=>by rw[← hCe]; exact Z5 q _
 generalize (Z2 ls).length=m at *;generalize Y3 ls (Z2 ls)=T at *;obtain⟨N0,hN0⟩:∃ N0,2*ls.length+2*m=N0:=⟨_,rfl⟩
 have hw1:IntKind.i64.wrap (2*(ls.length:Int))=2*(ls.length:Int):=Z6 (by omega) (by omega)
 have hw2:IntKind.i64.wrap (2*(m:Int))=2*(m:Int):=Z6 (by omega) (by omega)
 have hw3:IntKind.i64.wrap (2*(ls.length:Int)+2*(m:Int))=(N0:Int):=by rw[Z6 (by omega) (by omega)]; omega
 have hN1:N0≤1048576:=by omega
 have hNr:N0≤4000:=by omega
 rw[hN0]at hT h105;simp only[hN0]at hK;obtain⟨S0,hS0⟩:∃ S0,List.replicate N0 false=S0:=⟨_,rfl⟩
 have e1:List.replicate N0 [AVal.bool false]=bls S0:=by rw[← hS0,Zmc]
 have hS0l:S0.length=N0:=by rw[← hS0]; simp
 simp[X4,hlen,hw1,hw2,hw3,hN1,e1];refine T1 (α:=Nat×Nat×List Bool) (fun a=>[(25,.int .i64 a.1),(24,.int .i64 N0),(5,.int .i64 a.2.1),(4,.sl 7 0 N0),(0,.ptr 1 0 0)])
  (fun a=>⟨[(1,.cells 7 [[.int .i64 (F:Int),.imm rows,.sl 3 0 ls.length,.sl 5 0 m,.sl 4 0 ls.length,.map 6,.sl 2 0 (F+1)]]),(2,.cells 1 (Z0 (S7 F ls))),(3,.cells 1 B),(4,.cells 1 C),(5,.cells 1 A),(6,.map (mkE 0 E) E.length),(7,.cells 1 (bls a.2.2))],8⟩)
  (fun a=>N0 - a.1) (fun a=>a.1≤N0∧a.2.2.length=N0∧a.2.1+cyc T N0 (N0 - a.1) a.2.2=I0 T N0) (0,0,S0) [(7,24)] (by simp[hrr,hrA,hrB,hrC,Z7,Z5,X7]) ⟨by simp,hS0l,by simp[I0,hS0]⟩ ?_
 rintro⟨d,c,seen⟩ ⟨hd,hs,hcyc⟩ N hN;simp only at hd hs hcyc hN ⊢;have hcl:c≤N0:=by
  have:=Zqy T N0 N0 (List.replicate N0 false);unfold I0 at hcyc;omega
 by_cases hlt:d<N0
 ·have hwd:IntKind.i64.wrap ((d:Int)+1)=(d:Int)+1:=Z6 (by omega) (by omega)
  have hwc:IntKind.i64.wrap ((c:Int)+1)=(c:Int)+1:=Z6 (by omega) (by omega)
  obtain⟨b,hb⟩:∃ b,seen[d]? = some b:=⟨_,gE (by omega)⟩
  have hbg:=Zeg hb;have hbl:(bls seen).length=N0:=by rw[bls,List.length_map,hs]
  cases b with
  | true=>
   rw[Z28 hlt hb]at hcyc;generalize hSe:bls seen=S at *;obtain⟨_,hbg2⟩:=Y9 hbg;simp[hlt,hbg,hbg2,hbl,hwd];exact hN (d+1,c,seen) [] _ _ (by simp; omega) ⟨by simp; omega,hs,hcyc⟩ (by simp[hrr,hrA,hrB,hrC,Z7,Z5,X7,hSe.symm])
  | false=>
   rw[Zxp hlt hb]at hcyc;have hbg':=hbg;generalize hSe:bls seen=S at *;obtain⟨_,hbg2⟩:=Y9 hbg;simp[hlt,hbg,hbg2,hbl,hwc];subst hSe;refine T1 (α:=Nat×List Bool×Nat) (fun a=>[(7,.int .i64 a.1),(5,.int .i64 ((c:Int)+1)),(25,.int .i64 d),(24,.int .i64 N0),(4,.sl 7 0 N0),(0,.ptr 1 0 0)])
    (fun a=>⟨[(1,.cells 7 [[.int .i64 (F:Int),.imm rows,.sl 3 0 ls.length,.sl 5 0 m,.sl 4 0 ls.length,.map 6,.sl 2 0 (F+1)]]),(2,.cells 1 (Z0 (S7 F ls))),(3,.cells 1 B),(4,.cells 1 C),(5,.cells 1 A),(6,.map (mkE 0 E) E.length),(7,.cells 1 (bls a.2.1))],8⟩)
    (fun a=>E7 a.2.1) (fun a=>a.1<N0∧a.2.1.length=N0∧E7 a.2.1≤a.2.2∧Plain.mark T (N0+1) seen d=Plain.mark T (a.2.2+1) a.2.1 a.1) (d,seen,N0) [] (by simp[hrr,hrA,hrB,hrC,Z7,Z5,X7]) ⟨hlt,hs,by have:=Ze3 (l:=seen); simp; omega,rfl⟩ ?_
   rintro⟨x,sn,fu⟩ ⟨hx,hsn,hfu,hmark⟩ N2 hN2;simp only at hx hsn hfu hmark hN2 ⊢;obtain⟨b2,hb2⟩:∃ b2,sn[x]? = some b2:=⟨_,gE (by omega)⟩
   have hb2g:=Zeg hb2;have hb2l:(bls sn).length=N0:=by rw[bls,List.length_map,hsn]
   cases b2 with
   | true=>
    rw[Zx2 hb2]at hmark;generalize hSe:bls sn=S at *;obtain⟨_,hb2g2⟩:=Y9 hb2g;simp[hx,hb2g,hb2g2,hb2l,hwd];subst hSe;refine hN (d+1,c+1,sn) [] _ _ (by simp; omega) ⟨by simp; omega,hsn,?_⟩ (by simp[hrr,hrA,hrB,hrC,Z7,Z5,X7])
    simp only;rw[hmark]at hcyc;rw[← hcyc,Nat.add_assoc]
   | false=>
    rw[Zsl hb2]at hmark;have hun:=Zn7 hb2;have hset:=Zln sn x true;have hTx:=hT x hx;have hsn1:(sn.set x true).length=N0:=by simpa using hsn
    generalize sn.set x true=sn1 at *;generalize hSe:bls sn=S at *;obtain⟨_,hb2g2⟩:=Y9 hb2g;simp[hx,hb2g,hb2g2,hb2l,hset];refine U6 (h105 x hx) [] (by simp) (by simp[hrr,hrA,hrB,hrC,Z7,Z5,X7]) (by simp) ?_
    rintro r sm ⟨rfl,rfl⟩;simp[hrr,hrA,hrB,hrC,Z7,Z5,X7];obtain⟨fu',hfe⟩:∃ fu',fu=fu'+1:=⟨fu - 1,by omega⟩
    subst hfe;exact hN2 (T x,sn1,fu') [] _ _ (by simp; omega) ⟨hTx,hsn1,by simp; omega,hmark⟩ (by simp[hrr,hrA,hrB,hrC,Z7,Z5,X7])
 have he:d=N0:=by omega
 subst he;rw[Nat.sub_self]at hcyc;simp only[cyc,Nat.add_zero]at hcyc;have hw4:IntKind.i64.wrap ((m:Int)+(E.length:Int))=(m:Int)+(E.length:Int):=Z6 (by omega) (by omega)
 have hw5:IntKind.i64.wrap ((m:Int)+(E.length:Int)+2)=(m:Int)+(E.length:Int)+2:=Z6 (by omega) (by omega)
 by_cases hc:c=m+E.length+2
 ·have hc':(c:Int)=(m:Int)+(E.length:Int)+2:=by omega
  simp[Zja,hw4,hw5,hc'];refine Y1 hK [] ?_;rw[← hcyc];simp[hrr,hrA,hrB,hrC,Z7,Z5,X7,hc]
 ·have hc':¬(c:Int)=(m:Int)+(E.length:Int)+2:=by omega
  simp[Zja,hw4,hw5,hc'];refine Y1 hK [] ?_;rw[← hcyc];simp[hrr,hrA,hrB,hrC,Z7,Z5,X7,hc]
end Go.Known
end
section
namespace Go.Known
open Go Go.AE Go.Proofs
open Go.Plain
attribute [local simp] Zbv Zdd Zcl Zcs Zch Zcw Zby Zcv Zbp P1 P3 Q7 P6 Q9 P4 Zdx Zbu Zbi Zdw Zd1 Zb8 Zd2 Zbn Zb2 Zdt Zbt Zbo Zdf Zdj Zco Zbx Zd4 Zdg Zdp Zde Zbj Zcu Zdk Zcf Zcy Zc2 Zbf Zc5 Zcq Zb3 Zdz Zdb Zc9 Zc1 Zd3 Zce Zc6 Zcb Zc0 Zbh Zda Zb1 Zd5 Zd0 Zbl Zci Zdy Zc8 Zdc Zdq Zcm Zcz Za2 Zc4 Zdl Env.get W9 SMem.at SMem.app SMem.get Z8 R6 AVal.cells AVal.one T6 Q1 Zds Zb7 Zbw Zb9 Zbm Zbg Zcx Zbs Zcr Zdn Zdh Zct Zdr unA R5 U8 I4 M8 X9 aundef Zdi Zdm Zbk Zbz Zc3 Q3 V3 M6 M5 N9 I7 S1 J3 SubR SubRE SubRB InjK InjA qOf Zap AVal.ren Q0 Z3 ABlk.ren L9 S8 M2
def Ze2(F:Nat)(ls:List Lt):Prop:=
 ls.all (okC F)=true∧(at' ls 0).k=1∧Z1 ls % 2=0∧rkF ls (Z1 ls) ls.length=true∧CrOk ls∧I0 (Y3 ls (Z2 ls)) (2*ls.length+2*(Z2 ls).length)=(Z2 ls).length+(crE ls ls.length).length+2
def stg(F:Nat)(ls:List Lt)(rows:List (List AVal)):Nat→List (Nat×ABlk)
 | 0|1|2=>[(1,dV0 F rows)]
 | 3=>[(1,dV1 F ls.length (Z2 ls).length rows),(2,.cells 1 (Z0 (S7 F ls))),(3,.cells 1 (bls (X2 ls.length ls.length (V0 ls) false))),(4,.cells 1 (Z0 (X2 ls.length ls.length (S6 ls) 0))),(5,.cells 1 (Z0 (Z2 ls)))]
 | _=>[(1,dV2 F ls.length (Z2 ls).length rows),(2,.cells 1 (Z0 (S7 F ls))),(3,.cells 1 (bls (X2 ls.length ls.length (V0 ls) false))),(4,.cells 1 (Z0 (X2 ls.length ls.length (S6 ls) 0))),(5,.cells 1 (Z0 (Z2 ls))),(6,.map (mkE 0 (crE ls ls.length)) (crE ls ls.length).length)]
abbrev clos:ABlk:=.cells 1 [[.func (.func 167) [.ptr 1 0 0] []],[.func (.func 168) [.ptr 1 0 0] []],[.func (.func 169) [.ptr 1 0 0] []],[.func (.func 170) [.ptr 1 0 0] []],[.func (.func 171) [.ptr 1 0 0] []]]
set_option maxRecDepth 100000 in
set_option maxHeartbeats 4000000 in
theorem c104(F:Nat)(ls:List Lt)(h:ls.length≤1000)(hF:F≤1000) :
 Ctr Tryz.prog 119 [.ptr 1 0 0] (dM1 F (ls.map rowL)) fun r m=>(ls=[]∧r=.bool true∧m=dM1 F (ls.map rowL))∨(ls≠[]∧Ze2 F ls∧r=.bool true∧m=dF F ls (ls.map rowL) (crE ls ls.length))∨(ls≠[] ∧ ¬Ze2 F ls∧r=.bool false∧m=⟨[],2⟩):=by
 refine J7 hm Tryz.func119 Zr0 rfl rfl fun K hK=>?_
 have hR:=N8 ls;have h131:=c131 F ls h;have h132:=c132 F ls h;have h133:=c133 F ls h hF;have h134:=fun A B C D=>c134 F ls (Z2 ls).length h A B C D
 have h135:=c135 F ls (crE ls ls.length);have hrr:∀ q,Z3 q (ls.map rowL)=ls.map rowL:=fun q=>Y6 q _ (Z9 ls)
 generalize ls.map rowL=rows at *;have hlen:=hR.len;by_cases h0:ls=[]
 ·have hr0:rows=[]:=List.length_eq_zero_iff.1 (by rw[hlen,h0]; rfl)
  have hK0:=hK _ _ (.inl ⟨h0,rfl,rfl⟩);subst hr0;simp;exact Y1 hK0 [] (by simp)
 have hpos:0<ls.length:=List.length_pos_iff.2 h0;have hn0:¬rows=[]:=fun e=>by rw[e]at hlen; simp at hlen; omega
 have hyes:Ze2 F ls → ∀ l m,SubR 2 l [(0,.bool true)] (dF F ls rows (crE ls ls.length)) [(0,.bool true)] m→S4 2 K (.bool true) m:=
  fun hr l m hs=>Y1 (hK _ _ (.inr (.inl ⟨h0,hr,rfl,rfl⟩))) l hs
 have hno:¬Ze2 F ls → ∀ l m,SubR 2 l [(0,.bool false)] ⟨[],2⟩ [(0,.bool false)] m→S4 2 K (.bool false) m:=
  fun hr l m hs=>Y1 (hK _ _ (.inr (.inr ⟨h0,hr,rfl,rfl⟩))) l hs
 clear hK;simp[hlen,h0,hn0];refine T1 (α:=Nat) (fun i=>[(24,.int .i64 i),(23,.int .i64 5),(22,.sl 7 0 5),(0,.ptr 1 0 0)]) (fun i=>⟨stg F ls rows i++[(7,clos)],8⟩)
  (fun i=>5 - i) (fun i=>i≤5∧(0<i→ls.all (okC F)=true)∧(1<i→(at' ls 0).k=1∧Z1 ls % 2=0)∧(2<i→rkF ls (Z1 ls) ls.length=true)∧(3<i→CrOk ls) ∧
    (4<i→I0 (Y3 ls (Z2 ls)) (2*ls.length+2*(Z2 ls).length)=(Z2 ls).length+(crE ls ls.length).length+2)) 0 [(7,20)] (by simp[stg,hrr,Z7,Z5,X7]) (by simp) ?_
 rintro i ⟨hi,g1,g2,g3,g4,g5⟩ N hN
 try simp only at hi g1 g2 g3 g4 g5 hN ⊢
 have w1:IntKind.i64.wrap 1=1:=by decide
 have w2:IntKind.i64.wrap 2=2:=by decide
 have w3:IntKind.i64.wrap 3=3:=by decide
 have w4:IntKind.i64.wrap 4=4:=by decide
 have w5:IntKind.i64.wrap 5=5:=by decide
 rcases (show i=0∨i=1∨i=2∨i=3∨i=4∨i=5 by omega)with rfl|rfl|rfl|rfl|rfl|rfl
 ·simp[stg];refine U6 h131 [] (by simp) (by simp[hrr,Z7,Z5,X7]) (by simp) ?_
  rintro r sm ⟨rfl,rfl⟩;cases hb:ls.all (okC F)with
  | true=>
   simp[hrr,Z7,Z5,X7,w1,w2,w3,w4,w5];exact hN 1 [] _ _ (by omega) ⟨by omega,fun _=>hb,by omega,by omega,by omega,by omega⟩ (by simp[stg,hrr,Z7,Z5,X7])
  | false=>
   simp[hrr,Z7,Z5,X7,w1,w2,w3,w4,w5];exact hno (fun hh=>by rw[hh.1]at hb; cases hb) [] _ (by simp)
 ·simp[stg];refine U6 (h132 hpos) [] (by simp) (by simp[hrr,Z7,Z5,X7]) (by simp) ?_
  rintro r sm ⟨rfl,rfl⟩;by_cases hb:(at' ls 0).k=1∧Z1 ls % 2=0
  ·simp[hrr,Z7,Z5,X7,w1,w2,w3,w4,w5,hb];exact hN 2 [] _ _ (by omega) ⟨by omega,fun _=>g1 (by omega),fun _=>hb,by omega,by omega,by omega⟩ (by simp[stg,hrr,Z7,Z5,X7])
  ·have hb2:(decide ((at' ls 0).k=1)&&decide (Z1 ls % 2=0))=false:=by
    rw[← Bool.not_eq_true]; simpa using hb
   rw[hb2];simp[hrr,Z7,Z5,X7,w1,w2,w3,w4,w5];exact hno (fun hh=>hb ⟨hh.2.1,hh.2.2.1⟩) [] _ (by simp)
 ·have hG:=Zgn (g1 (by omega))
  simp[stg];refine U6 (h133 hG) [] (by simp) (by simp[hrr,Z7,Z5,X7]) (by simp) ?_
  rintro r sm (⟨hb,rfl,rfl⟩|⟨hb,rfl,rfl⟩)
  ·have hax:=Z2z hG hb;have hal:=O6 ls;unfold dR;rw[hax,← hal];simp[hrr,Z7,Z5,X7,w1,w2,w3,w4,w5];exact hN 3 [(2,15),(3,16),(4,17),(5,18)] _ _ (by omega) ⟨by omega,fun _=>g1 (by omega),fun _=>g2 (by omega),fun _=>hb,by omega,by omega⟩ (by simp[stg,hrr,Z7,Z5,X7])
  ·simp[hrr,Z7,Z5,X7,w1,w2,w3,w4,w5];exact hno (fun hh=>by rw[hh.2.2.2.1]at hb; cases hb) [] _ (by simp)
 ·simp[stg];refine U6 (h134 (Z0 (S7 F ls)) (bls (X2 ls.length ls.length (V0 ls) false)) (Z0 (X2 ls.length ls.length (S6 ls) 0)) (Z0 (Z2 ls)) (fun q=>Z5 q _) (fun q=>X7 q _) (fun q=>Z5 q _) (fun q=>Z5 q _)) [] (by simp) (by simp[hrr,Z7,Z5,X7]) (by simp) ?_
  rintro r sm (⟨hb,rfl,rfl⟩|⟨hb,rfl,rfl⟩)
  ·simp[hrr,Z7,Z5,X7,w1,w2,w3,w4,w5];exact hN 4 [(6,15)] _ _ (by omega) ⟨by omega,fun _=>g1 (by omega),fun _=>g2 (by omega),fun _=>g3 (by omega),fun _=>hb,by omega⟩ (by simp[stg,hrr,Z7,Z5,X7])
  ·simp[hrr,Z7,Z5,X7,w1,w2,w3,w4,w5];exact hno (fun hh=>hb hh.2.2.2.2.1) [] _ (by simp)
 ·have hG:=Zgn (g1 (by omega))
  have hfl:=Zyn h (g1 (by omega)) hpos (g2 (by omega)).1 (g3 (by omega)) (g4 (by omega))
  have hax:∀ v,v∈Z2 ls→v<ls.length:=fun v hv=>(mem_axis.1 hv).1
  have hmm:∀ v,v<ls.length→(at' ls v).k≠2→v∈Z2 ls:=fun v hv h2=>mem_axis.2 ⟨hv,by simp[isP,(hfl.kind v hv).resolve_right h2]⟩
  have hT:∀ d,d<2*ls.length+2*(Z2 ls).length→Y3 ls (Z2 ls) d<2*ls.length+2*(Z2 ls).length:=fun d hd=>Znz hax hmm hfl.some hd
  have hEl:(crE ls ls.length).length≤1000:=by have:=Zum ls ls.length; omega
  simp[stg];refine U6 (h135 hfl hT hEl) [] (by simp) (by simp[hrr,Z7,Z5,X7]) (by simp) ?_
  rintro r sm ⟨rfl,rfl⟩;by_cases hb:I0 (Y3 ls (Z2 ls)) (2*ls.length+2*(Z2 ls).length)=(Z2 ls).length+(crE ls ls.length).length+2
  ·simp[hrr,Z7,Z5,X7,w1,w2,w3,w4,w5,hb];exact hN 5 [] _ _ (by omega) ⟨by omega,fun _=>g1 (by omega),fun _=>g2 (by omega),fun _=>g3 (by omega),fun _=>g4 (by omega),fun _=>hb⟩ (by simp[stg,hrr,Z7,Z5,X7])
  ·simp[hrr,Z7,Z5,X7,w1,w2,w3,w4,w5,hb];exact hno (fun hh=>hb hh.2.2.2.2.2) [] _ (by simp)
 ·simp[stg];exact hyes ⟨g1 (by omega),(g2 (by omega)).1,(g2 (by omega)).2,g3 (by omega),g4 (by omega),g5 (by omega)⟩ [] _ (by simp[hrr,Z7,Z5,X7])
end Go.Known
end
