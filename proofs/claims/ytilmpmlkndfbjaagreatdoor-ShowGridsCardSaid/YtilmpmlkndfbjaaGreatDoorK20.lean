/- Part 20 of the proof: Re, Rf, Rs. -/
import Derived.Test.YtilmpmlkndfbjaaGreatDoorK13
import Derived.Test.YtilmpmlkndfbjaaGreatDoorK17
import Derived.Test.YtilmpmlkndfbjaaGreatDoorK18
import Derived.Test.YtilmpmlkndfbjaaGreatDoorK19
set_option linter.all false
section
namespace Go.Ab
open Go Go.AE Go.Proofs
open Go.Plain
attribute [local simp] KV KF Kv KM K8 KI K2 Ku KT HG HJ HC HK HL HF JC Ld Kb Jw JF Kk JM Kz KE KZ KY Kl KU K4 KD JO KP K6 Jv Kt Ks Kw JI KR K7 K1 Jx Kq Kd KB JU Ky JY JG JZ Kc Ko KX KN Km JX K3 Jy KW Kr Kg Kx JP JE Kf Jz Lf Iy JW Env.get P3 Ac.at Ac.app Ac.get Y2 P0 Aa.cells Aa.one J4 C0 Ke KQ K9 K5 JQ KL Jq JL KJ Ka Jt KH KC Ga F5 N6 H9 I8 U5 Aj La Ki JT JH O3 X3 J0 M0 I6 D4 Q6 I0 Bq BY BB Cz Df Bz W5 Aa.AA U3 Z3 Ag.AA L7 Q8 N8
theorem Zm(T:Nat→Nat)(N:Nat):∀ (k:Nat) (seen:List Bool),FX T N k seen≤k
 | 0,_=>lR _
 | k+1,seen=>by
  simp only[FX];split
  ·have:=Zm T N k seen; omega
  ·have:=Zm T N k (Plain.mark T (N+1) seen (N - (k+1))); omega
set_option maxRecDepth 100000 in
set_option maxHeartbeats 4000000 in
theorem dP(F:Nat)(ls:List Lt)(E:List DW)(hg:FM ls E)(hT:∀ d,d<2*ls.length+2*(Z4 ls).length→U2 ls (Z4 ls) d<2*ls.length+2*(Z4 ls).length)(hE:E.length≤1000) :
 Cc Tryz.prog 144 [.ptr 1 0 0] (dF F ls (ls.map Ad) E) fun r m=>r=.bool (decide (H5 (U2 ls (Z4 ls)) (2*ls.length+2*(Z4 ls).length)=(Z4 ls).length+E.length+2))∧m=dF F ls (ls.map Ad) E:=by
 refine It hm Tryz.func144 uL rfl rfl fun K hK=>?_
 have hR:=IA ls;have h:=hg.small;have h105:=fun d hd=>dJ F ls E hg d hd
 unfold dF dM XK at *;have As:∀ q,Z3 q (ls.map Ad)=ls.map Ad:=fun q=>X7 q _ (R7 ls)
 generalize ls.map Ad=rows at *;have hlen:=hR.len;have hm0:=hg.some;have hml:(Z4 ls).length≤ls.length:=by rw[HI]; exact Si
 generalize hBe:Cw (V2 ls.length ls.length (R4 ls) false)=B at *;generalize hCe:Z0 (V2 ls.length ls.length (P6 ls) 0)=C at *;generalize hAe:Z0 (Z4 ls)=A at *;have hrA:∀ q,Z3 q A=A:=fun q=>by rw[← hAe]; exact Y0 q _
 have hrB:∀ q,Z3 q B=B:=fun q=>by rw[← hBe]; exact V7 q _
 have hrC:∀ q,Z3 q C=C:=fun q=>by rw[← hCe]; exact Y0 q _
 generalize (Z4 ls).length=m at *;generalize U2 ls (Z4 ls)=T at *;obtain⟨N0,hN0⟩:∃ N0,2*ls.length+2*m=N0:=⟨_,rfl⟩
 have hw1:=X5 (2*(ls.length:Int));have hw2:=X5 (2*(m:Int));have hw3:=Y1 (2*(ls.length:Int)+2*(m:Int)) (N0:Int);have hN1:N0≤1048576:=by omega
 have hNr:N0≤4000:=by omega
 rw[hN0]at hT h105;simp only[hN0]at hK;obtain⟨S0,hS0⟩:∃ S0,List.replicate N0 false=S0:=⟨_,rfl⟩
 have e1:List.replicate N0 [Aa.bool false]=Cw S0:=by rw[← hS0,aV]
 have hS0l:S0.length=N0:=by rw[← hS0]; simp
 simp[W6,hlen,hw1,hw2,hw3,hN1,e1];refine C5 (α:=Nat×Nat×List Bool) (fun a=>[(25,.int .i64 a.1),(24,.int .i64 N0),(5,.int .i64 a.2.1),(4,.sl 7 0 N0),(0,.ptr 1 0 0)])
  (fun a=>⟨[(1,.cells 7 [[.int .i64 (F:Int),.An rows,.sl 3 0 ls.length,.sl 5 0 m,.sl 4 0 ls.length,.map 6,.sl 2 0 (F+1)]]),(2,.cells 1 (Z0 (P1 F ls))),(3,.cells 1 B),(4,.cells 1 C),(5,.cells 1 A),(6,.map (FH 0 E) E.length),(7,.cells 1 (Cw a.2.2))],8⟩)
  (fun a=>N0 - a.1) (fun a=>a.1≤N0∧a.2.2.length=N0∧a.2.1+FX T N0 (N0 - a.1) a.2.2=H5 T N0) (0,0,S0) [(7,24)] (by simp[As,hrA,hrB,hrC,Y8,Y0,V7]) ⟨by simp,hS0l,by simp[H5,hS0]⟩ ?_
 rintro⟨d,c,seen⟩ ⟨hd,hs,hcyc⟩ N hN;simp only at hd hs hcyc hN ⊢;have Cm:c≤N0:=by
  have:=Zm T N0 N0 (List.replicate N0 false);unfold H5 at hcyc;omega
 by_cases hlt:d<N0
 ·have hwd:=X5 ((d:Int)+1);have hwc:=X5 ((c:Int)+1);obtain⟨b,hb⟩:∃ b,seen[d]? = some b:=⟨_,gE (by omega)⟩
  have hbg:=TC hb;have hbl:(Cw seen).length=N0:=by rw[Cw,lM,hs]
  cases b with
  | true=>
   rw[qe hlt hb]at hcyc;generalize hSe:Cw seen=S at *;obtain⟨_,hbg2⟩:=Y6 hbg;simp[hlt,hbg2,hbl,hwd];exact hN (d+1,c,seen) [] _ _ (by simp; omega) ⟨by simp; omega,hs,hcyc⟩ (by simp[As,hrA,hrB,hrC,Y8,Y0,V7,hSe.symm])
  | false=>
   rw[vu hlt hb]at hcyc;have hbg':=hbg;generalize hSe:Cw seen=S at *;obtain⟨_,hbg2⟩:=Y6 hbg;simp[hlt,hbg2,hbl,hwc];subst hSe;refine C5 (α:=Nat×List Bool×Nat) (fun a=>[(7,.int .i64 a.1),(5,.int .i64 ((c:Int)+1)),(25,.int .i64 d),(24,.int .i64 N0),(4,.sl 7 0 N0),(0,.ptr 1 0 0)])
    (fun a=>⟨[(1,.cells 7 [[.int .i64 (F:Int),.An rows,.sl 3 0 ls.length,.sl 5 0 m,.sl 4 0 ls.length,.map 6,.sl 2 0 (F+1)]]),(2,.cells 1 (Z0 (P1 F ls))),(3,.cells 1 B),(4,.cells 1 C),(5,.cells 1 A),(6,.map (FH 0 E) E.length),(7,.cells 1 (Cw a.2.1))],8⟩)
    (fun a=>Kp a.2.1) (fun a=>a.1<N0∧a.2.1.length=N0∧Kp a.2.1≤a.2.2∧Plain.mark T (N0+1) seen d=Plain.mark T (a.2.2+1) a.2.1 a.1) (d,seen,N0) [] (by simp[As,hrA,hrB,hrC,Y8,Y0,V7]) ⟨hlt,hs,by have:=wW (l:=seen); simp; omega,rfl⟩ ?_
   rintro⟨x,sn,fu⟩ ⟨hx,hsn,hfu,hmark⟩ N2 hN2;simp only at hx hsn hfu hmark hN2 ⊢;obtain⟨b2,Cq⟩:∃ b2,sn[x]? = some b2:=⟨_,gE (by omega)⟩
   have hb2g:=TC Cq;have hb2l:(Cw sn).length=N0:=by rw[Cw,lM,hsn]
   cases b2 with
   | true=>
    rw[y9 Cq]at hmark;generalize hSe:Cw sn=S at *;obtain⟨_,hb2g2⟩:=Y6 hb2g;simp[hx,hb2g2,hb2l,hwd];subst hSe;refine hN (d+1,c+1,sn) [] _ _ (by simp; omega) ⟨by simp; omega,hsn,?_⟩ (by simp[As,hrA,hrB,hrC,Y8,Y0,V7])
    simp only;rw[hmark]at hcyc;rw[← hcyc,Nat.add_assoc]
   | false=>
    rw[Zzu Cq]at hmark;have hun:=mX Cq;have hset:=Ze sn x true;have hTx:=hT x hx;have hsn1:(sn.set x true).length=N0:=by simpa using hsn
    generalize sn.set x true=sn1 at *;generalize hSe:Cw sn=S at *;obtain⟨_,hb2g2⟩:=Y6 hb2g;simp[hx,hb2g2,hb2l,hset];refine V4 (h105 x hx) [] (by simp) (by simp[As,hrA,hrB,hrC,Y8,Y0]) (by simp) ?_
    rintro r sm ⟨rfl,rfl⟩;simp[As,hrA,hrB,hrC,Y8,Y0];obtain⟨fu',hfe⟩:∃ fu',fu=fu'+1:=⟨fu - 1,by omega⟩
    subst hfe;exact hN2 (T x,sn1,fu') [] _ _ (by simp; omega) ⟨hTx,hsn1,by simp; omega,hmark⟩ (by simp[As,hrA,hrB,hrC,Y8,Y0,V7])
 have he:d=N0:=by omega
 subst he;rw[Nat.sub_self]at hcyc;simp only[FX,Nat.add_zero]at hcyc;have hw4:=X5 ((m:Int)+(E.length:Int));have hw5:=X5 ((m:Int)+(E.length:Int)+2);by_cases hc:c=m+E.length+2
 ·have hc':(c:Int)=(m:Int)+(E.length:Int)+2:=by omega
  simp[Sd,hw4,hw5,hc'];refine Z6 hK [] ?_;rw[← hcyc];simp[As,hrA,hrB,hrC,Y8,Y0,hc]
 ·have hc':¬(c:Int)=(m:Int)+(E.length:Int)+2:=by omega
  simp[Sd,hw4,hw5,hc'];refine Z6 hK [] ?_;rw[← hcyc];simp[As,hrA,hrB,hrC,Y8,Y0,hc]
end Go.Ab
end
section
namespace Go.Ab
open Go Go.AE Go.Proofs
open Go.Plain
attribute [local simp] KV KF Kv KM K8 KI K2 Ku KT HG HJ HC HK HL HF JC Ld Kb Jw JF Kk JM Kz KE KZ KY Kl KU K4 KD JO KP K6 Jv Kt Ks Kw JI KR K7 K1 Jx Kq Kd KB JU Ky JY JG JZ Kc Ko KX KN Km JX K3 Jy KW Kr Kg Kx JP JE Kf Jz Lf Iy JW Env.get P3 Ac.at Ac.app Ac.get Y2 P0 Aa.cells Aa.one J4 C0 Ke KQ K9 K5 JQ KL Jq JL KJ Ka Jt KH KC Ga F5 N6 H9 I8 U5 Aj La Ki JT JH O3 X3 J0 M0 I6 D4 Q6 I0 Bq BY BB Cz Df Bz W5 Aa.AA U3 Z3 Ag.AA L7 Q8 N8
def Rr(F:Nat)(ls:List Lt):Prop:=
 ls.all (DG F)=true∧(at' ls 0).k=1∧Z5 ls % 2=0∧Eg ls (Z5 ls) ls.length=true∧Hq ls∧H5 (U2 ls (Z4 ls)) (2*ls.length+2*(Z4 ls).length)=(Z4 ls).length+(Bc ls ls.length).length+2
def Ig(F:Nat)(ls:List Lt)(rows:List (List Aa)):Nat→List (Nat×Ag)
 | 0|1|2=>[(1,XI F rows)]
 | 3=>[(1,XJ F ls.length (Z4 ls).length rows),(2,.cells 1 (Z0 (P1 F ls))),(3,.cells 1 (Cw (V2 ls.length ls.length (R4 ls) false))),(4,.cells 1 (Z0 (V2 ls.length ls.length (P6 ls) 0))),(5,.cells 1 (Z0 (Z4 ls)))]
 | _=>[(1,XK F ls.length (Z4 ls).length rows),(2,.cells 1 (Z0 (P1 F ls))),(3,.cells 1 (Cw (V2 ls.length ls.length (R4 ls) false))),(4,.cells 1 (Z0 (V2 ls.length ls.length (P6 ls) 0))),(5,.cells 1 (Z0 (Z4 ls))),(6,.map (FH 0 (Bc ls ls.length)) (Bc ls ls.length).length)]
abbrev eR:Ag:=.cells 1 [[.func (.func 140) [.ptr 1 0 0] []],[.func (.func 141) [.ptr 1 0 0] []],[.func (.func 142) [.ptr 1 0 0] []],[.func (.func 143) [.ptr 1 0 0] []],[.func (.func 144) [.ptr 1 0 0] []]]
set_option maxRecDepth 100000 in
set_option maxHeartbeats 4000000 in
theorem dI(F:Nat)(ls:List Lt)(h:ls.length≤1000)(hF:F≤1000) :
 Cc Tryz.prog 111 [.ptr 1 0 0] (NX F (ls.map Ad)) fun r m=>(ls=[]∧r=.bool true∧m=NX F (ls.map Ad))∨(ls≠[]∧Rr F ls∧r=.bool true∧m=dF F ls (ls.map Ad) (Bc ls ls.length))∨(ls≠[] ∧ ¬Rr F ls∧r=.bool false∧m=⟨[],2⟩):=by
 refine Ih hm Tryz.func111 vC rfl rfl fun K hK=>?_
 have hR:=IA ls;have h131:=dK F ls h;have h132:=dL F ls h;have h133:=dN F ls h hF;have h134:=fun A B C D=>dO F ls (Z4 ls).length h A B C D
 have h135:=dP F ls (Bc ls ls.length);have As:∀ q,Z3 q (ls.map Ad)=ls.map Ad:=fun q=>X7 q _ (R7 ls)
 generalize ls.map Ad=rows at *;have hlen:=hR.len;by_cases h0:ls=[]
 ·have hr0:rows=[]:=List.length_eq_zero_iff.1 (by rw[hlen,h0]; rfl)
  have hK0:=hK _ _ (.inl ⟨h0,rfl,rfl⟩);subst hr0;simp;exact Z6 hK0 [] (by simp)
 have hpos:0<ls.length:=List.length_pos_iff.2 h0;have hn0:¬rows=[]:=fun e=>by rw[e]at hlen; simp at hlen; omega
 have hyes:Rr F ls → ∀ l m,Bq 2 l [(0,.bool true)] (dF F ls rows (Bc ls ls.length)) [(0,.bool true)] m→M4 2 K (.bool true) m:=
  fun hr l m hs=>Z6 (hK _ _ (.inr (.inl ⟨h0,hr,rfl,rfl⟩))) l hs
 have hno:¬Rr F ls → ∀ l m,Bq 2 l [(0,.bool false)] ⟨[],2⟩ [(0,.bool false)] m→M4 2 K (.bool false) m:=
  fun hr l m hs=>Z6 (hK _ _ (.inr (.inr ⟨h0,hr,rfl,rfl⟩))) l hs
 clear hK;simp[hlen,h0];refine C5 (α:=Nat) (fun i=>[(24,.int .i64 i),(23,.int .i64 5),(22,.sl 7 0 5),(0,.ptr 1 0 0)]) (fun i=>⟨Ig F ls rows i++[(7,eR)],8⟩)
  (fun i=>5 - i) (fun i=>i≤5∧(0<i→ls.all (DG F)=true)∧(1<i→(at' ls 0).k=1∧Z5 ls % 2=0)∧(2<i→Eg ls (Z5 ls) ls.length=true)∧(3<i→Hq ls) ∧
    (4<i→H5 (U2 ls (Z4 ls)) (2*ls.length+2*(Z4 ls).length)=(Z4 ls).length+(Bc ls ls.length).length+2)) 0 [(7,20)] (by simp[Ig,As,Y8,Y0,V7]) (by simp) ?_
 rintro i ⟨hi,g1,g2,g3,g4,g5⟩ N hN
 try simp only at hi g1 g2 g3 g4 g5 hN ⊢
 have w1:IntKind.i64.wrap 1=1:=by decide
 have w2:IntKind.i64.wrap 2=2:=by decide
 have w3:IntKind.i64.wrap 3=3:=by decide
 have w4:IntKind.i64.wrap 4=4:=by decide
 have w5:IntKind.i64.wrap 5=5:=by decide
 rcases (show i=0∨i=1∨i=2∨i=3∨i=4∨i=5 by omega)with rfl|rfl|rfl|rfl|rfl|rfl
 ·simp[Ig];refine V4 h131 [] (by simp) (by simp[As,Y8,Y0,V7]) (by simp) ?_
  rintro r sm ⟨rfl,rfl⟩;cases hb:ls.all (DG F)with
  | true=>
   simp[As,Y8,Y0,V7,w1,w2,w3,w4,w5];exact hN 1 [] _ _ (by omega) ⟨by omega,fun _=>hb,by omega,by omega,by omega,by omega⟩ (by simp[Ig,As,Y8,Y0,V7])
  | false=>
   simp[As,Y8,Y0,V7,w1,w2,w3,w4,w5];exact hno (fun hh=>by rw[hh.1]at hb; cases hb) [] _ (by simp)
 ·simp[Ig];refine V4 (h132 hpos) [] (by simp) (by simp[As,Y8,Y0,V7]) (by simp) ?_
  rintro r sm ⟨rfl,rfl⟩;by_cases hb:(at' ls 0).k=1∧Z5 ls % 2=0
  ·simp[As,w2,hb];exact hN 2 [] _ _ (by omega) ⟨by omega,fun _=>g1 (by omega),fun _=>hb,by omega,by omega,by omega⟩ (by simp[Ig,As,Y8,Y0,V7])
  ·have Cq:(decide ((at' ls 0).k=1)&&decide (Z5 ls % 2=0))=false:=by
    rw[← Bool.not_eq_true]; simpa using hb
   rw[Cq];simp[As,Y8,Y0,V7,w1,w2,w3,w4,w5];exact hno (fun hh=>hb ⟨hh.2.1,hh.2.2.1⟩) [] _ (by simp)
 ·have hG:=SS (g1 (by omega))
  simp[Ig];refine V4 (h133 hG) [] (by simp) (by simp[As,Y8,Y0,V7]) (by simp) ?_
  rintro r sm (⟨hb,rfl,rfl⟩|⟨hb,rfl,rfl⟩)
  ·have GZ:=yE hG hb;have hal:=HI ls;unfold dR;rw[GZ,← hal];simp[As,Y8,Y0,V7,w1,w2,w3,w4,w5];exact hN 3 [(2,15),(3,16),(4,17),(5,18)] _ _ (by omega) ⟨by omega,fun _=>g1 (by omega),fun _=>g2 (by omega),fun _=>hb,by omega,by omega⟩ (by simp[Ig,As,Y0,V7])
  ·simp[As,Y8,Y0,V7,w1,w2,w3,w4,w5];exact hno (fun hh=>by rw[hh.2.2.2.1]at hb; cases hb) [] _ (by simp)
 ·simp[Ig];refine V4 (h134 (Z0 (P1 F ls)) (Cw (V2 ls.length ls.length (R4 ls) false)) (Z0 (V2 ls.length ls.length (P6 ls) 0)) (Z0 (Z4 ls)) (fun q=>Y0 q _) (fun q=>V7 q _) (fun q=>Y0 q _) (fun q=>Y0 q _)) [] (by simp) (by simp[As,Y0,V7]) (by simp) ?_
  rintro r sm (⟨hb,rfl,rfl⟩|⟨hb,rfl,rfl⟩)
  ·simp[As,Y8,Y0,V7,w4];exact hN 4 [(6,15)] _ _ (by omega) ⟨by omega,fun _=>g1 (by omega),fun _=>g2 (by omega),fun _=>g3 (by omega),fun _=>hb,by omega⟩ (by simp[Ig,As,Y8,Y0,V7])
  ·simp[As,Y8,Y0,V7,w1,w2,w3,w4,w5];exact hno (fun hh=>hb hh.2.2.2.2.1) [] _ (by simp)
 ·have hG:=SS (g1 (by omega))
  have hfl:=qj h (g1 (by omega)) hpos (g2 (by omega)).1 (g3 (by omega)) (g4 (by omega))
  have GZ:∀ v,v∈Z4 ls→v<ls.length:=fun v hv=>(Bb.1 hv).1
  have hmm:∀ v,v<ls.length→(at' ls v).k≠2→v∈Z4 ls:=fun v hv h2=>Bb.2 ⟨hv,by simp[AT,(hfl.kind v hv).resolve_right h2]⟩
  have hT:∀ d,d<2*ls.length+2*(Z4 ls).length→U2 ls (Z4 ls) d<2*ls.length+2*(Z4 ls).length:=fun d hd=>sB GZ hmm hfl.some hd
  have hEl:(Bc ls ls.length).length≤1000:=by have:=vF ls ls.length; omega
  simp[Ig];refine V4 (h135 hfl hT hEl) [] (by simp) (by simp[As,Y8,Y0,V7]) (by simp) ?_
  rintro r sm ⟨rfl,rfl⟩;by_cases hb:H5 (U2 ls (Z4 ls)) (2*ls.length+2*(Z4 ls).length)=(Z4 ls).length+(Bc ls ls.length).length+2
  ·simp[As,Y8,Y0,V7,w5,hb];exact hN 5 [] _ _ (by omega) ⟨by omega,fun _=>g1 (by omega),fun _=>g2 (by omega),fun _=>g3 (by omega),fun _=>g4 (by omega),fun _=>hb⟩ (by simp[Ig,As,Y8,Y0,V7])
  ·simp[As,Y8,Y0,V7,hb];exact hno (fun hh=>hb hh.2.2.2.2.2) [] _ (by simp)
 ·simp[Ig];exact hyes ⟨g1 (by omega),(g2 (by omega)).1,(g2 (by omega)).2,g3 (by omega),g4 (by omega),g5 (by omega)⟩ [] _ (by simp[As,Y8,Y0,V7])
end Go.Ab
end
section
namespace Go.Ab
open Go Go.AE Go.Proofs
open Go.Plain
attribute [simp] KV KF Kv KM K8 KI K2 Ku KT HG HJ HC HK HL HF JC Ld Kb Jw JF Kk JM Kz KE KZ KY Kl KU K4 KD JO KP K6 Jv Kt Ks Kw JI KR K7 K1 Jx Kq Kd KB JU Ky JY JG JZ Kc Ko KX KN Km JX K3 Jy KW Kr Kg Kx JP JE Kf Jz Lf Iy JW Env.get P3 Ac.at Ac.app Ac.get Y2 P0 J4 C0 Ke KQ K9 K5 JQ KL Jq JL KJ Ka Jt KH KC Ga F5 N6 H9 I8 U5 Aj La Ki JT JH O3 X3 J0 M0 I6 D4 Q6 I0 Bq BY BB Cz Df Bz W5 Aa.AA U3 Z3 Ag.AA L7 Q8 N8 U9 T2 FT.indep E4 Iz A0 EC Jg Sx I2 MF W6 Hy WT D2 bO kW rE yV qy Zz7 Z6r zX sV Z58 LG Z6w y4 Z3a Z2v qm s7 Z6z Z66 Z6j Z8p DT Qv Sz Wh Z3f zG zh ZF T3 T0 Z9h x8
@[simp] theorem eH(k : IntKind)(n : Int): Aa.cells (.int k n) = some [(.int k n)] := rfl
@[simp] theorem kJ(k : IntKind)(n : Int): Aa.one (.int k n) = true := rfl
@[simp] theorem Yem(b : Bool): Aa.cells (.bool b) = some [(.bool b)] := rfl
@[simp] theorem Ydd(b : Bool): Aa.one (.bool b) = true := rfl
@[simp] theorem eN(a b c : Nat): Aa.cells (.ptr a b c) = some [(.ptr a b c)] := rfl
@[simp] theorem kN(a b c : Nat): Aa.one (.ptr a b c) = true := rfl
@[simp] theorem Yd2(l : List (List Aa))(a b : Nat): Aa.cells (.AW l a b) = some [(.AW l a b)] := rfl
@[simp] theorem Ydo(l : List (List Aa))(a b : Nat): Aa.one (.AW l a b) = true := rfl
@[simp] theorem xG(a b c : Nat): Aa.cells (.sl a b c) = some [(.sl a b c)] := rfl
@[simp] theorem xT(a b c : Nat): Aa.one (.sl a b c) = true := rfl
@[simp] theorem eF(l : List (List Aa)): Aa.cells (.An l) = some [(.An l)] := rfl
@[simp] theorem kI(l : List (List Aa)): Aa.one (.An l) = true := rfl
@[simp] theorem eM(b : Nat): Aa.cells (.map b) = some [(.map b)] := rfl
@[simp] theorem kK(b : Nat): Aa.one (.map b) = true := rfl
@[simp] theorem Yef(f : Fn)(a b : List Aa): Aa.cells (.func f a b) = some [(.func f a b)] := rfl
@[simp] theorem Ydq(f : Fn)(a b : List Aa): Aa.one (.func f a b) = true := rfl
@[simp] theorem eO(l : List UInt8): Aa.cells (.str l) = some [(.str l)] := rfl
@[simp] theorem kO(l : List UInt8): Aa.one (.str l) = true := rfl
@[simp] theorem Ydg : Aa.cells .Ai = some [.Ai] := rfl
@[simp] theorem Yd5 : Aa.one .Ai = true := rfl
@[simp] theorem Ydf : Aa.cells .nilPtr = some [.nilPtr] := rfl
@[simp] theorem Yd0 : Aa.one .nilPtr = true := rfl
@[simp] theorem Ydm : Aa.cells .Ay = some [.Ay] := rfl
@[simp] theorem Yds : Aa.one .Ay = true := rfl
@[simp] theorem Yeh : Aa.cells .nilFunc = some [.nilFunc] := rfl
@[simp] theorem Ydk : Aa.one .nilFunc = true := rfl
@[simp] theorem eE(l : List Aa) : Aa.cells (.agg l) = some l := rfl
def xZ(l:List (List Nat)):List (List Aa):=l.map fun w=>[.An (Z0 w)]
@[simp] theorem Ydu(q : Nat → Nat)(a b : List (List Aa)) : Z3 q (a ++ b) = Z3 q a ++ Z3 q b := by simp [HE]
theorem cO{get:Nat→Option Ag}{b k n:Nat}{rows:List (List Aa)}(h:get b=some (.cells k rows))(hs:∀ row,row∈rows → ∀ x,x∈row→W3 get n x=some x):W3 get (n+1) (.sl b 0 rows.length)=some (.An rows):=by
 have h1:Nat.ble (0+rows.length) rows.length=true:=by rw[Nat.zero_add]; exact Nat.ble_self_eq_true _
 rw[W3];simp only[h,h1,cond_true,List.drop_zero,List.take_length,RH hs]
theorem yf{get:Nat→Option Ag}{n:Nat}{rows:List (List Aa)}(hs:∀ row,row∈rows → ∀ x,x∈row→W3 get n x=some x):W3 get (n+1) (.An rows)=some (.An rows):=by
 rw[W3];simp only[RH hs]
theorem uO{get:Nat→Option Ag}{n:Nat}(l:List Nat):∀ row,row∈Z0 l → ∀ x,x∈row→W3 get (n+1) x=some x:=by
 intro row hr x hx;obtain⟨i,_,rfl⟩:=mM.1 hr;rw[List.mem_singleton]at hx;subst hx;rfl
end Go.Ab
end
