/- Part 15 of the proof: Rb, Lc. -/
import Derived.Test.YtilmpmlkndfbjaaGreatDoorK8
import Derived.Test.YtilmpmlkndfbjaaGreatDoorK14
set_option linter.all false
section
namespace Go.Ab
open Go Go.AE Go.Proofs
open Go.Plain
attribute [local simp] KV KF Kv KM K8 KI K2 Ku KT HG HJ HC HK HL HF JC Ld Kb Jw JF Kk JM Kz KE KZ KY Kl KU K4 KD JO KP K6 Jv Kt Ks Kw JI KR K7 K1 Jx Kq Kd KB JU Ky JY JG JZ Kc Ko KX KN Km JX K3 Jy KW Kr Kg Kx JP JE Kf Jz Lf Iy JW Env.get P3 Ac.at Ac.app Ac.get Y2 P0 Aa.cells Aa.one J4 C0 Ke KQ K9 K5 JQ KL Jq JL KJ Ka Jt KH KC Ga F5 N6 H9 I8 U5 Aj La Ki JT JH O3 X3 J0 M0 I6 D4 Q6 I0 Bq BY BB Cz Df Bz W5 Aa.AA U3 Z3 Ag.AA
abbrev Cw(l:List Bool):List (List Aa):=l.map fun b=>[Aa.bool b]
theorem Y0(q:Nat→Nat)(l:List Nat):Z3 q (Z0 l)=Z0 l:=X7 q _ (Re l)
theorem qI:∀ (l:List Bool),V3 (Cw l)=true
 | []=>rfl
 | x :: r=>by simp only[Cw,List.map_cons,V3]; exact qI r
theorem V7(q:Nat→Nat)(l:List Bool):Z3 q (Cw l)=Cw l:=X7 q _ (qI l)
theorem RG(l:List Nat)(i x:Nat):(Z0 l).set i [Aa.int .i64 (x:Int)]=Z0 (l.set i x):=by rw[Z0,Z0,List.map_set]
theorem Ze(l:List Bool)(i:Nat)(x:Bool):(Cw l).set i [Aa.bool x]=Cw (l.set i x):=by rw[Cw,Cw,List.map_set]
theorem TB(n x:Nat):Z0 (List.replicate n x)=List.replicate n [Aa.int .i64 (x:Int)]:=by simp[Z0]
theorem aV(n:Nat)(b:Bool):Cw (List.replicate n b)=List.replicate n [Aa.bool b]:=by simp[Cw]
theorem Lc{l:List Nat}{i x:Nat}(h:l[i]? = some x):(Z0 l)[i]? = some [Aa.int .i64 (x:Int)]:=by rw[Z0,gM,h]; rfl
theorem TC{l:List Bool}{i:Nat}{x:Bool}(h:l[i]? = some x):(Cw l)[i]? = some [Aa.bool x]:=by rw[Cw,gM,h]; rfl
theorem O5(l:List Nat):(Z0 l).length=l.length:=by rw[Z0,lM]
theorem Y6{α:Type}{l:List α}{i:Nat}{x:α}(h:l[i]? = some x):∃ hi:i<l.length,l[i]=x:=gS.1 h
theorem yq{ls:List Lt}{i:Nat}(h:i<ls.length):W4 ls (i+1)=if AT (at' ls i)then !W4 ls i else W4 ls i:=by
 unfold W4 Z5;rw[VO h];cases AT (at' ls i)with
 | false=>simp
 | true=>
  rw[Bool.eq_iff_iff];simp;omega
abbrev XJ(F n m:Nat)(rows:List (List Aa)):Ag:=.cells 7 [[.int .i64 (F:Int),.An rows,.sl 3 0 n,.sl 5 0 m,.sl 4 0 n,.Ay,.sl 2 0 (F+1)]]
abbrev dR(F:Nat)(ls:List Lt)(rows:List (List Aa)):Ac:=
 ⟨[(1,XJ F ls.length (Z5 ls) rows),(2,.cells 1 (Z0 (P1 F ls))),(3,.cells 1 (Cw (V2 ls.length ls.length (R4 ls) false))),(4,.cells 1 (Z0 (V2 ls.length ls.length (P6 ls) 0))),(5,.cells 1 (Z0 (L5 ls (Z5 ls) ls.length)))],6⟩
set_option maxRecDepth 100000 in
set_option maxHeartbeats 4000000 in
theorem dN(F:Nat)(ls:List Lt)(h:ls.length≤1000)(hF:F≤1000)(hG:ID F ls) :
 Cc Tryz.prog 142 [.ptr 1 0 0] (NX F (ls.map Ad)) fun r m=>(Eg ls (Z5 ls) ls.length=true∧r=.bool true∧m=dR F ls (ls.map Ad))∨(Eg ls (Z5 ls) ls.length=false∧r=.bool false∧m=⟨[],2⟩):=by
 refine Ih hm Tryz.func142 oJ rfl rfl fun K hK=>?_
 have hR:=IA ls;have As:∀ q,Z3 q (ls.map Ad)=ls.map Ad:=fun q=>X7 q _ (R7 ls)
 have hyes:Eg ls (Z5 ls) ls.length=true → ∀ l m,Bq 2 l [(0,.bool true)] (dR F ls (ls.map Ad)) [(0,.bool true)] m→M4 2 K (.bool true) m:=
  fun hr l m hs=>Z6 (hK _ _ (.inl ⟨hr,rfl,rfl⟩)) l hs
 have hno:Eg ls (Z5 ls) ls.length=false → ∀ l m,Bq 2 l [(0,.bool false)] ⟨[],2⟩ [(0,.bool false)] m→M4 2 K (.bool false) m:=
  fun hr l m hs=>Z6 (hK _ _ (.inr ⟨hr,rfl,rfl⟩)) l hs
 clear hK;generalize ls.map Ad=rows at *;have hlen:=hR.len;have hpl:Z5 ls≤ls.length:=Si;have hwF:IntKind.i64.wrap ((F:Int)+1)=((F+1:Nat):Int):=by rw[S8 (by omega) (by omega)]; rfl
 have hF0:F+1≤1048576:=by omega
 have hn0:ls.length≤1048576:=by omega
 have e1:List.replicate (F+1) [Aa.int .i64 0]=Z0 (P1 F (ls.take 0)):=by rw[List.take_zero,Z6a,TB]; rfl
 have e2:List.replicate ls.length [Aa.bool false]=Cw (V2 ls.length 0 (R4 ls) false):=by rw[YF,aV]
 have e3:List.replicate ls.length [Aa.int .i64 0]=Z0 (V2 ls.length 0 (P6 ls) 0):=by rw[YF,TB]; rfl
 simp[-Int.natCast_add,W6,hwF,hF0,hlen,hn0,e1,e2,e3];refine C5 (α:=Nat) (fun i=>[(50,.int .i64 i),(49,.int .i64 ls.length),(48,.An rows),(3,.bool (W4 ls i)),(0,.ptr 1 0 0)])
  (fun i=>⟨[(1,.cells 7 [[.int .i64 (F:Int),.An rows,.sl 3 0 ls.length,.Ai,.sl 4 0 ls.length,.Ay,.sl 2 0 (F+1)]]),(2,.cells 1 (Z0 (P1 F (ls.take i)))),(3,.cells 1 (Cw (V2 ls.length i (R4 ls) false))),(4,.cells 1 (Z0 (V2 ls.length 0 (P6 ls) 0)))],5⟩)
  (fun i=>ls.length - i) (fun i=>i≤ls.length) 0 [(2,10),(3,21),(4,32)] (by simp[As,Y0,V7,W4,Z5,Z7]) (by simp) ?_
 intro i hi N hN
 try simp only at hi hN ⊢
 by_cases hlt:i<ls.length
 ·have hrow:=hR.row i hlt;obtain⟨_,hrow2⟩:=Y6 hrow;have hw1:=X5 ((i:Int)+1);have hnext:ls.take (i+1)=ls.take i++[at' ls i]:=by
   rw[List.take_add_one,at',List.getD,gE hlt];rfl
  have hds:=yq hlt;by_cases hk:(at' ls i).k=1
  ·have hp:AT (at' ls i)=true:=by simp[AT,hk]
   obtain⟨hg1,hg2⟩:=hG _ (F7 hlt) hp;obtain⟨G,hg⟩:∃ G:Nat,(at' ls i).g=(G:Nat):=⟨(at' ls i).g.toNat,by omega⟩
   have hGF:G≤F:=by omega
   have hGF1:G<F+1:=by omega
   have hc:=Lc (Rh (ls:=ls.take i) hGF);have hcs:=qh (F:=F) (ls:=ls.take i) hp hg hGF;have Cm:CS G (ls.take i)≤i:=Zl i;have hwc:IntKind.i64.wrap ((CS G (ls.take i):Nat)+1:Int)=((CS G (ls.take i)+1:Nat):Int):=by rw[S8 (by omega) (by omega)]; rfl
   have hC':=RG (P1 F (ls.take i)) G (CS G (ls.take i)+1);rw[hcs,← hnext]at hC';have hCl:(Z0 (P1 F (ls.take i))).length=F+1:=by rw[O5,MB]
   have hDv:R4 ls i=W4 ls i:=by simp[R4,hp]
   have hD':=Ze (V2 ls.length i (R4 ls) false) i (R4 ls i);rw[Yn hlt,hDv]at hD';have hDg:=TC (LF (i:=i) (v:=R4 ls) (d:=false) hlt);have hDl:(Cw (V2 ls.length i (R4 ls) false)).length=ls.length:=by rw[Cw,lM,KS]
   rw[iP hp]at hds;simp only[Nat.lt_irrefl,if_false]at hDg;generalize Z0 (P1 F (ls.take i))=C at *;generalize Cw (V2 ls.length i (R4 ls) false)=D at *;obtain⟨_,hc2⟩:=Y6 hc;obtain⟨_,hDg2⟩:=Y6 hDg;simp[-Int.natCast_add,hlen,hlt,hrow2,Ad,hk,hg,hc2,hCl,hGF1,hwc,hC',hDg2,hDl,hD',hw1];exact hN (i+1) [] _ _ (by omega) (by omega) (by simp[As,Y0,V7,hds])
  ·have hp:AT (at' ls i)=false:=by simp[AT,hk]
   have hcs:=Z8r (F:=F) (ls:=ls.take i) hp;rw[← hnext]at hcs;have hD:=qA (n:=ls.length) (i:=i) (v:=R4 ls) (d:=false) (by simp[R4,hp])
   rw[iN (by simp[hp])]at hds
   simp[-Int.natCast_add,hlen,hlt,hrow2,Ad,hk,hw1];exact hN (i+1) [] _ _ (by omega) (by omega) (by simp[As,Y0,V7,hds,hcs,hD])
 have he:i=ls.length:=by omega
 subst he;clear hN;rw[List.take_length];have e4:List.replicate (F+1) [Aa.int .i64 0]=Z0 (V2 (F+1) 0 (tot ls) 0):=by rw[YF,TB]; rfl
 simp[-Int.natCast_add,W6,hwF,hF0,e4];refine C5 (α:=Nat) (fun g=>[(90,.int .i64 g),(89,.int .i64 ((F+1:Nat):Int)),(88,.sl 2 0 (F+1)),(7,.int .i64 (tot ls g:Nat)),(6,.sl 5 0 (F+1)),(0,.ptr 1 0 0)])
  (fun g=>⟨[(1,.cells 7 [[.int .i64 (F:Int),.An rows,.sl 3 0 ls.length,.Ai,.sl 4 0 ls.length,.Ay,.sl 2 0 (F+1)]]),(2,.cells 1 (Z0 (P1 F ls))),(3,.cells 1 (Cw (V2 ls.length ls.length (R4 ls) false))),(4,.cells 1 (Z0 (V2 ls.length 0 (P6 ls) 0))),(5,.cells 1 (Z0 (V2 (F+1) g (tot ls) 0)))],6⟩)
  (fun g=>F+1 - g) (fun g=>g≤F+1) 0 [(5,12)] (by simp[As,Y0,V7,Zz6 hG]) (by simp) ?_
 intro g hg N hN
 try simp only at hg hN ⊢
 by_cases hlt:g<F+1
 ·have hw1:=X5 ((g:Int)+1);have hc:=Lc (Rh (ls:=ls) (show g≤F by omega))
  have hCl:(Z0 (P1 F ls)).length=F+1:=by rw[O5,MB]
  have hts:=SR ls g;have htl:=qF ls (g+1);have hwt:=Y1 ((tot ls g:Nat)+(CS g ls:Nat):Int) ((tot ls (g+1):Nat):Int);have hFg:=Lc (LF (i:=g) (v:=tot ls) (d:=0) hlt);have hFs:=RG (V2 (F+1) g (tot ls) 0) g (tot ls g);rw[Yn hlt]at hFs;have hFl:(Z0 (V2 (F+1) g (tot ls) 0)).length=F+1:=by rw[O5,KS]
  simp only[Nat.lt_irrefl,if_false]at hFg;generalize Z0 (V2 (F+1) g (tot ls) 0)=T at *;generalize hCe:Z0 (P1 F ls)=C at *;obtain⟨_,hc2⟩:=Y6 hc;obtain⟨_,hFg2⟩:=Y6 hFg;have hrC:∀ q,Z3 q C=C:=fun q=>by rw[← hCe]; exact Y0 q _
  simp[-Int.natCast_add,hlt,hc2,hCl,hwt,hFg2,hFs,hFl,hw1];exact hN (g+1) [] _ _ (by omega) (by omega) (by simp[As,Y0,V7,hrC])
 have he:g=F+1:=by omega
 subst he;clear hN;rw[Zz9 hG];have Mr:Z5 ls≤1048576:=by omega
 have e5:List.replicate (Z5 ls) [Aa.int .i64 0]=Z0 (L5 ls (Z5 ls) 0):=by rw[L5,TB]; rfl
 have e6:List.replicate (Z5 ls) [Aa.bool false]=Cw (M3 ls (Z5 ls) 0):=by rw[M3,aV]
 simp[-Int.natCast_add,W6,hlen,Mr,e5,e6];refine C5 (α:=Nat) (fun i=>[(116,.int .i64 i),(115,.int .i64 ls.length),(114,.An rows),(10,.sl 7 0 (Z5 ls)),(6,.sl 6 0 (F+1)),(0,.ptr 1 0 0)])
  (fun i=>⟨[(1,XJ F ls.length (Z5 ls) rows),(2,.cells 1 (Z0 (P1 F ls))),(3,.cells 1 (Cw (V2 ls.length ls.length (R4 ls) false))),(4,.cells 1 (Z0 (V2 ls.length i (P6 ls) 0))),(5,.cells 1 (Z0 (L5 ls (Z5 ls) i))),(6,.cells 1 (Z0 (V2 (F+1) (F+1) (tot ls) 0))),(7,.cells 1 (Cw (M3 ls (Z5 ls) i)))],8⟩)
  (fun i=>ls.length - i) (fun i=>i≤ls.length∧Eg ls (Z5 ls) i=true) 0 [(6,5),(5,9),(7,14)] (by simp[As,Y0,V7]) (by simp[Eg]) ?_
 rintro i ⟨hi,hrk⟩ N hN
 try simp only at hi hrk hN ⊢
 by_cases hlt:i<ls.length
 ·have hrow:=hR.row i hlt;obtain⟨_,hrow2⟩:=Y6 hrow;have hw1:=X5 ((i:Int)+1);by_cases hk:(at' ls i).k=1
  ·have hp:AT (at' ls i)=true:=by simp[AT,hk]
   have hin:=F7 hlt;obtain⟨hg1,hg2⟩:=hG _ hin hp;have Ck:Eg ls (Z5 ls) (i+1)=(decide (1≤(at' ls i).r)&&decide ((at' ls i).r≤(CS (at' ls i).g ls:Nat)) && !(M3 ls (Z5 ls) i).getD (pos ls (at' ls i)) true):=by
    simp[Eg,hrk,hp]
   have hbad:Eg ls (Z5 ls) (i+1)=false→Eg ls (Z5 ls) ls.length=false:=fun hb=>by
    cases hq:Eg ls (Z5 ls) ls.length with
    | false=>rfl
    | true=>rw[y7 (show i+1≤ls.length by omega) hq]at hb; cases hb
   by_cases hr1:(at' ls i).r<1
   ·simp[-Int.natCast_add,hlen,hlt,hrow2,Ad,hk,hr1];exact hno (hbad (by rw[Ck]; simp; omega)) [] _ (by simp)
   obtain⟨G,hg⟩:∃ G:Nat,(at' ls i).g=(G:Nat):=⟨(at' ls i).g.toNat,by omega⟩
   have hGF:G≤F:=by omega
   have hGF1:G<F+1:=by omega
   have hc:=Lc (Rh (ls:=ls) hGF);have hCl:(Z0 (P1 F ls)).length=F+1:=by rw[O5,MB]
   by_cases hr2:(CS (G:Nat) ls:Nat)<(at' ls i).r
   ·generalize Z0 (P1 F ls)=C at *;obtain⟨_,hc2⟩:=Y6 hc;simp[-Int.natCast_add,hlen,hlt,hrow2,Ad,hk,hr1,hg,hc2,hCl,hGF1,hr2];exact hno (hbad (by rw[Ck,hg]; simp; omega)) [] _ (by simp)
   have hpos:=VB hG hin hp (by omega) (by rw[hg]; omega)
   have hpe:=VP (ls:=ls) hg;have hFg:=Lc (LF (n:=F+1) (i:=F+1) (v:=tot ls) (d:=0) (j:=G) hGF1);rw[iP hGF1]at hFg;have hFl:(Z0 (V2 (F+1) (F+1) (tot ls) 0)).length=F+1:=by rw[O5,KS]
   have hwa:=Y1 ((tot ls G:Nat)+(at' ls i).r) ((pos ls (at' ls i)+1:Nat):Int);have hwb:=Y1 (((pos ls (at' ls i)+1:Nat):Int) - 1) ((pos ls (at' ls i):Nat):Int);have htl:=vM ls (Z5 ls) i;have hxl:=Vv ls (Z5 ls) i;obtain⟨tb,htb⟩:∃ tb,(M3 ls (Z5 ls) i)[pos ls (at' ls i)]? = some tb:=⟨_,gE (by omega)⟩
   have htg:(M3 ls (Z5 ls) i).getD (pos ls (at' ls i)) true=tb:=by rw[List.getD,htb]; rfl
   have htb':=TC htb;have hTl:(Cw (M3 ls (Z5 ls) i)).length=Z5 ls:=by rw[Cw,lM,htl]
   have hTs:=Ze (M3 ls (Z5 ls) i) (pos ls (at' ls i)) true;have hT1:(M3 ls (Z5 ls) i).set (pos ls (at' ls i)) true=M3 ls (Z5 ls) (i+1):=by simp[M3,hp]
   rw[hT1]at hTs;have hXl:(Z0 (L5 ls (Z5 ls) i)).length=Z5 ls:=by rw[O5,hxl]
   have hXs:=RG (L5 ls (Z5 ls) i) (pos ls (at' ls i)) i;have hX1:(L5 ls (Z5 ls) i).set (pos ls (at' ls i)) i=L5 ls (Z5 ls) (i+1):=by simp[L5,hp]
   rw[hX1]at hXs;obtain⟨xv,hxv⟩:∃ xv,(L5 ls (Z5 ls) i)[pos ls (at' ls i)]? = some xv:=⟨_,gE (by omega)⟩
   have hxv':=Lc hxv;have hPl:(Z0 (V2 ls.length i (P6 ls) 0)).length=ls.length:=by rw[O5,KS]
   have hPv:P6 ls i=pos ls (at' ls i):=by simp[P6,hp]
   have hPs:=RG (V2 ls.length i (P6 ls) 0) i (P6 ls i);rw[Yn hlt,hPv]at hPs;have hPg:=Lc (LF (i:=i) (v:=P6 ls) (d:=0) hlt);simp only[Nat.lt_irrefl,if_false]at hPg;rw[htg,hg]at Ck;clear hpe hxl hxv htb htg htl hX1 hT1 hPv;generalize hp':pos ls (at' ls i)=p at *;generalize hCe:Z0 (P1 F ls)=C at *;generalize hFe:Z0 (V2 (F+1) (F+1) (tot ls) 0)=T at *;generalize Cw (M3 ls (Z5 ls) i)=B at *;generalize Z0 (L5 ls (Z5 ls) i)=X at *;generalize Z0 (V2 ls.length i (P6 ls) 0)=Y at *;have hrC:∀ q,Z3 q C=C:=fun q=>by rw[← hCe]; exact Y0 q _
   have hrT:∀ q,Z3 q T=T:=fun q=>by rw[← hFe]; exact Y0 q _
   obtain⟨_,hc2⟩:=Y6 hc;obtain⟨_,hFg2⟩:=Y6 hFg;obtain⟨_,htb2⟩:=Y6 htb';obtain⟨_,hxv2⟩:=Y6 hxv';obtain⟨_,hPg2⟩:=Y6 hPg;cases tb with
   | true=>
    simp[-Int.natCast_add,hlen,hlt,hrow2,Ad,hk,hr1,hg,hc2,hCl,hGF1,hr2,hFg2,hFl,hwa,hwb,hpos,htb2,hTl];exact hno (hbad (by rw[Ck]; simp)) [] _ (by simp)
   | false=>
    simp[-Int.natCast_add,hlen,hlt,hrow2,Ad,hk,hr1,hg,hc2,hCl,hGF1,hr2,hFg2,hFl,hwa,hwb,hpos,htb2,hTl,hTs,hXl,hxv2,hXs,hPl,hPg2,hPs,hw1];exact hN (i+1) [] _ _ (by omega) ⟨by omega,by rw[Ck]; simp; omega⟩ (by simp[As,Y0,V7,hrC,hrT])
  ·have hp:AT (at' ls i)=false:=by simp[AT,hk]
   have hT:M3 ls (Z5 ls) (i+1)=M3 ls (Z5 ls) i:=by simp[M3,hp]
   have hX:L5 ls (Z5 ls) (i+1)=L5 ls (Z5 ls) i:=by simp[L5,hp]
   have hY:=qA (n:=ls.length) (i:=i) (v:=P6 ls) (d:=0) (by simp[P6,hp])
   simp[-Int.natCast_add,hlen,hlt,hrow2,Ad,hk,hw1];exact hN (i+1) [] _ _ (by omega) ⟨by omega,by simp[Eg,hrk,hp]⟩ (by simp[As,Y0,V7,hT,hX,hY])
 have he:i=ls.length:=by omega
 subst he;simp[-Int.natCast_add];exact hyes hrk [] _ (by simp[As,Y0,V7])
end Go.Ab
end
section
namespace Go.Ab
open Go Go.AE Go.Proofs
open Go.Plain
def outV(ob:Option Nat)(n:Nat):Aa:=
 match ob with
 | none=>.Ai
 | some b=>.sl b 0 n
def outB(ob:Option Nat)(k:Nat)(rows:List (List Aa)):List (Nat×Ag):=
 match ob with
 | none=>[]
 | some b=>[(b,.cells k rows)]
def kU(ob:Option Nat)(q n:Nat):Prop:=
 match ob with
 | none=>n=0
 | some b=>b<q∧1<b
end Go.Ab
end
