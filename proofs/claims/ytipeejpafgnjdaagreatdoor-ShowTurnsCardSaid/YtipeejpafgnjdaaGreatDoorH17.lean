/- Part 17 of the proof: Rb, Lc. -/
import Derived.Test.YtipeejpafgnjdaaGreatDoorH8
import Derived.Test.YtipeejpafgnjdaaGreatDoorH16
set_option linter.all false
section
namespace Go.Known
open Go Go.AE Go.Proofs
open Go.Plain
attribute [local simp] Zbv Zdd Zcl Zcs Zch Zcw Zby Zcv Zbp P1 P3 Q7 P6 Q9 P4 Zdx Zbu Zbi Zdw Zd1 Zb8 Zd2 Zbn Zb2 Zdt Zbt Zbo Zdf Zdj Zco Zbx Zd4 Zdg Zdp Zde Zbj Zcu Zdk Zcf Zcy Zc2 Zbf Zc5 Zcq Zb3 Zdz Zdb Zc9 Zc1 Zd3 Zce Zc6 Zcb Zc0 Zbh Zda Zb1 Zd5 Zd0 Zbl Zci Zdy Zc8 Zdc Zdq Zcm Zcz Za2 Zc4 Zdl Env.get W9 SMem.at SMem.app SMem.get Z8 R6 AVal.cells AVal.one T6 Q1 Zds Zb7 Zbw Zb9 Zbm Zbg Zcx Zbs Zcr Zdn Zdh Zct Zdr unA R5 U8 I4 M8 X9 aundef Zdi Zdm Zbk Zbz Zc3 Q3 V3 M6 M5 N9 I7 S1 J3 SubR SubRE SubRB InjK InjA qOf Zap AVal.ren Q0 Z3 ABlk.ren
abbrev bls(l:List Bool):List (List AVal):=l.map fun b=>[AVal.bool b]
theorem Z5(q:Nat→Nat)(l:List Nat):Z3 q (Z0 l)=Z0 l:=Y6 q _ (G0 l)
theorem Zud:∀ (l:List Bool),X8 (bls l)=true
 | []=>rfl
 | x :: r=>by simp only[bls,List.map_cons,X8]; exact Zud r
theorem X7(q:Nat→Nat)(l:List Bool):Z3 q (bls l)=bls l:=Y6 q _ (Zud l)
theorem Zfb(l:List Nat)(i x:Nat):(Z0 l).set i [AVal.int .i64 (x:Int)]=Z0 (l.set i x):=by rw[Z0,Z0,List.map_set]
theorem Zln(l:List Bool)(i:Nat)(x:Bool):(bls l).set i [AVal.bool x]=bls (l.set i x):=by rw[bls,bls,List.map_set]
theorem Zly(n x:Nat):Z0 (List.replicate n x)=List.replicate n [AVal.int .i64 (x:Int)]:=by simp[Z0]
theorem Zmc(n:Nat)(b:Bool):bls (List.replicate n b)=List.replicate n [AVal.bool b]:=by simp[bls]
theorem D6{l:List Nat}{i x:Nat}(h:l[i]? = some x):(Z0 l)[i]? = some [AVal.int .i64 (x:Int)]:=by rw[Z0,List.getElem?_map,h]; rfl
theorem Zeg{l:List Bool}{i:Nat}{x:Bool}(h:l[i]? = some x):(bls l)[i]? = some [AVal.bool x]:=by rw[bls,List.getElem?_map,h]; rfl
theorem M0(l:List Nat):(Z0 l).length=l.length:=by rw[Z0,List.length_map]
theorem Y9{α:Type}{l:List α}{i:Nat}{x:α}(h:l[i]? = some x):∃ hi:i<l.length,l[i]=x:=gS.1 h
theorem Zo5{ls:List Lt}{i:Nat}(h:i<ls.length):down ls (i+1)=if isP (at' ls i)then !down ls i else down ls i:=by
 unfold down Z1;rw[Zag h];cases isP (at' ls i)with
 | false=>simp
 | true=>
  rw[Bool.eq_iff_iff];simp;omega
abbrev dV1(F n m:Nat)(rows:List (List AVal)):ABlk:=.cells 7 [[.int .i64 (F:Int),.imm rows,.sl 3 0 n,.sl 5 0 m,.sl 4 0 n,.nilMap,.sl 2 0 (F+1)]]
abbrev dR(F:Nat)(ls:List Lt)(rows:List (List AVal)):SMem:=
 ⟨[(1,dV1 F ls.length (Z1 ls) rows),(2,.cells 1 (Z0 (S7 F ls))),(3,.cells 1 (bls (X2 ls.length ls.length (V0 ls) false))),(4,.cells 1 (Z0 (X2 ls.length ls.length (S6 ls) 0))),(5,.cells 1 (Z0 (L6 ls (Z1 ls) ls.length)))],6⟩
set_option maxRecDepth 100000 in
set_option maxHeartbeats 4000000 in
theorem c133(F:Nat)(ls:List Lt)(h:ls.length≤1000)(hF:F≤1000)(hG:Za8 F ls) :
 Ctr Tryz.prog 169 [.ptr 1 0 0] (dM1 F (ls.map rowL)) fun r m=>(rkF ls (Z1 ls) ls.length=true∧r=.bool true∧m=dR F ls (ls.map rowL))∨(rkF ls (Z1 ls) ls.length=false∧r=.bool false∧m=⟨[],2⟩):=by
 refine J7 hm Tryz.func169 Zse rfl rfl fun K hK=>?_
 have hR:=N8 ls;have hrr:∀ q,Z3 q (ls.map rowL)=ls.map rowL:=fun q=>Y6 q _ (Z9 ls)
 have hyes:rkF ls (Z1 ls) ls.length=true → ∀ l m,SubR 2 l [(0,.bool true)] (dR F ls (ls.map rowL)) [(0,.bool true)] m→S4 2 K (.bool true) m:=
  fun hr l m hs=>Y1 (hK _ _ (.inl ⟨hr,rfl,rfl⟩)) l hs
 have hno:rkF ls (Z1 ls) ls.length=false → ∀ l m,SubR 2 l [(0,.bool false)] ⟨[],2⟩ [(0,.bool false)] m→S4 2 K (.bool false) m:=
  fun hr l m hs=>Y1 (hK _ _ (.inr ⟨hr,rfl,rfl⟩)) l hs
 clear hK;generalize ls.map rowL=rows at *;have hlen:=hR.len;have hpl:Z1 ls≤ls.length:=E5;have hwF:IntKind.i64.wrap ((F:Int)+1)=((F+1:Nat):Int):=by rw[Z6 (by omega) (by omega)]; rfl
 have hF0:F+1≤1048576:=by omega
 have hn0:ls.length≤1048576:=by omega
 have e1:List.replicate (F+1) [AVal.int .i64 0]=Z0 (S7 F (ls.take 0)):=by rw[List.take_zero,Z1e,Zly]; rfl
 have e2:List.replicate ls.length [AVal.bool false]=bls (X2 ls.length 0 (V0 ls) false):=by rw[Zpm,Zmc]
 have e3:List.replicate ls.length [AVal.int .i64 0]=Z0 (X2 ls.length 0 (S6 ls) 0):=by rw[Zpm,Zly]; rfl
 simp[-Int.natCast_add,X4,hwF,hF0,hlen,hn0,e1,e2,e3];refine T1 (α:=Nat) (fun i=>[(50,.int .i64 i),(49,.int .i64 ls.length),(48,.imm rows),(3,.bool (down ls i)),(0,.ptr 1 0 0)])
  (fun i=>⟨[(1,.cells 7 [[.int .i64 (F:Int),.imm rows,.sl 3 0 ls.length,.nilSl,.sl 4 0 ls.length,.nilMap,.sl 2 0 (F+1)]]),(2,.cells 1 (Z0 (S7 F (ls.take i)))),(3,.cells 1 (bls (X2 ls.length i (V0 ls) false))),(4,.cells 1 (Z0 (X2 ls.length 0 (S6 ls) 0)))],5⟩)
  (fun i=>ls.length - i) (fun i=>i≤ls.length) 0 [(2,10),(3,21),(4,32)] (by simp[hrr,Z5,X7,down,Z1,Z4]) (by simp) ?_
 intro i hi N hN
 try simp only at hi hN ⊢
 by_cases hlt:i<ls.length
 ·have hrow:=hR.row i hlt;obtain⟨_,hrow2⟩:=Y9 hrow;have hw1:IntKind.i64.wrap ((i:Int)+1)=(i:Int)+1:=Z6 (by omega) (by omega)
  have hnext:ls.take (i+1)=ls.take i++[at' ls i]:=by
   rw[List.take_add_one,at',List.getD,gE hlt];rfl
  have hds:=Zo5 hlt;by_cases hk:(at' ls i).k=1
  ·have hp:isP (at' ls i)=true:=by simp[isP,hk]
   obtain⟨hg1,hg2⟩:=hG _ (R9 hlt) hp;obtain⟨G,hg⟩:∃ G:Nat,(at' ls i).g=(G:Nat):=⟨(at' ls i).g.toNat,by omega⟩
   have hGF:G≤F:=by omega
   have hGF1:G<F+1:=by omega
   have hc:=D6 (Zhm (ls:=ls.take i) hGF);have hcs:=Z31 (F:=F) (ls:=ls.take i) hp hg hGF;have hcl:inG G (ls.take i)≤i:=Zc7 i;have hwc:IntKind.i64.wrap ((inG G (ls.take i):Nat)+1:Int)=((inG G (ls.take i)+1:Nat):Int):=by rw[Z6 (by omega) (by omega)]; rfl
   have hC':=Zfb (S7 F (ls.take i)) G (inG G (ls.take i)+1);rw[hcs,← hnext]at hC';have hCl:(Z0 (S7 F (ls.take i))).length=F+1:=by rw[M0,Ze1]
   have hDv:V0 ls i=down ls i:=by simp[V0,hp]
   have hD':=Zln (X2 ls.length i (V0 ls) false) i (V0 ls i);rw[Zqg hlt,hDv]at hD';have hDg:=Zeg (Za7 (i:=i) (v:=V0 ls) (d:=false) hlt);have hDl:(bls (X2 ls.length i (V0 ls) false)).length=ls.length:=by rw[bls,List.length_map,Zat]
   rw[if_pos hp]at hds;simp only[Nat.lt_irrefl,if_false]at hDg;generalize Z0 (S7 F (ls.take i))=C at *;generalize bls (X2 ls.length i (V0 ls) false)=D at *;obtain⟨_,hc2⟩:=Y9 hc;obtain⟨_,hDg2⟩:=Y9 hDg;simp[-Int.natCast_add,hlen,hlt,hrow,hrow2,rowL,hk,hg,hc,hc2,hCl,hGF,hGF1,hwc,hC',hDg,hDg2,hDl,hD',hw1];exact hN (i+1) [] _ _ (by omega) (by omega) (by simp[hrr,Z5,X7,hds])
  ·have hp:isP (at' ls i)=false:=by simp[isP,hk]
   have hcs:=Yct (F:=F) (ls:=ls.take i) hp;rw[← hnext]at hcs;have hD:=Zz0 (n:=ls.length) (i:=i) (v:=V0 ls) (d:=false) (by simp[V0,hp])
   rw[if_neg (by simp[hp])]at hds
   simp[-Int.natCast_add,hlen,hlt,hrow,hrow2,rowL,hk,hw1];exact hN (i+1) [] _ _ (by omega) (by omega) (by simp[hrr,Z5,X7,hds,hcs,hD])
 have he:i=ls.length:=by omega
 subst he;clear hN;rw[List.take_length];have e4:List.replicate (F+1) [AVal.int .i64 0]=Z0 (X2 (F+1) 0 (tot ls) 0):=by rw[Zpm,Zly]; rfl
 simp[-Int.natCast_add,X4,hlen,hwF,hF0,e4];refine T1 (α:=Nat) (fun g=>[(90,.int .i64 g),(89,.int .i64 ((F+1:Nat):Int)),(88,.sl 2 0 (F+1)),(7,.int .i64 (tot ls g:Nat)),(6,.sl 5 0 (F+1)),(0,.ptr 1 0 0)])
  (fun g=>⟨[(1,.cells 7 [[.int .i64 (F:Int),.imm rows,.sl 3 0 ls.length,.nilSl,.sl 4 0 ls.length,.nilMap,.sl 2 0 (F+1)]]),(2,.cells 1 (Z0 (S7 F ls))),(3,.cells 1 (bls (X2 ls.length ls.length (V0 ls) false))),(4,.cells 1 (Z0 (X2 ls.length 0 (S6 ls) 0))),(5,.cells 1 (Z0 (X2 (F+1) g (tot ls) 0)))],6⟩)
  (fun g=>F+1 - g) (fun g=>g≤F+1) 0 [(5,12)] (by simp[hrr,Z5,X7,Z71 hG]) (by simp) ?_
 intro g hg N hN
 try simp only at hg hN ⊢
 by_cases hlt:g<F+1
 ·have hw1:IntKind.i64.wrap ((g:Int)+1)=(g:Int)+1:=Z6 (by omega) (by omega)
  have hc:=D6 (Zhm (ls:=ls) (show g≤F by omega))
  have hCl:(Z0 (S7 F ls)).length=F+1:=by rw[M0,Ze1]
  have hts:=Zjx ls g;have htl:=Zwz ls (g+1);have hwt:IntKind.i64.wrap ((tot ls g:Nat)+(inG g ls:Nat):Int)=((tot ls (g+1):Nat):Int):=by rw[Z6 (by omega) (by omega)]; omega
  have hFg:=D6 (Za7 (i:=g) (v:=tot ls) (d:=0) hlt);have hFs:=Zfb (X2 (F+1) g (tot ls) 0) g (tot ls g);rw[Zqg hlt]at hFs;have hFl:(Z0 (X2 (F+1) g (tot ls) 0)).length=F+1:=by rw[M0,Zat]
  simp only[Nat.lt_irrefl,if_false]at hFg;generalize Z0 (X2 (F+1) g (tot ls) 0)=T at *;generalize hCe:Z0 (S7 F ls)=C at *;obtain⟨_,hc2⟩:=Y9 hc;obtain⟨_,hFg2⟩:=Y9 hFg;have hrC:∀ q,Z3 q C=C:=fun q=>by rw[← hCe]; exact Z5 q _
  simp[-Int.natCast_add,hlt,hc,hc2,hCl,hwt,hFg,hFg2,hFs,hFl,hw1];exact hN (g+1) [] _ _ (by omega) (by omega) (by simp[hrr,Z5,X7,hrC])
 have he:g=F+1:=by omega
 subst he;clear hN;rw[Z9k hG];have hp0:Z1 ls≤1048576:=by omega
 have e5:List.replicate (Z1 ls) [AVal.int .i64 0]=Z0 (L6 ls (Z1 ls) 0):=by rw[L6,Zly]; rfl
 have e6:List.replicate (Z1 ls) [AVal.bool false]=bls (M4 ls (Z1 ls) 0):=by rw[M4,Zmc]
 simp[-Int.natCast_add,X4,hlen,hp0,e5,e6];refine T1 (α:=Nat) (fun i=>[(116,.int .i64 i),(115,.int .i64 ls.length),(114,.imm rows),(10,.sl 7 0 (Z1 ls)),(6,.sl 6 0 (F+1)),(0,.ptr 1 0 0)])
  (fun i=>⟨[(1,dV1 F ls.length (Z1 ls) rows),(2,.cells 1 (Z0 (S7 F ls))),(3,.cells 1 (bls (X2 ls.length ls.length (V0 ls) false))),(4,.cells 1 (Z0 (X2 ls.length i (S6 ls) 0))),(5,.cells 1 (Z0 (L6 ls (Z1 ls) i))),(6,.cells 1 (Z0 (X2 (F+1) (F+1) (tot ls) 0))),(7,.cells 1 (bls (M4 ls (Z1 ls) i)))],8⟩)
  (fun i=>ls.length - i) (fun i=>i≤ls.length∧rkF ls (Z1 ls) i=true) 0 [(6,5),(5,9),(7,14)] (by simp[hrr,Z5,X7]) (by simp[rkF]) ?_
 rintro i ⟨hi,hrk⟩ N hN
 try simp only at hi hrk hN ⊢
 by_cases hlt:i<ls.length
 ·have hrow:=hR.row i hlt;obtain⟨_,hrow2⟩:=Y9 hrow;have hw1:IntKind.i64.wrap ((i:Int)+1)=(i:Int)+1:=Z6 (by omega) (by omega)
  by_cases hk:(at' ls i).k=1
  ·have hp:isP (at' ls i)=true:=by simp[isP,hk]
   have hin:=R9 hlt;obtain⟨hg1,hg2⟩:=hG _ hin hp;have hrs:rkF ls (Z1 ls) (i+1)=(decide (1≤(at' ls i).r)&&decide ((at' ls i).r≤(inG (at' ls i).g ls:Nat)) && !(M4 ls (Z1 ls) i).getD (pos ls (at' ls i)) true):=by
    simp[rkF,hrk,hp]
   have hbad:rkF ls (Z1 ls) (i+1)=false→rkF ls (Z1 ls) ls.length=false:=fun hb=>by
    cases hq:rkF ls (Z1 ls) ls.length with
    | false=>rfl
    | true=>rw[Yca (show i+1≤ls.length by omega) hq]at hb; cases hb
   by_cases hr1:(at' ls i).r<1
   ·simp[-Int.natCast_add,hlen,hlt,hrow,hrow2,rowL,hk,hr1];exact hno (hbad (by rw[hrs]; simp; omega)) [] _ (by simp)
   obtain⟨G,hg⟩:∃ G:Nat,(at' ls i).g=(G:Nat):=⟨(at' ls i).g.toNat,by omega⟩
   have hGF:G≤F:=by omega
   have hGF1:G<F+1:=by omega
   have hc:=D6 (Zhm (ls:=ls) hGF);have hCl:(Z0 (S7 F ls)).length=F+1:=by rw[M0,Ze1]
   by_cases hr2:(inG (G:Nat) ls:Nat)<(at' ls i).r
   ·generalize Z0 (S7 F ls)=C at *;obtain⟨_,hc2⟩:=Y9 hc;simp[-Int.natCast_add,hlen,hlt,hrow,hrow2,rowL,hk,hr1,hg,hc,hc2,hCl,hGF,hGF1,hr2];exact hno (hbad (by rw[hrs,hg]; simp; omega)) [] _ (by simp)
   have hpos:=Zlm hG hin hp (by omega) (by rw[hg]; omega)
   have hpe:=Zmd (ls:=ls) hg;have hFg:=D6 (Za7 (n:=F+1) (i:=F+1) (v:=tot ls) (d:=0) (j:=G) hGF1);rw[if_pos hGF1]at hFg;have hFl:(Z0 (X2 (F+1) (F+1) (tot ls) 0)).length=F+1:=by rw[M0,Zat]
   have hwa:IntKind.i64.wrap ((tot ls G:Nat)+(at' ls i).r)=((pos ls (at' ls i)+1:Nat):Int):=by rw[Z6 (by omega) (by omega)]; omega
   have hwb:IntKind.i64.wrap (((pos ls (at' ls i)+1:Nat):Int) - 1)=((pos ls (at' ls i):Nat):Int):=by rw[Z6 (by omega) (by omega)]; omega
   have htl:=Zpa ls (Z1 ls) i;have hxl:=Zkj ls (Z1 ls) i;obtain⟨tb,htb⟩:∃ tb,(M4 ls (Z1 ls) i)[pos ls (at' ls i)]? = some tb:=⟨_,gE (by omega)⟩
   have htg:(M4 ls (Z1 ls) i).getD (pos ls (at' ls i)) true=tb:=by rw[List.getD,htb]; rfl
   have htb':=Zeg htb;have hTl:(bls (M4 ls (Z1 ls) i)).length=Z1 ls:=by rw[bls,List.length_map,htl]
   have hTs:=Zln (M4 ls (Z1 ls) i) (pos ls (at' ls i)) true;have hT1:(M4 ls (Z1 ls) i).set (pos ls (at' ls i)) true=M4 ls (Z1 ls) (i+1):=by simp[M4,hp]
   rw[hT1]at hTs;have hXl:(Z0 (L6 ls (Z1 ls) i)).length=Z1 ls:=by rw[M0,hxl]
   have hXs:=Zfb (L6 ls (Z1 ls) i) (pos ls (at' ls i)) i;have hX1:(L6 ls (Z1 ls) i).set (pos ls (at' ls i)) i=L6 ls (Z1 ls) (i+1):=by simp[L6,hp]
   rw[hX1]at hXs;obtain⟨xv,hxv⟩:∃ xv,(L6 ls (Z1 ls) i)[pos ls (at' ls i)]? = some xv:=⟨_,gE (by omega)⟩
   have hxv':=D6 hxv;have hPl:(Z0 (X2 ls.length i (S6 ls) 0)).length=ls.length:=by rw[M0,Zat]
   have hPv:S6 ls i=pos ls (at' ls i):=by simp[S6,hp]
   have hPs:=Zfb (X2 ls.length i (S6 ls) 0) i (S6 ls i);rw[Zqg hlt,hPv]at hPs;have hPg:=D6 (Za7 (i:=i) (v:=S6 ls) (d:=0) hlt);simp only[Nat.lt_irrefl,if_false]at hPg;rw[htg,hg]at hrs;clear hpe hxl hxv htb htg htl hX1 hT1 hPv;generalize hp':pos ls (at' ls i)=p at *;generalize hCe:Z0 (S7 F ls)=C at *;generalize hFe:Z0 (X2 (F+1) (F+1) (tot ls) 0)=T at *;generalize bls (M4 ls (Z1 ls) i)=B at *;generalize Z0 (L6 ls (Z1 ls) i)=X at *;generalize Z0 (X2 ls.length i (S6 ls) 0)=Y at *;have hrC:∀ q,Z3 q C=C:=fun q=>by rw[← hCe]; exact Z5 q _
   have hrT:∀ q,Z3 q T=T:=fun q=>by rw[← hFe]; exact Z5 q _
   obtain⟨_,hc2⟩:=Y9 hc;obtain⟨_,hFg2⟩:=Y9 hFg;obtain⟨_,htb2⟩:=Y9 htb';obtain⟨_,hxv2⟩:=Y9 hxv';obtain⟨_,hPg2⟩:=Y9 hPg;cases tb with
   | true=>
    simp[-Int.natCast_add,hlen,hlt,hrow,hrow2,rowL,hk,hr1,hg,hc,hc2,hCl,hGF,hGF1,hr2,hFg,hFg2,hFl,hwa,hwb,hpos,htb',htb2,hTl];exact hno (hbad (by rw[hrs]; simp)) [] _ (by simp)
   | false=>
    simp[-Int.natCast_add,hlen,hlt,hrow,hrow2,rowL,hk,hr1,hg,hc,hc2,hCl,hGF,hGF1,hr2,hFg,hFg2,hFl,hwa,hwb,hpos,htb',htb2,hTl,hTs,hXl,hxv',hxv2,hXs,hPl,hPg,hPg2,hPs,hw1];exact hN (i+1) [] _ _ (by omega) ⟨by omega,by rw[hrs]; simp; omega⟩ (by simp[hrr,Z5,X7,hrC,hrT])
  ·have hp:isP (at' ls i)=false:=by simp[isP,hk]
   have hT:M4 ls (Z1 ls) (i+1)=M4 ls (Z1 ls) i:=by simp[M4,hp]
   have hX:L6 ls (Z1 ls) (i+1)=L6 ls (Z1 ls) i:=by simp[L6,hp]
   have hY:=Zz0 (n:=ls.length) (i:=i) (v:=S6 ls) (d:=0) (by simp[S6,hp])
   simp[-Int.natCast_add,hlen,hlt,hrow,hrow2,rowL,hk,hw1];exact hN (i+1) [] _ _ (by omega) ⟨by omega,by simp[rkF,hrk,hp]⟩ (by simp[hrr,Z5,X7,hT,hX,hY])
 have he:i=ls.length:=by omega
 subst he;simp[-Int.natCast_add,hlen];exact hyes hrk [] _ (by simp[hrr,Z5,X7])
end Go.Known
end
section
namespace Go.Known
open Go Go.AE Go.Proofs
open Go.Plain
def A6(ob:Option Nat)(n:Nat):AVal:=
 match ob with
 | none=>.nilSl
 | some b=>.sl b 0 n
def outB(ob:Option Nat)(k:Nat)(rows:List (List AVal)):List (Nat×ABlk):=
 match ob with
 | none=>[]
 | some b=>[(b,.cells k rows)]
def Zad(ob:Option Nat)(q n:Nat):Prop:=
 match ob with
 | none=>n=0
 | some b=>b<q∧1<b
theorem Zn2(ls:List Lt)(i:Nat):∀ (l:List Nat) (k:Nat),k≤l.length→(∀ j y,j<k→l[j]? = some y→U0 (at' ls y) (at' ls i)=true)→(∀ y,l[k]? = some y→U0 (at' ls y) (at' ls i)=false) →
 ins ls i l=l.take k++i :: l.drop k
 | [],k,hk,_,_=>by
  have:k=0:=by simpa using hk
  subst this; rfl
 | x :: r,0,_,_,h2=>by
  simp only[ins];rw[h2 x rfl];rfl
 | x :: r,k+1,hk,h1,h2=>by
  simp only[ins];rw[if_pos (h1 0 x (by omega) rfl),Zn2 ls i r k (by simpa using hk) (fun j y hj hy=>h1 (j+1) y (by omega) hy) (fun y hy=>h2 y hy)]
  rfl
theorem Yb1{ls:List Lt}{k j:Nat}(h:j∈P0 ls k):j<k:=by
 have:=(Zbc ls k).mem_iff.1 h;simp only[List.mem_filter,List.mem_range]at this;exact this.1
theorem Z5v{ls:List Lt}(k:Nat):(P0 ls k).length≤k:=by
 rw[(Zbc ls k).length_eq];exact Nat.le_trans (List.length_filter_le _ _) (by simp)
theorem Zw1{α:Type}{f:α→Option α}:∀ {l:List α},(∀ x,x∈l→f x=some x)→W6 f l=some l
 | [],_=>rfl
 | x :: r,h=>by
  simp only[W6,h x (List.mem_cons_self ..),Zw1 fun y hy=>h y (List.mem_cons_of_mem _ hy)]
theorem Z5c{get:Nat→Option ABlk}{b n:Nat}{l:List Nat}(h:get b=some (.cells 1 (Z0 l))):X0 get (n+2) (.sl b 0 l.length)=some (.imm (Z0 l)):=by
 have hn:(Z0 l).length=l.length:=by simp[Z0]
 have e:((Z0 l).drop 0).take l.length=Z0 l:=by rw[List.drop_zero,List.take_of_length_le (by omega)]
 rw[X0];simp only[h,e];rw[Zw1 (l:=Z0 l)]
 ·simp[hn];rw[Nat.ble_eq_true_of_le (Nat.le_refl _)];rfl
 ·intro row hrow;simp only[Z0,List.mem_map]at hrow;obtain⟨x,_,rfl⟩:=hrow;rfl
theorem Zwk(l:List Nat):(Z0 l).length=l.length:=by simp[Z0]
set_option maxRecDepth 100000 in
theorem c39(f:Int)(ls:List Lt)(h:ls.length≤1000)(h0:0<Z1 ls):PCall Tryz.prog 99 [cV f ls] (.imm (Z0 (Z2 ls))):=by
 refine Z52 (n:=2) (by simp[Y0,C5]) (by simp only[AVal.closed,G0]) (B0 hm Tryz.func99 cf39 (Nat.le_of_ble_eq_true rfl) ?_)
 have hR:=N8 ls;unfold cV;generalize ls.map rowL=rows at hR;have hlen:=hR.len;simp[af39,F5,F3,G5,F4,F9,F8,F1,G9,P1,P3,Q7,P6,Q9,P4,G7,F0,V2,evE,Env.get,Y4,W9,stepD,SMem.at,SMem.app,SMem.get,Z8,AVal.cells,AVal.one,R4,T6,Q1,U9,V1,X6,V4,unA,eqA,R5,U8,J0,X9,aundef];refine Zav (α:=Nat×Nat×Option Nat) (fun a=>[(4,.int .i64 a.1),(3,A6 a.2.2 (P0 ls a.1).length),(1,.ptr 1 0 0)]) (fun a=>⟨(1,.cells 2 [[.int .i64 f,.imm rows]]) :: outB a.2.2 1 (Z0 (P0 ls a.1)),a.2.1⟩)
  (fun a=>ls.length - a.1) (fun a=>a.1≤ls.length∧Zad a.2.2 a.2.1 (P0 ls a.1).length∧1<a.2.1) (0,6,none) (by simp[SubS,SubE,SubB,Env.get,SMem.get,Z8,A6,outB,P0]) (by simp[Zad,P0]) ?_
 rintro⟨i,q,ob⟩ ⟨hi,hob,hq1⟩;simp only at hi hob hq1 ⊢;have hal:=Z5v (ls:=ls) i;by_cases hlt:i<ls.length
 ·have hrow:=hR.row i hlt;obtain⟨hil,hrow2⟩:=gS.1 hrow;have hw1:IntKind.i64.wrap ((i:Int)+1)=(i:Int)+1:=Z6 (by omega) (by omega)
  by_cases hk:(at' ls i).k=1
  ·have hax:P0 ls (i+1)=ins ls i (P0 ls i):=by simp[P0,isP,hk]
   have hin:∀ y,y∈P0 ls i→y<i:=fun y hy=>Yb1 hy
   have hinl:(ins ls i (P0 ls i)).length=(P0 ls i).length+1:=(Zmv ls i _).length_eq;generalize P0 ls i=l at *;have hnl:(Z0 l).length=l.length:=Zwk l;have hall:(Z0 l).all (fun r=>r.length == 1)=true:=by simp[Z0]
   cases ob with
   | none=>
    simp only[Zad,List.length_eq_zero_iff]at hob;subst hob;simp[F5,F3,G5,F4,F9,F8,F1,G9,P1,P3,Q7,P6,Q9,P4,G7,F0,V2,evE,Env.get,Y4,W9,stepD,SMem.at,SMem.app,SMem.get,Z8,AVal.cells,AVal.one,R4,T6,Q1,U9,V1,X6,V4,unA,eqA,R5,U8,J0,X9,aundef,A6,outB,hlen,hlt,hrow,hrow2,rowL,hk];refine Zav (α:=Nat) (fun a=>[(5,.int .i64 0),(4,.int .i64 i),(3,.nilSl),(1,.ptr 1 0 0)]) (fun a=>⟨[(1,.cells 2 [[.int .i64 f,.imm rows]])],a⟩)
     (fun a=>0) (fun a=>1<a) (q+13) (by simp[SubS,SubE,SubB,Env.get,SMem.get,Z8]) (by omega) ?_
    intro q2 hq2;simp[F5,F3,G5,F4,F9,F8,F1,G9,P1,P3,Q7,P6,Q9,P4,G7,F0,V2,evE,Env.get,Y4,W9,stepD,SMem.at,SMem.app,SMem.get,Z8,AVal.cells,AVal.one,R4,T6,Q1,U9,V1,X6,V4,unA,eqA,R5,U8,J0,X9,aundef,Zbr,Zb6,S3,FT.indep,O8,Q8,K1,J2,in1,V9,V8,Y8,I6,Zaa,P9,R2,P7,M8,R6,X4];exact⟨(i+1,q2+100,some (q2+20+6)),by simp; omega,by simp[hax,ins,Zad]<;>omega,by simp[SubS,SubE,SubB,Env.get,SMem.get,Z8,A6,outB,hax,ins,hw1]<;>omega⟩
   | some b=>
    simp only[Zad]at hob;have hb1:¬b=1:=by omega
    have hb1':¬1=b:=by omega
    simp[F5,F3,G5,F4,F9,F8,F1,G9,P1,P3,Q7,P6,Q9,P4,G7,F0,V2,evE,Env.get,Y4,W9,stepD,SMem.at,SMem.app,SMem.get,Z8,AVal.cells,AVal.one,R4,T6,Q1,U9,V1,X6,V4,unA,eqA,R5,U8,J0,X9,aundef,A6,outB,hlen,hlt,hrow,hrow2,rowL,hk];refine Zav (α:=Nat×Nat) (fun a=>[(5,.int .i64 a.1),(4,.int .i64 i),(3,.sl b 0 l.length),(1,.ptr 1 0 0)]) (fun a=>⟨[(1,.cells 2 [[.int .i64 f,.imm rows]]),(b,.cells 1 (Z0 l))],a.2⟩)
     (fun a=>l.length - a.1) (fun a=>a.1≤l.length∧q≤a.2 ∧ ∀ j y,j<a.1→l[j]? = some y→U0 (at' ls y) (at' ls i)=true) (0,q+13) (by simp[SubS,SubE,SubB,Env.get,SMem.get,Z8,hb1]) (by simp) ?_
    rintro⟨k,q2⟩ ⟨hkl,hq2,hpre⟩;simp only at hkl hq2 hpre ⊢;have hwk:IntKind.i64.wrap ((k:Int)+1)=(k:Int)+1:=Z6 (by omega) (by omega)
    by_cases hkl2:k<l.length
    ·have hy:l[k]? = some l[k]:=gE hkl2;have hny:(Z0 l)[k]? = some [AVal.int .i64 (l[k]:Int)]:=by rw[Z0,List.getElem?_map,hy]; rfl
     obtain⟨hnil,hny2⟩:=gS.1 hny;have hyi:=hin _ (List.getElem_mem hkl2);generalize l[k]=y at *;have hrowy:=hR.row y (by omega)
     obtain⟨hily,hrowy2⟩:=gS.1 hrowy;have h66:=c66 (at' ls y) (at' ls i);simp[F5,F3,G5,F4,F9,F8,F1,G9,P1,P3,Q7,P6,Q9,P4,G7,F0,V2,evE,Env.get,Y4,W9,stepD,SMem.at,SMem.app,SMem.get,Z8,AVal.cells,AVal.one,R4,T6,Q1,U9,V1,X6,V4,unA,eqA,R5,U8,J0,X9,aundef,Zbr,Zb6,S3,FT.indep,O8,Q8,K1,J2,in1,V9,V8,Y8,hkl2,hny,hny2,hrow,hrow2,hrowy,hrowy2,rowL,hb1,hb1'];refine⟨_,h66.x _ _ _,?_⟩;cases hkey:U0 (at' ls y) (at' ls i)with
     | true=>
      simp[F5,F3,G5,F4,F9,F8,F1,G9,P1,P3,Q7,P6,Q9,P4,G7,F0,V2,evE,Env.get,Y4,W9,stepD,SMem.at,SMem.app,SMem.get,Z8,AVal.cells,AVal.one,R4,T6,Q1,U9,V1,X6,V4,unA,eqA,R5,U8,J0,X9,aundef,Zbr,Zb6,S3,FT.indep,O8,Q8,K1,J2,in1,V9,V8,Y8,hwk];exact⟨(k+1,q2+100),by simp; omega,⟨by simp; omega,by simp; omega,fun j z hj hz=>by
       simp only at hj;by_cases hjk:j=k
       ·subst hjk; rw[hy]at hz; injection hz with hz; subst hz; exact hkey
       ·exact hpre j z (by omega) hz⟩,by simp[SubS,SubE,SubB,Env.get,SMem.get,Z8,hb1,hb1']<;>omega⟩
     | false=>
      have hins:=Zn2 ls i l k hkl hpre (fun z hz=>by rw[hy]at hz; injection hz with hz; subst hz; exact hkey)
      simp[F5,F3,G5,F4,F9,F8,F1,G9,P1,P3,Q7,P6,Q9,P4,G7,F0,V2,evE,Env.get,Y4,W9,stepD,SMem.at,SMem.app,SMem.get,Z8,AVal.cells,AVal.one,R4,T6,Q1,U9,V1,X6,V4,unA,eqA,R5,U8,J0,X9,aundef];obtain⟨A,hA⟩:∃ A,(Z0 l).take k=A:=⟨_,rfl⟩
      obtain⟨B,hB⟩:∃ B,(Z0 l).drop k=B:=⟨_,rfl⟩
      have hAl:A.length=k:=by rw[← hA,List.length_take]; omega
      have hBl:B.length=l.length - k:=by rw[← hB,List.length_drop,hnl]
      have hAB:Z0 (ins ls i l)=A++[AVal.int .i64 i] :: B:=by rw[hins,← hA,← hB]; simp[Z0]
      have hA1:A.take k=A:=List.take_of_length_le (by omega)
      have hB1:B.take (l.length - k)=B:=List.take_of_length_le (by omega)
      have hkr:k≤1048576:=by omega
      have hkr1:k+1≤1048576:=by omega
      have hbr1:1+(l.length - k)≤1048576:=by omega
      have hbr2:k+1+(l.length - k)≤1048576:=by omega
      have hq0:∀ i,¬b=q2+20+i:=fun i=>by omega
      have hq0':∀ i,¬q2+20+i=b:=fun i=>by omega
      have hq00:∀ i,¬q2+20+i=1:=fun i=>by omega
      have hq00':∀ i,¬1=q2+20+i:=fun i=>by omega
      have hk1:¬(k+1≤k):=by omega
      have hlk:k+1+(l.length - k)=l.length+1:=by omega
      have hB0:¬B=[]:=by intro e; subst e; simp at hBl; omega
      rcases Nat.eq_zero_or_pos k with hk0|hk0
      ·subst hk0;have hA0:A=[]:=List.length_eq_zero_iff.1 hAl;subst hA0;simp at hB;simp only[Nat.sub_zero,Nat.zero_add]at *;have hn1:¬(1+l.length≤1):=by omega
       simp[F5,F3,G5,F4,F9,F8,F1,G9,P1,P3,Q7,P6,Q9,P4,G7,F0,V2,evE,Env.get,Y4,W9,stepD,SMem.at,SMem.app,SMem.get,Z8,AVal.cells,AVal.one,R4,T6,Q1,U9,V1,X6,V4,unA,eqA,R5,U8,J0,X9,aundef,Zbr,Zb6,S3,FT.indep,O8,Q8,K1,J2,in1,V9,V8,Y8,I6,Zaa,P9,R2,P7,M8,R6,X4,hb1,hb1',hkl,hnl,hB,hBl,hB1,hB0,hbr1,hn1,hq0,hq0',hq00];exact⟨(i+1,q2+100,some (q2+20+10)),by simp; omega,by simp[hax,hinl,Zad]; omega,by simp[SubS,SubE,SubB,Env.get,SMem.get,Z8,A6,outB,hax,hinl,hAB,hw1,hlk,hq00']<;>omega⟩
      ·have hn1:¬(l.length≤k):=by omega
       have hn3:l.length≤1048575:=by omega
       have hA2:(A++[[AVal.int .i64 (i:Int)]]).take (k+1)=A++[[AVal.int .i64 (i:Int)]]:=List.take_of_length_le (by simp[hAl])
       have hA0:¬A=[]:=by intro e; subst e; simp at hAl; omega
       simp[F5,F3,G5,F4,F9,F8,F1,G9,P1,P3,Q7,P6,Q9,P4,G7,F0,V2,evE,Env.get,Y4,W9,stepD,SMem.at,SMem.app,SMem.get,Z8,AVal.cells,AVal.one,R4,T6,Q1,U9,V1,X6,V4,unA,eqA,R5,U8,J0,X9,aundef,Zbr,Zb6,S3,FT.indep,O8,Q8,K1,J2,in1,V9,V8,Y8,I6,Zaa,P9,R2,P7,M8,R6,X4,hb1,hb1',hkl,hnl,hA,hB,hAl,hBl,hA1,hB1,hA0,hB0,hkr,hkr1,hbr2,hk1,hn1,hn3,hA2,hlk,hq0,hq0',hq00];exact⟨(i+1,q2+100,some (q2+20+10)),by simp; omega,by simp[hax,hinl,Zad]; omega,by simp[SubS,SubE,SubB,Env.get,SMem.get,Z8,A6,outB,hax,hinl,hAB,hw1,hlk,hq00']<;>omega⟩
    ·have he:k=l.length:=by omega
     have hins:=Zn2 ls i l k hkl hpre (fun z hz=>by rw[List.getElem?_eq_none (by omega)]at hz; cases hz)
     have hkl3:¬k<l.length:=hkl2;simp[F5,F3,G5,F4,F9,F8,F1,G9,P1,P3,Q7,P6,Q9,P4,G7,F0,V2,evE,Env.get,Y4,W9,stepD,SMem.at,SMem.app,SMem.get,Z8,AVal.cells,AVal.one,R4,T6,Q1,U9,V1,X6,V4,unA,eqA,R5,U8,J0,X9,aundef,Zbr,Zb6,S3,FT.indep,O8,Q8,K1,J2,in1,V9,V8,Y8,hkl3];obtain⟨A,hA⟩:∃ A,(Z0 l).take k=A:=⟨_,rfl⟩
     obtain⟨B,hB⟩:∃ B,(Z0 l).drop k=B:=⟨_,rfl⟩
     have hAl:A.length=k:=by rw[← hA,List.length_take]; omega
     have hBl:B.length=l.length - k:=by rw[← hB,List.length_drop,hnl]
     have hAB:Z0 (ins ls i l)=A++[AVal.int .i64 i] :: B:=by rw[hins,← hA,← hB]; simp[Z0]
     have hA1:A.take k=A:=List.take_of_length_le (by omega)
     have hB1:B.take (l.length - k)=B:=List.take_of_length_le (by omega)
     have hkr:k≤1048576:=by omega
     have hkr1:k+1≤1048576:=by omega
     have hbr1:1+(l.length - k)≤1048576:=by omega
     have hbr2:k+1+(l.length - k)≤1048576:=by omega
     have hq0:∀ i,¬b=q2+20+i:=fun i=>by omega
     have hq0':∀ i,¬q2+20+i=b:=fun i=>by omega
     have hq00:∀ i,¬q2+20+i=1:=fun i=>by omega
     have hq00':∀ i,¬1=q2+20+i:=fun i=>by omega
     have hk1:¬(k+1≤k):=by omega
     have hlk:k+1+(l.length - k)=l.length+1:=by omega
     have hB0:B=[]:=List.length_eq_zero_iff.1 (by omega)
     rcases Nat.eq_zero_or_pos k with hk0|hk0
     ·subst hk0;have hl0:l=[]:=List.length_eq_zero_iff.1 he.symm;subst hl0;simp[F5,F3,G5,F4,F9,F8,F1,G9,P1,P3,Q7,P6,Q9,P4,G7,F0,V2,evE,Env.get,Y4,W9,stepD,SMem.at,SMem.app,SMem.get,Z8,AVal.cells,AVal.one,R4,T6,Q1,U9,V1,X6,V4,unA,eqA,R5,U8,J0,X9,aundef,Zbr,Zb6,S3,FT.indep,O8,Q8,K1,J2,in1,V9,V8,Y8,I6,Zaa,P9,R2,P7,M8,R6,X4,hb1,hb1',hq0,hq0',hq00];exact⟨(i+1,q2+100,some (q2+20+6)),by simp; omega,by simp[hax,hinl,ins,Zad]<;>omega,by simp[SubS,SubE,SubB,Env.get,SMem.get,Z8,A6,outB,hax,hinl,ins,hw1,hq00']<;>omega⟩
     ·have hA0:¬A=[]:=by intro e; subst e; simp at hAl; omega
      simp[F5,F3,G5,F4,F9,F8,F1,G9,P1,P3,Q7,P6,Q9,P4,G7,F0,V2,evE,Env.get,Y4,W9,stepD,SMem.at,SMem.app,SMem.get,Z8,AVal.cells,AVal.one,R4,T6,Q1,U9,V1,X6,V4,unA,eqA,R5,U8,J0,X9,aundef,Zbr,Zb6,S3,FT.indep,O8,Q8,K1,J2,in1,V9,V8,Y8,I6,Zaa,P9,R2,P7,M8,R6,X4,hb1,hb1',hkl,hnl,hA,hB,hAl,hBl,hA1,hB1,hA0,hB0,hkr,hkr1,hbr2,hk1,hq0,hq0',hq00];exact⟨(i+1,q2+100,some (q2+20+6)),by simp; omega,by simp[hax,hinl,Zad]; omega,by simp[SubS,SubE,SubB,Env.get,SMem.get,Z8,A6,outB,hax,hinl,hAB,hB0,← he,hw1,hq00']<;>omega⟩
  ·have hax:P0 ls (i+1)=P0 ls i:=by simp[P0,isP,hk]
   cases ob with
   | none=>
    simp[F5,F3,G5,F4,F9,F8,F1,G9,P1,P3,Q7,P6,Q9,P4,G7,F0,V2,evE,Env.get,Y4,W9,stepD,SMem.at,SMem.app,SMem.get,Z8,AVal.cells,AVal.one,R4,T6,Q1,U9,V1,X6,V4,unA,eqA,R5,U8,J0,X9,aundef,A6,outB,hlen,hlt,hrow,hrow2,rowL,hk,hw1];exact⟨(i+1,q+100,none),by simp; omega,⟨by simp<;>omega,by simp only[hax]; exact hob,by simp<;>omega⟩,by simp[SubS,SubE,SubB,Env.get,SMem.get,Z8,A6,outB,hax]<;>omega⟩
   | some b=>
    simp only[Zad]at hob;have hb1:¬1=b:=by omega
    simp[F5,F3,G5,F4,F9,F8,F1,G9,P1,P3,Q7,P6,Q9,P4,G7,F0,V2,evE,Env.get,Y4,W9,stepD,SMem.at,SMem.app,SMem.get,Z8,AVal.cells,AVal.one,R4,T6,Q1,U9,V1,X6,V4,unA,eqA,R5,U8,J0,X9,aundef,A6,outB,hlen,hlt,hrow,hrow2,rowL,hk,hw1];exact⟨(i+1,q+100,some b),by simp; omega,by simp[hax,Zad]; omega,by simp[SubS,SubE,SubB,Env.get,SMem.get,Z8,A6,outB,hax]<;>omega⟩
 ·have he:i=ls.length:=by omega
  subst he;have hpos:0<(P0 ls ls.length).length:=by
   have:=O6 ls;unfold Z2 at this;omega
  cases ob with
  | none=>simp only[Zad]at hob; omega
  | some b=>
   simp only[Zad]at hob;have hb1:¬b=1:=by omega
   simp[F5,F3,G5,F4,F9,F8,F1,G9,P1,P3,Q7,P6,Q9,P4,G7,F0,V2,evE,Env.get,Y4,W9,stepD,SMem.at,SMem.app,SMem.get,Z8,AVal.cells,AVal.one,R4,T6,Q1,U9,V1,X6,V4,unA,eqA,R5,U8,J0,X9,aundef,hlen,A6,outB];exact Z5c (by simp[SMem.mem,SMem.get,Z8,hb1])
end Go.Known
end
