/- Part 16 of the proof: Rb, Lc. -/
import Derived.Test.YtilmpmlkndfbjaaGreatDoorR8
import Derived.Test.YtilmpmlkndfbjaaGreatDoorR15
set_option linter.all false
section
namespace Go.Known
open Go Go.AE Go.Proofs
open Go.Plain
attribute [local simp] Zdk Zcv Zbn Zdb Zb9 Zdz Zcb Zcm Zc7 O6 O3 P8 P7 O1 O5 Zcy Zbm Zdo Zdd Zd5 Zdy Zdf Zdi Zbj Zbv Zdw Zbe Zbz Zbf Zca Zde Zbg Zd2 Zbh Zc5 Zdj Zc4 Zcq Zcr Zbu Zb8 Zd0 Zch Zby Zbq Zcg Zb5 Zcn Zcl Zbp Zck Zdc Zb3 Zcu Zdh Zb0 Zdq Zbs Zc2 Zb4 Zb7 Zdn Zdr Zd1 Zcp Zcd Zb1 Za8 Za3 Zc8 Env.get U1 SMem.at SMem.app SMem.get Z7 S3 AVal.cells AVal.one T7 P0 Zc6 Zbi Zbo Zbc Zda Zcx Zdp Zcz Zbw Zc3 Zdm Zc9 Zdv unA Q7 T0 H5 L4 W8 aundef Zbx Zbr Zce Zbt Zdg P5 Y8 L8 L3 H3 B5 Q9 F4 SubR SubRE SubRB InjK InjA qOf W3 AVal.ren U7 Z6 ABlk.ren
abbrev bls(l:List Bool):List (List AVal):=l.map fun b=>[AVal.bool b]
theorem Z8(q:Nat→Nat)(l:List Nat):Z6 q (Z0 l)=Z0 l:=X6 q _ (Zas l)
theorem Zvr:∀ (l:List Bool),W5 (bls l)=true
 | []=>rfl
 | x :: r=>by simp only[bls,List.map_cons,W5]; exact Zvr r
theorem V0(q:Nat→Nat)(l:List Bool):Z6 q (bls l)=bls l:=X6 q _ (Zvr l)
theorem Zjb(l:List Nat)(i x:Nat):(Z0 l).set i [AVal.int .i64 (x:Int)]=Z0 (l.set i x):=by rw[Z0,Z0,List.map_set]
theorem Zmm(l:List Bool)(i:Nat)(x:Bool):(bls l).set i [AVal.bool x]=bls (l.set i x):=by rw[bls,bls,List.map_set]
theorem Zin(n x:Nat):Z0 (List.replicate n x)=List.replicate n [AVal.int .i64 (x:Int)]:=by simp[Z0]
theorem Zkr(n:Nat)(b:Bool):bls (List.replicate n b)=List.replicate n [AVal.bool b]:=by simp[bls]
theorem Zcw{l:List Nat}{i x:Nat}(h:l[i]? = some x):(Z0 l)[i]? = some [AVal.int .i64 (x:Int)]:=by rw[Z0,List.getElem?_map,h]; rfl
theorem Zga{l:List Bool}{i:Nat}{x:Bool}(h:l[i]? = some x):(bls l)[i]? = some [AVal.bool x]:=by rw[bls,List.getElem?_map,h]; rfl
theorem N9(l:List Nat):(Z0 l).length=l.length:=by rw[Z0,List.length_map]
theorem Y5{α:Type}{l:List α}{i:Nat}{x:α}(h:l[i]? = some x):∃ hi:i<l.length,l[i]=x:=gS.1 h
theorem Z46{ls:List Lt}{i:Nat}(h:i<ls.length):down ls (i+1)=if isP (at' ls i)then !down ls i else down ls i:=by
 unfold down Z3;rw[Zba h];cases isP (at' ls i)with
 | false=>simp
 | true=>
  rw[Bool.eq_iff_iff];simp;omega
abbrev dV1(F n m:Nat)(rows:List (List AVal)):ABlk:=.cells 7 [[.int .i64 (F:Int),.imm rows,.sl 3 0 n,.sl 5 0 m,.sl 4 0 n,.nilMap,.sl 2 0 (F+1)]]
abbrev dR(F:Nat)(ls:List Lt)(rows:List (List AVal)):SMem:=
 ⟨[(1,dV1 F ls.length (Z3 ls) rows),(2,.cells 1 (Z0 (P4 F ls))),(3,.cells 1 (bls (V5 ls.length ls.length (Q2 ls) false))),(4,.cells 1 (Z0 (V5 ls.length ls.length (O0 ls) 0))),(5,.cells 1 (Z0 (K8 ls (Z3 ls) ls.length)))],6⟩
set_option maxRecDepth 100000 in
set_option maxHeartbeats 4000000 in
theorem c133(F:Nat)(ls:List Lt)(h:ls.length≤1000)(hF:F≤1000)(hG:Za2 F ls) :
 Ctr Tryz.prog 142 [.ptr 1 0 0] (dM1 F (ls.map rowL)) fun r m=>(rkF ls (Z3 ls) ls.length=true∧r=.bool true∧m=dR F ls (ls.map rowL))∨(rkF ls (Z3 ls) ls.length=false∧r=.bool false∧m=⟨[],2⟩):=by
 refine Zc0 hm Tryz.func142 Zsk rfl rfl fun K hK=>?_
 have hR:=M9 ls;have t:∀ q,Z6 q (ls.map rowL)=ls.map rowL:=fun q=>X6 q _ (U6 ls)
 have ba:rkF ls (Z3 ls) ls.length=true → ∀ l m,SubR 2 l [(0,.bool true)] (dR F ls (ls.map rowL)) [(0,.bool true)] m→O9 2 K (.bool true) m:=
  fun hr l m hs=>Z9 (hK _ _ (.inl ⟨hr,rfl,rfl⟩)) l hs
 have ah:rkF ls (Z3 ls) ls.length=false → ∀ l m,SubR 2 l [(0,.bool false)] ⟨[],2⟩ [(0,.bool false)] m→O9 2 K (.bool false) m:=
  fun hr l m hs=>Z9 (hK _ _ (.inr ⟨hr,rfl,rfl⟩)) l hs
 clear hK;generalize ls.map rowL=rows at *;have b:=hR.len;have bs:Z3 ls≤ls.length:=Za6;have a4:IntKind.i64.wrap ((F:Int)+1)=((F+1:Nat):Int):=by rw[Z1 (by omega) (by omega)]; rfl
 have aq:F+1≤1048576:=by omega
 have bi:ls.length≤1048576:=by omega
 have e1:List.replicate (F+1) [AVal.int .i64 0]=Z0 (P4 F (ls.take 0)):=by rw[List.take_zero,Z97,Zin]; rfl
 have e2:List.replicate ls.length [AVal.bool false]=bls (V5 ls.length 0 (Q2 ls) false):=by rw[Zq4,Zkr]
 have e3:List.replicate ls.length [AVal.int .i64 0]=Z0 (V5 ls.length 0 (O0 ls) 0):=by rw[Zq4,Zin]; rfl
 simp[-Int.natCast_add,W6,a4,aq,b,bi,e1,e2,e3];refine B0 (α:=Nat) (fun i=>[(50,.int .i64 i),(49,.int .i64 ls.length),(48,.imm rows),(3,.bool (down ls i)),(0,.ptr 1 0 0)])
  (fun i=>⟨[(1,.cells 7 [[.int .i64 (F:Int),.imm rows,.sl 3 0 ls.length,.nilSl,.sl 4 0 ls.length,.nilMap,.sl 2 0 (F+1)]]),(2,.cells 1 (Z0 (P4 F (ls.take i)))),(3,.cells 1 (bls (V5 ls.length i (Q2 ls) false))),(4,.cells 1 (Z0 (V5 ls.length 0 (O0 ls) 0)))],5⟩)
  (fun i=>ls.length - i) (fun i=>i≤ls.length) 0 [(2,10),(3,21),(4,32)] (by simp[t,Z8,V0,down,Z3,Z5]) (by simp) ?_
 intro i hi N H
 try simp only at hi H ⊢
 by_cases a:i<ls.length
 ·have e:=hR.row i a;obtain⟨_,c⟩:=Y5 e;have A:IntKind.i64.wrap ((i:Int)+1)=(i:Int)+1:=Z1 (by omega) (by omega)
  have O:ls.take (i+1)=ls.take i++[at' ls i]:=by
   rw[List.take_add_one,at',List.getD,gE a];rfl
  have V:=Z46 a;by_cases J:(at' ls i).k=1
  ·have s:isP (at' ls i)=true:=by simp[isP,J]
   obtain⟨bg,bh⟩:=hG _ (K2 a) s;obtain⟨G,I⟩:∃ G:Nat,(at' ls i).g=(G:Nat):=⟨(at' ls i).g.toNat,by omega⟩
   have w:G≤F:=by omega
   have o:G<F+1:=by omega
   have M:=Zcw (Zhb (ls:=ls.take i) w);have U:=Z2w (F:=F) (ls:=ls.take i) s I w;have bq:inG G (ls.take i)≤i:=Zcf i;have bn:IntKind.i64.wrap ((inG G (ls.take i):Nat)+1:Int)=((inG G (ls.take i)+1:Nat):Int):=by rw[Z1 (by omega) (by omega)]; rfl
   have am:=Zjb (P4 F (ls.take i)) G (inG G (ls.take i)+1);rw[U,← O]at am;have z:(Z0 (P4 F (ls.take i))).length=F+1:=by rw[N9,Zf4]
   have bc:Q2 ls i=down ls i:=by simp[Q2,s]
   have an:=Zmm (V5 ls.length i (Q2 ls) false) i (Q2 ls i);rw[Zqg a,bc]at an;have af:=Zga (Zel (i:=i) (v:=Q2 ls) (d:=false) a);have bb:(bls (V5 ls.length i (Q2 ls) false)).length=ls.length:=by rw[bls,List.length_map,Zb2]
   rw[if_pos s]at V;simp only[Nat.lt_irrefl,if_false]at af;generalize Z0 (P4 F (ls.take i))=C at *;generalize bls (V5 ls.length i (Q2 ls) false)=D at *;obtain⟨_,y⟩:=Y5 M;obtain⟨_,ao⟩:=Y5 af;simp[-Int.natCast_add,b,a,e,c,rowL,J,I,M,y,z,w,o,bn,am,af,ao,bb,an,A];exact H (i+1) [] _ _ (by omega) (by omega) (by simp[t,Z8,V0,V])
  ·have s:isP (at' ls i)=false:=by simp[isP,J]
   have U:=Ya5 (F:=F) (ls:=ls.take i) s;rw[← O]at U;have hD:=Zx6 (n:=ls.length) (i:=i) (v:=Q2 ls) (d:=false) (by simp[Q2,s])
   rw[if_neg (by simp[s])]at V
   simp[-Int.natCast_add,b,a,e,c,rowL,J,A];exact H (i+1) [] _ _ (by omega) (by omega) (by simp[t,Z8,V0,V,U,hD])
 have he:i=ls.length:=by omega
 subst he;clear H;rw[List.take_length];have e4:List.replicate (F+1) [AVal.int .i64 0]=Z0 (V5 (F+1) 0 (tot ls) 0):=by rw[Zq4,Zin]; rfl
 simp[-Int.natCast_add,W6,b,a4,aq,e4];refine B0 (α:=Nat) (fun g=>[(90,.int .i64 g),(89,.int .i64 ((F+1:Nat):Int)),(88,.sl 2 0 (F+1)),(7,.int .i64 (tot ls g:Nat)),(6,.sl 5 0 (F+1)),(0,.ptr 1 0 0)])
  (fun g=>⟨[(1,.cells 7 [[.int .i64 (F:Int),.imm rows,.sl 3 0 ls.length,.nilSl,.sl 4 0 ls.length,.nilMap,.sl 2 0 (F+1)]]),(2,.cells 1 (Z0 (P4 F ls))),(3,.cells 1 (bls (V5 ls.length ls.length (Q2 ls) false))),(4,.cells 1 (Z0 (V5 ls.length 0 (O0 ls) 0))),(5,.cells 1 (Z0 (V5 (F+1) g (tot ls) 0)))],6⟩)
  (fun g=>F+1 - g) (fun g=>g≤F+1) 0 [(5,12)] (by simp[t,Z8,V0,Z41 hG]) (by simp) ?_
 intro g I N H
 try simp only at I H ⊢
 by_cases a:g<F+1
 ·have A:IntKind.i64.wrap ((g:Int)+1)=(g:Int)+1:=Z1 (by omega) (by omega)
  have M:=Zcw (Zhb (ls:=ls) (show g≤F by omega))
  have z:(Z0 (P4 F ls)).length=F+1:=by rw[N9,Zf4]
  have bt:=Zjm ls g;have al:=Zr1 ls (g+1);have bp:IntKind.i64.wrap ((tot ls g:Nat)+(inG g ls:Nat):Int)=((tot ls (g+1):Nat):Int):=by rw[Z1 (by omega) (by omega)]; omega
  have u:=Zcw (Zel (i:=g) (v:=tot ls) (d:=0) a);have ar:=Zjb (V5 (F+1) g (tot ls) 0) g (tot ls g);rw[Zqg a]at ar;have S:(Z0 (V5 (F+1) g (tot ls) 0)).length=F+1:=by rw[N9,Zb2]
  simp only[Nat.lt_irrefl,if_false]at u;generalize Z0 (V5 (F+1) g (tot ls) 0)=T at *;generalize ae:Z0 (P4 F ls)=C at *;obtain⟨_,y⟩:=Y5 M;obtain⟨_,E⟩:=Y5 u;have aj:∀ q,Z6 q C=C:=fun q=>by rw[← ae]; exact Z8 q _
  simp[-Int.natCast_add,a,M,y,z,bp,u,E,ar,S,A];exact H (g+1) [] _ _ (by omega) (by omega) (by simp[t,Z8,V0,aj])
 have he:g=F+1:=by omega
 subst he;clear H;rw[Z2p hG];have bj:Z3 ls≤1048576:=by omega
 have e5:List.replicate (Z3 ls) [AVal.int .i64 0]=Z0 (K8 ls (Z3 ls) 0):=by rw[K8,Zin]; rfl
 have e6:List.replicate (Z3 ls) [AVal.bool false]=bls (K3 ls (Z3 ls) 0):=by rw[K3,Zkr]
 simp[-Int.natCast_add,W6,b,bj,e5,e6];refine B0 (α:=Nat) (fun i=>[(116,.int .i64 i),(115,.int .i64 ls.length),(114,.imm rows),(10,.sl 7 0 (Z3 ls)),(6,.sl 6 0 (F+1)),(0,.ptr 1 0 0)])
  (fun i=>⟨[(1,dV1 F ls.length (Z3 ls) rows),(2,.cells 1 (Z0 (P4 F ls))),(3,.cells 1 (bls (V5 ls.length ls.length (Q2 ls) false))),(4,.cells 1 (Z0 (V5 ls.length i (O0 ls) 0))),(5,.cells 1 (Z0 (K8 ls (Z3 ls) i))),(6,.cells 1 (Z0 (V5 (F+1) (F+1) (tot ls) 0))),(7,.cells 1 (bls (K3 ls (Z3 ls) i)))],8⟩)
  (fun i=>ls.length - i) (fun i=>i≤ls.length∧rkF ls (Z3 ls) i=true) 0 [(6,5),(5,9),(7,14)] (by simp[t,Z8,V0]) (by simp[rkF]) ?_
 rintro i ⟨hi,aa⟩ N H
 try simp only at hi aa H ⊢
 by_cases a:i<ls.length
 ·have e:=hR.row i a;obtain⟨_,c⟩:=Y5 e;have A:IntKind.i64.wrap ((i:Int)+1)=(i:Int)+1:=Z1 (by omega) (by omega)
  by_cases J:(at' ls i).k=1
  ·have s:isP (at' ls i)=true:=by simp[isP,J]
   have a2:=K2 a;obtain⟨bg,bh⟩:=hG _ a2 s;have P:rkF ls (Z3 ls) (i+1)=(decide (1≤(at' ls i).r)&&decide ((at' ls i).r≤(inG (at' ls i).g ls:Nat)) && !(K3 ls (Z3 ls) i).getD (pos ls (at' ls i)) true):=by
    simp[rkF,aa,s]
   have L:rkF ls (Z3 ls) (i+1)=false→rkF ls (Z3 ls) ls.length=false:=fun hb=>by
    cases hq:rkF ls (Z3 ls) ls.length with
    | false=>rfl
    | true=>rw[Ycb (show i+1≤ls.length by omega) hq]at hb; cases hb
   by_cases Z:(at' ls i).r<1
   ·simp[-Int.natCast_add,b,a,e,c,rowL,J,Z];exact ah (L (by rw[P]; simp; omega)) [] _ (by simp)
   obtain⟨G,I⟩:∃ G:Nat,(at' ls i).g=(G:Nat):=⟨(at' ls i).g.toNat,by omega⟩
   have w:G≤F:=by omega
   have o:G<F+1:=by omega
   have M:=Zcw (Zhb (ls:=ls) w);have z:(Z0 (P4 F ls)).length=F+1:=by rw[N9,Zf4]
   by_cases ai:(inG (G:Nat) ls:Nat)<(at' ls i).r
   ·generalize Z0 (P4 F ls)=C at *;obtain⟨_,y⟩:=Y5 M;simp[-Int.natCast_add,b,a,e,c,rowL,J,Z,I,M,y,z,w,o,ai];exact ah (L (by rw[P,I]; simp; omega)) [] _ (by simp)
   have ab:=Zll hG a2 s (by omega) (by rw[I]; omega)
   have bl:=Zlz (ls:=ls) I;have u:=Zcw (Zel (n:=F+1) (i:=F+1) (v:=tot ls) (d:=0) (j:=G) o);rw[if_pos o]at u;have S:(Z0 (V5 (F+1) (F+1) (tot ls) 0)).length=F+1:=by rw[N9,Zb2]
   have a5:IntKind.i64.wrap ((tot ls G:Nat)+(at' ls i).r)=((pos ls (at' ls i)+1:Nat):Int):=by rw[Z1 (by omega) (by omega)]; omega
   have a6:IntKind.i64.wrap (((pos ls (at' ls i)+1:Nat):Int) - 1)=((pos ls (at' ls i):Nat):Int):=by rw[Z1 (by omega) (by omega)]; omega
   have al:=Zn4 ls (Z3 ls) i;have a7:=Zlr ls (Z3 ls) i;obtain⟨tb,ak⟩:∃ tb,(K3 ls (Z3 ls) i)[pos ls (at' ls i)]? = some tb:=⟨_,gE (by omega)⟩
   have a3:(K3 ls (Z3 ls) i).getD (pos ls (at' ls i)) true=tb:=by rw[List.getD,ak]; rfl
   have Q:=Zga ak;have ay:(bls (K3 ls (Z3 ls) i)).length=Z3 ls:=by rw[bls,List.length_map,al]
   have az:=Zmm (K3 ls (Z3 ls) i) (pos ls (at' ls i)) true;have ax:(K3 ls (Z3 ls) i).set (pos ls (at' ls i)) true=K3 ls (Z3 ls) (i+1):=by simp[K3,s]
   rw[ax]at az;have bf:(Z0 (K8 ls (Z3 ls) i)).length=Z3 ls:=by rw[N9,a7]
   have a1:=Zjb (K8 ls (Z3 ls) i) (pos ls (at' ls i)) i;have a0:(K8 ls (Z3 ls) i).set (pos ls (at' ls i)) i=K8 ls (Z3 ls) (i+1):=by simp[K8,s]
   rw[a0]at a1;obtain⟨xv,a8⟩:∃ xv,(K8 ls (Z3 ls) i)[pos ls (at' ls i)]? = some xv:=⟨_,gE (by omega)⟩
   have ad:=Zcw a8;have be:(Z0 (V5 ls.length i (O0 ls) 0)).length=ls.length:=by rw[N9,Zb2]
   have aw:O0 ls i=pos ls (at' ls i):=by simp[O0,s]
   have av:=Zjb (V5 ls.length i (O0 ls) 0) i (O0 ls i);rw[Zqg a,aw]at av;have ag:=Zcw (Zel (i:=i) (v:=O0 ls) (d:=0) a);simp only[Nat.lt_irrefl,if_false]at ag;rw[a3,I]at P;clear bl a7 a8 ak a3 al a0 ax aw;generalize br:pos ls (at' ls i)=p at *;generalize ae:Z0 (P4 F ls)=C at *;generalize bd:Z0 (V5 (F+1) (F+1) (tot ls) 0)=T at *;generalize bls (K3 ls (Z3 ls) i)=B at *;generalize Z0 (K8 ls (Z3 ls) i)=X at *;generalize Z0 (V5 ls.length i (O0 ls) 0)=Y at *;have aj:∀ q,Z6 q C=C:=fun q=>by rw[← ae]; exact Z8 q _
   have bm:∀ q,Z6 q T=T:=fun q=>by rw[← bd]; exact Z8 q _
   obtain⟨_,y⟩:=Y5 M;obtain⟨_,E⟩:=Y5 u;obtain⟨_,ac⟩:=Y5 Q;obtain⟨_,a9⟩:=Y5 ad;obtain⟨_,au⟩:=Y5 ag;cases tb with
   | true=>
    simp[-Int.natCast_add,b,a,e,c,rowL,J,Z,I,M,y,z,w,o,ai,u,E,S,a5,a6,ab,Q,ac,ay];exact ah (L (by rw[P]; simp)) [] _ (by simp)
   | false=>
    simp[-Int.natCast_add,b,a,e,c,rowL,J,Z,I,M,y,z,w,o,ai,u,E,S,a5,a6,ab,Q,ac,ay,az,bf,ad,a9,a1,be,ag,au,av,A];exact H (i+1) [] _ _ (by omega) ⟨by omega,by rw[P]; simp; omega⟩ (by simp[t,Z8,V0,aj,bm])
  ·have s:isP (at' ls i)=false:=by simp[isP,J]
   have hT:K3 ls (Z3 ls) (i+1)=K3 ls (Z3 ls) i:=by simp[K3,s]
   have hX:K8 ls (Z3 ls) (i+1)=K8 ls (Z3 ls) i:=by simp[K8,s]
   have hY:=Zx6 (n:=ls.length) (i:=i) (v:=O0 ls) (d:=0) (by simp[O0,s])
   simp[-Int.natCast_add,b,a,e,c,rowL,J,A];exact H (i+1) [] _ _ (by omega) ⟨by omega,by simp[rkF,aa,s]⟩ (by simp[t,Z8,V0,hT,hX,hY])
 have he:i=ls.length:=by omega
 subst he;simp[-Int.natCast_add,b];exact ba aa [] _ (by simp[t,Z8,V0])
end Go.Known
end
section
namespace Go.Known
open Go Go.AE Go.Proofs
open Go.Plain
def A8(ob:Option Nat)(n:Nat):AVal:=
 match ob with
 | none=>.nilSl
 | some b=>.sl b 0 n
def A4(ob:Option Nat)(k:Nat)(rows:List (List AVal)):List (Nat×ABlk):=
 match ob with
 | none=>[]
 | some b=>[(b,.cells k rows)]
def Zal(ob:Option Nat)(q n:Nat):Prop:=
 match ob with
 | none=>n=0
 | some b=>b<q∧1<b
theorem Zod(ls:List Lt)(i:Nat):∀ (l:List Nat) (k:Nat),k≤l.length→(∀ j y,j<k→l[j]? = some y→U4 (at' ls y) (at' ls i)=true)→(∀ y,l[k]? = some y→U4 (at' ls y) (at' ls i)=false) →
 ins ls i l=l.take k++i :: l.drop k
 | [],k,b,_,_=>by
  have:k=0:=by simpa using b
  subst this; rfl
 | x :: r,0,_,_,a=>by
  simp only[ins];rw[a x rfl];rfl
 | x :: r,k+1,b,d,a=>by
  simp only[ins];rw[if_pos (d 0 x (by omega) rfl),Zod ls i r k (by simpa using b) (fun j y e c=>d (j+1) y (by omega) c) (fun y c=>a y c)]
  rfl
theorem Z1c{ls:List Lt}{k j:Nat}(h:j∈M8 ls k):j<k:=by
 have:=(Zes ls k).mem_iff.1 h;simp only[List.mem_filter,List.mem_range]at this;exact this.1
theorem Z0o{ls:List Lt}(k:Nat):(M8 ls k).length≤k:=by
 rw[(Zes ls k).length_eq];exact Nat.le_trans (List.length_filter_le _ _) (by simp)
theorem Zw1{α:Type}{f:α→Option α}:∀ {l:List α},(∀ x,x∈l→f x=some x)→V4 f l=some l
 | [],_=>rfl
 | x :: r,h=>by
  simp only[V4,h x (List.mem_cons_self ..),Zw1 fun y a=>h y (List.mem_cons_of_mem _ a)]
theorem Yaw{get:Nat→Option ABlk}{b n:Nat}{l:List Nat}(h:get b=some (.cells 1 (Z0 l))):X3 get (n+2) (.sl b 0 l.length)=some (.imm (Z0 l)):=by
 have c:(Z0 l).length=l.length:=by simp[Z0]
 have e:((Z0 l).drop 0).take l.length=Z0 l:=by rw[List.drop_zero,List.take_of_length_le (by omega)]
 rw[X3];simp only[h,e];rw[Zw1 (l:=Z0 l)]
 ·simp[c];rw[Nat.ble_eq_true_of_le (Nat.le_refl _)];rfl
 ·intro row a;simp only[Z0,List.mem_map]at a;obtain⟨x,_,rfl⟩:=a;rfl
theorem Zty(l:List Nat):(Z0 l).length=l.length:=by simp[Z0]
set_option maxRecDepth 100000 in
theorem c39(f:Int)(ls:List Lt)(h:ls.length≤1000)(h0:0<Z3 ls):PCall Tryz.prog 99 [cV f ls] (.imm (Z0 (Z4 ls))):=by
 refine Z55 (n:=2) (by simp[X4,C8]) (by simp only[AVal.closed,Zas]) (B6 hm Tryz.func99 cf39 (Nat.le_of_ble_eq_true rfl) ?_)
 have hR:=M9 ls;unfold cV;generalize ls.map rowL=rows at hR;have u:=hR.len;simp[af39,E8,E3,F9,F8,E4,E5,F5,D1,O6,O3,P8,P7,O1,O5,E9,E7,U0,evE,Env.get,Y3,U1,stepD,SMem.at,SMem.app,SMem.get,Z7,AVal.cells,AVal.one,Q5,T7,P0,W2,U5,W7,V6,unA,eqA,Q7,T0,I6,W8,aundef];refine Zar (α:=Nat×Nat×Option Nat) (fun a=>[(4,.int .i64 a.1),(3,A8 a.2.2 (M8 ls a.1).length),(1,.ptr 1 0 0)]) (fun a=>⟨(1,.cells 2 [[.int .i64 f,.imm rows]]) :: A4 a.2.2 1 (Z0 (M8 ls a.1)),a.2.1⟩)
  (fun a=>ls.length - a.1) (fun a=>a.1≤ls.length∧Zal a.2.2 a.2.1 (M8 ls a.1).length∧1<a.2.1) (0,6,none) (by simp[SubS,SubE,SubB,Env.get,SMem.get,Z7,A8,A4,M8]) (by simp[Zal,M8]) ?_
 rintro⟨i,q,ob⟩ ⟨hi,v,av⟩;simp only at hi v av ⊢;have a1:=Z0o (ls:=ls) i;by_cases Q:i<ls.length
 ·have s:=hR.row i Q;obtain⟨a2,m⟩:=gS.1 s;have E:IntKind.i64.wrap ((i:Int)+1)=(i:Int)+1:=Z1 (by omega) (by omega)
  by_cases hk:(at' ls i).k=1
  ·have c:M8 ls (i+1)=ins ls i (M8 ls i):=by simp[M8,isP,hk]
   have ao:∀ y,y∈M8 ls i→y<i:=fun y hy=>Z1c hy
   have d:(ins ls i (M8 ls i)).length=(M8 ls i).length+1:=(Zlt ls i _).length_eq;generalize M8 ls i=l at *;have S:(Z0 l).length=l.length:=Zty l;have ax:(Z0 l).all (fun r=>r.length == 1)=true:=by simp[Z0]
   cases ob with
   | none=>
    simp only[Zal,List.length_eq_zero_iff]at v;subst v;simp[E8,E3,F9,F8,E4,E5,F5,D1,O6,O3,P8,P7,O1,O5,E9,E7,U0,evE,Env.get,Y3,U1,stepD,SMem.at,SMem.app,SMem.get,Z7,AVal.cells,AVal.one,Q5,T7,P0,W2,U5,W7,V6,unA,eqA,Q7,T0,I6,W8,aundef,A8,A4,u,Q,s,m,rowL,hk];refine Zar (α:=Nat) (fun a=>[(5,.int .i64 0),(4,.int .i64 i),(3,.nilSl),(1,.ptr 1 0 0)]) (fun a=>⟨[(1,.cells 2 [[.int .i64 f,.imm rows]])],a⟩)
     (fun a=>0) (fun a=>1<a) (q+13) (by simp[SubS,SubE,SubB,Env.get,SMem.get,Z7]) (by omega) ?_
    intro t al;simp[E8,E3,F9,F8,E4,E5,F5,D1,O6,O3,P8,P7,O1,O5,E9,E7,U0,evE,Env.get,Y3,U1,stepD,SMem.at,SMem.app,SMem.get,Z7,AVal.cells,AVal.one,Q5,T7,P0,W2,U5,W7,V6,unA,eqA,Q7,T0,I6,W8,aundef,Zdx,Zbk,S7,FT.indep,N4,O4,I0,H4,in1,V7,V8,Y9,J8,Zaf,I7,C3,X5,L4,S3,W6];exact⟨(i+1,t+100,some (t+20+6)),by simp; omega,by simp[c,ins,Zal]<;>omega,by simp[SubS,SubE,SubB,Env.get,SMem.get,Z7,A8,A4,c,ins,E]<;>omega⟩
   | some b=>
    simp only[Zal]at v;have o:¬b=1:=by omega
    have p:¬1=b:=by omega
    simp[E8,E3,F9,F8,E4,E5,F5,D1,O6,O3,P8,P7,O1,O5,E9,E7,U0,evE,Env.get,Y3,U1,stepD,SMem.at,SMem.app,SMem.get,Z7,AVal.cells,AVal.one,Q5,T7,P0,W2,U5,W7,V6,unA,eqA,Q7,T0,I6,W8,aundef,A8,A4,u,Q,s,m,rowL,hk];refine Zar (α:=Nat×Nat) (fun a=>[(5,.int .i64 a.1),(4,.int .i64 i),(3,.sl b 0 l.length),(1,.ptr 1 0 0)]) (fun a=>⟨[(1,.cells 2 [[.int .i64 f,.imm rows]]),(b,.cells 1 (Z0 l))],a.2⟩)
     (fun a=>l.length - a.1) (fun a=>a.1≤l.length∧q≤a.2 ∧ ∀ j y,j<a.1→l[j]? = some y→U4 (at' ls y) (at' ls i)=true) (0,q+13) (by simp[SubS,SubE,SubB,Env.get,SMem.get,Z7,o]) (by simp) ?_
    rintro⟨k,t⟩ ⟨H,al,G⟩;simp only at H al G ⊢;have aw:IntKind.i64.wrap ((k:Int)+1)=(k:Int)+1:=Z1 (by omega) (by omega)
    by_cases F:k<l.length
    ·have hy:l[k]? = some l[k]:=gE F;have aj:(Z0 l)[k]? = some [AVal.int .i64 (l[k]:Int)]:=by rw[Z0,List.getElem?_map,hy]; rfl
     obtain⟨az,ak⟩:=gS.1 aj;have a3:=ao _ (List.getElem_mem F);generalize l[k]=y at *;have V:=hR.row y (by omega)
     obtain⟨ay,ab⟩:=gS.1 V;have am:=c66 (at' ls y) (at' ls i);simp[E8,E3,F9,F8,E4,E5,F5,D1,O6,O3,P8,P7,O1,O5,E9,E7,U0,evE,Env.get,Y3,U1,stepD,SMem.at,SMem.app,SMem.get,Z7,AVal.cells,AVal.one,Q5,T7,P0,W2,U5,W7,V6,unA,eqA,Q7,T0,I6,W8,aundef,Zdx,Zbk,S7,FT.indep,N4,O4,I0,H4,in1,V7,V8,Y9,F,aj,ak,s,m,V,ab,rowL,o,p];refine⟨_,am.x _ _ _,?_⟩;cases ad:U4 (at' ls y) (at' ls i)with
     | true=>
      simp[E8,E3,F9,F8,E4,E5,F5,D1,O6,O3,P8,P7,O1,O5,E9,E7,U0,evE,Env.get,Y3,U1,stepD,SMem.at,SMem.app,SMem.get,Z7,AVal.cells,AVal.one,Q5,T7,P0,W2,U5,W7,V6,unA,eqA,Q7,T0,I6,W8,aundef,Zdx,Zbk,S7,FT.indep,N4,O4,I0,H4,in1,V7,V8,Y9,aw];exact⟨(k+1,t+100),by simp; omega,⟨by simp; omega,by simp; omega,fun j z hj I=>by
       simp only at hj;by_cases aq:j=k
       ·subst aq; rw[hy]at I; injection I with I; subst I; exact ad
       ·exact G j z (by omega) I⟩,by simp[SubS,SubE,SubB,Env.get,SMem.get,Z7,o,p]<;>omega⟩
     | false=>
      have N:=Zod ls i l k H G (fun z I=>by rw[hy]at I; injection I with I; subst I; exact ad)
      simp[E8,E3,F9,F8,E4,E5,F5,D1,O6,O3,P8,P7,O1,O5,E9,E7,U0,evE,Env.get,Y3,U1,stepD,SMem.at,SMem.app,SMem.get,Z7,AVal.cells,AVal.one,Q5,T7,P0,W2,U5,W7,V6,unA,eqA,Q7,T0,I6,W8,aundef];obtain⟨A,hA⟩:∃ A,(Z0 l).take k=A:=⟨_,rfl⟩
      obtain⟨B,Y⟩:∃ B,(Z0 l).drop k=B:=⟨_,rfl⟩
      have D:A.length=k:=by rw[← hA,List.length_take]; omega
      have L:B.length=l.length - k:=by rw[← Y,List.length_drop,S]
      have X:Z0 (ins ls i l)=A++[AVal.int .i64 i] :: B:=by rw[N,← hA,← Y]; simp[Z0]
      have ae:A.take k=A:=List.take_of_length_le (by omega)
      have Z:B.take (l.length - k)=B:=List.take_of_length_le (by omega)
      have ag:k≤1048576:=by omega
      have P:k+1≤1048576:=by omega
      have ac:1+(l.length - k)≤1048576:=by omega
      have M:k+1+(l.length - k)≤1048576:=by omega
      have U:∀ i,¬b=t+20+i:=fun i=>by omega
      have w:∀ i,¬t+20+i=b:=fun i=>by omega
      have C:∀ i,¬t+20+i=1:=fun i=>by omega
      have g:∀ i,¬1=t+20+i:=fun i=>by omega
      have af:¬(k+1≤k):=by omega
      have aa:k+1+(l.length - k)=l.length+1:=by omega
      have K:¬B=[]:=by intro e; subst e; simp at L; omega
      rcases Nat.eq_zero_or_pos k with O|O
      ·subst O;have J:A=[]:=List.length_eq_zero_iff.1 D;subst J;simp at Y;simp only[Nat.sub_zero,Nat.zero_add]at *;have ah:¬(1+l.length≤1):=by omega
       simp[E8,E3,F9,F8,E4,E5,F5,D1,O6,O3,P8,P7,O1,O5,E9,E7,U0,evE,Env.get,Y3,U1,stepD,SMem.at,SMem.app,SMem.get,Z7,AVal.cells,AVal.one,Q5,T7,P0,W2,U5,W7,V6,unA,eqA,Q7,T0,I6,W8,aundef,Zdx,Zbk,S7,FT.indep,N4,O4,I0,H4,in1,V7,V8,Y9,J8,Zaf,I7,C3,X5,L4,S3,W6,o,p,H,S,Y,L,Z,K,ac,ah,U,w,C];exact⟨(i+1,t+100,some (t+20+10)),by simp; omega,by simp[c,d,Zal]; omega,by simp[SubS,SubE,SubB,Env.get,SMem.get,Z7,A8,A4,c,d,X,E,aa,g]<;>omega⟩
      ·have ah:¬(l.length≤k):=by omega
       have au:l.length≤1048575:=by omega
       have an:(A++[[AVal.int .i64 (i:Int)]]).take (k+1)=A++[[AVal.int .i64 (i:Int)]]:=List.take_of_length_le (by simp[D])
       have J:¬A=[]:=by intro e; subst e; simp at D; omega
       simp[E8,E3,F9,F8,E4,E5,F5,D1,O6,O3,P8,P7,O1,O5,E9,E7,U0,evE,Env.get,Y3,U1,stepD,SMem.at,SMem.app,SMem.get,Z7,AVal.cells,AVal.one,Q5,T7,P0,W2,U5,W7,V6,unA,eqA,Q7,T0,I6,W8,aundef,Zdx,Zbk,S7,FT.indep,N4,O4,I0,H4,in1,V7,V8,Y9,J8,Zaf,I7,C3,X5,L4,S3,W6,o,p,H,S,hA,Y,D,L,ae,Z,J,K,ag,P,M,af,ah,au,an,aa,U,w,C];exact⟨(i+1,t+100,some (t+20+10)),by simp; omega,by simp[c,d,Zal]; omega,by simp[SubS,SubE,SubB,Env.get,SMem.get,Z7,A8,A4,c,d,X,E,aa,g]<;>omega⟩
    ·have he:k=l.length:=by omega
     have N:=Zod ls i l k H G (fun z I=>by rw[List.getElem?_eq_none (by omega)]at I; cases I)
     have ai:¬k<l.length:=F;simp[E8,E3,F9,F8,E4,E5,F5,D1,O6,O3,P8,P7,O1,O5,E9,E7,U0,evE,Env.get,Y3,U1,stepD,SMem.at,SMem.app,SMem.get,Z7,AVal.cells,AVal.one,Q5,T7,P0,W2,U5,W7,V6,unA,eqA,Q7,T0,I6,W8,aundef,Zdx,Zbk,S7,FT.indep,N4,O4,I0,H4,in1,V7,V8,Y9,ai];obtain⟨A,hA⟩:∃ A,(Z0 l).take k=A:=⟨_,rfl⟩
     obtain⟨B,Y⟩:∃ B,(Z0 l).drop k=B:=⟨_,rfl⟩
     have D:A.length=k:=by rw[← hA,List.length_take]; omega
     have L:B.length=l.length - k:=by rw[← Y,List.length_drop,S]
     have X:Z0 (ins ls i l)=A++[AVal.int .i64 i] :: B:=by rw[N,← hA,← Y]; simp[Z0]
     have ae:A.take k=A:=List.take_of_length_le (by omega)
     have Z:B.take (l.length - k)=B:=List.take_of_length_le (by omega)
     have ag:k≤1048576:=by omega
     have P:k+1≤1048576:=by omega
     have ac:1+(l.length - k)≤1048576:=by omega
     have M:k+1+(l.length - k)≤1048576:=by omega
     have U:∀ i,¬b=t+20+i:=fun i=>by omega
     have w:∀ i,¬t+20+i=b:=fun i=>by omega
     have C:∀ i,¬t+20+i=1:=fun i=>by omega
     have g:∀ i,¬1=t+20+i:=fun i=>by omega
     have af:¬(k+1≤k):=by omega
     have aa:k+1+(l.length - k)=l.length+1:=by omega
     have K:B=[]:=List.length_eq_zero_iff.1 (by omega)
     rcases Nat.eq_zero_or_pos k with O|O
     ·subst O;have ar:l=[]:=List.length_eq_zero_iff.1 he.symm;subst ar;simp[E8,E3,F9,F8,E4,E5,F5,D1,O6,O3,P8,P7,O1,O5,E9,E7,U0,evE,Env.get,Y3,U1,stepD,SMem.at,SMem.app,SMem.get,Z7,AVal.cells,AVal.one,Q5,T7,P0,W2,U5,W7,V6,unA,eqA,Q7,T0,I6,W8,aundef,Zdx,Zbk,S7,FT.indep,N4,O4,I0,H4,in1,V7,V8,Y9,J8,Zaf,I7,C3,X5,L4,S3,W6,o,p,U,w,C];exact⟨(i+1,t+100,some (t+20+6)),by simp; omega,by simp[c,d,ins,Zal]<;>omega,by simp[SubS,SubE,SubB,Env.get,SMem.get,Z7,A8,A4,c,d,ins,E,g]<;>omega⟩
     ·have J:¬A=[]:=by intro e; subst e; simp at D; omega
      simp[E8,E3,F9,F8,E4,E5,F5,D1,O6,O3,P8,P7,O1,O5,E9,E7,U0,evE,Env.get,Y3,U1,stepD,SMem.at,SMem.app,SMem.get,Z7,AVal.cells,AVal.one,Q5,T7,P0,W2,U5,W7,V6,unA,eqA,Q7,T0,I6,W8,aundef,Zdx,Zbk,S7,FT.indep,N4,O4,I0,H4,in1,V7,V8,Y9,J8,Zaf,I7,C3,X5,L4,S3,W6,o,p,H,S,hA,Y,D,L,ae,Z,J,K,ag,P,M,af,U,w,C];exact⟨(i+1,t+100,some (t+20+6)),by simp; omega,by simp[c,d,Zal]; omega,by simp[SubS,SubE,SubB,Env.get,SMem.get,Z7,A8,A4,c,d,X,K,← he,E,g]<;>omega⟩
  ·have c:M8 ls (i+1)=M8 ls i:=by simp[M8,isP,hk]
   cases ob with
   | none=>
    simp[E8,E3,F9,F8,E4,E5,F5,D1,O6,O3,P8,P7,O1,O5,E9,E7,U0,evE,Env.get,Y3,U1,stepD,SMem.at,SMem.app,SMem.get,Z7,AVal.cells,AVal.one,Q5,T7,P0,W2,U5,W7,V6,unA,eqA,Q7,T0,I6,W8,aundef,A8,A4,u,Q,s,m,rowL,hk,E];exact⟨(i+1,q+100,none),by simp; omega,⟨by simp<;>omega,by simp only[c]; exact v,by simp<;>omega⟩,by simp[SubS,SubE,SubB,Env.get,SMem.get,Z7,A8,A4,c]<;>omega⟩
   | some b=>
    simp only[Zal]at v;have o:¬1=b:=by omega
    simp[E8,E3,F9,F8,E4,E5,F5,D1,O6,O3,P8,P7,O1,O5,E9,E7,U0,evE,Env.get,Y3,U1,stepD,SMem.at,SMem.app,SMem.get,Z7,AVal.cells,AVal.one,Q5,T7,P0,W2,U5,W7,V6,unA,eqA,Q7,T0,I6,W8,aundef,A8,A4,u,Q,s,m,rowL,hk,E];exact⟨(i+1,q+100,some b),by simp; omega,by simp[c,Zal]; omega,by simp[SubS,SubE,SubB,Env.get,SMem.get,Z7,A8,A4,c]<;>omega⟩
 ·have he:i=ls.length:=by omega
  subst he;have a0:0<(M8 ls ls.length).length:=by
   have:=H6 ls;unfold Z4 at this;omega
  cases ob with
  | none=>simp only[Zal]at v; omega
  | some b=>
   simp only[Zal]at v;have o:¬b=1:=by omega
   simp[E8,E3,F9,F8,E4,E5,F5,D1,O6,O3,P8,P7,O1,O5,E9,E7,U0,evE,Env.get,Y3,U1,stepD,SMem.at,SMem.app,SMem.get,Z7,AVal.cells,AVal.one,Q5,T7,P0,W2,U5,W7,V6,unA,eqA,Q7,T0,I6,W8,aundef,u,A8,A4];exact Yaw (by simp[SMem.mem,SMem.get,Z7,o])
end Go.Known
end
