/- Part 17 of the proof: Rb, Lc. -/
import Derived.Test.YtilmpmlkndfbjaaGreatDoorI8
import Derived.Test.YtilmpmlkndfbjaaGreatDoorI16
set_option linter.all false
section
namespace Go.Known
open Go Go.AE Go.Proofs
open Go.Plain
attribute [local simp] Zb1 Zcg Zb5 Zc7 Zdf Zd8 Zen Zbx Zcz O4 P9 P7 O0 P6 P8 Zd0 Zbw Zb6 Zco Zeg Zbo Zc3 Zc0 Zdx Zbv Zem Zb8 Zd9 Zcl Zej Zbz Zcs Zdy Zec Zch Zck Zbu Zdd Zc8 Zb7 Zcw Zbt Zds Zdj Zdt Zc9 Zeb Zea Zcv Zcu Zby Zdz Zee Zc1 Zd4 Zcr Zeh Zek Zb0 Zel Zdq Zcn Zcx Zdo Zdg Zcj Zdp Zbj Zc6 Zc5 Env.get V2 SMem.at SMem.app SMem.get Z9 Q5 AVal.cells AVal.one T9 Q8 Zd5 Zda Zei Zcq Zdk Zd7 Zcf Zb2 Zdl Zbq Zcp Zdm Zde unA R8 U8 G5 L4 W4 aundef Zdw Zct Zc4 Zb9 Zbs P3 V8 L5 L1 M8 G6 S3 H7 SubR SubRE SubRB InjK InjA qOf Zat AVal.ren Q4 Z4 ABlk.ren
abbrev bls(l:List Bool):List (List AVal):=l.map fun b=>[AVal.bool b]
theorem Z6(q:Nat→Nat)(l:List Nat):Z4 q (Z2 l)=Z2 l:=X1 q _ (D5 l)
theorem Zvd:∀ (l:List Bool),V3 (bls l)=true
 | []=>rfl
 | x :: r=>by simp only[bls,List.map_cons,V3]; exact Zvd r
theorem W3(q:Nat→Nat)(l:List Bool):Z4 q (bls l)=bls l:=X1 q _ (Zvd l)
theorem Zg9(l:List Nat)(i x:Nat):(Z2 l).set i [AVal.int .i64 (x:Int)]=Z2 (l.set i x):=by rw[Z2,Z2,List.map_set]
theorem Znq(l:List Bool)(i:Nat)(x:Bool):(bls l).set i [AVal.bool x]=bls (l.set i x):=by rw[bls,bls,List.map_set]
theorem Zks(n x:Nat):Z2 (List.replicate n x)=List.replicate n [AVal.int .i64 (x:Int)]:=by simp[Z2]
theorem Zm9(n:Nat)(b:Bool):bls (List.replicate n b)=List.replicate n [AVal.bool b]:=by simp[bls]
theorem B4{l:List Nat}{i x:Nat}(h:l[i]? = some x):(Z2 l)[i]? = some [AVal.int .i64 (x:Int)]:=by rw[Z2,List.getElem?_map,h]; rfl
theorem Ze0{l:List Bool}{i:Nat}{x:Bool}(h:l[i]? = some x):(bls l)[i]? = some [AVal.bool x]:=by rw[bls,List.getElem?_map,h]; rfl
theorem L6(l:List Nat):(Z2 l).length=l.length:=by rw[Z2,List.length_map]
theorem X5{α:Type}{l:List α}{i:Nat}{x:α}(h:l[i]? = some x):∃ hi:i<l.length,l[i]=x:=gS.1 h
theorem Zo8{ls:List Lt}{i:Nat}(h:i<ls.length):down ls (i+1)=if isP (at' ls i)then !down ls i else down ls i:=by
 unfold down Z0;rw[Zai h];cases isP (at' ls i)with
 | false=>simp
 | true=>
  rw[Bool.eq_iff_iff];simp;omega
abbrev dV1(F n m:Nat)(rows:List (List AVal)):ABlk:=.cells 7 [[.int .i64 (F:Int),.imm rows,.sl 3 0 n,.sl 5 0 m,.sl 4 0 n,.nilMap,.sl 2 0 (F+1)]]
abbrev dR(F:Nat)(ls:List Lt)(rows:List (List AVal)):SMem:=
 ⟨[(1,dV1 F ls.length (Z0 ls) rows),(2,.cells 1 (Z2 (R5 F ls))),(3,.cells 1 (bls (X8 ls.length ls.length (V6 ls) false))),(4,.cells 1 (Z2 (X8 ls.length ls.length (R6 ls) 0))),(5,.cells 1 (Z2 (K7 ls (Z0 ls) ls.length)))],6⟩
set_option maxRecDepth 100000 in
set_option maxHeartbeats 4000000 in
theorem c133(F:Nat)(ls:List Lt)(h:ls.length≤1000)(hF:F≤1000)(hG:Zbe F ls) :
 Ctr Tryz.prog 142 [.ptr 1 0 0] (dM1 F (ls.map rowL)) fun r m=>(rkF ls (Z0 ls) ls.length=true∧r=.bool true∧m=dR F ls (ls.map rowL))∨(rkF ls (Z0 ls) ls.length=false∧r=.bool false∧m=⟨[],2⟩):=by
 refine E7 hm Tryz.func142 Zyw rfl rfl fun K hK=>?_
 have hR:=L0 ls;have t:∀ q,Z4 q (ls.map rowL)=ls.map rowL:=fun q=>X1 q _ (Y5 ls)
 have ba:rkF ls (Z0 ls) ls.length=true → ∀ l m,SubR 2 l [(0,.bool true)] (dR F ls (ls.map rowL)) [(0,.bool true)] m→S4 2 K (.bool true) m:=
  fun hr l m hs=>Y1 (hK _ _ (.inl ⟨hr,rfl,rfl⟩)) l hs
 have ah:rkF ls (Z0 ls) ls.length=false → ∀ l m,SubR 2 l [(0,.bool false)] ⟨[],2⟩ [(0,.bool false)] m→S4 2 K (.bool false) m:=
  fun hr l m hs=>Y1 (hK _ _ (.inr ⟨hr,rfl,rfl⟩)) l hs
 clear hK;generalize ls.map rowL=rows at *;have b:=hR.len;have bs:Z0 ls≤ls.length:=D2;have a4:IntKind.i64.wrap ((F:Int)+1)=((F+1:Nat):Int):=by rw[Z5 (by omega) (by omega)]; rfl
 have aq:F+1≤1048576:=by omega
 have bi:ls.length≤1048576:=by omega
 have e1:List.replicate (F+1) [AVal.int .i64 0]=Z2 (R5 F (ls.take 0)):=by rw[List.take_zero,Yag,Zks]; rfl
 have e2:List.replicate ls.length [AVal.bool false]=bls (X8 ls.length 0 (V6 ls) false):=by rw[Zoh,Zm9]
 have e3:List.replicate ls.length [AVal.int .i64 0]=Z2 (X8 ls.length 0 (R6 ls) 0):=by rw[Zoh,Zks]; rfl
 simp[-Int.natCast_add,X6,a4,aq,b,bi,e1,e2,e3];refine Q7 (α:=Nat) (fun i=>[(50,.int .i64 i),(49,.int .i64 ls.length),(48,.imm rows),(3,.bool (down ls i)),(0,.ptr 1 0 0)])
  (fun i=>⟨[(1,.cells 7 [[.int .i64 (F:Int),.imm rows,.sl 3 0 ls.length,.nilSl,.sl 4 0 ls.length,.nilMap,.sl 2 0 (F+1)]]),(2,.cells 1 (Z2 (R5 F (ls.take i)))),(3,.cells 1 (bls (X8 ls.length i (V6 ls) false))),(4,.cells 1 (Z2 (X8 ls.length 0 (R6 ls) 0)))],5⟩)
  (fun i=>ls.length - i) (fun i=>i≤ls.length) 0 [(2,10),(3,21),(4,32)] (by simp[t,Z6,W3,down,Z0,Z3]) (by simp) ?_
 intro i hi N H
 try simp only at hi H ⊢
 by_cases a:i<ls.length
 ·have e:=hR.row i a;obtain⟨_,c⟩:=X5 e;have A:IntKind.i64.wrap ((i:Int)+1)=(i:Int)+1:=Z5 (by omega) (by omega)
  have O:ls.take (i+1)=ls.take i++[at' ls i]:=by
   rw[List.take_add_one,at',List.getD,gE a];rfl
  have V:=Zo8 a;by_cases J:(at' ls i).k=1
  ·have s:isP (at' ls i)=true:=by simp[isP,J]
   obtain⟨bg,bh⟩:=hG _ (S1 a) s;obtain⟨G,I⟩:∃ G:Nat,(at' ls i).g=(G:Nat):=⟨(at' ls i).g.toNat,by omega⟩
   have w:G≤F:=by omega
   have o:G<F+1:=by omega
   have M:=B4 (Zhx (ls:=ls.take i) w);have U:=Z54 (F:=F) (ls:=ls.take i) s I w;have bq:inG G (ls.take i)≤i:=Zbn i;have bn:IntKind.i64.wrap ((inG G (ls.take i):Nat)+1:Int)=((inG G (ls.take i)+1:Nat):Int):=by rw[Z5 (by omega) (by omega)]; rfl
   have am:=Zg9 (R5 F (ls.take i)) G (inG G (ls.take i)+1);rw[U,← O]at am;have z:(Z2 (R5 F (ls.take i))).length=F+1:=by rw[L6,Zf2]
   have bc:V6 ls i=down ls i:=by simp[V6,s]
   have an:=Znq (X8 ls.length i (V6 ls) false) i (V6 ls i);rw[Zof a,bc]at an;have af:=Ze0 (Zbc (i:=i) (v:=V6 ls) (d:=false) a);have bb:(bls (X8 ls.length i (V6 ls) false)).length=ls.length:=by rw[bls,List.length_map,Zaw]
   rw[if_pos s]at V;simp only[Nat.lt_irrefl,if_false]at af;generalize Z2 (R5 F (ls.take i))=C at *;generalize bls (X8 ls.length i (V6 ls) false)=D at *;obtain⟨_,y⟩:=X5 M;obtain⟨_,ao⟩:=X5 af;simp[-Int.natCast_add,b,a,e,c,rowL,J,I,M,y,z,w,o,bn,am,af,ao,bb,an,A];exact H (i+1) [] _ _ (by omega) (by omega) (by simp[t,Z6,W3,V])
  ·have s:isP (at' ls i)=false:=by simp[isP,J]
   have U:=Z6l (F:=F) (ls:=ls.take i) s;rw[← O]at U;have hD:=Zy0 (n:=ls.length) (i:=i) (v:=V6 ls) (d:=false) (by simp[V6,s])
   rw[if_neg (by simp[s])]at V
   simp[-Int.natCast_add,b,a,e,c,rowL,J,A];exact H (i+1) [] _ _ (by omega) (by omega) (by simp[t,Z6,W3,V,U,hD])
 have he:i=ls.length:=by omega
 subst he;clear H;rw[List.take_length];have e4:List.replicate (F+1) [AVal.int .i64 0]=Z2 (X8 (F+1) 0 (tot ls) 0):=by rw[Zoh,Zks]; rfl
 simp[-Int.natCast_add,X6,b,a4,aq,e4];refine Q7 (α:=Nat) (fun g=>[(90,.int .i64 g),(89,.int .i64 ((F+1:Nat):Int)),(88,.sl 2 0 (F+1)),(7,.int .i64 (tot ls g:Nat)),(6,.sl 5 0 (F+1)),(0,.ptr 1 0 0)])
  (fun g=>⟨[(1,.cells 7 [[.int .i64 (F:Int),.imm rows,.sl 3 0 ls.length,.nilSl,.sl 4 0 ls.length,.nilMap,.sl 2 0 (F+1)]]),(2,.cells 1 (Z2 (R5 F ls))),(3,.cells 1 (bls (X8 ls.length ls.length (V6 ls) false))),(4,.cells 1 (Z2 (X8 ls.length 0 (R6 ls) 0))),(5,.cells 1 (Z2 (X8 (F+1) g (tot ls) 0)))],6⟩)
  (fun g=>F+1 - g) (fun g=>g≤F+1) 0 [(5,12)] (by simp[t,Z6,W3,Z8d hG]) (by simp) ?_
 intro g I N H
 try simp only at I H ⊢
 by_cases a:g<F+1
 ·have A:IntKind.i64.wrap ((g:Int)+1)=(g:Int)+1:=Z5 (by omega) (by omega)
  have M:=B4 (Zhx (ls:=ls) (show g≤F by omega))
  have z:(Z2 (R5 F ls)).length=F+1:=by rw[L6,Zf2]
  have bt:=Zjw ls g;have al:=Z01 ls (g+1);have bp:IntKind.i64.wrap ((tot ls g:Nat)+(inG g ls:Nat):Int)=((tot ls (g+1):Nat):Int):=by rw[Z5 (by omega) (by omega)]; omega
  have u:=B4 (Zbc (i:=g) (v:=tot ls) (d:=0) a);have ar:=Zg9 (X8 (F+1) g (tot ls) 0) g (tot ls g);rw[Zof a]at ar;have S:(Z2 (X8 (F+1) g (tot ls) 0)).length=F+1:=by rw[L6,Zaw]
  simp only[Nat.lt_irrefl,if_false]at u;generalize Z2 (X8 (F+1) g (tot ls) 0)=T at *;generalize ae:Z2 (R5 F ls)=C at *;obtain⟨_,y⟩:=X5 M;obtain⟨_,E⟩:=X5 u;have aj:∀ q,Z4 q C=C:=fun q=>by rw[← ae]; exact Z6 q _
  simp[-Int.natCast_add,a,M,y,z,bp,u,E,ar,S,A];exact H (g+1) [] _ _ (by omega) (by omega) (by simp[t,Z6,W3,aj])
 have he:g=F+1:=by omega
 subst he;clear H;rw[Z4y hG];have bj:Z0 ls≤1048576:=by omega
 have e5:List.replicate (Z0 ls) [AVal.int .i64 0]=Z2 (K7 ls (Z0 ls) 0):=by rw[K7,Zks]; rfl
 have e6:List.replicate (Z0 ls) [AVal.bool false]=bls (M9 ls (Z0 ls) 0):=by rw[M9,Zm9]
 simp[-Int.natCast_add,X6,b,bj,e5,e6];refine Q7 (α:=Nat) (fun i=>[(116,.int .i64 i),(115,.int .i64 ls.length),(114,.imm rows),(10,.sl 7 0 (Z0 ls)),(6,.sl 6 0 (F+1)),(0,.ptr 1 0 0)])
  (fun i=>⟨[(1,dV1 F ls.length (Z0 ls) rows),(2,.cells 1 (Z2 (R5 F ls))),(3,.cells 1 (bls (X8 ls.length ls.length (V6 ls) false))),(4,.cells 1 (Z2 (X8 ls.length i (R6 ls) 0))),(5,.cells 1 (Z2 (K7 ls (Z0 ls) i))),(6,.cells 1 (Z2 (X8 (F+1) (F+1) (tot ls) 0))),(7,.cells 1 (bls (M9 ls (Z0 ls) i)))],8⟩)
  (fun i=>ls.length - i) (fun i=>i≤ls.length∧rkF ls (Z0 ls) i=true) 0 [(6,5),(5,9),(7,14)] (by simp[t,Z6,W3]) (by simp[rkF]) ?_
 rintro i ⟨hi,aa⟩ N H
 try simp only at hi aa H ⊢
 by_cases a:i<ls.length
 ·have e:=hR.row i a;obtain⟨_,c⟩:=X5 e;have A:IntKind.i64.wrap ((i:Int)+1)=(i:Int)+1:=Z5 (by omega) (by omega)
  by_cases J:(at' ls i).k=1
  ·have s:isP (at' ls i)=true:=by simp[isP,J]
   have a2:=S1 a;obtain⟨bg,bh⟩:=hG _ a2 s;have P:rkF ls (Z0 ls) (i+1)=(decide (1≤(at' ls i).r)&&decide ((at' ls i).r≤(inG (at' ls i).g ls:Nat)) && !(M9 ls (Z0 ls) i).getD (pos ls (at' ls i)) true):=by
    simp[rkF,aa,s]
   have L:rkF ls (Z0 ls) (i+1)=false→rkF ls (Z0 ls) ls.length=false:=fun hb=>by
    cases hq:rkF ls (Z0 ls) ls.length with
    | false=>rfl
    | true=>rw[Z6d (show i+1≤ls.length by omega) hq]at hb; cases hb
   by_cases Z:(at' ls i).r<1
   ·simp[-Int.natCast_add,b,a,e,c,rowL,J,Z];exact ah (L (by rw[P]; simp; omega)) [] _ (by simp)
   obtain⟨G,I⟩:∃ G:Nat,(at' ls i).g=(G:Nat):=⟨(at' ls i).g.toNat,by omega⟩
   have w:G≤F:=by omega
   have o:G<F+1:=by omega
   have M:=B4 (Zhx (ls:=ls) w);have z:(Z2 (R5 F ls)).length=F+1:=by rw[L6,Zf2]
   by_cases ai:(inG (G:Nat) ls:Nat)<(at' ls i).r
   ·generalize Z2 (R5 F ls)=C at *;obtain⟨_,y⟩:=X5 M;simp[-Int.natCast_add,b,a,e,c,rowL,J,Z,I,M,y,z,w,o,ai];exact ah (L (by rw[P,I]; simp; omega)) [] _ (by simp)
   have ab:=Zmr hG a2 s (by omega) (by rw[I]; omega)
   have bl:=Zn6 (ls:=ls) I;have u:=B4 (Zbc (n:=F+1) (i:=F+1) (v:=tot ls) (d:=0) (j:=G) o);rw[if_pos o]at u;have S:(Z2 (X8 (F+1) (F+1) (tot ls) 0)).length=F+1:=by rw[L6,Zaw]
   have a5:IntKind.i64.wrap ((tot ls G:Nat)+(at' ls i).r)=((pos ls (at' ls i)+1:Nat):Int):=by rw[Z5 (by omega) (by omega)]; omega
   have a6:IntKind.i64.wrap (((pos ls (at' ls i)+1:Nat):Int) - 1)=((pos ls (at' ls i):Nat):Int):=by rw[Z5 (by omega) (by omega)]; omega
   have al:=Zq7 ls (Z0 ls) i;have a7:=Zll ls (Z0 ls) i;obtain⟨tb,ak⟩:∃ tb,(M9 ls (Z0 ls) i)[pos ls (at' ls i)]? = some tb:=⟨_,gE (by omega)⟩
   have a3:(M9 ls (Z0 ls) i).getD (pos ls (at' ls i)) true=tb:=by rw[List.getD,ak]; rfl
   have Q:=Ze0 ak;have ay:(bls (M9 ls (Z0 ls) i)).length=Z0 ls:=by rw[bls,List.length_map,al]
   have az:=Znq (M9 ls (Z0 ls) i) (pos ls (at' ls i)) true;have ax:(M9 ls (Z0 ls) i).set (pos ls (at' ls i)) true=M9 ls (Z0 ls) (i+1):=by simp[M9,s]
   rw[ax]at az;have bf:(Z2 (K7 ls (Z0 ls) i)).length=Z0 ls:=by rw[L6,a7]
   have a1:=Zg9 (K7 ls (Z0 ls) i) (pos ls (at' ls i)) i;have a0:(K7 ls (Z0 ls) i).set (pos ls (at' ls i)) i=K7 ls (Z0 ls) (i+1):=by simp[K7,s]
   rw[a0]at a1;obtain⟨xv,a8⟩:∃ xv,(K7 ls (Z0 ls) i)[pos ls (at' ls i)]? = some xv:=⟨_,gE (by omega)⟩
   have ad:=B4 a8;have be:(Z2 (X8 ls.length i (R6 ls) 0)).length=ls.length:=by rw[L6,Zaw]
   have aw:R6 ls i=pos ls (at' ls i):=by simp[R6,s]
   have av:=Zg9 (X8 ls.length i (R6 ls) 0) i (R6 ls i);rw[Zof a,aw]at av;have ag:=B4 (Zbc (i:=i) (v:=R6 ls) (d:=0) a);simp only[Nat.lt_irrefl,if_false]at ag;rw[a3,I]at P;clear bl a7 a8 ak a3 al a0 ax aw;generalize br:pos ls (at' ls i)=p at *;generalize ae:Z2 (R5 F ls)=C at *;generalize bd:Z2 (X8 (F+1) (F+1) (tot ls) 0)=T at *;generalize bls (M9 ls (Z0 ls) i)=B at *;generalize Z2 (K7 ls (Z0 ls) i)=X at *;generalize Z2 (X8 ls.length i (R6 ls) 0)=Y at *;have aj:∀ q,Z4 q C=C:=fun q=>by rw[← ae]; exact Z6 q _
   have bm:∀ q,Z4 q T=T:=fun q=>by rw[← bd]; exact Z6 q _
   obtain⟨_,y⟩:=X5 M;obtain⟨_,E⟩:=X5 u;obtain⟨_,ac⟩:=X5 Q;obtain⟨_,a9⟩:=X5 ad;obtain⟨_,au⟩:=X5 ag;cases tb with
   | true=>
    simp[-Int.natCast_add,b,a,e,c,rowL,J,Z,I,M,y,z,w,o,ai,u,E,S,a5,a6,ab,Q,ac,ay];exact ah (L (by rw[P]; simp)) [] _ (by simp)
   | false=>
    simp[-Int.natCast_add,b,a,e,c,rowL,J,Z,I,M,y,z,w,o,ai,u,E,S,a5,a6,ab,Q,ac,ay,az,bf,ad,a9,a1,be,ag,au,av,A];exact H (i+1) [] _ _ (by omega) ⟨by omega,by rw[P]; simp; omega⟩ (by simp[t,Z6,W3,aj,bm])
  ·have s:isP (at' ls i)=false:=by simp[isP,J]
   have hT:M9 ls (Z0 ls) (i+1)=M9 ls (Z0 ls) i:=by simp[M9,s]
   have hX:K7 ls (Z0 ls) (i+1)=K7 ls (Z0 ls) i:=by simp[K7,s]
   have hY:=Zy0 (n:=ls.length) (i:=i) (v:=R6 ls) (d:=0) (by simp[R6,s])
   simp[-Int.natCast_add,b,a,e,c,rowL,J,A];exact H (i+1) [] _ _ (by omega) ⟨by omega,by simp[rkF,aa,s]⟩ (by simp[t,Z6,W3,hT,hX,hY])
 have he:i=ls.length:=by omega
 subst he;simp[-Int.natCast_add,b];exact ba aa [] _ (by simp[t,Z6,W3])
end Go.Known
end
section
namespace Go.Known
open Go Go.AE Go.Proofs
open Go.Plain
def outV(ob:Option Nat)(n:Nat):AVal:=
 match ob with
 | none=>.nilSl
 | some b=>.sl b 0 n
def outB(ob:Option Nat)(k:Nat)(rows:List (List AVal)):List (Nat×ABlk):=
 match ob with
 | none=>[]
 | some b=>[(b,.cells k rows)]
def Zah(ob:Option Nat)(q n:Nat):Prop:=
 match ob with
 | none=>n=0
 | some b=>b<q∧1<b
theorem Zq5(ls:List Lt)(i:Nat):∀ (l:List Nat) (k:Nat),k≤l.length→(∀ j y,j<k→l[j]? = some y→U7 (at' ls y) (at' ls i)=true)→(∀ y,l[k]? = some y→U7 (at' ls y) (at' ls i)=false) →
 ins ls i l=l.take k++i :: l.drop k
 | [],k,b,_,_=>by
  have:k=0:=by simpa using b
  subst this; rfl
 | x :: r,0,_,_,a=>by
  simp only[ins];rw[a x rfl];rfl
 | x :: r,k+1,b,d,a=>by
  simp only[ins];rw[if_pos (d 0 x (by omega) rfl),Zq5 ls i r k (by simpa using b) (fun j y e c=>d (j+1) y (by omega) c) (fun y c=>a y c)]
  rfl
theorem Ycy{ls:List Lt}{k j:Nat}(h:j∈M2 ls k):j<k:=by
 have:=(Zbp ls k).mem_iff.1 h;simp only[List.mem_filter,List.mem_range]at this;exact this.1
theorem Z8e{ls:List Lt}(k:Nat):(M2 ls k).length≤k:=by
 rw[(Zbp ls k).length_eq];exact Nat.le_trans (List.length_filter_le _ _) (by simp)
theorem Zts{α:Type}{f:α→Option α}:∀ {l:List α},(∀ x,x∈l→f x=some x)→V0 f l=some l
 | [],_=>rfl
 | x :: r,h=>by
  simp only[V0,h x (List.mem_cons_self ..),Zts fun y a=>h y (List.mem_cons_of_mem _ a)]
theorem Ye6{get:Nat→Option ABlk}{b n:Nat}{l:List Nat}(h:get b=some (.cells 1 (Z2 l))):X4 get (n+2) (.sl b 0 l.length)=some (.imm (Z2 l)):=by
 have c:(Z2 l).length=l.length:=by simp[Z2]
 have e:((Z2 l).drop 0).take l.length=Z2 l:=by rw[List.drop_zero,List.take_of_length_le (by omega)]
 rw[X4];simp only[h,e];rw[Zts (l:=Z2 l)]
 ·simp[c];rw[Nat.ble_eq_true_of_le (Nat.le_refl _)];rfl
 ·intro row a;simp only[Z2,List.mem_map]at a;obtain⟨x,_,rfl⟩:=a;rfl
theorem Z0q(l:List Nat):(Z2 l).length=l.length:=by simp[Z2]
set_option maxRecDepth 100000 in
theorem c39(f:Int)(ls:List Lt)(h:ls.length≤1000)(h0:0<Z0 ls):PCall Tryz.prog 99 [cV f ls] (.imm (Z2 (Z1 ls))):=by
 refine Z3d (n:=2) (by simp[Y7,B9]) (by simp only[AVal.closed,D5]) (B6 hm Tryz.func99 cf39 (Nat.le_of_ble_eq_true rfl) ?_)
 have hR:=L0 ls;unfold cV;generalize ls.map rowL=rows at hR;have u:=hR.len;simp[af39,F2,E3,F8,E4,E6,F7,F4,F0,O4,P9,P7,O0,P6,P8,E5,F1,V4,evE,Env.get,Y6,V2,stepD,SMem.at,SMem.app,SMem.get,Z9,AVal.cells,AVal.one,R9,T9,Q8,T0,V5,X7,V9,unA,eqA,R8,U8,J6,W4,aundef];refine Za0 (α:=Nat×Nat×Option Nat) (fun a=>[(4,.int .i64 a.1),(3,outV a.2.2 (M2 ls a.1).length),(1,.ptr 1 0 0)]) (fun a=>⟨(1,.cells 2 [[.int .i64 f,.imm rows]]) :: outB a.2.2 1 (Z2 (M2 ls a.1)),a.2.1⟩)
  (fun a=>ls.length - a.1) (fun a=>a.1≤ls.length∧Zah a.2.2 a.2.1 (M2 ls a.1).length∧1<a.2.1) (0,6,none) (by simp[SubS,SubE,SubB,Env.get,SMem.get,Z9,outV,outB,M2]) (by simp[Zah,M2]) ?_
 rintro⟨i,q,ob⟩ ⟨hi,v,av⟩;simp only at hi v av ⊢;have a1:=Z8e (ls:=ls) i;by_cases Q:i<ls.length
 ·have s:=hR.row i Q;obtain⟨a2,m⟩:=gS.1 s;have E:IntKind.i64.wrap ((i:Int)+1)=(i:Int)+1:=Z5 (by omega) (by omega)
  by_cases hk:(at' ls i).k=1
  ·have c:M2 ls (i+1)=ins ls i (M2 ls i):=by simp[M2,isP,hk]
   have ao:∀ y,y∈M2 ls i→y<i:=fun y hy=>Ycy hy
   have d:(ins ls i (M2 ls i)).length=(M2 ls i).length+1:=(Zm0 ls i _).length_eq;generalize M2 ls i=l at *;have S:(Z2 l).length=l.length:=Z0q l;have ax:(Z2 l).all (fun r=>r.length == 1)=true:=by simp[Z2]
   cases ob with
   | none=>
    simp only[Zah,List.length_eq_zero_iff]at v;subst v;simp[F2,E3,F8,E4,E6,F7,F4,F0,O4,P9,P7,O0,P6,P8,E5,F1,V4,evE,Env.get,Y6,V2,stepD,SMem.at,SMem.app,SMem.get,Z9,AVal.cells,AVal.one,R9,T9,Q8,T0,V5,X7,V9,unA,eqA,R8,U8,J6,W4,aundef,outV,outB,u,Q,s,m,rowL,hk];refine Za0 (α:=Nat) (fun a=>[(5,.int .i64 0),(4,.int .i64 i),(3,.nilSl),(1,.ptr 1 0 0)]) (fun a=>⟨[(1,.cells 2 [[.int .i64 f,.imm rows]])],a⟩)
     (fun a=>0) (fun a=>1<a) (q+13) (by simp[SubS,SubE,SubB,Env.get,SMem.get,Z9]) (by omega) ?_
    intro t al;simp[F2,E3,F8,E4,E6,F7,F4,F0,O4,P9,P7,O0,P6,P8,E5,F1,V4,evE,Env.get,Y6,V2,stepD,SMem.at,SMem.app,SMem.get,Z9,AVal.cells,AVal.one,R9,T9,Q8,T0,V5,X7,V9,unA,eqA,R8,U8,J6,W4,aundef,Zed,Zb4,S6,FT.indep,N6,P5,K9,H3,in1,U4,U3,X0,G7,Zae,N5,R4,O6,L4,Q5,X6];exact⟨(i+1,t+100,some (t+20+6)),by simp; omega,by simp[c,ins,Zah]<;>omega,by simp[SubS,SubE,SubB,Env.get,SMem.get,Z9,outV,outB,c,ins,E]<;>omega⟩
   | some b=>
    simp only[Zah]at v;have o:¬b=1:=by omega
    have p:¬1=b:=by omega
    simp[F2,E3,F8,E4,E6,F7,F4,F0,O4,P9,P7,O0,P6,P8,E5,F1,V4,evE,Env.get,Y6,V2,stepD,SMem.at,SMem.app,SMem.get,Z9,AVal.cells,AVal.one,R9,T9,Q8,T0,V5,X7,V9,unA,eqA,R8,U8,J6,W4,aundef,outV,outB,u,Q,s,m,rowL,hk];refine Za0 (α:=Nat×Nat) (fun a=>[(5,.int .i64 a.1),(4,.int .i64 i),(3,.sl b 0 l.length),(1,.ptr 1 0 0)]) (fun a=>⟨[(1,.cells 2 [[.int .i64 f,.imm rows]]),(b,.cells 1 (Z2 l))],a.2⟩)
     (fun a=>l.length - a.1) (fun a=>a.1≤l.length∧q≤a.2 ∧ ∀ j y,j<a.1→l[j]? = some y→U7 (at' ls y) (at' ls i)=true) (0,q+13) (by simp[SubS,SubE,SubB,Env.get,SMem.get,Z9,o]) (by simp) ?_
    rintro⟨k,t⟩ ⟨H,al,G⟩;simp only at H al G ⊢;have aw:IntKind.i64.wrap ((k:Int)+1)=(k:Int)+1:=Z5 (by omega) (by omega)
    by_cases F:k<l.length
    ·have hy:l[k]? = some l[k]:=gE F;have aj:(Z2 l)[k]? = some [AVal.int .i64 (l[k]:Int)]:=by rw[Z2,List.getElem?_map,hy]; rfl
     obtain⟨az,ak⟩:=gS.1 aj;have a3:=ao _ (List.getElem_mem F);generalize l[k]=y at *;have V:=hR.row y (by omega)
     obtain⟨ay,ab⟩:=gS.1 V;have am:=c66 (at' ls y) (at' ls i);simp[F2,E3,F8,E4,E6,F7,F4,F0,O4,P9,P7,O0,P6,P8,E5,F1,V4,evE,Env.get,Y6,V2,stepD,SMem.at,SMem.app,SMem.get,Z9,AVal.cells,AVal.one,R9,T9,Q8,T0,V5,X7,V9,unA,eqA,R8,U8,J6,W4,aundef,Zed,Zb4,S6,FT.indep,N6,P5,K9,H3,in1,U4,U3,X0,F,aj,ak,s,m,V,ab,rowL,o,p];refine⟨_,am.x _ _ _,?_⟩;cases ad:U7 (at' ls y) (at' ls i)with
     | true=>
      simp[F2,E3,F8,E4,E6,F7,F4,F0,O4,P9,P7,O0,P6,P8,E5,F1,V4,evE,Env.get,Y6,V2,stepD,SMem.at,SMem.app,SMem.get,Z9,AVal.cells,AVal.one,R9,T9,Q8,T0,V5,X7,V9,unA,eqA,R8,U8,J6,W4,aundef,Zed,Zb4,S6,FT.indep,N6,P5,K9,H3,in1,U4,U3,X0,aw];exact⟨(k+1,t+100),by simp; omega,⟨by simp; omega,by simp; omega,fun j z hj I=>by
       simp only at hj;by_cases aq:j=k
       ·subst aq; rw[hy]at I; injection I with I; subst I; exact ad
       ·exact G j z (by omega) I⟩,by simp[SubS,SubE,SubB,Env.get,SMem.get,Z9,o,p]<;>omega⟩
     | false=>
      have N:=Zq5 ls i l k H G (fun z I=>by rw[hy]at I; injection I with I; subst I; exact ad)
      simp[F2,E3,F8,E4,E6,F7,F4,F0,O4,P9,P7,O0,P6,P8,E5,F1,V4,evE,Env.get,Y6,V2,stepD,SMem.at,SMem.app,SMem.get,Z9,AVal.cells,AVal.one,R9,T9,Q8,T0,V5,X7,V9,unA,eqA,R8,U8,J6,W4,aundef];obtain⟨A,hA⟩:∃ A,(Z2 l).take k=A:=⟨_,rfl⟩
      obtain⟨B,Y⟩:∃ B,(Z2 l).drop k=B:=⟨_,rfl⟩
      have D:A.length=k:=by rw[← hA,List.length_take]; omega
      have L:B.length=l.length - k:=by rw[← Y,List.length_drop,S]
      have X:Z2 (ins ls i l)=A++[AVal.int .i64 i] :: B:=by rw[N,← hA,← Y]; simp[Z2]
      have ae:A.take k=A:=List.take_of_length_le (by omega)
      have Z:B.take (l.length - k)=B:=List.take_of_length_le (by omega)
      have ag:k≤1048576:=by omega
      have P:k+1≤1048576:=by omega
      have ac:1+(l.length - k)≤1048576:=by omega
      have M:k+1+(l.length - k)≤1048576:=by omega
      have U:∀ i,¬b=t+20+i:=fun i=>by omega
      have w:∀ i,¬t+20+i=b:=fun i=>by omega
      have C:∀ i,¬t+20+i=1:=fun i=>by omega
      have g:∀ i,¬1=t+20+i:=fun i=>by omega
      have af:¬(k+1≤k):=by omega
      have aa:k+1+(l.length - k)=l.length+1:=by omega
      have K:¬B=[]:=by intro e; subst e; simp at L; omega
      rcases Nat.eq_zero_or_pos k with O|O
      ·subst O;have J:A=[]:=List.length_eq_zero_iff.1 D;subst J;simp at Y;simp only[Nat.sub_zero,Nat.zero_add]at *;have ah:¬(1+l.length≤1):=by omega
       simp[F2,E3,F8,E4,E6,F7,F4,F0,O4,P9,P7,O0,P6,P8,E5,F1,V4,evE,Env.get,Y6,V2,stepD,SMem.at,SMem.app,SMem.get,Z9,AVal.cells,AVal.one,R9,T9,Q8,T0,V5,X7,V9,unA,eqA,R8,U8,J6,W4,aundef,Zed,Zb4,S6,FT.indep,N6,P5,K9,H3,in1,U4,U3,X0,G7,Zae,N5,R4,O6,L4,Q5,X6,o,p,H,S,Y,L,Z,K,ac,ah,U,w,C];exact⟨(i+1,t+100,some (t+20+10)),by simp; omega,by simp[c,d,Zah]; omega,by simp[SubS,SubE,SubB,Env.get,SMem.get,Z9,outV,outB,c,d,X,E,aa,g]<;>omega⟩
      ·have ah:¬(l.length≤k):=by omega
       have au:l.length≤1048575:=by omega
       have an:(A++[[AVal.int .i64 (i:Int)]]).take (k+1)=A++[[AVal.int .i64 (i:Int)]]:=List.take_of_length_le (by simp[D])
       have J:¬A=[]:=by intro e; subst e; simp at D; omega
       simp[F2,E3,F8,E4,E6,F7,F4,F0,O4,P9,P7,O0,P6,P8,E5,F1,V4,evE,Env.get,Y6,V2,stepD,SMem.at,SMem.app,SMem.get,Z9,AVal.cells,AVal.one,R9,T9,Q8,T0,V5,X7,V9,unA,eqA,R8,U8,J6,W4,aundef,Zed,Zb4,S6,FT.indep,N6,P5,K9,H3,in1,U4,U3,X0,G7,Zae,N5,R4,O6,L4,Q5,X6,o,p,H,S,hA,Y,D,L,ae,Z,J,K,ag,P,M,af,ah,au,an,aa,U,w,C];exact⟨(i+1,t+100,some (t+20+10)),by simp; omega,by simp[c,d,Zah]; omega,by simp[SubS,SubE,SubB,Env.get,SMem.get,Z9,outV,outB,c,d,X,E,aa,g]<;>omega⟩
    ·have he:k=l.length:=by omega
     have N:=Zq5 ls i l k H G (fun z I=>by rw[List.getElem?_eq_none (by omega)]at I; cases I)
     have ai:¬k<l.length:=F;simp[F2,E3,F8,E4,E6,F7,F4,F0,O4,P9,P7,O0,P6,P8,E5,F1,V4,evE,Env.get,Y6,V2,stepD,SMem.at,SMem.app,SMem.get,Z9,AVal.cells,AVal.one,R9,T9,Q8,T0,V5,X7,V9,unA,eqA,R8,U8,J6,W4,aundef,Zed,Zb4,S6,FT.indep,N6,P5,K9,H3,in1,U4,U3,X0,ai];obtain⟨A,hA⟩:∃ A,(Z2 l).take k=A:=⟨_,rfl⟩
     obtain⟨B,Y⟩:∃ B,(Z2 l).drop k=B:=⟨_,rfl⟩
     have D:A.length=k:=by rw[← hA,List.length_take]; omega
     have L:B.length=l.length - k:=by rw[← Y,List.length_drop,S]
     have X:Z2 (ins ls i l)=A++[AVal.int .i64 i] :: B:=by rw[N,← hA,← Y]; simp[Z2]
     have ae:A.take k=A:=List.take_of_length_le (by omega)
     have Z:B.take (l.length - k)=B:=List.take_of_length_le (by omega)
     have ag:k≤1048576:=by omega
     have P:k+1≤1048576:=by omega
     have ac:1+(l.length - k)≤1048576:=by omega
     have M:k+1+(l.length - k)≤1048576:=by omega
     have U:∀ i,¬b=t+20+i:=fun i=>by omega
     have w:∀ i,¬t+20+i=b:=fun i=>by omega
     have C:∀ i,¬t+20+i=1:=fun i=>by omega
     have g:∀ i,¬1=t+20+i:=fun i=>by omega
     have af:¬(k+1≤k):=by omega
     have aa:k+1+(l.length - k)=l.length+1:=by omega
     have K:B=[]:=List.length_eq_zero_iff.1 (by omega)
     rcases Nat.eq_zero_or_pos k with O|O
     ·subst O;have ar:l=[]:=List.length_eq_zero_iff.1 he.symm;subst ar;simp[F2,E3,F8,E4,E6,F7,F4,F0,O4,P9,P7,O0,P6,P8,E5,F1,V4,evE,Env.get,Y6,V2,stepD,SMem.at,SMem.app,SMem.get,Z9,AVal.cells,AVal.one,R9,T9,Q8,T0,V5,X7,V9,unA,eqA,R8,U8,J6,W4,aundef,Zed,Zb4,S6,FT.indep,N6,P5,K9,H3,in1,U4,U3,X0,G7,Zae,N5,R4,O6,L4,Q5,X6,o,p,U,w,C];exact⟨(i+1,t+100,some (t+20+6)),by simp; omega,by simp[c,d,ins,Zah]<;>omega,by simp[SubS,SubE,SubB,Env.get,SMem.get,Z9,outV,outB,c,d,ins,E,g]<;>omega⟩
     ·have J:¬A=[]:=by intro e; subst e; simp at D; omega
      simp[F2,E3,F8,E4,E6,F7,F4,F0,O4,P9,P7,O0,P6,P8,E5,F1,V4,evE,Env.get,Y6,V2,stepD,SMem.at,SMem.app,SMem.get,Z9,AVal.cells,AVal.one,R9,T9,Q8,T0,V5,X7,V9,unA,eqA,R8,U8,J6,W4,aundef,Zed,Zb4,S6,FT.indep,N6,P5,K9,H3,in1,U4,U3,X0,G7,Zae,N5,R4,O6,L4,Q5,X6,o,p,H,S,hA,Y,D,L,ae,Z,J,K,ag,P,M,af,U,w,C];exact⟨(i+1,t+100,some (t+20+6)),by simp; omega,by simp[c,d,Zah]; omega,by simp[SubS,SubE,SubB,Env.get,SMem.get,Z9,outV,outB,c,d,X,K,← he,E,g]<;>omega⟩
  ·have c:M2 ls (i+1)=M2 ls i:=by simp[M2,isP,hk]
   cases ob with
   | none=>
    simp[F2,E3,F8,E4,E6,F7,F4,F0,O4,P9,P7,O0,P6,P8,E5,F1,V4,evE,Env.get,Y6,V2,stepD,SMem.at,SMem.app,SMem.get,Z9,AVal.cells,AVal.one,R9,T9,Q8,T0,V5,X7,V9,unA,eqA,R8,U8,J6,W4,aundef,outV,outB,u,Q,s,m,rowL,hk,E];exact⟨(i+1,q+100,none),by simp; omega,⟨by simp<;>omega,by simp only[c]; exact v,by simp<;>omega⟩,by simp[SubS,SubE,SubB,Env.get,SMem.get,Z9,outV,outB,c]<;>omega⟩
   | some b=>
    simp only[Zah]at v;have o:¬1=b:=by omega
    simp[F2,E3,F8,E4,E6,F7,F4,F0,O4,P9,P7,O0,P6,P8,E5,F1,V4,evE,Env.get,Y6,V2,stepD,SMem.at,SMem.app,SMem.get,Z9,AVal.cells,AVal.one,R9,T9,Q8,T0,V5,X7,V9,unA,eqA,R8,U8,J6,W4,aundef,outV,outB,u,Q,s,m,rowL,hk,E];exact⟨(i+1,q+100,some b),by simp; omega,by simp[c,Zah]; omega,by simp[SubS,SubE,SubB,Env.get,SMem.get,Z9,outV,outB,c]<;>omega⟩
 ·have he:i=ls.length:=by omega
  subst he;have a0:0<(M2 ls ls.length).length:=by
   have:=T4 ls;unfold Z1 at this;omega
  cases ob with
  | none=>simp only[Zah]at v; omega
  | some b=>
   simp only[Zah]at v;have o:¬b=1:=by omega
   simp[F2,E3,F8,E4,E6,F7,F4,F0,O4,P9,P7,O0,P6,P8,E5,F1,V4,evE,Env.get,Y6,V2,stepD,SMem.at,SMem.app,SMem.get,Z9,AVal.cells,AVal.one,R9,T9,Q8,T0,V5,X7,V9,unA,eqA,R8,U8,J6,W4,aundef,u,outV,outB];exact Ye6 (by simp[SMem.mem,SMem.get,Z9,o])
end Go.Known
end
