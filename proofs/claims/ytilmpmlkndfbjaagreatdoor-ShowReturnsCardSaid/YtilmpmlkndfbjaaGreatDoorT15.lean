/- Part 15 -/
import Derived.Test.YtilmpmlkndfbjaaGreatDoorT14
set_option linter.all false
set_option maxRecDepth 100000
set_option maxHeartbeats 16000000
open List (map_set replicate getD)
open Int (natCast_add)
namespace Go.Ad
open Go Go.AE Go.Proofs Go.Plain
section
attribute [local simp] NV Ni NF NU MJ NI Np Mn Nr G4 Im E5 B7 Ih E3 Mr MN NL NR Ox Ov MF Nz NX NC MX Nc Mp Oe Mx NP Na NK Ms MH NY MW Ob MD On MY Oc Oo NO MQ Nj Oa Ol Nq Nu Nb Nf MP ME Od NA My NQ MS Mz Mw MV Nw Ns Nv Ow MA KX Of Env.get R4 Ac.at Ac.app Ac.get Z7 O7 Aa.cells Aa.one K4 H9 MR NW NN Ou NM Og MO NS Nl MB MU Om Nh Gy C3 K5 B0 H3 U9 Ai Mo Mq Oj Ot NB L8 V1 H8 I8 L3 D3 Q9 G9 Bm Cm BO CQ Dw BC V5 Aa.AM Q3 Z3 Af.AM
abbrev BB(l:List Bool):List (List Aa):=l.map fun b=>[Aa.bool b]
theorem Z5(q:Nat->Nat)(l:List Nat):Z3 q (Z1 l)=Z1 l:=Y2 q _ (B3 l)
theorem Zwd:∀(l:List Bool),W3 (BB l)=true
 |[]=>rfl
 |x::r=>by simp only[BB,List.map_cons,W3];exact Zwd r
theorem V6(q:Nat->Nat)(l:List Bool):Z3 q (BB l)=BB l:=Y2 q _ (Zwd l)
theorem Zip(l:List Nat)(i x:Nat):(Z1 l).set i [Aa.int .i64 (x:Int)]=Z1 (l.set i x):=by rw[Z1,Z1,map_set]
theorem fK(l:List Bool)(i:Nat)(x:Bool):(BB l).set i [Aa.bool x]=BB (l.set i x):=by rw[BB,BB,map_set]
theorem bX(n x:Nat):Z1 (replicate n x)=replicate n [Aa.int .i64 (x:Int)]:=by simp[Z1]
theorem fZ(n:Nat)(b:Bool):BB (replicate n b)=replicate n [Aa.bool b]:=by simp[BB]
theorem Ip{l:List Nat}{i x:Nat}(h:l[i]?=some x):(Z1 l)[i]?=some [Aa.int .i64 (x:Int)]:=by rw[Z1,gM,h];rfl
theorem OL{l:List Bool}{i:Nat}{x:Bool}(h:l[i]?=some x):(BB l)[i]?=some [Aa.bool x]:=by rw[BB,gM,h];rfl
theorem M6(l:List Nat):(Z1 l).length=l.length:=by rw[Z1,lM]
theorem Y3{α:Type}{l:List α}{i:Nat}{x:α}(h:l[i]?=some x):∃hi:i<l.length,l[i]=x:=gS.1 h
theorem nT{ls:List Lt}{i:Nat}(h:i<ls.length):down ls (i+1)=if As (at' ls i)then !down ls i else down ls i:=by
 unfold down Z0;rw[JL h];cases As (at' ls i)with
 |false=>simp
 |true=>
  rw[Bool.eq_iff_iff];simp;omega
abbrev gF(F n m:Nat)(rows:List (List Aa)):Af:=.cells 7 [[.int .i64 (F:Int),.Al rows,.sl 3 0 n,.sl 5 0 m,.sl 4 0 n,.AF,.sl 2 0 (F+1)]]
abbrev dR(F:Nat)(ls:List Lt)(rows:List (List Aa)):Ac:=
 ⟨[(1,gF F ls.length (Z0 ls) rows),(2,.cells 1 (Z1 (O6 F ls))),(3,.cells 1 (BB (W8 ls.length ls.length (U5 ls) false))),(4,.cells 1 (Z1 (W8 ls.length ls.length (O8 ls) 0))),(5,.cells 1 (Z1 (F3 ls (Z0 ls) ls.length)))],6⟩
theorem rA(F:Nat)(ls:List Lt)(h:ls.length<=1000)(hF:F<=1000)(hG:Lc F ls) :
 Bo Tryz.prog 142 [.ptr 1 0 0] (HN F (ls.map Ab)) λr m=>(EI ls (Z0 ls) ls.length=true/\r=.bool true/\m=dR F ls (ls.map Ab))\/(EI ls (Z0 ls) ls.length=false/\r=.bool false/\m=⟨[],2⟩):=by
 refine D2 hm Tryz.func142 Zwi rfl rfl λK hK=>?_;have hR:=H1 ls;have L:∀q,Z3 q (ls.map Ab)=ls.map Ab:=λq=>Y2 q _ (Y6 ls);have a9:EI ls (Z0 ls) ls.length=true -> ∀l m,Bm 2 l [(0,.bool true)] (dR F ls (ls.map Ab)) [(0,.bool true)] m->R9 2 K (.bool true) m:=
  λhr l m hs=>Z6 (hK _ _ (.inl ⟨hr,rfl,rfl⟩)) l hs
 have ab:EI ls (Z0 ls) ls.length=false -> ∀l m,Bm 2 l [(0,.bool false)] ⟨[],2⟩ [(0,.bool false)] m->R9 2 K (.bool false) m:=
  λhr l m hs=>Z6 (hK _ _ (.inr ⟨hr,rfl,rfl⟩)) l hs
 clear hK;generalize ls.map Ab=rows at *;have c:=hR.len;have bp:Z0 ls<=ls.length:=Ib;have a2:IntKind.i64.wrap ((F:Int)+1)=((F+1:Nat):Int):=by rw[L6 (by omega) (by omega)];rfl
 obtain⟨ak,bh⟩:F+1<=1048576/\ls.length<=1048576:=by omega
 have e1:replicate (F+1) [Aa.int .i64 0]=Z1 (O6 F (ls.take 0)):=by rw[List.take_zero,Ygi,bX];rfl
 have e2:replicate ls.length [Aa.bool false]=BB (W8 ls.length 0 (U5 ls) false):=by rw[iB,fZ]
 have e3:replicate ls.length [Aa.int .i64 0]=Z1 (W8 ls.length 0 (O8 ls) 0):=by rw[iB,bX];rfl
 simp[-natCast_add,W6,a2,ak,c,bh,e1,e2,e3];refine M4 (α:=Nat) (λi=>[(50,.int .i64 i),(49,.int .i64 ls.length),(48,.Al rows),(3,.bool (down ls i)),(0,.ptr 1 0 0)])
  (λi=>⟨[(1,.cells 7 [[.int .i64 (F:Int),.Al rows,.sl 3 0 ls.length,.Aj,.sl 4 0 ls.length,.AF,.sl 2 0 (F+1)]]),(2,.cells 1 (Z1 (O6 F (ls.take i)))),(3,.cells 1 (BB (W8 ls.length i (U5 ls) false))),(4,.cells 1 (Z1 (W8 ls.length 0 (O8 ls) 0)))],5⟩)
  (λi=>ls.length-i) (λi=>i<=ls.length) 0 [(2,10),(3,21),(4,32)] (by simp[L,Z5,V6,down,Z0,Z4]) (by simp) ?_
 intro i hi N y
 try simp only at hi y ⊢
 by_cases a:i<ls.length
 ·have J:=hR.row i a;obtain⟨_,b⟩:=Y3 J;have u:=Y0 ((i:Int)+1);have I:ls.take (i+1)=ls.take i++[at' ls i]:=by
   rw[List.take_add_one,at',getD,gE a];rfl
  have Q:=nT a;by_cases A:(at' ls i).k=1
  ·have o:As (at' ls i)=true:=by simp[As,A]
   obtain⟨bf,bg⟩:=hG _ (P4 a) o;obtain⟨G,z⟩:∃G:Nat,(at' ls i).g=(G:Nat):=⟨(at' ls i).g.toNat,by omega⟩;obtain⟨O,e⟩:G<=F/\G<F+1:=by omega
   have hc:=Ip (Up (ls:=ls.take i) O);have P:=Yb2 (F:=F) (ls:=ls.take i) o z O;have Ch:Bl G (ls.take i)<=i:=NT i;have bl:IntKind.i64.wrap ((Bl G (ls.take i):Nat)+1:Int)=((Bl G (ls.take i)+1:Nat):Int):=by rw[L6 (by omega) (by omega)];rfl
   have ag:=Zip (O6 F (ls.take i)) G (Bl G (ls.take i)+1);rw[P,<-I]at ag;have t:(Z1 (O6 F (ls.take i))).length=F+1:=by rw[M6,Qz]
   have bb:U5 ls i=down ls i:=by simp[U5,o]
   have ah:=fK (W8 ls.length i (U5 ls) false) i (U5 ls i);rw[iR a,bb]at ah;have ai:=OL (Lf (i:=i) (v:=U5 ls) (d:=false) a);have ba:(BB (W8 ls.length i (U5 ls) false)).length=ls.length:=by rw[BB,lM,KH]
   rw[iP o]at Q;simp only[Nat.lt_irrefl,if_false]at ai;generalize Z1 (O6 F (ls.take i))=C at *;generalize BB (W8 ls.length i (U5 ls) false)=D at *;obtain⟨_,s⟩:=Y3 hc;obtain⟨_,aj⟩:=Y3 ai;simp[-natCast_add,c,a,b,Ab,A,z,s,t,e,bl,ag,aj,ba,ah,u];exact y (i+1) [] _ _ (by omega) (by omega) (by simp[L,Z5,V6,Q])
  have o:As (at' ls i)=false:=by simp[As,A]
  have P:=Yfz (F:=F) (ls:=ls.take i) o;rw[<-I]at P;have hD:=x8 (n:=ls.length) (i:=i) (v:=U5 ls) (d:=false) (by simp[U5,o]);rw[iN (by simp[o])]at Q;simp[-natCast_add,c,a,b,Ab,A,u];exact y (i+1) [] _ _ (by omega) (by omega) (by simp[L,Z5,V6,Q,P,hD])
 have he:i=ls.length:=by omega
 subst he;clear y;rw[List.take_length];have e4:replicate (F+1) [Aa.int .i64 0]=Z1 (W8 (F+1) 0 (tot ls) 0):=by rw[iB,bX];rfl
 simp[-natCast_add,W6,a2,ak,e4];refine M4 (α:=Nat) (λg=>[(90,.int .i64 g),(89,.int .i64 ((F+1:Nat):Int)),(88,.sl 2 0 (F+1)),(7,.int .i64 (tot ls g:Nat)),(6,.sl 5 0 (F+1)),(0,.ptr 1 0 0)])
  (λg=>⟨[(1,.cells 7 [[.int .i64 (F:Int),.Al rows,.sl 3 0 ls.length,.Aj,.sl 4 0 ls.length,.AF,.sl 2 0 (F+1)]]),(2,.cells 1 (Z1 (O6 F ls))),(3,.cells 1 (BB (W8 ls.length ls.length (U5 ls) false))),(4,.cells 1 (Z1 (W8 ls.length 0 (O8 ls) 0))),(5,.cells 1 (Z1 (W8 (F+1) g (tot ls) 0)))],6⟩)
  (λg=>F+1-g) (λg=>g<=F+1) 0 [(5,12)] (by simp[L,Z5,V6,Yet hG]) (by simp) ?_
 intro g z N y
 try simp only at z y ⊢
 by_cases a:g<F+1
 ·have u:=Y0 ((g:Int)+1);have hc:=Ip (Up (ls:=ls) (show g<=F by omega));have t:(Z1 (O6 F ls)).length=F+1:=by rw[M6,Qz]
  have bq:=Xx ls g;have af:=Zxm ls (g+1);have bm:=W7 ((tot ls g:Nat)+(Bl g ls:Nat):Int) ((tot ls (g+1):Nat):Int);have E:=Ip (Lf (i:=g) (v:=tot ls) (d:=0) a);have al:=Zip (W8 (F+1) g (tot ls) 0) g (tot ls g);rw[iR a]at al;have M:(Z1 (W8 (F+1) g (tot ls) 0)).length=F+1:=by rw[M6,KH]
  simp only[Nat.lt_irrefl,if_false]at E;generalize Z1 (W8 (F+1) g (tot ls) 0)=T at *;generalize aa:Z1 (O6 F ls)=C at *;obtain⟨_,s⟩:=Y3 hc;obtain⟨_,w⟩:=Y3 E;have ad:∀q,Z3 q C=C:=λq=>by rw[<-aa];exact Z5 q _
  simp[-natCast_add,a,s,t,bm,w,al,M,u];exact y (g+1) [] _ _ (by omega) (by omega) (by simp[L,Z5,V6,ad])
 have he:g=F+1:=by omega
 subst he;clear y;rw[Z7a hG];have Hs:Z0 ls<=1048576:=by omega
 have e5:replicate (Z0 ls) [Aa.int .i64 0]=Z1 (F3 ls (Z0 ls) 0):=by rw[F3,bX];rfl
 have e6:replicate (Z0 ls) [Aa.bool false]=BB (H5 ls (Z0 ls) 0):=by rw[H5,fZ]
 simp[-natCast_add,W6,c,Hs,e5,e6];refine M4 (α:=Nat) (λi=>[(116,.int .i64 i),(115,.int .i64 ls.length),(114,.Al rows),(10,.sl 7 0 (Z0 ls)),(6,.sl 6 0 (F+1)),(0,.ptr 1 0 0)])
  (λi=>⟨[(1,gF F ls.length (Z0 ls) rows),(2,.cells 1 (Z1 (O6 F ls))),(3,.cells 1 (BB (W8 ls.length ls.length (U5 ls) false))),(4,.cells 1 (Z1 (W8 ls.length i (O8 ls) 0))),(5,.cells 1 (Z1 (F3 ls (Z0 ls) i))),(6,.cells 1 (Z1 (W8 (F+1) (F+1) (tot ls) 0))),(7,.cells 1 (BB (H5 ls (Z0 ls) i)))],8⟩)
  (λi=>ls.length-i) (λi=>i<=ls.length/\EI ls (Z0 ls) i=true) 0 [(6,5),(5,9),(7,14)] (by simp[L,Z5,V6]) (by simp[EI]) ?_
 rintro i ⟨hi,U⟩ N y
 try simp only at hi U y ⊢
 by_cases a:i<ls.length
 ·have J:=hR.row i a;obtain⟨_,b⟩:=Y3 J;have u:=Y0 ((i:Int)+1);by_cases A:(at' ls i).k=1
  ·have o:As (at' ls i)=true:=by simp[As,A]
   have az:=P4 a;obtain⟨bf,bg⟩:=hG _ az o;have Cz:EI ls (Z0 ls) (i+1)=(decide (1<=(at' ls i).r)&&decide ((at' ls i).r<=(Bl (at' ls i).g ls:Nat)) && !(H5 ls (Z0 ls) i).getD (pos ls (at' ls i)) true):=by
    simp[EI,U,o]
   have H:EI ls (Z0 ls) (i+1)=false->EI ls (Z0 ls) ls.length=false:=λhb=>by
    cases hq:EI ls (Z0 ls) ls.length with
    |false=>rfl
    |true=>rw[Z69 (show i+1<=ls.length by omega) hq]at hb;cases hb
   by_cases S:(at' ls i).r<1
   ·simp[-natCast_add,c,a,b,Ab,A,S];exact ab (H (by rw[Cz];simp;omega)) [] _ (by simp)
   obtain⟨G,z⟩:∃G:Nat,(at' ls i).g=(G:Nat):=⟨(at' ls i).g.toNat,by omega⟩;obtain⟨O,e⟩:G<=F/\G<F+1:=by omega
   have hc:=Ip (Up (ls:=ls) O);have t:(Z1 (O6 F ls)).length=F+1:=by rw[M6,Qz]
   by_cases ac:(Bl (G:Nat) ls:Nat)<(at' ls i).r
   ·generalize Z1 (O6 F ls)=C at *;obtain⟨_,s⟩:=Y3 hc;simp[-natCast_add,c,a,b,Ab,A,S,z,s,t,e,ac];exact ab (H (by rw[Cz,z];simp;omega)) [] _ (by simp)
   have V:=aF hG az o (by omega) (by rw[z];omega);have bi:=aZ (ls:=ls) z;have E:=Ip (Lf (n:=F+1) (i:=F+1) (v:=tot ls) (d:=0) (j:=G) e);rw[iP e]at E;have M:(Z1 (W8 (F+1) (F+1) (tot ls) 0)).length=F+1:=by rw[M6,KH]
   have a3:=W7 ((tot ls G:Nat)+(at' ls i).r) ((pos ls (at' ls i)+1:Nat):Int);have a4:=W7 (((pos ls (at' ls i)+1:Nat):Int)-1) ((pos ls (at' ls i):Nat):Int);have af:=Zyg ls (Z0 ls) i;have a5:=cO ls (Z0 ls) i;obtain⟨tb,ae⟩:∃tb,(H5 ls (Z0 ls) i)[pos ls (at' ls i)]?=some tb:=⟨_,gE (by omega)⟩;have a1:(H5 ls (Z0 ls) i).getD (pos ls (at' ls i)) true=tb:=by rw[getD,ae];rfl
   have a0:=OL ae;have av:(BB (H5 ls (Z0 ls) i)).length=Z0 ls:=by rw[BB,lM,af]
   have aw:=fK (H5 ls (Z0 ls) i) (pos ls (at' ls i)) true;have au:(H5 ls (Z0 ls) i).set (pos ls (at' ls i)) true=H5 ls (Z0 ls) (i+1):=by simp[H5,o]
   rw[au]at aw;have be:(Z1 (F3 ls (Z0 ls) i)).length=Z0 ls:=by rw[M6,a5]
   have ay:=Zip (F3 ls (Z0 ls) i) (pos ls (at' ls i)) i;have ax:(F3 ls (Z0 ls) i).set (pos ls (at' ls i)) i=F3 ls (Z0 ls) (i+1):=by simp[F3,o]
   rw[ax]at ay;obtain⟨xv,a6⟩:∃xv,(F3 ls (Z0 ls) i)[pos ls (at' ls i)]?=some xv:=⟨_,gE (by omega)⟩;have a7:=Ip a6;have bd:(Z1 (W8 ls.length i (O8 ls) 0)).length=ls.length:=by rw[M6,KH]
   have aq:O8 ls i=pos ls (at' ls i):=by simp[O8,o]
   have ao:=Zip (W8 ls.length i (O8 ls) 0) i (O8 ls i);rw[iR a,aq]at ao;have am:=Ip (Lf (i:=i) (v:=O8 ls) (d:=0) a);simp only[Nat.lt_irrefl,if_false]at am;rw[a1,z]at Cz;clear bi a5 a6 ae a1 af ax au aq;generalize bn:pos ls (at' ls i)=p at *;generalize aa:Z1 (O6 F ls)=C at *;generalize bc:Z1 (W8 (F+1) (F+1) (tot ls) 0)=T at *;generalize BB (H5 ls (Z0 ls) i)=B at *;generalize Z1 (F3 ls (Z0 ls) i)=X at *;generalize Z1 (W8 ls.length i (O8 ls) 0)=Y at *;have ad:∀q,Z3 q C=C:=λq=>by rw[<-aa];exact Z5 q _
   have bj:∀q,Z3 q T=T:=λq=>by rw[<-bc];exact Z5 q _
   obtain⟨_,s⟩:=Y3 hc;obtain⟨_,w⟩:=Y3 E;obtain⟨_,Z⟩:=Y3 a0;obtain⟨_,a8⟩:=Y3 a7;obtain⟨_,an⟩:=Y3 am;cases tb with
   |true=>
    simp[-natCast_add,c,a,b,Ab,A,S,z,s,t,e,ac,w,M,a3,a4,V,Z,av];exact ab (H (by rw[Cz];simp)) [] _ (by simp)
   |false=>
    simp[-natCast_add,c,a,b,Ab,A,S,z,s,t,e,ac,w,M,a3,a4,V,Z,av,aw,be,a8,ay,bd,an,ao,u];exact y (i+1) [] _ _ (by omega) ⟨by omega,by rw[Cz];simp;omega⟩ (by simp[L,Z5,V6,ad,bj])
  have o:As (at' ls i)=false:=by simp[As,A]
  have hT:H5 ls (Z0 ls) (i+1)=H5 ls (Z0 ls) i:=by simp[H5,o]
  have hX:F3 ls (Z0 ls) (i+1)=F3 ls (Z0 ls) i:=by simp[F3,o]
  have hY:=x8 (n:=ls.length) (i:=i) (v:=O8 ls) (d:=0) (by simp[O8,o]);simp[-natCast_add,c,a,b,Ab,A,u];exact y (i+1) [] _ _ (by omega) ⟨by omega,by simp[EI,U,o]⟩ (by simp[L,Z5,V6,hT,hX,hY])
 have he:i=ls.length:=by omega
 subst he;simp[-natCast_add];exact a9 U [] _ (by simp[L,Z5,V6])
end
def GU(ob:Option Nat)(n:Nat):Aa:=
 match ob with
 | none=>.Aj
 | some b=>.sl b 0 n
def GS(ob:Option Nat)(k:Nat)(rows:List (List Aa)):List (Nat×Af):=
 match ob with
 | none=>[]
 | some b=>[(b,.cells k rows)]
def JI(ob:Option Nat)(q n:Nat):Prop:=
 match ob with
 | none=>n=0
 | some b=>b<q∧1<b
theorem oA(ls:List Lt)(i:Nat):∀(l:List Nat) (k:Nat),k<=l.length->(∀j y,j<k->l[j]?=some y->S1 (at' ls y) (at' ls i)=true)->(∀y,l[k]?=some y->S1 (at' ls y) (at' ls i)=false) ->
 ins ls i l=l.take k++i::l.drop k
 |[],k,b,_,_=>by
  have:k=0:=by simpa using b
  subst this;rfl
 |x::r,0,_,_,a=>by
  simp only[ins];rw[a x rfl];rfl
 |x::r,k+1,b,d,a=>by
  simp only[ins];rw[iP (d 0 x (by omega) rfl),oA ls i r k (by simpa using b) (λj y e c=>d (j+1) y (by omega) c) (λy c=>a y c)];rfl
theorem Z9o{ls:List Lt}{k j:Nat}(h:j∈H6 ls k):j<k:=by
 have:=(Nn ls k).mem_iff.1 h;simp only[List.mem_filter,mR]at this;exact this.1
theorem Yes{ls:List Lt}(k:Nat):(H6 ls k).length<=k:=by
 rw[(Nn ls k).length_eq];exact Nat.le_trans (List.length_filter_le _ _) (by simp)
theorem yO{α:Type}{f:α->Option α}:∀{l:List α},(∀x,x∈l->f x=some x)->U4 f l=some l
 |[],_=>rfl
 |x::r,h=>by
  simp only[U4,h x (List.mem_cons_self ..),yO λy a=>h y (List.mem_cons_of_mem _ a)]
theorem Z65{get:Nat->Option Af}{b n:Nat}{l:List Nat}(h:get b=some (.cells 1 (Z1 l))):X8 get (n+2) (.sl b 0 l.length)=some (.Al (Z1 l)):=by
 have c:(Z1 l).length=l.length:=by simp[Z1]
 have e:((Z1 l).drop 0).take l.length=Z1 l:=by rw[List.drop_zero,tL (by omega)]
 rw[X8];simp only[h,e];rw[yO (l:=Z1 l)]
 ·simp[c];rw[Nat.ble_eq_true_of_le (lR _)];rfl
 intro row a;simp only[Z1,mM]at a;obtain⟨x,_,rfl⟩:=a;rfl
theorem tw(l:List Nat):(Z1 l).length=l.length:=by simp[Z1]
theorem c39(f:Int)(ls:List Lt)(h:ls.length<=1000)(h0:0<Z0 ls):Au Tryz.prog 99 [cV f ls] (.Al (Z1 (Z2 ls))):=by
 refine Yhy (n:=2) (by simp[Y7,Ln]) (by simp only[Aa.closed,B3]) (Io hm Tryz.func99 sY (Nat.le_of_ble_eq_true rfl) ?_);have hR:=H1 ls;unfold cV;generalize ls.map Ab=rows at hR;have g:=hR.len;simp[Yg,oR,No,JX,QG,JJ,JW,ND,KY,Vg,G4,Im,E5,B7,Ih,E3,JM,Ka,S2,AG,Env.get,Y8,R4,Ak,Ac.at,Ac.app,Ac.get,Z7,Aa.cells,Aa.one,I4,K4,H9,S7,S6,W5,S5,Gy,Ez,C3,K5,GX,U9,Ai];refine KI (α:=Nat×Nat×Option Nat) (λa=>[(4,.int .i64 a.1),(3,GU a.2.2 (H6 ls a.1).length),(1,.ptr 1 0 0)]) (λa=>⟨(1,.cells 2 [[.int .i64 f,.Al rows]])::GS a.2.2 1 (Z1 (H6 ls a.1)),a.2.1⟩)
  (λa=>ls.length-a.1) (λa=>a.1<=ls.length/\JI a.2.2 a.2.1 (H6 ls a.1).length/\1<a.2.1) (0,6,none) (by simp[CY,Dy,Dx,Env.get,Ac.get,Z7,GU,GS]) (by simp[JI,H6]) ?_
 rintro⟨i,q,ob⟩ ⟨hi,m,aq⟩;simp only at hi m aq ⊢;have a0:=Yes (ls:=ls) i;by_cases H:i<ls.length
 ·have U:=hR.row i H;obtain⟨a1,d⟩:=gS.1 U;have p:=Y0 ((i:Int)+1);by_cases hk:(at' ls i).k=1
  ·have L:H6 ls (i+1)=ins ls i (H6 ls i):=by simp[H6,As,hk]
   have ak:∀y,y∈H6 ls i->y<i:=λy hy=>Z9o hy;have s:(ins ls i (H6 ls i)).length=(H6 ls i).length+1:=(dB ls i _).length_eq;generalize H6 ls i=l at *;have Q:(Z1 l).length=l.length:=tw l;have av:(Z1 l).all (λr=>r.length == 1)=true:=by simp[Z1]
   cases ob with
   |none=>
    simp only[JI,List.length_eq_zero_iff]at m;subst m;simp[No,JX,JJ,JW,ND,G4,JM,Ka,S2,AG,Env.get,Y8,Ak,Ac.at,Ac.app,Ac.get,Z7,I4,K4,H9,S7,S6,W5,S5,GU,GS,g,H,d,Ab,hk];refine KI (α:=Nat) (λa=>[(5,.int .i64 0),(4,.int .i64 i),(3,.Aj),(1,.ptr 1 0 0)]) (λa=>⟨[(1,.cells 2 [[.int .i64 f,.Al rows]])],a⟩)
     (λa=>0) (λa=>1<a) (q+13) (by simp[CY,Dy,Dx,Env.get,Ac.get,Z7]) (by omega) ?_
    intro c ag;simp[JX,QG,JJ,JW,KY,G4,E5,B7,E3,JM,Ka,S2,AG,Env.get,Y8,Ak,Ac.at,Ac.app,Ac.get,Z7,Aa.cells,Aa.one,S7,S6,W5,S5,Ai,Xo,WE,M7,FT.indep,G3,B5,S9,S8,W9,F8,JF,I1,N7,W4,H3,W6];exact⟨(i+1,c+100,some (c+20+6)),by simp;omega,by simp[JI]<;>omega,by simp[CY,Dy,Dx,Env.get,Ac.get,Z7,L,ins,p]<;>omega⟩
   |some b=>
    simp only[JI]at m;obtain⟨M,aw⟩:¬b=1/\¬1=b:=by omega
    simp[No,JX,JJ,JW,ND,G4,JM,Ka,S2,AG,Env.get,Y8,Ak,Ac.at,Ac.app,Ac.get,Z7,I4,K4,H9,S7,S6,W5,S5,GU,GS,g,H,d,Ab,hk];refine KI (α:=Nat×Nat) (λa=>[(5,.int .i64 a.1),(4,.int .i64 i),(3,.sl b 0 l.length),(1,.ptr 1 0 0)]) (λa=>⟨[(1,.cells 2 [[.int .i64 f,.Al rows]]),(b,.cells 1 (Z1 l))],a.2⟩)
     (λa=>l.length-a.1) (λa=>a.1<=l.length/\q<=a.2 /\ ∀j y,j<a.1->l[j]?=some y->S1 (at' ls y) (at' ls i)=true) (0,q+13) (by simp[CY,Dy,Dx,Env.get,Ac.get,Z7,M]) (by simp) ?_
    rintro⟨k,c⟩ ⟨w,ag,u⟩;simp only at w ag u ⊢;have au:=Y0 ((k:Int)+1);by_cases t:k<l.length
    ·have hy:l[k]?=some l[k]:=gE t;have ao:(Z1 l)[k]?=some [Aa.int .i64 (l[k]:Int)]:=by rw[Z1,gM,hy];rfl
     obtain⟨ay,af⟩:=gS.1 ao;have a2:=ak _ (List.getElem_mem t);generalize l[k]=y at *;have K:=hR.row y (by omega);obtain⟨ax,ah⟩:=gS.1 K;have ai:=c66 (at' ls y) (at' ls i);simp[No,JX,QG,JJ,JW,ND,KY,G4,E5,B7,E3,JM,Ka,S2,AG,Env.get,Y8,Ak,Ac.at,Ac.app,Ac.get,Z7,I4,K4,H9,S7,S6,W5,S5,U9,Ai,Xo,WE,M7,FT.indep,G3,B5,S9,S8,W9,t,af,U,K,Ab,M];refine⟨_,ai.x _ _ _,?_⟩;cases T:S1 (at' ls y) (at' ls i)with
     |true=>
      simp[au];exact⟨(k+1,c+100),by simp;omega,⟨by simp;omega,by simp;omega,λj z hj C=>by
       simp only at hj;by_cases al:j=k
       ·subst al;rw[hy]at C;injection C with C;subst C;exact T
       exact u j z (by omega) C⟩,by simp[CY,Dy,Dx,Env.get,Ac.get,Z7,M]<;>omega⟩
     |false=>
      have E:=oA ls i l k w u (λz C=>by rw[hy]at C;injection C with C;subst C;exact T);simp[No,JX,QG,JJ,JW,ND,KY,Vg,G4,Im,E5,B7,Ih,E3,JM,Ka,S2,AG,Env.get,Y8,R4,Ak,Ac.at,Ac.app,Ac.get,Z7,Aa.cells,Aa.one,I4,K4,H9,S7,S6,W5,S5,Gy,Ez,C3,K5,GX,U9,Ai];obtain⟨A,X⟩:∃A,(Z1 l).take k=A:=⟨_,rfl⟩;obtain⟨B,O⟩:∃B,(Z1 l).drop k=B:=⟨_,rfl⟩;have V:A.length=k:=by rw[<-X,lK];omega
      have EV:B.length=l.length-k:=by rw[<-O,List.length_drop,Q]
      have N:Z1 (ins ls i l)=A++[Aa.int .i64 i]::B:=by rw[E,<-X,<-O];simp[Z1]
      have Y:A.take k=A:=tL (by omega);have aa:B.take (l.length-k)=B:=tL (by omega);obtain⟨ac,G,S,ad⟩:k<=1048576/\k+1<=1048576/\1+(l.length-k)<=1048576/\k+1+(l.length-k)<=1048576:=by omega
      have I:∀i,¬b=c+20+i:=λi=>by omega
      have o:∀i,¬c+20+i=b:=λi=>by omega
      have v:∀i,¬c+20+i=1:=λi=>by omega
      have J:∀i,¬1=c+20+i:=λi=>by omega
      obtain⟨ab,P⟩:¬(k+1<=k)/\k+1+(l.length-k)=l.length+1:=by omega
      have Z:¬B=[]:=by intro e;subst e;simp at EV;omega
      rcases Nat.eq_zero_or_pos k with F|F
      ·subst F;have D:A=[]:=List.length_eq_zero_iff.1 V;subst D;simp at O;simp only[Nat.sub_zero,Nat.zero_add]at *;have Dg:¬(1+l.length<=1):=by omega
       simp[AG,Env.get,Ac.app,Ac.get,Z7,Aa.cells,Aa.one,S6,G3,B5,F8,JF,I1,N7,W4,H3,O7,W6,M,w,O,EV,aa,S,Dg,I,o,v];exact⟨(i+1,c+100,some (c+20+10)),by simp;omega,by simp[JI];omega,by simp[CY,Dy,Dx,Env.get,Ac.get,Z7,L,s,N,p,P]<;>omega⟩
      obtain⟨Dg,an⟩:¬(l.length<=k)/\l.length<=1048575:=by omega
      have aj:(A++[[Aa.int .i64 (i:Int)]]).take (k+1)=A++[[Aa.int .i64 (i:Int)]]:=tL (by simp[V]);have D:¬A=[]:=by intro e;subst e;simp at V;omega
      simp[AG,Env.get,Ac.app,Ac.get,Z7,Aa.cells,Aa.one,S6,G3,B5,F8,JF,I1,N7,W4,H3,O7,W6,M,w,Q,X,O,V,EV,Y,aa,D,ac,G,ab,Dg,an,aj,P,I,o,v];exact⟨(i+1,c+100,some (c+20+10)),by simp;omega,by simp[L,s,JI];omega,by simp[CY,Dy,Dx,Env.get,Ac.get,Z7,GU,GS,L,s,N,p,P,J]<;>omega⟩
    have he:k=l.length:=by omega
    have E:=oA ls i l k w u (λz C=>by rw[List.getElem?_eq_none (by omega)]at C;cases C);have ae:¬k<l.length:=t;simp[JX,QG,JJ,JW,KY,G4,E5,B7,E3,JM,Ka,S2,AG,Env.get,Y8,Ak,Ac.at,Ac.app,Ac.get,Z7,S7,W5,S5,Ai,Xo,WE,M7,FT.indep,G3,B5,S9,S8,W9,ae];obtain⟨A,X⟩:∃A,(Z1 l).take k=A:=⟨_,rfl⟩;obtain⟨B,O⟩:∃B,(Z1 l).drop k=B:=⟨_,rfl⟩;have V:A.length=k:=by rw[<-X,lK];omega
    have EV:B.length=l.length-k:=by rw[<-O,List.length_drop,Q]
    have N:Z1 (ins ls i l)=A++[Aa.int .i64 i]::B:=by rw[E,<-X,<-O];simp[Z1]
    have Y:A.take k=A:=tL (by omega);have aa:B.take (l.length-k)=B:=tL (by omega);obtain⟨ac,G,S,ad⟩:k<=1048576/\k+1<=1048576/\1+(l.length-k)<=1048576/\k+1+(l.length-k)<=1048576:=by omega
    have I:∀i,¬b=c+20+i:=λi=>by omega
    have o:∀i,¬c+20+i=b:=λi=>by omega
    have v:∀i,¬c+20+i=1:=λi=>by omega
    have J:∀i,¬1=c+20+i:=λi=>by omega
    obtain⟨ab,P⟩:¬(k+1<=k)/\k+1+(l.length-k)=l.length+1:=by omega
    have Z:B=[]:=List.length_eq_zero_iff.1 (by omega);rcases Nat.eq_zero_or_pos k with F|F
    ·subst F;have am:l=[]:=List.length_eq_zero_iff.1 he.symm;subst am;simp[AG,Env.get,Ac.app,Ac.get,Z7,Aa.cells,Aa.one,S6,G3,B5,F8,JF,I1,N7,W4,H3,W6,M,I,o];exact⟨(i+1,c+100,some (c+20+6)),by simp;omega,by simp[JI]<;>omega,by simp[CY,Dy,Dx,Env.get,Ac.get,Z7,L,ins,p]<;>omega⟩
    have D:¬A=[]:=by intro e;subst e;simp at V;omega
    simp[AG,Env.get,Ac.app,Ac.get,Z7,Aa.cells,Aa.one,S6,G3,B5,F8,JF,I1,N7,W4,H3,O7,W6,M,w,Q,X,O,V,Y,D,Z,ac,G,ab,I,o,v];exact⟨(i+1,c+100,some (c+20+6)),by simp;omega,by simp[JI];omega,by simp[CY,Dy,Dx,Env.get,Ac.get,Z7,L,s,N,Z,<-he,p]<;>omega⟩
  have L:H6 ls (i+1)=H6 ls i:=by simp[H6,As,hk]
  cases ob with
  |none=>
   simp[No,JX,JJ,JW,ND,KY,G4,E5,E3,JM,Ka,S2,AG,Env.get,Y8,Ak,Ac.at,Ac.app,Ac.get,Z7,I4,K4,H9,S7,S6,W5,S5,GU,GS,g,H,d,Ab,hk,p];exact⟨(i+1,q+100,none),by simp;omega,⟨by simp<;>omega,by simp only[L];exact m,by simp<;>omega⟩,by simp[CY,Dy,Dx,Env.get,Ac.get,Z7,GU,GS,L]<;>omega⟩
  |some b=>
   simp only[JI]at m;simp[No,JX,JJ,JW,ND,KY,G4,E5,E3,JM,Ka,S2,AG,Env.get,Y8,Ak,Ac.at,Ac.app,Ac.get,Z7,I4,K4,H9,S7,S6,W5,S5,GU,GS,g,H,d,Ab,hk,p];exact⟨(i+1,q+100,some b),by simp;omega,by simp[JI];omega,by simp[CY,Dy,Dx,Env.get,Ac.get,Z7,L]<;>omega⟩
 have he:i=ls.length:=by omega
 subst he;have az:0<(H6 ls ls.length).length:=by
  have:=Q7 ls;unfold Z2 at this;omega
 cases ob with
 |none=>simp only[JI]at m;omega
 |some b=>
  simp only[JI]at m;have M:¬b=1:=by omega
  simp[JX,JJ,JW,KY,Vg,G4,E5,E3,JM,Ka,S2,AG,Env.get,Y8,Ak,Ac.at,Ac.app,Ac.get,Z7,I4,K4,H9,S7,W5,S5,GX,g,GU,GS];exact Z65 (by simp[Ac.mem,Ac.get,Z7,M])
end Go.Ad
