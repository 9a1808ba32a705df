/- Part 16 -/
import Derived.Test.YtilmpmlkndfbjaaGreatDoorT15
set_option linter.all false
set_option maxRecDepth 100000
set_option maxHeartbeats 16000000
namespace Go.Ad
open Go Go.AE Go.Proofs
open Go.Plain
attribute [local simp] NV Ni NF NU MJ NI Np Mn Nr G4 Im E5 B7 Ih E3 Mr MN NL NR Ox Ov MF Nz NX NC MX Nc Mp Oe Mx NP Na NK Ms MH NY MW Ob MD On MY Oc Oo NO MQ Nj Oa Ol Nq Nu Nb Nf MP ME Od NA My NQ MS Mz Mw MV Nw Ns Nv Ow MA KX Of Env.get R4 Ac.at Ac.app Ac.get Z7 O7 Aa.cells Aa.one K4 H9 MR NW NN Ou NM Og MO NS Nl MB MU Om Nh Gy C3 K5 B0 H3 U9 Ai Mo Mq Oj Ot NB L8 V1 H8 I8 L3 D3 Q9 G9 Bm Cm BO CQ Dw BC V5 Aa.AM Q3 Z3 Af.AM S9 S8 W9 FT.indep G3 B5 Je Fs Ma Wo
abbrev Gd(v:Int×Int):Aa:=.agg [.int .i64 v.1,.int .i64 v.2]
def FB:Nat→List DO→List (Aa×Aa×Nat)
 | _,[]=>[]
 | j,(k,v) :: r=>(.int .i64 k,Gd v,j) :: FB (j+1) r
theorem VN:∀(j:Nat) (E:List DO),(FB j E).length=E.length
 |_,[]=>rfl
 |j,(k,v)::r=>by simp only[FB,lC,VN (j+1) r]
theorem Z9(q:Nat->Nat):∀(j:Nat) (E:List DO),C0 q (FB j E)=FB j E
 |_,[]=>rfl
 |j,(k,v)::r=>by
  have:=Z9 q (j+1) r;simp only[C0,FB,List.map_cons,Aa.AM,Q3]at *;rw[this]
theorem eF(id:Int):∀(j:Nat) (E:List DO),D1 .int (.int .i64 id) (FB j E)=some (match Dz id E with
 |some (p,v)=>some (p,Gd v,j+p)
 |none=>none)
 |_,[]=>rfl
 |j,(k,v)::r=>by
  simp only[FB,D1,A7,if_true,Dz];by_cases h:id=k
  ·subst h;simp
  have a:(id == k)=false:=by simpa using h
  simp only[a,iN h];rw[eF id (j+1) r];cases Dz id r with
  |none=>rfl
  |some b=>obtain ⟨p,w⟩:=b;simp only;congr 4;omega
theorem wg(k:Int)(v:Int×Int):∀(j p:Nat) (E:List DO),(FB j E).set p (.int .i64 k,Gd v,j+p)=FB j (E.set p (k,v))
 |_,_,[]=>rfl
 |j,0,(a,b)::r=>rfl
 |j,p+1,(a,b)::r=>by
  simp only[FB,List.set_cons_succ];have:=wg k v (j+1) p r;rw[show j+1+p=j+(p+1) by omega]at this;rw[this]
theorem Z5o(k:Int)(v:Int×Int):∀(j:Nat) (E:List DO),FB j E++[(.int .i64 k,Gd v,j+E.length)]=FB j (E++[(k,v)])
 |_,[]=>rfl
 |j,(a,b)::r=>by
  simp only[FB,List.cons_append,lC];have:=Z5o k v (j+1) r;rw[show j+1+r.length=j+(r.length+1) by omega]at this;rw[this]
abbrev Ke(F n m:Nat)(rows:List (List Aa)):Af:=.cells 7 [[.int .i64 (F:Int),.Al rows,.sl 3 0 n,.sl 5 0 m,.sl 4 0 n,.map 6,.sl 2 0 (F+1)]]
abbrev dM(F n m:Nat)(rows A B C D:List (List Aa))(E:List DO):Ac:=
 ⟨[(1,Ke F n m rows),(2,.cells 1 A),(3,.cells 1 B),(4,.cells 1 C),(5,.cells 1 D),(6,.map (FB 0 E) E.length)],7⟩
theorem rB(F:Nat)(ls:List Lt)(m:Nat)(h:ls.length<=1000)(A B C D:List (List Aa))(hA:∀q,Z3 q A=A)(hB:∀q,Z3 q B=B)(hC:∀q,Z3 q C=C)(hD:∀q,Z3 q D=D) :
 Bo Tryz.prog 143 [.ptr 1 0 0] ⟨[(1,gF F ls.length m (ls.map Ab)),(2,.cells 1 A),(3,.cells 1 B),(4,.cells 1 C),(5,.cells 1 D)],6⟩ λr sm=>
  ((X6 ls%2=0/\Fo ls (X6 ls) ls.length=true/\(Bf ls ls.length).length=X6 ls / 2)/\r=.bool true/\sm=dM F ls.length m (ls.map Ab) A B C D (Bf ls ls.length)) \/
  (¬(X6 ls%2=0/\Fo ls (X6 ls) ls.length=true/\(Bf ls ls.length).length=X6 ls / 2)/\r=.bool false/\sm=⟨[],6⟩):=by
 refine D2 hm Tryz.func143 Z5c rfl rfl λK hK=>?_;have hR:=H1 ls;have Z:∀q,Z3 q (ls.map Ab)=ls.map Ab:=λq=>Y2 q _ (Y6 ls);have ae:(X6 ls%2=0/\Fo ls (X6 ls) ls.length=true/\(Bf ls ls.length).length=X6 ls / 2) -> ∀l m',Bm 6 l [(0,.bool true)] (dM F ls.length m (ls.map Ab) A B C D (Bf ls ls.length)) [(0,.bool true)] m'->R9 6 K (.bool true) m':=
  λhr l m' hs=>Z6 (hK _ _ (.inl ⟨hr,rfl,rfl⟩)) l hs
 have z:¬(X6 ls%2=0/\Fo ls (X6 ls) ls.length=true/\(Bf ls ls.length).length=X6 ls / 2) -> ∀l m',Bm 6 l [(0,.bool false)] ⟨[],6⟩ [(0,.bool false)] m'->R9 6 K (.bool false) m':=
  λhr l m' hs=>Z6 (hK _ _ (.inr ⟨hr,rfl,rfl⟩)) l hs
 clear hK;have T:=YN F ls h;unfold cV at T;generalize ls.map Ab=rows at *;have b:=hR.len;have ak:X6 ls<=ls.length:=Ib;simp[-Int.natCast_add];refine T0 T ?_;have ah:Z4 AO ls=X6 ls:=rfl;rw[ah];generalize hv:X6 ls=u at *;by_cases M:u%2=0;rotate_left
 ·have aa:¬(((u%2:Nat):Int)=0):=by omega
  simp[-Int.natCast_emod,Qq,M];exact z (λhh=>M hh.1) [] _ (by simp)
 have aa:((u%2:Nat):Int)=0:=by omega
 simp[-Int.natCast_emod,Qq,M,b];refine M4 (α:=Nat) (λi=>[(27,.int .i64 i),(26,.int .i64 ls.length),(25,.Al rows),(3,.int .i64 u),(0,.ptr 1 0 0)])
  (λi=>dM F ls.length m rows A B C D (Bf ls i)) (λi=>ls.length-i) (λi=>i<=ls.length/\Fo ls u i=true) 0 [(6,17)] (by simp[C0,Z,hA,hB,hC,hD,Bf,FB]) (by simp[Fo]) ?_
 rintro i ⟨hi,CG⟩ N hN
 try simp only at hi CG hN ⊢
 by_cases e:i<ls.length
 ·have ad:=hR.row i e;obtain⟨_,a⟩:=Y3 ad;have X:=Y0 ((i:Int)+1);by_cases O:(at' ls i).k=2
  ·have hp:AO (at' ls i)=true:=by simp[AO,O]
   have H:Fo ls u (i+1)=(decide (1<=(at' ls i).i)&&decide ((at' ls i).i<=(u / 2:Nat))&&GM ls (Bf ls i) (at' ls i)):=by
    simp[Fo,CG,hp]
   have y:Bf ls (i+1)=Fu (Bf ls i) (at' ls i).i (at' ls i).o i:=by simp[Bf,hp]
   have t:Fo ls u (i+1)=false -> ¬(u%2=0/\Fo ls u ls.length=true/\(Bf ls ls.length).length=u / 2):=λhb hq=>by
    rw[Yjp (show i+1<=ls.length by omega) hq.2.1]at hb;cases hb
   have g:=Y0 ((u:Int) / 2);by_cases n:(at' ls i).i<1
   ·simp[b,e,a,Ab,O,n];exact z (t (by rw[H];simp;omega)) [] _ (by simp)
   by_cases v:(u:Int) / 2<(at' ls i).i
   ·simp[b,e,a,Ab,O,n,g,v];exact z (t (by rw[H];simp;omega)) [] _ (by simp)
   have d:=eF (at' ls i).i 0 (Bf ls i);have ai:=Sc ls i;cases hf:Dz (at' ls i).i (Bf ls i)with
   |none=>
    rw[hf]at d;simp only at d;have U:GM ls (Bf ls i) (at' ls i)=true:=by unfold GM;rw[hf]
    have E:=Z5o (at' ls i).i (F1 (at' ls i).o i (-1,-1)) 0 (Bf ls i);have hE:Fu (Bf ls i) (at' ls i).i (at' ls i).o i=Bf ls i++[((at' ls i).i,F1 (at' ls i).o i (-1,-1))]:=by unfold Fu;rw[hf]
    rw[hE]at y;have S:(Bf ls (i+1)).length=(Bf ls i).length+1:=by rw[y];simp
    rw[<-y]at E;rw[Nat.zero_add]at E;rw[U]at H;have Q:Fo ls u (i+1)=true:=by rw[H];simp;omega
    cases P:(at' ls i).o with
    |true=>
     rw[P]at E;simp only[F1,if_true,Gd]at E;simp[b,e,a,Ab,O,n,g,v,d,P,X];exact hN (i+1) [] _ _ (by omega) ⟨by omega,Q⟩ (by simp[Z,hA,hB,hC,hD,Z9,E,S])
    |false=>
     rw[P]at E;simp only[F1,bF,if_false,Gd]at E;simp[b,e,a,Ab,O,n,g,v,d,P,X];exact hN (i+1) [] _ _ (by omega) ⟨by omega,Q⟩ (by simp[Z,hA,hB,hC,hD,Z9,E,S])
   |some pv=>
    obtain⟨p,v0,v1⟩:=pv;rw[hf]at d;simp only[Gd,Nat.zero_add]at d;have ac:=List.mem_of_getElem? (UP hf);obtain⟨af,Gk,ag⟩:=ai _ ac;simp only at af Gk ag;have U:GM ls (Bf ls i) (at' ls i)=(decide (P9 (at' ls i).o (v0,v1)<0)&&decide ((at' ls (P9 (!(at' ls i).o) (v0,v1)).toNat).s=(at' ls i).s)):=by unfold GM;rw[hf]
    have G:=wg (at' ls i).i (F1 (at' ls i).o i (v0,v1)) 0 p (Bf ls i);have hE:Fu (Bf ls i) (at' ls i).i (at' ls i).o i=(Bf ls i).set p ((at' ls i).i,F1 (at' ls i).o i (v0,v1)):=by unfold Fu;rw[hf]
    rw[hE]at y;have S:(Bf ls (i+1)).length=(Bf ls i).length:=by rw[y];simp
    rw[<-y]at G;rw[Nat.zero_add]at G;rw[U]at H;cases P:(at' ls i).o with
    |true=>
     rw[P]at H G;simp only[P9,F1,Bool.not_true,bF,if_true,if_false,Gd]at H G;by_cases L:0<=v1
     ·simp[b,e,a,Ab,O,n,g,v,d,P,L];exact z (t (by rw[H];simp;omega)) [] _ (by simp)
     obtain⟨j,hj⟩:∃j:Nat,v0=(j:Nat):=⟨v0.toNat,by omega⟩;subst hj;have I:j<ls.length:=by omega
     have J:=hR.row j I;obtain⟨_,c⟩:=Y3 J;have V:IntKind.i64.wrap 0=0:=by decide
     by_cases w:(at' ls j).s=(at' ls i).s
     ·have Q:Fo ls u (i+1)=true:=by rw[H];simp[w];omega
      simp[b,e,a,Ab,O,n,g,v,d,P,L,V,I,c,w,X];exact hN (i+1) [] _ _ (by omega) ⟨by omega,Q⟩ (by simp[Z,hA,hB,hC,hD,Z9,G,S])
     simp[b,e,a,Ab,O,n,g,v,d,P,L,V,I,c,w];exact z (t (by rw[H];simp[w])) [] _ (by simp)
    |false=>
     rw[P]at H G;simp only[P9,F1,Bool.not_false,bF,if_true,if_false,Gd]at H G;by_cases L:0<=v0
     ·simp[b,e,a,Ab,O,n,g,v,d,P,L];exact z (t (by rw[H];simp;omega)) [] _ (by simp)
     obtain⟨j,hj⟩:∃j:Nat,v1=(j:Nat):=⟨v1.toNat,by omega⟩;subst hj;have I:j<ls.length:=by omega
     have J:=hR.row j I;obtain⟨_,c⟩:=Y3 J;have V:IntKind.i64.wrap 1=1:=by decide
     by_cases w:(at' ls j).s=(at' ls i).s
     ·have Q:Fo ls u (i+1)=true:=by rw[H];simp[w];omega
      simp[b,e,a,Ab,O,n,g,v,d,P,L,V,I,c,w,X];exact hN (i+1) [] _ _ (by omega) ⟨by omega,Q⟩ (by simp[Z,hA,hB,hC,hD,Z9,G,S])
     simp[b,e,a,Ab,O,n,g,v,d,P,L,V,I,c,w];exact z (t (by rw[H];simp[w])) [] _ (by simp)
  have hp:AO (at' ls i)=false:=by simp[AO,O]
  have y:Bf ls (i+1)=Bf ls i:=by simp[Bf,hp]
  simp[b,e,a,Ab,O,X];exact hN (i+1) [] _ _ (by omega) ⟨by omega,by simp[Fo,CG,hp]⟩ (by simp[Z,hA,hB,hC,hD,Z9,y])
 have he:i=ls.length:=by omega
 subst he;have g:=Y0 ((u:Int) / 2);by_cases Y:(Bf ls ls.length).length=u / 2
 ·have aj:(((Bf ls ls.length).length:Nat):Int)=(u:Int) / 2:=by omega
  simp[VN,g,Y];exact ae ⟨M,CG,Y⟩ [] _ (by simp[Z,hA,hB,hC,hD,Z9,Y])
 have ab:¬(((Bf ls ls.length).length:Nat):Int)=(u:Int) / 2:=by omega
 simp[VN,g,ab];exact z (λhh=>Y hh.2.2) [] _ (by simp)
end Go.Ad
