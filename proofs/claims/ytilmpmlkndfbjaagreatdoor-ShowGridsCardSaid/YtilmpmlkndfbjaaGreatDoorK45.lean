/- Part 45 of the proof: Ew, Ga, Gb. -/
import Derived.Test.YtilmpmlkndfbjaaGreatDoorK12
import Derived.Test.YtilmpmlkndfbjaaGreatDoorK44
set_option linter.all false
section
namespace Go.Ab
open Go Go.AE Go.Proofs
open Go.Plain
attribute [local simp] C8 D6 D3 B4 B0 C6 D7 C7 D9 B7 C3 Gk E5 B6 D8 C2 C1
theorem Xu{m:Nat}{below:Bool}{CX:List Nat}:∀ (rs:List Ro) (front:List Nat) (L:List (Nat×Nat)) (X:List Nd),CU m front CX L X →
 (∃ F',CU m F' CX (X9 m below rs front L X).2.1 (X9 m below rs front L X).2.2)∧(X9 m below rs front L X).2.2.length≤X.length+V0 rs
 | [],front,L,X,h=>⟨⟨front,h⟩,lR _⟩
 | r :: rs,front,L,X,h=>by
  simp only[X9,nN];split
  ·rename_i hc;obtain⟨_,c2,c3,_,_⟩:=hc;obtain⟨h1,h2⟩:=Xu (below:=below) rs _ _ _ (h.cap (i:=r.2.1.toNat) (by omega))
   exact⟨h1,by omega⟩
  ·split
   ·rename_i hc;obtain⟨hk,c1,c2,c3,c4⟩:=hc;obtain⟨h1,h2⟩:=Xu (below:=below) rs _ _ _ (h.DE (a:=r.2.1.toNat) (n:=r.2.2.1.toNat) (by omega) (by omega) (by omega) (r.2.2.2,below))
    refine⟨h1,?_⟩;rw[iP hk];rw[lA,List.length_singleton]at h2;omega
   ·exact⟨⟨front,h⟩,Nat.le_add_right _ _⟩
theorem Z9b{P:Program}{g:FuncId}{AZ args:List Aa}{v0:Aa}(h:AS P g AZ v0){m:Ac}(S:List Nat)(ha:args.map (EG m.get S)=AZ){id:Nat}{K:Aa→Ac→Prop}(hK:K v0 ⟨Q8 S m.bl,m.next⟩):SC P g args m id K:=by
 subst ha;have hP:=h (Ac.mem ⟨Q8 S m.bl,m.next⟩) [id];refine⟨hP.1,fun W Φ ρ vs w hr hargs Ch=>?_⟩
 obtain⟨Bp,f0,f1,f2,f3,f4⟩:=Sn S hr;have ha2:RL Bp ρ (args.map (EG m.get S)) vs:=by
  refine⟨by rw[hargs.1,lM],fun i x v hx hv=>?_⟩
  rw[gM]at hx;cases hy:args[i]? with
  | none=>rw[hy]at hx; cases hx
  | some y=>
   rw[hy]at hx;injection hx with hx
   subst hx;exact f4 _ _ (hargs.2 i y v hy hv)
 have hget:∀ b x,(Ac.mem ⟨Q8 S m.bl,m.next⟩).get b=some x→m.mem.get b=some x∧X3 b S=false:=fun b x hx=>by
  obtain⟨h1,h2⟩:=QX (ks:=S) (l:=m.bl) hx;refine⟨h1,?_⟩;cases hb:X3 b S with
  | false=>rfl
  | true=>exact absurd (Br.1 hb) h2
 have hrel:Rel W Bp ρ (Ac.mem ⟨Q8 S m.bl,m.next⟩) w:=by
  refine⟨hr.base,f1,fun b x hx=>?_,fun b b' x x' l l' h1 h2 h3 h4 h5=>?_,fun b l hl=>hr.fresh b l hl,f2⟩
  ·obtain⟨hx,hS⟩:=hget b x hx;obtain⟨l',o,g1,g2,g3,g4,g5⟩:=hr.live b x hx;exact⟨l',o,g1,g2,f3 _ x l' hx g1 hS,g4,g5.ext f0⟩
  ·exact hr.inj b b' x x' l l' (hget b x h1).1 (hget b' x' h2).1 h3 h4 h5
 refine(hP.2 W Bp ρ vs w hrel ha2 Ch).mono fun e w' he=>?_
 obtain⟨u,r,m',Am,ρ',rfl,hE,hk,hr',hR,hn',rfl,rfl⟩:=he;exact⟨u,r,_,Am,ρ',rfl,f0.trans hE,hk,hr',hR,hn',_,rfl,hK⟩
theorem Qg{p q:Prop} [Decidable p] [Decidable q] {c d e:Nat} (h1:c≠d) (h2:c≠e):X3 c (if p then (if q then []else [d])else e :: (if q then []else [d]))=false:=by
 by_cases hp:p<;>by_cases hq:q<;>simp[X3,hp,hq,h1,h2]
theorem Qh{q:Prop} [Decidable q] {d e k:Nat} {R:List (List Aa)} {X:List (Nat×Ag)}:(bif X3 e (if R=[]then (if q then []else [d])else e :: (if q then []else [d]))then X else AF e k R X)=X:=by
 by_cases h:R=[]
 ·subst h;rw[T0];cases X3 e _<;>rfl
 ·rw[iN h];simp[X3]
theorem Qi{p:Prop} [Decidable p] {d e k:Nat} {R:List (List Aa)} {X:List (Nat×Ag)}:(bif X3 d (if p then (if R=[]then []else [d])else e :: (if R=[]then []else [d]))then X else AF d k R X)=X:=by
 by_cases h:R=[]
 ·subst h;rw[T0];cases X3 d _<;>rfl
 ·rw[iN h];by_cases hp:p<;>simp[X3,hp]
theorem Wl(m:Nat):DY 0 m=W7 m∧DY 1 m=V8 m:=⟨rfl,rfl⟩
set_option maxRecDepth 100000 in
set_option maxHeartbeats 16000000 in
theorem r8(F:Int)(G:List Int)(A B:List Ro)(AV BV:Aa)(hA:AY AV A)(hB:AY BV B)(hG:G.length≤1000)(Ee:A.length≤1000)(Dh:B.length≤1000) :
 Cc Tryz.prog 10 [.agg [.int .i64 F,.An (Z1 G),AV,BV]] ⟨[],1⟩ fun r mm=>r=Jj F G A B∧mm=⟨[],1⟩:=by
 refine GV hm [] Tryz.func10 Z5x rfl rfl fun K hK=>?_
 obtain⟨hAc,hAo,hAcl⟩:=hA.cells;obtain⟨hBc,hBo,hBcl⟩:=hB.cells;have hAlen:=hA.len;have hBlen:=hB.len;have hArn:=hA.AA;have hBrn:=hB.AA;have hGl:=A8 G;have hrG:∀ q,Z3 q (Z1 G)=Z1 G:=fun q=>X7 q _ (N9 G)
 have hk:∀ f ls e,Dm F G A B=(f,ls,e)→K (.tuple [.agg [.int .i64 f,Bx (ls.map Ad)],.int .i64 e]) ⟨[],1⟩:=fun f ls e he=>hK _ _ ⟨by unfold Jj; rw[he],rfl⟩
 clear hK;have hnl:Bx (List.map Ad [])=.Ai:=rfl;by_cases hF0:F<0
 ·have hk1:=hk 0 [] 2 (by unfold Dm; rw[iP (.inl hF0)])
  rw[hnl]at hk1;simp[hAc,hBc,hAo,hBo,hF0,hAlen,hBlen,hGl,V9];exact Z6 hk1 [] (by simp)
 by_cases hF1:40<F
 ·have hk1:=hk 0 [] 2 (by unfold Dm; rw[iP (.inr (.inl hF1))])
  rw[hnl]at hk1;simp[hAc,hBc,hAo,hBo,hF0,hF1,hAlen,hBlen,hGl,V9];exact Z6 hk1 [] (by simp)
 have hwF:=X5 (F+1);by_cases hlen:¬(G.length:Int)=F+1
 ·have hk1:=hk 0 [] 2 (by unfold Dm; rw[iP (.inr (.inr (.inl hlen)))])
  rw[hnl]at hk1;simp[hAc,hBc,hAo,hBo,hF0,hF1,hAlen,hBlen,hGl,V9,hwF,hlen];exact Z6 hk1 [] (by simp)
 replace hlen:(G.length:Int)=F+1:=Classical.not_not.1 hlen
 have hG0:G≠[]:=fun e=>by rw[e]at hlen; simp at hlen; omega
 have hgi:=fun i (hi:i<G.length)=>Kn (l:=G) hi
 have hGlz:G.length=(F+1).toNat:=by omega
 have hg41:G.length≤41:=by omega
 simp[hAc,hBc,hAo,hBo,hF0,hF1,hAlen,hBlen,hGl,V9,hwF,hlen];refine T6 (α:=Nat) (fun i=>[(1,.ptr 1 0 0),(2,.ptr 2 0 0),(4,.int .i64 0),(5,.int .i64 i)])
  (fun _=>⟨[(2,.cells 2 [[.int .i64 0,.Ai]]),(1,.cells 4 [[.int .i64 F,.An (Z1 G),AV,BV]])],3⟩) (fun i=>G.length - i) (fun i=>i≤G.length ∧ ∀ k,k<i→0≤G.getD k 0) 0 [] (by simp[hrG,hArn,hBrn]) ⟨by omega,fun k hk=>absurd hk (Nat.not_lt_zero _)⟩ ?_
 rintro i ⟨hi,hpos⟩ N hN;by_cases hend:¬i=G.length
 ·have hil:i<G.length:=by omega
  have hili:(i:Int)<F+1:=by omega
  have hg:=hgi i hil;obtain⟨_,hg2⟩:=Y6 hg;have hIl:i<(Z1 G).length:=by omega
  have hw:=Y1 ((i:Int)+1) ((i+1:Nat):Int);by_cases hneg:G.getD i 0<0
  ·have hk1:=hk 0 [] 2 (by unfold Dm; rw[iP (.inr (.inr (.inr ((Ts hG0).2 ⟨_,(by rw[List.getD,gE hil]; exact List.getElem_mem hil),hneg⟩))))])
   rw[hnl]at hk1;generalize G.getD i 0=g at *;generalize Z1 G=GR at *;simp[hGl,hlen,hil,hili,hg,hg2,hneg,hIl,hw,V9];exact Z6 hk1 [] (by simp)
  ·have hN1:=hN (i+1);have hpos1:∀ k,k<i+1→0≤G.getD k 0:=fun k hk=>by
    rcases lG k i with c|c
    ·exact hpos k c
    ·rw[show k=i by omega]; omega
   generalize hgd:G.getD i 0=g at *;generalize hGR:Z1 G=GR at *;simp[hGl,hlen,hil,hili,hg,hg2,hneg,hIl,hw,V9];exact hN1 [] _ _ (by omega) ⟨by omega,hpos1⟩ (by simp[hrG,hArn,hBrn])
 replace hend:i=G.length:=Classical.not_not.1 hend
 subst hend;clear hN;have hnn:∀ y,y∈G→0≤y:=fun y hy=>by
  obtain⟨k,hk,rfl⟩:=List.mem_iff_getElem.1 hy;have:=hpos k hk;rwa[List.getD,gE hk]at this
 have hmn:¬EW G<0:=fun h=>by
  obtain⟨y,hy,hy0⟩:=(Ts hG0).1 h;have:=hnn y hy;omega
 obtain⟨gs,hgs⟩:∃ gs:List Nat,gs=G.map Int.toNat:=⟨_,rfl⟩
 have hGgs:G=gs.map fun g=>((g:Nat):Int):=by
  rw[hgs,List.map_map]
  conv=>lhs; rw[← List.map_id G]
  refine List.map_congr_left fun y hy=>?_
  have:=hnn y hy;show y=((y.toNat:Nat):Int);omega
 have Dd:gs.length=G.length:=by rw[hgs,lM]
 have hrd:∀ z,(if 100<V0 A+V0 B∨400<gs.sum+2*(V0 A+V0 B)then (0,[],7)
  else if gs.sum=0∧A.length+B.length=0 then (F,[],0)
  else if gs.sum=0∨(Q1 gs.sum A B).1=false then (0,[],3)
  else if EF gs.sum (Q1 gs.sum A B).2.2 (Q1 gs.sum A B).2.1 then (F,X8 (Y3 gs.sum (Ar 0 gs) (Q1 gs.sum A B).2.2 (Q1 gs.sum A B).2.1),0)else (0,[],3))=z→Dm F G A B=z:=fun z hz=>by
  unfold Dm;rw[iN (by simp[hF0,hF1,hlen,hmn]),← hgs]
  exact hz
 have hGi:∀ i,i<gs.length→(Z1 G)[i]? = some [.int .i64 (gs.getD i 0:Nat)]:=fun i hi=>by
  rw[Kn (by omega)]
  have:G.getD i 0=((gs.getD i 0:Nat):Int):=by rw[hGgs,List.getD,gM,List.getD,gE hi]; rfl
  rw[this]
 clear hnn hpos hgi;simp[hGl,hlen,V9];refine T6 (α:=Nat) (fun i=>[(1,.ptr 1 0 0),(2,.ptr 2 0 0),(4,.int .i64 (gs.take i).sum),(6,.int .i64 i)])
  (fun _=>⟨[(2,.cells 2 [[.int .i64 0,.Ai]]),(1,.cells 4 [[.int .i64 F,.An (Z1 G),AV,BV]])],3⟩) (fun i=>G.length - i) (fun i=>i≤G.length∧(gs.take i).sum≤400*i) 0 [] (by simp[hrG,hArn,hBrn]) ⟨by omega,by simp⟩ ?_
 rintro i ⟨hi,hsb⟩ N hN;by_cases hend:¬i=G.length
 ·have hil:i<G.length:=by omega
  have hili:(i:Int)<F+1:=by omega
  have hg:=hGi i (by omega)
  obtain⟨_,hg2⟩:=Y6 hg;have hIl:i<(Z1 G).length:=by omega
  have hw:=Y1 ((i:Int)+1) ((i+1:Nat):Int);have hts:(gs.take (i+1)).sum=(gs.take i).sum+gs.getD i 0:=by
   rw[List.take_add_one,gE (by omega),Option.toList_some,List.sum_append,List.getD,gE (by omega)]
   simp
  have hle:=ZI hts rfl;have hN1:=hN (i+1);rw[hts]at hN1;generalize hgd:gs.getD i 0=g at *;by_cases h400:400<g
  ·have hk1:=hk 0 [] 7 (hrd _ (by rw[iP (.inr (by omega))]))
   rw[hnl]at hk1;generalize Z1 G=GR at *;have h4i:(400:Int)<g:=by omega
   simp[hGl,hlen,hil,hili,hg,hg2,hIl,hw,V9,h400,h4i];exact Z6 hk1 [] (by simp)
  ·have h4i:¬(400:Int)<g:=by omega
   generalize (gs.take i).sum=s at *;have hw2:=Y1 ((s:Int)+g) ((s+g:Nat):Int);generalize Z1 G=GR at *;simp[hGl,hlen,hil,hili,hg,hg2,hIl,hw,V9,h400,h4i,hw2];exact hN1 [] _ _ (by omega) ⟨by omega,by omega⟩ (by simp[hrG,hArn,hBrn])
 replace hend:i=G.length:=Classical.not_not.1 hend
 subst hend;clear hN;have htk:gs.take G.length=gs:=tL (by omega)
 rw[htk]at hsb ⊢;obtain⟨m,hm⟩:∃ m,m=gs.sum:=⟨_,rfl⟩
 rw[← hm]at hrd hsb ⊢;have hcA:=Oj A;have hcB:=Oj B;have hca:=pK AV A hA Ee;have hcb:=pK BV B hB Dh;obtain⟨n,hn⟩:∃ n,n=V0 A+V0 B:=⟨_,rfl⟩
 have hwn:=Y1 ((V0 A:Int)+(V0 B:Int)) (n:Nat);rw[← hn]at hrd;simp[hGl,hlen,V9,hAc,hBc,hAo,hBo];refine QY hca ?_;simp[hBc,hBo];refine QY hcb ?_;have hw2n:IntKind.i64.wrap (2*(n:Int))=2*n:=S8 (by omega) (by omega)
 have hwmn:=X5 ((m:Int)+2*n);by_cases hbig:400<m∨100<n∨400<m+2*n
 ·have hk1:=hk 0 [] 7 (hrd _ (by rw[iP (by omega)]))
  rw[hnl]at hk1;generalize Z1 G=GR at *;by_cases b1:400<m
  ·have b1i:(400:Int)<m:=by omega
   simp[hwn,b1,b1i];exact Z6 hk1 [] (by simp)
  have b1i:¬(400:Int)<m:=by omega
  by_cases b2:100<n
  ·have b2i:(100:Int)<n:=by omega
   simp[hwn,b1,b1i,b2,b2i];exact Z6 hk1 [] (by simp)
  have b2i:¬(100:Int)<n:=by omega
  have b3i:(400:Int)<(m:Int)+2*n:=by omega
  simp[hwn,b1,b1i,b2,b2i,b3i,hw2n,hwmn];exact Z6 hk1 [] (by simp)
 have b1:¬400<m:=by omega
 have b1i:¬(400:Int)<m:=by omega
 have b2:¬100<n:=by omega
 have b2i:¬(100:Int)<n:=by omega
 have b3i:¬(400:Int)<(m:Int)+2*n:=by omega
 rw[iN (by omega)]at hrd
 obtain⟨NN,hNN⟩:∃ NN,NN=2*m+4*n:=⟨_,rfl⟩
 have hw2m:IntKind.i64.wrap (2*(m:Int))=2*m:=S8 (by omega) (by omega)
 have hw4n:IntKind.i64.wrap (4*(n:Int))=4*n:=S8 (by omega) (by omega)
 have hwNN:=Y1 (2*(m:Int)+4*n) (NN:Nat);have hNNb:NN≤1048576:=by omega
 have hNNb2:8*NN≤1048576:=by omega
 have hJ0:Z1 (Cr NN [])=List.replicate NN [Aa.int .i64 0]:=by
  show Z1 (List.replicate NN 0)=_;rw[Z1,List.map_replicate]
 have hOP0:CU m (DY 0 m) (DY 1 m) [] []:=by
  unfold CU;rw[(Wl m).1,(Wl m).2];simp only[U1,List.flatMap_nil,List.append_nil,List.length_nil,Nat.mul_zero,Nat.add_zero];exact QO m
 have hh1:=qD m NN 0 false rfl AV A hA [] [] (DY 1 m) hOP0 (by simp; omega) (by omega) Ee
 have ho0:BM []=[]:=rfl;have hl0:BL []=[]:=rfl;rw[ho0,hl0,T3,T3,T0,T0,hJ0]at hh1;obtain⟨⟨F',hO1⟩,hX1⟩:=Xu (below:=false) A _ _ _ hOP0;simp only[List.length_nil,Nat.zero_add]at hX1 hh1;obtain⟨ok1,L1,X1,hr1⟩:∃ ok1 L1 X1,X9 m false A (DY 0 m) [] []=(ok1,L1,X1):=⟨_,_,_,rfl⟩
 rw[hr1]at hO1 hX1 hh1;simp only at hO1 hX1 hh1;have hO1':CU m (DY 1 m) F' L1 X1:=by
  unfold CU at hO1 ⊢;exact(List.perm_append_comm.append_right _).trans hO1
 have hh2:=qD m NN 1 true rfl BV B hB L1 X1 F' hO1' (by omega) (by omega) Dh
 obtain⟨⟨F2,hO2⟩,hX2⟩:=Xu (below:=true) B _ _ _ hO1';obtain⟨ok2,L2,X2,hr2⟩:∃ ok2 L2 X2,X9 m true B (DY 1 m) L1 X1=(ok2,L2,X2):=⟨_,_,_,rfl⟩
 rw[hr2]at hO2 hX2 hh2;simp only at hO2 hX2 hh2;have hrdR:ok1=true→Q1 m A B=(ok2,L2,X2):=fun e=>by
  unfold Q1;rw[← (Wl m).1,hr1];simp only[e,if_true];exact hr2
 have hrd0:ok1=false→(Q1 m A B).1=false:=fun e=>by
  unfold Q1;rw[← (Wl m).1,hr1];simp only[e,bF,if_false]
 have hZr:∀ q,Z3 q (List.replicate NN [Aa.int .i64 0])=List.replicate NN [.int .i64 0]:=fun q=>by rw[HE]; simp[U3,Aa.AA]
 have hJr:∀ q (l:List Int),Z3 q (Z1 l)=Z1 l:=fun q l=>X7 q _ (N9 l)
 have hOOr:∀ q X,Z3 q (BM X)=BM X:=fun q X=>X7 q _ (OH X).1
 have hLLr:∀ q X,Z3 q (BL X)=BL X:=fun q X=>X7 q _ (OH X).2
 have hzN:(0:Int)≤(NN:Int):=by omega
 obtain⟨ZR,hZR⟩:∃ ZR,ZR=List.replicate NN [Aa.int .i64 0]:=⟨_,rfl⟩
 obtain⟨J1,hJ1⟩:∃ J1,J1=Z1 (Cr NN L1):=⟨_,rfl⟩
 obtain⟨J2,hJ2⟩:∃ J2,J2=Z1 (Cr NN L2):=⟨_,rfl⟩
 have hJ1r:∀ q,Z3 q J1=J1:=fun q=>by rw[hJ1]; exact hJr q _
 have hJ2r:∀ q,Z3 q J2=J2:=fun q=>by rw[hJ2]; exact hJr q _
 rw[← hJ1]at hh1 hh2;rw[← hJ2]at hh2;rw[← hZR]at hh1 hZr;simp[hwn,b1,b1i,b2,b2i,b3i,hw2n,hwmn,hw2m,hw4n,hwNN,hNNb,hNNb2,hzN,← hZR,hAc,hAo];refine V4 hh1 [(1,35)] (by simp[hArn]) (by simp[hZr]) (by simp) ?_
 rintro _ _ ⟨rfl,rfl⟩;simp[hJ1r,hOOr,hLLr,hBc,hBo,hrG,hArn,hBrn];refine V4 hh2 [(1,50),(2,51),(3,52)] (by simp[hBrn]) (by simp +contextual [hJ1r,hOOr,hLLr]) (by simp) ?_
 rintro _ _ ⟨rfl,rfl⟩;have DJ:m=0∧A.length+B.length=0→ok1=true∧ok2=true:=fun ⟨h1,h2⟩=>by
  have hA0:A=[]:=List.eq_nil_of_length_eq_zero (by omega)
  have hB0:B=[]:=List.eq_nil_of_length_eq_zero (by omega)
  rw[hA0,h1]at hr1;rw[hB0,h1]at hr2;simp[X9,DY]at hr1 hr2;exact⟨hr1.1,hr2.1⟩
 have hbad:¬(ok1=true∧ok2=true)→Dm F G A B=(0,[],3):=fun h=>hrd _ (by
  rw[iN (fun e=>h (DJ e)),iP]
  refine .inr ?_;cases ok1 with
  | false=>exact hrd0 rfl
  | true=>
   rw[hrdR rfl];cases ok2 with
   | false=>rfl
   | true=>exact absurd ⟨rfl,rfl⟩ h)
 clear hh1 hh2 hrd0;by_cases hok:¬(ok1=true∧ok2=true)
 ·have hk1:=hk 0 [] 3 (hbad hok);rw[hnl]at hk1;cases ok1 with
  | false=>
   simp[Qg,Qh,Qi,hJ2r,hOOr,hLLr,hrG,hArn,hBrn,hJ1r];exact Z6 hk1 [] (by simp)
  | true=>
   cases ok2 with
   | false=>
    simp[Qg,Qh,Qi,hJ2r,hOOr,hLLr,hrG,hArn,hBrn,hJ1r];exact Z6 hk1 [] (by simp)
   | true=>exact absurd ⟨rfl,rfl⟩ hok
 obtain⟨rfl,rfl⟩:=Classical.not_not.1 hok;clear hok hbad DJ;have hrdR:=hrdR rfl;by_cases hm0:m=0
 ·have hm0i:((m:Nat):Int)=0:=by omega
  have hwa:=X5 ((n:Int)+A.length);have hwb:=X5 ((n:Int)+A.length+B.length);by_cases hAB:A.length+B.length=0
  ·have hk1:=hk F [] 0 (hrd _ (by rw[iP ⟨hm0,hAB⟩]))
   rw[hnl]at hk1;have hgt:¬0<(n:Int)+A.length+B.length:=by omega
   simp[Qg,Qh,Qi,hJ2r,hOOr,hLLr,hrG,hArn,hBrn,hJ1r,hAlen,hBlen,hwa,hwb,hgt,hAc,hBc,hAo,hBo,hm0,hm0i];exact Z6 hk1 [] (by simp)
  ·have hk1:=hk 0 [] 3 (hrd _ (by rw[iN (fun e=>hAB e.2),iP (.inl hm0)]))
   rw[hnl]at hk1;have hgt:0<(n:Int)+A.length+B.length:=by omega
   simp[Qg,Qh,Qi,hJ2r,hOOr,hLLr,hrG,hArn,hBrn,hJ1r,hAlen,hBlen,hwa,hwb,hgt,hAc,hBc,hAo,hBo,hm0,hm0i];exact Z6 hk1 [] (by simp)
 have hm0i:¬((m:Nat):Int)=0:=by omega
 have hc1:=Rb A _ _ _ _ _ hr1;have hc2:=Rb B _ _ _ _ _ hr2;simp only[List.length_nil,Nat.zero_add]at hc1;have hXn:X2.length=n:=by omega
 have hRd:Gt m X2 L2:=YU (by omega) hrdR
 have hfw:=td m gs G hGi Dd hm.symm (by omega) X2 L2 hRd (by omega)
 obtain⟨hT0,_,_,hTl⟩:=ZH hRd;have hTw:=q9 hRd;rw[iN (fun e=>hm0 e.1),hrdR,iN (fun e=>by rcases e with e|e; exact hm0 e; exact absurd e (by simp))]at hrd
 simp only at hrd;rw[hXn]at hfw hTw hTl;rw[← hNN,← hJ2]at hfw;have CP:=Xd m (Ar 0 gs) X2 L2 (Ft m X2 L2) (Ft m X2 L2);have hRr:∀ q,Z3 q ((Dr m (Ar 0 gs) X2 L2 (Ft m X2 L2) (Ft m X2 L2)).map Ad)=(Dr m (Ar 0 gs) X2 L2 (Ft m X2 L2) (Ft m X2 L2)).map Ad:=fun q=>X7 q _ (R7 _)
 have Bd:(Ar 0 gs).length=m:=by rw[Th,hm]
 simp[Qg,Qh,Qi,hJ2r,hOOr,hLLr,hrG,hArn,hBrn,hJ1r,hAlen,hBlen,hAc,hBc,hAo,hBo,hm0,hm0i];refine V4 hfw [(1,65),(2,66),(3,67)] (by simp[hrG]) (by simp +contextual [hJ2r,hOOr,hLLr]) (by simp) ?_
 rintro _ _ ⟨rfl,rfl⟩;by_cases hT:Ft m X2 L2=m+2*n
 ·have hW:=hTw.1 hT;have hgF:gs.length=F.toNat+1:=by omega
  have hraw:=Z9t hRd hW (Ar 0 gs);rw[hXn]at hraw;rw[hT,hraw]at hRr CP ⊢;have hrn:=aW hRd hW Bd hgF;have hrl:=HA hRd hW Bd;rw[hXn]at hrl;have hk1:=hk F _ 0 (hrd _ (by rw[iP hW]))
  have Dx:=dZ F (Y3 m (Ar 0 gs) X2 L2) hrn (by omega)
  have hren:=OE (Y3 m (Ar 0 gs) X2 L2);have him:Bx ((X8 (Y3 m (Ar 0 gs) X2 L2)).map Ad)=.An ((X8 (Y3 m (Ar 0 gs) X2 L2)).map Ad):=by
   unfold Bx;rw[iN];intro e;have:=congrArg List.length e;rw[lM,hren,hrl]at this;simp at this;omega
  rw[him]at hk1;have hrq:∀ q,Z3 q ((X8 (Y3 m (Ar 0 gs) X2 L2)).map Ad)=(X8 (Y3 m (Ar 0 gs) X2 L2)).map Ad:=fun q=>X7 q _ (R7 _)
  generalize X8 (Y3 m (Ar 0 gs) X2 L2)=RN at *;generalize Y3 m (Ar 0 gs) X2 L2=RW at *;simp[Qg,Qh,Qi,hRr,CP,hw2n,hwmn];have hfz:=fun get hg=>lI (get:=get) (S:=[88]) (b:=88) (f:=F) (ls:=RW) (by simp[X3]) hg
  rw[hrl]at hfz;refine Z9b Dx [88] ?_ ?_
  ·exact congrArg (fun x=>[x]) (hfz _ rfl)
  ·simp[X3];exact Z6 hk1 [] (by simp[hrq])
 ·have hk1:=hk 0 [] 3 (hrd _ (by rw[iN (fun e=>hT (hTw.2 e))]))
  rw[hnl]at hk1;have hTi:¬((Ft m X2 L2:Nat):Int)=(m:Int)+2*n:=by omega
  generalize (Dr m (Ar 0 gs) X2 L2 (Ft m X2 L2) (Ft m X2 L2)).map Ad=RR at *;generalize Ft m X2 L2=T at *;simp[Qg,Qh,Qi,hRr,CP,hw2n,hwmn,hT,hTi];exact Z6 hk1 [] (by simp)
theorem Z7j(F:Int)(G:List Int)(A B:List Ro)(AV BV:Aa)(hA:AY AV A)(hB:AY BV B)(hG:G.length≤1000)(Ee:A.length≤1000)(Dh:B.length≤1000) :
 AS Tryz.prog 10 [.agg [.int .i64 F,.An (Z1 G),AV,BV]] (Jj F G A B):=by
 obtain⟨hAc,hAo,hAcl⟩:=hA.cells;obtain⟨hBc,hBo,hBcl⟩:=hB.cells;refine MJ (k:=6) (by simp[W9,Aa.closed,N9,hAcl,hBcl]) (vA F G A B) ((r8 F G A B AV BV hA hB hG Ee Dh).mono fun r m' h=>?_)
 obtain⟨rfl,rfl⟩:=h;have hs:W3 (Ac.get ⟨[],1⟩) 4 (Bx ((Dm F G A B).2.1.map Ad))=some (Bx ((Dm F G A B).2.1.map Ad)):=Z73 (n:=2) (SM _);unfold Jj;rw[W3];simp only[T5];rw[W3];simp only[T5,hs];rfl
end Go.Ab
end
section
namespace Go.Ab
open Go Go.AE Go.Proofs
open Go.Plain
theorem Sq{m:Ac}{b n:Nat}{l:List (List UInt8)}{sep:List UInt8}{id:Nat}{K:Aa→Ac→Prop}(hg:m.get b=some (.cells 1 (l.map fun s=>[.str s])))(HU:l.length=n)(h1:0<n)(h2:n≤1000000)(hlen:(Lib.join l sep).length≤1000000)(hK:K (.str (Lib.join l sep)) m) :
 SC Tryz.prog 43 [.sl b 0 n,.str sep] m id K:=by
 have hJ:=WK;refine⟨hJ.1,fun W Φ ρ vs w hr ha Ch=>?_⟩
 obtain⟨v1,v2,rfl⟩:∃ v1 v2,vs = #[v1,v2]:=by
  have hs:vs.size=2:=by simpa using ha.1
  refine⟨vs[0],vs[1],?_⟩;apply Array.ext
  ·simp[hs]
  ·intro i h1 h2;have:i=0∨i=1:=by omega
   rcases this with rfl|rfl<;>rfl
 have r1:=ha.2 0 _ v1 rfl rfl;have r2:=ha.2 1 _ v2 rfl rfl;have e2:=B8 r2;subst e2;have hgm:m.mem.get b=some (.cells 1 (l.map fun s=>[.str s])):=hg
 cases r1 with
 | sl _ _ _ a cap lo hl hle ES hcap hav1=>
  have ea:=hcap (by omega)
  subst ea;obtain⟨x1,ob,g1,g2,g3,g4,g5⟩:=hr.live b _ hgm;rw[hl]at g1; injection g1 with g1; subst g1
  cases g5 with
  | cells _ _ _ c t q1 q2 q3 q4 q5=>
   have hcell:∀ (j:Nat) (x:ByteArray),(l.map fun s=>(⟨⟨s⟩⟩:ByteArray))[j]? = some x→w.cell? ⟨lo.blk,(lo.sh+0)*lo.k+j,none⟩=some (.string x):=by
    intro j x hj;rw[gM]at hj;cases hlj:l[j]? with
    | none=>rw[hlj]at hj; cases hj
    | some s=>
     rw[hlj]at hj;simp only[Option.map_some,oI]at hj;subst hj;have hrow:(l.map fun s=>[Aa.str s])[0+j]? = some [.str s]:=by rw[Nat.zero_add,gM,hlj]; rfl
     obtain⟨u,k1,_,k3⟩:=q4.2 (0+j) _ 0 _ hrow rfl;have:=B8 k3;subst this;simp only[World.cell?,g4,Option.isSome_none,bF,if_false];rw[← k1,q1]
     congr 1
     omega
   have Aw:=hJ.2 lo.blk ((lo.sh+0)*lo.k) cap (l.map fun s=>(⟨⟨s⟩⟩:ByteArray)) ⟨⟨sep⟩⟩ w hcell (G4 g4) (by simp; omega) (by simp; omega) (by simpa[Function.comp_def]using Nat.le_trans hlen (by decide))
   rw[lM,HU]at Aw;refine Aw.mono ?_;rintro e w' ⟨rfl,hB⟩;refine⟨_,.str (Lib.join l sep),m.mem,Φ,ρ,rfl,.refl _ _,fun _ _ _ h=>h,hr.below hB,?_,lR _,m,rfl,hK⟩
   have:(l.map fun s=>(⟨⟨s⟩⟩:ByteArray)).map (·.data.toList)=l:=by
    rw[List.map_map];exact List.map_id'' (fun _=>rfl) l
   rw[this];exact .str _
theorem vJ{m:Ac}{sep:List UInt8}{id:Nat}{K:Aa→Ac→Prop}(hK:K (.str []) m):SC Tryz.prog 43 [.Ai,.str sep] m id K:=by
 have hJ:=WK;refine⟨hJ.1,fun W Φ ρ vs w hr ha Ch=>?_⟩
 obtain⟨v1,v2,rfl⟩:∃ v1 v2,vs = #[v1,v2]:=by
  have hs:vs.size=2:=by simpa using ha.1
  refine⟨vs[0],vs[1],?_⟩;apply Array.ext
  ·simp[hs]
  ·intro i h1 h2;have:i=0∨i=1:=by omega
   rcases this with rfl|rfl<;>rfl
 have r1:=ha.2 0 _ v1 rfl rfl;have r2:=ha.2 1 _ v2 rfl rfl;have e2:=B8 r2;subst e2;cases r1;refine(Tryz.strings_Join_none _ _ _ w).mono ?_;rintro e w' ⟨rfl,rfl⟩;exact⟨_,.str [],m.mem,Φ,ρ,rfl,.refl _ _,fun _ _ _ h=>h,hr,.str _,lR _,m,rfl,hK⟩
def W1(m a s:Nat)(mk:List UInt8):List (List UInt8):=(List.range m).map fun k=>if a≤k∧k<a+s then mk else [124]
def Qt(r:Ro):Nat:=if r.1=2 then r.2.2.1.toNat else 2
def PF(cap:List UInt8)(r:Ro):List UInt8:=if r.1=2 then (if r.2.2.2 then [43]else [45])else cap
def Gp(m:Nat)(r:Ro):Nat:=if r.1=2 then m - r.2.2.1.toNat+(4 - r.2.2.1.toNat)else m - 2
def FJ:Nat→List Ro→Prop
 | _,[]=>True
 | m,r :: rs=>(M8 m r∨J3 m r)∧FJ (Gp m r) rs
def Ek(cap:List UInt8):Nat→List Ro→List (List UInt8)
 | _,[]=>[]
 | m,r :: rs=>Lib.join (W1 m r.2.1.toNat (Qt r) (PF cap r)) [32] :: Ek cap (Gp m r) rs
theorem Xv{m:Nat}{below:Bool}:∀ (rs:List Ro) (front:List Nat) (L:List (Nat×Nat)) (X:List Nd),(X9 m below rs front L X).1=true→FJ front.length rs
 | [],_,_,_,_=>trivial
 | r :: rs,front,L,X,h=>by
  simp only[X9]at h;split at h
  ·rename_i hc;have hc':=hc;obtain⟨k1,c2,c3,_,_⟩:=hc';refine⟨.inl hc,?_⟩;have:=Xv rs _ _ _ h;rw[lA,lK,List.length_drop]at this;unfold Gp;rw[iN (by omega)]
   have e:min r.2.1.toNat front.length+(front.length - (r.2.1.toNat+2))=front.length - 2:=by omega
   rw[e]at this;exact this
  ·split at h
   ·rename_i hc;have hc':=hc;obtain⟨hk,c1,c2,c3,c4⟩:=hc';refine⟨.inr hc,?_⟩;have:=Xv rs _ _ _ h;rw[lA,lA,lK,List.length_drop]at this;unfold Gp;rw[iP hk];have e:min r.2.1.toNat front.length+(O4 (2*m+4*X.length) r.2.2.1.toNat).length+(front.length - (r.2.1.toNat+r.2.2.1.toNat))=front.length - r.2.2.1.toNat+(4 - r.2.2.1.toNat):=by
     unfold O4;rw[lM,List.length_range];omega
    rw[e]at this;exact this
   ·cases h
end Go.Ab
end
section
namespace Go.Ab
open Go Go.AE Go.Proofs
open Go.Plain
attribute [local simp] C8 D6 D3 B4 B0 C6 D7 C7 D9 B7 C3 Gk E5 B6 D8 C2 C1
@[local simp] theorem Ydj(id : Nat)(f : Ah → Aa)(get : Nat → Option Ag)(k : IntKind)(x : Ah) : Ak id f get (.CF k x) = match f x with
 | .int _ n=>some (.int k (k.wrap n),[])
 | _=>none:=rfl
theorem QM{x:Nat}(h:x≤1000000):IntKind.u64.wrap (x:Int)=x:=by
 show(x:Int) % 18446744073709551616=x;omega
theorem fdU{x:Nat}(h:x≤1000000):(x:Int).fdiv (2 ^ min 32 IntKind.u64.bits)=0:=by
 show(x:Int).fdiv 4294967296=0;rw[Int.fdiv_eq_ediv_of_nonneg _ (by omega)]
 omega
theorem Z75(n:Nat)(hn:n≤1000000):AS Tryz.prog 152 [.int .u64 1,.int .u64 n] (.tuple [.int .u64 0,.int .u64 n]):=by
 refine MJ (k:=6) rfl rfl ((show Cc Tryz.prog 152 [.int .u64 1,.int .u64 n] ⟨[],1⟩ fun r mm=>r=.tuple [.int .u64 0,.int .u64 n]∧mm=⟨[],1⟩ from ?_).mono fun r m' h=>by obtain⟨rfl,rfl⟩:=h; rfl)
 refine GV hm [] Tryz.func152 sW rfl rfl fun K hK=>?_
 have hKb:=hK _ _ ⟨rfl,rfl⟩;have a1:X4 .and .num (.int .u64 1) (.int .u64 4294967295)=some (.int .u64 1):=by rfl
 have a0:X4 .and .num (.int .u64 0) (.int .u64 4294967295)=some (.int .u64 0):=by rfl
 have an:X4 .and .num (.int .u64 n) (.int .u64 4294967295)=some (.int .u64 n):=by
  have e1:((n:Int) % 2 ^ IntKind.u64.bits).toNat=n:=by show((n:Int) % 18446744073709551616).toNat=n; omega
  have e2:((4294967295:Int) % 2 ^ IntKind.u64.bits).toNat=2 ^ 32 - 1:=rfl;show some (Aa.int .u64 (IntKind.u64.wrap (((n:Int) % 2 ^ IntKind.u64.bits).toNat &&& ((4294967295:Int) % 2 ^ IntKind.u64.bits).toNat:Nat)))=_;rw[e1,e2,Nat.and_two_pow_sub_one_eq_mod,Nat.mod_eq_of_lt (by omega),QM hn]
 have s1:X4 .shr .num (.int .u64 1) (.int .u64 32)=some (.int .u64 0):=by rfl
 have s0:X4 .shr .num (.int .u64 0) (.int .u64 32)=some (.int .u64 0):=by rfl
 have sn:X4 .shr .num (.int .u64 n) (.int .u64 32)=some (.int .u64 0):=by
  show some (Aa.int .u64 ((n:Int).fdiv (2 ^ min 32 IntKind.u64.bits)))=_;rw[fdU hn]
 have w0:IntKind.u64.wrap 0=0:=rfl;simp[QM hn,a1,a0,an,s1,s0,sn,w0];exact Z6 hKb [] (by simp)
theorem eD(n:Nat)(hn:n≤1000000):AS Tryz.prog 116 [.int .u64 1,.int .u64 n] (.tuple [.int .u64 0,.int .u64 n]):=by
 refine MJ (k:=6) rfl rfl ((show Cc Tryz.prog 116 [.int .u64 1,.int .u64 n] ⟨[],1⟩ fun r mm=>r=.tuple [.int .u64 0,.int .u64 n]∧mm=⟨[],1⟩ from ?_).mono fun r m' h=>by obtain⟨rfl,rfl⟩:=h; rfl)
 refine GV hm [] Tryz.func116 wN rfl rfl fun K hK=>?_
 have hKb:=hK _ _ ⟨rfl,rfl⟩;have h64:=Z75 n hn;simp[QM hn];refine L3 h64 ?_;simp[QM hn];exact Z6 hKb [] (by simp)
def F4(k n:Nat):List (List Aa):=List.replicate k [.str [124]]++List.replicate (n - k) [.str []]
theorem Z33{k n:Nat}(h:k≤n):(F4 k n).length=n:=by unfold F4; simp; omega
theorem cZ(s:List UInt8):∀ n,V3 (List.replicate n [Aa.str s])=true
 | 0=>rfl
 | n+1=>by rw[List.replicate_succ]; show(W9 [Aa.str s]&&V3 _)=true; rw[cZ s n]; rfl
theorem v8(q:Nat→Nat)(k n:Nat):Z3 q (F4 k n)=F4 k n:=by
 refine X7 q _ ?_;unfold F4;rw[bB,cZ,cZ];rfl
theorem xz{n:Nat}(h:0<n):Vc (List.replicate n [Aa.str []]) 0 n [[.str [124]]]=F4 1 n:=by
 obtain⟨m,rfl⟩:∃ m,n=m+1:=⟨n - 1,by omega⟩
 unfold Vc F4;have:min 1 (m+1)=1:=by omega
 simp[this]
theorem mJ{k n:Nat}:(F4 k n).take k=List.replicate k [.str [124]]:=by unfold F4; simp
theorem Z89{k n:Nat}(h:k≤n):Vc (F4 k n) k (n - k) (List.replicate k [.str [124]])=F4 (k+min k (n - k)) n:=by
 unfold Vc;rw[mJ,List.length_replicate,List.take_replicate];have e:min (min k (n - k)) k=min k (n - k):=by omega
 rw[e];unfold F4;rw[List.drop_append,List.length_replicate,List.drop_replicate,List.drop_replicate];have e1:k - (k+min k (n - k))=0:=by omega
 have e2:n - k - (k+min k (n - k) - k)=n - (k+min k (n - k)):=by omega
 rw[e1,e2,List.replicate_zero,List.nil_append,List.replicate_append_replicate]
theorem cQ(n:Nat)(h0:0<n)(hn:n≤1000):Cc Tryz.prog 74 [.sl 1 0 1,.int .i64 n] ⟨[(1,.cells 1 [[.str [124]]])],2⟩ fun r mm=>
 r=.sl 2 0 n∧mm=⟨[(2,.cells 1 (List.replicate n [.str [124]]))],3⟩:=by
 refine GV hm [] Tryz.func74 UZ rfl rfl fun K hK=>?_
 have hKb:=hK _ _ ⟨rfl,rfl⟩;clear hK;have hmul:=eD n (by omega)
 have hnz:¬(n:Int)<0:=by omega
 have c1:IntKind.u64.wrap 1=1:=rfl;have Bg:n≤1048576:=by omega
 have Cq:16*n≤1048576:=by omega
 have hwi:IntKind.i64.wrap (n:Int)=n:=S8 (by omega) (by omega)
 have hbig:¬(9223372036854775807:Int)<n:=by omega
 simp[QM (show n≤1000000 by omega),hnz,c1]
 refine L3 hmul ?_;simp[QM (show n≤1000000 by omega),hnz,c1,hbig,Bg,Cq,hwi,Yy]
 have EH:min 1 n=1:=by omega
 have hB:=fun q k=>v8 q k n
 simp[EH,Yy,T7];rw[xz h0];refine T6 (α:=Nat) (fun k=>[(7,.sl 3 0 n),(8,.int .i64 k)]) (fun k=>⟨[(3,.cells 1 (F4 k n))],4⟩) (fun k=>n - k) (fun k=>1≤k∧k≤n) 1 [(3,24)] (by simp[hB]) (by omega) ?_
 rintro k ⟨hk1,hkn⟩ N hN;have hl:=Z33 hkn;have hBk:=fun q=>hB q k
 by_cases he:k=n
 ·subst he;have hbk:F4 k k=List.replicate k [.str [124]]:=by unfold F4; simp
  rw[hbk]at hBk ⊢;simp;exact Z6 hKb [(2,3)] (by simp[hBk])
 ·have hst:=Z89 hkn;have htk:=mJ (k:=k) (n:=n);obtain⟨k2,hk2⟩:∃ k2,k2=min k (n - k):=⟨_,rfl⟩
  rw[← hk2]at hst;have hN1:=hN (k+k2);have hkn':k<n:=by omega
  have hkni:(k:Int)<n:=by omega
  have hBk2:=fun q=>hB q (k+k2)
  have hw:=Y1 ((k:Int)+k2) ((k+k2:Nat):Int);have hmin:min k (n - k)=k2:=hk2.symm;have hle:k≤n:=hkn;have hwo:L4 [] (AQ.copy 1 (tZ 41) (tZ 44))=false:=rfl;generalize F4 (k+k2) n=B2 at *;generalize F4 k n=B1 at *;simp[hkn',hkni,hl,Yy,T7,Q3,hwo,hle,htk,hst,hmin,hw];exact hN1 [] _ _ (by omega) (by omega) (by simp[hBk2])
end Go.Ab
end
