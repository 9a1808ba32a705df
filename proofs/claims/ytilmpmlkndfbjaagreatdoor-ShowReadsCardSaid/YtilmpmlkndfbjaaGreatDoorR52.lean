/- Part 52 of the proof: Ew. -/
import Derived.Test.YtilmpmlkndfbjaaGreatDoorR51
set_option linter.all false
namespace Go.Known
open Go Go.AE Go.Proofs
open Go.Plain
attribute [local simp] Zd6 Ze1 Zeb Zee Zep Ze7 Zex Zen Zef Zd8 Ze4 isV isVo Zeo Zez Zeu Zd9
theorem Zm6{m:Nat}{below:Bool}{oth:List Nat}:∀ (c:List Ro) (b:List Nat) (L:List (Nat×Nat)) (X:List Nd),OpE m b oth L X →
 (∃ g,OpE m g oth (W1 m below c b L X).2.1 (W1 m below c b L X).2.2)∧(W1 m below c b L X).2.2.length≤X.length+W9 c
 | [],b,L,X,h=>⟨⟨b,h⟩,Nat.le_refl _⟩
 | r :: c,b,L,X,h=>by
  simp only[W1,Ztb];split
  ·rename_i e;obtain⟨_,j,k,_,_⟩:=e;obtain⟨d,f⟩:=Zm6 (below:=below) c _ _ _ (h.cap (i:=r.2.1.toNat) (by omega))
   exact⟨d,by omega⟩
  ·split
   ·rename_i e;obtain⟨l,o,j,k,c4⟩:=e;obtain⟨d,f⟩:=Zm6 (below:=below) c _ _ _ (h.cross (a:=r.2.1.toNat) (n:=r.2.2.1.toNat) (by omega) (by omega) (by omega) (r.2.2.2,below))
    refine⟨d,?_⟩;rw[if_pos l];rw[List.length_append,List.length_singleton]at f;omega
   ·exact⟨⟨b,h⟩,Nat.le_add_right _ _⟩
theorem Z5a{P:Program}{g:FuncId}{args0 args:List AVal}{v0:AVal}(h:PCall P g args0 v0){m:SMem}(S:List Nat)(Z:args.map (fzV m.get S)=args0){id:Nat}{K:AVal→SMem→Prop}(V:K v0 ⟨Q6 S m.bl,m.next⟩):SC P g args m id K:=by
 subst Z;have D:=h (SMem.mem ⟨Q6 S m.bl,m.next⟩) [id];refine⟨D.1,fun W Φ ρ vs w f c q=>?_⟩
 obtain⟨Φs,B,F,G,H,I⟩:=Zht S f;have p:RL Φs ρ (args.map (fzV m.get S)) vs:=by
  refine⟨by rw[c.1,List.length_map],fun i x v a hv=>?_⟩
  rw[List.getElem?_map]at a;cases z:args[i]? with
  | none=>rw[z]at a; cases a
  | some y=>
   rw[z]at a;injection a with a
   subst a;exact I _ _ (c.2 i y v z hv)
 have d:∀ b x,(SMem.mem ⟨Q6 S m.bl,m.next⟩).get b=some x→m.mem.get b=some x∧Y8 b S=false:=fun b x a=>by
  obtain⟨k,n⟩:=Zhz (ks:=S) (l:=m.bl) a;refine⟨k,?_⟩;cases hb:Y8 b S with
  | false=>rfl
  | true=>exact absurd (memN_iff.1 hb) n
 have j:Rel W Φs ρ (SMem.mem ⟨Q6 S m.bl,m.next⟩) w:=by
  refine⟨f.base,F,fun b x a=>?_,fun b b' x E l l' k n N O Q=>?_,fun b l hl=>f.fresh b l hl,G⟩
  ·obtain⟨a,Y⟩:=d b x a;obtain⟨l',o,C,J,g3,L,M⟩:=f.live b x a;exact⟨l',o,C,J,H _ x l' a C Y,L,M.ext B⟩
  ·exact f.inj b b' x E l l' (d b x k).1 (d b' E n).1 N O Q
 refine(D.2 W Φs ρ vs w j p q).mono fun e w' he=>?_
 obtain⟨u,r,m',A,ρ',rfl,U,hk,t,X,s,rfl,rfl⟩:=he;exact⟨u,r,_,A,ρ',rfl,B.trans U,hk,t,X,s,_,rfl,V⟩
theorem mnA{p q:Prop} [Decidable p] [Decidable q] {c d e:Nat} (a:c≠d) (b:c≠e):Y8 c (if p then (if q then []else [d])else e :: (if q then []else [d]))=false:=by
 by_cases f:p<;>by_cases g:q<;>simp[Y8,f,g,a,b]
theorem mnB{q:Prop} [Decidable q] {d e k:Nat} {R:List (List AVal)} {X:List (Nat×ABlk)}:(bif Y8 e (if R=[]then (if q then []else [d])else e :: (if q then []else [d]))then X else blV e k R X)=X:=by
 by_cases h:R=[]
 ·subst h;rw[Za4];cases Y8 e _<;>rfl
 ·rw[if_neg h];simp[Y8]
theorem mnC{p:Prop} [Decidable p] {d e k:Nat} {R:List (List AVal)} {X:List (Nat×ABlk)}:(bif Y8 d (if p then (if R=[]then []else [d])else e :: (if R=[]then []else [d]))then X else blV d k R X)=X:=by
 by_cases h:R=[]
 ·subst h;rw[Za4];cases Y8 d _<;>rfl
 ·rw[if_neg h];by_cases a:p<;>simp[Y8,a]
theorem Znf(m:Nat):frC 0 m=V2 m∧frC 1 m=U2 m:=⟨rfl,rfl⟩
set_option maxRecDepth 100000 in
set_option maxHeartbeats 16000000 in
theorem Z5h(F:Int)(G:List Int)(A B:List Ro)(AV BV:AVal)(hA:RowsV AV A)(hB:RowsV BV B)(hG:G.length≤1000)(bn:A.length≤1000)(bp:B.length≤1000) :
 Ctr Tryz.prog 10 [.agg [.int .i64 F,.imm (Z2 G),AV,BV]] ⟨[],1⟩ fun r mm=>r=rdV F G A B∧mm=⟨[],1⟩:=by
 refine Zg4 hm [] Tryz.func10 Yad rfl rfl fun K hK=>?_
 obtain⟨Q,U,c0⟩:=hA.cells;obtain⟨J,L,c1⟩:=hB.cells;have p:=hA.len;have t:=hB.len;have j:=hA.ren;have o:=hB.ren;have M:=Zap G;have I:∀ q,Z6 q (Z2 G)=Z2 G:=fun q=>X6 q _ (L5 G)
 have hk:∀ f ls e,rdN F G A B=(f,ls,e)→K (.tuple [.agg [.int .i64 f,imV (ls.map rowL)],.int .i64 e]) ⟨[],1⟩:=fun f ls e he=>hK _ _ ⟨by unfold rdV; rw[he],rfl⟩
 clear hK;have O:imV (List.map rowL [])=.nilSl:=rfl;by_cases aj:F<0
 ·have a:=hk 0 [] 2 (by unfold rdN; rw[if_pos (.inl aj)])
  rw[O]at a;simp[Q,J,U,L,aj,p,t,M,W2];exact Z9 a [] (by simp)
 by_cases ao:40<F
 ·have a:=hk 0 [] 2 (by unfold rdN; rw[if_pos (.inr (.inl ao))])
  rw[O]at a;simp[Q,J,U,L,aj,ao,p,t,M,W2];exact Z9 a [] (by simp)
 have b9:IntKind.i64.wrap (F+1)=F+1:=Z1 (by omega) (by omega)
 by_cases d:¬(G.length:Int)=F+1
 ·have a:=hk 0 [] 2 (by unfold rdN; rw[if_pos (.inr (.inr (.inl d)))])
  rw[O]at a;simp[Q,J,U,L,aj,ao,p,t,M,W2,b9,d];exact Z9 a [] (by simp)
 replace d:(G.length:Int)=F+1:=Classical.not_not.1 d
 have bq:G≠[]:=fun e=>by rw[e]at d; simp at d; omega
 have b3:=fun i (hi:i<G.length)=>Zf6 (l:=G) hi
 have c2:G.length=(F+1).toNat:=by omega
 have c5:G.length≤41:=by omega
 simp[Q,J,U,L,aj,ao,p,t,M,W2,b9,d];refine G1 (α:=Nat) (fun i=>[(1,.ptr 1 0 0),(2,.ptr 2 0 0),(4,.int .i64 0),(5,.int .i64 i)])
  (fun _=>⟨[(2,.cells 2 [[.int .i64 0,.nilSl]]),(1,.cells 4 [[.int .i64 F,.imm (Z2 G),AV,BV]])],3⟩) (fun i=>G.length - i) (fun i=>i≤G.length ∧ ∀ k,k<i→0≤G.getD k 0) 0 [] (by simp[I,j,o]) ⟨by omega,fun k hk=>absurd hk (Nat.not_lt_zero _)⟩ ?_
 rintro i ⟨hi,av⟩ N hN;by_cases H:¬i=G.length
 ·have Z:i<G.length:=by omega
  have aa:(i:Int)<F+1:=by omega
  have hg:=b3 i Z;obtain⟨_,ar⟩:=Y5 hg;have aq:i<(Z2 G).length:=by omega
  have hw:IntKind.i64.wrap ((i:Int)+1)=((i+1:Nat):Int):=by rw[Z1 (by omega) (by omega)]; omega
  by_cases au:G.getD i 0<0
  ·have a:=hk 0 [] 2 (by unfold rdN; rw[if_pos (.inr (.inr (.inr ((Zop bq).2 ⟨_,(by rw[List.getD,gE Z]; exact List.getElem_mem Z),au⟩))))])
   rw[O]at a;generalize G.getD i 0=g at *;generalize Z2 G=GR at *;simp[M,d,Z,aa,hg,ar,au,aq,hw,W2];exact Z9 a [] (by simp)
  ·have aw:=hN (i+1);have bj:∀ k,k<i+1→0≤G.getD k 0:=fun k hk=>by
    rcases Nat.lt_or_ge k i with c|c
    ·exact av k c
    ·rw[show k=i by omega]; omega
   generalize cp:G.getD i 0=g at *;generalize c6:Z2 G=GR at *;simp[M,d,Z,aa,hg,ar,au,aq,hw,W2];exact aw [] _ _ (by omega) ⟨by omega,bj⟩ (by simp[I,j,o])
 replace H:i=G.length:=Classical.not_not.1 H
 subst H;clear hN;have bi:∀ y,y∈G→0≤y:=fun y hy=>by
  obtain⟨k,hk,rfl⟩:=List.mem_iff_getElem.1 hy;have:=av k hk;rwa[List.getD,gE hk]at this
 have ct:¬minL G<0:=fun h=>by
  obtain⟨y,hy,dc⟩:=(Zop bq).1 h;have:=bi y hy;omega
 obtain⟨gs,bg⟩:∃ gs:List Nat,gs=G.map Int.toNat:=⟨_,rfl⟩
 have br:G=gs.map fun g=>((g:Nat):Int):=by
  rw[bg,List.map_map]
  conv=>lhs; rw[← List.map_id G]
  refine List.map_congr_left fun y hy=>?_
  have:=bi y hy;show y=((y.toNat:Nat):Int);omega
 have cq:gs.length=G.length:=by rw[bg,List.length_map]
 have D:∀ z,(if 100<W9 A+W9 B∨400<gs.sum+2*(W9 A+W9 B)then (0,[],7)
  else if gs.sum=0∧A.length+B.length=0 then (F,[],0)
  else if gs.sum=0∨(P6 gs.sum A B).1=false then (0,[],3)
  else if Whl gs.sum (P6 gs.sum A B).2.2 (P6 gs.sum A B).2.1 then (F,X8 (Y0 gs.sum (plE 0 gs) (P6 gs.sum A B).2.2 (P6 gs.sum A B).2.1),0)else (0,[],3))=z→rdN F G A B=z:=fun z hz=>by
  unfold rdN;rw[if_neg (by simp[aj,ao,d,ct]),← bg]
  exact hz
 have bs:∀ i,i<gs.length→(Z2 G)[i]? = some [.int .i64 (gs.getD i 0:Nat)]:=fun i hi=>by
  rw[Zf6 (by omega)]
  have:G.getD i 0=((gs.getD i 0:Nat):Int):=by rw[br,List.getD,List.getElem?_map,List.getD,gE hi]; rfl
  rw[this]
 clear bi av b3;simp[M,d,W2];refine G1 (α:=Nat) (fun i=>[(1,.ptr 1 0 0),(2,.ptr 2 0 0),(4,.int .i64 (gs.take i).sum),(6,.int .i64 i)])
  (fun _=>⟨[(2,.cells 2 [[.int .i64 0,.nilSl]]),(1,.cells 4 [[.int .i64 F,.imm (Z2 G),AV,BV]])],3⟩) (fun i=>G.length - i) (fun i=>i≤G.length∧(gs.take i).sum≤400*i) 0 [] (by simp[I,j,o]) ⟨by omega,by simp⟩ ?_
 rintro i ⟨hi,b5⟩ N hN;by_cases H:¬i=G.length
 ·have Z:i<G.length:=by omega
  have aa:(i:Int)<F+1:=by omega
  have hg:=bs i (by omega)
  obtain⟨_,ar⟩:=Y5 hg;have aq:i<(Z2 G).length:=by omega
  have hw:IntKind.i64.wrap ((i:Int)+1)=((i+1:Nat):Int):=by rw[Z1 (by omega) (by omega)]; omega
  have b6:(gs.take (i+1)).sum=(gs.take i).sum+gs.getD i 0:=by
   rw[List.take_add_one,gE (by omega),Option.toList_some,List.sum_append,List.getD,gE (by omega)]
   simp
  have db:=Zq7 b6 rfl;have aw:=hN (i+1);rw[b6]at aw;generalize cp:gs.getD i 0=g at *;by_cases a0:400<g
  ·have a:=hk 0 [] 7 (D _ (by rw[if_pos (.inr (by omega))]))
   rw[O]at a;generalize Z2 G=GR at *;have a7:(400:Int)<g:=by omega
   simp[M,d,Z,aa,hg,ar,aq,hw,W2,a0,a7];exact Z9 a [] (by simp)
  ·have a7:¬(400:Int)<g:=by omega
   generalize (gs.take i).sum=s at *;have cy:IntKind.i64.wrap ((s:Int)+g)=((s+g:Nat):Int):=by rw[Z1 (by omega) (by omega)]; omega
   generalize Z2 G=GR at *;simp[M,d,Z,aa,hg,ar,aq,hw,W2,a0,a7,cy];exact aw [] _ _ (by omega) ⟨by omega,by omega⟩ (by simp[I,j,o])
 replace H:i=G.length:=Classical.not_not.1 H
 subst H;clear hN;have cx:gs.take G.length=gs:=List.take_of_length_le (by omega)
 rw[cx]at b5 ⊢;obtain⟨m,hm⟩:∃ m,m=gs.sum:=⟨_,rfl⟩
 rw[← hm]at D b5 ⊢;have c9:=Zgh A;have da:=Zgh B;have cl:=Zr6 AV A hA bn;have cm:=Zr6 BV B hB bp;obtain⟨n,hn⟩:∃ n,n=W9 A+W9 B:=⟨_,rfl⟩
 have az:IntKind.i64.wrap ((W9 A:Int)+(W9 B:Int))=(n:Nat):=by rw[Z1 (by omega) (by omega)]; omega
 rw[← hn]at D;simp[M,d,W2,Q,J,U,L];refine A6 cl ?_;simp[J,L];refine A6 cm ?_;have ag:IntKind.i64.wrap (2*(n:Int))=2*n:=Z1 (by omega) (by omega)
 have ah:IntKind.i64.wrap ((m:Int)+2*n)=(m:Int)+2*n:=Z1 (by omega) (by omega)
 by_cases c3:400<m∨100<n∨400<m+2*n
 ·have a:=hk 0 [] 7 (D _ (by rw[if_pos (by omega)]))
  rw[O]at a;generalize Z2 G=GR at *;by_cases b1:400<m
  ·have ai:(400:Int)<m:=by omega
   simp[az,b1,ai];exact Z9 a [] (by simp)
  have ai:¬(400:Int)<m:=by omega
  by_cases b2:100<n
  ·have an:(100:Int)<n:=by omega
   simp[az,b1,ai,b2,an];exact Z9 a [] (by simp)
  have an:¬(100:Int)<n:=by omega
  have a6:(400:Int)<(m:Int)+2*n:=by omega
  simp[az,b1,ai,b2,an,a6,ag,ah];exact Z9 a [] (by simp)
 have b1:¬400<m:=by omega
 have ai:¬(400:Int)<m:=by omega
 have b2:¬100<n:=by omega
 have an:¬(100:Int)<n:=by omega
 have a6:¬(400:Int)<(m:Int)+2*n:=by omega
 rw[if_neg (by omega)]at D
 obtain⟨NN,ch⟩:∃ NN,NN=2*m+4*n:=⟨_,rfl⟩
 have b7:IntKind.i64.wrap (2*(m:Int))=2*m:=Z1 (by omega) (by omega)
 have b8:IntKind.i64.wrap (4*(n:Int))=4*n:=Z1 (by omega) (by omega)
 have ca:IntKind.i64.wrap (2*(m:Int)+4*n)=(NN:Nat):=by rw[Z1 (by omega) (by omega)]; omega
 have bv:NN≤1048576:=by omega
 have a9:8*NN≤1048576:=by omega
 have cg:Z2 (jnZ NN [])=List.replicate NN [AVal.int .i64 0]:=by
  show Z2 (List.replicate NN 0)=_;rw[Z2,List.map_replicate]
 have a2:OpE m (frC 0 m) (frC 1 m) [] []:=by
  unfold OpE;rw[(Znf m).1,(Znf m).2];simp only[U9,List.flatMap_nil,List.append_nil,List.length_nil,Nat.mul_zero,Nat.add_zero];exact Zje m
 have Y:=Zrr m NN 0 false rfl AV A hA [] [] (frC 1 m) a2 (by simp; omega) (by omega) bn
 have cu:orR []=[]:=rfl;have cs:lwR []=[]:=rfl;rw[cu,cs,Zay,Zay,Za4,Za4,cg]at Y;obtain⟨⟨F',ax⟩,bd⟩:=Zm6 (below:=false) A _ _ _ a2;simp only[List.length_nil,Nat.zero_add]at bd Y;obtain⟨V,L1,X1,ae⟩:∃ V L1 X1,W1 m false A (frC 0 m) [] []=(V,L1,X1):=⟨_,_,_,rfl⟩
 rw[ae]at ax bd Y;simp only at ax bd Y;have a1:OpE m (frC 1 m) F' L1 X1:=by
  unfold OpE at ax ⊢;exact(List.perm_append_comm.append_right _).trans ax
 have al:=Zrr m NN 1 true rfl BV B hB L1 X1 F' a1 (by omega) (by omega) bp
 obtain⟨⟨F2,bw⟩,bz⟩:=Zm6 (below:=true) B _ _ _ a1;obtain⟨ac,u,v,am⟩:∃ ac u v,W1 m true B (frC 1 m) L1 X1=(ac,u,v):=⟨_,_,_,rfl⟩
 rw[am]at bw bz al;simp only at bw bz al;have ab:V=true→P6 m A B=(ac,u,v):=fun e=>by
  unfold P6;rw[← (Znf m).1,ae];simp only[e,if_true];exact am
 have a5:V=false→(P6 m A B).1=false:=fun e=>by
  unfold P6;rw[← (Znf m).1,ae];simp only[e,bF,if_false]
 have b1:∀ q,Z6 q (List.replicate NN [AVal.int .i64 0])=List.replicate NN [.int .i64 0]:=fun q=>by rw[Zah]; simp[U7,AVal.ren]
 have bu:∀ q (l:List Int),Z6 q (Z2 l)=Z2 l:=fun q l=>X6 q _ (L5 l)
 have C:∀ q X,Z6 q (orR X)=orR X:=fun q X=>X6 q _ (Zgd X).1
 have w:∀ q X,Z6 q (lwR X)=lwR X:=fun q X=>X6 q _ (Zgd X).2
 have cz:(0:Int)≤(NN:Int):=by omega
 obtain⟨ZR,b0⟩:∃ ZR,ZR=List.replicate NN [AVal.int .i64 0]:=⟨_,rfl⟩
 obtain⟨J1,bt⟩:∃ J1,J1=Z2 (jnZ NN L1):=⟨_,rfl⟩
 obtain⟨J2,a8⟩:∃ J2,J2=Z2 (jnZ NN u):=⟨_,rfl⟩
 have E:∀ q,Z6 q J1=J1:=fun q=>by rw[bt]; exact bu q _
 have P:∀ q,Z6 q J2=J2:=fun q=>by rw[a8]; exact bu q _
 rw[← bt]at Y al;rw[← a8]at al;rw[← b0]at Y b1;simp[az,b1,ai,b2,an,a6,ag,ah,b7,b8,ca,bv,a9,cz,← b0,Q,U];refine Q1 Y [(1,35)] (by simp[j]) (by simp[b1]) (by simp) ?_
 rintro _ _ ⟨rfl,rfl⟩;simp[E,C,w,J,L,I,j,o];refine Q1 al [(1,50),(2,51),(3,52)] (by simp[o]) (by simp +contextual [E,C,w]) (by simp) ?_
 rintro _ _ ⟨rfl,rfl⟩;have cd:m=0∧A.length+B.length=0→V=true∧ac=true:=fun ⟨h1,h2⟩=>by
  have ce:A=[]:=List.eq_nil_of_length_eq_zero (by omega)
  have cf:B=[]:=List.eq_nil_of_length_eq_zero (by omega)
  rw[ce,h1]at ae;rw[cf,h1]at am;simp[W1,frC]at ae am;exact⟨ae.1,am.1⟩
 have a3:¬(V=true∧ac=true)→rdN F G A B=(0,[],3):=fun h=>D _ (by
  rw[if_neg (fun e=>h (cd e)),if_pos]
  refine .inr ?_;cases V with
  | false=>exact a5 rfl
  | true=>
   rw[ab rfl];cases ac with
   | false=>rfl
   | true=>exact absurd ⟨rfl,rfl⟩ h)
 clear Y al a5;by_cases ay:¬(V=true∧ac=true)
 ·have a:=hk 0 [] 3 (a3 ay);rw[O]at a;cases V with
  | false=>
   simp[mnA,mnB,mnC,P,C,w,I,j,o,E];exact Z9 a [] (by simp)
  | true=>
   cases ac with
   | false=>
    simp[mnA,mnB,mnC,P,C,w,I,j,o,E];exact Z9 a [] (by simp)
   | true=>exact absurd ⟨rfl,rfl⟩ ay
 obtain⟨rfl,rfl⟩:=Classical.not_not.1 ay;clear ay a3 cd;have ab:=ab rfl;by_cases ad:m=0
 ·have af:((m:Nat):Int)=0:=by omega
  have cb:IntKind.i64.wrap ((n:Int)+A.length)=(n:Int)+A.length:=Z1 (by omega) (by omega)
  have cc:IntKind.i64.wrap ((n:Int)+A.length+B.length)=(n:Int)+A.length+B.length:=Z1 (by omega) (by omega)
  by_cases bm:A.length+B.length=0
  ·have a:=hk F [] 0 (D _ (by rw[if_pos ⟨ad,bm⟩]))
   rw[O]at a;have bh:¬0<(n:Int)+A.length+B.length:=by omega
   simp[mnA,mnB,mnC,P,C,w,I,j,o,E,p,t,cb,cc,bh,Q,J,U,L,ad,af];exact Z9 a [] (by simp)
  ·have a:=hk 0 [] 3 (D _ (by rw[if_neg (fun e=>bm e.2),if_pos (.inl ad)]))
   rw[O]at a;have bh:0<(n:Int)+A.length+B.length:=by omega
   simp[mnA,mnB,mnC,P,C,w,I,j,o,E,p,t,cb,cc,bh,Q,J,U,L,ad,af];exact Z9 a [] (by simp)
 have af:¬((m:Nat):Int)=0:=by omega
 have ck:=Zf5 A _ _ _ _ _ ae;have c8:=Zf5 B _ _ _ _ _ am;simp only[List.length_nil,Nat.zero_add]at ck;have be:v.length=n:=by omega
 have ak:Rdg m v u:=Zsy (by omega) ab
 have bf:=Z2v m gs G bs cq hm.symm (by omega) v u ak (by omega)
 obtain⟨c7,_,_,cj⟩:=Zoy ak;have bc:=Yce ak;rw[if_neg (fun e=>ad e.1),ab,if_neg (fun e=>by rcases e with e|e; exact ad e; exact absurd e (by simp))]at D
 simp only at D;rw[be]at bf bc cj;rw[← ch,← a8]at bf;have ba:=Zlo m (plE 0 gs) v u (bkT m v u) (bkT m v u);have bb:∀ q,Z6 q ((frR m (plE 0 gs) v u (bkT m v u) (bkT m v u)).map rowL)=(frR m (plE 0 gs) v u (bkT m v u) (bkT m v u)).map rowL:=fun q=>X6 q _ (U6 _)
 have bx:(plE 0 gs).length=m:=by rw[Zii,hm]
 simp[mnA,mnB,mnC,P,C,w,I,j,o,E,p,t,Q,J,U,L,ad,af];refine Q1 bf [(1,65),(2,66),(3,67)] (by simp[I]) (by simp +contextual [P,C,w]) (by simp) ?_
 rintro _ _ ⟨rfl,rfl⟩;by_cases hT:bkT m v u=m+2*n
 ·have hW:=bc.1 hT;have co:gs.length=F.toNat+1:=by omega
  have a4:=Z6c ak hW (plE 0 gs);rw[be]at a4;rw[hT,a4]at bb ba ⊢;have cv:=Znt ak hW bx co;have bl:=Zai ak hW bx;rw[be]at bl;have a:=hk F _ 0 (D _ (by rw[if_pos hW]))
  have cn:=c78g F (Y0 m (plE 0 gs) v u) cv (by omega)
  have b4:=Zfc (Y0 m (plE 0 gs) v u);have cr:imV ((X8 (Y0 m (plE 0 gs) v u)).map rowL)=.imm ((X8 (Y0 m (plE 0 gs) v u)).map rowL):=by
   unfold imV;rw[if_neg];intro e;have:=congrArg List.length e;rw[List.length_map,b4,bl]at this;simp at this;omega
  rw[cr]at a;have cw:∀ q,Z6 q ((X8 (Y0 m (plE 0 gs) v u)).map rowL)=(X8 (Y0 m (plE 0 gs) v u)).map rowL:=fun q=>X6 q _ (U6 _)
  generalize X8 (Y0 m (plE 0 gs) v u)=RN at *;generalize Y0 m (plE 0 gs) v u=RW at *;simp[mnA,mnB,mnC,bb,ba,ag,ah];have b2:=fun get hg=>Zx8 (get:=get) (S:=[88]) (b:=88) (f:=F) (ls:=RW) (by simp[Y8]) hg
  rw[bl]at b2;refine Z5a cn [88] ?_ ?_
  ·exact congrArg (fun x=>[x]) (b2 _ rfl)
  ·simp[Y8];exact Z9 a [] (by simp[cw])
 ·have a:=hk 0 [] 3 (D _ (by rw[if_neg (fun e=>hT (bc.2 e))]))
  rw[O]at a;have ci:¬((bkT m v u:Nat):Int)=(m:Int)+2*n:=by omega
  generalize (frR m (plE 0 gs) v u (bkT m v u) (bkT m v u)).map rowL=RR at *;generalize bkT m v u=T at *;simp[mnA,mnB,mnC,bb,ba,ag,ah,hT,ci];exact Z9 a [] (by simp)
theorem Z2b(F:Int)(G:List Int)(A B:List Ro)(c d:AVal)(i:RowsV c A)(j:RowsV d B)(q:G.length≤1000)(e:A.length≤1000)(g:B.length≤1000) :
 PCall Tryz.prog 10 [.agg [.int .i64 F,.imm (Z2 G),c,d]] (rdV F G A B):=by
 obtain⟨l,m,a⟩:=i.cells;obtain⟨o,p,b⟩:=j.cells;refine Zmt (k:=6) (by simp[X4,AVal.closed,L5,a,b]) (Zwh F G A B) ((Z5h F G A B c d i j q e g).mono fun r t h=>?_)
 obtain⟨rfl,rfl⟩:=h;have s:X3 (SMem.get ⟨[],1⟩) 4 (imV ((rdN F G A B).2.1.map rowL))=some (imV ((rdN F G A B).2.1.map rowL)):=Z95 (n:=2) (Zjl _);unfold rdV;rw[X3];simp only[V4];rw[X3];simp only[V4,s];rfl
end Go.Known
