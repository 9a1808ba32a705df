/- Part 41 of the proof: Er. -/
import Derived.Test.YtilmpmlkndfbjaaGreatDoorK31
import Derived.Test.YtilmpmlkndfbjaaGreatDoorK40
set_option linter.all false
namespace Go.Ab
open Go Go.AE Go.Proofs
open Go.Plain
attribute [local simp] C8 D6 D3 B4 B0 C6 D7 C7 D9 B7 C3 Gk E5 B6 D8 C2 C1
def V0(rs:List Ro):Nat:=(rs.filter fun r=>decide (r.1=2)).length
theorem lX{rs:List Ro}{i:Nat}(h:i<rs.length):V0 (rs.take (i+1))=V0 (rs.take i)+if rs[i].1=2 then 1 else 0:=by
 unfold V0;rw[List.take_add_one,gE h,Option.toList_some,List.filter_append,lA]
 congr 1
 by_cases hk:rs[i].1=2<;>simp[hk]
theorem Oj(rs:List Ro):V0 rs≤rs.length:=List.length_filter_le _ _
instance (m:Nat) (X:List Nd) (L:List (Nat×Nat)):Decidable (EF m X L):=
 decidable_of_iff (Al m L (m+2*X.length)=0 ∧ ∀ t,t<m+2*X.length→0<t→Al m L t≠0) ⟨fun h=>⟨h.1,fun t h1 h2=>h.2 t h2 h1⟩,fun h=>⟨h.1,fun t h1 h2=>h.2 t h2 h1⟩⟩
def Dm(F:Int)(G:List Int)(A B:List Ro):Int×List Lt×Int:=
 if F<0∨40<F∨(G.length:Int)≠F+1∨EW G<0 then (0,[],2)
 else if 100<V0 A+V0 B∨400<(G.map Int.toNat).sum+2*(V0 A+V0 B)then (0,[],7)
 else if (G.map Int.toNat).sum=0∧A.length+B.length=0 then (F,[],0)
 else if (G.map Int.toNat).sum=0∨(Q1 (G.map Int.toNat).sum A B).1=false then (0,[],3)
 else if EF (G.map Int.toNat).sum (Q1 (G.map Int.toNat).sum A B).2.2 (Q1 (G.map Int.toNat).sum A B).2.1 then
  (F,X8 (Y3 (G.map Int.toNat).sum (Ar 0 (G.map Int.toNat)) (Q1 (G.map Int.toNat).sum A B).2.2 (Q1 (G.map Int.toNat).sum A B).2.1),0)
 else (0,[],3)
def AY(V:Aa)(rs:List Ro):Prop:=V=.An (rs.map BN)∨(V=.Ai∧rs=[])
theorem AY.AA{V:Aa}{rs:List Ro}(h:AY V rs)(q:Nat→Nat):V.AA q=V:=by
 rcases h with rfl|⟨rfl,_⟩
 ·exact Aa.Bn q _ (by simp[Aa.closed,MH])
 ·rfl
theorem AY.len{V:Aa}{rs:List Ro}(h:AY V rs):V9 V=some rs.length:=by
 rcases h with rfl|⟨rfl,rfl⟩
 ·show some (rs.map BN).length=_; rw[lM]
 ·rfl
theorem AY.cells{V:Aa}{rs:List Ro}(h:AY V rs):V.cells=some [V]∧V.one=true∧V.closed=true:=by
 rcases h with rfl|⟨rfl,rfl⟩
 ·exact⟨rfl,rfl,by simp[Aa.closed,MH]⟩
 ·exact⟨rfl,rfl,rfl⟩
theorem AY.idx{V:Aa}{rs:List Ro}(h:AY V rs){get:Nat→Option Ag}{i:Nat}(hi:i<rs.length):Jf get 4 V (some i)=some (.AW (rs.map BN) i 0,[]):=by
 rcases h with rfl|⟨rfl,rfl⟩
 ·rw[Iy,gM,gE hi];rfl
 ·simp at hi
theorem wZ:∀ (a b:List Nat) (g:Nat),Ar g (a++b)=Ar g a++Ar (g+a.length) b
 | [],b,g=>rfl
 | x :: a,b,g=>by
  show _++Ar (g+1) (a++b)=(_++Ar (g+1) a)++_;rw[wZ a b (g+1),List.append_assoc,lC,show g+(a.length+1)=g+1+a.length by omega]
theorem Th:∀ (gs:List Nat) (g:Nat),(Ar g gs).length=gs.sum
 | [],_=>rfl
 | c :: r,g=>by
  show(_++Ar (g+1) r).length=_;rw[lA,Th r,lM,List.length_range,List.sum_cons]
def Ji(gs:List Nat)(i k:Nat):List (Nat×Nat):=Ar 0 (gs.take i)++(List.range k).map fun r=>(i,r+1)
theorem Z5q{gs:List Nat}{i:Nat}(h:i<gs.length):Ji gs i (gs.getD i 0)=Ji gs (i+1) 0:=by
 unfold Ji;rw[List.take_add_one,gE h,Option.toList_some,wZ,List.getD,gE h];show _=_++(_++Ar _ [])++_;simp[Ar,Nat.min_eq_left (Nat.le_of_lt h)]
theorem Z67(gs:List Nat)(i k:Nat):Ji gs i (k+1)=Ji gs i k++[(i,k+1)]:=by
 unfold Ji;rw[List.range_succ,List.map_append,List.append_assoc];rfl
theorem Z5g(gs:List Nat)(i k:Nat):(Ji gs i k).length=(gs.take i).sum+k:=by
 unfold Ji;rw[lA,Th,lM,List.length_range]
theorem Z96(gs:List Nat):Ji gs gs.length 0=Ar 0 gs:=by
 unfold Ji;rw[List.take_length];simp
theorem Z79(t:Nat):Z0 (W7 (t+1))=Z0 (W7 t)++[[.int .i64 ((2*t:Nat):Int)]]:=by
 unfold W7;rw[List.range_succ,List.map_append];simp[Z0]
theorem Z3k(t:Nat):Z0 (V8 (t+1))=Z0 (V8 t)++[[.int .i64 ((2*t+1:Nat):Int)]]:=by
 unfold V8;rw[List.range_succ,List.map_append];simp[Z0]
theorem sk(t:Nat):(Z0 (W7 t)).length=t:=by rw[O5]; simp[W7]
theorem Zzt(t:Nat):(Z0 (V8 t)).length=t:=by rw[O5]; simp[V8]
theorem nI(P:List (List Aa))(hP:V3 P=true)(m:Nat)(below:Bool)(V:Aa)(rs:List Ro)(hV:AY V rs)(F CX:List Nat)(L:List (Nat×Nat))(X:List Nd)(hO:CU m F CX L X)(hb:2*m+4*(X.length+rs.length)≤100000) :
 Cc Tryz.prog 27 [.ptr 1 0 0,V,.sl 4 0 F.length,.bool below] ⟨(4,.cells 1 (Z0 F)) :: kM m (Bx P) 2 3 L X,5⟩ fun r mm=>
  r=.bool (X9 m below rs F L X).1∧mm=⟨kM m (Bx P) 5 6 (X9 m below rs F L X).2.1 (X9 m below rs F L X).2.2,7⟩:=by
 rcases hV with rfl|⟨rfl,rfl⟩
 ·exact Z2w P hP m below rs F CX L X hO hb
 ·refine(zD P hP m below F L X).mono fun r mm h=>?_
  obtain⟨rfl,rfl⟩:=h;refine⟨?_,rfl⟩;show Aa.bool (decide (F.length=0))=.bool (decide (F=[]))
  congr 1
  rw[Bool.eq_iff_iff];simp
theorem s9{f:Int}{y:List Lt}(hv:Co f y)(h0:y≠[]):Co f (X8 y):=by
 refine hv.de (Z8f h0) ?_ (Z8s fun a hm hk=>((VX hk).1 (hv.Qk a hm)).2.2.2.2.2.2)
 have hl:0<y.length:=List.length_pos_iff.2 h0;rw[VU hl];unfold Fx;rw[iN (by rw[hv.fst]; decide)]
 exact hv.fst
theorem XO{p:Prop} [Decidable p] {c d:Nat} (h:c≠d):X3 c (if p then []else [d])=false:=by
 split
 ·rfl
 ·simp[X3,h]
theorem XP{b k:Nat}{R:List (List Aa)}{X:List (Nat×Ag)}:(bif X3 b (if R=[]then []else [b])then X else AF b k R X)=X:=by
 by_cases h:R=[]
 ·subst h; rfl
 ·rw[iN h]; simp[X3]
theorem Rb{m:Nat}{below:Bool}:∀ (rs:List Ro) (front:List Nat) (L:List (Nat×Nat)) (X:List Nd) (L':List (Nat×Nat)) (X':List Nd),X9 m below rs front L X=(true,L',X')→X'.length=X.length+V0 rs
 | [],front,L,X,L',X',h=>by
  simp only[X9,AP,decide_eq_true_eq]at h;obtain⟨_,_,rfl⟩:=h;rfl
 | r :: rs,front,L,X,L',X',h=>by
  have e:V0 (r :: rs)=V0 rs+if r.1=2 then 1 else 0:=by
   unfold V0;rw[List.filter_cons];by_cases hk:r.1=2<;>simp[hk]
  simp only[X9]at h;split at h
  ·rename_i hc;rw[Rb rs _ _ _ _ _ h,e,iN (by rw[hc.1]; decide),Nat.add_zero]
  ·split at h
   ·rename_i hc;rw[Rb rs _ _ _ _ _ h,e,iP hc.1,lA,List.length_singleton];omega
   ·cases h
def WW(F:Int)(G:List Int)(A B:List Ro):Prop:=∀ L X,Q1 (G.map Int.toNat).sum A B=(true,L,X)→EF (G.map Int.toNat).sum X L→(G.map Int.toNat).sum≠0→(Ar 0 (G.map Int.toNat)).length=(G.map Int.toNat).sum →
 (G.map Int.toNat).length=F.toNat+1→0≤F→F≤40→(G.map Int.toNat).sum+2*X.length≤400→X.length≤100→J9 F (X8 (Y3 (G.map Int.toNat).sum (Ar 0 (G.map Int.toNat)) X L))=0
theorem x5(F:Int)(G:List Int)(A B:List Ro):WW F G A B:=fun L X hr hw hm Bd hgF hf0 hf1 h4 h1=>by
 have hRd:Gt _ X L:=YU (by omega) hr
 have hv:=wg hRd hw Bd hgF (Z3m (by omega) hr).2.2.2 (by omega) h4 h1
 have hF:((F.toNat:Nat):Int)=F:=by omega
 rw[hF]at hv;exact(s9 hv (aW hRd hw Bd hgF)).to
set_option maxRecDepth 100000 in
set_option maxHeartbeats 16000000 in
theorem Zz3(F:Int)(G:List Int)(A B:List Ro)(AV BV:Aa)(Ru:WW F G A B)(hA:AY AV A)(hB:AY BV B)(hG:G.length≤1000)(Ee:A.length≤1000)(Dh:B.length≤1000) :
 Cc Tryz.prog 9 [.agg [.int .i64 F,.An (Z1 G),AV,BV]] ⟨[],1⟩ fun r mm=>∃ rows,rows=(Dm F G A B).2.1.map Ad ∧
  r=.tuple [.agg [.int .i64 (Dm F G A B).1,AH 1 rows],.int .i64 (Dm F G A B).2.2]∧mm=⟨AF 1 6 rows [],2⟩:=by
 refine GV hm [] Tryz.func9 UQ rfl rfl fun K hK=>?_
 obtain⟨hAc,hAo,hAcl⟩:=hA.cells;obtain⟨hBc,hBo,hBcl⟩:=hB.cells;have hAlen:=hA.len;have hBlen:=hB.len;have hArn:=hA.AA;have hBrn:=hB.AA;have hGl:=A8 G;have hrG:∀ q,Z3 q (Z1 G)=Z1 G:=fun q=>X7 q _ (N9 G)
 have hk:∀ f ls e,Dm F G A B=(f,ls,e)→K (.tuple [.agg [.int .i64 f,AH 1 (ls.map Ad)],.int .i64 e]) ⟨AF 1 6 (ls.map Ad) [],2⟩:=fun f ls e he=>hK _ _ ⟨_,rfl,by rw[he],by rw[he]⟩
 clear hK;by_cases hF0:F<0
 ·have hk1:=hk 0 [] 2 (by unfold Dm; rw[iP (.inl hF0)])
  simp[hAc,hBc,hAo,hBo,hF0,hAlen,hBlen,hGl,V9];exact Z6 hk1 [] (by simp)
 by_cases hF1:40<F
 ·have hk1:=hk 0 [] 2 (by unfold Dm; rw[iP (.inr (.inl hF1))])
  simp[hAc,hBc,hAo,hBo,hF0,hF1,hAlen,hBlen,hGl,V9];exact Z6 hk1 [] (by simp)
 have hwF:=X5 (F+1);by_cases hlen:¬(G.length:Int)=F+1
 ·have hk1:=hk 0 [] 2 (by unfold Dm; rw[iP (.inr (.inr (.inl hlen)))])
  simp[hAc,hBc,hAo,hBo,hF0,hF1,hAlen,hBlen,hGl,V9,hwF,hlen];exact Z6 hk1 [] (by simp)
 replace hlen:(G.length:Int)=F+1:=Classical.not_not.1 hlen
 have hG0:G≠[]:=fun e=>by rw[e]at hlen; simp at hlen; omega
 have hMin:AS Tryz.prog 26 [.An (Z1 G)] (.int .i64 (EW G)):=by
  cases G with
  | nil=>exact absurd rfl hG0
  | cons x l=>exact eC x l (by simp at hG; omega)
 by_cases hmn:EW G<0
 ·have hk1:=hk 0 [] 2 (by unfold Dm; rw[iP (.inr (.inr (.inr hmn)))])
  simp[hAc,hBc,hAo,hBo,hF0,hF1,hAlen,hBlen,hGl,V9,hwF,hlen];refine L3 hMin ?_;simp[hmn];exact Z6 hk1 [] (by simp)
 have hnn:∀ y,y∈G→0≤y:=fun y hy=>by
  rcases Int.lt_or_le y 0 with c|c
  ·exact absurd ((Ts hG0).2 ⟨y,hy,c⟩) hmn
  ·exact c
 obtain⟨gs,hgs⟩:∃ gs:List Nat,gs=G.map Int.toNat:=⟨_,rfl⟩
 unfold WW at Ru;rw[← hgs]at Ru;have hGgs:G=gs.map fun g=>((g:Nat):Int):=by
  rw[hgs,List.map_map]
  conv=>lhs; rw[← List.map_id G]
  refine List.map_congr_left fun y hy=>?_
  have:=hnn y hy;show y=((y.toNat:Nat):Int);omega
 have Dd:gs.length=G.length:=by rw[hgs,lM]
 have hrd:∀ z,(if 100<V0 A+V0 B∨400<gs.sum+2*(V0 A+V0 B)then (0,[],7)
  else if gs.sum=0∧A.length+B.length=0 then (F,[],0)
  else if gs.sum=0∨(Q1 gs.sum A B).1=false then (0,[],3)
  else if EF gs.sum (Q1 gs.sum A B).2.2 (Q1 gs.sum A B).2.1 then (F,X8 (Y3 gs.sum (Ar 0 gs) (Q1 gs.sum A B).2.2 (Q1 gs.sum A B).2.1),0)else (0,[],3))=z→Dm F G A B=z:=fun z hz=>by
  unfold Dm;rw[iN (by simp[hF0,hF1,hlen,hmn]),← hgs]
  exact hz
 have hGi:∀ i,i<gs.length→(Z1 G)[i]? = some [.int .i64 (gs.getD i 0:Nat)]:=fun i hi=>by
  rw[Kn (by omega)]
  have:G.getD i 0=((gs.getD i 0:Nat):Int):=by rw[hGgs,List.getD,gM,List.getD,gE hi]; rfl
  rw[this]
 simp[hAc,hBc,hAo,hBo,hF0,hF1,hAlen,hBlen,hGl,V9,hwF,hlen];refine L3 hMin ?_;simp[hmn,hGl,V9];have hrK:∀ q:Nat→Nat,U3 q [.int .i64 F,.An (Z1 G),AV,BV]=[.int .i64 F,.An (Z1 G),AV,BV]:=fun q=>by simp[U3,Aa.AA,hrG,hArn,hBrn]
 have hGlen:(Z1 G).length=G.length:=hGl;generalize Z1 G=GR at *;have hGb:gs.length≤1000:=by omega
 refine T6 (α:=Nat) (fun i=>[(1,.ptr 1 0 0),(2,.ptr 2 0 0),(4,.int .i64 (min (gs.take i).sum 401:Nat)),(5,.int .i64 0),(46,.An GR),(47,.int .i64 gs.length),(48,.int .i64 i)])
  (fun _=>⟨[(2,.cells 2 [[.int .i64 0,.Ai]]),(1,.cells 4 [[.int .i64 F,.An GR,AV,BV]])],3⟩) (fun i=>gs.length - i) (fun i=>i≤gs.length) 0 [] (by simp[hrG,hArn,hBrn,Dd]) (by omega) ?_
 intro i hi N hN;by_cases hend:¬i=gs.length
 ·have hil:i<gs.length:=by omega
  have hg:=hGi i hil;obtain⟨_,hg2⟩:=Y6 hg;have hsum:(gs.take (i+1)).sum=(gs.take i).sum+gs.getD i 0:=by
   rw[List.take_add_one,List.sum_append,List.getD,gE hil];simp
  have hN1:=hN (i+1);rw[hsum]at hN1;have hw:=Y1 ((i:Int)+1) ((i+1:Nat):Int);generalize gs.getD i 0=g at *;generalize (gs.take i).sum=s at *;have hw2:IntKind.i64.wrap (((min s 401:Nat):Int)+(if (401:Int)<(g:Int)then (401:Int)else (g:Int)))=((min s 401:Nat):Int)+(if (401:Int)<(g:Int)then (401:Int)else (g:Int)):=by
   rw[S8 (by split<;>omega) (by split<;>omega)]
  have hmm:(if (401:Int)<((min s 401:Nat):Int)+(if (401:Int)<(g:Int)then (401:Int)else (g:Int))then (401:Int)else ((min s 401:Nat):Int)+(if (401:Int)<(g:Int)then (401:Int)else (g:Int)))=((min (s+g) 401:Nat):Int):=by
   split<;>split<;>omega
  generalize ((min (s+g) 401:Nat):Int)=Rx at *;generalize ((min s 401:Nat):Int)=XM at *;simp[hil,hg,hg2,hGlen,← Dd,KG,hw,hw2,hmm];exact hN1 [] _ _ (by omega) (by omega) (by simp[hrG,hArn,hBrn])
 replace hend:i=gs.length:=Classical.not_not.1 hend
 subst hend;rw[List.take_length];clear hN hi;simp[hAc,hBc,hAo,hBo];obtain⟨m4,hm4⟩:∃ m4,m4=min gs.sum 401:=⟨_,rfl⟩
 obtain⟨EX,hmm4⟩:∃ EX:Int,EX=((min gs.sum 401:Nat):Int):=⟨_,rfl⟩
 rw[← hmm4];obtain⟨nJ,hnJ⟩:∃ nJ:Nat→Nat,nJ=fun j=>if j=0 then 0 else if j=1 then V0 A else V0 A+V0 B:=⟨_,rfl⟩
 have hcA:=Oj A;have hcB:=Oj B;obtain⟨VV,hVV⟩:∃ VV:List (List Aa),VV=[[AV],[BV]]:=⟨_,rfl⟩
 have hVVr:∀ q,Z3 q VV=VV:=fun q=>by rw[hVV]; simp[Z3,U3,hArn,hBrn]
 have hVVl:VV.length=2:=by rw[hVV]; rfl
 refine T6 (α:=Nat) (fun j=>[(1,.ptr 1 0 0),(2,.ptr 2 0 0),(4,.int .i64 EX),(5,.int .i64 (nJ j:Nat)),(62,.sl 3 0 2),(63,.int .i64 2),(64,.int .i64 j)])
  (fun _=>⟨[(2,.cells 2 [[.int .i64 0,.Ai]]),(1,.cells 4 [[.int .i64 F,.An GR,AV,BV]]),(3,.cells 1 VV)],4⟩) (fun j=>2 - j) (fun j=>j≤2) 0 [(3,8)] (by simp[hrG,hArn,hBrn,hnJ,hVVr]; exact .inl hVV.symm) (by omega) ?_
 intro j hj N hN;by_cases hend:¬j=2
 ·obtain⟨V,rs,hV,hVg,hVn,hrl⟩:∃ (V:Aa) (rs:List Ro),AY V rs∧VV[j]? = some [V]∧nJ (j+1)=nJ j+V0 rs∧rs.length≤1000:=by
   have:j=0∨j=1:=by omega
   rcases this with rfl|rfl
   ·exact⟨AV,A,hA,by rw[hVV]; rfl,by rw[hnJ]; simp,Ee⟩
   ·exact⟨BV,B,hB,by rw[hVV]; rfl,by rw[hnJ]; simp,Dh⟩
  have hnb:nJ j≤2000:=by
   rw[hnJ];show(if j=0 then 0 else if j=1 then V0 A else V0 A+V0 B)≤2000
   split
   ·omega
   ·split<;>omega
  have hN1:=hN (j+1);rw[hVn]at hN1;clear hN;have hjl:j<2:=by omega
  have hVlen:=hV.len;have hVrn:=hV.AA;obtain⟨hVc,hVo,_⟩:=hV.cells;have hVi:=fun {get:Nat→Option Ag} {i:Nat} (hi:i<rs.length)=>hV.idx (get:=get) hi
  obtain⟨_,hVg2⟩:=Y6 hVg;have hRg:∀ i (h:i<rs.length),(rs.map BN)[i]? = some (BN rs[i]):=fun i h=>by rw[gM,gE h]; rfl
  have hRrn:∀ q,Z3 q (rs.map BN)=rs.map BN:=fun q=>X7 q _ (MH rs)
  have hwj:=Y1 ((j:Int)+1) ((j+1:Nat):Int);have hjl':(j:Int)<2:=by omega
  simp[hjl,hjl',hVg,hVg2,hVlen,hVVl];refine T6 (α:=Nat) (fun i=>[(1,.ptr 1 0 0),(2,.ptr 2 0 0),(4,.int .i64 EX),(5,.int .i64 (nJ j+V0 (rs.take i):Nat)),(62,.sl 3 0 2),(63,.int .i64 2),(64,.int .i64 j),(68,V),(69,.int .i64 rs.length),(70,.int .i64 i)])
   (fun _=>⟨[(2,.cells 2 [[.int .i64 0,.Ai]]),(1,.cells 4 [[.int .i64 F,.An GR,AV,BV]]),(3,.cells 1 VV)],4⟩) (fun i=>rs.length - i) (fun i=>i≤rs.length) 0 [] (by simp[hrG,hArn,hBrn,hVrn,V0,hVVr]) (by omega) ?_
  intro i hi N2 hN2;have Dx:=Oj (rs.take i);rw[lK]at Dx;by_cases he2:¬i=rs.length
  ·have hil:i<rs.length:=by omega
   have hN3:=hN2 (i+1);rw[lX hil]at hN3;have hix:=fun (get:Nat→Option Ag)=>hVi (get:=get) hil
   have hg:=hRg i hil;obtain⟨_,hg2⟩:=Y6 hg;generalize rs.map BN=RR at *;have hwi:=Y1 ((i:Int)+1) ((i+1:Nat):Int);obtain⟨⟨kd,at0,nn,ov⟩,hr⟩:∃ r,r=rs[i]:=⟨_,rfl⟩
   rw[← hr]at hg hg2 hN3;simp only[BN]at hg hg2 hN3;by_cases hk2:kd=2
   ·rw[iP hk2]at hN3;have hwn:=Y1 (((nJ j+V0 (rs.take i):Nat):Int)+1) ((nJ j+(V0 (rs.take i)+1):Nat):Int);generalize nJ j+(V0 (rs.take i)+1)=c1 at *;generalize nJ j+V0 (rs.take i)=c0 at *;simp[hil,hix,hg,hg2,hk2,hwn,hwi];exact hN3 [] _ _ (by omega) (by omega) (by simp[hrG,hArn,hBrn,hVrn,hVVr])
   ·rw[iN hk2,Nat.add_zero]at hN3;generalize nJ j+V0 (rs.take i)=c0 at *;simp[hil,hix,hg,hg2,hk2,hwi];exact hN3 [] _ _ (by omega) (by omega) (by simp[hrG,hArn,hBrn,hVrn,hVVr])
  ·replace he2:i=rs.length:=Classical.not_not.1 he2
   subst he2;rw[List.take_length];generalize nJ j+V0 rs=c0 at *;simp[hwj];exact hN1 [] _ _ (by omega) (by omega) (by simp[hrG,hArn,hBrn,hVVr])
 replace hend:j=2:=Classical.not_not.1 hend
 subst hend;clear hN hj;have hn2:nJ 2=V0 A+V0 B:=by rw[hnJ]; rfl
 rw[hn2];clear hn2 hnJ;obtain⟨n,hn⟩:∃ n,n=V0 A+V0 B:=⟨_,rfl⟩
 rw[← hn]at hrd ⊢;have hn2000:n≤2000:=by omega
 by_cases h100:100<n
 ·have hk1:=hk 0 [] 7 (hrd _ (by rw[iP (.inl h100)]))
  have h100i:(100:Int)<n:=by omega
  simp[h100,h100i];exact Z6 hk1 [] (by simp)
 have h100i:¬(100:Int)<n:=by omega
 have hw2n:IntKind.i64.wrap (2*(n:Int))=2*n:=S8 (by omega) (by omega)
 have hwmn:IntKind.i64.wrap (EX+2*(n:Int))=EX+2*n:=S8 (by omega) (by omega)
 by_cases h400:400<gs.sum+2*n
 ·have hk1:=hk 0 [] 7 (hrd _ (by rw[iP (.inr h400)]))
  have h400i:(400:Int)<EX+2*n:=by omega
  simp[h100,h100i,hw2n,hwmn,h400i];exact Z6 hk1 [] (by simp)
 have h400i:¬(400:Int)<EX+2*n:=by omega
 rw[iN (by omega)]at hrd
 obtain⟨m,hm⟩:∃ m,m=gs.sum:=⟨_,rfl⟩
 rw[← hm]at Ru;have hmmm:EX=(m:Nat):=by rw[hmm4]; omega
 rw[← hm]at hrd h400;have hwm2:IntKind.i64.wrap (2*(m:Int))=2*m:=S8 (by omega) (by omega)
 rw[hmmm]at hwmn h400i ⊢;have hmb:2*m≤1048576:=by omega
 have hz2m:(0:Int)≤2*m:=by omega
 have htn2:(2*(m:Int)).toNat=2*m:=by omega
 clear hmm4 hm4;simp[h100,h100i,hw2n,hwmn,h400i,hwm2,hmb,hz2m,htn2];clear hMin hmn hcA hcB hVVr hVVl hVV;obtain⟨ZR,hZR⟩:∃ ZR,ZR=List.replicate (2*m) [Aa.int .i64 0]:=⟨_,rfl⟩
 have hZr:∀ q,Z3 q ZR=ZR:=fun q=>by rw[hZR,HE]; simp[U3,Aa.AA]
 rw[← hZR];obtain⟨PR,hPR⟩:∃ PR:Nat→Nat→List (List Aa),PR=fun i k=>((Ji gs i k).map AG).map Ad:=⟨_,rfl⟩
 have hPRr:∀ i k q,Z3 q (PR i k)=PR i k:=fun i k q=>by rw[hPR]; exact X7 q _ (R7 _)
 have hPRl:∀ i k,(PR i k).length=(gs.take i).sum+k:=fun i k=>by rw[hPR]; simp[Z5g]
 have hPRs:∀ i k,PR i (k+1)=PR i k++[Ad (AG (i,k+1))]:=fun i k=>by rw[hPR]; simp[Z67]
 have hPRn:∀ i,i<gs.length→PR i (gs.getD i 0)=PR (i+1) 0:=fun i hi=>by rw[hPR]; simp only[Z5q hi]
 have hPRe:PR gs.length 0=((Ar 0 gs).map AG).map Ad:=by rw[hPR]; simp only[Z96]
 have hPR0:PR 0 0=[]:=by rw[hPR]; rfl
 clear hPR;have hUr:∀ q t,Z3 q (Z0 (W7 t))=Z0 (W7 t):=fun q t=>Y0 q _
 have hDr:∀ q t,Z3 q (Z0 (V8 t))=Z0 (V8 t):=fun q t=>Y0 q _
 obtain⟨U,hU⟩:∃ U:Nat→List (List Aa),U=fun t=>Z0 (W7 t):=⟨_,rfl⟩
 obtain⟨D,hD⟩:∃ D:Nat→List (List Aa),D=fun t=>Z0 (V8 t):=⟨_,rfl⟩
 have hUr:∀ t q,Z3 q (U t)=U t:=fun t q=>by rw[hU]; exact hUr q t
 have hDr:∀ t q,Z3 q (D t)=D t:=fun t q=>by rw[hD]; exact hDr q t
 have hU0:U 0=[]:=by rw[hU]; rfl
 have hD0:D 0=[]:=by rw[hD]; rfl
 have hUl:∀ t,(U t).length=t:=fun t=>by rw[hU]; exact sk t
 have hDl:∀ t,(D t).length=t:=fun t=>by rw[hD]; exact Zzt t
 have hUs:∀ t,U (t+1)=U t++[[.int .i64 ((2*t:Nat):Int)]]:=fun t=>by rw[hU]; exact Z79 t
 have hDs:∀ t,D (t+1)=D t++[[.int .i64 ((2*t+1:Nat):Int)]]:=fun t=>by rw[hD]; exact Z3k t
 have hsumle:∀ i,i<gs.length→(gs.take i).sum+gs.getD i 0≤m:=fun i hi=>by
  have h1:(gs.take (i+1)).sum=(gs.take i).sum+gs.getD i 0:=by
   rw[List.take_add_one,List.sum_append,List.getD,gE hi];simp
  have h2:(gs.take (i+1)).sum+(gs.drop (i+1)).sum=gs.sum:=by rw[← List.sum_append,List.take_append_drop]
  omega
 refine T6 (α:=Nat) (fun i=>[(1,.ptr 1 0 0),(2,.ptr 2 0 0),(4,.int .i64 m),(12,.ptr 10 0 0),(13,AH 13 (U (gs.take i).sum)),(14,AH 14 (D (gs.take i).sum)),(97,.An GR),(98,.int .i64 gs.length),(99,.int .i64 i)])
  (fun i=>⟨[(2,.cells 2 [[.int .i64 0,.Ai]]),(1,.cells 4 [[.int .i64 F,.An GR,AV,BV]]),(10,.cells 3 [[AH 11 (PR i 0),.sl 12 0 (2*m),.Ai]]),(12,.cells 1 ZR)]++AF 11 6 (PR i 0) (AF 13 1 (U (gs.take i).sum) (AF 14 1 (D (gs.take i).sum) [])),15⟩) (fun i=>gs.length - i) (fun i=>i≤gs.length) 0 [(10,18),(12,16)] (by simp[hrG,hArn,hBrn,hU0,hD0,hPR0,hZr,Dd,hGlen]) (by omega) ?_
 intro i hi N hN;by_cases hend:¬i=gs.length
 ·have hil:i<gs.length:=by omega
  have hg:=hGi i hil;obtain⟨_,hg2⟩:=Y6 hg;have hN1:=hN (i+1);have hsl:=hsumle i hil;have hs1:(gs.take (i+1)).sum=(gs.take i).sum+gs.getD i 0:=by
   rw[List.take_add_one,List.sum_append,List.getD,gE hil];simp
  have hw:=Y1 ((i:Int)+1) ((i+1:Nat):Int);rw[hs1,← hPRn i hil]at hN1;generalize gs.getD i 0=c at *;obtain⟨s,hs⟩:∃ s,s=(gs.take i).sum:=⟨_,rfl⟩
  have hPRl:=fun k=>hPRl i k
  have hPRs:=fun k=>hPRs i k
  have hPRr:=fun k=>hPRr i k
  rw[← hs]at hN1 hsl;simp only[← hs]at hPRl ⊢;simp[hil,hg,hg2,hGlen,← Dd];refine T6 (α:=Nat) (fun k=>[(1,.ptr 1 0 0),(2,.ptr 2 0 0),(4,.int .i64 m),(12,.ptr 10 0 0),(13,AH 13 (U (s+k))),(14,AH 14 (D (s+k))),(97,.An GR),(98,.int .i64 gs.length),(99,.int .i64 i),(15,.int .i64 i),(104,.int .i64 c),(105,.int .i64 k)])
   (fun k=>⟨[(2,.cells 2 [[.int .i64 0,.Ai]]),(1,.cells 4 [[.int .i64 F,.An GR,AV,BV]]),(10,.cells 3 [[AH 11 (PR i k),.sl 12 0 (2*m),.Ai]]),(12,.cells 1 ZR)]++AF 11 6 (PR i k) (AF 13 1 (U (s+k)) (AF 14 1 (D (s+k)) [])),15⟩) (fun k=>c - k) (fun k=>k≤c) 0 [] (by simp +contextual [hrG,hArn,hBrn,hUr,hDr,hPRr,hZr]) (by omega) ?_
  intro k hk2 N2 hN2;by_cases he2:¬k=c
  ·have hkc:k<c:=by omega
   have hN3:=hN2 (k+1);obtain⟨t,ht⟩:∃ t,t=s+k:=⟨_,rfl⟩
   have hPl:=hPRl k;rw[hPRs k,show s+(k+1)=t+1 by omega,hUs t,hDs t]at hN3
   have hwk:=Y1 ((k:Int)+1) ((k+1:Nat):Int);have hwt:=Y1 (2*(t:Int)) ((2*t:Nat):Int);have hwt1:=Y1 (((2*t:Nat):Int)+1) ((2*t+1:Nat):Int);rw[← ht]at hPl ⊢;have hUl:=hUl t;have hDl:=hDl t;have hUrt:=hUr t;have hDrt:=hDr t;have hPrk:=hPRr k;have hne1:¬t+1≤t:=by omega
   have htb:t≤1048575:=by omega
   obtain⟨t21,ht21⟩:∃ t21,t21=2*t+1:=⟨_,rfl⟩
   obtain⟨t2,ht2⟩:∃ t2,t2=2*t:=⟨_,rfl⟩
   rw[← ht21]at hwt1 hN3;rw[← ht2]at hwt hwt1 hN3;generalize PR i k=PP at *;generalize U t=UU at *;generalize D t=DD at *;by_cases ht0:t=0
   ·have e1:PP=[]:=List.eq_nil_of_length_eq_zero (by omega)
    have e2:UU=[]:=List.eq_nil_of_length_eq_zero (by omega)
    have e3:DD=[]:=List.eq_nil_of_length_eq_zero (by omega)
    subst e1; subst e2; subst e3;have hw0:IntKind.i64.wrap 0=0:=rfl;have hw1:IntKind.i64.wrap 1=1:=rfl;have z2:t2=0:=by omega
    have z21:t21=1:=by omega
    rw[z2,z21]at hN3;simp[hkc,hwk,hw0,hw1,T3,T0,Z8];exact hN3 [(11,49),(13,26),(14,36)] _ _ (by omega) (by omega) (by simp[hrG,hArn,hBrn,hZr,Ad,AG,AH,AF])
   ·have e1:¬PP=[]:=fun e=>by rw[e]at hPl; simp at hPl; omega
    have e2:¬UU=[]:=fun e=>by rw[e]at hUl; simp at hUl; omega
    have e3:¬DD=[]:=fun e=>by rw[e]at hDl; simp at hDl; omega
    have q1:List.take t PP=PP:=tL (by omega)
    have q2:List.take t UU=UU:=tL (by omega)
    have q3:List.take t DD=DD:=tL (by omega)
    simp[hkc,hwk,hwt,hwt1,Y4 e1,Y4 e2,Y4 e3,Z9 e1,Z9 e2,Z9 e3,e1,e2,e3,hPl,hUl,hDl,hne1,htb,Z8,q1,q2,q3];exact hN3 [(11,49),(13,26),(14,36)] _ _ (by omega) (by omega) (by simp[hrG,hArn,hBrn,hZr,Ad,AG,hPrk,hUrt,hDrt,hPl,hUl,hDl])
  ·replace he2:k=c:=Classical.not_not.1 he2
   subst he2;have hPrk:=hPRr k;have hUrt:=hUr (s+k);have hDrt:=hDr (s+k);clear hN2 hPRs hPRl;generalize PR i k=PP at *;generalize U (s+k)=UU at *;generalize D (s+k)=DD at *;simp[hw];exact hN1 [] _ _ (by omega) (by omega) (by simp +contextual [hrG,hArn,hBrn,hZr,hPrk,hUrt,hDrt])
 replace hend:i=gs.length:=Classical.not_not.1 hend
 subst hend;rw[List.take_length,← hm,hPRe];clear hN hi hPRl hPRs hPRn hPRr hPRe hPR0 hsumle;obtain⟨PP,hPP⟩:∃ PP,PP=((Ar 0 gs).map AG).map Ad:=⟨_,rfl⟩
 have hPPl:PP.length=m:=by rw[hPP,lM,lM,Th,hm]
 have hPPc:V3 PP=true:=by rw[hPP]; exact R7 _
 have hPPr:∀ q,Z3 q PP=PP:=fun q=>X7 q _ hPPc
 have hPPs:∀ (get:Nat→Option Ag) row,row∈PP → ∀ x,x∈row→W3 get 4 x=some x:=fun get=>by rw[hPP]; exact SM (n:=3) _
 rw[← hPP];have hUr:=hUr m;have hDr:=hDr m;have hUl:=hUl m;have hDl:=hDl m;obtain⟨UU,hUU⟩:∃ UU,UU=U m:=⟨_,rfl⟩
 obtain⟨DD,hDD⟩:∃ DD,DD=D m:=⟨_,rfl⟩
 rw[← hUU]at hUr hUl ⊢;rw[← hDD]at hDr hDl ⊢;rw[hU]at hUU;rw[hD]at hDD
 replace hUU:UU=Z0 (W7 m):=hUU
 replace hDD:DD=Z0 (V8 m):=hDD
 clear hU hD hUs hDs hU0 hD0;simp;obtain⟨ZM,hZM⟩:∃ ZM:Nat→List (List Aa),ZM=fun i=>List.replicate i [Aa.int .i64 (-1)]++List.replicate (2*m - i) [Aa.int .i64 0]:=⟨_,rfl⟩
 have hZM0:ZM 0=ZR:=by rw[hZM,hZR]; rfl
 have hZMr:∀ i q,Z3 q (ZM i)=ZM i:=fun i q=>by rw[hZM,HE]; simp[U3,Aa.AA]
 have hZMl:∀ i,i≤2*m→(ZM i).length=2*m:=fun i hi=>by rw[hZM]; simp; omega
 have hZMs:∀ i,i<2*m→(ZM i).set i [Aa.int .i64 (-1)]=ZM (i+1):=fun i hi=>by
  rw[hZM];simp only;rw[List.set_append_right _ _ (by simp),List.length_replicate,Nat.sub_self,show 2*m - i=2*m - (i+1)+1 by omega,List.replicate_succ,List.set_cons_zero,List.replicate_succ',List.append_assoc]
  rfl
 have hZMg:∀ i,i<2*m → ∃ y,(ZM i)[i]? = some [y]:=fun i hi=>by
  rw[hZM];simp only;rw[List.getElem?_append_right (by simp),List.length_replicate,Nat.sub_self,show 2*m - i=2*m - (i+1)+1 by omega,List.replicate_succ]
  exact⟨_,rfl⟩
 have hZMe:ZM (2*m)=Z1 (BK (2*m) []):=by
  rw[hZM];simp[Z1,BK]
 refine Tn (α:=Nat) (fun i=>[(1,.ptr 1 0 0),(2,.ptr 2 0 0),(4,.int .i64 m),(12,.ptr 10 0 0),(13,AH 13 UU),(14,AH 14 DD),(145,.sl 12 0 (2*m)),(146,.int .i64 (2*m:Nat)),(147,.int .i64 i)])
  (fun i=>⟨[(2,.cells 2 [[.int .i64 0,.Ai]]),(1,.cells 4 [[.int .i64 F,.An GR,AV,BV]]),(10,.cells 3 [[Bx PP,.sl 12 0 (2*m),.Ai]]),(12,.cells 1 (ZM i))]++AF 13 1 UU (AF 14 1 DD []),15⟩) (fun i=>2*m - i) (fun i=>i≤2*m) 0 (Og.wk (l:=[]) (S:=[11]) ⟨by simp,by simp,?_,?_,?_⟩) (by omega) ?_
 ·simp[Gd]
 ·have hrI:∀ q,(Bx PP).AA q=Bx PP:=fun q=>Aa.Bn q _ (LO hPPc)
  have hfzk:∀ get:Nat→Option Ag,get 11=(if PP=[]then none else some (.cells 6 PP))→FR get [11] [[AH 11 PP,.sl 12 0 (2*m),.Ai]]=[[Bx PP,.sl 12 0 (2*m),.Ai]]:=fun get hg=>by
   unfold FR;simp only[List.map_cons,List.map_nil];rw[Z50 rfl hg (hPPs _)];rfl
  simp +contextual [DX,X3,y5,hrG,hArn,hBrn,hZMr,hZM0,hUr,hDr,hrI];refine⟨.inr ⟨3,_,⟨rfl,rfl⟩,rfl,(hfzk _ (by simp)).symm⟩,.inl (hZr _).symm⟩
 ·simp
 intro i hi N hN;have hrI:∀ q,(Bx PP).AA q=Bx PP:=fun q=>Aa.Bn q _ (LO hPPc)
 have hIc:=RO PP;have hIo:=SF PP;by_cases hend:¬i=2*m
 ·have hil:i<2*m:=by omega
  obtain⟨y,hy⟩:=hZMg i hil;obtain⟨_,hy2⟩:=Y6 hy;have hN1:=hN (i+1);rw[← hZMs i hil]at hN1;have hrS:∀ q,Z3 q ((ZM i).set i [Aa.int .i64 (-1)])=(ZM i).set i [Aa.int .i64 (-1)]:=fun q=>by rw[hZMs i hil,hZMr]
  have hlZ:=hZMl i hi;have hw:=Y1 ((i:Int)+1) ((i+1:Nat):Int);have hili:(i:Int)<((2*m:Nat):Int):=by omega
  obtain⟨m2,hm2⟩:∃ m2,m2=2*m:=⟨_,rfl⟩
  rw[← hm2]at hil hlZ hili hN1 ⊢;generalize Bx PP=IP at *;simp[hil,hy,hy2,hlZ,hw];refine hN1 _ _ (by omega) (by omega) (Bq.wk (l:=[]) ?_)
  simp +contextual [hrG,hArn,hBrn,hUr,hDr,hrI,hrS]
 replace hend:i=2*m:=Classical.not_not.1 hend
 subst hend;clear hN hi;rw[hZMe];have hwl:=X5 ((A.length:Int)+B.length);by_cases hm0:m=0
 ·by_cases hAB:A.length+B.length=0
  ·have hk1:=hk F [] 0 (hrd _ (by rw[iP ⟨hm0,hAB⟩]))
   have hABi:(A.length:Int)+B.length=0:=by omega
   have hm0i:((m:Nat):Int)=0:=by omega
   generalize Bx PP=IP at *;simp[hAlen,hBlen,hwl,hABi,hm0,hm0i];exact Z6 hk1 [] (by simp)
  ·have hk1:=hk 0 [] 3 (hrd _ (by rw[iN (fun e=>hAB e.2),iP (.inl hm0)]))
   have hABi:¬(A.length:Int)+B.length=0:=by omega
   have hm0i:((m:Nat):Int)=0:=by omega
   generalize Bx PP=IP at *;simp[hAlen,hBlen,hwl,hABi,hm0,hm0i];exact Z6 hk1 [] (by simp)
 have hm0i:¬((m:Nat):Int)=0:=by omega
 rw[iN (fun e=>hm0 e.1)]at hrd
 have hUne:¬UU=[]:=fun e=>by rw[e]at hUl; simp at hUl; omega
 have hDne:¬DD=[]:=fun e=>by rw[e]at hDl; simp at hDl; omega
 have hO1:CU m (W7 m) (V8 m) [] []:=by
  unfold CU;simp only[U1,List.flatMap_nil,List.append_nil,List.length_nil,Nat.mul_zero,Nat.add_zero];exact QO m
 have hh1:=nI PP hPPc m false AV A hA (W7 m) (V8 m) [] [] hO1 (by simp; omega)
 have hupl:(W7 m).length=m:=by simp[W7]
 have hdnl:(V8 m).length=m:=by simp[V8]
 rw[hupl,← hUU]at hh1;unfold kM Es at hh1;have hxn:(xJ m []).map Cb=[]:=rfl;rw[hxn,T3,T0]at hh1;simp only[List.length_nil,Nat.mul_zero,Nat.add_zero]at hh1;obtain⟨b1,L1,X1,hr1⟩:∃ b1 L1 X1,X9 m false A (W7 m) [] []=(b1,L1,X1):=⟨_,_,_,rfl⟩
 rw[hr1]at hh1;simp only at hh1;obtain⟨XX1,hXX1⟩:∃ XX1,XX1=(xJ m X1).map Cb:=⟨_,rfl⟩
 obtain⟨JJ1,hJJ1⟩:∃ JJ1,JJ1=Z1 (BK (2*m+4*X1.length) L1):=⟨_,rfl⟩
 rw[← hXX1,← hJJ1]at hh1;have hrdR:Q1 m A B=if b1 then X9 m true B (V8 m) L1 X1 else (b1,L1,X1):=by unfold Q1; rw[hr1]
 generalize hIP:Bx PP=IP at *;simp[hAlen,hBlen,hwl,hm0,hm0i,Y4 hUne,Z9 hUne,Y4 hDne,Z9 hDne,hUne,hDne,hUl,hDl];have hJr:∀ (l:List Int) q,Z3 q (Z1 l)=Z1 l:=fun l q=>X7 q _ (N9 l)
 have hXr:∀ (l:List (Int×Nd)) q,Z3 q (l.map Cb)=l.map Cb:=fun l q=>X7 q _ (OJ l)
 have hx1:∀ q,Z3 q XX1=XX1:=fun q=>by rw[hXX1]; exact hXr _ q
 have hj1:∀ q,Z3 q JJ1=JJ1:=fun q=>by rw[hJJ1]; exact hJr _ q
 refine V4 hh1 [(1,10),(2,12),(4,13)] (by simp[hArn]) (by simp[hrI,hUr,hJr]) (by simp) ?_
 rintro _ _ ⟨rfl,rfl⟩;cases b1 with
 | false=>
  have hk1:=hk 0 [] 3 (hrd _ (by rw[iP (.inr (by rw[hrdR]; rfl))]))
  simp[hrI,hj1,hx1];exact Z6 hk1 [] (by simp)
 | true=>
  rw[iP rfl]at hrdR;have hc1:=Rb A _ _ _ _ _ hr1;simp only[List.length_nil,Nat.zero_add]at hc1;obtain⟨hO2,_,_⟩:=LV A _ _ _ _ _ hO1 hr1;have hO3:CU m (V8 m) [] L1 X1:=by unfold CU at hO2 ⊢; simpa using hO2
  have hh2:=nI PP hPPc m true BV B hB (V8 m) [] L1 X1 hO3 (by have:=Oj A; omega)
  rw[hdnl,← hDD,hIP]at hh2;unfold kM Es at hh2;obtain⟨b2,L2,X2,hr2⟩:∃ b2 L2 X2,X9 m true B (V8 m) L1 X1=(b2,L2,X2):=⟨_,_,_,rfl⟩
  rw[hr2]at hh2 hrdR;simp only at hh2;obtain⟨XX2,hXX2⟩:∃ XX2,XX2=(xJ m X2).map Cb:=⟨_,rfl⟩
  obtain⟨JJ2,hJJ2⟩:∃ JJ2,JJ2=Z1 (BK (2*m+4*X2.length) L2):=⟨_,rfl⟩
  rw[← hXX1,← hJJ1,← hXX2,← hJJ2]at hh2;have hx2:∀ q,Z3 q XX2=XX2:=fun q=>by rw[hXX2]; exact hXr _ q
  have hj2:∀ q,Z3 q JJ2=JJ2:=fun q=>by rw[hJJ2]; exact hJr _ q
  simp[hrI,hj1,hx1,hBlen,hBc,hBo];refine V4 hh2 [(1,10),(2,46),(3,47),(4,14)] (by simp[hBrn]) (by simp +contextual [hrI,hDr,hj1,hx1]) (by simp) ?_
  rintro _ _ ⟨rfl,rfl⟩;cases b2 with
  | false=>
   have hk1:=hk 0 [] 3 (hrd _ (by rw[iP (.inr (by rw[hrdR]))]))
   simp[hrI,hj2,hx2,XO,XP];exact Z6 hk1 [] (by simp)
  | true=>
   have hc2:=Rb B _ _ _ _ _ hr2;rw[hrdR,iN (fun e=>by rcases e with e|e; exact hm0 e; exact absurd e (by simp))]at hrd
   simp only at hrd;have hRd:Gt m X2 L2:=YU (by omega) hrdR
   have Bd:(Ar 0 gs).length=m:=by rw[Th,hm]
   have hgF:gs.length=F.toNat+1:=by omega
   have hval:EF m X2 L2→J9 F (X8 (Y3 m (Ar 0 gs) X2 L2))=0:=fun hw=>Ru L2 X2 hrdR hw hm0 Bd hgF (by omega) (by omega) (by omega) (by omega)
   have hcd:=Z8q F m gs Bd X2 L2 hRd (by omega) (fun r sm=>(EF m X2 L2→r=.tuple [.agg [.int .i64 F,.sl 4 0 (m+2*X2.length)],.bool true]∧sm=⟨[(4,.cells 6 ((X8 (Y3 m (Ar 0 gs) X2 L2)).map Ad))],5⟩) ∧
    (¬EF m X2 L2→r=.tuple [.agg [.int .i64 0,.Ai],.bool false]∧sm=⟨[],4⟩)) hval (fun hw=>⟨fun _=>⟨rfl,rfl⟩,fun h=>absurd hw h⟩) (fun hw=>⟨fun h=>absurd h hw,fun _=>⟨rfl,rfl⟩⟩)
   have hPPn:¬PP=[]:=fun e=>by rw[e]at hPPl; simp at hPPl; omega
   have hIP2:IP=.An PP:=by rw[← hIP]; unfold Bx; rw[iN hPPn]
   unfold Es at hcd;rw[← hPP,← hIP2,← hXX2,← hJJ2]at hcd;simp[hrI,hj2,hx2,XO,XP];by_cases hW:EF m X2 L2
   ·have hk1:=hk F _ 0 (hrd _ (by rw[iP hW]))
    refine V4 hcd [(1,10),(2,48),(3,49)] (by simp) (by simp +contextual [hrI,hj2,hx2]) (by simp) ?_
    rintro r sm ⟨h1,_⟩;obtain⟨rfl,rfl⟩:=h1 hW;have hrG:=fun q=>X7 q _ (R7 (X8 (Y3 m (Ar 0 gs) X2 L2)))
    have hGl:((X8 (Y3 m (Ar 0 gs) X2 L2)).map Ad).length=m+2*X2.length:=by rw[lM,OE,HA hRd hW Bd]
    have hGn:¬(X8 (Y3 m (Ar 0 gs) X2 L2)).map Ad=[]:=fun e=>by rw[e]at hGl; simp at hGl; omega
    generalize (X8 (Y3 m (Ar 0 gs) X2 L2)).map Ad=GL at *;simp[hrG,XO,XP];exact Z6 hk1 [(1,60)] (by simp[Y4 hGn,Z9 hGn,hGl,hrG,hGn])
   ·have hk1:=hk 0 [] 3 (hrd _ (by rw[iN hW]))
    refine V4 hcd [(1,10),(2,48),(3,49)] (by simp) (by simp +contextual [hrI,hj2,hx2]) (by simp) ?_
    rintro r sm ⟨_,h1⟩;obtain⟨rfl,rfl⟩:=h1 hW;simp[XO,XP];exact Z6 hk1 [] (by simp)
def Jj(F:Int)(G:List Int)(A B:List Ro):Aa:=.tuple [.agg [.int .i64 (Dm F G A B).1,Bx ((Dm F G A B).2.1.map Ad)],.int .i64 (Dm F G A B).2.2]
theorem vA(F:Int)(G:List Int)(A B:List Ro):(Jj F G A B).closed=true:=by
 unfold Jj;simp[Aa.closed,W9,LO,R7]
theorem Z95(F:Int)(G:List Int)(A B:List Ro)(AV BV:Aa)(Ru:WW F G A B)(hA:AY AV A)(hB:AY BV B)(hG:G.length≤1000)(Ee:A.length≤1000)(Dh:B.length≤1000) :
 AS Tryz.prog 9 [.agg [.int .i64 F,.An (Z1 G),AV,BV]] (Jj F G A B):=by
 obtain⟨hAc,hAo,hAcl⟩:=hA.cells;obtain⟨hBc,hBo,hBcl⟩:=hB.cells;refine MJ (k:=6) (by simp[W9,Aa.closed,N9,hAcl,hBcl]) (vA F G A B) ((Zz3 F G A B AV BV Ru hA hB hG Ee Dh).mono fun r m' h=>?_)
 obtain⟨rows,rfl,rfl,rfl⟩:=h;have hs:W3 (Ac.get ⟨AF 1 6 ((Dm F G A B).2.1.map Ad) [],2⟩) 4 (AH 1 ((Dm F G A B).2.1.map Ad))=some (Bx ((Dm F G A B).2.1.map Ad)):=ZY (n:=2) (b:=1) (k:=6) (by simp) (SM _)
 unfold Jj;rw[W3];simp only[T5];rw[W3];simp only[T5,hs];rfl
theorem yZ(F:Int)(G:List Int)(A B:List Ro)(AV BV:Aa)(hA:AY AV A)(hB:AY BV B)(hG:G.length≤1000)(Ee:A.length≤1000)(Dh:B.length≤1000) :
 AS Tryz.prog 9 [.agg [.int .i64 F,.An (Z1 G),AV,BV]] (Jj F G A B):=
 Z95 F G A B AV BV (x5 F G A B) hA hB hG Ee Dh
end Go.Ab
