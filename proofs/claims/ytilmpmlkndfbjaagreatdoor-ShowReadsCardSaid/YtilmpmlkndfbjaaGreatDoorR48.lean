/- Part 48 of the proof: Er. -/
import Derived.Test.YtilmpmlkndfbjaaGreatDoorR35
import Derived.Test.YtilmpmlkndfbjaaGreatDoorR47
set_option linter.all false
namespace Go.Known
open Go Go.AE Go.Proofs
open Go.Plain
attribute [local simp] Zd6 Ze1 Zeb Zee Zep Ze7 Zex Zen Zef Zd8 Ze4 isV isVo Zeo Zez Zeu Zd9
def W9(rs:List Ro):Nat:=(rs.filter fun r=>decide (r.1=2)).length
theorem Zwp{a:List Ro}{i:Nat}(h:i<a.length):W9 (a.take (i+1))=W9 (a.take i)+if a[i].1=2 then 1 else 0:=by
 unfold W9;rw[List.take_add_one,gE h,Option.toList_some,List.filter_append,List.length_append]
 congr 1
 by_cases b:a[i].1=2<;>simp[b]
theorem Zgh(a:List Ro):W9 a≤a.length:=List.length_filter_le _ _
instance (m:Nat) (X:List Nd) (L:List (Nat×Nat)):Decidable (Whl m X L):=
 decidable_of_iff (arE m L (m+2*X.length)=0 ∧ ∀ t,t<m+2*X.length→0<t→arE m L t≠0) ⟨fun h=>⟨h.1,fun t h1 h2=>h.2 t h2 h1⟩,fun h=>⟨h.1,fun t h1 h2=>h.2 t h2 h1⟩⟩
def rdN(F:Int)(G:List Int)(A B:List Ro):Int×List Lt×Int:=
 if F<0∨40<F∨(G.length:Int)≠F+1∨minL G<0 then (0,[],2)
 else if 100<W9 A+W9 B∨400<(G.map Int.toNat).sum+2*(W9 A+W9 B)then (0,[],7)
 else if (G.map Int.toNat).sum=0∧A.length+B.length=0 then (F,[],0)
 else if (G.map Int.toNat).sum=0∨(P6 (G.map Int.toNat).sum A B).1=false then (0,[],3)
 else if Whl (G.map Int.toNat).sum (P6 (G.map Int.toNat).sum A B).2.2 (P6 (G.map Int.toNat).sum A B).2.1 then
  (F,X8 (Y0 (G.map Int.toNat).sum (plE 0 (G.map Int.toNat)) (P6 (G.map Int.toNat).sum A B).2.2 (P6 (G.map Int.toNat).sum A B).2.1),0)
 else (0,[],3)
def RowsV(V:AVal)(rs:List Ro):Prop:=V=.imm (rs.map roR)∨(V=.nilSl∧rs=[])
theorem RowsV.ren{V:AVal}{a:List Ro}(h:RowsV V a)(q:Nat→Nat):V.ren q=V:=by
 rcases h with rfl|⟨rfl,_⟩
 ·exact AVal.ren_closed q _ (by simp[AVal.closed,Zf0])
 ·rfl
theorem RowsV.len{V:AVal}{a:List Ro}(h:RowsV V a):W2 V=some a.length:=by
 rcases h with rfl|⟨rfl,rfl⟩
 ·show some (a.map roR).length=_; rw[List.length_map]
 ·rfl
theorem RowsV.cells{V:AVal}{a:List Ro}(h:RowsV V a):V.cells=some [V]∧V.one=true∧V.closed=true:=by
 rcases h with rfl|⟨rfl,rfl⟩
 ·exact⟨rfl,rfl,by simp[AVal.closed,Zf0]⟩
 ·exact⟨rfl,rfl,rfl⟩
theorem RowsV.idx{V:AVal}{a:List Ro}(h:RowsV V a){get:Nat→Option ABlk}{i:Nat}(hi:i<a.length):idxZ get 4 V (some i)=some (.iptr (a.map roR) i 0,[]):=by
 rcases h with rfl|⟨rfl,rfl⟩
 ·rw[Za3,List.getElem?_map,gE hi];rfl
 ·simp at hi
theorem Zyo:∀ (a b:List Nat) (g:Nat),plE g (a++b)=plE g a++plE (g+a.length) b
 | [],b,g=>rfl
 | x :: a,b,g=>by
  show _++plE (g+1) (a++b)=(_++plE (g+1) a)++_;rw[Zyo a b (g+1),List.append_assoc,List.length_cons,show g+(a.length+1)=g+1+a.length by omega]
theorem Zii:∀ (gs:List Nat) (g:Nat),(plE g gs).length=gs.sum
 | [],_=>rfl
 | c :: r,g=>by
  show(_++plE (g+1) r).length=_;rw[List.length_append,Zii r,List.length_map,List.length_range,List.sum_cons]
def plP(gs:List Nat)(i k:Nat):List (Nat×Nat):=plE 0 (gs.take i)++(List.range k).map fun r=>(i,r+1)
theorem Z48{gs:List Nat}{i:Nat}(h:i<gs.length):plP gs i (gs.getD i 0)=plP gs (i+1) 0:=by
 unfold plP;rw[List.take_add_one,gE h,Option.toList_some,Zyo,List.getD,gE h];show _=_++(_++plE _ [])++_;simp[plE,Nat.min_eq_left (Nat.le_of_lt h)]
theorem Z8t(gs:List Nat)(i k:Nat):plP gs i (k+1)=plP gs i k++[(i,k+1)]:=by
 unfold plP;rw[List.range_succ,List.map_append,List.append_assoc];rfl
theorem Z5s(gs:List Nat)(i k:Nat):(plP gs i k).length=(gs.take i).sum+k:=by
 unfold plP;rw[List.length_append,Zii,List.length_map,List.length_range]
theorem Z81(gs:List Nat):plP gs gs.length 0=plE 0 gs:=by
 unfold plP;rw[List.take_length];simp
theorem Z00(t:Nat):Z0 (V2 (t+1))=Z0 (V2 t)++[[.int .i64 ((2*t:Nat):Int)]]:=by
 unfold V2;rw[List.range_succ,List.map_append];simp[Z0]
theorem Z6d(t:Nat):Z0 (U2 (t+1))=Z0 (U2 t)++[[.int .i64 ((2*t+1:Nat):Int)]]:=by
 unfold U2;rw[List.range_succ,List.map_append];simp[Z0]
theorem Z5y(t:Nat):(Z0 (V2 t)).length=t:=by rw[N9]; simp[V2]
theorem Z7v(t:Nat):(Z0 (U2 t)).length=t:=by rw[N9]; simp[U2]
theorem Zvn(P:List (List AVal))(b:W5 P=true)(m:Nat)(below:Bool)(V:AVal)(a:List Ro)(e:RowsV V a)(F oth:List Nat)(L:List (Nat×Nat))(X:List Nd)(d:OpE m F oth L X)(g:2*m+4*(X.length+a.length)≤100000) :
 Ctr Tryz.prog 27 [.ptr 1 0 0,V,.sl 4 0 F.length,.bool below] ⟨(4,.cells 1 (Z0 F)) :: kM m (imV P) 2 3 L X,5⟩ fun r c=>
  r=.bool (W1 m below a F L X).1∧c=⟨kM m (imV P) 5 6 (W1 m below a F L X).2.1 (W1 m below a F L X).2.2,7⟩:=by
 rcases e with rfl|⟨rfl,rfl⟩
 ·exact Z7t P b m below a F oth L X d g
 ·refine(Ycr P b m below F L X).mono fun r c h=>?_
  obtain⟨rfl,rfl⟩:=h;refine⟨?_,rfl⟩;show AVal.bool (decide (F.length=0))=.bool (decide (F=[]))
  congr 1
  rw[Bool.eq_iff_iff];simp
theorem Yc1{f:Int}{y:List Lt}(b:ValR f y)(c:y≠[]):ValR f (X8 y):=by
 refine b.de (Zz5 c) ?_ (Z9r fun a hm d=>((Zlw d).1 (b.okr a hm)).2.2.2.2.2.2)
 have e:0<y.length:=List.length_pos_iff.2 c;rw[Zmy e];unfold renS;rw[if_neg (by rw[b.fst]; decide)]
 exact b.fst
theorem mn1{p:Prop} [Decidable p] {c d:Nat} (h:c≠d):Y8 c (if p then []else [d])=false:=by
 split
 ·rfl
 ·simp[Y8,h]
theorem mn2{b k:Nat}{R:List (List AVal)}{X:List (Nat×ABlk)}:(bif Y8 b (if R=[]then []else [b])then X else blV b k R X)=X:=by
 by_cases h:R=[]
 ·subst h; rfl
 ·rw[if_neg h]; simp[Y8]
theorem Zf5{m:Nat}{below:Bool}:∀ (b:List Ro) (a:List Nat) (L:List (Nat×Nat)) (X:List Nd) (d:List (Nat×Nat)) (c:List Nd),W1 m below b a L X=(true,d,c)→c.length=X.length+W9 b
 | [],a,L,X,d,c,h=>by
  simp only[W1,pI2,decide_eq_true_eq]at h;obtain⟨_,_,rfl⟩:=h;rfl
 | r :: b,a,L,X,d,c,h=>by
  have e:W9 (r :: b)=W9 b+if r.1=2 then 1 else 0:=by
   unfold W9;rw[List.filter_cons];by_cases g:r.1=2<;>simp[g]
  simp only[W1]at h;split at h
  ·rename_i f;rw[Zf5 b _ _ _ _ _ h,e,if_neg (by rw[f.1]; decide),Nat.add_zero]
  ·split at h
   ·rename_i f;rw[Zf5 b _ _ _ _ _ h,e,if_pos f.1,List.length_append,List.length_singleton];omega
   ·cases h
set_option maxRecDepth 100000 in
set_option maxHeartbeats 16000000 in
theorem Z14(F:Int)(G:List Int)(A B:List Ro)(AV BV:AVal)(hA:RowsV AV A)(hB:RowsV BV B)(hG:G.length≤1000)(dz:A.length≤1000)(d0:B.length≤1000) :
 Ctr Tryz.prog 9 [.agg [.int .i64 F,.imm (Z2 G),AV,BV]] ⟨[],1⟩ fun r mm=>∃ rows,rows=(rdN F G A B).2.1.map rowL ∧
  r=.tuple [.agg [.int .i64 (rdN F G A B).1,slV 1 rows],.int .i64 (rdN F G A B).2.2]∧mm=⟨blV 1 6 rows [],2⟩:=by
 refine Zg4 hm [] Tryz.func9 cf20 rfl rfl fun K hK=>?_
 obtain⟨aw,ax,et⟩:=hA.cells;obtain⟨ak,al,eu⟩:=hB.cells;have w:=hA.len;have u:=hB.len;have a:=hA.ren;have b:=hB.ren;have Q:=Zap G;have v:∀ q,Z6 q (Z2 G)=Z2 G:=fun q=>X6 q _ (L5 G)
 have hk:∀ f ls e,rdN F G A B=(f,ls,e)→K (.tuple [.agg [.int .i64 f,slV 1 (ls.map rowL)],.int .i64 e]) ⟨blV 1 6 (ls.map rowL) [],2⟩:=fun f ls e he=>hK _ _ ⟨_,rfl,by rw[he],by rw[he]⟩
 clear hK;by_cases am:F<0
 ·have o:=hk 0 [] 2 (by unfold rdN; rw[if_pos (.inl am)])
  simp[aw,ak,ax,al,am,w,u,Q,W2];exact Z9 o [] (by simp)
 by_cases ay:40<F
 ·have o:=hk 0 [] 2 (by unfold rdN; rw[if_pos (.inr (.inl ay))])
  simp[aw,ak,ax,al,am,ay,w,u,Q,W2];exact Z9 o [] (by simp)
 have cj:IntKind.i64.wrap (F+1)=F+1:=Z1 (by omega) (by omega)
 by_cases H:¬(G.length:Int)=F+1
 ·have o:=hk 0 [] 2 (by unfold rdN; rw[if_pos (.inr (.inr (.inl H)))])
  simp[aw,ak,ax,al,am,ay,w,u,Q,W2,cj,H];exact Z9 o [] (by simp)
 replace H:(G.length:Int)=F+1:=Classical.not_not.1 H
 have cq:G≠[]:=fun e=>by rw[e]at H; simp at H; omega
 have bb:PCall Tryz.prog 26 [.imm (Z2 G)] (.int .i64 (minL G)):=by
  cases G with
  | nil=>exact absurd rfl cq
  | cons x l=>exact cMin x l (by simp at hG; omega)
 by_cases a3:minL G<0
 ·have o:=hk 0 [] 2 (by unfold rdN; rw[if_pos (.inr (.inr (.inr a3)))])
  simp[aw,ak,ax,al,am,ay,w,u,Q,W2,cj,H];refine J7 bb ?_;simp[a3];exact Z9 o [] (by simp)
 have ee:∀ y,y∈G→0≤y:=fun y hy=>by
  rcases Int.lt_or_le y 0 with c|c
  ·exact absurd ((Zop cq).2 ⟨y,hy,c⟩) a3
  ·exact c
 obtain⟨gs,ch⟩:∃ gs:List Nat,gs=G.map Int.toNat:=⟨_,rfl⟩
 have cr:G=gs.map fun g=>((g:Nat):Int):=by
  rw[ch,List.map_map]
  conv=>lhs; rw[← List.map_id G]
  refine List.map_congr_left fun y hy=>?_
  have:=ee y hy;show y=((y.toNat:Nat):Int);omega
 have b0:gs.length=G.length:=by rw[ch,List.length_map]
 have I:∀ z,(if 100<W9 A+W9 B∨400<gs.sum+2*(W9 A+W9 B)then (0,[],7)
  else if gs.sum=0∧A.length+B.length=0 then (F,[],0)
  else if gs.sum=0∨(P6 gs.sum A B).1=false then (0,[],3)
  else if Whl gs.sum (P6 gs.sum A B).2.2 (P6 gs.sum A B).2.1 then (F,X8 (Y0 gs.sum (plE 0 gs) (P6 gs.sum A B).2.2 (P6 gs.sum A B).2.1),0)else (0,[],3))=z→rdN F G A B=z:=fun z hz=>by
  unfold rdN;rw[if_neg (by simp[am,ay,H,a3]),← ch]
  exact hz
 have cs:∀ i,i<gs.length→(Z2 G)[i]? = some [.int .i64 (gs.getD i 0:Nat)]:=fun i hi=>by
  rw[Zf6 (by omega)]
  have:G.getD i 0=((gs.getD i 0:Nat):Int):=by rw[cr,List.getD,List.getElem?_map,List.getD,gE hi]; rfl
  rw[this]
 simp[aw,ak,ax,al,am,ay,w,u,Q,W2,cj,H];refine J7 bb ?_;simp[a3,Q,W2];have e7:∀ q:Nat→Nat,U7 q [.int .i64 F,.imm (Z2 G),AV,BV]=[.int .i64 F,.imm (Z2 G),AV,BV]:=fun q=>by simp[U7,AVal.ren,v,a,b]
 have an:(Z2 G).length=G.length:=Q;generalize Z2 G=GR at *;have e0:gs.length≤1000:=by omega
 refine G1 (α:=Nat) (fun i=>[(1,.ptr 1 0 0),(2,.ptr 2 0 0),(4,.int .i64 (min (gs.take i).sum 401:Nat)),(5,.int .i64 0),(46,.imm GR),(47,.int .i64 gs.length),(48,.int .i64 i)])
  (fun _=>⟨[(2,.cells 2 [[.int .i64 0,.nilSl]]),(1,.cells 4 [[.int .i64 F,.imm GR,AV,BV]])],3⟩) (fun i=>gs.length - i) (fun i=>i≤gs.length) 0 [] (by simp[v,a,b,b0]) (by omega) ?_
 intro i hi N hN;by_cases d:¬i=gs.length
 ·have p:i<gs.length:=by omega
  have hg:=cs i p;obtain⟨_,ah⟩:=Y5 hg;have dn:(gs.take (i+1)).sum=(gs.take i).sum+gs.getD i 0:=by
   rw[List.take_add_one,List.sum_append,List.getD,gE p];simp
  have J:=hN (i+1);rw[dn]at J;have hw:IntKind.i64.wrap ((i:Int)+1)=((i+1:Nat):Int):=by rw[Z1 (by omega) (by omega)]; omega
  generalize gs.getD i 0=g at *;generalize (gs.take i).sum=s at *;have em:IntKind.i64.wrap (((min s 401:Nat):Int)+(if (401:Int)<(g:Int)then (401:Int)else (g:Int)))=((min s 401:Nat):Int)+(if (401:Int)<(g:Int)then (401:Int)else (g:Int)):=by
   rw[Z1 (by split<;>omega) (by split<;>omega)]
  have ed:(if (401:Int)<((min s 401:Nat):Int)+(if (401:Int)<(g:Int)then (401:Int)else (g:Int))then (401:Int)else ((min s 401:Nat):Int)+(if (401:Int)<(g:Int)then (401:Int)else (g:Int)))=((min (s+g) 401:Nat):Int):=by
   split<;>split<;>omega
  generalize ((min (s+g) 401:Nat):Int)=mm2 at *;generalize ((min s 401:Nat):Int)=mm1 at *;simp[p,hg,ah,an,← b0,Zct,hw,em,ed];exact J [] _ _ (by omega) (by omega) (by simp[v,a,b])
 replace d:i=gs.length:=Classical.not_not.1 d
 subst d;rw[List.take_length];clear hN hi;simp[aw,ak,ax,al];obtain⟨m4,eb⟩:∃ m4,m4=min gs.sum 401:=⟨_,rfl⟩
 obtain⟨mm4,bn⟩:∃ mm4:Int,mm4=((min gs.sum 401:Nat):Int):=⟨_,rfl⟩
 rw[← bn];obtain⟨nJ,a4⟩:∃ nJ:Nat→Nat,nJ=fun j=>if j=0 then 0 else if j=1 then W9 A else W9 A+W9 B:=⟨_,rfl⟩
 have d6:=Zgh A;have d7:=Zgh B;obtain⟨VV,az⟩:∃ VV:List (List AVal),VV=[[AV],[BV]]:=⟨_,rfl⟩
 have ab:∀ q,Z6 q VV=VV:=fun q=>by rw[az]; simp[Z6,U7,a,b]
 have b9:VV.length=2:=by rw[az]; rfl
 refine G1 (α:=Nat) (fun j=>[(1,.ptr 1 0 0),(2,.ptr 2 0 0),(4,.int .i64 mm4),(5,.int .i64 (nJ j:Nat)),(62,.sl 3 0 2),(63,.int .i64 2),(64,.int .i64 j)])
  (fun _=>⟨[(2,.cells 2 [[.int .i64 0,.nilSl]]),(1,.cells 4 [[.int .i64 F,.imm GR,AV,BV]]),(3,.cells 1 VV)],4⟩) (fun j=>2 - j) (fun j=>j≤2) 0 [(3,8)] (by simp[v,a,b,a4,ab]; exact .inl az.symm) (by omega) ?_
 intro j hj N hN;by_cases d:¬j=2
 ·obtain⟨V,L,hV,c1,d4,e8⟩:∃ (V:AVal) (L:List Ro),RowsV V L∧VV[j]? = some [V]∧nJ (j+1)=nJ j+W9 L∧L.length≤1000:=by
   have:j=0∨j=1:=by omega
   rcases this with rfl|rfl
   ·exact⟨AV,A,hA,by rw[az]; rfl,by rw[a4]; simp,dz⟩
   ·exact⟨BV,B,hB,by rw[az]; rfl,by rw[a4]; simp,d0⟩
  have e6:nJ j≤2000:=by
   rw[a4];show(if j=0 then 0 else if j=1 then W9 A else W9 A+W9 B)≤2000
   split
   ·omega
   ·split<;>omega
  have J:=hN (j+1);rw[d4]at J;clear hN;have d9:j<2:=by omega
  have cf:=hV.len;have bi:=hV.ren;obtain⟨e3,e4,_⟩:=hV.cells;have d3:=fun {get:Nat→Option ABlk} {i:Nat} (hi:i<L.length)=>hV.idx (get:=get) hi
  obtain⟨_,c2⟩:=Y5 c1;have d2:∀ i (h:i<L.length),(L.map roR)[i]? = some (roR L[i]):=fun i h=>by rw[List.getElem?_map,gE h]; rfl
  have ey:∀ q,Z6 q (L.map roR)=L.map roR:=fun q=>X6 q _ (Zf0 L)
  have en:IntKind.i64.wrap ((j:Int)+1)=((j+1:Nat):Int):=by rw[Z1 (by omega) (by omega)]; omega
  have df:(j:Int)<2:=by omega
  simp[d9,df,c1,c2,cf,b9];refine G1 (α:=Nat) (fun i=>[(1,.ptr 1 0 0),(2,.ptr 2 0 0),(4,.int .i64 mm4),(5,.int .i64 (nJ j+W9 (L.take i):Nat)),(62,.sl 3 0 2),(63,.int .i64 2),(64,.int .i64 j),(68,V),(69,.int .i64 L.length),(70,.int .i64 i)])
   (fun _=>⟨[(2,.cells 2 [[.int .i64 0,.nilSl]]),(1,.cells 4 [[.int .i64 F,.imm GR,AV,BV]]),(3,.cells 1 VV)],4⟩) (fun i=>L.length - i) (fun i=>i≤L.length) 0 [] (by simp[v,a,b,bi,W9,ab]) (by omega) ?_
  intro i hi N2 bv;have d8:=Zgh (L.take i);rw[List.length_take]at d8;by_cases aq:¬i=L.length
  ·have p:i<L.length:=by omega
   have E:=bv (i+1);rw[Zwp p]at E;have dd:=fun (get:Nat→Option ABlk)=>d3 (get:=get) p
   have hg:=d2 i p;obtain⟨_,ah⟩:=Y5 hg;generalize L.map roR=RR at *;have dt:IntKind.i64.wrap ((i:Int)+1)=((i+1:Nat):Int):=by rw[Z1 (by omega) (by omega)]; omega
   obtain⟨⟨kd,ez,nn,ov⟩,hr⟩:∃ r,r=L[i]:=⟨_,rfl⟩
   rw[← hr]at hg ah E;simp only[roR]at hg ah E;by_cases bm:kd=2
   ·rw[if_pos bm]at E;have eo:IntKind.i64.wrap (((nJ j+W9 (L.take i):Nat):Int)+1)=((nJ j+(W9 (L.take i)+1):Nat):Int):=by rw[Z1 (by omega) (by omega)]; omega
    generalize nJ j+(W9 (L.take i)+1)=c1 at *;generalize nJ j+W9 (L.take i)=c0 at *;simp[p,dd,hg,ah,bm,eo,dt];exact E [] _ _ (by omega) (by omega) (by simp[v,a,b,bi,ab])
   ·rw[if_neg bm,Nat.add_zero]at E;generalize nJ j+W9 (L.take i)=c0 at *;simp[p,dd,hg,ah,bm,dt];exact E [] _ _ (by omega) (by omega) (by simp[v,a,b,bi,ab])
  ·replace aq:i=L.length:=Classical.not_not.1 aq
   subst aq;rw[List.take_length];generalize nJ j+W9 L=c0 at *;simp[en];exact J [] _ _ (by omega) (by omega) (by simp[v,a,b,ab])
 replace d:j=2:=Classical.not_not.1 d
 subst d;clear hN hj;have dj:nJ 2=W9 A+W9 B:=by rw[a4]; rfl
 rw[dj];clear dj a4;obtain⟨n,hn⟩:∃ n,n=W9 A+W9 B:=⟨_,rfl⟩
 rw[← hn]at I ⊢;have dy:n≤2000:=by omega
 by_cases au:100<n
 ·have o:=hk 0 [] 7 (I _ (by rw[if_pos (.inl au)]))
  have ad:(100:Int)<n:=by omega
  simp[au,ad];exact Z9 o [] (by simp)
 have ad:¬(100:Int)<n:=by omega
 have cc:IntKind.i64.wrap (2*(n:Int))=2*n:=Z1 (by omega) (by omega)
 have bp:IntKind.i64.wrap (mm4+2*(n:Int))=mm4+2*n:=Z1 (by omega) (by omega)
 by_cases b4:400<gs.sum+2*n
 ·have o:=hk 0 [] 7 (I _ (by rw[if_pos (.inr b4)]))
  have ae:(400:Int)<mm4+2*n:=by omega
  simp[au,ad,cc,bp,ae];exact Z9 o [] (by simp)
 have ae:¬(400:Int)<mm4+2*n:=by omega
 rw[if_neg (by omega)]at I
 obtain⟨m,hm⟩:∃ m,m=gs.sum:=⟨_,rfl⟩
 have di:mm4=(m:Nat):=by rw[bn]; omega
 rw[← hm]at I b4;have dv:IntKind.i64.wrap (2*(m:Int))=2*m:=Z1 (by omega) (by omega)
 rw[di]at bp ae ⊢;have ec:2*m≤1048576:=by omega
 have dx:(0:Int)≤2*m:=by omega
 have dq:(2*(m:Int)).toNat=2*m:=by omega
 clear bn eb;simp[au,ad,cc,bp,ae,dv,ec,dx,dq];clear bb a3 d6 d7 ab b9 az;obtain⟨ZR,cg⟩:∃ ZR,ZR=List.replicate (2*m) [AVal.int .i64 0]:=⟨_,rfl⟩
 have a1:∀ q,Z6 q ZR=ZR:=fun q=>by rw[cg,Zah]; simp[U7,AVal.ren]
 rw[← cg];obtain⟨PR,ao⟩:∃ PR:Nat→Nat→List (List AVal),PR=fun i k=>((plP gs i k).map passL).map rowL:=⟨_,rfl⟩
 have aa:∀ i k q,Z6 q (PR i k)=PR i k:=fun i k q=>by rw[ao]; exact X6 q _ (U6 _)
 have Z:∀ i k,(PR i k).length=(gs.take i).sum+k:=fun i k=>by rw[ao]; simp[Z5s]
 have ag:∀ i k,PR i (k+1)=PR i k++[rowL (passL (i,k+1))]:=fun i k=>by rw[ao]; simp[Z8t]
 have b8:∀ i,i<gs.length→PR i (gs.getD i 0)=PR (i+1) 0:=fun i hi=>by rw[ao]; simp only[Z48 hi]
 have b7:PR gs.length 0=((plE 0 gs).map passL).map rowL:=by rw[ao]; simp only[Z81]
 have b6:PR 0 0=[]:=by rw[ao]; rfl
 clear ao;have X:∀ q t,Z6 q (Z0 (V2 t))=Z0 (V2 t):=fun q t=>Z8 q _
 have P:∀ q t,Z6 q (Z0 (U2 t))=Z0 (U2 t):=fun q t=>Z8 q _
 obtain⟨U,hU⟩:∃ U:Nat→List (List AVal),U=fun t=>Z0 (V2 t):=⟨_,rfl⟩
 obtain⟨D,hD⟩:∃ D:Nat→List (List AVal),D=fun t=>Z0 (U2 t):=⟨_,rfl⟩
 have X:∀ t q,Z6 q (U t)=U t:=fun t q=>by rw[hU]; exact X q t
 have P:∀ t q,Z6 q (D t)=D t:=fun t q=>by rw[hD]; exact P q t
 have cz:U 0=[]:=by rw[hU]; rfl
 have co:D 0=[]:=by rw[hD]; rfl
 have O:∀ t,(U t).length=t:=fun t=>by rw[hU]; exact Z5y t
 have M:∀ t,(D t).length=t:=fun t=>by rw[hD]; exact Z7v t
 have c0:∀ t,U (t+1)=U t++[[.int .i64 ((2*t:Nat):Int)]]:=fun t=>by rw[hU]; exact Z00 t
 have cp:∀ t,D (t+1)=D t++[[.int .i64 ((2*t+1:Nat):Int)]]:=fun t=>by rw[hD]; exact Z6d t
 have av:∀ i,i<gs.length→(gs.take i).sum+gs.getD i 0≤m:=fun i hi=>by
  have h1:(gs.take (i+1)).sum=(gs.take i).sum+gs.getD i 0:=by
   rw[List.take_add_one,List.sum_append,List.getD,gE hi];simp
  have h2:(gs.take (i+1)).sum+(gs.drop (i+1)).sum=gs.sum:=by rw[← List.sum_append,List.take_append_drop]
  omega
 refine G1 (α:=Nat) (fun i=>[(1,.ptr 1 0 0),(2,.ptr 2 0 0),(4,.int .i64 m),(12,.ptr 10 0 0),(13,slV 13 (U (gs.take i).sum)),(14,slV 14 (D (gs.take i).sum)),(97,.imm GR),(98,.int .i64 gs.length),(99,.int .i64 i)])
  (fun i=>⟨[(2,.cells 2 [[.int .i64 0,.nilSl]]),(1,.cells 4 [[.int .i64 F,.imm GR,AV,BV]]),(10,.cells 3 [[slV 11 (PR i 0),.sl 12 0 (2*m),.nilSl]]),(12,.cells 1 ZR)]++blV 11 6 (PR i 0) (blV 13 1 (U (gs.take i).sum) (blV 14 1 (D (gs.take i).sum) [])),15⟩) (fun i=>gs.length - i) (fun i=>i≤gs.length) 0 [(10,18),(12,16)] (by simp[v,a,b,cz,co,b6,a1,b0,an]) (by omega) ?_
 intro i hi N hN;by_cases d:¬i=gs.length
 ·have p:i<gs.length:=by omega
  have hg:=cs i p;obtain⟨_,ah⟩:=Y5 hg;have J:=hN (i+1);have eh:=av i p;have eg:(gs.take (i+1)).sum=(gs.take i).sum+gs.getD i 0:=by
   rw[List.take_add_one,List.sum_append,List.getD,gE p];simp
  have hw:IntKind.i64.wrap ((i:Int)+1)=((i+1:Nat):Int):=by rw[Z1 (by omega) (by omega)]; omega
  rw[eg,← b8 i p]at J;generalize gs.getD i 0=c at *;obtain⟨s,hs⟩:∃ s,s=(gs.take i).sum:=⟨_,rfl⟩
  have Z:=fun k=>Z i k
  have ag:=fun k=>ag i k
  have aa:=fun k=>aa i k
  rw[← hs]at J eh;simp only[← hs]at Z ⊢;simp[p,hg,ah,an,← b0];refine G1 (α:=Nat) (fun k=>[(1,.ptr 1 0 0),(2,.ptr 2 0 0),(4,.int .i64 m),(12,.ptr 10 0 0),(13,slV 13 (U (s+k))),(14,slV 14 (D (s+k))),(97,.imm GR),(98,.int .i64 gs.length),(99,.int .i64 i),(15,.int .i64 i),(104,.int .i64 c),(105,.int .i64 k)])
   (fun k=>⟨[(2,.cells 2 [[.int .i64 0,.nilSl]]),(1,.cells 4 [[.int .i64 F,.imm GR,AV,BV]]),(10,.cells 3 [[slV 11 (PR i k),.sl 12 0 (2*m),.nilSl]]),(12,.cells 1 ZR)]++blV 11 6 (PR i k) (blV 13 1 (U (s+k)) (blV 14 1 (D (s+k)) [])),15⟩) (fun k=>c - k) (fun k=>k≤c) 0 [] (by simp +contextual [v,a,b,X,P,aa,a1]) (by omega) ?_
  intro k bm N2 bv;by_cases aq:¬k=c
  ·have dg:k<c:=by omega
   have E:=bv (k+1);obtain⟨t,ht⟩:∃ t,t=s+k:=⟨_,rfl⟩
   have bd:=Z k;rw[ag k,show s+(k+1)=t+1 by omega,c0 t,cp t]at E
   have du:IntKind.i64.wrap ((k:Int)+1)=((k+1:Nat):Int):=by rw[Z1 (by omega) (by omega)]; omega
   have dw:IntKind.i64.wrap (2*(t:Int))=((2*t:Nat):Int):=by rw[Z1 (by omega) (by omega)]; omega
   have bq:IntKind.i64.wrap (((2*t:Nat):Int)+1)=((2*t+1:Nat):Int):=by rw[Z1 (by omega) (by omega)]; omega
   rw[← ht]at bd ⊢;have O:=O t;have M:=M t;have bh:=X t;have a8:=P t;have be:=aa k;have dk:¬t+1≤t:=by omega
   have ej:t≤1048575:=by omega
   obtain⟨cm,dp⟩:∃ cm,cm=2*t+1:=⟨_,rfl⟩
   obtain⟨t2,ei⟩:∃ t2,t2=2*t:=⟨_,rfl⟩
   rw[← dp]at bq E;rw[← ei]at dw bq E;generalize PR i k=C at *;generalize U t=UU at *;generalize D t=DD at *;by_cases e9:t=0
   ·have e1:C=[]:=List.eq_nil_of_length_eq_zero (by omega)
    have e2:UU=[]:=List.eq_nil_of_length_eq_zero (by omega)
    have e3:DD=[]:=List.eq_nil_of_length_eq_zero (by omega)
    subst e1; subst e2; subst e3;have ek:IntKind.i64.wrap 0=0:=rfl;have el:IntKind.i64.wrap 1=1:=rfl;have z2:t2=0:=by omega
    have es:cm=1:=by omega
    rw[z2,es]at E;simp[dg,du,ek,el,Zay,Za4,X5];exact E [(11,49),(13,26),(14,36)] _ _ (by omega) (by omega) (by simp[v,a,b,a1,rowL,passL,slV,blV])
   ·have e1:¬C=[]:=fun e=>by rw[e]at bd; simp at bd; omega
    have e2:¬UU=[]:=fun e=>by rw[e]at O; simp at O; omega
    have e3:¬DD=[]:=fun e=>by rw[e]at M; simp at M; omega
    have q1:List.take t C=C:=List.take_of_length_le (by omega)
    have q2:List.take t UU=UU:=List.take_of_length_le (by omega)
    have q3:List.take t DD=DD:=List.take_of_length_le (by omega)
    simp[dg,du,dw,bq,W4 e1,W4 e2,W4 e3,Y7 e1,Y7 e2,Y7 e3,e1,e2,e3,bd,O,M,dk,ej,X5,q1,q2,q3];exact E [(11,49),(13,26),(14,36)] _ _ (by omega) (by omega) (by simp[v,a,b,a1,rowL,passL,be,bh,a8,bd,O,M])
  ·replace aq:k=c:=Classical.not_not.1 aq
   subst aq;have be:=aa k;have bh:=X (s+k);have a8:=P (s+k);clear bv ag Z;generalize PR i k=C at *;generalize U (s+k)=UU at *;generalize D (s+k)=DD at *;simp[hw];exact J [] _ _ (by omega) (by omega) (by simp +contextual [v,a,b,a1,be,bh,a8])
 replace d:i=gs.length:=Classical.not_not.1 d
 subst d;rw[List.take_length,← hm,b7];clear hN hi Z ag b8 aa b7 b6 av;obtain⟨C,bc⟩:∃ C,C=((plE 0 gs).map passL).map rowL:=⟨_,rfl⟩
 have b5:C.length=m:=by rw[bc,List.length_map,List.length_map,Zii,hm]
 have af:W5 C=true:=by rw[bc]; exact U6 _
 have ew:∀ q,Z6 q C=C:=fun q=>X6 q _ af
 have cy:∀ (get:Nat→Option ABlk) row,row∈C → ∀ x,x∈row→X3 get 4 x=some x:=fun get=>by rw[bc]; exact Zjl (n:=3) _
 rw[← bc];have X:=X m;have P:=P m;have O:=O m;have M:=M m;obtain⟨UU,bf⟩:∃ UU,UU=U m:=⟨_,rfl⟩
 obtain⟨DD,a6⟩:∃ DD,DD=D m:=⟨_,rfl⟩
 rw[← bf]at X O ⊢;rw[← a6]at P M ⊢;rw[hU]at bf;rw[hD]at a6
 replace bf:UU=Z0 (V2 m):=bf
 replace a6:DD=Z0 (U2 m):=a6
 clear hU hD c0 cp cz co;simp;obtain⟨ZM,a0⟩:∃ ZM:Nat→List (List AVal),ZM=fun i=>List.replicate i [AVal.int .i64 (-1)]++List.replicate (2*m - i) [AVal.int .i64 0]:=⟨_,rfl⟩
 have c5:ZM 0=ZR:=by rw[a0,cg]; rfl
 have ca:∀ i q,Z6 q (ZM i)=ZM i:=fun i q=>by rw[a0,Zah]; simp[U7,AVal.ren]
 have c8:∀ i,i≤2*m→(ZM i).length=2*m:=fun i hi=>by rw[a0]; simp; omega
 have cb:∀ i,i<2*m→(ZM i).set i [AVal.int .i64 (-1)]=ZM (i+1):=fun i hi=>by
  rw[a0];simp only;rw[List.set_append_right _ _ (by simp),List.length_replicate,Nat.sub_self,show 2*m - i=2*m - (i+1)+1 by omega,List.replicate_succ,List.set_cons_zero,List.replicate_succ',List.append_assoc]
  rfl
 have c7:∀ i,i<2*m → ∃ y,(ZM i)[i]? = some [y]:=fun i hi=>by
  rw[a0];simp only;rw[List.getElem?_append_right (by simp),List.length_replicate,Nat.sub_self,show 2*m - i=2*m - (i+1)+1 by omega,List.replicate_succ]
  exact⟨_,rfl⟩
 have c6:ZM (2*m)=Z2 (jnA (2*m) []):=by
  rw[a0];simp[Z2,jnA]
 refine Zjy (α:=Nat) (fun i=>[(1,.ptr 1 0 0),(2,.ptr 2 0 0),(4,.int .i64 m),(12,.ptr 10 0 0),(13,slV 13 UU),(14,slV 14 DD),(145,.sl 12 0 (2*m)),(146,.int .i64 (2*m:Nat)),(147,.int .i64 i)])
  (fun i=>⟨[(2,.cells 2 [[.int .i64 0,.nilSl]]),(1,.cells 4 [[.int .i64 F,.imm GR,AV,BV]]),(10,.cells 3 [[imV C,.sl 12 0 (2*m),.nilSl]]),(12,.cells 1 (ZM i))]++blV 13 1 UU (blV 14 1 DD []),15⟩) (fun i=>2*m - i) (fun i=>i≤2*m) 0 (SubX.wk (l:=[]) (S:=[11]) ⟨by simp,by simp,?_,?_,?_⟩) (by omega) ?_
 ·simp[SubFE]
 ·have Y:∀ q,(imV C).ren q=imV C:=fun q=>AVal.ren_closed q _ (Zaq af)
  have da:∀ get:Nat→Option ABlk,get 11=(if C=[]then none else some (.cells 6 C))→C2 get [11] [[slV 11 C,.sl 12 0 (2*m),.nilSl]]=[[imV C,.sl 12 0 (2*m),.nilSl]]:=fun get hg=>by
   unfold C2;simp only[List.map_cons,List.map_nil];rw[Zwb rfl hg (cy _)];rfl
  simp +contextual [SubFB,Y8,Z6y,v,a,b,ca,c5,X,P,Y];refine⟨.inr ⟨3,_,⟨rfl,rfl⟩,rfl,(da _ (by simp)).symm⟩,.inl (a1 _).symm⟩
 ·simp
 intro i hi N hN;have Y:∀ q,(imV C).ren q=imV C:=fun q=>AVal.ren_closed q _ (Zaq af)
 have e1:=Zlh C;have e2:=Zk9 C;by_cases d:¬i=2*m
 ·have p:i<2*m:=by omega
  obtain⟨y,hy⟩:=c7 i p;obtain⟨_,er⟩:=Y5 hy;have J:=hN (i+1);rw[← cb i p]at J;have ef:∀ q,Z6 q ((ZM i).set i [AVal.int .i64 (-1)])=(ZM i).set i [AVal.int .i64 (-1)]:=fun q=>by rw[cb i p,ca]
  have dh:=c8 i hi;have hw:IntKind.i64.wrap ((i:Int)+1)=((i+1:Nat):Int):=by rw[Z1 (by omega) (by omega)]; omega
  have dc:(i:Int)<((2*m:Nat):Int):=by omega
  obtain⟨m2,ea⟩:∃ m2,m2=2*m:=⟨_,rfl⟩
  rw[← ea]at p dh dc J ⊢;generalize imV C=IP at *;simp[p,hy,er,dh,hw];refine J _ _ (by omega) (by omega) (SubR.wk (l:=[]) ?_)
  simp +contextual [v,a,b,X,P,Y,ef]
 replace d:i=2*m:=Classical.not_not.1 d
 subst d;clear hN hi;rw[c6];have ck:IntKind.i64.wrap ((A.length:Int)+B.length)=(A.length:Int)+B.length:=Z1 (by omega) (by omega)
 by_cases ar:m=0
 ·by_cases cn:A.length+B.length=0
  ·have o:=hk F [] 0 (I _ (by rw[if_pos ⟨ar,cn⟩]))
   have a5:(A.length:Int)+B.length=0:=by omega
   have aj:((m:Nat):Int)=0:=by omega
   generalize imV C=IP at *;simp[w,u,ck,a5,ar,aj];exact Z9 o [] (by simp)
  ·have o:=hk 0 [] 3 (I _ (by rw[if_neg (fun e=>cn e.2),if_pos (.inl ar)]))
   have a5:¬(A.length:Int)+B.length=0:=by omega
   have aj:((m:Nat):Int)=0:=by omega
   generalize imV C=IP at *;simp[w,u,ck,a5,ar,aj];exact Z9 o [] (by simp)
 have aj:¬((m:Nat):Int)=0:=by omega
 rw[if_neg (fun e=>ar e.1)]at I
 have bg:¬UU=[]:=fun e=>by rw[e]at O; simp at O; omega
 have a7:¬DD=[]:=fun e=>by rw[e]at M; simp at M; omega
 have cv:OpE m (V2 m) (U2 m) [] []:=by
  unfold OpE;simp only[U9,List.flatMap_nil,List.append_nil,List.length_nil,Nat.mul_zero,Nat.add_zero];exact Zje m
 have ai:=Zvn C af m false AV A hA (V2 m) (U2 m) [] [] cv (by simp; omega)
 have dr:(V2 m).length=m:=by simp[V2]
 have c9:(U2 m).length=m:=by simp[U2]
 rw[dr,← bf]at ai;unfold kM knB at ai;have ep:(xJ m []).map ndL=[]:=rfl;rw[ep,Zay,Za4]at ai;simp only[List.length_nil,Nat.mul_zero,Nat.add_zero]at ai;obtain⟨b1,L1,X1,b2⟩:∃ b1 L1 X1,W1 m false A (V2 m) [] []=(b1,L1,X1):=⟨_,_,_,rfl⟩
 rw[b2]at ai;simp only at ai;obtain⟨bt,bj⟩:∃ bt,bt=(xJ m X1).map ndL:=⟨_,rfl⟩
 obtain⟨br,a9⟩:∃ br,br=Z2 (jnA (2*m+4*X1.length) L1):=⟨_,rfl⟩
 rw[← bj,← a9]at ai;have ac:P6 m A B=if b1 then W1 m true B (U2 m) L1 X1 else (b1,L1,X1):=by unfold P6; rw[b2]
 generalize ct:imV C=IP at *;simp[w,u,ck,ar,aj,W4 bg,Y7 bg,W4 a7,Y7 a7,bg,a7,O,M];have ce:∀ (l:List Int) q,Z6 q (Z2 l)=Z2 l:=fun l q=>X6 q _ (L5 l)
 have c3:∀ (l:List (Int×Nd)) q,Z6 q (l.map ndL)=l.map ndL:=fun l q=>X6 q _ (Zg3 l)
 have cl:∀ q,Z6 q bt=bt:=fun q=>by rw[bj]; exact c3 _ q
 have ci:∀ q,Z6 q br=br:=fun q=>by rw[a9]; exact ce _ q
 refine Q1 ai [(1,10),(2,12),(4,13)] (by simp[a]) (by simp[Y,X,ce]) (by simp) ?_
 rintro _ _ ⟨rfl,rfl⟩;cases b1 with
 | false=>
  have o:=hk 0 [] 3 (I _ (by rw[if_pos (.inr (by rw[ac]; rfl))]))
  simp[Y,ci,cl];exact Z9 o [] (by simp)
 | true=>
  rw[if_pos rfl]at ac;have d5:=Zf5 A _ _ _ _ _ b2;simp only[List.length_nil,Nat.zero_add]at d5;obtain⟨cw,_,_⟩:=Zgq A _ _ _ _ _ cv b2;have d1:OpE m (U2 m) [] L1 X1:=by unfold OpE at cw ⊢; simpa using cw
  have a2:=Zvn C af m true BV B hB (U2 m) [] L1 X1 d1 (by have:=Zgh A; omega)
  rw[c9,← a6,ct]at a2;unfold kM knB at a2;obtain⟨b2,L2,X2,dm⟩:∃ b2 L2 X2,W1 m true B (U2 m) L1 X1=(b2,L2,X2):=⟨_,_,_,rfl⟩
  rw[dm]at a2 ac;simp only at a2;obtain⟨bu,bl⟩:∃ bu,bu=(xJ m X2).map ndL:=⟨_,rfl⟩
  obtain⟨bs,ba⟩:∃ bs,bs=Z2 (jnA (2*m+4*X2.length) L2):=⟨_,rfl⟩
  rw[← bj,← a9,← bl,← ba]at a2;have b3:∀ q,Z6 q bu=bu:=fun q=>by rw[bl]; exact c3 _ q
  have b1:∀ q,Z6 q bs=bs:=fun q=>by rw[ba]; exact ce _ q
  simp[Y,ci,cl,u,ak,al];refine Q1 a2 [(1,10),(2,46),(3,47),(4,14)] (by simp[b]) (by simp +contextual [Y,P,ci,cl]) (by simp) ?_
  rintro _ _ ⟨rfl,rfl⟩;cases b2 with
  | false=>
   have o:=hk 0 [] 3 (I _ (by rw[if_pos (.inr (by rw[ac]))]))
   simp[Y,b1,b3,mn1,mn2];exact Z9 o [] (by simp)
  | true=>
   have e5:=Zf5 B _ _ _ _ _ dm;rw[ac,if_neg (fun e=>by rcases e with e|e; exact ar e; exact absurd e (by simp))]at I
   simp only at I;have bx:Rdg m X2 L2:=Zsy (by omega) ac
   have bw:(plE 0 gs).length=m:=by rw[Zii,hm]
   have db:gs.length=F.toNat+1:=by omega
   have ds:Whl m X2 L2→P2 F (X8 (Y0 m (plE 0 gs) X2 L2))=0:=fun hw=>by
    have hv:=Z05 bx hw bw db (by omega) (by omega) (by omega)
    have hF:((F.toNat:Nat):Int)=F:=by omega
    rw[hF]at hv;exact(Yc1 hv (Znt bx hw bw db)).to
   have bz:=Z4n F m gs bw X2 L2 bx (by omega) (fun r sm=>(Whl m X2 L2→r=.tuple [.agg [.int .i64 F,.sl 4 0 (m+2*X2.length)],.bool true]∧sm=⟨[(4,.cells 6 ((X8 (Y0 m (plE 0 gs) X2 L2)).map rowL))],5⟩) ∧
    (¬Whl m X2 L2→r=.tuple [.agg [.int .i64 0,.nilSl],.bool false]∧sm=⟨[],4⟩)) ds (fun hw=>⟨fun _=>⟨rfl,rfl⟩,fun h=>absurd hw h⟩) (fun hw=>⟨fun h=>absurd h hw,fun _=>⟨rfl,rfl⟩⟩)
   have cx:¬C=[]:=fun e=>by rw[e]at b5; simp at b5; omega
   have cu:IP=.imm C:=by rw[← ct]; unfold imV; rw[if_neg cx]
   unfold knB at bz;rw[← bc,← cu,← bl,← ba]at bz;simp[Y,b1,b3,mn1,mn2];by_cases hW:Whl m X2 L2
   ·have o:=hk F _ 0 (I _ (by rw[if_pos hW]))
    refine Q1 bz [(1,10),(2,48),(3,49)] (by simp) (by simp +contextual [Y,b1,b3]) (by simp) ?_
    rintro r sm ⟨h1,_⟩;obtain⟨rfl,rfl⟩:=h1 hW;have v:=fun q=>X6 q _ (U6 (X8 (Y0 m (plE 0 gs) X2 L2)))
    have Q:((X8 (Y0 m (plE 0 gs) X2 L2)).map rowL).length=m+2*X2.length:=by rw[List.length_map,Zfc,Zai bx hW bw]
    have cd:¬(X8 (Y0 m (plE 0 gs) X2 L2)).map rowL=[]:=fun e=>by rw[e]at Q; simp at Q; omega
    generalize (X8 (Y0 m (plE 0 gs) X2 L2)).map rowL=GL at *;simp[v,mn1,mn2];exact Z9 o [(1,60)] (by simp[W4 cd,Y7 cd,Q,v,cd])
   ·have o:=hk 0 [] 3 (I _ (by rw[if_neg hW]))
    refine Q1 bz [(1,10),(2,48),(3,49)] (by simp) (by simp +contextual [Y,b1,b3]) (by simp) ?_
    rintro r sm ⟨_,h1⟩;obtain⟨rfl,rfl⟩:=h1 hW;simp[mn1,mn2];exact Z9 o [] (by simp)
def rdV(F:Int)(G:List Int)(A B:List Ro):AVal:=.tuple [.agg [.int .i64 (rdN F G A B).1,imV ((rdN F G A B).2.1.map rowL)],.int .i64 (rdN F G A B).2.2]
theorem Zwh(F:Int)(G:List Int)(A B:List Ro):(rdV F G A B).closed=true:=by
 unfold rdV;simp[AVal.closed,X4,Zaq,U6]
theorem Z5n(F:Int)(G:List Int)(A B:List Ro)(d e:AVal)(j:RowsV d A)(l:RowsV e B)(s:G.length≤1000)(g:A.length≤1000)(i:B.length≤1000) :
 PCall Tryz.prog 9 [.agg [.int .i64 F,.imm (Z2 G),d,e]] (rdV F G A B):=by
 obtain⟨m,o,a⟩:=j.cells;obtain⟨p,q,c⟩:=l.cells;refine Zmt (k:=6) (by simp[X4,AVal.closed,L5,a,c]) (Zwh F G A B) ((Z14 F G A B d e j l s g i).mono fun r u h=>?_)
 obtain⟨rows,rfl,rfl,rfl⟩:=h;have t:X3 (SMem.get ⟨blV 1 6 ((rdN F G A B).2.1.map rowL) [],2⟩) 4 (slV 1 ((rdN F G A B).2.1.map rowL))=some (imV ((rdN F G A B).2.1.map rowL)):=Ydb (n:=2) (b:=1) (k:=6) (by simp) (Zjl _)
 unfold rdV;rw[X3];simp only[V4];rw[X3];simp only[V4,t];rfl
end Go.Known
