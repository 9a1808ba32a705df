/- Part 51 of the proof: Yn, Yp, Ys. -/
import Derived.Test.YtipeejpafgnjdaaGreatDoorH49
import Derived.Test.YtipeejpafgnjdaaGreatDoorH50
set_option linter.all false
section
namespace Go.Known
open Go Go.AE Go.Proofs
open Go.Plain
attribute [local simp] Zop Zod Zor Zoi Zrv Zqt preN preC Zn5 Zok
theorem Yea{P:Program}{y:Yd}{f:FuncId}{args:List AVal}{m:SMem}{K K':AVal→SMem→Prop}(h:CtrY P y f args m K)(hk:∀ r sm,K r sm→K' r sm):CtrY P y f args m K':=fun l r a b c d e=>
 (h l r a b c d e).mono fun v m'' hh=>by obtain⟨m',e,h1⟩:=hh; exact⟨m',e,hk v m' h1⟩
theorem Z3l(f:Int)(ls:List Lt)(hv:ValR f ls)(h0:ls≠[]) :
 Ctr Tryz.prog 51 [cV f ls] ⟨[],1⟩ fun r m=>r=slV 1 ((X1 4 ls).map rwR)∧m=⟨blV 1 4 ((X1 4 ls).map rwR) [],2⟩:=by
 refine Zsu hm Tryz.func51 cr28 rfl rfl fun K hK=>?_
 have hwv:=Z9e f ls hv h0;have hll:(ls.map rowL).length=ls.length:=List.length_map ..;have hrr:∀ q,Z3 q (ls.map rowL)=ls.map rowL:=fun q=>Y6 q _ (Z9 ls)
 have hren:=Z5;unfold wvB cV at *;have hrws:=fun e he=>Z6t e he f ls hv h0
 unfold wvB at hrws;generalize ls.map rowL=rows at *;have hrW:∀ q,Z3 q ((X1 4 ls).map rwR)=(X1 4 ls).map rwR:=fun q=>Y6 q _ (B3 _)
 simp[hll,h0];refine U6 hwv [] (by simp[hrr]) (by simp) (by simp) ?_
 rintro _ _ ⟨rfl,rfl⟩;simp[hrr,hren];refine U6 (Z90 1 rfl) [(1,11)] (by simp) (by simp) (by simp) ?_
 rintro _ _ ⟨rfl,rfl⟩;simp;refine⟨_,_,rfl,Yea (hrws _ rfl) fun r sm h=>?_⟩
 subst h;generalize (X1 4 ls).map rwR=RR at *;simp;exact Y1 (hK _ _ ⟨rfl,rfl⟩) [(1,19)] (by simp +contextual [hrW])
end Go.Known
end
section
namespace Go.Known
open Go Go.AE Go.Proofs
open Go.Plain
attribute [local simp] Zop Zod Zor Zoi Zrv Zqt preN preC Zn5 Zok
theorem Zls{get:Nat→Option ABlk}{n:Nat}(l:List Rw):∀ row,row∈l.map rwR → ∀ x,x∈row→X0 get (n+1) x=some x:=by
 intro row hr x hx;obtain⟨i,_,rfl⟩:=List.mem_map.1 hr;simp only[rwR,List.mem_cons,List.not_mem_nil,or_false]at hx;rcases hx with rfl|rfl|rfl|rfl<;>rfl
theorem Ydb(f:Int):PCall Tryz.prog 51 [cV f []] .nilSl:=by
 refine Zk1 (k:=4) (by simp[Y0,AVal.closed,X8]) rfl (Ctr.mono (K:=fun r m=>r=.nilSl∧m=⟨[],1⟩) ?_ fun r m' h=>by
  obtain⟨rfl,rfl⟩:=h;rfl)
 refine Zsu hm Tryz.func51 cr28 rfl rfl fun K hK=>?_
 simp;exact Y1 (hK _ _ ⟨rfl,rfl⟩) [] (by simp)
theorem Zs9(f:Int)(ls:List Lt)(he:W4 f ls=0):PCall Tryz.prog 51 [cV f ls] (imV ((X1 4 ls).map rwR)):=by
 by_cases h0:ls=[]
 ·subst h0;exact Ydb f
 ·have hv:=Zaz he h0;refine Zk1 (k:=4) (by simp[Y0,AVal.closed,Z9]) (G6 (B3 _)) (Ctr.mono (Z3l f ls hv h0) fun r m' h=>?_)
  obtain⟨rfl,rfl⟩:=h;exact Zoe (n:=2) (b:=1) (k:=4) (by simp) (Zls _)
def gtN(F:Nat)(ls:List Lt)(i:Nat):List Nat:=(List.range (F+1)).map fun g:Nat=>inG g (ls.take i)
theorem Zem(F:Nat)(ls:List Lt)(i:Nat):(gtN F ls i).length=F+1:=by simp[gtN]
theorem Zmg{F g:Nat}(ls:List Lt)(i:Nat)(h:g≤F):(gtN F ls i)[g]? = some (inG g (ls.take i)):=by
 unfold gtN;rw[List.getElem?_map,List.getElem?_range (by omega)]
 rfl
theorem Z9j{F:Nat}{ls:List Lt}{i:Nat}(h:i<ls.length){g:Nat}(hg:(at' ls i).g=g)(hgF:g≤F)(hp:isP (at' ls i)=true):gtN F ls (i+1)=(gtN F ls i).set g (inG g (ls.take i)+1):=by
 apply List.ext_getElem?;intro j;by_cases hj:j≤F
 ·rw[Zmg _ _ hj,List.getElem?_set];have hst:inG j (ls.take (i+1))=inG j (ls.take i)+if (isP (at' ls i)&&(at' ls i).g == (j:Int))=true then 1 else 0:=Zag h
  rw[hst,hp,hg];by_cases e:g=j
  ·subst e;simp only[Bool.true_and,beq_self_eq_true,if_true];rw[if_pos (by rw[Zem]; omega)]
  ·rw[if_neg e,Zmg _ _ hj];have:¬((g:Int)=(j:Int)):=by omega
   simp[this]
 ·rw[List.getElem?_eq_none (by rw[Zem]; omega),List.getElem?_eq_none (by rw[List.length_set,Zem]; omega)]
theorem Ycn{F:Nat}{ls:List Lt}{i:Nat}(h:i<ls.length)(hp:isP (at' ls i)=false):gtN F ls (i+1)=gtN F ls i:=by
 unfold gtN inG;apply List.map_congr_left;intro g _;rw[Zag h,hp];simp
abbrev pcV(F:Nat)(G:List Nat)(A B:List (List AVal)):AVal:=.agg [.int .i64 (F:Int),.imm (Z0 G),imV A,imV B]
def L7(F:Nat)(ls:List Lt):AVal:=pcV F (gtN F ls ls.length) ((X1 4 ls).map rwR) ((X1 4 (tuN ls)).map rwR)
theorem Zw3(F:Nat)(ls:List Lt):(L7 F ls).closed=true:=by simp[L7,pcV,AVal.closed,Y0,G0,G6,B3]
theorem Yey{get:Nat→Option ABlk}{b:Nat}(F:Nat)(G:List Nat)(A B:List Rw)(hG:G≠[])(hb:get b=some (.cells 1 (Z0 G)))(e:Int) :
 X0 get 6 (.tuple [.agg [.int .i64 (F:Int),.sl b 0 G.length,imV (A.map rwR),imV (B.map rwR)],.int .i64 e])=some (.tuple [pcV F G (A.map rwR) (B.map rwR),.int .i64 e]):=by
 have h1:X0 get 4 (.sl b 0 G.length)=some (.imm (Z0 G)):=by
  have:=Zhp (n:=3) hb (Zlr (get:=get) (n:=2) G);rwa[M0]at this
 have h2:=Zxs (get:=get) (n:=2) (Zls (get:=get) (n:=2) A);have h3:=Zxs (get:=get) (n:=2) (Zls (get:=get) (n:=2) B);rw[X0];simp only[W6];rw[X0];simp only[W6];rw[h1,h2,h3];rfl
theorem Zin:tuN []=[]:=rfl
set_option maxRecDepth 100000 in
set_option maxHeartbeats 4000000 in
theorem Zh5(F:Nat)(ls:List Lt)(he:W4 F ls=0):PCall Tryz.prog 14 [cV F ls] (.tuple [L7 F ls,.int .i64 0]):=by
 have hT:PCall Tryz.prog 28 [cV F ls] (.tuple [cV F (tuN ls),.int .i64 0]):=by
  by_cases h0:ls=[]
  ·subst h0;exact c27e F he
  ·exact c27v F ls (Zaz he h0) h0
 have heT:W4 F (tuN ls)=0:=by
  by_cases h0:ls=[]
  ·subst h0; exact he
  ·exact((Zaz he h0).turn h0).1.to
 have hA:=Zs9 F ls he;have hB:=Zs9 F (tuN ls) heT;have hF40:(F:Int)≤40:=(Zv5 he).2;have hl:ls.length≤400:=by
  by_cases h0:ls=[]
  ·subst h0; simp
  ·exact(Zaz he h0).len
 have hpass:∀ i,i<ls.length→(at' ls i).k=1→0≤(at' ls i).g∧(at' ls i).g≤F:=fun i hi hk=>by
  have h0:ls≠[]:=fun e=>by subst e; simp at hi
  have hv:=Zaz he h0;obtain⟨_,_,_,c,d,_⟩:=(Zec hk).1 (hv.okr _ (R9 hi));exact⟨c,d⟩
 refine J9 hm 6 Tryz.func14 cf6 rfl rfl (by simp[Y0,AVal.closed,Z9]) (by simp[AVal.closed,Y0,Zw3]) fun K hK=>?_
 have hgne:gtN F ls ls.length≠[]:=fun e=>by have:=Zem F ls ls.length; rw[e]at this; simp at this
 have hKv:=hK (.tuple [.agg [.int .i64 (F:Int),.sl 1 0 (gtN F ls ls.length).length,imV ((X1 4 ls).map rwR),imV ((X1 4 (tuN ls)).map rwR)],.int .i64 0]) ⟨[(1,.cells 1 (Z0 (gtN F ls ls.length)))],2⟩ (Yey (b:=1) F _ _ _ hgne rfl 0);clear hK;have hll:(ls.map rowL).length=ls.length:=List.length_map ..;have hrr:∀ q,Z3 q (ls.map rowL)=ls.map rowL:=fun q=>Y6 q _ (Z9 ls)
 have hrow:=fun i hi=>C6 ls (i:=i) hi
 have hcI:=Ze6 ((X1 4 ls).map rwR);have hoI:=Zfe ((X1 4 ls).map rwR);have hcJ:=Ze6 ((X1 4 (tuN ls)).map rwR);have hoJ:=Zfe ((X1 4 (tuN ls)).map rwR);have hrI:∀ q,(imV ((X1 4 ls).map rwR)).ren q=imV ((X1 4 ls).map rwR):=fun q=>AVal.ren_closed q _ (G6 (B3 _))
 have hrJ:∀ q,(imV ((X1 4 (tuN ls)).map rwR)).ren q=imV ((X1 4 (tuN ls)).map rwR):=fun q=>AVal.ren_closed q _ (G6 (B3 _))
 have hw1:IntKind.i64.wrap ((F:Int)+1)=((F+1:Nat):Int):=by rw[Z6 (by omega) (by omega)]; omega
 unfold cV at *;generalize ls.map rowL=rows at *;generalize (tuN ls).map rowL=rowsT at *;generalize imV ((X1 4 ls).map rwR)=IA at *;generalize imV ((X1 4 (tuN ls)).map rwR)=IB at *;unfold rowL at hrow;have hb:F+1≤1048576:=by omega
 simp;refine W3 hT ?_;simp[hw1,hb,-Int.natCast_add];refine B8 hA ?_;simp;refine B8 hB ?_;simp[hcI,hoI,hcJ,hoJ];have hren:=Z5;have hg0:Z0 (gtN F ls 0)=List.replicate (F+1) [.int .i64 0]:=by
  apply List.ext_getElem?;intro j;by_cases hj:j≤F
  ·rw[D6 (Zmg ls 0 hj),List.getElem?_replicate,if_pos (by omega)]
   rfl
  ·rw[List.getElem?_eq_none (by rw[M0,Zem]; omega),List.getElem?_eq_none (by rw[List.length_replicate]; omega)]
 have hrep:∀ q,Z3 q (List.replicate (F+1) [AVal.int .i64 0])=List.replicate (F+1) [AVal.int .i64 0]:=fun q=>by rw[← hg0,hren]
 rw[hll];refine T1 (α:=Nat) (fun i=>[(32,.int .i64 i),(31,.int .i64 ls.length),(30,.imm rows),(6,.ptr 3 0 0),(2,.ptr 2 0 0)])
  (fun i=>⟨[(2,.cells 4 [[.int .i64 0,.nilSl,.nilSl,.nilSl]]),(3,.cells 4 [[.int .i64 (F:Int),.sl 4 0 (F+1),IA,IB]]),(4,.cells 1 (Z0 (gtN F ls i)))],5⟩)
  (fun i=>ls.length - i) (fun i=>i≤ls.length) 0 [(2,2),(3,25),(4,19)] (by simp[hrr,hrI,hrJ,hg0,hrep]) (by simp) ?_
 intro i hi N hN
 try simp only at hi hN ⊢
 have hw2:IntKind.i64.wrap ((i:Int)+1)=(i:Int)+1:=Z6 (by omega) (by omega)
 have hnl:(Z0 (gtN F ls i)).length=F+1:=by rw[M0,Zem]
 by_cases hlt:i<ls.length
 ·have hr:=hrow i hlt;obtain⟨_,hr2⟩:=Y9 hr;have hN':=hN (i+1);rw[Int.natCast_add,Int.natCast_one]at hN';by_cases hk:(at' ls i).k=1
  ·have hp:isP (at' ls i)=true:=by simp[isP,hk]
   obtain⟨c,d⟩:=hpass i hlt hk;obtain⟨g,hg⟩:∃ g:Nat,(at' ls i).g=g:=⟨(at' ls i).g.toNat,by omega⟩
   have hst:=Z9j (F:=F) hlt hg (by omega) hp
   have hgg:=D6 (Zmg (F:=F) (g:=g) ls i (by omega))
   obtain⟨hgl,hgg2⟩:=Y9 hgg;have hcb:inG g (ls.take i)≤400:=Nat.le_trans E5 (by rw[List.length_take]; omega)
   have hset:=Zfb (gtN F ls i) g (inG g (ls.take i)+1);rw[hst]at hN';have hrU:=fun q=>hren q (gtN F ls i)
   have hrU2:=fun q=>hren q ((gtN F ls i).set g (inG g (ls.take i)+1))
   have hgF:g<F+1:=by omega
   rw[hg]at hr hr2;generalize (gtN F ls i).set g (inG g (ls.take i)+1)=G2 at *;generalize inG g (ls.take i)=c1 at *;generalize gtN F ls i=G1 at *;generalize at' ls i=l at *;have hw3:IntKind.i64.wrap ((c1:Int)+1)=((c1+1:Nat):Int):=by rw[Z6 (by omega) (by omega)]; omega
   generalize c1+1=c2 at *;simp[hlt,hr,hr2,hk,hgg,hgg2,hnl,hgF,hw2,hw3,hset];refine hN' [(2,2),(3,3),(4,4)] _ _ (by omega) (by omega) ?_
   simp +contextual [hrr,hrI,hrJ,hrU2]
  ·have hp:isP (at' ls i)=false:=by simp[isP,hk]
   rw[Ycn hlt hp]at hN';have hrU:=fun q=>hren q (gtN F ls i)
   generalize at' ls i=l at *;simp[hlt,hr,hr2,hk,hw2];refine hN' [(2,2),(3,3),(4,4)] _ _ (by omega) (by omega) ?_
   simp +contextual [hrr,hrI,hrJ,hrU]
 ·have hie:i=ls.length:=by omega
  subst hie;have hrU:=fun q=>hren q (gtN F ls ls.length)
  rw[Zem]at hKv;simp[hcI,hoI,hcJ,hoJ];exact Y1 hKv [(1,4)] (by simp[hrI,hrJ,hrU])
end Go.Known
end
section
namespace Go.Known
open Go Go.AE Go.Proofs
open Go.Plain
theorem Zy2:PCall Tryz.prog 13 [] (.bool true):=mo33
theorem Ydj(a b c:Nat)(o:Bool):X6 .neq (.flat [.int,.int,.int,.bool]) (.agg [.int .i64 a,.int .i64 b,.int .i64 c,.bool o]) (.agg [.int .i64 a,.int .i64 b,.int .i64 c,.bool o])=some (.bool false):=by
 simp[X6,eqA,Zca,C3]
theorem Zxq(l:List Rw)(hl:l.length≤10000):PCall Tryz.prog 52 [imV (l.map rwR),imV (l.map rwR)] (.bool true):=by
 refine Zbb hm Tryz.func52 Yej rfl rfl (by simp[Y0,G6,B3]) trivial fun K hK=>?_
 have hrI:∀ q,(imV (l.map rwR)).ren q=imV (l.map rwR):=fun q=>AVal.ren_closed q _ (G6 (B3 _))
 have hll:(l.map rwR).length=l.length:=List.length_map ..;simp;refine T1 (α:=Nat) (fun i=>[(5,.int .i64 i),(0,imV (l.map rwR)),(1,imV (l.map rwR))]) (fun _=>⟨[],1⟩) (fun i=>l.length - i) (fun i=>i≤l.length) 0 [] (by simp[hrI]) (by simp) ?_
 intro i hi N hN
 try simp only at hi hN ⊢
 have hw:IntKind.i64.wrap ((i:Int)+1)=(i:Int)+1:=Z6 (by omega) (by omega)
 by_cases hlt:i<l.length
 ·have hg:(l.map rwR)[i]? = some [.int .i64 (l[i].1:Nat),.int .i64 (l[i].2.1:Nat),.int .i64 (l[i].2.2.1:Nat),.bool l[i].2.2.2]:=by
   rw[List.getElem?_map,gE hlt]; rfl
  obtain⟨_,hg2⟩:=Y9 hg;have hb:=Ydj l[i].1 l[i].2.1 l[i].2.2.1 l[i].2.2.2;have hne:¬l.map rwR=[]:=fun e=>by have:=congrArg List.length e; simp at this; subst this; simp at hlt
  have hN':=hN (i+1) [];rw[Int.natCast_add,Int.natCast_one]at hN';generalize l[i]=r at *;have hrR0:∀ q,Z3 q (l.map rwR)=l.map rwR:=fun q=>Y6 q _ (B3 _)
  rw[Zex hne]at hN' ⊢;generalize l.map rwR=R at *;simp[hlt,hll,hg,hg2,hb,hw];exact hN' _ _ (by omega) (by omega) (by simp[hrR0])
 ·simp[hlt,hll];exact Y1 hK [] (by simp)
theorem Zur(ls:List Lt):∀ k front done,(drF 4 ls k front done).length≤k
 | 0,_,_=>by simp[drF]
 | k+1,front,done=>by
  rw[drF];split
  ·simp
  ·split
   ·simp
   ·simp only[List.length_cons];have:=Zur ls k (by assumption) (by assumption)
    omega
theorem Zlu(ls:List Lt):(X1 4 ls).length≤4*ls.length+1:=by
 have h1:=Zur ls (muN ls (T2 ls) []+1) (T2 ls) [];have h2:Z4 (fun l=>isX l && !([]:List Int).contains l.i) ls≤ls.length:=E5
 have h3:Z1 ls≤ls.length:=E5;unfold X1;unfold muN T2 at *;rw[List.length_map,O6]at *;omega
set_option maxHeartbeats 4000000 in
theorem Zqo(F:Nat)(ls:List Lt)(hF:F≤40)(h:ls.length≤400)(h2:(tuN ls).length≤400):PCall Tryz.prog 15 [L7 F ls,L7 F ls] (.bool true):=by
 refine Zbb hm Tryz.func15 cf11 rfl rfl (by simp[Y0,Zw3]) trivial fun K hK=>?_
 have hG:gtN F ls ls.length≠[]:=fun e=>by have:=Zem F ls ls.length; rw[e]at this; simp at this
 have hEq:=c35w (gtN F ls ls.length) (by rw[Zem]; omega)
 rw[Zex (Znw hG)]at hEq;have hA:=Zxq (X1 4 ls) (by have:=Zlu ls; omega)
 have hB:=Zxq (X1 4 (tuN ls)) (by have:=Zlu (tuN ls); omega)
 have hcI:=Ze6 ((X1 4 ls).map rwR);have hoI:=Zfe ((X1 4 ls).map rwR);have hcJ:=Ze6 ((X1 4 (tuN ls)).map rwR);have hoJ:=Zfe ((X1 4 (tuN ls)).map rwR);unfold L7 pcV;generalize imV ((X1 4 ls).map rwR)=IA at *;generalize imV ((X1 4 (tuN ls)).map rwR)=IB at *;generalize Z0 (gtN F ls ls.length)=G at *;simp[hcI,hoI,hcJ,hoJ];refine W3 hEq ?_;simp;refine W3 hA ?_;simp;refine W3 hB ?_;simp;exact Y1 hK [] (by simp)
end Go.Known
end
