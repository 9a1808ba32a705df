/- Part 49 of the proof: Yn, Yp, Ys. -/
import Derived.Test.YtilmpmlkndfbjaaGreatDoorI23
import Derived.Test.YtilmpmlkndfbjaaGreatDoorI31
import Derived.Test.YtilmpmlkndfbjaaGreatDoorI36
import Derived.Test.YtilmpmlkndfbjaaGreatDoorI38
import Derived.Test.YtilmpmlkndfbjaaGreatDoorI39
import Derived.Test.YtilmpmlkndfbjaaGreatDoorI48
set_option linter.all false
section
namespace Go.Known
open Go Go.AE Go.Proofs
open Go.Plain
attribute [local simp] Zrn Zst Zqn Zsg Zsf Zpv preN preC Zp7 Zph
theorem Ye0{P:Program}{y:Yd}{f:FuncId}{args:List AVal}{m:SMem}{K K':AVal→SMem→Prop}(h:CtrY P y f args m K)(n:∀ r i,K r i→K' r i):CtrY P y f args m K':=fun l r a b c d e=>
 (h l r a b c d e).mono fun v o k=>by obtain⟨g,e,j⟩:=k; exact⟨g,e,n v g j⟩
theorem Ygl(f:Int)(ls:List Lt)(k:ValR f ls)(d:ls≠[]) :
 Ctr Tryz.prog 35 [cV f ls] ⟨[],1⟩ fun r m=>r=slV 1 ((X2 4 ls).map rwR)∧m=⟨blV 1 4 ((X2 4 ls).map rwR) [],2⟩:=by
 refine Z0b hm Tryz.func35 cr28 rfl rfl fun K l=>?_
 have j:=Z7t f ls k d;have g:(ls.map rowL).length=ls.length:=List.length_map ..;have c:∀ q,Z4 q (ls.map rowL)=ls.map rowL:=fun q=>X1 q _ (Y5 ls)
 have b:=Z6;unfold wvB cV at *;have a:=fun e n=>Ydp e n f ls k d
 unfold wvB at a;generalize ls.map rowL=rows at *;have i:∀ q,Z4 q ((X2 4 ls).map rwR)=(X2 4 ls).map rwR:=fun q=>X1 q _ (Za2 _)
 simp[g,d];refine U9 j [] (by simp[c]) (by simp) (by simp) ?_
 rintro _ _ ⟨rfl,rfl⟩;simp[c,b];refine U9 (Z8t 1 rfl) [(1,11)] (by simp) (by simp) (by simp) ?_
 rintro _ _ ⟨rfl,rfl⟩;simp;refine⟨_,_,rfl,Ye0 (a _ rfl) fun r p h=>?_⟩
 subst h;generalize (X2 4 ls).map rwR=o at *;simp;exact Y1 (l _ _ ⟨rfl,rfl⟩) [(1,19)] (by simp +contextual [i])
end Go.Known
end
section
namespace Go.Known
open Go Go.AE Go.Proofs
open Go.Plain
attribute [local simp] Zrn Zst Zqn Zsg Zsf Zpv preN preC Zp7 Zph
theorem Zpy{get:Nat→Option ABlk}{n:Nat}(l:List Rw):∀ row,row∈l.map rwR → ∀ x,x∈row→X4 get (n+1) x=some x:=by
 intro row b x a;obtain⟨i,_,rfl⟩:=List.mem_map.1 b;simp only[rwR,List.mem_cons,List.not_mem_nil,or_false]at a;rcases a with rfl|rfl|rfl|rfl<;>rfl
theorem Z34(f:Int):PCall Tryz.prog 35 [cV f []] .nilSl:=by
 refine Zno (k:=4) (by simp[Y7,AVal.closed,V3]) rfl (Ctr.mono (K:=fun r m=>r=.nilSl∧m=⟨[],1⟩) ?_ fun r b h=>by
  obtain⟨rfl,rfl⟩:=h;rfl)
 refine Z0b hm Tryz.func35 cr28 rfl rfl fun K a=>?_
 simp;exact Y1 (a _ _ ⟨rfl,rfl⟩) [] (by simp)
theorem Zuq(f:Int)(ls:List Lt)(c:W7 f ls=0):PCall Tryz.prog 35 [cV f ls] (imV ((X2 4 ls).map rwR)):=by
 by_cases a:ls=[]
 ·subst a;exact Z34 f
 ·have d:=Zdr c a;refine Zno (k:=4) (by simp[Y7,AVal.closed,Y5]) (Zaj (Za2 _)) (Ctr.mono (Ygl f ls d a) fun r e h=>?_)
  obtain⟨rfl,rfl⟩:=h;exact Yde (n:=2) (b:=1) (k:=4) (by simp) (Zpy _)
def gtN(F:Nat)(ls:List Lt)(i:Nat):List Nat:=(List.range (F+1)).map fun g:Nat=>inG g (ls.take i)
theorem Zdb(F:Nat)(ls:List Lt)(i:Nat):(gtN F ls i).length=F+1:=by simp[gtN]
theorem Zf6{F g:Nat}(ls:List Lt)(i:Nat)(h:g≤F):(gtN F ls i)[g]? = some (inG g (ls.take i)):=by
 unfold gtN;rw[List.getElem?_map,List.getElem?_range (by omega)]
 rfl
theorem Z7u{F:Nat}{ls:List Lt}{i:Nat}(h:i<ls.length){g:Nat}(c:(at' ls i).g=g)(d:g≤F)(f:isP (at' ls i)=true):gtN F ls (i+1)=(gtN F ls i).set g (inG g (ls.take i)+1):=by
 apply List.ext_getElem?;intro j;by_cases b:j≤F
 ·rw[Zf6 _ _ b,List.getElem?_set];have a:inG j (ls.take (i+1))=inG j (ls.take i)+if (isP (at' ls i)&&(at' ls i).g == (j:Int))=true then 1 else 0:=Zai h
  rw[a,f,c];by_cases e:g=j
  ·subst e;simp only[Bool.true_and,beq_self_eq_true,if_true];rw[if_pos (by rw[Zdb]; omega)]
  ·rw[if_neg e,Zf6 _ _ b];have:¬((g:Int)=(j:Int)):=by omega
   simp[this]
 ·rw[List.getElem?_eq_none (by rw[Zdb]; omega),List.getElem?_eq_none (by rw[List.length_set,Zdb]; omega)]
theorem Ye4{F:Nat}{ls:List Lt}{i:Nat}(h:i<ls.length)(a:isP (at' ls i)=false):gtN F ls (i+1)=gtN F ls i:=by
 unfold gtN inG;apply List.map_congr_left;intro g _;rw[Zai h,a];simp
abbrev pcV(F:Nat)(G:List Nat)(A B:List (List AVal)):AVal:=.agg [.int .i64 (F:Int),.imm (Z2 G),imV A,imV B]
def picV(F:Nat)(ls:List Lt):AVal:=pcV F (gtN F ls ls.length) ((X2 4 ls).map rwR) ((X2 4 (tuN ls)).map rwR)
theorem Zvh(F:Nat)(ls:List Lt):(picV F ls).closed=true:=by simp[picV,pcV,AVal.closed,Y7,D5,Zaj,Za2]
theorem Z6r{get:Nat→Option ABlk}{b:Nat}(F:Nat)(G:List Nat)(A B:List Rw)(g:G≠[])(f:get b=some (.cells 1 (Z2 G)))(e:Int) :
 X4 get 6 (.tuple [.agg [.int .i64 (F:Int),.sl b 0 G.length,imV (A.map rwR),imV (B.map rwR)],.int .i64 e])=some (.tuple [pcV F G (A.map rwR) (B.map rwR),.int .i64 e]):=by
 have a:X4 get 4 (.sl b 0 G.length)=some (.imm (Z2 G)):=by
  have:=Zjs (n:=3) f (Zrm (get:=get) (n:=2) G);rwa[L6]at this
 have c:=Zwi (get:=get) (n:=2) (Zpy (get:=get) (n:=2) A);have d:=Zwi (get:=get) (n:=2) (Zpy (get:=get) (n:=2) B);rw[X4];simp only[V0];rw[X4];simp only[V0];rw[a,c,d];rfl
theorem Z4h:tuN []=[]:=rfl
set_option maxRecDepth 100000 in
set_option maxHeartbeats 4000000 in
theorem Ztg(F:Nat)(ls:List Lt)(s:W7 F ls=0):PCall Tryz.prog 13 [cV F ls] (.tuple [picV F ls,.int .i64 0]):=by
 have hT:PCall Tryz.prog 34 [cV F ls] (.tuple [cV F (tuN ls),.int .i64 0]):=by
  by_cases m:ls=[]
  ·subst m;exact c27e F s
  ·exact c27v F ls (Zdr s m) m
 have S:W7 F (tuN ls)=0:=by
  by_cases m:ls=[]
  ·subst m; exact s
  ·exact((Zdr s m).turn m).1.to
 have hA:=Zuq F ls s;have hB:=Zuq F (tuN ls) S;have ae:(F:Int)≤40:=(Zsk s).2;have hl:ls.length≤400:=by
  by_cases m:ls=[]
  ·subst m; simp
  ·exact(Zdr s m).len
 have v:∀ i,i<ls.length→(at' ls i).k=1→0≤(at' ls i).g∧(at' ls i).g≤F:=fun i hi u=>by
  have m:ls≠[]:=fun e=>by subst e; simp at hi
  have hv:=Zdr s m;obtain⟨_,_,_,c,d,_⟩:=(A7 u).1 (hv.okr _ (S1 hi));exact⟨c,d⟩
 refine Zaa hm 6 Tryz.func13 cf6 rfl rfl (by simp[Y7,AVal.closed,Y5]) (by simp[AVal.closed,Y7,Zvh]) fun K hK=>?_
 have G:gtN F ls ls.length≠[]:=fun e=>by have:=Zdb F ls ls.length; rw[e]at this; simp at this
 have z:=hK (.tuple [.agg [.int .i64 (F:Int),.sl 1 0 (gtN F ls ls.length).length,imV ((X2 4 ls).map rwR),imV ((X2 4 (tuN ls)).map rwR)],.int .i64 0]) ⟨[(1,.cells 1 (Z2 (gtN F ls ls.length)))],2⟩ (Z6r (b:=1) F _ _ _ G rfl 0);clear hK;have X:(ls.map rowL).length=ls.length:=List.length_map ..;have y:∀ q,Z4 q (ls.map rowL)=ls.map rowL:=fun q=>X1 q _ (Y5 ls)
 have t:=fun i hi=>C0 ls (i:=i) hi
 have A:=Zcc ((X2 4 ls).map rwR);have H:=Zcm ((X2 4 ls).map rwR);have B:=Zcc ((X2 4 (tuN ls)).map rwR);have I:=Zcm ((X2 4 (tuN ls)).map rwR);have o:∀ q,(imV ((X2 4 ls).map rwR)).ren q=imV ((X2 4 ls).map rwR):=fun q=>AVal.ren_closed q _ (Zaj (Za2 _))
 have p:∀ q,(imV ((X2 4 (tuN ls)).map rwR)).ren q=imV ((X2 4 (tuN ls)).map rwR):=fun q=>AVal.ren_closed q _ (Zaj (Za2 _))
 have ab:IntKind.i64.wrap ((F:Int)+1)=((F+1:Nat):Int):=by rw[Z5 (by omega) (by omega)]; omega
 unfold cV at *;generalize ls.map rowL=rows at *;generalize (tuN ls).map rowL=ad at *;generalize imV ((X2 4 ls).map rwR)=IA at *;generalize imV ((X2 4 (tuN ls)).map rwR)=IB at *;unfold rowL at t;have hb:F+1≤1048576:=by omega
 simp;refine U1 hT ?_;simp[ab,hb,-Int.natCast_add];refine Zal hA ?_;simp;refine Zal hB ?_;simp[A,H,B,I];have a:=Z6;have C:Z2 (gtN F ls 0)=List.replicate (F+1) [.int .i64 0]:=by
  apply List.ext_getElem?;intro j;by_cases hj:j≤F
  ·rw[B4 (Zf6 ls 0 hj),List.getElem?_replicate,if_pos (by omega)]
   rfl
  ·rw[List.getElem?_eq_none (by rw[L6,Zdb]; omega),List.getElem?_eq_none (by rw[List.length_replicate]; omega)]
 have L:∀ q,Z4 q (List.replicate (F+1) [AVal.int .i64 0])=List.replicate (F+1) [AVal.int .i64 0]:=fun q=>by rw[← C,a]
 rw[X];refine Q7 (α:=Nat) (fun i=>[(32,.int .i64 i),(31,.int .i64 ls.length),(30,.imm rows),(6,.ptr 3 0 0),(2,.ptr 2 0 0)])
  (fun i=>⟨[(2,.cells 4 [[.int .i64 0,.nilSl,.nilSl,.nilSl]]),(3,.cells 4 [[.int .i64 (F:Int),.sl 4 0 (F+1),IA,IB]]),(4,.cells 1 (Z2 (gtN F ls i)))],5⟩)
  (fun i=>ls.length - i) (fun i=>i≤ls.length) 0 [(2,2),(3,25),(4,19)] (by simp[y,o,p,C,L]) (by simp) ?_
 intro i hi N hN
 try simp only at hi hN ⊢
 have O:IntKind.i64.wrap ((i:Int)+1)=(i:Int)+1:=Z5 (by omega) (by omega)
 have Y:(Z2 (gtN F ls i)).length=F+1:=by rw[L6,Zdb]
 by_cases h:i<ls.length
 ·have P:=t i h;obtain⟨_,w⟩:=X5 P;have n:=hN (i+1);rw[Int.natCast_add,Int.natCast_one]at n;by_cases u:(at' ls i).k=1
  ·have Z:isP (at' ls i)=true:=by simp[isP,u]
   obtain⟨c,d⟩:=v i h u;obtain⟨g,hg⟩:∃ g:Nat,(at' ls i).g=g:=⟨(at' ls i).g.toNat,by omega⟩
   have aa:=Z7u (F:=F) h hg (by omega) Z
   have D:=B4 (Zf6 (F:=F) (g:=g) ls i (by omega))
   obtain⟨ag,E⟩:=X5 D;have af:inG g (ls.take i)≤400:=Nat.le_trans D2 (by rw[List.length_take]; omega)
   have M:=Zg9 (gtN F ls i) g (inG g (ls.take i)+1);rw[aa]at n;have r:=fun q=>a q (gtN F ls i)
   have J:=fun q=>a q ((gtN F ls i).set g (inG g (ls.take i)+1))
   have U:g<F+1:=by omega
   rw[hg]at P w;generalize (gtN F ls i).set g (inG g (ls.take i)+1)=G2 at *;generalize inG g (ls.take i)=Q at *;generalize gtN F ls i=G1 at *;generalize at' ls i=l at *;have ac:IntKind.i64.wrap ((Q:Int)+1)=((Q+1:Nat):Int):=by rw[Z5 (by omega) (by omega)]; omega
   generalize Q+1=c2 at *;simp[h,P,w,u,D,E,Y,U,O,ac,M];refine n [(2,2),(3,3),(4,4)] _ _ (by omega) (by omega) ?_
   simp +contextual [y,o,p,J]
  ·have Z:isP (at' ls i)=false:=by simp[isP,u]
   rw[Ye4 h Z]at n;have r:=fun q=>a q (gtN F ls i)
   generalize at' ls i=l at *;simp[h,P,w,u,O];refine n [(2,2),(3,3),(4,4)] _ _ (by omega) (by omega) ?_
   simp +contextual [y,o,p,r]
 ·have V:i=ls.length:=by omega
  subst V;have r:=fun q=>a q (gtN F ls ls.length)
  rw[Zdb]at z;simp[A,H,B,I];exact Y1 z [(1,4)] (by simp[o,p,r])
end Go.Known
end
section
namespace Go.Known
open Go Go.AE Go.Proofs
open Go.Plain
theorem Zp9:PCall Tryz.prog 8 [] (.bool true):=mo33
theorem Zze(ls:List Lt):∀ k front done,(drF 4 ls k front done).length≤k
 | 0,_,_=>by simp[drF]
 | k+1,front,done=>by
  rw[drF];split
  ·simp
  ·split
   ·simp
   ·simp only[List.length_cons];have:=Zze ls k (by assumption) (by assumption)
    omega
theorem Z1s(ls:List Lt):(X2 4 ls).length≤4*ls.length+1:=by
 have a:=Zze ls (muN ls (Y2 ls) []+1) (Y2 ls) [];have b:Z3 (fun l=>isX l && !([]:List Int).contains l.i) ls≤ls.length:=D2
 have c:Z0 ls≤ls.length:=D2;unfold X2;unfold muN Y2 at *;rw[List.length_map,T4]at *;omega
end Go.Known
end
