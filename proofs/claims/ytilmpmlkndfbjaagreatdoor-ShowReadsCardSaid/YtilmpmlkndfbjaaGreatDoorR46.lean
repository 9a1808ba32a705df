/- Part 46 of the proof: Eo. -/
import Derived.Test.YtilmpmlkndfbjaaGreatDoorR45
set_option linter.all false
namespace Go.Known
open Go Go.AE Go.Proofs
open Go.Plain
attribute [local simp] Zd6 Ze1 Zeb Zee Zep Ze7 Zex Zen Zef Zd8 Ze4 isV isVo Zeo Zez Zeu Zd9
attribute [local simp] Zra Zqh
theorem D4{n c:Nat}(h:c<20):¬(c=20+n):=by omega
theorem Zvu:∀ (a b:List (List AVal)),W5 (a++b)=(W5 a&&W5 b)
 | [],_=>rfl
 | x :: r,b=>by
  show(X4 x&&W5 (r++b))=((X4 x&&W5 r)&&W5 b);rw[Zvu r b,Bool.and_assoc]
theorem fix6(b:List (List AVal))(A B C D G H:ABlk)(R:List (List AVal))(c:Nat)(y:ABlk)(d:Z7 ([(10,A),(11,B),(12,C),(13,D),(1,G),(2,H)]++blV 14 6 R (blV 3 6 b [])) c=some y):c<20:=by
 refine Zip (fun p a=>?_) d
 simp only[List.cons_append,List.nil_append,List.mem_cons]at a;rcases a with rfl|rfl|rfl|rfl|rfl|rfl|a
 any_goals (show _<_; omega)
 rcases Ziv a with e|a
 ·omega
 ·rcases Ziv a with e|a
  ·omega
  ·cases a
theorem fix5(b:List (List AVal))(A B C D G:ABlk)(c:Nat)(y:ABlk)(d:Z7 ([(10,A),(11,B),(12,C),(1,D),(14,G)]++blV 3 6 b []) c=some y):c<20:=by
 refine Zip (fun p a=>?_) d
 simp only[List.cons_append,List.nil_append,List.mem_cons]at a;rcases a with rfl|rfl|rfl|rfl|rfl|a
 any_goals (show _<_; omega)
 rcases Ziv a with e|a
 ·omega
 ·cases a
set_option maxRecDepth 100000 in
set_option maxHeartbeats 16000000 in
theorem Z4n(f:Int)(m:Nat)(gs:List Nat)(b1:(plE 0 gs).length=m)(X:List Nd)(L:List (Nat×Nat))(h:Rdg m X L)(hb:2*m+4*X.length≤1000)(a9:AVal→SMem→Prop)
 (hC:Whl m X L→P2 f (X8 (Y0 m (plE 0 gs) X L))=0)
 (cc:Whl m X L→a9 (.tuple [.agg [.int .i64 f,.sl 4 0 (m+2*X.length)],.bool true]) ⟨[(4,.cells 6 ((X8 (Y0 m (plE 0 gs) X L)).map rowL))],5⟩) (ba:¬Whl m X L→a9 (.tuple [.agg [.int .i64 0,.nilSl],.bool false]) ⟨[],4⟩) :
 Ctr Tryz.prog 28 [.ptr 1 0 0,.int .i64 f] ⟨(1,knB (.imm (((plE 0 gs).map passL).map rowL)) (.sl 2 0 (2*m+4*X.length)) (slV 3 ((xJ m X).map ndL))) :: (2,.cells 1 (Z2 (jnA (2*m+4*X.length) L))) :: blV 3 6 ((xJ m X).map ndL) [],4⟩ a9:=by
 refine Zg4 hm [] Tryz.func28 cf47 rfl rfl fun K hK=>?_
 have ar:(((plE 0 gs).map passL).map rowL).length=m:=by simp[b1]
 have cf:((xJ m X).map ndL).length=X.length:=by rw[List.length_map,Zmj]
 have cp:IntKind.i64.wrap (2*(X.length:Int))=2*X.length:=Z1 (by omega) (by omega)
 have cq:IntKind.i64.wrap ((m:Int)+2*X.length)=m+2*X.length:=Z1 (by omega) (by omega)
 have ce:X.length≤1048576:=by omega
 have b2:24*X.length≤1048576:=by omega
 have br:∀ q,Z6 q (((plE 0 gs).map passL).map rowL)=((plE 0 gs).map passL).map rowL:=fun q=>X6 q _ (U6 _)
 have ai:∀ q,Z6 q (Z2 (jnA (2*m+4*X.length) L))=Z2 (jnA (2*m+4*X.length) L):=fun q=>X6 q _ (L5 _)
 have al:∀ q,Z6 q ((xJ m X).map ndL)=(xJ m X).map ndL:=fun q=>X6 q _ (Zg3 _)
 have u:=fun hw e mm hW=>Yc3 f h hw b1 hb (((plE 0 gs).map passL).map rowL) br K (hC hw) (hK _ _ (cc hw)) e mm hW
 unfold knB;have cd:∀ i,i<m→(((plE 0 gs).map passL).map rowL)[i]? = some (rowL (passL ((plE 0 gs).getD i (0,0)))):=fun i hi=>by
  rw[List.getElem?_map,List.getElem?_map,gE (by omega),List.getD,gE (by omega)]
  rfl
 have bu:∀ e,e<2*m+4*X.length→(Z2 (jnA (2*m+4*X.length) L))[e]? = some [.int .i64 ((ptn L e:Nat):Int)]:=fun e he=>
  Z52 h.nd (fun p hp=>⟨(h.en _).2 (mem_flt.2 ⟨p,hp,.inl rfl⟩),(h.en _).2 (mem_flt.2 ⟨p,hp,.inr rfl⟩)⟩) ((h.en e).1 he)
 generalize ((plE 0 gs).map passL).map rowL=P at *;generalize Z2 (jnA (2*m+4*X.length) L)=J at *;generalize (xJ m X).map ndL=XX at *;simp[ar,cf,cp,cq,ce,b2];have aj:∀ q,Z6 q P=P:=br
 have b6:∀ x,(T1 m L 0 x).map visR=[]:=fun x=>rfl
 refine Zjy (α:=Nat) (fun t=>[(0,.ptr 1 0 0),(1,.int .i64 f),(4,.ptr 10 0 0),(5,.bool false),(6,.ptr 11 0 0),(7,.int .i64 m),(8,.sl 12 0 X.length),(9,.map 13),(10,.int .i64 ((m:Int)+2*X.length - t)),(11,.int .i64 (arE m L t))])
  (fun t=>⟨K6 2 20 (fun x=>(T1 m L t x).map visR) X.length ([(10,.cells 2 [[.int .i64 0,.nilSl]]),(11,.cells 2 [[.int .i64 f,slV 14 ((G6 m (plE 0 gs) L t).map rowL)]]),(12,.cells 1 (L7 20 X.length fun x=>(T1 m L t x).map visR)),
    (13,.map (mpE 0 (nmI m L t)) (nmI m L t).length),(1,.cells 3 [[.imm P,.sl 2 0 (2*m+4*X.length),slV 3 XX]]),(2,.cells 1 J)]++blV 14 6 ((G6 m (plE 0 gs) L t).map rowL) (blV 3 6 XX [])),20+X.length⟩)
  (fun t=>m+2*X.length+1 - t) (fun t=>t≤m+2*X.length ∧ ∀ s,0<s→s≤t→arE m L s≠0) 0 ?_ ⟨by omega,fun s h1 h2=>by omega⟩ ?_
 ·rw[Z4v _ fun x _=>b6 x,Ycg fun x _=>b6 x]
  refine SubR.wk (l:=[(10,4),(11,8),(12,21),(13,23)]) ?_;have w:(G6 m (plE 0 gs) L 0).map rowL=[]:=rfl;have cj:mpE 0 (nmI m L 0)=[]:=rfl;have cg:arE m L 0=0:=rfl;have ck:nmI m L 0=[]:=rfl;have co:∀ q,Z6 q (List.replicate X.length [AVal.nilSl])=List.replicate X.length [.nilSl]:=fun q=>by rw[Zah]; simp[U7,AVal.ren]
  rw[w,cj,ck,cg];have cs:10<20+X.length:=by omega
  have ct:11<20+X.length:=by omega
  have cu:12<20+X.length:=by omega
  have cv:13<20+X.length:=by omega
  have k4:4≤20+X.length:=by omega
  simp +contextual [co,aj,ai,al,renM,cs,ct,cu,cv,k4]
 ·rintro t ⟨ht,af⟩ N hN;have c3:=h.hm;have bw:∀ t y,W5 ((T1 m L t y).map visR)=true:=fun t y=>Zhf _
  have ao:∀ (c:Nat) (x:List AVal),slV c [x]=.sl c 0 1:=fun _ _=>rfl
  have an:∀ (c k:Nat) (x:List AVal) (r:List (Nat×ABlk)),blV c k [x] r=(c,.cells k [x]) :: r:=fun _ _ _ _=>rfl
  by_cases b3:t=m+2*X.length
  ·have az:¬Whl m X L:=fun hw=>af t (by omega) (Nat.le_refl _) (by rw[b3]; exact hw.back)
   have C:IntKind.i64.wrap ((m:Int)+2*X.length - t - 1) = -1:=by rw[Z1 (by omega) (by omega)]; omega
   simp[C];exact Z9 (hK _ _ (ba az)) [] (by simp)
  have c2:t<m+2*X.length:=by omega
  have C:IntKind.i64.wrap ((m:Int)+2*X.length - t - 1)=(m:Int)+2*X.length - (t+1:Nat):=by rw[Z1 (by omega) (by omega)]; omega
  have M:¬((m:Int)+2*X.length - (t+1:Nat)<0):=by omega
  have Q:IntKind.i64.wrap (2*(m:Int))=2*m:=Z1 (by omega) (by omega)
  have ch:=P9 h t;have cw:=P9 h (t+1);have cx:arE m L (t+1)=ptn L (wiE m (arE m L t)):=rfl;obtain⟨cr,_,_⟩:=F7 (m:=m) (X:=X) ch;have B:J[wiE m (arE m L t)]? = some [.int .i64 (arE m L (t+1):Nat)]:=bu _ cr;have A:(G6 m (plE 0 gs) L (t+1)).map rowL=(G6 m (plE 0 gs) L t).map rowL++[rowL (ltN m (plE 0 gs) L t)]:=by
   unfold G6;rw[List.range_succ,List.map_append,List.map_append];rfl
  obtain⟨left,bg⟩:∃ left:Int,left=(m:Int)+2*X.length - (t+1:Nat):=⟨_,rfl⟩
  rw[← bg]at C M;have S:=hN (t+1);rw[← bg]at S;have az:left≠0→arE m L (t+1)=0 → ¬Whl m X L:=fun hl G hw=>by
   rcases Nat.lt_or_ge (t+1) (m+2*X.length)with c|c
   ·exact hw.first (t+1) (by omega) c G
   ·omega
  have c0:=h.ev;have bb:left=0→arE m L (t+1)=0→m+2*X.length=t+1∧Whl m X L:=fun hl G=>by
   have e1:m+2*X.length=t+1:=by omega
   refine⟨e1,by rw[e1]; exact G,fun s h1 h2=>af s h1 (by omega)⟩
  by_cases hp:arE m L t<2*m
  ·have b7:∀ x,T1 m L (t+1) x=T1 m L t x:=fun x=>by
    show(if _ then _ else _)=_
    rw[if_neg (fun e=>e.1 hp)]
   have cl:nmI m L (t+1)=nmI m L t:=by
    unfold nmI;show List.map _ (if _ then _ else _)=_
    rw[if_pos (.inl hp)]
   simp only[b7,cl]at S;have D:((arE m L t:Nat):Int)<2*m:=by omega
   have E:((arE m L t:Nat):Int).tdiv 2=((arE m L t / 2:Nat):Int):=rfl;have am:arE m L t / 2<m:=by omega
   have a4:IntKind.i64.wrap ((arE m L t / 2:Nat):Int)=((arE m L t / 2:Nat):Int):=Z1 (by omega) (by omega)
   have ag:=cd _ am;have bh:ltN m (plE 0 gs) L t=passL ((plE 0 gs).getD (arE m L t / 2) (0,0)):=by unfold ltN; rw[if_pos hp]
   rw[bh]at A;have hx:=xorI (arE m L t) (by omega)
   rw[Zgj hp]at B;have j:((G6 m (plE 0 gs) L t).map rowL).length=t:=by unfold G6; simp
   generalize passL ((plE 0 gs).getD (arE m L t / 2) (0,0))=pl at *;have ak:∀ q,Z6 q ((G6 m (plE 0 gs) L t).map rowL)=(G6 m (plE 0 gs) L t).map rowL:=fun q=>X6 q _ (U6 _)
   generalize (G6 m (plE 0 gs) L t).map rowL=RL at *;obtain⟨d,hd⟩:∃ d,arE m L t / 2=d:=⟨_,rfl⟩
   rw[hd]at E am a4 ag;unfold rowL at ag;obtain⟨c1,ah⟩:=Y5 ag;obtain⟨b,bc⟩:∃ b,bkN (arE m L t)=b:=⟨_,rfl⟩
   rw[bc]at B hx;obtain⟨cb,v⟩:=Y5 B;have au:RL.length≤1048575:=by omega
   have Y:¬RL.length+1≤RL.length:=by omega
   have H:b<2*m+4*X.length:=by rw[← bc]; unfold bkN; split<;>omega
   by_cases G:arE m L (t+1)=0
   ·have b0:((arE m L (t+1):Nat):Int)=0:=by omega
    by_cases w:left=0
    ·obtain⟨bj,hw⟩:=bb w G;have g:RL≠[]:=fun e=>by rw[e]at j; simp at j; omega
     have u:=u hw;unfold eS mS at u;rw[bj]at u;simp only[b7]at u;rw[A]at u;simp[C,M,Q,D,E,a4,ag,ah,ar,am,hx,H,B,v,X5,Y,au,W4 g,Y7 g,g,b0,w,G];refine u _ _ (WkR.famG (x:=X.length) (N:=0) (l:=[(14,20+X.length+3+2+4+11)]) (by omega) (fix5 _ _ _ _ _ _) ?_ (fun e=>absurd e (Nat.lt_irrefl _)) ?_ ?_ ?_ ?_ ?_)
     ·simp[okN]; try omega
     ·simp[S8,W3]
     ·simp +contextual [S8,W3,Zak,Zfe,aj,ai,al,ao,an,rowL,ak,n20,D4,H1,j]
     ·simp;intro y I V U
      repeat rw[if_neg (by omega)]
      rw[M1 _ I,if_neg (by simpa using U)]
     ·exact fun e=>absurd e (Nat.lt_irrefl _)
     ·exact fun y _=>bw t y
    ·by_cases g:RL=[]
     ·subst g;simp[C,M,Q,D,E,a4,ag,ah,ar,am,hx,H,B,v,X5,Y,au,b0,w,G];exact Z9 (hK _ _ (ba (az w G))) [] (by simp)
     ·simp[C,M,Q,D,E,a4,ag,ah,ar,am,hx,H,B,v,X5,Y,au,W4 g,Y7 g,g,b0,w,G];exact Z9 (hK _ _ (ba (az w G))) [] (by simp)
   ·have a8:¬((arE m L (t+1):Nat):Int)<0:=by omega
    have aa:=fun e mm hW=>S e mm (by omega) ⟨by omega,fun s h1 h2=>by
     rcases Nat.lt_or_ge s (t+1)with c|c
     ·exact af s h1 (by omega)
     ·have:s=t+1:=by omega
      rw[this]; exact G⟩ hW
    rw[A]at aa;by_cases g:RL=[]
    ·subst g;simp[C,M,Q,D,E,a4,ag,ah,ar,am,hx,H,B,v,X5,Y,au,G,a8];refine aa _ _ (WkR.famG (x:=X.length) (N:=0) (l:=[(14,20+X.length+3+2+4+11)]) (by omega) (fix6 _ _ _ _ _ _ _ _) ?_ (fun e=>absurd e (Nat.lt_irrefl _)) ?_ ?_ ?_ ?_ ?_)
     ·simp[okN]; try omega
     ·simp[S8,W3]
     ·simp +contextual [S8,W3,Zak,Zfe,aj,ai,al,ao,an,rowL,ak,n20,D4,H1]
     ·simp;intro y I V U
      repeat rw[if_neg (by omega)]
      rw[M1 _ I,if_neg (by simpa using U)]
     ·exact fun e=>absurd e (Nat.lt_irrefl _)
     ·exact fun y _=>bw t y
    ·simp[C,M,Q,D,E,a4,ag,ah,ar,am,hx,H,B,v,X5,Y,au,W4 g,Y7 g,g,G,a8];refine aa _ _ (WkR.famG (x:=X.length) (N:=0) (l:=[(14,20+X.length+3+2+4+11)]) (by omega) (fix6 _ _ _ _ _ _ _ _) ?_ (fun e=>absurd e (Nat.lt_irrefl _)) ?_ ?_ ?_ ?_ ?_)
     ·simp[okN]; try omega
     ·simp[S8,W3]
     ·simp +contextual [S8,W3,Zak,Zfe,aj,ai,al,ao,an,rowL,ak,n20,D4,H1]
     ·simp;intro y I V U
      repeat rw[if_neg (by omega)]
      rw[M1 _ I,if_neg (by simpa using U)]
     ·exact fun e=>absurd e (Nat.lt_irrefl _)
     ·exact fun y _=>bw t y
  ·have D:¬((arE m L t:Nat):Int)<2*m:=by omega
   obtain⟨a,ab⟩:∃ a,a=arE m L t:=⟨_,rfl⟩
   obtain⟨x,hx⟩:∃ x,x=xoE m a:=⟨_,rfl⟩
   obtain⟨q,hq⟩:∃ q,q=qoE m a:=⟨_,rfl⟩
   have z:x<X.length:=by rw[hx,ab]; unfold xoE; omega
   have cn:q<4:=by rw[hq]; exact Nat.mod_lt _ (by omega)
   have ci:a=2*m+4*x+q:=by rw[hx,hq]; unfold xoE qoE; omega
   have bx:∀ y,T1 m L (t+1) y=if y=x then T1 m L t x++[(t,q)]else T1 m L t y:=fun y=>by
    show(if _ then _ else _)=_
    rw[← ab,← hx,← hq];by_cases I:y=x
    ·subst I;rw[if_pos ⟨by rw[ab]; exact hp,rfl⟩,if_pos rfl]
    ·rw[if_neg (fun e=>I e.2.symm),if_neg I]
   have bh:ltN m (plE 0 gs) L t=⟨2,0,0,((Y6 ((x:Nat):Int) (nmI m L (t+1)):Nat):Int),0,false⟩:=by
    unfold ltN;rw[if_neg hp,hx,ab];rfl
   rw[bh]at A;have a2:IntKind.i64.wrap ((a:Int) - 2*m)=((4*x+q:Nat):Int):=by rw[Z1 (by omega) (by omega)]; omega
   have E:((4*x+q:Nat):Int).tdiv 4=(x:Nat):=by
    show(((4*x+q) / 4:Nat):Int)=_
    congr 1; omega
   have a1:((4*x+q:Nat):Int).tmod 4=(q:Nat):=by
    show(((4*x+q) % 4:Nat):Int)=_
    congr 1; omega
   have a7:IntKind.i64.wrap (x:Int)=x:=Z1 (by omega) (by omega)
   have a5:IntKind.i64.wrap ((q:Int)+2)=((q+2:Nat):Int):=by rw[Z1 (by omega) (by omega)]; omega
   have aq:((q+2:Nat):Int).tmod 4=(((q+2) % 4:Nat):Int):=rfl;have cm:=Nat.mod_lt (q+2) (show 0<4 by omega)
   have ca:wiE m a=2*m+4*x+(q+2) % 4:=by rw[ci]; exact Zg6 cn
   obtain⟨q2,b5⟩:∃ q2,(q+2) % 4=q2:=⟨_,rfl⟩
   rw[b5]at aq cm ca;have a6:IntKind.i64.wrap ((q2:Int) - q)=(q2:Int) - q:=Z1 (by omega) (by omega)
   obtain⟨b,bc⟩:∃ b,wiE m a=b:=⟨_,rfl⟩
   rw[bc]at ca;have a3:IntKind.i64.wrap ((a:Int)+((q2:Int) - q))=(b:Nat):=by rw[Z1 (by omega) (by omega)]; omega
   have H:b<2*m+4*X.length:=by omega
   rw[← ab,bc]at B;obtain⟨cb,v⟩:=Y5 B;have j:((G6 m (plE 0 gs) L t).map rowL).length=t:=by unfold G6; simp
   have ak:∀ q,Z6 q ((G6 m (plE 0 gs) L t).map rowL)=(G6 m (plE 0 gs) L t).map rowL:=fun q=>X6 q _ (U6 _)
   generalize (G6 m (plE 0 gs) L t).map rowL=RL at *;rw[← ab]at D ⊢;generalize cy:4*x+q=dd at *;generalize cz:q+2=dq at *;have au:RL.length≤1048575:=by omega
   have Y:¬RL.length+1≤RL.length:=by omega
   have Z:¬t+1≤t:=by omega
   have av:List.take t RL=RL:=List.take_of_length_le (by omega)
   have a0:t≤1048575:=by omega
   have ad:=Zn2 (x:Int) 0 (nmI m L t);have ay:=Zye 0 (nmI m L t);have c5:(nmI m L t).length≤t:=Zv4 t;have bz:IntKind.i64.wrap (((nmI m L t).length:Int)+1)=((nmI m L t).length+1:Nat):=by rw[Z1 (by omega) (by omega)]; omega
   have bq:nmI m L (t+1)=if Y6 (x:Int) (nmI m L t)=0 then nmI m L t++[(x:Int)]else nmI m L t:=by
    have e2:nmE m L (t+1)=if arE m L t<2*m∨xoE m (arE m L t)∈nmE m L t then nmE m L t else nmE m L t++[xoE m (arE m L t)]:=rfl
    by_cases hm:x∈nmE m L t
    ·rw[if_neg (fun e=>(nm_mem.1 e) hm)]
     unfold nmI;rw[e2,if_pos (.inr (by rw[← ab,← hx]; exact hm))]
    ·rw[if_pos (nm_mem.2 hm)];unfold nmI;rw[e2,if_neg (fun e=>e.elim hp (by rw[← ab,← hx]; exact hm)),List.map_append,← ab,← hx]
     rfl
   have b9:Y6 (x:Int) (nmI m L t)=0↔T1 m L t x=[]:=by rw[nm_mem,Zwv]
   have c6:(T1 m L t x).length≤1000:=by have:=Ztn (m:=m) (L:=L) (x:=x) t; omega
   simp only[bx]at S;obtain⟨F,hF⟩:∃ F:Nat→List (List AVal),F=fun y=>(T1 m L t y).map visR:=⟨_,rfl⟩
   have bm:(fun y=>(if y=x then T1 m L t x++[(t,q)]else T1 m L t y).map visR)=updF F x (F x++[visR (t,q)]):=by
    funext y
    unfold updF;by_cases I:y=x
    ·subst I;rw[if_pos rfl,if_pos rfl,hF,List.map_append];rfl
    ·rw[if_neg I,if_neg I,hF]
   rw[bm]at S;have bv:∀ y,W5 (F y)=true:=fun y=>by rw[hF]; exact Zhf _
   have b8:(F x).length≤1048575:=by rw[hF,List.length_map]; omega
   have bs:Y6 (x:Int) (nmI m L t)=0↔F x=[]:=by rw[b9,hF]; simp
   rw[← hF];clear hF b9;have ac:(L7 20 X.length F)[x]? = some [slV (20+x) (F x)]:=Zte z;obtain⟨_,O⟩:=Y5 ac;have aw:(L7 20 X.length F).length=X.length:=Zqr;have ax:∀ bl,Z7 (K6 2 20 F X.length bl) (20+x)=if F x=[]then Z7 bl (20+x)else some (.cells 2 (F x)):=fun bl=>M1 _ z
   have g:¬RL=[]:=fun e=>by
    rw[e]at j;have:t=0:=j.symm;subst this;exact hp (by show 0<2*m; omega)
   by_cases o:Y6 (x:Int) (nmI m L t)=0
   ·have bn:nmI m L (t+1)=nmI m L t++[(x:Int)]:=by rw[bq,if_pos o]
    have n:F x=[]:=bs.1 o;have bd:∀ y,y<X.length→W5 (updF F x [visR (t,q)] y)=true:=fun y _=>by
     unfold updF;split
     ·exact Zhf [(t,q)]
     ·exact bv y
    have ae:=Zn2 (x:Int) 0 (nmI m L t++[(x:Int)]);have bp:=Zv9 (x:Int) 0 (nmI m L t);rw[Zi2 o,if_neg (by omega)]at ae
    rw[bn,Zi2 o]at A;rw[bn]at S;rw[n]at ac O S bm;simp at bp ae;by_cases G:arE m L (t+1)=0
    ·by_cases w:left=0
     ·obtain⟨bj,hw⟩:=bb w G;have u:=u hw;unfold eS mS at u;rw[bj]at u;simp only[bx]at u;rw[bm,A]at u;simp[C,M,Q,D,a2,E,a1,a7,ad,o,ay,ac,O,aw,z,j,X5,W4 g,Y7 g,g,Z,av,a0,a5,aq,a6,a3,H,B,v,ax,n20,D4,nBx z,le1,le2,le3,le4,le5,le6,le7,le8,H1,bz,bp,ae,Zay,n,G,w];refine u _ _ (WkR.famG (x:=x) (N:=20+X.length+3+2+4+12+4+6+12) (l:=[(14,20+X.length+3+2+4+12+4+6+15+7)]) (by omega) (fix5 _ _ _ _ _ _) ?_ (fun _=>⟨by omega,by first|omega|(simp; done)|(simp; omega)⟩) ?_ ?_ ?_ ?_ ?_)
      ·simp[okN]; try omega
      ·simp[S8,W3]
      ·simp +contextual [S8,W3,Zm8 z,Zfe,aj,ai,al,ao,an,rowL,ak,n20,D4,H1,j]
      ·simp;intro y I V U
       repeat rw[if_neg (by omega)]
       rw[Zie V]at U ⊢
       first|rw[M1 _ I,if_neg U]|(simp only[H1]; repeat rw[if_neg (by omega)]; rw[M1 _ I,if_neg U]; try rw[if_neg (by omega)])
      ·intro _; simp[Zjv,n,visR,n20,D4,le1,le2,le3,le4,le5,le6,le7,le8]
      ·exact bd
     ·simp[C,M,Q,D,a2,E,a1,a7,ad,o,ay,ac,O,aw,z,j,X5,W4 g,Y7 g,g,Z,av,a0,a5,aq,a6,a3,H,B,v,ax,n20,D4,nBx z,le1,le2,le3,le4,le5,le6,le7,le8,H1,bz,bp,ae,Zay,n,G,w];exact Z9 (hK _ _ (ba (az w G))) [] (by simp)
    ·have a8:¬((arE m L (t+1):Nat):Int)<0:=by omega
     have aa:=fun e mm hW=>S e mm (by omega) ⟨by omega,fun s h1 h2=>by
      rcases Nat.lt_or_ge s (t+1)with c|c
      ·exact af s h1 (by omega)
      ·have:s=t+1:=by omega
       rw[this]; exact G⟩ hW
     rw[A]at aa;simp[C,M,Q,D,a2,E,a1,a7,ad,o,ay,ac,O,aw,z,j,X5,W4 g,Y7 g,g,Z,av,a0,a5,aq,a6,a3,H,B,v,ax,n20,D4,nBx z,le1,le2,le3,le4,le5,le6,le7,le8,H1,bz,bp,ae,Zay,n,G,a8];refine aa _ _ (WkR.famG (x:=x) (N:=20+X.length+3+2+4+12+4+6+12) (l:=[(14,20+X.length+3+2+4+12+4+6+15+7)]) (by omega) (fix6 _ _ _ _ _ _ _ _) ?_ (fun _=>⟨by omega,by first|omega|(simp; done)|(simp; omega)⟩) ?_ ?_ ?_ ?_ ?_)
     ·simp[okN]; try omega
     ·simp[S8,W3]
     ·simp +contextual [S8,W3,Zm8 z,Zfe,aj,ai,al,ao,an,rowL,ak,n20,D4,H1,j]
     ·simp;intro y I V U
      repeat rw[if_neg (by omega)]
      rw[Zie V]at U ⊢
      first|rw[M1 _ I,if_neg U]|(simp only[H1]; repeat rw[if_neg (by omega)]; rw[M1 _ I,if_neg U]; try rw[if_neg (by omega)])
     ·intro _; simp[Zjv,n,visR,n20,D4,le1,le2,le3,le4,le5,le6,le7,le8]
     ·exact bd
   ·have bn:nmI m L (t+1)=nmI m L t:=by rw[bq,if_neg o]
    have n:¬F x=[]:=fun e=>o (bs.2 e)
    have bd:∀ y,y<X.length→W5 (updF F x (F x++[visR (t,q)]) y)=true:=fun y _=>by
     unfold updF;split
     ·rw[Zvu,bv x,Bool.true_and]; exact Zhf [(t,q)]
     ·exact bv y
    rw[bn]at S A;obtain⟨ix,b4⟩:∃ ix,ix=Y6 (x:Int) (nmI m L t):=⟨_,rfl⟩
    have be:¬ix=0:=by rw[b4]; exact o
    have bf:¬((ix:Nat):Int)=0:=by omega
    rw[if_neg o,Nat.zero_add,Nat.zero_add]at ad;rw[← b4]at ad A;have bi:¬(F x).length+1≤(F x).length:=by omega
    have bt:(F x).length≤1048575:=b8;by_cases G:arE m L (t+1)=0
    ·by_cases w:left=0
     ·obtain⟨bj,hw⟩:=bb w G;have u:=u hw;unfold eS mS at u;rw[bj]at u;simp only[bx]at u;rw[bm,A]at u;simp[C,M,Q,D,a2,E,a1,a7,ad,o,ay,ac,O,aw,z,j,X5,W4 g,Y7 g,g,Z,av,a0,a5,aq,a6,a3,H,B,v,ax,n20,D4,nBx z,le1,le2,le3,le4,le5,le6,le7,le8,H1,W4 n,n,bi,bt,be,bf,G,w];refine u _ _ (WkR.famG (x:=x) (N:=20+X.length+3+2+4+12+4+12) (l:=[(14,20+X.length+3+2+4+12+4+15+7)]) (by omega) (fix5 _ _ _ _ _ _) ?_ (fun _=>⟨by omega,by first|omega|(simp; done)|(simp; omega)⟩) ?_ ?_ ?_ ?_ ?_)
      ·simp[okN]; try omega
      ·simp[S8,W3]
      ·simp +contextual [S8,W3,Zm8 z,Zfe,aj,ai,al,ao,an,rowL,ak,n20,D4,H1,j]
      ·simp;intro y I V U
       repeat rw[if_neg (by omega)]
       rw[Zie V]at U ⊢
       first|rw[M1 _ I,if_neg U]|(simp only[H1]; repeat rw[if_neg (by omega)]; rw[M1 _ I,if_neg U]; try rw[if_neg (by omega)])
      ·intro _; simp[Zjv,n,visR,n20,D4,le1,le2,le3,le4,le5,le6,le7,le8]
      ·exact bd
     ·simp[C,M,Q,D,a2,E,a1,a7,ad,o,ay,ac,O,aw,z,j,X5,W4 g,Y7 g,g,Z,av,a0,a5,aq,a6,a3,H,B,v,ax,n20,D4,nBx z,le1,le2,le3,le4,le5,le6,le7,le8,H1,W4 n,n,bi,bt,be,bf,G,w];exact Z9 (hK _ _ (ba (az w G))) [] (by simp)
    ·have a8:¬((arE m L (t+1):Nat):Int)<0:=by omega
     have aa:=fun e mm hW=>S e mm (by omega) ⟨by omega,fun s h1 h2=>by
      rcases Nat.lt_or_ge s (t+1)with c|c
      ·exact af s h1 (by omega)
      ·have:s=t+1:=by omega
       rw[this]; exact G⟩ hW
     rw[A]at aa;simp[C,M,Q,D,a2,E,a1,a7,ad,o,ay,ac,O,aw,z,j,X5,W4 g,Y7 g,g,Z,av,a0,a5,aq,a6,a3,H,B,v,ax,n20,D4,nBx z,le1,le2,le3,le4,le5,le6,le7,le8,H1,W4 n,n,bi,bt,be,bf,G,a8];refine aa _ _ (WkR.famG (x:=x) (N:=20+X.length+3+2+4+12+4+12) (l:=[(14,20+X.length+3+2+4+12+4+15+7)]) (by omega) (fix6 _ _ _ _ _ _ _ _) ?_ (fun _=>⟨by omega,by first|omega|(simp; done)|(simp; omega)⟩) ?_ ?_ ?_ ?_ ?_)
     ·simp[okN]; try omega
     ·simp[S8,W3]
     ·simp +contextual [S8,W3,Zm8 z,Zfe,aj,ai,al,ao,an,rowL,ak,n20,D4,H1,j]
     ·simp;intro y I V U
      repeat rw[if_neg (by omega)]
      rw[Zie V]at U ⊢
      first|rw[M1 _ I,if_neg U]|(simp only[H1]; repeat rw[if_neg (by omega)]; rw[M1 _ I,if_neg U]; try rw[if_neg (by omega)])
     ·intro _; simp[Zjv,n,visR,n20,D4,le1,le2,le3,le4,le5,le6,le7,le8]
     ·exact bd
end Go.Known
