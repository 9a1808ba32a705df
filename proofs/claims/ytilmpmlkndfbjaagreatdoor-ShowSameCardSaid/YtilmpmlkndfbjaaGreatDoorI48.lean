/- Part 48 of the proof: Ym, Zc. -/
import Derived.Test.YtilmpmlkndfbjaaGreatDoorI41
import Derived.Test.YtilmpmlkndfbjaaGreatDoorI46
import Derived.Test.YtilmpmlkndfbjaaGreatDoorI47
set_option linter.all false
section
namespace Go.Known
open Go Go.AE Go.Proofs
open Go.Plain
attribute [local simp] Zrn Zst Zqn Zsg Zsf Zpv preN preC Zp7 Zph Z2y Yaf Ygm Z6i Z7n Yeq Yee Z4l Ygw Ygp Ycm Ydl Z9h Z2t Yai
def rwR(r:Rw):List AVal:=[.int .i64 (r.1:Nat),.int .i64 (r.2.1:Nat),.int .i64 (r.2.2.1:Nat),.bool r.2.2.2]
def dnE(done:List Int):List (Int×Bool):=done.map fun i=>(i,true)
theorem Za2:∀ (l:List Rw),V3 (l.map rwR)=true
 | []=>rfl
 | r :: l=>by
  have:=Za2 l;simp only[List.map_cons,V3,rwR,Y7,AVal.closed,Bool.and_true,Bool.true_and]at this ⊢;exact this
def itN(ls:List Lt)(x:Nat):Nat→Nat
 | 0=>x
 | t+1=>Z7 ls (itN ls x t)
theorem Zz1(ls:List Lt)(x:Nat):∀ t,itN ls (Z7 ls x) t=itN ls x (t+1)
 | 0=>rfl
 | t+1=>by simp only[itN,Zz1 ls x t]
theorem Zwe(ls:List Lt):∀ t x,U0 ls x (t+1)=U0 ls x t++[tnN ls (itN ls x t)]
 | 0,x=>rfl
 | t+1,x=>by
  have:=Zwe ls t (bkN (tnN ls x));rw[U0,this,U0];have e:itN ls (bkN (tnN ls x)) t=itN ls x (t+1):=Zz1 ls x t;rw[e];rfl
theorem Zx4{ls:List Lt}(b:Wv ls){x:Nat}(c:x<2*ls.length)(a:(ldN ls x).k=2):∀ t,itN ls x t<2*ls.length∧(ldN ls (itN ls x t)).k=2
 | 0=>⟨c,a⟩
 | t+1=>by
  obtain⟨d,e⟩:=Zx4 b c a t;exact(Zhy b d e).2
theorem Z4m(ls:List Lt)(done:List Int)(front:List Nat){i:Nat}(hi:i<front.length):U5 4 ls done front i≤4∧i+U5 4 ls done front i≤front.length:=by
 unfold U5;split
 ·omega
 ·have:=Ydy ls (crN ls done (front.getD i 0)) front _ (i+1) rfl;omega
def atV(b:Nat×Nat):Int:=if b.2=0 then -1 else b.1
theorem Zoi(id:Int):∀ done:List Int,(id∉done→A2 id (dnE done)=none)∧(id∈done → ∃ p,A2 id (dnE done)=some (p,true))
 | []=>⟨fun _=>rfl,fun h=>by simp at h⟩
 | d :: r=>by
  obtain⟨b,c⟩:=Zoi id r;have e:dnE (d :: r)=(d,true) :: dnE r:=rfl;rw[e];simp only[A2];by_cases a:id=d
  ·rw[if_pos a];exact⟨fun h=>absurd (by rw[a]; exact List.mem_cons_self ..) h,fun _=>⟨0,rfl⟩⟩
  ·rw[if_neg a];refine⟨fun h=>?_,fun h=>?_⟩
   ·rw[b (fun hm=>h (List.mem_cons_of_mem _ hm))]
   ·obtain⟨p,f⟩:=c ((List.mem_cons.1 h).resolve_left a);exact⟨p+1,by rw[f]⟩
set_option maxRecDepth 100000 in
set_option maxHeartbeats 16000000 in
theorem Ydp(e:Env)(he:e.get 3=.ptr 3 0 0)(f:Int)(ls:List Lt)(hv:ValR f ls)(h0:ls≠[]) :
 CtrY Tryz.prog ⟨15,19,[13],e,ap28.asn,ap28.bd,[105,109]⟩ 103 [.yld 15,.ptr 14 0 0]
  ⟨[(14,.cells 1 [[.ptr 11 0 0]]),(11,wvB ls (S7 ls ls.length) (.sl 12 0 (Y2 ls).length)),(12,.cells 1 (Z2 (Y2 ls))),(3,.cells 1 [[.nilSl]]),(1,.cells 2 [[.int .i64 f,.imm (ls.map rowL)]])],16⟩
  fun _ m=>m=⟨(3,.cells 1 [[slV 19 ((X2 4 ls).map rwR)]]) :: blV 19 4 ((X2 4 ls).map rwR) [],20⟩:=by
 refine Z2i hm Tryz.func103 cf96 rfl rfl fun K hK=>?_
 have hw:=hv.wv h0;have h:ls.length≤400:=hv.len;have a1:(ls.map rowL).length=ls.length:=List.length_map ..;have z:∀ q,Z4 q (ls.map rowL)=ls.map rowL:=fun q=>X1 q _ (Y5 ls)
 have y:∀ q,Z4 q (Z2 (S7 ls ls.length))=Z2 (S7 ls ls.length):=fun q=>Z6 q _
 have ba:=fun k d hd=>cEnd ls (S7 ls ls.length) k d (by omega) hd
 have a9:∀ v,v<ls.length→(at' ls v).k=2→(S7 ls ls.length)[v]? = some (otN ls v):=fun v h1 h2=>Zwt hw (fun v x a b c d e=>hv.uniq a b c d e) (fun v a b=>hv.same_i a b) ls.length (Nat.le_refl _) v h1 h2 (hw.oth v h1 h2).1
 have bj:=fun front j hj bp af=>cRun ls (S7 ls ls.length) front j (by omega) hw a9 hj bp af
 have a0:=fun k d hd hk=>Ztl ls (S7 ls ls.length) k d (by omega) hw a9 hd hk
 have ac:=fun i hi=>C0 ls (i:=i) hi
 unfold wvB at *;clear a9;generalize ls.map rowL=rows at *;generalize Z2 (S7 ls ls.length)=OO at *;unfold rowL at ac;have ah:∀ q (l:List Nat),Z4 q (Z2 l)=Z2 l:=fun q l=>Z6 q l
 have bw:∀ q (E:List (Int×Bool)),G8 q (mkG .bool 0 E)=mkG .bool 0 E:=fun q E=>Zqa q (fun _=>rfl) 0 E
 have bx:∀ q (l:List Rw),Z4 q (l.map rwR)=l.map rwR:=fun q l=>X1 q _ (Za2 l)
 have b4:=Zmu ls hw.kin;have cq:muN ls (Y2 ls) []≤1600:=by
  unfold muN Y2;have h1:Z3 (fun l=>isX l && !([]:List Int).contains l.i) ls≤ls.length:=D2
  have h2:Z0 ls≤ls.length:=D2;rw[List.length_map,T4];omega
 have b5:∀ m',SMem.next m'≥16→K (.tuple []) m'→True:=fun _ _ _=>trivial
 clear b5;simp;refine Zml (α:=List Nat×List Int×List Rw×Nat) (fun a=>[(0,.yld 15),(1,.ptr 14 0 0),(3,.map 18)])
  (fun a=>⟨(14,.cells 1 [[.ptr 11 0 0]]) :: (11,.cells 3 [[.imm rows,.imm OO,.sl 17 0 a.1.length]]) :: (17,.cells 1 (Z2 a.1)) :: (18,.map (mkG .bool 0 (dnE a.2.1)) a.2.1.length) :: (3,.cells 1 [[slV 19 (a.2.2.1.map rwR)]]) :: blV 19 4 (a.2.2.1.map rwR) [],20⟩)
  (fun a=>a.2.2.2) (fun a=>Frt ls a.1 a.2.1∧muN ls a.1 a.2.1<a.2.2.2∧a.2.2.1.length+a.2.2.2≤2000∧a.2.2.1++drF 4 ls a.2.2.2 a.1 a.2.1=X2 4 ls)
  (Y2 ls,[],[],muN ls (Y2 ls) []+1) [(17,12),(18,16)] (by simp[z,y,ah,dnE,mkG,G8]) ⟨b4,by simp,by simp; omega,rfl⟩ ?_
 rintro⟨front,done,D,k⟩ ⟨hF,ch,ce,u⟩ N hN;simp only at hF ch ce u hN ⊢;obtain⟨k,rfl⟩:∃ k',k=k'+1:=⟨k - 1,by omega⟩
 rw[drF]at u;have bp:front.length≤2000:=by
  have:front.length≤muN ls front done:=Nat.le_add_right _ _;omega
 by_cases L:front=[]
 ·rw[if_pos L,List.append_nil]at u;subst u;subst L;simp;exact Y1 (hK (.tuple []) _ rfl) [] (by simp +contextual [bx])
 ·rw[if_neg L]at u;have bv:0<front.length:=List.length_pos_iff.2 L;have bh:(0:Int)<(front.length:Int):=by omega
  have Q:(Z2 front).length=front.length:=L6 front;have ax:=fun j (hj:j<front.length)=>Zk1 hj
  have am:=fun j (hj:j<front.length)=>hF.lt _ (Zeo hj)
  have B:=fun q=>ah q front
  have M:=fun q=>bw q (dnE done)
  have F:=fun q=>bx q D
  simp[bv,bh,L];refine Zml (α:=Nat) (fun i=>[(4,.int .i64 i),(0,.yld 15),(1,.ptr 14 0 0),(3,.map 18)])
   (fun _=>⟨(14,.cells 1 [[.ptr 11 0 0]]) :: (11,.cells 3 [[.imm rows,.imm OO,.sl 17 0 front.length]]) :: (17,.cells 1 (Z2 front)) :: (18,.map (mkG .bool 0 (dnE done)) done.length) :: (3,.cells 1 [[slV 19 (D.map rwR)]]) :: blV 19 4 (D.map rwR) [],20⟩)
   (fun i=>front.length - i) (fun i=>i≤front.length - 1∧J2 (Ze2 front) (front.length - 1 - i) i=P0 front) 0 [(17,17),(18,18),(19,19)] (by simp +contextual [z,y,B,M,F]) ⟨by omega,rfl⟩ ?_
  rintro i ⟨hi,C⟩ N2 a8
  try simp only at hi C a8 ⊢
  have a5:IntKind.i64.wrap ((i:Int)+1)=((i+1:Nat):Int):=by rw[Z5 (by omega) (by omega)]; omega
  obtain⟨i1,bc⟩:∃ i1,i+1=i1:=⟨_,rfl⟩
  rw[bc]at a5;by_cases af:i1<front.length
  ·have br:i<front.length:=by omega
   have ak:(i1:Int)<(front.length:Int):=by omega
   have hg:=ax i br;obtain⟨_,ae⟩:=X5 hg;have hh:=ax i1 af;obtain⟨_,cb⟩:=X5 hh;have cr:=am i1 af;have bz:=Zs1 (front.getD i1 0) (by omega)
   obtain⟨k2,bf⟩:∃ k2,front.length - 1 - i=k2+1:=⟨front.length - 1 - i - 1,by omega⟩
   rw[bf]at C;have O:Ze2 front i=decide (front.getD i 0=bkN (front.getD (i+1) 0)):=rfl;rw[bc]at O;generalize front.getD i 0=a at *;generalize front.getD i1 0=b at *;simp[a5,ak,af,Q,hg,ae,hh,cb,br];refine Zal bz ?_;by_cases hc:a=bkN b
   ·rw[decide_eq_true hc]at O;rw[Z68 O]at C;have b9:P0 front<front.length - 1:=by rw[← C]; omega
    have I:S2 4 ls front done=some ((1,i,0,false),front.take i++front.drop (i+2),done):=by
     unfold S2;rw[if_pos b9,← C]
    have ad:=hF.step hw (fun v h1 h2=>hv.same_i h1 h2) L I
    have an:=Zj7 hF.lt L I;have cn:IntKind.i64.wrap ((i:Int)+2)=((i+2:Nat):Int):=by rw[Z5 (by omega) (by omega)]; omega
    have a7:=Ycu (Z2 front) i (by rw[Q]; omega) (by rw[Q]; omega) (D5 _)
    have ci:(Z2 front).take i++(Z2 front).drop (i+2)=Z2 (front.take i++front.drop (i+2)):=by simp[Z2]
    rw[Q,ci]at a7;rw[I]at u;simp only at u;have cf:(front.take i++front.drop (i+2)).length=front.length - 2:=by simp; omega
    have w:=hN (front.take i++front.drop (i+2),done,D++[(1,i,0,false)],k);simp only[cf]at w;have G:=fun q=>ah q (front.take i++front.drop (i+2))
    generalize front.take i++front.drop (i+2)=ar at *;generalize i+2=i2 at *;simp[hc];rw[cn];refine Zo5 a7 (by simp) [(1,17)] (by simp) (by simp[B]) (by simp) rfl (by decide) (by simp) (by simp) (by simp) ?_
    simp[G];have a2:D.length≤1048575:=by omega
    have bi:(D++[((1,i,0,false):Rw)]).map rwR=D.map rwR++[[.int .i64 1,.int .i64 (i:Int),.int .i64 0,.bool false]]:=by rw[List.map_append]; rfl
    rw[bi]at w;simp[YC,ap28,setE,he,a2];refine w [(17,17),(18,18),(19,67)] _ _ (by omega) ⟨ad,by omega,by simp; omega,by simpa using u⟩ ?_
    simp +contextual [z,y,G,M,F]
   ·rw[decide_eq_false hc]at O;rw[Yet O,bc]at C;have b8:¬((a:Int)=(bkN b:Nat)):=by omega
    simp[hc,b8,a5];exact a8 i1 [(17,17),(18,18),(19,19)] _ _ (by omega) ⟨by omega,by rw[show front.length - 1 - i1=k2 by omega]; exact C⟩ (by simp +contextual [z,y,B,M,F])
  ·have ak:¬(i1:Int)<(front.length:Int):=by omega
   simp[a5,ak,af,Q];have bg:¬P0 front<front.length - 1:=by
    have:front.length - 1 - i=0:=by omega
    rw[this]at C;simp only[J2]at C;omega
   clear a8 C;have Y:=ba front.length;have aq:=fun j hj=>bj front j hj (by omega) hF.lt
   have V:=a0 front.length;obtain⟨run,H⟩:∃ run,U5 4 ls done front=run:=⟨_,rfl⟩
   refine Zml (α:=Nat) (fun j=>[(69,.int .i64 j),(68,.int .i64 front.length),(67,.sl 17 0 front.length),(6,.int .i64 (X3 run j).2),(5,.int .i64 (atV (X3 run j))),(0,.yld 15),(1,.ptr 14 0 0),(3,.map 18)])
    (fun _=>⟨(14,.cells 1 [[.ptr 11 0 0]]) :: (11,.cells 3 [[.imm rows,.imm OO,.sl 17 0 front.length]]) :: (17,.cells 1 (Z2 front)) :: (18,.map (mkG .bool 0 (dnE done)) done.length) :: (3,.cells 1 [[slV 19 (D.map rwR)]]) :: blV 19 4 (D.map rwR) [],20⟩)
    (fun j=>front.length - j) (fun j=>j≤front.length) 0 [(17,17),(18,18),(19,19)] (by simp +contextual [z,y,B,M,F,X3,atV]) (by simp) ?_
   intro j hj N3 au
   try simp only at hj au ⊢
   have a6:IntKind.i64.wrap ((j:Int)+1)=(j:Int)+1:=Z5 (by omega) (by omega)
   by_cases ay:j<front.length
   ·have hg:=ax j ay;obtain⟨_,ae⟩:=X5 hg;have hx:=am j ay;have bb:=Y _ hx;have U:=Zba hx;have X:=ac _ U;obtain⟨_,S⟩:=X5 X;have b0:=aq j ay;have J:X3 run (j+1)=if (X3 run j).2<run j then (j,run j)else X3 run j:=rfl
    have ag:run j=if crN ls done (front.getD j 0)=0 then 0 else min 4 (1+H2 ls (crN ls done (front.getD j 0)) front (j+1)):=by rw[← H]; rfl
    have P:crN ls done (front.getD j 0)=if (ldN ls (front.getD j 0)).k=2∧(ldN ls (front.getD j 0)).i∉done then (ldN ls (front.getD j 0)).i else 0:=rfl
    have aj:=fun id=>Yfk hw hF id j
    have ao:(ldN ls (front.getD j 0)).k=2→1≤(ldN ls (front.getD j 0)).i:=fun bf=>by
     obtain⟨_,_,_,d,_⟩:=(Za6 bf).1 (hv.okr _ (Zlr hx));exact d
    have az:ldN ls (front.getD j 0)=at' ls (W1 ls.length (front.getD j 0)):=rfl;have w:=au (j+1);rw[Int.natCast_add,Int.natCast_one]at w;rw[az]at P ao b0;have bn:=fun id=>Zoi id done
    have bq:=fun id=>Zlv AVal.bool id 0 (dnE done)
    clear au aq Y;generalize front.getD j 0=x at *;generalize W1 ls.length x=v at *;generalize at' ls v=l at *;simp[ay,hg,ae,Q];refine Zfc bb (by simp) [(1,11),(2,17)] (by simp) (by simp[EqRB,z,y]) (by simp) (fun s=>by simp) (by simp) ?_
    by_cases hk:l.k=2
    ·by_cases aw:l.i∈done
     ·obtain⟨p,hp⟩:=(bn l.i).2 aw;have A:=bq l.i;rw[hp]at A;simp only at A;rw[if_neg (fun e=>e.2 aw)]at P
      rw[P,if_pos rfl]at ag;rw[ag,if_neg (by omega)]at J
      rw[J]at w;simp[X,S,a1,U,hk,A,a6];exact w [(17,17),(18,18),(19,19)] _ _ (by omega) (by omega) (by simp +contextual [z,y,B,M,F])
     ·have hp:=(bn l.i).1 aw;have A:=bq l.i;rw[hp]at A;simp only at A;rw[if_pos ⟨hk,aw⟩]at P;have h1:=ao hk;have h4:=aj l.i;rw[P,if_neg (by omega),Nat.min_eq_right (by omega)]at ag
      have bt:1+H2 ls l.i front (j+1)≤4:=by omega
      rw[ag]at J;clear P aj;generalize 1+H2 ls l.i front (j+1)=n at *;simp[X,S,a1,U,hk,A];refine U9 b0 [(1,11),(2,17)] (by simp) (by simp[z,y,B]) (by simp) ?_
      rintro _ _ ⟨rfl,rfl⟩;by_cases Z:(X3 run j).2<n
      ·rw[if_pos Z]at J;have ai:atV (j,n)=(j:Int):=by unfold atV; rw[if_neg (by show ¬n=0; omega)]
       rw[J,ai]at w;have al:((X3 run j).2:Int)<(n:Int):=by omega
       simp[Z,al,a6,z,y,B];exact w [(17,17),(18,18),(19,19)] _ _ (by omega) (by omega) (by simp +contextual [z,y,B,M,F])
      ·rw[if_neg Z]at J;rw[J]at w;have al:¬((X3 run j).2:Int)<(n:Int):=by omega
       simp[Z,al,a6,z,y,B];exact w [(17,17),(18,18),(19,19)] _ _ (by omega) (by omega) (by simp +contextual [z,y,B,M,F])
    ·rw[if_neg (fun e=>hk e.1)]at P
     rw[P,if_pos rfl]at ag;rw[ag,if_neg (by omega)]at J
     rw[J]at w;simp[X,S,a1,U,hk,a6];exact w [(17,17),(18,18),(19,19)] _ _ (by omega) (by omega) (by simp +contextual [z,y,B,M,F])
   ·have cd:j=front.length:=by omega
    subst cd;clear au;rcases Zfw run front.length with⟨c1,c2,c3⟩|⟨c1,c2,c3⟩
    ·have I:S2 4 ls front done=none:=by
      unfold S2;rw[if_neg bg,H,if_pos c1]
     rw[I]at u;simp only[List.append_nil]at u;have ai:atV (X3 run front.length) = -1:=by unfold atV; rw[if_pos c1]
     simp[ai];rw[← u]at hK;exact Y1 (hK (.tuple []) _ rfl) [] (by simp +contextual [F])
    ·have ai:atV (X3 run front.length)=((X3 run front.length).1:Int):=by unfold atV; rw[if_neg (by omega)]
     have I:S2 4 ls front done=some ((2,(X3 run front.length).1,(X3 run front.length).2,(ldN ls (front.getD (X3 run front.length).1 0)).o),
      front.take (X3 run front.length).1++U0 ls (front.getD (X3 run front.length).1 0) (4 - (X3 run front.length).2)++front.drop ((X3 run front.length).1+(X3 run front.length).2),
      done++[(ldN ls (front.getD (X3 run front.length).1 0)).i]):=by
      unfold S2;rw[if_neg bg,H,if_neg (by omega)]
     have ad:=hF.step hw (fun v h1 h2=>hv.same_i h1 h2) L I
     have an:=Zj7 hF.lt L I;rw[I]at u;simp only at u;have c4:U5 4 ls done front (X3 run front.length).1=(X3 run front.length).2:=by rw[H]; exact c3
     obtain⟨k1,k2,k3⟩:=Zh1 (c:=4) (ls:=ls) (done:=done) (front:=front) (i:=(X3 run front.length).1) (by rw[c4]; exact c1)
     have bs:=Z4m ls done front c2;rw[c4]at bs;have hg:=ax _ c2;obtain⟨_,ae⟩:=X5 hg;have hx:=am _ c2;have bb:=Y _ hx;have U:=Zba hx;have X:=ac _ U;obtain⟨_,S⟩:=X5 X;have az:ldN ls (front.getD (X3 run front.length).1 0)=at' ls (W1 ls.length (front.getD (X3 run front.length).1 0)):=rfl;have be:=Zx4 hw hx k1;rw[az]at k1 k2 ad an u;have A:=Zlv AVal.bool (at' ls (W1 ls.length (front.getD (X3 run front.length).1 0))).i 0 (dnE done);rw[(Zoi _ done).1 k2]at A;simp only at A
     have a4:=Z0t AVal.bool (at' ls (W1 ls.length (front.getD (X3 run front.length).1 0))).i true (dnE done);have ca:(dnE done).length=done.length:=by simp[dnE]
     rw[ca]at a4;have bl:dnE done++[((at' ls (W1 ls.length (front.getD (X3 run front.length).1 0))).i,true)]=dnE (done++[(at' ls (W1 ls.length (front.getD (X3 run front.length).1 0))).i]):=by simp[dnE]
     rw[bl]at a4;clear aq Y c3 c4 k3 I az H bg;generalize (X3 run front.length).1=a at *;generalize (X3 run front.length).2=n at *;generalize front.getD a 0=x at *;generalize W1 ls.length x=v at *;generalize at' ls v=l at *;have b6:¬(a:Int)<0:=by omega
     simp[ai,hg,ae,Q,c2,b6];refine Zfc bb (by simp) [(1,11),(2,17)] (by simp) (by simp[EqRB,z,y]) (by simp) (fun s=>by simp) (by simp) ?_
     simp[X,S,a1,U,A,hg,ae,Q,c2];obtain⟨n4,bt⟩:∃ n4,4 - n=n4:=⟨_,rfl⟩
     rw[bt]at ad an u;have co:IntKind.i64.wrap (4 - (n:Int))=(n4:Int):=by rw[Z5 (by omega) (by omega)]; omega
     have bm:(done++[l.i]).length=done.length+1:=by simp
     have aa:=fun q=>bw q (dnE (done++[l.i]))
     refine Zml (α:=Nat) (fun t=>[(130,.int .i64 t),(129,.int .i64 n4),(13,.int .i64 (itN ls x t:Nat)),(12,slV 21 (Z2 (U0 ls x t))),(11,.ptr 20 0 0),(6,.int .i64 n),(5,.int .i64 a),(0,.yld 15),(1,.ptr 14 0 0),(3,.map 18)])
      (fun t=>⟨(18,.map (mkG .bool 0 (dnE (done++[l.i]))) (done.length+1)) :: (20,.cells 6 [[.int .i64 l.k,.int .i64 l.g,.int .i64 l.r,.int .i64 l.i,.int .i64 l.s,.bool l.o]]) :: (14,.cells 1 [[.ptr 11 0 0]]) :: (11,.cells 3 [[.imm rows,.imm OO,.sl 17 0 front.length]]) :: (17,.cells 1 (Z2 front)) :: (3,.cells 1 [[slV 19 (D.map rwR)]]) :: blV 19 4 (D.map rwR) (blV 21 1 (Z2 (U0 ls x t)) []),22⟩)
      (fun t=>n4 - t) (fun t=>t≤n4) 0 [(17,17),(18,18),(19,19),(20,38)] (by simp +contextual [z,y,B,M,aa,F,a4,co,U0,itN,Z2]) (by simp) ?_
     intro t ht N4 av
     try simp only at ht av ⊢
     have cp:IntKind.i64.wrap ((t:Int)+1)=(t:Int)+1:=Z5 (by omega) (by omega)
     by_cases cm:t<n4
     ·obtain⟨b2,b3⟩:=be t;have cg:=V _ b2 b3;have cs:=Zhy hw b2 b3;have b7:=Zs1 (tnN ls (itN ls x t)) (by omega)
      have w:=av (t+1);have ck:=Zwe ls t x;have cj:Z2 (U0 ls x (t+1))=Z2 (U0 ls x t)++[[.int .i64 (tnN ls (itN ls x t):Nat)]]:=by rw[ck]; simp[Z2]
      have cc:itN ls x (t+1)=bkN (tnN ls (itN ls x t)):=rfl;rw[cj,cc,Int.natCast_add,Int.natCast_one]at w;have bu:(Z2 (U0 ls x t)).length≤1048575:=by rw[L6,Zj6]; omega
      have a3:=fun q=>ah q (U0 ls x t)
      clear av V be;generalize itN ls x t=xt at *;generalize Z2 (U0 ls x t)=UU at *;simp[cm];refine U9 cg [(1,11),(2,17)] (by simp) (by simp[z,y,B]) (by simp) ?_
      rintro _ _ ⟨rfl,rfl⟩;simp[z,y,bu];refine U1 b7 ?_;simp[cp];refine w [(17,17),(18,18),(19,19),(20,20),(21,30)] _ _ (by omega) (by omega) ?_
      simp +contextual [z,y,B,aa,F,a3]
     ·have cl:t=n4:=by omega
      subst cl;clear av V be ac A a4 bl;have b1:IntKind.i64.wrap ((a:Int)+(n:Int))=((a+n:Nat):Int):=by rw[Z5 (by omega) (by omega)]; omega
      have bu:(U0 ls x t).length=t:=Zj6 ls t x;have ab:=Z3m front (U0 ls x t) a (a+n) (by omega) bs.2 (by omega) (by omega)
      have w:=hN (front.take a++U0 ls x t++front.drop (a+n),done++[l.i],D++[(2,a,n,l.o)],k);have a3:=fun q=>ah q (U0 ls x t)
      have G:=fun q=>ah q (front.take a++U0 ls x t++front.drop (a+n))
      have a2:D.length≤1048575:=by omega
      have bi:(D++[((2,a,n,l.o):Rw)]).map rwR=D.map rwR++[[.int .i64 2,.int .i64 (a:Int),.int .i64 (n:Int),.bool l.o]]:=by rw[List.map_append]; rfl
      simp only at w;rw[bi,bm]at w;generalize front.take a++U0 ls x t++front.drop (a+n)=ar at *;generalize a+n=an at *;generalize Z2 (U0 ls x t)=UU at *;by_cases hU:UU=[]
      ·subst hU;simp only[Ztk,Z15]at ab;simp[b1];refine Zo5 ab (by simp) [(1,17)] (by simp) (by simp[B,a3]) (by simp) rfl (by decide) (by simp) (by simp) (by simp) ?_
       simp[G];simp[YC,ap28,setE,he,a2];refine w [(17,37),(18,18),(19,51)] _ _ (by omega) ⟨ad,by omega,by simp; omega,by simpa using u⟩ ?_
       simp +contextual [z,y,G,aa,F]
      ·simp only[Zjh hU,Ziu hU]at ab;simp[b1,Zjh hU,Ziu hU];refine Zo5 ab (by simp) [(1,17),(2,21)] (by simp) (by simp[B,a3]) (by simp) rfl (by decide) (by simp) (by simp) (by simp) ?_
       simp[G];simp[YC,ap28,setE,he,a2];refine w [(17,37),(18,18),(19,51)] _ _ (by omega) ⟨ad,by omega,by simp; omega,by simpa using u⟩ ?_
       simp +contextual [z,y,G,aa,F]
end Go.Known
end
section
namespace Go.Known
open Go.Plain
theorem Ybu{f:Int}{ls:List Lt}(d:0≤f)(a:∀ l,l∈ls→okR f ls l=true)(t:(at' ls 0).k=1)(s:ls≠[]):Wv ls:=by
 obtain⟨_,_,g⟩:=ValR.ranks d a;have b:0<ls.length:=List.length_pos_iff.2 s;refine⟨?_,fun v e c=>(Ziv (a _ (S1 e))).resolve_right c,fun v e c=>?_⟩
 ·rw[← T4];exact List.length_pos_of_mem (mem_axis.2 ⟨b,by simp[isP,t]⟩)
 ·obtain⟨_,_,j,_,_,_,i,E,m,w,y,z,A,B⟩:=Zew g e (by simp[isX,c])
  obtain⟨_,_,h,_,_,_,n,o,p,q,C,D,_,r⟩:=Zew g i m;rw[B];have u:h=v:=(A h n p (by rw[q,w])).resolve_right o
  exact⟨i,by simpa[isX]using m,by rw[r,u],y,z⟩
theorem Ygx{f:Int}{ls:List Lt}(a:0≤f)(b:∀ l,l∈ls→okR f ls l=true){v:Nat}(e:v<ls.length)(d:(at' ls v).k=2):X9 ls v ls.length 0≠v∧(at' ls (X9 ls v ls.length 0)).i=(at' ls v).i:=by
 obtain⟨_,_,c⟩:=ValR.ranks a b;obtain⟨_,_,j,_,_,_,n,g,o,h,p,q,r,m⟩:=Zew c e (by simp[isX,d])
 rw[m];exact⟨g,h⟩
theorem Z61{e:Bool}{y x:List Lt}{s:Nat}{φ:Int→Int}(d:x.length=y.length)(k:s<y.length)(h:∀ p,p<y.length→at' x p=ap φ (at' y (mvt y.length e s p)))(q:Lt→Bool):Z3 q x=Z3 (fun a=>q (ap φ a)) y:=by
 have hm:∀ l:List Lt,Z3 q (l.map (ap φ))=Z3 (fun a=>q (ap φ a)) l:=fun l=>Zh2 q (ap φ) l
 cases e with
 | true=>
  have g:x=(W6 s y).map (ap φ):=by
   refine Zgn (by rw[List.length_map,D1,d]) fun q b=>?_
   rw[d]at b;rw[h q b,atm (by rw[D1]; exact b),Zbl k b]
  rw[g,hm,Zdv]
 | false=>
  have g:x=(W6 (y.length - 1 - s) y.reverse).map (ap φ):=by
   refine Zgn (by rw[List.length_map,D1,List.length_reverse,d]) fun q b=>?_
   rw[d]at b;have f:y.length - 1 - s<y.reverse.length:=by rw[List.length_reverse]; omega
   have c:q<y.reverse.length:=by rw[List.length_reverse]; exact b
   have i:y.length - 1 - mvt y.length true (y.length - 1 - s) q=mvt y.length false s q:=by
    unfold mvt;simp only[bF,if_false,if_true];split<;>split<;>omega
   rw[h q b,atm (by rw[D1]; exact c),Zbl f c,List.length_reverse,Zgl (M3 (by omega) b),i]
  have j:∀ p:Lt→Bool,Z3 p y.reverse=Z3 p y:=fun p=>by unfold Z3; rw[List.filter_reverse,List.length_reverse]
  rw[g,hm,Zdv,j]
theorem Z5u{n s v:Nat}{e:Bool}(b:s<n)(a:v<n):mvt n e s ((v+n - 1) % n)=if e then (mvt n e s v+n - 1) % n else (mvt n e s v+1) % n:=by
 have:=M3 (e:=e) b a;rw[Zhh a,Zhh this,Zh8 this];unfold mvt;cases e<;>simp only[bF,if_false,if_true]<;>(repeat' split)<;>omega
theorem Z82{n s v:Nat}{e:Bool}(b:s<n)(a:v<n):mvt n e s ((v+1) % n)=if e then (mvt n e s v+1) % n else (mvt n e s v+n - 1) % n:=by
 have:=M3 (e:=e) b a;rw[Zh8 a,Zhh this,Zh8 this];unfold mvt;cases e<;>simp only[bF,if_false,if_true]<;>(repeat' split)<;>omega
def NmOk(x:List Lt):Prop:=∀ a,a∈x→a.k=2→1≤a.i∧a.i≤(Y9 x / 2:Nat)
section
variable {f:Int} {e:Bool} {y x:List Lt}
theorem Zi9(h:De e y x):Y9 x=Y9 y:=Znt (fun φ l=>by unfold isX; rw[ap_k]) h
theorem Zzr(h:De e y x):Z0 x=Z0 y:=Znt (fun φ l=>Zia φ l) h
theorem Zvi(I:ValR f y)(h:De e y x)(H:NmOk x):∀ l,l∈x→okR f x l=true:=by
 have z:=Zs4 h;have F:=Zi9 h;obtain⟨D,s,φ,E,hi,C⟩:=h;have w:=Z61 D E (fun p n=>(C p n).1)
 intro l hm;obtain⟨p,n,rfl⟩:=Zcd hm;rw[D]at n;have G:=M3 (e:=e) E n;have g:=S1 G;have b:=H _ hm;rw[(C p n).1]at b ⊢;generalize at' y (mvt y.length e s p)=a at *;have m:=I.okr _ g;rcases Ziv m with d|d
 ·obtain⟨t,u,v,c4,A,q,r,B⟩:=(A7 d).1 m;rw[D3 (by omega),A7 d]
  refine⟨t,u,v,c4,A,q,by rw[z]; exact r,?_⟩
  unfold same at B ⊢;rw[w,← B];apply R3;intro o _;by_cases c:o.k=2
  ·rw[O8 c]
  ·rw[D3 c]
 ·obtain⟨t,u,v,c4,A,q,r⟩:=(Za6 d).1 m;rw[ap_k]at b;have b:=b d;rw[O8 d]at b ⊢;refine(Za6 (show ({ a with i:=φ a.i }:Lt).k=2 from d)).2 ⟨t,u,v,b.1,b.2,?_,?_⟩
  ·unfold Zdh at q ⊢;rw[w,← q];apply R3;intro o j;by_cases c:o.k=2
   ·rw[O8 c];have:(φ o.i == φ a.i)=(o.i == a.i):=by
     rw[Bool.eq_iff_iff];simp only[beq_iff_eq];exact⟨hi _ j _ g c d,fun e=>by rw[e]⟩
    simp only[this]
   ·rw[D3 c];have:(o.k == a.k)=false:=by rw[d]; simpa using c
    simp[this]
  ·unfold K1 at r ⊢;rw[w,← r];apply R3;intro o j;by_cases c:o.k=2
   ·rw[O8 c];have:(φ o.i == φ a.i)=(o.i == a.i):=by
     rw[Bool.eq_iff_iff];simp only[beq_iff_eq];exact⟨hi _ j _ g c d,fun e=>by rw[e]⟩
    unfold isX;simp only[this]
   ·rw[D3 c];have:isX o=false:=by unfold isX; simpa using c
    simp[this]
theorem Zok(u:ValR f y)(h:De e y x)(J:(at' x 0).k=1)(L:NmOk x):∃ ρ σ φ,Cj x y e ρ σ∧InjI φ y ∧ ∀ v,v<x.length→at' x v=ap φ (at' y (ρ v)):=by
 have z:=Zvi u h L;have I:=Zi9 h;have A:=Zzr h;have B:∀ l,pos x l=pos y l:=fun l=>by
  unfold pos
  congr 1
  exact Znt (p:=fun o=>isP o&&decide (o.g<l.g)) (fun φ o=>by
   by_cases H:o.k=2
   ·rw[O8 H]; rfl
   ·rw[D3 H]) h
 have C:y≠[]:=by
  obtain⟨_,s,_,q,_⟩:=h;intro c;rw[c]at q;exact absurd q (Nat.not_lt_zero _)
 have F:x≠[]:=by
  intro c;have:=h.1;rw[c]at this;exact C (List.length_eq_zero_iff.1 this.symm)
 have wx:=Ybu u.lo z J F;obtain⟨O,P,_⟩:=ValR.ranks u.lo z;obtain⟨M,N,_⟩:=ValR.ranks u.lo u.okr;obtain⟨j,s,φ,q,hi,w⟩:=h;have m:∀ v,v<x.length→mvt y.length e s v<y.length:=fun v a=>M3 q (by rw[← j]; exact a)
 have n:∀ v,v<x.length→(at' y (mvt y.length e s v)).k=(at' x v).k:=fun v a=>by
  rw[(w v (by rw[← j]; exact a)).1,ap_k]
 refine⟨mvt y.length e s,mvt y.length e (ivt y.length e s),φ,⟨wx,u.wv C,j.symm,A.symm,fun v a=>by rw[j]; exact m v a,fun v a=>?_,fun v a=>?_,fun v a=>?_,fun v a=>?_,fun v a=>?_,n,fun v a r=>?_,fun v a r=>?_,fun v a r=>?_,fun v a r=>?_⟩,hi,fun v a=>(w v (by rw[← j]; exact a)).1⟩
 ·rw[j]at a ⊢;exact M3 (Zfm q) a
 ·rw[j]at a;exact Zp3 q a
 ·rw[j]at a;exact Zj1 q a
 ·rw[j]at a ⊢;exact Z5u q a
 ·rw[j]at a ⊢;exact Z82 q a
 ·obtain⟨w1,w2,_,_,_⟩:=wx.oth v a r;obtain⟨n1,n2⟩:=Ygx u.lo z a r;have K:=w _ (by rw[← j]; exact w1)
  have E:=w v (by rw[← j]; exact a)
  have t:=n _ w1;have d:=n v a;rw[w2]at t;rw[r]at d;have D:(at' y (mvt y.length e s (X9 x v x.length 0))).i=(at' y (mvt y.length e s v)).i:=by
   rw[K.1,E.1,O8 t,O8 d]at n2;exact hi _ (S1 (m _ w1)) _ (S1 (m v a)) t d n2
  rcases u.uniq (m v a) d (m _ w1) t D with c|c
  ·exfalso;apply n1;have G:=Zp3 (e:=e) q (show X9 x v x.length 0<y.length by rw[← j]; exact w1)
   rw[c,Zp3 q (by rw[← j]; exact a)]at G
   exact G.symm
  ·rw[j]at c ⊢;exact c.symm
 ·have d:=n v a;rw[r]at d;unfold smN;rw[(w v (by rw[← j]; exact a)).1,O8 d]
 ·have:=(w v (by rw[← j]; exact a)).2 (by simp[isP,r])
  rw[this];generalize down y (mvt y.length e s v)=b;cases e<;>cases b<;>rfl
 ·have d:=n v a;rw[r]at d;rw[Zd1 N M (m v a) d,Zd1 P O a r,B,(w v (by rw[← j]; exact a)).1,D3 (by omega)]
theorem ValR.de(c:ValR f y)(h:De e y x)(i:(at' x 0).k=1)(l:NmOk x):ValR f x:=by
 have g:=Zvi c h l;have b:=Zi9 h;have a:=Zzr h;have j:=h.1;obtain⟨ρ,σ,φ,m,_,_⟩:=Zok c h i l;have d:=Ycq m;have:=c.cyc;rw[← j,← a,d]at this;exact⟨by rw[j]; exact c.len,by rw[b]; exact c.vis,c.lo,c.hi,i,by rw[a]; exact c.evn,g,by rw[this,b]⟩
theorem Z0i(B:ValR f y)(h:De e y x)(t:(at' x 0).k=1)(C:NmOk x):X2 4 x=X2 4 y:=by
 have D:=B.de h t C;have s:=Zi9 h;have A:x≠[]:=fun c=>by rw[c]at t; cases t
 have wx:=D.wv A;obtain⟨ρ,σ,φ,l,hi,G⟩:=Zok B h t C;have q:∀ (z:List Lt),ValR f z → ∀ a,a∈z→a.k=2→a.i≠0:=fun z H a hm g=>by
  have:=(Za6 g).1 (H.okr a hm);omega
 have n:∀ d,d<2*x.length→ldN x d=ap φ (ldN y (dl x.length e ρ d)):=fun d b=>by
  rw[Zxw l b];exact G _ (Zba b)
 have o:∀ d,d<2*x.length→ldN y (dl x.length e ρ d)∈y:=fun d b=>by
  rw[Zxw l b];exact S1 (by rw[l.len]; exact l.lt _ (Zba b))
 have j:∀ d,d<2*x.length→(ldN y (dl x.length e ρ d)).k=(ldN x d).k:=fun d b=>by rw[n d b,ap_k]
 have F:Sim x y (dl x.length e ρ) φ false:=by
  refine⟨fun d b=>Z0m l b,fun d u b m=>Ydz l b m,fun d b=>Z5f l b,fun d b _=>?_,fun d b g=>?_,j,fun d b g=>?_,fun d b g=>?_,fun d b g=>q x D _ (Zlr b) g,fun d b g=>q y B _ (o d b) (by rw[j d b]; exact g),fun d u b m g w e=>hi _ (o d b) _ (o u m) (by rw[j d b]; exact g) (by rw[j u m]; exact w) e⟩
  ·exact Z1c l (by omega)
  ·have:=Zhy wx b g;exact⟨this.1,this.2.2⟩
  ·have p:=j d b;rw[g]at p;rw[n d b,O8 p]
  ·have p:=j d b;rw[g]at p;rw[n d b,O8 p];simp
 have E:=Z6u F 4 (fun d b=>(Zmu x wx.kin).lt d b) (Yfb l) s.symm
 rw[E];have v:∀ r:Rw,flR false r=r:=fun r=>by
  unfold flR;split
  ·rw[Bool.bne_false]
  ·rfl
 conv=>lhs; rw[← List.map_id (X2 4 x)]
 exact List.map_congr_left fun r _=>(v r).symm
end
end Go.Known
end
