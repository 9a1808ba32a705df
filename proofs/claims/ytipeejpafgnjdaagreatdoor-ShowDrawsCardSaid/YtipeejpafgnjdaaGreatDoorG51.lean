/- Part 51 of the proof: Yn, Yp. -/
import Derived.Test.YtipeejpafgnjdaaGreatDoorG50
set_option linter.all false
section
namespace Go.Known
open Go Go.AE Go.Proofs
open Go.Plain
attribute [local simp] Zwg Zos Z29 Zsg Zrt Z2z preN preC Zk5 Zso
theorem Z2o {P:Program} {y:Yd} {f:FuncId} {args:List AVal} {m:SMem} {K K':AVal→SMem→Prop} (h:CtrY P y f args m K) (hk:∀ r sm,K r sm→K' r sm):CtrY P y f args m K':=fun l r a b c d e=>
 (h l r a b c d e).mono fun v m'' hh=>by obtain⟨m',e,h1⟩:=hh; exact⟨m',e,hk v m' h1⟩
theorem cAbove (f:Int) (ls:List Lt) (hv:ValR f ls) (h0:ls≠[]) :
 Ctr Tryz.prog 51 [cV f ls] ⟨[],1⟩ fun r m=>r=slV 1 ((Zbs 4 ls).map rwR)∧m=⟨blV 1 4 ((Zbs 4 ls).map rwR) [],2⟩:=by
 refine Z6w hm Tryz.func51 cr28 rfl rfl fun K hK=>?_
 have hwv:=cWoven f ls hv h0
 have hll:(ls.map rowL).length=ls.length:=List.length_map ..
 have hrr:∀ q,Zak q (ls.map rowL)=ls.map rowL:=fun q=>Zad q _ (Zac ls)
 have hren:=Zab
 unfold wvB cV at *
 have hrws:=fun e he=>cRowsY e he f ls hv h0
 unfold wvB at hrws
 generalize ls.map rowL=rows at *
 have hrW:∀ q,Zak q ((Zbs 4 ls).map rwR)=(Zbs 4 ls).map rwR:=fun q=>Zad q _ (Zb3 _)
 simp[hll,h0]
 refine Zb2 hwv [] (by simp[hrr]) (by simp) (by simp) ?_
 rintro _ _ ⟨rfl,rfl⟩
 simp[hrr,hren]
 refine Zb2 (cRowsF 1 rfl) [(1,11)] (by simp) (by simp) (by simp) ?_
 rintro _ _ ⟨rfl,rfl⟩
 simp
 refine⟨_,_,rfl,Z2o (hrws _ rfl) fun r sm h=>?_⟩
 subst h
 generalize (Zbs 4 ls).map rwR=RR at *
 simp
 exact endK (hK _ _ ⟨rfl,rfl⟩) [(1,19)] (by simp +contextual [hrW])
end Go.Known
end
section
namespace Go.Known
open Go Go.AE Go.Proofs
open Go.Plain
attribute [local simp] Zwg Zos Z29 Zsg Zrt Z2z preN preC Zk5 Zso
theorem Zjb {get:Nat→Option ABlk} {n:Nat} (l:List Rw):∀ row,row∈l.map rwR → ∀ x,x∈row→Zah get (n+1) x=some x:=by
 intro row hr x hx
 obtain⟨i,_,rfl⟩:=List.mem_map.1 hr
 simp only[rwR,List.mem_cons,List.not_mem_nil,or_false]at hx
 rcases hx with rfl|rfl|rfl|rfl<;>rfl
theorem Z8x (f:Int):PCall Tryz.prog 51 [cV f []] .nilSl:=by
 refine Ziy (k:=4) (by simp[Zag,AVal.closed,Zal]) rfl (Ctr.mono (K:=fun r m=>r=.nilSl∧m=⟨[],1⟩) ?_ fun r m' h=>by
  obtain⟨rfl,rfl⟩:=h
  rfl)
 refine Z6w hm Tryz.func51 cr28 rfl rfl fun K hK=>?_
 simp
 exact endK (hK _ _ ⟨rfl,rfl⟩) [] (by simp)
theorem Z1h (f:Int) (ls:List Lt) (he:errC f ls=0):PCall Tryz.prog 51 [cV f ls] (imV ((Zbs 4 ls).map rwR)):=by
 by_cases h0:ls=[]
 ·subst h0
  exact Z8x f
 ·have hv:=Zg2 he h0
  refine Ziy (k:=4) (by simp[Zag,AVal.closed,Zac]) (Za8 (Zb3 _)) (Ctr.mono (cAbove f ls hv h0) fun r m' h=>?_)
  obtain⟨rfl,rfl⟩:=h
  exact Zsv (n:=2) (b:=1) (k:=4) (by simp) (Zjb _)
def gtN (F:Nat) (ls:List Lt) (i:Nat):List Nat:=(List.range (F+1)).map fun g:Nat=>inG g (ls.take i)
theorem Zgr (F:Nat) (ls:List Lt) (i:Nat):(gtN F ls i).length=F+1:=by simp[gtN]
theorem Zoh {F g:Nat} (ls:List Lt) (i:Nat) (h:g≤F):(gtN F ls i)[g]? = some (inG g (ls.take i)):=by
 unfold gtN
 rw[List.getElem?_map,List.getElem?_range (by omega)]
 rfl
theorem Z55 {F:Nat} {ls:List Lt} {i:Nat} (h:i<ls.length) {g:Nat} (hg:(at' ls i).g=g) (hgF:g≤F) (hp:isP (at' ls i)=true):gtN F ls (i+1)=(gtN F ls i).set g (inG g (ls.take i)+1):=by
 apply List.ext_getElem?
 intro j
 by_cases hj:j≤F
 ·rw[Zoh _ _ hj,List.getElem?_set]
  have hst:inG j (ls.take (i+1))=inG j (ls.take i)+if (isP (at' ls i)&&(at' ls i).g == (j:Int))=true then 1 else 0:=Zcj h
  rw[hst,hp,hg]
  by_cases e:g=j
  ·subst e
   simp only[Bool.true_and,beq_self_eq_true,if_true]
   rw[if_pos (by rw[Zgr]; omega)]
  ·rw[if_neg e,Zoh _ _ hj]
   have:¬((g:Int)=(j:Int)):=by omega
   simp[this]
 ·rw[List.getElem?_eq_none (by rw[Zgr]; omega),List.getElem?_eq_none (by rw[List.length_set,Zgr]; omega)]
theorem Z42 {F:Nat} {ls:List Lt} {i:Nat} (h:i<ls.length) (hp:isP (at' ls i)=false):gtN F ls (i+1)=gtN F ls i:=by
 unfold gtN inG
 apply List.map_congr_left
 intro g _
 rw[Zcj h,hp]
 simp
abbrev pcV (F:Nat) (G:List Nat) (A B:List (List AVal)):AVal:=.agg [.int .i64 (F:Int),.imm (nums G),imV A,imV B]
def picV (F:Nat) (ls:List Lt):AVal:=pcV F (gtN F ls ls.length) ((Zbs 4 ls).map rwR) ((Zbs 4 (tuN ls)).map rwR)
theorem Zmk (F:Nat) (ls:List Lt):(picV F ls).closed=true:=by simp[picV,pcV,AVal.closed,Zag,Za0,Za8,Zb3]
theorem fz_pic {get:Nat→Option ABlk} {b:Nat} (F:Nat) (G:List Nat) (A B:List Rw) (hG:G≠[]) (hb:get b=some (.cells 1 (nums G))) (e:Int) :
 Zah get 6 (.tuple [.agg [.int .i64 (F:Int),.sl b 0 G.length,imV (A.map rwR),imV (B.map rwR)],.int .i64 e])=some (.tuple [pcV F G (A.map rwR) (B.map rwR),.int .i64 e]):=by
 have h1:Zah get 4 (.sl b 0 G.length)=some (.imm (nums G)):=by
  have:=Zfq (n:=3) hb (Zhl (get:=get) (n:=2) G)
  rwa[Zay]at this
 have h2:=Zsi (get:=get) (n:=2) (Zjb (get:=get) (n:=2) A)
 have h3:=Zsi (get:=get) (n:=2) (Zjb (get:=get) (n:=2) B)
 rw[Zah]
 simp only[mapO]
 rw[Zah]
 simp only[mapO]
 rw[h1,h2,h3]
 rfl
theorem Z7k:tuN []=[]:=rfl
set_option maxRecDepth 100000 in
set_option maxHeartbeats 4000000 in
theorem cDraw (F:Nat) (ls:List Lt) (he:errC F ls=0):PCall Tryz.prog 14 [cV F ls] (.tuple [picV F ls,.int .i64 0]):=by
 have hT:PCall Tryz.prog 28 [cV F ls] (.tuple [cV F (tuN ls),.int .i64 0]):=by
  by_cases h0:ls=[]
  ·subst h0
   exact c27e F he
  ·exact c27v F ls (Zg2 he h0) h0
 have heT:errC F (tuN ls)=0:=by
  by_cases h0:ls=[]
  ·subst h0; exact he
  ·exact((Zg2 he h0).turn h0).1.to
 have hA:=Z1h F ls he
 have hB:=Z1h F (tuN ls) heT
 have hF40:(F:Int)≤40:=(Zv2 he).2
 have hl:ls.length≤400:=by
  by_cases h0:ls=[]
  ·subst h0; simp
  ·exact(Zg2 he h0).len
 have hpass:∀ i,i<ls.length→(at' ls i).k=1→0≤(at' ls i).g∧(at' ls i).g≤F:=fun i hi hk=>by
  have h0:ls≠[]:=fun e=>by subst e; simp at hi
  have hv:=Zg2 he h0
  obtain⟨_,_,_,c,d,_⟩:=(Zl9 hk).1 (hv.okr _ (Zcq hi))
  exact⟨c,d⟩
 refine Zd1 hm 6 Tryz.func14 cf6 rfl rfl (by simp[Zag,AVal.closed,Zac]) (by simp[AVal.closed,Zag,Zmk]) fun K hK=>?_
 have hgne:gtN F ls ls.length≠[]:=fun e=>by have:=Zgr F ls ls.length; rw[e]at this; simp at this
 have hKv:=hK (.tuple [.agg [.int .i64 (F:Int),.sl 1 0 (gtN F ls ls.length).length,imV ((Zbs 4 ls).map rwR),imV ((Zbs 4 (tuN ls)).map rwR)],.int .i64 0]) ⟨[(1,.cells 1 (nums (gtN F ls ls.length)))],2⟩ (fz_pic (b:=1) F _ _ _ hgne rfl 0)
 clear hK
 have hll:(ls.map rowL).length=ls.length:=List.length_map ..
 have hrr:∀ q,Zak q (ls.map rowL)=ls.map rowL:=fun q=>Zad q _ (Zac ls)
 have hrow:=fun i hi=>Zfu ls (i:=i) hi
 have hcI:=Zdl ((Zbs 4 ls).map rwR)
 have hoI:=Zha ((Zbs 4 ls).map rwR)
 have hcJ:=Zdl ((Zbs 4 (tuN ls)).map rwR)
 have hoJ:=Zha ((Zbs 4 (tuN ls)).map rwR)
 have hrI:∀ q,(imV ((Zbs 4 ls).map rwR)).ren q=imV ((Zbs 4 ls).map rwR):=fun q=>AVal.ren_closed q _ (Za8 (Zb3 _))
 have hrJ:∀ q,(imV ((Zbs 4 (tuN ls)).map rwR)).ren q=imV ((Zbs 4 (tuN ls)).map rwR):=fun q=>AVal.ren_closed q _ (Za8 (Zb3 _))
 have hw1:IntKind.i64.wrap ((F:Int)+1)=((F+1:Nat):Int):=by rw[Zae (by omega) (by omega)]; omega
 unfold cV at *
 generalize ls.map rowL=rows at *
 generalize (tuN ls).map rowL=rowsT at *
 generalize imV ((Zbs 4 ls).map rwR)=IA at *
 generalize imV ((Zbs 4 (tuN ls)).map rwR)=IB at *
 unfold rowL at hrow
 have hb:F+1≤1048576:=by omega
 simp
 refine Zbc hT ?_
 simp[hw1,hb,-Int.natCast_add]
 refine Zbm hA ?_
 simp
 refine Zbm hB ?_
 simp[hcI,hoI,hcJ,hoJ]
 have hren:=Zab
 have hg0:nums (gtN F ls 0)=List.replicate (F+1) [.int .i64 0]:=by
  apply List.ext_getElem?
  intro j
  by_cases hj:j≤F
  ·rw[Zco (Zoh ls 0 hj),List.getElem?_replicate,if_pos (by omega)]
   rfl
  ·rw[List.getElem?_eq_none (by rw[Zay,Zgr]; omega),List.getElem?_eq_none (by rw[List.length_replicate]; omega)]
 have hrep:∀ q,Zak q (List.replicate (F+1) [AVal.int .i64 0])=List.replicate (F+1) [AVal.int .i64 0]:=fun q=>by rw[← hg0,hren]
 rw[hll]
 refine Zbg (α:=Nat) (fun i=>[(32,.int .i64 i),(31,.int .i64 ls.length),(30,.imm rows),(6,.ptr 3 0 0),(2,.ptr 2 0 0)])
  (fun i=>⟨[(2,.cells 4 [[.int .i64 0,.nilSl,.nilSl,.nilSl]]),(3,.cells 4 [[.int .i64 (F:Int),.sl 4 0 (F+1),IA,IB]]),(4,.cells 1 (nums (gtN F ls i)))],5⟩)
  (fun i=>ls.length - i) (fun i=>i≤ls.length) 0 [(2,2),(3,25),(4,19)] (by simp[hrr,hrI,hrJ,hg0,hrep]) (by simp) ?_
 intro i hi N hN
 try simp only at hi hN ⊢
 have hw2:IntKind.i64.wrap ((i:Int)+1)=(i:Int)+1:=Zae (by omega) (by omega)
 have hnl:(nums (gtN F ls i)).length=F+1:=by rw[Zay,Zgr]
 by_cases hlt:i<ls.length
 ·have hr:=hrow i hlt
  obtain⟨_,hr2⟩:=getE hr
  have hN':=hN (i+1)
  rw[Int.natCast_add,Int.natCast_one]at hN'
  by_cases hk:(at' ls i).k=1
  ·have hp:isP (at' ls i)=true:=by simp[isP,hk]
   obtain⟨c,d⟩:=hpass i hlt hk
   obtain⟨g,hg⟩:∃ g:Nat,(at' ls i).g=g:=⟨(at' ls i).g.toNat,by omega⟩
   have hst:=Z55 (F:=F) hlt hg (by omega) hp
   have hgg:=Zco (Zoh (F:=F) (g:=g) ls i (by omega))
   obtain⟨hgl,hgg2⟩:=getE hgg
   have hcb:inG g (ls.take i)≤400:=Nat.le_trans Za4 (by rw[List.length_take]; omega)
   have hset:=Zhq (gtN F ls i) g (inG g (ls.take i)+1)
   rw[hst]at hN'
   have hrU:=fun q=>hren q (gtN F ls i)
   have hrU2:=fun q=>hren q ((gtN F ls i).set g (inG g (ls.take i)+1))
   have hgF:g<F+1:=by omega
   rw[hg]at hr hr2
   generalize (gtN F ls i).set g (inG g (ls.take i)+1)=G2 at *
   generalize inG g (ls.take i)=c1 at *
   generalize gtN F ls i=G1 at *
   generalize at' ls i=l at *
   have hw3:IntKind.i64.wrap ((c1:Int)+1)=((c1+1:Nat):Int):=by rw[Zae (by omega) (by omega)]; omega
   generalize c1+1=c2 at *
   simp[hlt,hr,hr2,hk,hgg,hgg2,hnl,hgF,hw2,hw3,hset]
   refine hN' [(2,2),(3,3),(4,4)] _ _ (by omega) (by omega) ?_
   simp +contextual [hrr,hrI,hrJ,hrU2]
  ·have hp:isP (at' ls i)=false:=by simp[isP,hk]
   rw[Z42 hlt hp]at hN'
   have hrU:=fun q=>hren q (gtN F ls i)
   generalize at' ls i=l at *
   simp[hlt,hr,hr2,hk,hw2]
   refine hN' [(2,2),(3,3),(4,4)] _ _ (by omega) (by omega) ?_
   simp +contextual [hrr,hrI,hrJ,hrU]
 ·have hie:i=ls.length:=by omega
  subst hie
  have hrU:=fun q=>hren q (gtN F ls ls.length)
  rw[Zgr]at hKv
  simp[hcI,hoI,hcJ,hoJ]
  exact endK hKv [(1,4)] (by simp[hrI,hrJ,hrU])
end Go.Known
end
