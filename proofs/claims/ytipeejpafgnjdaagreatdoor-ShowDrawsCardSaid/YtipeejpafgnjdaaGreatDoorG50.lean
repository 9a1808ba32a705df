/- Part 50 of the proof: Ym. -/
import Derived.Test.YtipeejpafgnjdaaGreatDoorG46
import Derived.Test.YtipeejpafgnjdaaGreatDoorG49
set_option linter.all false
namespace Go.Known
open Go Go.AE Go.Proofs
open Go.Plain
attribute [local simp] Zwg Zos Z29 Zsg Zrt Z2z preN preC Zk5 Zso Z64 Z2x Zza wH_seq Z4d Z4b Z3s Z71 wH_ret Z3v Z23 Z37 Z8q Z8s Z5f
def rwR (r:Rw):List AVal:=[.int .i64 (r.1:Nat),.int .i64 (r.2.1:Nat),.int .i64 (r.2.2.1:Nat),.bool r.2.2.2]
def dnE (done:List Int):List (Int×Bool):=done.map fun i=>(i,true)
theorem Zb3:∀ (l:List Rw),Zal (l.map rwR)=true
 | []=>rfl
 | r :: l=>by
  have:=Zb3 l
  simp only[List.map_cons,Zal,rwR,Zag,AVal.closed,Bool.and_true,Bool.true_and]at this ⊢
  exact this
def itN (ls:List Lt) (x:Nat):Nat→Nat
 | 0=>x
 | t+1=>rotN ls (itN ls x t)
theorem Z2m (ls:List Lt) (x:Nat):∀ t,itN ls (rotN ls x) t=itN ls x (t+1)
 | 0=>rfl
 | t+1=>by simp only[itN,Z2m ls x t]
theorem Zpc (ls:List Lt):∀ t x,outN ls x (t+1)=outN ls x t++[tnN ls (itN ls x t)]
 | 0,x=>rfl
 | t+1,x=>by
  have:=Zpc ls t (bkN (tnN ls x))
  rw[outN,this,outN]
  have e:itN ls (bkN (tnN ls x)) t=itN ls x (t+1):=Z2m ls x t
  rw[e]
  rfl
theorem Z3h {ls:List Lt} (hw:Wv ls) {x:Nat} (hx:x<2*ls.length) (hk:(ldN ls x).k=2):∀ t,itN ls x t<2*ls.length∧(ldN ls (itN ls x t)).k=2
 | 0=>⟨hx,hk⟩
 | t+1=>by
  obtain⟨h1,h2⟩:=Z3h hw hx hk t
  exact(Zup hw h1 h2).2
theorem Z6l (ls:List Lt) (done:List Int) (front:List Nat) {i:Nat} (hi:i<front.length):runN 4 ls done front i≤4∧i+runN 4 ls done front i≤front.length:=by
 unfold runN
 split
 ·omega
 ·have:=Z7q ls (crN ls done (front.getD i 0)) front _ (i+1) rfl
  omega
def atV (b:Nat×Nat):Int:=if b.2=0 then -1 else b.1
theorem Zzw (id:Int):∀ done:List Int,(id∉done→fndG id (dnE done)=none)∧(id∈done → ∃ p,fndG id (dnE done)=some (p,true))
 | []=>⟨fun _=>rfl,fun h=>by simp at h⟩
 | d :: r=>by
  obtain⟨h1,h2⟩:=Zzw id r
  have e:dnE (d :: r)=(d,true) :: dnE r:=rfl
  rw[e]
  simp only[fndG]
  by_cases he:id=d
  ·rw[if_pos he]
   exact⟨fun h=>absurd (by rw[he]; exact List.mem_cons_self ..) h,fun _=>⟨0,rfl⟩⟩
  ·rw[if_neg he]
   refine⟨fun h=>?_,fun h=>?_⟩
   ·rw[h1 (fun hm=>h (List.mem_cons_of_mem _ hm))]
   ·obtain⟨p,hp⟩:=h2 ((List.mem_cons.1 h).resolve_left he)
    exact⟨p+1,by rw[hp]⟩
set_option maxRecDepth 100000 in
set_option maxHeartbeats 16000000 in
theorem cRowsY (e:Env) (he:e.get 3=.ptr 3 0 0) (f:Int) (ls:List Lt) (hv:ValR f ls) (h0:ls≠[]) :
 CtrY Tryz.prog ⟨15,19,[13],e,ap28.asn,ap28.bd,[152,156]⟩ 150 [.yld 15,.ptr 14 0 0]
  ⟨[(14,.cells 1 [[.ptr 11 0 0]]),(11,wvB ls (othN ls ls.length) (.sl 12 0 (frt0 ls).length)),(12,.cells 1 (nums (frt0 ls))),(3,.cells 1 [[.nilSl]]),(1,.cells 2 [[.int .i64 f,.imm (ls.map rowL)]])],16⟩
  fun _ m=>m=⟨(3,.cells 1 [[slV 19 ((Zbs 4 ls).map rwR)]]) :: blV 19 4 ((Zbs 4 ls).map rwR) [],20⟩:=by
 refine ctrY_Z hm Tryz.func150 cf96 rfl rfl fun K hK=>?_
 have hw:=hv.wv h0
 have h:ls.length≤400:=hv.len
 have hll:(ls.map rowL).length=ls.length:=List.length_map ..
 have hrr:∀ q,Zak q (ls.map rowL)=ls.map rowL:=fun q=>Zad q _ (Zac ls)
 have hrO:∀ q,Zak q (nums (othN ls ls.length))=nums (othN ls ls.length):=fun q=>Zab q _
 have hend0:=fun k d hd=>cEnd ls (othN ls ls.length) k d (by omega) hd
 have hO2:∀ v,v<ls.length→(at' ls v).k=2→(othN ls ls.length)[v]? = some (otN ls v):=fun v h1 h2=>Zxl hw (fun v x a b c d e=>hv.uniq a b c d e) (fun v a b=>hv.same_i a b) ls.length (Nat.le_refl _) v h1 h2 (hw.oth v h1 h2).1
 have hrun0:=fun front j hj hfl hlt=>cRun ls (othN ls ls.length) front j (by omega) hw hO2 hj hfl hlt
 have hleft0:=fun k d hd hk=>cLeft ls (othN ls ls.length) k d (by omega) hw hO2 hd hk
 have hrow:=fun i hi=>Zfu ls (i:=i) hi
 unfold wvB at *
 clear hO2
 generalize ls.map rowL=rows at *
 generalize nums (othN ls ls.length)=OO at *
 unfold rowL at hrow
 have hrn:∀ q (l:List Nat),Zak q (nums l)=nums l:=fun q l=>Zab q l
 have hrM:∀ q (E:List (Int×Bool)),renM q (mkG .bool 0 E)=mkG .bool 0 E:=fun q E=>Zvx q (fun _=>rfl) 0 E
 have hrW:∀ q (l:List Rw),Zak q (l.map rwR)=l.map rwR:=fun q l=>Zad q _ (Zb3 l)
 have hF0:=Zxh ls hw.kin
 have hmu0:muN ls (frt0 ls) []≤1600:=by
  unfold muN frt0
  have h1:cntP (fun l=>isX l && !([]:List Int).contains l.i) ls≤ls.length:=Za4
  have h2:Zaa ls≤ls.length:=Za4
  rw[List.length_map,Zas]
  omega
 have hK':∀ m',SMem.next m'≥16→K (.tuple []) m'→True:=fun _ _ _=>trivial
 clear hK'
 simp
 refine Zr0 (α:=List Nat×List Int×List Rw×Nat) (fun a=>[(0,.yld 15),(1,.ptr 14 0 0),(3,.map 18)])
  (fun a=>⟨(14,.cells 1 [[.ptr 11 0 0]]) :: (11,.cells 3 [[.imm rows,.imm OO,.sl 17 0 a.1.length]]) :: (17,.cells 1 (nums a.1)) :: (18,.map (mkG .bool 0 (dnE a.2.1)) a.2.1.length) :: (3,.cells 1 [[slV 19 (a.2.2.1.map rwR)]]) :: blV 19 4 (a.2.2.1.map rwR) [],20⟩)
  (fun a=>a.2.2.2) (fun a=>Frt ls a.1 a.2.1∧muN ls a.1 a.2.1<a.2.2.2∧a.2.2.1.length+a.2.2.2≤2000∧a.2.2.1++drF 4 ls a.2.2.2 a.1 a.2.1=Zbs 4 ls)
  (frt0 ls,[],[],muN ls (frt0 ls) []+1) [(17,12),(18,16)] (by simp[hrr,hrO,hrn,dnE,mkG,renM]) ⟨hF0,by simp,by simp; omega,rfl⟩ ?_
 rintro⟨front,done,out,k⟩ ⟨hF,hmu,hkb,hsum⟩ N hN
 simp only at hF hmu hkb hsum hN ⊢
 obtain⟨k,rfl⟩:∃ k',k=k'+1:=⟨k - 1,by omega⟩
 rw[drF]at hsum
 have hfl:front.length≤2000:=by
  have:front.length≤muN ls front done:=Nat.le_add_right _ _
  omega
 by_cases hne:front=[]
 ·rw[if_pos hne,List.append_nil]at hsum
  subst hsum
  subst hne
  simp
  exact endK (hK (.tuple []) _ rfl) [] (by simp +contextual [hrW])
 ·rw[if_neg hne]at hsum
  have hpos:0<front.length:=List.length_pos_iff.2 hne
  have hpos':(0:Int)<(front.length:Int):=by omega
  have hnl:(nums front).length=front.length:=Zay front
  have hgn:=fun j (hj:j<front.length)=>Ziw hj
  have hmem:=fun j (hj:j<front.length)=>hF.lt _ (Zgk hj)
  have hrF:=fun q=>hrn q front
  have hrD:=fun q=>hrM q (dnE done)
  have hrX:=fun q=>hrW q out
  simp[hpos,hpos',hne]
  refine Zr0 (α:=Nat) (fun i=>[(4,.int .i64 i),(0,.yld 15),(1,.ptr 14 0 0),(3,.map 18)])
   (fun _=>⟨(14,.cells 1 [[.ptr 11 0 0]]) :: (11,.cells 3 [[.imm rows,.imm OO,.sl 17 0 front.length]]) :: (17,.cells 1 (nums front)) :: (18,.map (mkG .bool 0 (dnE done)) done.length) :: (3,.cells 1 [[slV 19 (out.map rwR)]]) :: blV 19 4 (out.map rwR) [],20⟩)
   (fun i=>front.length - i) (fun i=>i≤front.length - 1∧fstN (Z0f front) (front.length - 1 - i) i=capN front) 0 [(17,17),(18,18),(19,19)] (by simp +contextual [hrr,hrO,hrF,hrD,hrX]) ⟨by omega,rfl⟩ ?_
  rintro i ⟨hi,hfst⟩ N2 hN2
  try simp only at hi hfst hN2 ⊢
  have hwi:IntKind.i64.wrap ((i:Int)+1)=((i+1:Nat):Int):=by rw[Zae (by omega) (by omega)]; omega
  obtain⟨i1,hi1⟩:∃ i1,i+1=i1:=⟨_,rfl⟩
  rw[hi1]at hwi
  by_cases hlt:i1<front.length
  ·have hil:i<front.length:=by omega
   have hlt':(i1:Int)<(front.length:Int):=by omega
   have hg:=hgn i hil
   obtain⟨_,hg2⟩:=getE hg
   have hh:=hgn i1 hlt
   obtain⟨_,hh2⟩:=getE hh
   have hm1:=hmem i1 hlt
   have hrev:=Z8k (front.getD i1 0) (by omega)
   obtain⟨k2,hk2⟩:∃ k2,front.length - 1 - i=k2+1:=⟨front.length - 1 - i - 1,by omega⟩
   rw[hk2]at hfst
   have hcap:Z0f front i=decide (front.getD i 0=bkN (front.getD (i+1) 0)):=rfl
   rw[hi1]at hcap
   generalize front.getD i 0=a at *
   generalize front.getD i1 0=b at *
   simp[hwi,hlt',hlt,hnl,hg,hg2,hh,hh2,hil]
   refine Zbm hrev ?_
   by_cases hc:a=bkN b
   ·rw[decide_eq_true hc]at hcap
    rw[Zuu hcap]at hfst
    have hcl:capN front<front.length - 1:=by rw[← hfst]; omega
    have hst:sdrN 4 ls front done=some ((1,i,0,false),front.take i++front.drop (i+2),done):=by
     unfold sdrN
     rw[if_pos hcl,← hfst]
    have hF2:=hF.step hw (fun v h1 h2=>hv.same_i h1 h2) hne hst
    have hmu2:=Zru hF.lt hne hst
    have hw2:IntKind.i64.wrap ((i:Int)+2)=((i+2:Nat):Int):=by rw[Zae (by omega) (by omega)]; omega
    have hdel:=cDelI (nums front) i (by rw[hnl]; omega) (by rw[hnl]; omega) (Za0 _)
    have hn2:(nums front).take i++(nums front).drop (i+2)=nums (front.take i++front.drop (i+2)):=by simp[nums]
    rw[hnl,hn2]at hdel
    rw[hst]at hsum
    simp only at hsum
    have hl2:(front.take i++front.drop (i+2)).length=front.length - 2:=by simp; omega
    have hN':=hN (front.take i++front.drop (i+2),done,out++[(1,i,0,false)],k)
    simp only[hl2]at hN'
    have hrF2:=fun q=>hrn q (front.take i++front.drop (i+2))
    generalize front.take i++front.drop (i+2)=front2 at *
    generalize i+2=i2 at *
    simp[hc]
    rw[hw2]
    refine Z2h hdel (by simp) [(1,17)] (by simp) (by simp[hrF]) (by simp) rfl (by decide) (by simp) (by simp) (by simp) ?_
    simp[hrF2]
    have hob:out.length≤1048575:=by omega
    have hro:(out++[((1,i,0,false):Rw)]).map rwR=out.map rwR++[[.int .i64 1,.int .i64 (i:Int),.int .i64 0,.bool false]]:=by rw[List.map_append]; rfl
    rw[hro]at hN'
    simp[YC,ap28,setE,he,hob]
    refine hN' [(17,17),(18,18),(19,67)] _ _ (by omega) ⟨hF2,by omega,by simp; omega,by simpa using hsum⟩ ?_
    simp +contextual [hrr,hrO,hrF2,hrD,hrX]
   ·rw[decide_eq_false hc]at hcap
    rw[Zuc hcap,hi1]at hfst
    have hc':¬((a:Int)=(bkN b:Nat)):=by omega
    simp[hc,hc',hwi]
    exact hN2 i1 [(17,17),(18,18),(19,19)] _ _ (by omega) ⟨by omega,by rw[show front.length - 1 - i1=k2 by omega]; exact hfst⟩ (by simp +contextual [hrr,hrO,hrF,hrD,hrX])
  ·have hlt':¬(i1:Int)<(front.length:Int):=by omega
   simp[hwi,hlt',hlt,hnl]
   have hnc:¬capN front<front.length - 1:=by
    have:front.length - 1 - i=0:=by omega
    rw[this]at hfst
    simp only[fstN]at hfst
    omega
   clear hN2 hfst
   have hend:=hend0 front.length
   have hrun:=fun j hj=>hrun0 front j hj (by omega) hF.lt
   have hleft:=hleft0 front.length
   obtain⟨run,hrunE⟩:∃ run,runN 4 ls done front=run:=⟨_,rfl⟩
   refine Zr0 (α:=Nat) (fun j=>[(69,.int .i64 j),(68,.int .i64 front.length),(67,.sl 17 0 front.length),(6,.int .i64 (bstN run j).2),(5,.int .i64 (atV (bstN run j))),(0,.yld 15),(1,.ptr 14 0 0),(3,.map 18)])
    (fun _=>⟨(14,.cells 1 [[.ptr 11 0 0]]) :: (11,.cells 3 [[.imm rows,.imm OO,.sl 17 0 front.length]]) :: (17,.cells 1 (nums front)) :: (18,.map (mkG .bool 0 (dnE done)) done.length) :: (3,.cells 1 [[slV 19 (out.map rwR)]]) :: blV 19 4 (out.map rwR) [],20⟩)
    (fun j=>front.length - j) (fun j=>j≤front.length) 0 [(17,17),(18,18),(19,19)] (by simp +contextual [hrr,hrO,hrF,hrD,hrX,bstN,atV]) (by simp) ?_
   intro j hj N3 hN3
   try simp only at hj hN3 ⊢
   have hwj:IntKind.i64.wrap ((j:Int)+1)=(j:Int)+1:=Zae (by omega) (by omega)
   by_cases hjl:j<front.length
   ·have hg:=hgn j hjl
    obtain⟨_,hg2⟩:=getE hg
    have hx:=hmem j hjl
    have hex:=hend _ hx
    have hhx:=Zg6 hx
    have hrx:=hrow _ hhx
    obtain⟨_,hrx2⟩:=getE hrx
    have hrj:=hrun j hjl
    have hb1:bstN run (j+1)=if (bstN run j).2<run j then (j,run j)else bstN run j:=rfl
    have hrd:run j=if crN ls done (front.getD j 0)=0 then 0 else min 4 (1+folN ls (crN ls done (front.getD j 0)) front (j+1)):=by rw[← hrunE]; rfl
    have hcr:crN ls done (front.getD j 0)=if (ldN ls (front.getD j 0)).k=2∧(ldN ls (front.getD j 0)).i∉done then (ldN ls (front.getD j 0)).i else 0:=rfl
    have hfour:=fun id=>Z52 hw hF id j
    have hpos1:(ldN ls (front.getD j 0)).k=2→1≤(ldN ls (front.getD j 0)).i:=fun hk2=>by
     obtain⟨_,_,_,d,_⟩:=(Zoz hk2).1 (hv.okr _ (Z6z hx))
     exact d
    have hld:ldN ls (front.getD j 0)=at' ls (Zbj ls.length (front.getD j 0)):=rfl
    have hN':=hN3 (j+1)
    rw[Int.natCast_add,Int.natCast_one]at hN'
    rw[hld]at hcr hpos1 hrj
    have hfd:=fun id=>Zzw id done
    have hfm:=fun id=>Znz AVal.bool id 0 (dnE done)
    clear hN3 hrun hend
    generalize front.getD j 0=x at *
    generalize Zbj ls.length x=v at *
    generalize at' ls v=l at *
    simp[hjl,hg,hg2,hnl]
    refine Zoo hex (by simp) [(1,11),(2,17)] (by simp) (by simp[EqRB,hrr,hrO]) (by simp) (fun s=>by simp) (by simp) ?_
    by_cases hk:l.k=2
    ·by_cases hdn:l.i∈done
     ·obtain⟨p,hp⟩:=(hfd l.i).2 hdn
      have hfm':=hfm l.i
      rw[hp]at hfm'
      simp only at hfm'
      rw[if_neg (fun e=>e.2 hdn)]at hcr
      rw[hcr,if_pos rfl]at hrd
      rw[hrd,if_neg (by omega)]at hb1
      rw[hb1]at hN'
      simp[hrx,hrx2,hll,hhx,hk,hfm',hwj]
      exact hN' [(17,17),(18,18),(19,19)] _ _ (by omega) (by omega) (by simp +contextual [hrr,hrO,hrF,hrD,hrX])
     ·have hp:=(hfd l.i).1 hdn
      have hfm':=hfm l.i
      rw[hp]at hfm'
      simp only at hfm'
      rw[if_pos ⟨hk,hdn⟩]at hcr
      have h1:=hpos1 hk
      have h4:=hfour l.i
      rw[hcr,if_neg (by omega),Nat.min_eq_right (by omega)]at hrd
      have hn4:1+folN ls l.i front (j+1)≤4:=by omega
      rw[hrd]at hb1
      clear hcr hfour
      generalize 1+folN ls l.i front (j+1)=n at *
      simp[hrx,hrx2,hll,hhx,hk,hfm']
      refine Zb2 hrj [(1,11),(2,17)] (by simp) (by simp[hrr,hrO,hrF]) (by simp) ?_
      rintro _ _ ⟨rfl,rfl⟩
      by_cases hlt2:(bstN run j).2<n
      ·rw[if_pos hlt2]at hb1
       have hat:atV (j,n)=(j:Int):=by unfold atV; rw[if_neg (by show ¬n=0; omega)]
       rw[hb1,hat]at hN'
       have hlt3:((bstN run j).2:Int)<(n:Int):=by omega
       simp[hlt2,hlt3,hwj,hrr,hrO,hrF]
       exact hN' [(17,17),(18,18),(19,19)] _ _ (by omega) (by omega) (by simp +contextual [hrr,hrO,hrF,hrD,hrX])
      ·rw[if_neg hlt2]at hb1
       rw[hb1]at hN'
       have hlt3:¬((bstN run j).2:Int)<(n:Int):=by omega
       simp[hlt2,hlt3,hwj,hrr,hrO,hrF]
       exact hN' [(17,17),(18,18),(19,19)] _ _ (by omega) (by omega) (by simp +contextual [hrr,hrO,hrF,hrD,hrX])
    ·rw[if_neg (fun e=>hk e.1)]at hcr
     rw[hcr,if_pos rfl]at hrd
     rw[hrd,if_neg (by omega)]at hb1
     rw[hb1]at hN'
     simp[hrx,hrx2,hll,hhx,hk,hwj]
     exact hN' [(17,17),(18,18),(19,19)] _ _ (by omega) (by omega) (by simp +contextual [hrr,hrO,hrF,hrD,hrX])
   ·have hje:j=front.length:=by omega
    subst hje
    clear hN3
    rcases Zil run front.length with⟨c1,c2,c3⟩|⟨c1,c2,c3⟩
    ·have hst:sdrN 4 ls front done=none:=by
      unfold sdrN
      rw[if_neg hnc,hrunE,if_pos c1]
     rw[hst]at hsum
     simp only[List.append_nil]at hsum
     have hat:atV (bstN run front.length) = -1:=by unfold atV; rw[if_pos c1]
     simp[hat]
     rw[← hsum]at hK
     exact endK (hK (.tuple []) _ rfl) [] (by simp +contextual [hrX])
    ·have hat:atV (bstN run front.length)=((bstN run front.length).1:Int):=by unfold atV; rw[if_neg (by omega)]
     have hst:sdrN 4 ls front done=some ((2,(bstN run front.length).1,(bstN run front.length).2,(ldN ls (front.getD (bstN run front.length).1 0)).o),
      front.take (bstN run front.length).1++outN ls (front.getD (bstN run front.length).1 0) (4 - (bstN run front.length).2)++front.drop ((bstN run front.length).1+(bstN run front.length).2),
      done++[(ldN ls (front.getD (bstN run front.length).1 0)).i]):=by
      unfold sdrN
      rw[if_neg hnc,hrunE,if_neg (by omega)]
     have hF2:=hF.step hw (fun v h1 h2=>hv.same_i h1 h2) hne hst
     have hmu2:=Zru hF.lt hne hst
     rw[hst]at hsum
     simp only at hsum
     have c4:runN 4 ls done front (bstN run front.length).1=(bstN run front.length).2:=by rw[hrunE]; exact c3
     obtain⟨k1,k2,k3⟩:=Zsf (c:=4) (ls:=ls) (done:=done) (front:=front) (i:=(bstN run front.length).1) (by rw[c4]; exact c1)
     have hm4:=Z6l ls done front c2
     rw[c4]at hm4
     have hg:=hgn _ c2
     obtain⟨_,hg2⟩:=getE hg
     have hx:=hmem _ c2
     have hex:=hend _ hx
     have hhx:=Zg6 hx
     have hrx:=hrow _ hhx
     obtain⟨_,hrx2⟩:=getE hrx
     have hld:ldN ls (front.getD (bstN run front.length).1 0)=at' ls (Zbj ls.length (front.getD (bstN run front.length).1 0)):=rfl
     have hit:=Z3h hw hx k1
     rw[hld]at k1 k2 hF2 hmu2 hsum
     have hfm':=Znz AVal.bool (at' ls (Zbj ls.length (front.getD (bstN run front.length).1 0))).i 0 (dnE done)
     rw[(Zzw _ done).1 k2]at hfm'
     simp only at hfm'
     have hsn:=Zta AVal.bool (at' ls (Zbj ls.length (front.getD (bstN run front.length).1 0))).i true (dnE done)
     have hdl:(dnE done).length=done.length:=by simp[dnE]
     rw[hdl]at hsn
     have hde:dnE done++[((at' ls (Zbj ls.length (front.getD (bstN run front.length).1 0))).i,true)]=dnE (done++[(at' ls (Zbj ls.length (front.getD (bstN run front.length).1 0))).i]):=by simp[dnE]
     rw[hde]at hsn
     clear hrun hend c3 c4 k3 hst hld hrunE hnc
     generalize (bstN run front.length).1=a at *
     generalize (bstN run front.length).2=n at *
     generalize front.getD a 0=x at *
     generalize Zbj ls.length x=v at *
     generalize at' ls v=l at *
     have ha0:¬(a:Int)<0:=by omega
     simp[hat,hg,hg2,hnl,c2,ha0]
     refine Zoo hex (by simp) [(1,11),(2,17)] (by simp) (by simp[EqRB,hrr,hrO]) (by simp) (fun s=>by simp) (by simp) ?_
     simp[hrx,hrx2,hll,hhx,hfm',hg,hg2,hnl,c2]
     obtain⟨n4,hn4⟩:∃ n4,4 - n=n4:=⟨_,rfl⟩
     rw[hn4]at hF2 hmu2 hsum
     have hwn:IntKind.i64.wrap (4 - (n:Int))=(n4:Int):=by rw[Zae (by omega) (by omega)]; omega
     have hdl2:(done++[l.i]).length=done.length+1:=by simp
     have hrD2:=fun q=>hrM q (dnE (done++[l.i]))
     refine Zr0 (α:=Nat) (fun t=>[(130,.int .i64 t),(129,.int .i64 n4),(13,.int .i64 (itN ls x t:Nat)),(12,slV 21 (nums (outN ls x t))),(11,.ptr 20 0 0),(6,.int .i64 n),(5,.int .i64 a),(0,.yld 15),(1,.ptr 14 0 0),(3,.map 18)])
      (fun t=>⟨(18,.map (mkG .bool 0 (dnE (done++[l.i]))) (done.length+1)) :: (20,.cells 6 [[.int .i64 l.k,.int .i64 l.g,.int .i64 l.r,.int .i64 l.i,.int .i64 l.s,.bool l.o]]) :: (14,.cells 1 [[.ptr 11 0 0]]) :: (11,.cells 3 [[.imm rows,.imm OO,.sl 17 0 front.length]]) :: (17,.cells 1 (nums front)) :: (3,.cells 1 [[slV 19 (out.map rwR)]]) :: blV 19 4 (out.map rwR) (blV 21 1 (nums (outN ls x t)) []),22⟩)
      (fun t=>n4 - t) (fun t=>t≤n4) 0 [(17,17),(18,18),(19,19),(20,38)] (by simp +contextual [hrr,hrO,hrF,hrD,hrD2,hrX,hsn,hwn,outN,itN,nums]) (by simp) ?_
     intro t ht N4 hN4
     try simp only at ht hN4 ⊢
     have hwt:IntKind.i64.wrap ((t:Int)+1)=(t:Int)+1:=Zae (by omega) (by omega)
     by_cases htl:t<n4
     ·obtain⟨i1x,i2x⟩:=hit t
      have hlf:=hleft _ i1x i2x
      have hrt:=Zup hw i1x i2x
      have hbk:=Z8k (tnN ls (itN ls x t)) (by omega)
      have hN':=hN4 (t+1)
      have hon:=Zpc ls t x
      have hns:nums (outN ls x (t+1))=nums (outN ls x t)++[[.int .i64 (tnN ls (itN ls x t):Nat)]]:=by rw[hon]; simp[nums]
      have hi2:itN ls x (t+1)=bkN (tnN ls (itN ls x t)):=rfl
      rw[hns,hi2,Int.natCast_add,Int.natCast_one]at hN'
      have hol:(nums (outN ls x t)).length≤1048575:=by rw[Zay,Zet]; omega
      have hrU:=fun q=>hrn q (outN ls x t)
      clear hN4 hleft hit
      generalize itN ls x t=xt at *
      generalize nums (outN ls x t)=UU at *
      simp[htl]
      refine Zb2 hlf [(1,11),(2,17)] (by simp) (by simp[hrr,hrO,hrF]) (by simp) ?_
      rintro _ _ ⟨rfl,rfl⟩
      simp[hrr,hrO,hol]
      refine Zbc hbk ?_
      simp[hwt]
      refine hN' [(17,17),(18,18),(19,19),(20,20),(21,30)] _ _ (by omega) (by omega) ?_
      simp +contextual [hrr,hrO,hrF,hrD2,hrX,hrU]
     ·have hte:t=n4:=by omega
      subst hte
      clear hN4 hleft hit hrow hfm' hsn hde
      have hwa:IntKind.i64.wrap ((a:Int)+(n:Int))=((a+n:Nat):Int):=by rw[Zae (by omega) (by omega)]; omega
      have hol:(outN ls x t).length=t:=Zet ls t x
      have hrep:=cRepI front (outN ls x t) a (a+n) (by omega) hm4.2 (by omega) (by omega)
      have hN':=hN (front.take a++outN ls x t++front.drop (a+n),done++[l.i],out++[(2,a,n,l.o)],k)
      have hrU:=fun q=>hrn q (outN ls x t)
      have hrF2:=fun q=>hrn q (front.take a++outN ls x t++front.drop (a+n))
      have hob:out.length≤1048575:=by omega
      have hro:(out++[((2,a,n,l.o):Rw)]).map rwR=out.map rwR++[[.int .i64 2,.int .i64 (a:Int),.int .i64 (n:Int),.bool l.o]]:=by rw[List.map_append]; rfl
      simp only at hN'
      rw[hro,hdl2]at hN'
      generalize front.take a++outN ls x t++front.drop (a+n)=front2 at *
      generalize a+n=an at *
      generalize nums (outN ls x t)=UU at *
      by_cases hU:UU=[]
      ·subst hU
       simp only[Z2k,Z1k]at hrep
       simp[hwa]
       refine Z2h hrep (by simp) [(1,17)] (by simp) (by simp[hrF,hrU]) (by simp) rfl (by decide) (by simp) (by simp) (by simp) ?_
       simp[hrF2]
       simp[YC,ap28,setE,he,hob]
       refine hN' [(17,37),(18,18),(19,51)] _ _ (by omega) ⟨hF2,by omega,by simp; omega,by simpa using hsum⟩ ?_
       simp +contextual [hrr,hrO,hrF2,hrD2,hrX]
      ·simp only[Zhh hU,Zhf hU]at hrep
       simp[hwa,Zhh hU,Zhf hU]
       refine Z2h hrep (by simp) [(1,17),(2,21)] (by simp) (by simp[hrF,hrU]) (by simp) rfl (by decide) (by simp) (by simp) (by simp) ?_
       simp[hrF2]
       simp[YC,ap28,setE,he,hob]
       refine hN' [(17,37),(18,18),(19,51)] _ _ (by omega) ⟨hF2,by omega,by simp; omega,by simpa using hsum⟩ ?_
       simp +contextual [hrr,hrO,hrF2,hrD2,hrX]
end Go.Known
