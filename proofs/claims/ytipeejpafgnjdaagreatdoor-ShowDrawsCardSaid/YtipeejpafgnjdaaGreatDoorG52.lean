/- Part 52 of the proof: Yq, Yr, Wr, Ys, Yt. -/
import Derived.Test.YtipeejpafgnjdaaGreatDoorG28
import Derived.Test.YtipeejpafgnjdaaGreatDoorG34
import Derived.Test.YtipeejpafgnjdaaGreatDoorG38
import Derived.Test.YtipeejpafgnjdaaGreatDoorG41
import Derived.Test.YtipeejpafgnjdaaGreatDoorG43
import Derived.Test.YtipeejpafgnjdaaGreatDoorG51
set_option linter.all false
section
namespace Go.Known
open Go Go.AE Go.Proofs
open Go.Plain
theorem Z6v {get:Nat→Option ABlk} {id k bytes:Nat} {xs:List (List AVal)} (h:xs.length≤1048576) (hb:bytes≤1048576):Zan id k bytes get .nilSl xs=some (slV id xs,dlS id k xs):=by
 unfold slV dlS
 simp only[Zan]
 by_cases h0:xs=[]
 ·rw[if_pos h0,if_pos h0,if_pos h0]
 ·rw[if_neg h0,if_neg h0,if_neg h0,if_pos ⟨h,hb⟩]
theorem fz_drV {get:Nat→Option ABlk} {S:List Nat} {b1 b2:Nat} (f:Int) (ls:List Lt) (ax front:List Nat) (done:List Int) (h1:memN b1 S=true) (h2:memN b2 S=true) (g1:get b1=if nums front=[]then none else some (.cells 1 (nums front))) (g2:get b2=if irow done=[]then none else some (.cells 1 (irow done))) :
 fzV get S (.agg [.int .i64 f,.imm (ls.map rowL),.imm (nums ax),slV b1 (nums front),slV b2 (irow done)])=drV f ls (.imm (nums ax)) (imV (nums front)) done:=by
 have k1:Zix get S b1=if nums front=[]then none else some (.cells 1 (nums front)):=by unfold Zix; rw[h1]; exact g1
 have k2:Zix get S b2=if irow done=[]then none else some (.cells 1 (irow done)):=by unfold Zix; rw[h2]; exact g2
 have e1:=Zsv (n:=2) (k:=1) k1 (Zhl front)
 have e2:=Zsv (n:=2) (k:=1) k2 (Z2y done)
 have e3:=Zen (get:=Zix get S) (n:=3) (Zhk (n:=2) ls)
 have e4:=Zen (get:=Zix get S) (n:=3) (Zhl (n:=2) ax)
 unfold fzV
 rw[Zah]
 simp only[mapO]
 rw[e1,e2,e3,e4]
 rfl
set_option maxRecDepth 100000 in
set_option maxHeartbeats 16000000 in
theorem cRRows (f:Int) (ls:List Lt) (hv:ValR f ls) (h0:ls≠[]):PCall Tryz.prog 53 [cV f ls] (imV ((Zbs 4 ls).map rwR)):=by
 refine Zd1 hm 4 Tryz.func53 Z1g rfl rfl (by simp[Zag,AVal.closed,Zac]) (Za8 (Zb3 _)) fun K hK=>?_
 have hKv:=hK (slV 1 ((Zbs 4 ls).map rwR)) ⟨blV 1 4 ((Zbs 4 ls).map rwR) [],2⟩ (Zsv (n:=2) (b:=1) (k:=4) (by simp) (Zjb _))
 clear hK
 have hw:=hv.wv h0
 have h:ls.length≤400:=hv.len
 have hll:(ls.map rowL).length=ls.length:=List.length_map ..
 have hrr:∀ q,Zak q (ls.map rowL)=ls.map rowL:=fun q=>Zad q _ (Zac ls)
 have hrn:∀ q (l:List Nat),Zak q (nums l)=nums l:=fun q l=>Zab q l
 have hrI:∀ q (l:List Int),Zak q (irow l)=irow l:=fun q l=>Z4h q l
 have hrW:∀ q (l:List Rw),Zak q (l.map rwR)=l.map rwR:=fun q l=>Zad q _ (Zb3 l)
 have hF0:=Zxh ls hw.kin
 have hax:(axis ls).length≤400:=by rw[Zas]; exact Nat.le_trans Za4 h
 have hmu0:muN ls (frt0 ls) []≤1600:=by
  unfold muN frt0
  have h1:cntP (fun l=>isX l && !([]:List Int).contains l.i) ls≤ls.length:=Za4
  rw[List.length_map]
  omega
 have h39:=c39 f ls (by omega) hw.pas
 have hup:=fun i hi=>cRUp f ls i (by omega) hi
 have hmax:∀ v,v∈axis ls→v<ls.length:=fun v hv=>(mem_axis.1 hv).1
 have h53:=fun d hd=>c53 f ls d (by omega) hd
 have hturn:=fun d (hd:d<2*ls.length)=>c40b f ls (axis ls) d (by omega) (by omega) (by omega) (fun v hv hk=>mem_axis.2 ⟨hv,by simp[isP,hw.kin v hv hk]⟩) (by rw[Zas]; exact hw.pas)
 have hcap:=fun front done a b c=>cRCap f ls (.imm (nums (axis ls))) front done (by simp[AVal.closed,Za0]) rfl (by omega) a b c
 have hrun:=fun front done i a b c d=>cRRun f ls front done i (by omega) hw a b c d
 have hfz:=fun get S b1 b2 front done=>@fz_drV get S b1 b2 f ls (axis ls) front done
 have hrow:=fun i hi=>Zfu ls (i:=i) hi
 have hga:∀ i (hi:i<(axis ls).length),(nums (axis ls))[i]? = some [.int .i64 ((axis ls)[i]:Nat)]:=fun i hi=>Zco (List.getElem?_eq_getElem hi)
 have hal:(nums (axis ls)).length=(axis ls).length:=Zay _
 have hrA:=fun q=>hrn q (axis ls)
 have hft:∀ i,i<(axis ls).length→nums ((frt0 ls).take (i+1))=nums ((frt0 ls).take i)++[[.int .i64 (upN ls ((axis ls).getD i 0):Nat)]]:=fun i hi=>by
  have hi':i<(frt0 ls).length:=by unfold frt0; rw[List.length_map]; exact hi
  have e:(frt0 ls)[i]'hi'=upN ls ((axis ls)[i]):=by simp[frt0]
  rw[List.take_succ_eq_append_getElem hi',nums,List.map_append,Z3b hi,e]
  rfl
 have hf0l:(frt0 ls).length=(axis ls).length:=by unfold frt0; rw[List.length_map]
 unfold drV cV at *
 generalize ls.map rowL=rows at *
 unfold rowL at hrow
 generalize nums (axis ls)=AX at *
 simp[hll,h0]
 refine Zbm h39 ?_
 simp
 refine Zbg (α:=Nat) (fun i=>[(4,.int .i64 i),(3,.ptr 3 0 0),(1,.ptr 1 0 0)])
  (fun i=>⟨(1,.cells 2 [[.int .i64 f,.imm rows]]) :: (3,.cells 5 [[.int .i64 f,.imm rows,.imm AX,slV 4 (nums ((frt0 ls).take i)),.nilSl]]) :: blV 4 1 (nums ((frt0 ls).take i)) [],5⟩)
  (fun i=>(axis ls).length - i) (fun i=>i≤(axis ls).length) 0 [(1,1),(3,11)] (by simp[hrr,hrA,nums]) (by simp) ?_
 intro i hi N hN
 try simp only at hi hN ⊢
 have hwi:IntKind.i64.wrap ((i:Int)+1)=(i:Int)+1:=Zae (by omega) (by omega)
 by_cases hlt:i<(axis ls).length
 ·have hN':=hN (i+1)
  have hg:=Ziw (l:=axis ls) hlt
  have hg':=hga i hlt
  rw[← Z3b hlt]at hg'
  obtain⟨_,hg2⟩:=getE hg'
  have hup':=hup _ (hmax _ (Zgk hlt))
  rw[hft i hlt,Int.natCast_add,Int.natCast_one]at hN'
  have hol:(nums ((frt0 ls).take i)).length≤1048575:=by rw[Zay,List.length_take]; omega
  have hrF:=fun q=>hrn q ((frt0 ls).take i)
  generalize nums ((frt0 ls).take i)=FF at *
  generalize (axis ls).getD i 0=v at *
  simp[hlt,hg',hg2,hal]
  refine Zbm hup' ?_
  simp[hol,hwi]
  refine hN' [(1,1),(3,3),(4,20)] _ _ (by omega) (by omega) ?_
  simp +contextual [hrr,hrA,hrF]
 ·have hie:i=(axis ls).length:=by omega
  subst hie
  clear hN hga hft hup
  have htk:(frt0 ls).take (axis ls).length=frt0 ls:=List.take_of_length_le (by omega)
  rw[htk]
  have hrF0:=fun q=>hrn q (frt0 ls)
  simp[hal]
  refine Zbg (α:=List Nat×List Int×List Rw×Nat) (fun a=>[(5,slV 6 (a.2.2.1.map rwR)),(3,.ptr 3 0 0),(1,.ptr 1 0 0)])
   (fun a=>⟨(1,.cells 2 [[.int .i64 f,.imm rows]]) :: (3,.cells 5 [[.int .i64 f,.imm rows,.imm AX,slV 4 (nums a.1),slV 5 (irow a.2.1)]]) :: blV 4 1 (nums a.1) (blV 5 1 (irow a.2.1) (blV 6 4 (a.2.2.1.map rwR) [])),7⟩)
   (fun a=>a.2.2.2) (fun a=>Frt ls a.1 a.2.1∧muN ls a.1 a.2.1<a.2.2.2∧a.2.2.1.length+a.2.2.2≤2000∧a.2.1.length+a.2.2.2≤2000∧a.2.2.1++drF 4 ls a.2.2.2 a.1 a.2.1=Zbs 4 ls)
   (frt0 ls,[],[],muN ls (frt0 ls) []+1) [(1,1),(3,3),(4,4)] (by simp +contextual [hrr,hrA,hrF0]) ⟨hF0,by simp,by simp; omega,by simp; omega,rfl⟩ ?_
  rintro⟨front,done,out,k⟩ ⟨hF,hmu,hkb,hkd,hsum⟩ N hN
  simp only at hF hmu hkb hkd hsum hN ⊢
  obtain⟨k,rfl⟩:∃ k',k=k'+1:=⟨k - 1,by omega⟩
  rw[drF]at hsum
  have hfl:front.length≤2000:=by
   have:front.length≤muN ls front done:=Nat.le_add_right _ _
   omega
  have hrF:=fun q=>hrn q front
  have hrD:=fun q=>hrI q done
  have hrX:=fun q=>hrW q out
  have hnl:(nums front).length=front.length:=Zay front
  by_cases hne:front=[]
  ·rw[if_pos hne,List.append_nil]at hsum
   subst hne
   rw[← hsum]at hKv
   simp
   exact endK hKv [(1,6)] (by simp +contextual [hrX])
  ·rw[if_neg hne]at hsum
   have hpos:0<front.length:=List.length_pos_iff.2 hne
   have hpos':(0:Int)<(front.length:Int):=by omega
   have hneN:=Zmm hne
   have hcp:=hcap front done hne (by omega) hF.lt
   have hgn:=fun j (hj:j<front.length)=>Ziw hj
   have hmem:=fun j (hj:j<front.length)=>hF.lt _ (Zgk hj)
   simp[hpos,hpos',hnl]
   refine Z6q hcp trivial [4,5] ?_ ?_
   ·rw[← Zj5 hneN]
    simp only[List.map_cons,List.map_nil]
    rw[hfz _ _ 4 5 front done rfl rfl (by simp) (by simp)]
   ·clear hcp
    by_cases hc:capN front<front.length - 1
    ·rw[if_pos hc]
     have hst:sdrN 4 ls front done=some ((1,capN front,0,false),front.take (capN front)++front.drop (capN front+2),done):=by
      unfold sdrN
      rw[if_pos hc]
     have hF2:=hF.step hw (fun v h1 h2=>hv.same_i h1 h2) hne hst
     have hmu2:=Zru hF.lt hne hst
     rw[hst]at hsum
     simp only at hsum
     have hN':=hN (front.take (capN front)++front.drop (capN front+2),done,out++[(1,capN front,0,false)],k)
     generalize capN front=i at *
     have hw2:IntKind.i64.wrap ((i:Int)+2)=((i+2:Nat):Int):=by rw[Zae (by omega) (by omega)]; omega
     obtain⟨X,hX⟩:∃ X,front.take i=X:=⟨_,rfl⟩
     obtain⟨Y,hY⟩:∃ Y,front.drop (i+2)=Y:=⟨_,rfl⟩
     have hXn:(nums front).take i=nums X:=by rw[← hX]; simp[nums]
     have hYn:((nums front).drop (i+2)).take (front.length - (i+2))=nums Y:=by
      rw[List.take_of_length_le (by simp[nums]),← hY]; simp[nums]
     have hXl:X.length=i:=by rw[← hX]; simp; omega
     have hYl:Y.length=front.length - (i+2):=by rw[← hY]; simp
     have hXn2:(nums X).length=X.length:=Zay X
     have hYn2:(nums Y).length=Y.length:=Zay Y
     have hXb:X.length≤1048576:=by omega
     have hXYb:X.length+Y.length≤1048576:=by omega
     have i1:i≤front.length:=by omega
     have i2:i+2≤front.length:=by omega
     have i4:i+2+(front.length - (i+2))=front.length:=by omega
     have hob:out.length≤1048575:=by omega
     have hro:(out++[((1,i,0,false):Rw)]).map rwR=out.map rwR++[[.int .i64 1,.int .i64 (i:Int),.int .i64 0,.bool false]]:=by rw[List.map_append]; rfl
     have hnxy:nums (X++Y)=nums X++nums Y:=by simp[nums]
     have hrX1:=fun q=>hrn q X
     have hrY1:=fun q=>hrn q Y
     rw[hX,hY]at hF2 hmu2 hsum hN'
     simp only[hro,hnxy]at hN'
     generalize i+2=j at *
     simp only[Zhh hneN,Zhf hneN,hnl]at hN ⊢
     simp[hob,hw2,i1,i2,i4,Zlf,hnl,hXn,hYn,Z6v,hXb,hXn2]
     by_cases hY0:Y=[]
     ·subst hY0
      simp
      refine hN' [(1,1),(3,3),(4,26),(5,5),(6,20)] _ _ (by omega) ⟨hF2,by omega,by simp; omega,by omega,by simpa using hsum⟩ ?_
      simp +contextual [hrr,hrA,hrX1,hrD,hrX]
     ·have hYne:=Zmm hY0
      have hXYne:¬nums X++nums Y=[]:=fun e=>hYne (List.append_eq_nil_iff.1 e).2
      simp only[Zhh hXYne,Zhf hXYne]at hN'
      simp[hYne,hY0,hXn2,hYn2,hXYb]
      refine hN' [(1,1),(3,3),(4,32),(5,5),(6,20)] _ _ (by omega) ⟨hF2,by omega,by simp; omega,by omega,by simpa using hsum⟩ ?_
      simp +contextual [hrr,hrA,hrX1,hrY1,hrD,hrX,hXn2,hYn2]
    ·rw[if_neg hc]
     obtain⟨run,hrunE⟩:∃ run,runN 4 ls done front=run:=⟨_,rfl⟩
     have hrn2:=fun j hj=>hrun front done j hj (by omega) hF.lt (by omega)
     rw[hrunE]at hrn2
     simp
     refine Zbg (α:=Nat) (fun j=>[(8,.int .i64 j),(7,.int .i64 ((bstN run j).1:Nat)),(5,slV 6 (out.map rwR)),(3,.ptr 3 0 0),(1,.ptr 1 0 0)])
      (fun _=>⟨(1,.cells 2 [[.int .i64 f,.imm rows]]) :: (3,.cells 5 [[.int .i64 f,.imm rows,.imm AX,slV 4 (nums front),slV 5 (irow done)]]) :: blV 4 1 (nums front) (blV 5 1 (irow done) (blV 6 4 (out.map rwR) [])),7⟩)
      (fun j=>front.length - j) (fun j=>j≤front.length∧(bstN run j).1<front.length∧(j=0∨run (bstN run j).1=(bstN run j).2)) 0 [(1,1),(3,3),(4,4),(5,5),(6,6)] (by simp +contextual [hrr,hrA,hrF,hrD,hrX,bstN]) ⟨by omega,hpos,.inl rfl⟩ ?_
     rintro j ⟨hj,hbl,hjb⟩ N2 hN2
     try simp only at hj hbl hjb hN2 ⊢
     have hwj:IntKind.i64.wrap ((j:Int)+1)=(j:Int)+1:=Zae (by omega) (by omega)
     by_cases hjl:j<front.length
     ·have hr1:=hrn2 j hjl
      have hr2:=hrn2 _ hbl
      have hN':=hN2 (j+1)
      rw[Int.natCast_add,Int.natCast_one]at hN'
      have hb1:bstN run (j+1)=if (bstN run j).2<run j then (j,run j)else bstN run j:=rfl
      have hbr:=Z4z run (j+1) (by omega)
      have hstep:(bstN run (j+1)).1=if run (bstN run j).1<run j then j else (bstN run j).1:=by
       rw[hb1]
       rcases hjb with rfl|hjb
       ·have e0:(bstN run 0).1=0:=rfl
        have e1:(bstN run 0).2=0:=rfl
        rw[e0,e1,if_neg (Nat.lt_irrefl _)]
        split<;>rfl
       ·rw[hjb]
        split<;>rfl
      have hbl2:(bstN run (j+1)).1<front.length:=by rw[hstep]; split<;>omega
      rw[hstep]at hN' hbr hbl2
      clear hN2 hb1 hstep hrn2 hjb
      generalize (bstN run (j+1)).2=m2 at *
      generalize (bstN run j).1=b at *
      simp[hjl,hnl]
      refine Z6d hr1 trivial [4,5] ?_ ?_
      ·rw[← Zj5 hneN]
       simp only[List.map_cons,List.map_nil,Zu2]
       rw[hfz _ _ 4 5 front done rfl rfl (by simp[Zvp,memN]) (by simp[Zvp,memN])]
      ·simp
       refine Z6d hr2 trivial [4,5] ?_ ?_
       ·rw[← Zj5 hneN]
        simp only[List.map_cons,List.map_nil,Zu2]
        rw[hfz _ _ 4 5 front done rfl rfl (by simp[Zvp,memN]) (by simp[Zvp,memN])]
       ·by_cases hcmp:run b<run j
        ·have hcmp':((run b:Nat):Int)<(run j:Nat):=by omega
         rw[if_pos hcmp]at hN' hbr hbl2
         simp[hcmp,hcmp',hwj]
         exact hN' [(1,1),(3,3),(4,4),(5,5),(6,6)] _ _ (by omega) ⟨by omega,hbl2,.inr hbr⟩ (by simp +contextual [hrr,hrA,hrF,hrD,hrX])
        ·have hcmp':¬((run b:Nat):Int)<(run j:Nat):=by omega
         rw[if_neg hcmp]at hN' hbr hbl2
         simp[hcmp,hcmp',hwj]
         exact hN' [(1,1),(3,3),(4,4),(5,5),(6,6)] _ _ (by omega) ⟨by omega,hbl2,.inr hbr⟩ (by simp +contextual [hrr,hrA,hrF,hrD,hrX])
     ·have hje:j=front.length:=by omega
      subst hje
      clear hN2
      have c3:run (bstN run front.length).1=(bstN run front.length).2:=hjb.resolve_left (by omega)
      have hr2:=hrn2 _ hbl
      rw[c3]at hr2
      clear hrn2 hjb
      simp[hnl]
      refine Z6q hr2 trivial [4,5] ?_ ?_
      ·rw[← Zj5 hneN]
       simp only[List.map_cons,List.map_nil,Zu2]
       rw[hfz _ _ 4 5 front done rfl rfl (by simp) (by simp)]
      ·clear hr2
       by_cases c1:(bstN run front.length).2=0
       ·have hst:sdrN 4 ls front done=none:=by
         unfold sdrN
         rw[if_neg hc,hrunE,if_pos c1]
        rw[hst]at hsum
        simp only[List.append_nil]at hsum
        rw[← hsum]at hKv
        simp[c1]
        exact endK hKv [(1,6)] (by simp +contextual [hrX])
       ·have hst:sdrN 4 ls front done=some ((2,(bstN run front.length).1,(bstN run front.length).2,(ldN ls (front.getD (bstN run front.length).1 0)).o),
         front.take (bstN run front.length).1++outN ls (front.getD (bstN run front.length).1 0) (4 - (bstN run front.length).2)++front.drop ((bstN run front.length).1+(bstN run front.length).2),
         done++[(ldN ls (front.getD (bstN run front.length).1 0)).i]):=by
         unfold sdrN
         rw[if_neg hc,hrunE,if_neg c1]
        have hF2:=hF.step hw (fun v h1 h2=>hv.same_i h1 h2) hne hst
        have hmu2:=Zru hF.lt hne hst
        rw[hst]at hsum
        simp only at hsum
        have c4:runN 4 ls done front (bstN run front.length).1=(bstN run front.length).2:=by rw[hrunE]; exact c3
        obtain⟨k1,k2,k3⟩:=Zsf (c:=4) (ls:=ls) (done:=done) (front:=front) (i:=(bstN run front.length).1) (by rw[c4]; omega)
        have hm4:=Z6l ls done front hbl
        rw[c4]at hm4
        have hg:=hgn _ hbl
        obtain⟨_,hg2⟩:=getE hg
        have hx:=hmem _ hbl
        have hex:=h53 _ hx
        have hhx:=Zg6 hx
        have hrx:=hrow _ hhx
        obtain⟨_,hrx2⟩:=getE hrx
        have hld:ldN ls (front.getD (bstN run front.length).1 0)=at' ls (Zbj ls.length (front.getD (bstN run front.length).1 0)):=rfl
        have hit:=Z3h hw hx k1
        rw[hld]at k1 k2 hF2 hmu2 hsum
        clear c3 c4 k3 hst hld hrunE hc
        generalize (bstN run front.length).1=a at *
        generalize (bstN run front.length).2=n at *
        generalize front.getD a 0=x at *
        generalize Zbj ls.length x=v at *
        generalize at' ls v=l at *
        obtain⟨X,hX⟩:∃ X,front.take a=X:=⟨_,rfl⟩
        have hXn:(nums front).take a=nums X:=by rw[← hX]; simp[nums]
        have hXl:X.length=a:=by rw[← hX]; simp; omega
        have hXn2:(nums X).length=X.length:=Zay X
        have hXb:X.length≤1048576:=by omega
        have hob:out.length≤1048575:=by omega
        have i1:a≤front.length:=by omega
        have hrX1:=fun q=>hrn q X
        have hc1:¬(n:Int)=0:=by omega
        simp[c1,hc1,hg,hg2,hnl,hbl,hneN,hne]
        refine Zbm hex ?_
        simp only[Zhh hneN,Zhf hneN,hnl]
        simp[hrx,hrx2,hll,hhx,hob,i1,Zlf,hnl,hXn,Z6v,hXb,hXn2]
        obtain⟨n4,hn4⟩:∃ n4,4 - n=n4:=⟨_,rfl⟩
        rw[hn4]at hF2 hmu2 hsum
        have hwn:IntKind.i64.wrap (4 - (n:Int))=(n4:Int):=by rw[Zae (by omega) (by omega)]; omega
        have hro:(out++[((2,a,n,l.o):Rw)]).map rwR=out.map rwR++[[.int .i64 2,.int .i64 (a:Int),.int .i64 (n:Int),.bool l.o]]:=by rw[List.map_append]; rfl
        have hrRR:∀ q,Zak q (out.map rwR++[[.int .i64 2,.int .i64 (a:Int),.int .i64 (n:Int),.bool l.o]])=out.map rwR++[[.int .i64 2,.int .i64 (a:Int),.int .i64 (n:Int),.bool l.o]]:=fun q=>by rw[← hro]; exact hrW q _
        have hRRl:(out.map rwR++[[AVal.int .i64 2,.int .i64 (a:Int),.int .i64 (n:Int),.bool l.o]]).length=out.length+1:=by simp
        have hN':=hN (X++outN ls x n4++front.drop (a+n),done++[l.i],out++[(2,a,n,l.o)],k)
        rw[hX]at hF2 hmu2 hsum
        simp only[hro]at hN'
        clear hN
        generalize out.map rwR++[[.int .i64 2,.int .i64 (a:Int),.int .i64 (n:Int),.bool l.o]]=RR at *
        have hRne:¬RR=[]:=fun e=>by rw[e]at hRRl; simp at hRRl
        refine Zbg (α:=Nat) (fun t=>[(14,.int .i64 t),(13,.int .i64 (itN ls x t:Nat)),(12,slV 7 (nums (X++outN ls x t))),(11,.ptr 8 0 0),(9,.int .i64 n),(7,.int .i64 a),(5,.sl 6 0 (out.length+1)),(3,.ptr 3 0 0),(1,.ptr 1 0 0)])
         (fun t=>⟨(1,.cells 2 [[.int .i64 f,.imm rows]]) :: (3,.cells 5 [[.int .i64 f,.imm rows,.imm AX,.sl 4 0 front.length,slV 5 (irow done)]]) :: (4,.cells 1 (nums front)) :: (8,.cells 6 [[.int .i64 l.k,.int .i64 l.g,.int .i64 l.r,.int .i64 l.i,.int .i64 l.s,.bool l.o]]) :: (6,.cells 4 RR) :: blV 5 1 (irow done) (blV 7 1 (nums (X++outN ls x t)) []),9⟩)
         (fun t=>n4 - t) (fun t=>t≤n4) 0 [(1,1),(3,3),(4,4),(5,5),(6,40),(7,46),(8,31)] (by simp +contextual [hrr,hrA,hrF,hrD,hrX1,hrRR,outN,itN]) (by simp) ?_
        intro t ht N4 hN4
        try simp only at ht hN4 ⊢
        have hwt:IntKind.i64.wrap ((t:Int)+1)=(t:Int)+1:=Zae (by omega) (by omega)
        by_cases htl:t<n4
        ·obtain⟨i1x,i2x⟩:=hit t
         have htn:=hturn _ i1x
         have htnE:Za6 ls (axis ls) (itN ls x t)=tnN ls (itN ls x t):=rfl
         rw[htnE]at htn
         have hrt:=Zup hw i1x i2x
         have hbk:=Z68 (tnN ls (itN ls x t)) (by omega)
         have hM':=hN4 (t+1)
         have hns:nums (X++outN ls x (t+1))=nums (X++outN ls x t)++[[.int .i64 (tnN ls (itN ls x t):Nat)]]:=by rw[Zpc,← List.append_assoc]; simp[nums]
         have hi2:itN ls x (t+1)=bkN (tnN ls (itN ls x t)):=rfl
         rw[hns,hi2,Int.natCast_add,Int.natCast_one]at hM'
         have hol:(nums (X++outN ls x t)).length≤1048575:=by rw[Zay,List.length_append,Zet]; omega
         have hrU:=fun q=>hrn q (X++outN ls x t)
         have htl':(t:Int)<(n4:Int):=by omega
         clear hN4 hit hN'
         generalize itN ls x t=xt at *
         generalize nums (X++outN ls x t)=UU at *
         simp[htl,htl',hwn]
         refine Zbc htn ?_
         simp[hol]
         refine Zbc hbk ?_
         simp[hwt]
         refine hM' [(1,1),(3,3),(4,4),(5,5),(6,6),(7,22),(8,8)] _ _ (by omega) (by omega) ?_
         simp +contextual [hrr,hrA,hrF,hrD,hrRR,hrU]
        ·have hte:t=n4:=by omega
         subst hte
         clear hN4 hit
         have hwa:IntKind.i64.wrap ((a:Int)+(n:Int))=((a+n:Nat):Int):=by rw[Zae (by omega) (by omega)]; omega
         obtain⟨an,han⟩:∃ an,a+n=an:=⟨_,rfl⟩
         have j1:an≤front.length:=by omega
         have j2:an+(front.length - an)=front.length:=by omega
         rw[han]at hwa hF2 hmu2 hsum hN'
         obtain⟨U,hU⟩:∃ U,X++outN ls x t=U:=⟨_,rfl⟩
         obtain⟨Y,hY⟩:∃ Y,front.drop an=Y:=⟨_,rfl⟩
         have hYn:((nums front).drop an).take (front.length - an)=nums Y:=by
          rw[List.take_of_length_le (by simp[nums]),← hY]; simp[nums]
         have hUl:U.length=a+t:=by rw[← hU,List.length_append,Zet,hXl]
         have hYl:Y.length=front.length - an:=by rw[← hY]; simp
         have hUn2:(nums U).length=U.length:=Zay U
         have hYn2:(nums Y).length=Y.length:=Zay Y
         have hUYb:U.length+Y.length≤1048576:=by omega
         have hUY:nums (U++Y)=nums U++nums Y:=by simp[nums]
         have hdb:done.length≤1048575:=by omega
         have hdn:irow (done++[l.i])=irow done++[[.int .i64 l.i]]:=Zy9 done l.i
         have hrU:=fun q=>hrn q U
         have hrY:=fun q=>hrn q Y
         rw[hU,hY]at hF2 hmu2 hsum hN'
         simp only[hU]
         simp only[hUY,hdn]at hN'
         by_cases hY0:Y=[]
         ·subst hY0
          simp[hwn,hwa,j1,j2,Zlf,hnl,hYn,hdb]
          refine hN' [(1,1),(3,3),(4,7),(5,28),(6,6)] _ _ (by omega) ⟨hF2,by omega,by simp; omega,by simp; omega,by simpa using hsum⟩ ?_
          simp +contextual [hrr,hrA,hrU,hrD,hrRR,hRne,Zhh hRne,Zhf hRne,hRRl]
         ·have hYne:=Zmm hY0
          have hUYne:¬nums U++nums Y=[]:=fun e=>hYne (List.append_eq_nil_iff.1 e).2
          simp only[Zhh hUYne,Zhf hUYne]at hN'
          simp[hwn,hwa,j1,j2,Zlf,hnl,hYn,hYne,hY0,hUn2,hYn2,hUYb,hdb]
          refine hN' [(1,1),(3,3),(4,20),(5,28),(6,6)] _ _ (by omega) ⟨hF2,by omega,by simp; omega,by simp; omega,by simpa using hsum⟩ ?_
          simp +contextual [hrr,hrA,hrU,hrY,hrD,hrRR,hRne,Zhh hRne,Zhf hRne,hRRl,hUn2,hYn2]
end Go.Known
end
section
namespace Go.Known
open Go Go.AE Go.Proofs
open Go.Plain
theorem Z67 (f:Int):PCall Tryz.prog 53 [cV f []] .nilSl:=by
 refine Zd1 hm 4 Tryz.func53 Z1g rfl rfl (by simp[Zag,AVal.closed,Zal]) rfl fun K hK=>?_
 have hKv:=hK .nilSl ⟨[],1⟩ rfl
 clear hK
 simp
 exact endK hKv [] (by simp)
theorem Z0s (f:Int) (ls:List Lt) (he:errC f ls=0):PCall Tryz.prog 53 [cV f ls] (imV ((Zbs 4 ls).map rwR)):=by
 by_cases h0:ls=[]
 ·subst h0; exact Z67 f
 ·exact cRRows f ls (Zg2 he h0) h0
theorem Z89 {get:Nat→Option ABlk} {b:Nat} (F:Nat) (G:List Nat) (A B:List Rw) (hb:get b=some (.cells 1 (nums G))) :
 Zah get 5 (.agg [.int .i64 (F:Int),.sl b 0 G.length,imV (A.map rwR),imV (B.map rwR)])=some (pcV F G (A.map rwR) (B.map rwR)):=by
 have h1:Zah get 4 (.sl b 0 G.length)=some (.imm (nums G)):=by
  have:=Zfq (n:=3) hb (Zhl (get:=get) (n:=2) G)
  rwa[Zay]at this
 have h2:=Zsi (get:=get) (n:=2) (Zjb (get:=get) (n:=2) A)
 have h3:=Zsi (get:=get) (n:=2) (Zjb (get:=get) (n:=2) B)
 rw[Zah]
 simp only[mapO]
 rw[h1,h2,h3]
 rfl
set_option maxRecDepth 100000 in
set_option maxHeartbeats 4000000 in
theorem cRDraw (F:Nat) (ls:List Lt) (he:errC F ls=0):PCall Tryz.prog 16 [cV F ls] (picV F ls):=by
 have hT:PCall Tryz.prog 54 [cV F ls] (cV F (tuN ls)):=by
  by_cases h0:ls=[]
  ·subst h0
   exact c43e F
  ·exact c43v F ls (Zg2 he h0) h0
 have heT:errC F (tuN ls)=0:=by
  by_cases h0:ls=[]
  ·subst h0; exact he
  ·exact((Zg2 he h0).turn h0).1.to
 have hA:=Z0s F ls he
 have hB:=Z0s F (tuN ls) heT
 have hF40:(F:Int)≤40:=(Zv2 he).2
 have hl:ls.length≤400:=by
  by_cases h0:ls=[]
  ·subst h0; simp
  ·exact(Zg2 he h0).len
 have hin:=fun (g:Nat)=>c37 F ls (g:Int) (by omega)
 refine Zd1 hm 5 Tryz.func16 Z9h rfl rfl (by simp[Zag,AVal.closed,Zac]) (Zmk F ls) fun K hK=>?_
 have hgl:=Zgr F ls ls.length
 have hKv:=hK (.agg [.int .i64 (F:Int),.sl 1 0 (gtN F ls ls.length).length,imV ((Zbs 4 ls).map rwR),imV ((Zbs 4 (tuN ls)).map rwR)]) ⟨[(1,.cells 1 (nums (gtN F ls ls.length)))],2⟩ (Z89 (b:=1) F _ _ _ rfl)
 clear hK
 have hll:(ls.map rowL).length=ls.length:=List.length_map ..
 have hrr:∀ q,Zak q (ls.map rowL)=ls.map rowL:=fun q=>Zad q _ (Zac ls)
 have hcI:=Zdl ((Zbs 4 ls).map rwR)
 have hoI:=Zha ((Zbs 4 ls).map rwR)
 have hcJ:=Zdl ((Zbs 4 (tuN ls)).map rwR)
 have hoJ:=Zha ((Zbs 4 (tuN ls)).map rwR)
 have hrI:∀ q,(imV ((Zbs 4 ls).map rwR)).ren q=imV ((Zbs 4 ls).map rwR):=fun q=>AVal.ren_closed q _ (Za8 (Zb3 _))
 have hrJ:∀ q,(imV ((Zbs 4 (tuN ls)).map rwR)).ren q=imV ((Zbs 4 (tuN ls)).map rwR):=fun q=>AVal.ren_closed q _ (Za8 (Zb3 _))
 have hren:=Zab
 unfold cV at *
 generalize ls.map rowL=rows at *
 generalize (tuN ls).map rowL=rowsT at *
 generalize imV ((Zbs 4 ls).map rwR)=IA at *
 generalize imV ((Zbs 4 (tuN ls)).map rwR)=IB at *
 have hgt:∀ g,g≤F→(gtN F ls ls.length)[g]? = some (inG g ls):=fun g hg=>by
  have:=Zoh ls ls.length hg
  rwa[List.take_length]at this
 have hin2:∀ g:Nat,cntP (fun l=>isP l&&l.g == (g:Int)) ls=inG g ls:=fun _=>rfl
 simp only[hin2]at hin
 generalize gtN F ls ls.length=G at *
 simp
 refine Zbm hA ?_
 simp
 refine Zbm hT ?_
 simp
 refine Zbm hB ?_
 simp[hcI,hoI,hcJ,hoJ]
 refine Zbg (α:=Nat) (fun g=>[(4,.int .i64 g),(3,.ptr 3 0 0),(1,.ptr 1 0 0),(2,.ptr 2 0 0)])
  (fun g=>⟨(1,.cells 2 [[.int .i64 (F:Int),.imm rows]]) :: (2,.cells 4 [[.int .i64 0,.nilSl,.nilSl,.nilSl]]) :: (3,.cells 4 [[.int .i64 (F:Int),slV 4 (nums (G.take g)),IA,IB]]) :: blV 4 1 (nums (G.take g)) [],5⟩)
  (fun g=>F+1 - g) (fun g=>g≤F+1) 0 [(1,1),(2,2),(3,11)] (by simp[hrr,hrI,hrJ,nums]) (by simp) ?_
 intro g hg N hN
 try simp only at hg hN ⊢
 have hwg:IntKind.i64.wrap ((g:Int)+1)=(g:Int)+1:=Zae (by omega) (by omega)
 by_cases hlt:g≤F
 ·have hN':=hN (g+1)
  have hg2:=hgt g hlt
  have hgi:g<G.length:=by omega
  have hns:nums (G.take (g+1))=nums (G.take g)++[[.int .i64 (inG g ls:Nat)]]:=by
   have e:G[g]=inG g ls:=(getE hg2).2
   rw[List.take_succ_eq_append_getElem hgi,nums,List.map_append,e]
   rfl
  rw[hns,Int.natCast_add,Int.natCast_one]at hN'
  have hob:(nums (G.take g)).length≤1048575:=by rw[Zay,List.length_take]; omega
  have hrU:=fun q=>hren q (G.take g)
  have hig:=hin g
  generalize nums (G.take g)=GG at *
  generalize inG (g:Int) ls=c at *
  have hlt':(g:Int)≤(F:Int):=by omega
  simp[hlt,hlt']
  refine Zbm hig ?_
  simp[hob,hwg]
  refine hN' [(1,1),(2,2),(3,3),(4,15)] _ _ (by omega) (by omega) ?_
  simp +contextual [hrr,hrI,hrJ,hrU]
 ·have hge:g=F+1:=by omega
  subst hge
  have htk:G.take (F+1)=G:=List.take_of_length_le (by omega)
  have hGn:¬nums G=[]:=fun e=>by have:=congrArg List.length e; rw[Zay,hgl]at this; simp at this
  have hnl:(nums G).length=G.length:=Zay G
  have hrU:=fun q=>hren q G
  have hlt':¬((F:Int)+1)≤(F:Int):=by omega
  rw[htk]
  simp only[Zhh hGn,Zhf hGn,hnl]
  simp[hlt',hcI,hoI,hcJ,hoJ]
  exact endK hKv [(1,4)] (by simp[hrI,hrJ,hrU])
end Go.Known
end
section
namespace Go.Known
open Go Go.AE Go.Proofs
open Go.Plain
set_option maxHeartbeats 4000000 in
theorem c35w (l:List Nat) (hl:l.length≤10000):PCall Tryz.prog 34 [imV (nums l),imV (nums l)] (.bool true):=by
 by_cases h0:l=[]
 ·subst h0
  show PCall Tryz.prog 34 [.nilSl,.nilSl] (.bool true)
  refine Zdi hm Tryz.func34 cf35 rfl rfl rfl trivial fun K hK=>?_
  simp
  refine Zbg (α:=Unit) (fun _=>[(5,.int .i64 0),(0,.nilSl)]) (fun _=>⟨[],1⟩) (fun _=>0) (fun _=>True) () [] (by simp) trivial ?_
  intro _ _ N hN
  simp
  exact endK hK [] (by simp)
 ·have:=c35e l hl
  rw[Zj5 (rows:=nums l) (by simpa[nums]using h0)]at this ⊢
  exact this
end Go.Known
end
section
namespace Go.Known
open Go Go.AE Go.Proofs
open Go.Plain
theorem Z06:PCall Tryz.prog 13 [] (.bool true):=mo33
theorem bf_row (a b c:Nat) (o:Bool):binA .neq (.flat [.int,.int,.int,.bool]) (.agg [.int .i64 a,.int .i64 b,.int .i64 c,.bool o]) (.agg [.int .i64 a,.int .i64 b,.int .i64 c,.bool o])=some (.bool false):=by
 simp[binA,eqA,Zfa,Zlw]
theorem Z1r (l:List Rw) (hl:l.length≤10000):PCall Tryz.prog 52 [imV (l.map rwR),imV (l.map rwR)] (.bool true):=by
 refine Zdi hm Tryz.func52 Z5t rfl rfl (by simp[Zag,Za8,Zb3]) trivial fun K hK=>?_
 have hrI:∀ q,(imV (l.map rwR)).ren q=imV (l.map rwR):=fun q=>AVal.ren_closed q _ (Za8 (Zb3 _))
 have hll:(l.map rwR).length=l.length:=List.length_map ..
 simp
 refine Zbg (α:=Nat) (fun i=>[(5,.int .i64 i),(0,imV (l.map rwR)),(1,imV (l.map rwR))]) (fun _=>⟨[],1⟩) (fun i=>l.length - i) (fun i=>i≤l.length) 0 [] (by simp[hrI]) (by simp) ?_
 intro i hi N hN
 try simp only at hi hN ⊢
 have hw:IntKind.i64.wrap ((i:Int)+1)=(i:Int)+1:=Zae (by omega) (by omega)
 by_cases hlt:i<l.length
 ·have hg:(l.map rwR)[i]? = some [.int .i64 (l[i].1:Nat),.int .i64 (l[i].2.1:Nat),.int .i64 (l[i].2.2.1:Nat),.bool l[i].2.2.2]:=by
   rw[List.getElem?_map,List.getElem?_eq_getElem hlt]; rfl
  obtain⟨_,hg2⟩:=getE hg
  have hb:=bf_row l[i].1 l[i].2.1 l[i].2.2.1 l[i].2.2.2
  have hne:¬l.map rwR=[]:=fun e=>by have:=congrArg List.length e; simp at this; subst this; simp at hlt
  have hN':=hN (i+1) []
  rw[Int.natCast_add,Int.natCast_one]at hN'
  generalize l[i]=r at *
  have hrR0:∀ q,Zak q (l.map rwR)=l.map rwR:=fun q=>Zad q _ (Zb3 _)
  rw[Zj5 hne]at hN' ⊢
  generalize l.map rwR=R at *
  simp[hlt,hll,hg,hg2,hb,hw]
  exact hN' _ _ (by omega) (by omega) (by simp[hrR0])
 ·simp[hlt,hll]
  exact endK hK [] (by simp)
theorem Z1f (ls:List Lt):∀ k front done,(drF 4 ls k front done).length≤k
 | 0,_,_=>by simp[drF]
 | k+1,front,done=>by
  rw[drF]
  split
  ·simp
  ·split
   ·simp
   ·simp only[List.length_cons]
    have:=Z1f ls k (by assumption) (by assumption)
    omega
theorem Zud (ls:List Lt):(Zbs 4 ls).length≤4*ls.length+1:=by
 have h1:=Z1f ls (muN ls (frt0 ls) []+1) (frt0 ls) []
 have h2:cntP (fun l=>isX l && !([]:List Int).contains l.i) ls≤ls.length:=Za4
 have h3:Zaa ls≤ls.length:=Za4
 unfold Zbs
 unfold muN frt0 at *
 rw[List.length_map,Zas]at *
 omega
set_option maxHeartbeats 4000000 in
theorem Z5z (F:Nat) (ls:List Lt) (hF:F≤40) (h:ls.length≤400) (h2:(tuN ls).length≤400):PCall Tryz.prog 15 [picV F ls,picV F ls] (.bool true):=by
 refine Zdi hm Tryz.func15 cf11 rfl rfl (by simp[Zag,Zmk]) trivial fun K hK=>?_
 have hG:gtN F ls ls.length≠[]:=fun e=>by have:=Zgr F ls ls.length; rw[e]at this; simp at this
 have hEq:=c35w (gtN F ls ls.length) (by rw[Zgr]; omega)
 rw[Zj5 (Zmm hG)]at hEq
 have hA:=Z1r (Zbs 4 ls) (by have:=Zud ls; omega)
 have hB:=Z1r (Zbs 4 (tuN ls)) (by have:=Zud (tuN ls); omega)
 have hcI:=Zdl ((Zbs 4 ls).map rwR)
 have hoI:=Zha ((Zbs 4 ls).map rwR)
 have hcJ:=Zdl ((Zbs 4 (tuN ls)).map rwR)
 have hoJ:=Zha ((Zbs 4 (tuN ls)).map rwR)
 unfold picV pcV
 generalize imV ((Zbs 4 ls).map rwR)=IA at *
 generalize imV ((Zbs 4 (tuN ls)).map rwR)=IB at *
 generalize nums (gtN F ls ls.length)=G at *
 simp[hcI,hoI,hcJ,hoJ]
 refine Zbc hEq ?_
 simp
 refine Zbc hA ?_
 simp
 refine Zbc hB ?_
 simp
 exact endK hK [] (by simp)
set_option maxRecDepth 100000 in
set_option maxHeartbeats 8000000 in
theorem cDraws (f:Int) (ls:List Lt):PCall Tryz.prog 3 [cV f ls] (.bool true):=by
 refine Zdi hm Tryz.func3 Z62 rfl rfl (by simp[Zag,AVal.closed,Zac]) trivial fun K hK=>?_
 have h18:=c18 f ls
 by_cases hs:ls.length≤40∧errC f ls=0
 rotate_left
 ·have hb:(decide (ls.length≤40)&&decide (errC f ls=0))=false:=by simpa using hs
  rw[hb]at h18
  unfold cV at *
  generalize ls.map rowL=rows at *
  simp
  refine Zbc h18 ?_
  simp
  refine Zbc Z06 ?_
  simp
  exact endK hK [] (by simp)
 obtain⟨hl,he⟩:=hs
 have hb:(decide (ls.length≤40)&&decide (errC f ls=0))=true:=by simp[hl,he]
 rw[hb]at h18
 obtain⟨hf0,hf1⟩:=Zv2 he
 obtain⟨F,rfl⟩:∃ F:Nat,f=F:=⟨f.toNat,by omega⟩
 have hD:=cDraw F ls he
 have hR:=cRDraw F ls he
 have hS:=Z5z F ls (by omega) (by omega) (by
  by_cases h0:ls=[]
  ·subst h0; simp[Z7k]
  ·exact((Zg2 he h0).turn h0).1.len)
 have hp:(picV F ls).cells=some [.int .i64 (F:Int),.imm (nums (gtN F ls ls.length)),imV ((Zbs 4 ls).map rwR),imV ((Zbs 4 (tuN ls)).map rwR)]:=rfl
 have hcI:=Zdl ((Zbs 4 ls).map rwR)
 have hoI:=Zha ((Zbs 4 ls).map rwR)
 have hcJ:=Zdl ((Zbs 4 (tuN ls)).map rwR)
 have hoJ:=Zha ((Zbs 4 (tuN ls)).map rwR)
 unfold picV pcV at *
 unfold cV at *
 generalize imV ((Zbs 4 ls).map rwR)=IA at *
 generalize imV ((Zbs 4 (tuN ls)).map rwR)=IB at *
 generalize nums (gtN F ls ls.length)=G at *
 generalize ls.map rowL=rows at *
 simp
 refine Zbc h18 ?_
 simp
 refine Zbc hD ?_
 simp[hcI,hoI,hcJ,hoJ]
 refine Zbm hR ?_
 simp
 refine Zbm hS ?_
 simp
 refine Zbm Z06 ?_
 simp
 exact endK hK [] (by simp)
end Go.Known
end
section
namespace Go.Known
open Go Go.AE Go.Proofs
open Go.Plain
open Go.ChangeShapes Go.WideShapes Go.RowKit Go.Deep
variable {H:Type} {enc:TypeId×Value→H} {w:World} {base:Nat} {spare:Nat→Bool} {held:Bool}
theorem Zzd {v:Value} {f:Int} {ls:List Lt} (hR:∀ ρ,R (allP w) ρ (cV f ls) v):Calls Tryz.prog 3 #[v] w fun e w'=>e=.returned (.bool true)∧Below w.heap.size w w':=by
 have hc:=cDraws f ls ⟨fun _=>none,1⟩ []
 refine(hc.2 ⟨w,fun _=>none,allP w⟩ (allP w) (fun _=>none) #[v] w ⟨⟨Below.refl _ _,fun B o hB=>(by cases hB)⟩,fun B c hB=>Z8a hB,fun b x hx=>(by cases hx),fun b b' x x' l l' h1=>(by cases h1),fun b l hb=>(by cases hb),fun B c hB=>.inl hB⟩
  ⟨rfl,fun i x u hx hu=>?_⟩ (fun b hb=>by simp at hb)).mono fun e w' he=>?_
 ·match i,hx,hu with
  | 0,hx,hu=>cases hx; cases hu; exact hR _
  | i+1,hx,hu=>simp at hx
 ·obtain⟨u,r,m',Φ',ρ',rfl,_,_,hr,hRr,_,rfl,_⟩:=he
  refine⟨?_,hr.base.below⟩
  cases hRr
  rfl
end Go.Known
end
