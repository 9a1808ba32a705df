/- Part 49 of the proof: Gg. -/
import Derived.Test.YtilmpmlkndfbjaaGreatDoorK48
set_option linter.all false
namespace Go.Ab
open Go Go.AE Go.Proofs
open Go.Plain
attribute [local simp] C8 D6 D3 B4 B0 C6 D7 C7 D9 B7 C3 Gk E5 B6 D8 C2 C1
def A2(G:List Int)(A B:List Ro):List (List UInt8):=
 (Ek [94] (G.map Int.toNat).sum A).reverse++[Lib.join (Dp 0 (G.map Int.toNat)) [32]]++Ek [118] (G.map Int.toNat).sum B
theorem dD(g:Nat):(F9 g).length≤2:=by unfold F9; split<;>simp
theorem Xp:∀ (gs:List Nat) (g:Nat),∀ s,s∈Dp g gs→s.length≤2
 | [],_,s,h=>by cases h
 | c :: r,g,s,h=>by
  unfold Dp at h;rcases List.mem_append.1 h with h|h
  ·rcases List.mem_append.1 h with h|h
   ·split at h
    ·rw[List.mem_singleton]at h; subst h; exact dD g
    ·cases h
   ·rw[List.eq_of_mem_replicate h]; decide
  ·exact Xp r (g+1) s h
theorem Sy:∀ (gs:List Nat) (g:Nat),(Dp g gs).length≤gs.length+gs.sum
 | [],_=>Nat.zero_le _
 | c :: r,g=>by
  have:=Sy r (g+1);unfold Dp;rw[lA,lA,List.length_replicate,lC,List.sum_cons];have h1:(if 0<g then [F9 g]else []).length≤1:=by split<;>simp
  omega
theorem Oy(cap:List UInt8):∀ (rs:List Ro) (m:Nat),(Ek cap m rs).length=rs.length
 | [],_=>rfl
 | r :: rs,m=>by
  show(Ek cap (Gp m r) rs).length+1=rs.length+1;rw[Oy cap rs]
set_option maxRecDepth 100000 in
set_option maxHeartbeats 16000000 in
theorem uk(F:Int)(G:List Int)(A B:List Ro)(AV BV:Aa)(hA:AY AV A)(hB:AY BV B)(hG:G.length≤200)(Ee:A.length≤200)(Dh:B.length≤200) :
 Cc Tryz.prog 16 [.agg [.int .i64 F,.An (Z1 G),AV,BV]] ⟨[],1⟩ fun r mm=>∃ rows,rows=(if (Dm F G A B).2.2=0 then Z2 (A2 G A B)else []) ∧
  r=.tuple [AH 1 rows,.int .i64 (Dm F G A B).2.2]∧mm=⟨AF 1 1 rows [],2⟩:=by
 refine GV hm [] Tryz.func16 UP rfl rfl fun K hK=>?_
 obtain⟨hAc,hAo,hAcl⟩:=hA.cells;obtain⟨hBc,hBo,hBcl⟩:=hB.cells;have hAlen:=hA.len;have hBlen:=hB.len;have hArn:=hA.AA;have hBrn:=hB.AA;have hGl:=A8 G;have hrG:∀ q,Z3 q (Z1 G)=Z1 G:=fun q=>X7 q _ (N9 G)
 have hrd:=yZ F G A B AV BV hA hB (by omega) (by omega) (by omega)
 unfold Jj at hrd;have hok:=xB (F:=F) (G:=G) (A:=A) (B:=B);obtain⟨f,ls,e,hz⟩:∃ f ls e,Dm F G A B=(f,ls,e):=⟨_,_,_,rfl⟩
 rw[hz]at hrd hok;simp only at hrd hok;have hk:∀ rows,rows=(if e=0 then Z2 (A2 G A B)else [])→K (.tuple [AH 1 rows,.int .i64 e]) ⟨AF 1 1 rows [],2⟩:=fun rows h=>hK _ _ ⟨rows,by rw[hz]; exact h,by rw[hz],rfl⟩
 clear hK;have hcD:=RO (ls.map Ad);have hoD:=SF (ls.map Ad);have hrD:∀ q,(Bx (ls.map Ad)).AA q=Bx (ls.map Ad):=fun q=>Aa.Bn q _ (LO (R7 ls))
 generalize Bx (ls.map Ad)=DV at *;simp[hAc,hBc,hAo,hBo];refine L3 hrd ?_;by_cases he:¬e=0
 ·have hk1:=hk [] (by rw[iN he])
  simp[hcD,hoD,he];exact Z6 hk1 [] (by simp)
 replace he:e=0:=Classical.not_not.1 he
 subst he;obtain⟨o1,o2,o3,o4,o5,o6,o7⟩:=hok rfl;have hG0:G≠[]:=fun e=>by rw[e]at o3; simp at o3; omega
 have hk1:=hk _ (by rw[iP rfl])
 clear hk hrd hok hz;unfold A2 at hk1;obtain⟨gs,hgs⟩:∃ gs:List Nat,gs=G.map Int.toNat:=⟨_,rfl⟩
 rw[← hgs]at hk1 o5 o6 o7;have Dd:gs.length=G.length:=by rw[hgs,lM]
 have hGi:∀ i,i<gs.length→(Z1 G)[i]? = some [.int .i64 (gs.getD i 0:Nat)]:=fun i hi=>by
  rw[Kn (by omega)]
  have hp:0≤G.getD i 0:=by
   rcases Int.lt_or_le (G.getD i 0) 0 with c|c
   ·exact absurd ((Ts hG0).2 ⟨_,(by rw[List.getD,gE (by omega)]; exact List.getElem_mem _),c⟩) o4
   ·exact c
  have:gs.getD i 0=(G.getD i 0).toNat:=by rw[hgs,List.getD,gM,List.getD,gE (by omega)]; rfl
  rw[this]
  congr 3
  omega
 have hGlen:(Z1 G).length=gs.length:=by rw[hGl,Dd]
 have hg41:gs.length≤41:=by omega
 clear hgs hG0;generalize Z1 G=GR at *;simp[hcD,hoD,V9,hGlen];have hs1:∀ (c:Nat) (x:List Aa),AH c [x]=.sl c 0 1:=fun _ _=>rfl
 have Bg:∀ (c k:Nat) (x:List Aa) (r:List (Nat×Ag)),AF c k [x] r=(c,.cells k [x]) :: r:=fun _ _ _ _=>rfl
 have e0:Z2 (Dp 0 (gs.take 0))=[]:=rfl;refine T6 (α:=Nat) (fun i=>[(1,.ptr 1 0 0),(6,AH 2 (Z2 (Dp 0 (gs.take i)))),(7,.int .i64 (gs.take i).sum),(20,.An GR),(21,.int .i64 gs.length),(22,.int .i64 i)])
  (fun i=>⟨[(1,.cells 4 [[.int .i64 F,.An GR,AV,BV]])]++AF 2 1 (Z2 (Dp 0 (gs.take i))) [],3⟩) (fun i=>gs.length - i) (fun i=>i≤gs.length) 0 [] (by rw[e0]; simp[hrG,hArn,hBrn]) (by omega) ?_
 intro i hi N hN;by_cases hend:¬i=gs.length
 ·have hil:i<gs.length:=by omega
  have hili:(i:Int)<gs.length:=by omega
  have hg:=hGi i hil;obtain⟨_,hg2⟩:=Y6 hg;have hN1:=hN (i+1);have hs0:(gs.take (i+1)).sum=(gs.take i).sum+gs.getD i 0:=by
   rw[List.take_add_one,List.sum_append,List.getD,gE hil];simp
  have hsl:(gs.take i).sum+gs.getD i 0≤400:=by
   have h2:(gs.take (i+1)).sum+(gs.drop (i+1)).sum=gs.sum:=by rw[← List.sum_append,List.take_append_drop]
   omega
  have hal:=Sy (gs.take i) 0;rw[lK]at hal;have hw:=Y1 ((i:Int)+1) ((i+1:Nat):Int);rw[hs0,sZ hil]at hN1;have hIl:i<GR.length:=by omega
  generalize gs.getD i 0=c at *;generalize (gs.take i).sum=s at *;obtain⟨Y,hY⟩:∃ Y,Y=Dp 0 (gs.take i):=⟨_,rfl⟩
  rw[← hY]at hal hN1 ⊢;have hYr:=fun q=>HH q Y
  have hYl:=I9 Y;by_cases h0:0<i
  ·rw[iP h0]at hN1;have h0i:(0:Int)<i:=by omega
   have hit:=Z5n (g:=i) (by omega)
   obtain⟨X,hX⟩:∃ X,X=Y++[F9 i]:=⟨_,rfl⟩
   rw[← hX]at hN1;have hXY:Z2 X=Z2 Y++[[.str (F9 i)]]:=by rw[hX,IC]
   have hXlen:X.length=Y.length+1:=by rw[hX]; simp
   generalize F9 i=nu at *;simp[hil,hili,hg,hg2,h0,h0i,hIl,hGlen];refine L3 hit ?_;by_cases hYe:Z2 Y=[]
   ·rw[hYe]at hXY;simp[hYe,Z8,T3,T0];have hXr:=fun q k=>HH q (X++List.replicate k [124])
    have hXl:∀ k,(Z2 (X++List.replicate k [124])).length=X.length+k:=fun k=>by rw[I9,lA,List.length_replicate]
    have hXs:∀ k,Z2 (X++List.replicate (k+1) [124])=Z2 (X++List.replicate k [124])++[[.str [124]]]:=fun k=>by rw[List.replicate_succ',← List.append_assoc,IC]
    have hX0:Z2 (X++List.replicate 0 [124])=Z2 X:=by simp
    refine T6 (α:=Nat) (fun k=>[(1,.ptr 1 0 0),(6,AH 2 (Z2 (X++List.replicate k [124]))),(7,.int .i64 (s+k:Nat)),(20,.An GR),(21,.int .i64 gs.length),(22,.int .i64 i),(34,.int .i64 c),(35,.int .i64 k)])
     (fun k=>⟨[(1,.cells 4 [[.int .i64 F,.An GR,AV,BV]])]++AF 2 1 (Z2 (X++List.replicate k [124])) [],3⟩) (fun k=>c - k) (fun k=>k≤c) 0 [(2,15)] (by rw[hX0]; rw[hXY]; simp +contextual [hrG,hArn,hBrn,hs1,Bg]) (by omega) ?_
    intro k hkc N2 hN2;have hXk:=fun q=>hXr q k
    have hXk1:=fun q=>hXr q (k+1)
    have hXlk:=hXl k;by_cases he2:¬k=c
    ·have hkl:k<c:=by omega
     have hkli:(k:Int)<c:=by omega
     have hN3:=hN2 (k+1);have hwk:=Y1 ((k:Int)+1) ((k+1:Nat):Int);have hws:=Y1 (((s+k:Nat):Int)+1) ((s+(k+1):Nat):Int);rw[hXs k]at hN3;have hlb:X.length+k≤1048575:=by omega
     have hne:¬X.length+k+1≤X.length+k:=by omega
     have hXtk:List.take (X.length+k) (Z2 (X++List.replicate k [124]))=Z2 (X++List.replicate k [124]):=tL (by omega)
     generalize s+(k+1)=s1 at *;generalize s+k=s0 at *;generalize Z2 (X++List.replicate k [124])=XX at *;by_cases BO:XX=[]
     ·subst BO;simp[hkl,hkli,hwk,hws,Z8,T3,T0];exact hN3 [(2,6)] _ _ (by omega) (by omega) (by simp +contextual [hrG,hArn,hBrn,hs1,Bg])
     ·simp[hkl,hkli,hwk,hws,Z8,Y4 BO,Z9 BO,BO,hXlk,hlb,hne,hXtk];exact hN3 [(2,6)] _ _ (by omega) (by omega) (by simp +contextual [hrG,hArn,hBrn,hXk,hXlk])
    ·replace he2:c=k:=(Classical.not_not.1 he2).symm
     subst he2;generalize Z2 (X++List.replicate c [124])=XX at *;simp[hw];exact hN1 [] _ _ (by omega) (by omega) (by simp +contextual [hrG,hArn,hBrn,hXk])
   ·have hlb0:Y.length≤1048575:=by omega
    have hne0:¬Y.length+1≤Y.length:=by omega
    have hYt:List.take Y.length (Z2 Y)=Z2 Y:=tL (by omega)
    simp[Z8,Y4 hYe,Z9 hYe,hYe,hYl,hlb0,hne0,hYt];have hXr:=fun q k=>HH q (X++List.replicate k [124])
    have hXl:∀ k,(Z2 (X++List.replicate k [124])).length=X.length+k:=fun k=>by rw[I9,lA,List.length_replicate]
    have hXs:∀ k,Z2 (X++List.replicate (k+1) [124])=Z2 (X++List.replicate k [124])++[[.str [124]]]:=fun k=>by rw[List.replicate_succ',← List.append_assoc,IC]
    have hX0:Z2 (X++List.replicate 0 [124])=Z2 X:=by simp
    refine T6 (α:=Nat) (fun k=>[(1,.ptr 1 0 0),(6,AH 2 (Z2 (X++List.replicate k [124]))),(7,.int .i64 (s+k:Nat)),(20,.An GR),(21,.int .i64 gs.length),(22,.int .i64 i),(34,.int .i64 c),(35,.int .i64 k)])
     (fun k=>⟨[(1,.cells 4 [[.int .i64 F,.An GR,AV,BV]])]++AF 2 1 (Z2 (X++List.replicate k [124])) [],3⟩) (fun k=>c - k) (fun k=>k≤c) 0 [(2,15)] (by rw[hX0]; rw[hXY]; simp +contextual [hrG,hArn,hBrn,hYr,hYl]) (by omega) ?_
    intro k hkc N2 hN2;have hXk:=fun q=>hXr q k
    have hXk1:=fun q=>hXr q (k+1)
    have hXlk:=hXl k;by_cases he2:¬k=c
    ·have hkl:k<c:=by omega
     have hkli:(k:Int)<c:=by omega
     have hN3:=hN2 (k+1);have hwk:=Y1 ((k:Int)+1) ((k+1:Nat):Int);have hws:=Y1 (((s+k:Nat):Int)+1) ((s+(k+1):Nat):Int);rw[hXs k]at hN3;have hlb:X.length+k≤1048575:=by omega
     have hne:¬X.length+k+1≤X.length+k:=by omega
     have hXtk:List.take (X.length+k) (Z2 (X++List.replicate k [124]))=Z2 (X++List.replicate k [124]):=tL (by omega)
     generalize s+(k+1)=s1 at *;generalize s+k=s0 at *;generalize Z2 (X++List.replicate k [124])=XX at *;by_cases BO:XX=[]
     ·subst BO;simp[hkl,hkli,hwk,hws,Z8,T3,T0];exact hN3 [(2,6)] _ _ (by omega) (by omega) (by simp +contextual [hrG,hArn,hBrn,hs1,Bg])
     ·simp[hkl,hkli,hwk,hws,Z8,Y4 BO,Z9 BO,BO,hXlk,hlb,hne,hXtk];exact hN3 [(2,6)] _ _ (by omega) (by omega) (by simp +contextual [hrG,hArn,hBrn,hXk,hXlk])
    ·replace he2:c=k:=(Classical.not_not.1 he2).symm
     subst he2;generalize Z2 (X++List.replicate c [124])=XX at *;simp[hw];exact hN1 [] _ _ (by omega) (by omega) (by simp +contextual [hrG,hArn,hBrn,hXk])
  ·rw[iN h0,List.append_nil]at hN1;have h0i:¬(0:Int)<i:=by omega
   have hi0:i=0:=by omega
   obtain⟨X,hX⟩:∃ X,X=Y:=⟨_,rfl⟩
   rw[← hX]at hN1 hYr hYl hal ⊢;simp[hil,hili,hg,hg2,h0,h0i,hIl,hGlen];have hXr:=fun q k=>HH q (X++List.replicate k [124])
   have hXl:∀ k,(Z2 (X++List.replicate k [124])).length=X.length+k:=fun k=>by rw[I9,lA,List.length_replicate]
   have hXs:∀ k,Z2 (X++List.replicate (k+1) [124])=Z2 (X++List.replicate k [124])++[[.str [124]]]:=fun k=>by rw[List.replicate_succ',← List.append_assoc,IC]
   have hX0:Z2 (X++List.replicate 0 [124])=Z2 X:=by simp
   refine T6 (α:=Nat) (fun k=>[(1,.ptr 1 0 0),(6,AH 2 (Z2 (X++List.replicate k [124]))),(7,.int .i64 (s+k:Nat)),(20,.An GR),(21,.int .i64 gs.length),(22,.int .i64 i),(34,.int .i64 c),(35,.int .i64 k)])
    (fun k=>⟨[(1,.cells 4 [[.int .i64 F,.An GR,AV,BV]])]++AF 2 1 (Z2 (X++List.replicate k [124])) [],3⟩) (fun k=>c - k) (fun k=>k≤c) 0 [] (by rw[hX0]; simp +contextual [hrG,hArn,hBrn,hYr]) (by omega) ?_
   intro k hkc N2 hN2;have hXk:=fun q=>hXr q k
   have hXk1:=fun q=>hXr q (k+1)
   have hXlk:=hXl k;by_cases he2:¬k=c
   ·have hkl:k<c:=by omega
    have hkli:(k:Int)<c:=by omega
    have hN3:=hN2 (k+1);have hwk:=Y1 ((k:Int)+1) ((k+1:Nat):Int);have hws:=Y1 (((s+k:Nat):Int)+1) ((s+(k+1):Nat):Int);rw[hXs k]at hN3;have hlb:X.length+k≤1048575:=by omega
    have hne:¬X.length+k+1≤X.length+k:=by omega
    have hXtk:List.take (X.length+k) (Z2 (X++List.replicate k [124]))=Z2 (X++List.replicate k [124]):=tL (by omega)
    generalize s+(k+1)=s1 at *;generalize s+k=s0 at *;generalize Z2 (X++List.replicate k [124])=XX at *;by_cases BO:XX=[]
    ·subst BO;simp[hkl,hkli,hwk,hws,Z8,T3,T0];exact hN3 [(2,6)] _ _ (by omega) (by omega) (by simp +contextual [hrG,hArn,hBrn,hs1,Bg])
    ·simp[hkl,hkli,hwk,hws,Z8,Y4 BO,Z9 BO,BO,hXlk,hlb,hne,hXtk];exact hN3 [(2,6)] _ _ (by omega) (by omega) (by simp +contextual [hrG,hArn,hBrn,hXk,hXlk])
   ·replace he2:c=k:=(Classical.not_not.1 he2).symm
    subst he2;generalize Z2 (X++List.replicate c [124])=XX at *;simp[hw];exact hN1 [] _ _ (by omega) (by omega) (by simp +contextual [hrG,hArn,hBrn,hXk])
 ·replace hend:i=gs.length:=Classical.not_not.1 hend
  subst hend;clear hN;rw[List.take_length];obtain⟨m,hm⟩:∃ m,m=gs.sum:=⟨_,rfl⟩
  rw[← hm]at o5 o6 o7 hk1 ⊢;have hla:=uS [94] (by simp) m AV A hA o6 o5 Ee
  have hlb:=uS [118] (by simp) m BV B hB o7 o5 Dh
  have GZ:=Sy gs 0;have haj:=Zt (Dp 0 gs) 2 (Xp gs 0);have hLr:=fun q l=>HH q l
  obtain⟨LA,hLA⟩:∃ LA,LA=Ek [94] m A:=⟨_,rfl⟩
  obtain⟨LB,hLB⟩:∃ LB,LB=Ek [118] m B:=⟨_,rfl⟩
  rw[← hLA]at hla hk1;rw[← hLB]at hlb hk1;have hLAl:=Oy [94] A m;have hLBl:=Oy [118] B m;rw[← hLA]at hLAl;rw[← hLB]at hLBl;have hk2:K (.tuple [AH 1 (Z2 LA.reverse++[[.str (Lib.join (Dp 0 gs) [32])]]++Z2 LB),.int .i64 0]) ⟨AF 1 1 (Z2 LA.reverse++[[.str (Lib.join (Dp 0 gs) [32])]]++Z2 LB) [],2⟩:=by
   have:Z2 (LA.reverse++[Lib.join (Dp 0 gs) [32]]++LB)=Z2 LA.reverse++[[.str (Lib.join (Dp 0 gs) [32])]]++Z2 LB:=by simp[Z2]
   rw[← this];exact hk1
  clear hk1;generalize Dp 0 gs=TX at *;simp[hAc,hAo];have hTl:=I9 TX;have hAl2:=I9 LA;have hAl3:=I9 LA.reverse;have hBl2:=I9 LB;have hjb:(Lib.join TX [32]).length≤1000000:=by omega
  have hlrev:LA.reverse.length=LA.length:=List.length_reverse ..;refine V4 hla [] (by simp[hArn]) (by simp) (by simp) ?_
  rintro _ _ ⟨rfl,rfl⟩;by_cases hAe:Z2 LA=[]
  ·have hLA0:LA=[]:=List.length_eq_zero_iff.1 (by rw[← hAl2,hAe]; rfl)
   subst hLA0;have hr0:Z2 ([]:List (List UInt8)).reverse=[]:=rfl;rw[hr0]at hk2;simp[hAe,T3,T0,hrG,hArn,hBrn,hLr];refine V4 tv [] (by simp) (by simp) (by simp) ?_
   rintro _ _ ⟨rfl,rfl⟩;by_cases hTe:Z2 TX=[]
   ·have hTX:TX=[]:=List.length_eq_zero_iff.1 (by rw[← hTl,hTe]; rfl)
    subst hTX;have hT0:Z2 ([]:List (List UInt8))=[]:=rfl;have hjs:Lib.join [] [32]=[]:=rfl;rw[hjs]at hk2;simp[hT0,T3,T0,hBc,hBo];refine vJ ?_;simp[hT0,T3,T0,Z8,hBc,hBo];refine V4 hlb [] (by simp[hBrn]) (by simp) (by simp) ?_
    rintro _ _ ⟨rfl,rfl⟩;by_cases hBe:Z2 LB=[]
    ·rw[hBe]at hk2 ⊢;simp[Z8,hAl3,hlrev,hBc,hBo,T3,T0,hLr,T7,Q3];exact Z6 hk2 [(1,16)] (by simp +contextual [hLr,hs1,Bg,hAl3,hlrev,AH,AF])
    ·have hBt:List.take LB.length (Z2 LB)=Z2 LB:=tL (by omega)
     have hb5:¬1+LB.length≤1:=fun e=>hBe (List.length_eq_zero_iff.1 (by omega))
     have hb6:1+LB.length≤1048576:=by omega
     simp[Z8,hAl3,hlrev,hBc,hBo,Y4 hBe,Z9 hBe,hBe,hBl2,hLr,T7,Q3,hBt,hb5,hb6];exact Z6 hk2 [(1,23)] (by simp +contextual [hLr,hs1,Bg,hAl3,hlrev,hBl2,AH,AF]; omega)
   ·simp[Y4 hTe,Z9 hTe,hTe,hTl,hBc,hBo];refine Sq (l:=TX) rfl rfl (by rcases Nat.eq_zero_or_pos TX.length with c|c; exact absurd (List.length_eq_zero_iff.1 (hTl.trans c)) hTe; exact c) (by omega) hjb ?_
    generalize Lib.join TX [32]=JS at *;simp[Z8,hBc,hBo];refine V4 hlb [] (by simp[hBrn]) (by simp) (by simp) ?_
    rintro _ _ ⟨rfl,rfl⟩;by_cases hBe:Z2 LB=[]
    ·rw[hBe]at hk2 ⊢;simp[Z8,hAl3,hlrev,hBc,hBo,T3,T0,hLr,T7,Q3];exact Z6 hk2 [(1,16)] (by simp +contextual [hLr,hs1,Bg,hAl3,hlrev,AH,AF])
    ·have hBt:List.take LB.length (Z2 LB)=Z2 LB:=tL (by omega)
     have hb5:¬1+LB.length≤1:=fun e=>hBe (List.length_eq_zero_iff.1 (by omega))
     have hb6:1+LB.length≤1048576:=by omega
     simp[Z8,hAl3,hlrev,hBc,hBo,Y4 hBe,Z9 hBe,hBe,hBl2,hLr,T7,Q3,hBt,hb5,hb6];exact Z6 hk2 [(1,23)] (by simp +contextual [hLr,hs1,Bg,hAl3,hlrev,hBl2,AH,AF]; omega)
  ·have hrv:=Z6i LA (by omega)
   simp[Y4 hAe,Z9 hAe,hAe,hAl2,hrG,hArn,hBrn,hLr];refine V4 hrv [(1,9)] (by simp) (by simp[hLr]) (by simp) ?_
   rintro _ _ ⟨rfl,rfl⟩;have hjt:∀ x,List.take (LA.length+1) (Z2 LA.reverse++[x])=Z2 LA.reverse++[x]:=fun x=>tL (by simp[hAl3])
   have hne1:¬LA.length+1≤LA.length:=by omega
   have hlb1:LA.length≤1048575:=by omega
   have hrt:List.take LA.length (Z2 LA.reverse)=Z2 LA.reverse:=tL (by omega)
   by_cases hTe:Z2 TX=[]
   ·have hTX:TX=[]:=List.length_eq_zero_iff.1 (by rw[← hTl,hTe]; rfl)
    subst hTX;have hT0:Z2 ([]:List (List UInt8))=[]:=rfl;have hjs:Lib.join [] [32]=[]:=rfl;rw[hjs]at hk2;simp[hT0,T3,T0,hLr];refine vJ ?_;simp[hT0,T3,T0,Z8,hAl3,hlrev,hne1,hlb1,hrt,hBc,hBo];refine V4 hlb [] (by simp[hBrn]) (by simp) (by simp) ?_
    rintro _ _ ⟨rfl,rfl⟩;by_cases hBe:Z2 LB=[]
    ·rw[hBe]at hk2 ⊢;simp[Z8,hAl3,hlrev,hBc,hBo,T3,T0,hLr,T7,Q3];exact Z6 hk2 [(1,16)] (by simp +contextual [hLr,hs1,Bg,hAl3,hlrev,AH,AF])
    ·have hBt:List.take LB.length (Z2 LB)=Z2 LB:=tL (by omega)
     have hb5:¬LA.length+1+LB.length≤LA.length+1:=fun e=>hBe (List.length_eq_zero_iff.1 (by omega))
     have hb6:LA.length+1+LB.length≤1048576:=by omega
     simp[Z8,hAl3,hlrev,hBc,hBo,Y4 hBe,Z9 hBe,hBe,hBl2,hLr,T7,Q3,hBt,hb5,hb6,hjt];exact Z6 hk2 [(1,23)] (by simp +contextual [hLr,hs1,Bg,hAl3,hlrev,hBl2,AH,AF]; omega)
   ·simp[Y4 hTe,Z9 hTe,hTe,hTl,hLr];refine Sq (l:=TX) rfl rfl (by rcases Nat.eq_zero_or_pos TX.length with c|c; exact absurd (List.length_eq_zero_iff.1 (hTl.trans c)) hTe; exact c) (by omega) hjb ?_
    generalize Lib.join TX [32]=JS at *;simp[Z8,hAl3,hlrev,hne1,hlb1,hrt,hBc,hBo];refine V4 hlb [] (by simp[hBrn]) (by simp) (by simp) ?_
    rintro _ _ ⟨rfl,rfl⟩;by_cases hBe:Z2 LB=[]
    ·rw[hBe]at hk2 ⊢;simp[Z8,hAl3,hlrev,hBc,hBo,T3,T0,hLr,T7,Q3];exact Z6 hk2 [(1,16)] (by simp +contextual [hLr,hs1,Bg,hAl3,hlrev,AH,AF])
    ·have hBt:List.take LB.length (Z2 LB)=Z2 LB:=tL (by omega)
     have hb5:¬LA.length+1+LB.length≤LA.length+1:=fun e=>hBe (List.length_eq_zero_iff.1 (by omega))
     have hb6:LA.length+1+LB.length≤1048576:=by omega
     simp[Z8,hAl3,hlrev,hBc,hBo,Y4 hBe,Z9 hBe,hBe,hBl2,hLr,T7,Q3,hBt,hb5,hb6,hjt];exact Z6 hk2 [(1,23)] (by simp +contextual [hLr,hs1,Bg,hAl3,hlrev,hBl2,AH,AF]; omega)
end Go.Ab
