/- Part 43 of the proof: Et, Eu. -/
import Derived.Test.YtilmpmlkndfbjaaGreatDoorK42
set_option linter.all false
section
namespace Go.Ab
open Go Go.AE Go.Proofs
open Go.Plain
attribute [local simp] C8 D6 D3 B4 B0 C6 D7 C7 D9 B7 C3 Gk E5 B6 D8 C2 C1
def BM(X:List Nd):List (List Aa):=X.map fun x=>[.bool x.1]
def BL(X:List Nd):List (List Aa):=X.map fun x=>[.bool x.2]
theorem OH:∀ X:List Nd,V3 (BM X)=true∧V3 (BL X)=true
 | []=>⟨rfl,rfl⟩
 | x :: r=>by
  have:=OH r;simp only[BM,BL,List.map_cons,V3,W9,Aa.closed,Bool.and_true,Bool.true_and]at this ⊢;exact this
theorem KK{id k bytes:Nat}{get:Nat→Option Ag}{xs:List (List Aa)}(h:xs.length≤1048576)(hb:bytes≤1048576):Z8 id k bytes get .Ai xs=some (AH id xs,Rt id k xs):=by
 have hrm:W6=1048576:=rfl;rw[← hrm]at h hb;unfold AH Rt;by_cases hx:xs=[]
 ·subst hx; rfl
 ·rw[iN hx,iN hx];simp only[Z8,iN hx];rw[iP ⟨h,hb⟩]
def DY(c i:Nat):List Nat:=(List.range i).map fun k=>2*k+c
theorem nN(r:Ro)(rs:List Ro):V0 (r :: rs)=V0 rs+if r.1=2 then 1 else 0:=by
 unfold V0;rw[List.filter_cons];by_cases hk:r.1=2<;>simp[hk]
theorem qo(c i:Nat):Z0 (DY c (i+1))=Z0 (DY c i)++[[.int .i64 ((2*i+c:Nat):Int)]]:=by
 unfold DY;rw[List.range_succ,List.map_append];simp[Z0]
theorem zu(c i:Nat):(Z0 (DY c i)).length=i:=by rw[O5]; simp[DY]
set_option maxRecDepth 100000 in
set_option maxHeartbeats 16000000 in
theorem qD(m N c:Nat)(below:Bool)(hc:c=if below then 1 else 0)(V:Aa)(rs:List Ro)(hV:AY V rs)(L:List (Nat×Nat))(X:List Nd)(CX:List Nat)(hO:CU m (DY c m) CX L X)(hn:2*m+4*(X.length+V0 rs)≤N)(hNb:N≤10000)(hrl:rs.length≤1000) :
 Cc Tryz.prog 30 [.agg [.int .i64 m,.sl 1 0 N,AH 2 (BM X),AH 3 (BL X)],V,.int .i64 c,.int .i64 X.length] ⟨(1,.cells 1 (Z1 (Cr N L))) :: AF 2 1 (BM X) (AF 3 1 (BL X) []),4⟩ fun r mm=>
  r=.tuple [.agg [.int .i64 m,.sl 4 0 N,AH 5 (BM (X9 m below rs (DY c m) L X).2.2),AH 6 (BL (X9 m below rs (DY c m) L X).2.2)],.int .i64 (X9 m below rs (DY c m) L X).2.2.length,.bool (X9 m below rs (DY c m) L X).1] ∧
  mm=⟨(4,.cells 1 (Z1 (Cr N (X9 m below rs (DY c m) L X).2.1))) :: AF 5 1 (BM (X9 m below rs (DY c m) L X).2.2) (AF 6 1 (BL (X9 m below rs (DY c m) L X).2.2) []),7⟩:=by
 refine GV hm [55] Tryz.func30 Z54 rfl rfl fun K hK=>?_
 obtain⟨res,hres⟩:∃ res,res=X9 m below rs (DY c m) L X:=⟨_,rfl⟩
 rw[← hres]at hK;have hVlen:=hV.len;have hVrn:=hV.AA;obtain⟨hVc,hVo,hVcl⟩:=hV.cells;have hVi:=fun {get:Nat→Option Ag} {i:Nat} (hi:i<rs.length)=>hV.idx (get:=get) hi
 have hRg:∀ i (h:i<rs.length),(rs.map BN)[i]? = some (BN rs[i]):=fun i h=>by rw[gM,gE h]; rfl
 have hRrn:∀ q,Z3 q (rs.map BN)=rs.map BN:=fun q=>X7 q _ (MH rs)
 have hnn:∀ q (l:List Nat),Z3 q (Z0 l)=Z0 l:=fun q l=>Y0 q l
 have hJJ:∀ q (l:List Int),Z3 q (Z1 l)=Z1 l:=fun q l=>X7 q _ (N9 l)
 have hOO:∀ q X,Z3 q (BM X)=BM X:=fun q X=>X7 q _ (OH X).1
 have hLL:∀ q X,Z3 q (BL X)=BL X:=fun q X=>X7 q _ (OH X).2
 have hmb:m≤5000:=by omega
 have hs1:∀ (c:Nat) (x:List Aa),AH c [x]=.sl c 0 1:=fun _ _=>rfl
 have Bg:∀ (c k:Nat) (x:List Aa) (r:List (Nat×Ag)),AF c k [x] r=(c,.cells k [x]) :: r:=fun _ _ _ _=>rfl
 have hc1:c≤1:=by rw[hc]; split<;>omega
 simp[D2];refine T6 (α:=Nat) (fun i=>[(1,V),(2,.int .i64 c),(3,.int .i64 X.length),(4,.ptr 4 0 0),(8,.ptr 5 0 0),(11,AH 6 (Z0 (DY c i))),(12,.int .i64 i)])
  (fun i=>⟨[(5,.cells 4 [[.int .i64 0,.Ai,.Ai,.Ai]]),(4,.cells 4 [[.int .i64 m,.sl 1 0 N,AH 2 (BM X),AH 3 (BL X)]]),(1,.cells 1 (Z1 (Cr N L)))]++AF 6 1 (Z0 (DY c i)) (AF 2 1 (BM X) (AF 3 1 (BL X) [])),7⟩) (fun i=>m - i) (fun i=>i≤m) 0 []
  (by have e0:Z0 (DY c 0)=[]:=rfl;rw[e0];simp +contextual [hVrn,hJJ,hOO,hLL]) (by omega) ?_
 ·intro i hi N' hN';have hJ:=fun q=>hJJ q (Cr N L)
  have hO1:=fun q=>hOO q X
  have hL1:=fun q=>hLL q X
  by_cases hend:¬i=m
  ·have hil:i<m:=by omega
   have hili:(i:Int)<m:=by omega
   have hN1:=hN' (i+1);have hFl:=zu c i;have hFr:=fun q=>hnn q (DY c i)
   rw[qo]at hN1;have hwi:=Y1 ((i:Int)+1) ((i+1:Nat):Int);have hw2:IntKind.i64.wrap (2*(i:Int))=2*i:=S8 (by omega) (by omega)
   have hw3:=Y1 (2*(i:Int)+c) ((2*i+c:Nat):Int);generalize 2*i+c=y at *;generalize Z0 (DY c i)=FF at *;generalize Z1 (Cr N L)=J at *;generalize BM X=O at *;generalize BL X=W at *;have hb:i≤1048575:=by omega
   have hne:¬i+1≤i:=by omega
   by_cases hF:FF=[]
   ·subst hF;simp[hil,hili,hwi,hw2,hw3,T3,T0,Z8];exact hN1 [(6,17)] _ _ (by omega) (by omega) (by simp +contextual [hVrn,hJ,hO1,hL1,hs1,Bg])
   ·have hT:List.take i FF=FF:=tL (by omega)
    simp[hil,hili,hwi,hw2,hw3,Y4 hF,Z9 hF,hF,hFl,hne,hb,hT,Z8];exact hN1 [(6,17)] _ _ (by omega) (by omega) (by simp +contextual [hVrn,hJ,hO1,hL1,hFr,hFl])
  ·replace hend:i=m:=Classical.not_not.1 hend
   replace hend:=hend.symm
   subst hend;clear hN';simp;refine T6 (α:=Nat×List Nat×List (Nat×Nat)×List Nd) (fun a=>[(1,V),(2,.int .i64 c),(3,.int .i64 a.2.2.2.length),(4,.ptr 4 0 0),(8,.ptr 5 0 0),(11,AH 6 (Z0 a.2.1)),(13,.int .i64 a.1)])
    (fun a=>⟨[(5,.cells 4 [[.int .i64 0,.Ai,.Ai,.Ai]]),(4,.cells 4 [[.int .i64 m,.sl 1 0 N,AH 7 (BM a.2.2.2),AH 8 (BL a.2.2.2)]]),(1,.cells 1 (Z1 (Cr N a.2.2.1)))]++AF 6 1 (Z0 a.2.1) (AF 7 1 (BM a.2.2.2) (AF 8 1 (BL a.2.2.2) [])),9⟩)
    (fun a=>rs.length - a.1) (fun a=>a.1≤rs.length∧CU m a.2.1 CX a.2.2.1 a.2.2.2∧2*m+4*(a.2.2.2.length+V0 (rs.drop a.1))≤N∧X9 m below (rs.drop a.1) a.2.1 a.2.2.1 a.2.2.2=res)
    (0,DY c m,L,X) [(7,2),(8,3)] (by simp +contextual [hVrn,hJJ,hOO,hLL,hnn]) ⟨by simp,hO,by simpa using hn,by simpa using hres.symm⟩ ?_
   clear hJ hO1 hL1 hO hn hres hi;rintro⟨i,F,L,X⟩ ⟨hi,hO,hk,hs⟩ N' hN;simp only at hi hO hk hs;obtain⟨hFl,hLl,hFn⟩:=hO.lt;have hFnl:=O5 F;have hJ:=fun q=>hJJ q (Cr N L)
   have hO1:=fun q=>hOO q X
   have hL1:=fun q=>hLL q X
   have hF1:=fun q=>hnn q F
   have hw1:=Y1 ((i:Int)+1) ((i+1:Nat):Int);by_cases hend:i=rs.length
   ·subst hend;rw[List.drop_length]at hs;simp only[X9]at hs;subst hs;have hd:decide (F=[])=decide (F.length=0):=by simp
    have hKb:=hK _ _ ⟨rfl,rfl⟩;simp only[hd]at hKb;clear hK hN;generalize Z1 (Cr N L)=J at *;generalize BM X=O at *;generalize BL X=W at *;simp[hVlen, D2,Hy,hFnl];exact Z6 hKb [(4,1),(5,7),(6,8)] (by simp +contextual [hJ,hO1,hL1])
   have hil:i<rs.length:=by omega
   have hili:(i:Int)<rs.length:=by omega
   have hix:=fun (get:Nat→Option Ag)=>hVi (get:=get) hil
   have hg:=hRg i hil;obtain⟨_,hg2⟩:=Y6 hg;rw[List.drop_eq_getElem_cons hil]at hs hk;rw[nN]at hk;generalize rs.map BN=RR at *;obtain⟨⟨kd,at0,nn,ov⟩,hr⟩:∃ r,r=rs[i]:=⟨_,rfl⟩
   rw[← hr]at hs hg hg2 hk;simp only[X9,BN]at hs hg hg2 hk;have hw2:=X5 ((F.length:Int) - 2);by_cases h2:kd=2
   ·subst h2;by_cases c1:at0<0
    ·rw[iN (by simp only[M8]; first|omega|simp),iN (by simp only[J3]; omega)]at hs
     subst hs;have hKb:=hK _ _ ⟨rfl,rfl⟩;clear hK hN;simp only at hKb;generalize Z1 (Cr N L)=J at *;generalize BM X=O at *;generalize BL X=W at *;simp[hil,hili,hix,hg,hg2,hVlen, D2,Hy,hFnl,c1];exact Z6 hKb [(4,1),(5,7),(6,8)] (by simp +contextual [hJ,hO1,hL1])
    by_cases c2:nn<1
    ·rw[iN (by simp only[M8]; first|omega|simp),iN (by simp only[J3]; omega)]at hs
     subst hs;have hKb:=hK _ _ ⟨rfl,rfl⟩;clear hK hN;simp only at hKb;generalize Z1 (Cr N L)=J at *;generalize BM X=O at *;generalize BL X=W at *;simp[hil,hili,hix,hg,hg2,hVlen, D2,Hy,hFnl,c1,c2];exact Z6 hKb [(4,1),(5,7),(6,8)] (by simp +contextual [hJ,hO1,hL1])
    by_cases c3:4<nn
    ·rw[iN (by simp only[M8]; first|omega|simp),iN (by simp only[J3]; omega)]at hs
     subst hs;have hKb:=hK _ _ ⟨rfl,rfl⟩;clear hK hN;simp only at hKb;generalize Z1 (Cr N L)=J at *;generalize BM X=O at *;generalize BL X=W at *;simp[hil,hili,hix,hg,hg2,hVlen, D2,Hy,hFnl,c1,c2,c3];exact Z6 hKb [(4,1),(5,7),(6,8)] (by simp +contextual [hJ,hO1,hL1])
    obtain⟨a,rfl⟩:∃ a:Nat,at0=(a:Int):=⟨at0.toNat,by omega⟩
    obtain⟨k,rfl⟩:∃ k:Nat,nn=(k:Int):=⟨nn.toNat,by omega⟩
    have hw2k:=X5 ((F.length:Int) - k);by_cases c4:(F.length:Int) - k<a
    ·rw[iN (by simp only[M8]; first|omega|simp),iN (by simp only[J3]; omega)]at hs
     subst hs;have hKb:=hK _ _ ⟨rfl,rfl⟩;clear hK hN;simp only at hKb;generalize Z1 (Cr N L)=J at *;generalize BM X=O at *;generalize BL X=W at *;simp[hil,hili,hix,hg,hg2,hVlen, D2,Hy,hFnl,c1,c2,c3,c4,hw2k];exact Z6 hKb [(4,1),(5,7),(6,8)] (by simp +contextual [hJ,hO1,hL1])
    have hk1:1≤k:=by omega
    have hk4:k≤4:=by omega
    have hak:a+k≤F.length:=by omega
    have CM:J3 F.length (2,(a:Int),(k:Int),ov):=⟨rfl,by show(1:Int)≤k; omega,by show(k:Int)≤4; omega,by show(0:Int)≤a; omega,by show(a:Int)≤F.length - k; omega⟩
    rw[iN (fun e=>absurd (show (2:Int)=1 from e.1) (by decide)),iP CM]at hs
    simp only[Int.toNat_natCast]at hs;rw[iP rfl]at hk;have hFne:¬Z0 F=[]:=fun e=>by rw[e]at hFnl; simp at hFnl; omega
    have hw4:=X5 ((a:Int)+k);have hz2:(0:Int)≤(a:Int)+k:=by omega
    have ht2:((a:Int)+k).toNat=a+k:=by omega
    have ha2:a+k≤F.length:=hak;have ha00:a≤F.length:=by omega
    have hFd:(Z0 F).take a=Z0 (F.take a):=by simp[Z0]
    have hFdr:(Z0 F).drop (a+k)=Z0 (F.drop (a+k)):=by simp[Z0]
    have hRAl:(Z0 (F.take a)).length=a:=by rw[O5,lK]; omega
    have hRBl:(Z0 (F.drop (a+k))).length=F.length - (a+k):=by rw[O5,List.length_drop]
    have hl0:(Z0 (F.drop (a+k))).take (F.length - (a+k))=Z0 (F.drop (a+k)):=tL (by rw[hRBl]; omega)
    have hRAb:(Z0 (F.take a)).length≤1048576:=by omega
    have hRBb:(Z0 (F.drop (a+k))).length≤1048576:=by omega
    have hO2:=hO.DE hk1 hk4 hak (ov,below);obtain⟨base,hbase⟩:∃ base,base=2*m+4*X.length:=⟨_,rfl⟩
    have hwb1:IntKind.i64.wrap (2*(m:Int))=2*m:=S8 (by omega) (by omega)
    have hwb2:IntKind.i64.wrap (4*(X.length:Int))=4*X.length:=S8 (by omega) (by omega)
    have hwb3:=Y1 (2*(m:Int)+4*X.length) (base:Nat);have hN':=hN (i+1,F.take a++O4 base k++F.drop (a+k),L++Dl F a base k,X++[(ov,below)]);simp only at hN';rw[← hbase]at hs hO2;have hbN:base+4≤N:=by omega
    have hgF:=fun j (hj:j<F.length)=>MI (l:=F) (i:=j) hj
    have hFlt:=fun j (hj:j<F.length)=>hFl _ (ML (l:=F) (i:=j) hj)
    have hjn:=fun j (hj:j<k)=>vV m (Cr N (L++Dl F a base j)) (BM X) (BL X) (F.getD (a+j) 0) (base+(4 - j) % 4) (by rw[OL]; have:=hFlt (a+j) (by omega); omega) (by rw[OL]; have:=Nat.mod_lt (4 - j) (show 0<4 by omega); omega)
    simp only[OL,← rD,List.append_assoc,← oW]at hjn;have hJe:Cr N (L++Dl F a base 0)=Cr N L:=by show Cr N (L++[])=_; rw[List.append_nil]
    have hrA:=fun q=>hnn q (F.take a)
    have hrB:=fun q=>hnn q (F.drop (a+k))
    generalize hRAe:Z0 (F.take a)=RA at *;generalize hRBe:Z0 (F.drop (a+k))=RB at *;clear hK hN;simp[hil,hili,hix,hg,hg2,hVlen, D2,Hy,hFnl,c1,c2,c3,c4,hw2k,Y4 hFne,Z9 hFne,hFne,hw4,hz2,ht2,ha2,ha00,Q7,hFd,hFdr,hl0,KK hRAb (show 8≤1048576 by decide),KK hRBb (show 8≤1048576 by decide),LG,hwb1,hwb2,hwb3]
    refine T6 (α:=Nat) (fun j=>[(1,V),(2,.int .i64 c),(3,.int .i64 X.length),(4,.ptr 4 0 0),(8,.ptr 5 0 0),(11,.sl 6 0 F.length),(13,.int .i64 i),(14,.ptr 9 0 0),(16,AH 11 RB),(17,AH 10 RA),(18,.int .i64 base),(19,.int .i64 j)])
     (fun j=>⟨[(5,.cells 4 [[.int .i64 0,.Ai,.Ai,.Ai]]),(4,.cells 4 [[.int .i64 m,.sl 1 0 N,AH 7 (BM X),AH 8 (BL X)]]),(9,.cells 4 [[.int .i64 2,.int .i64 a,.int .i64 k,.bool ov]]),(1,.cells 1 (Z1 (Cr N (L++Dl F a base j)))),(6,.cells 1 (Z0 F))]++AF 10 1 RA (AF 11 1 RB (AF 7 1 (BM X) (AF 8 1 (BL X) []))),12⟩)
     (fun j=>k - j) (fun j=>j≤k) 0 [(9,17),(10,58),(11,52)] (by rw[hJe]; simp +contextual [hVrn,hJJ,hOO,hLL,hF1,hrA,hrB]) (by omega) ?_
    intro j hj N2 hN2;by_cases he2:¬j=k
    ·have hjk:j<k:=by omega
     have hjki:(j:Int)<k:=by omega
     have hN3:=hN2 (j+1);have hjj:=hjn j hjk;have hgj:=hgF (a+j) (by omega)
     obtain⟨_,hgj2⟩:=Y6 hgj;have haj:a+j<F.length:=by omega
     have hwa:=Y1 ((a:Int)+j) ((a+j:Nat):Int);have hwj:=Y1 ((j:Int)+1) ((j+1:Nat):Int);have hw4j:=Y1 (4 - (j:Int)) ((4 - j:Nat):Int);have htj:((4 - j:Nat):Int).tmod 4=(((4 - j) % 4:Nat):Int):=rfl;have hm4:=Nat.mod_lt (4 - j) (show 0<4 by omega)
     generalize (4 - j) % 4=e at *;have hwe:=Y1 ((base:Int)+e) ((base+e:Nat):Int);have hJa:=fun q=>hJJ q (Cr N (L++Dl F a base j))
     have hJb:=fun q=>hJJ q (Cr N (L++Dl F a base (j+1)))
     clear hjn hN2 hgF hFlt;generalize Z1 (Cr N (L++Dl F a base (j+1)))=JB at *;generalize Z1 (Cr N (L++Dl F a base j))=JA at *;generalize BM X=O at *;generalize BL X=W at *;generalize Z0 F=FF at *;generalize F.getD (a+j) 0=x at *;generalize base+e=y at *;generalize 4 - j=jd at *;obtain⟨aj,haje⟩:∃ aj,aj=a+j:=⟨_,rfl⟩
     rw[← haje]at hgj hwa haj;have hgj2:=(Y6 hgj).2;simp[hjki,hwa,hwj,hw4j,htj,hwe,hgj,hgj2,haj,hFnl, D2];refine MG hjj (by simp) [(1,1),(2,7),(3,8)] (by simp[WT]) (by simp +contextual [hJa]) (by simp +contextual) (by simp[EB]) (by decide) (by simp) (by simp) (by simp) ?_
     simp[hJb,hwj];exact hN3 [] _ _ (by omega) (by omega) (by simp +contextual [hVrn,hJb,hO1,hL1,hF1,hrA,hrB])
    ·replace he2:=(Classical.not_not.1 he2).symm
     subst he2;clear hN2 hjn;have hJb:=fun q=>hJJ q (Cr N (L++Dl F a base k))
     generalize Z1 (Cr N (L++Dl F a base k))=JB at *;obtain⟨BT,hBT⟩:∃ BT:Nat→List (List Aa),BT=fun t=>Z0 (F.take a++(List.range t).map fun s=>base+(s+1)):=⟨_,rfl⟩
     have hBr:∀ t q,Z3 q (BT t)=BT t:=fun t q=>by rw[hBT]; exact hnn q _
     have hB0:BT 0=RA:=by rw[hBT,← hRAe]; simp
     have hBs:∀ t,BT (t+1)=BT t++[[.int .i64 ((base+(t+1):Nat):Int)]]:=fun t=>by rw[hBT]; simp only[List.range_succ,List.map_append]; simp[Z0]
     have Dh:∀ t,(BT t).length=a+t:=fun t=>by rw[hBT]; simp only[O5]; rw[lA,lK,lM,List.length_range]; omega
     have hBe:Z0 (F.take a++O4 base k++F.drop (a+k))=BT (4 - k)++RB:=by rw[hBT,← hRBe]; simp[Z0,O4]
     clear hBT;have hki:¬(k:Int)<k:=by omega
     simp[hki];refine T6 (α:=Nat) (fun t=>[(1,V),(2,.int .i64 c),(3,.int .i64 X.length),(4,.ptr 4 0 0),(8,.ptr 5 0 0),(13,.int .i64 i),(14,.ptr 9 0 0),(16,AH 11 RB),(17,AH 10 (BT t)),(18,.int .i64 base),(20,.int .i64 (t+1:Nat))])
      (fun t=>⟨[(5,.cells 4 [[.int .i64 0,.Ai,.Ai,.Ai]]),(4,.cells 4 [[.int .i64 m,.sl 1 0 N,AH 7 (BM X),AH 8 (BL X)]]),(9,.cells 4 [[.int .i64 2,.int .i64 a,.int .i64 k,.bool ov]]),(1,.cells 1 JB)]++AF 10 1 (BT t) (AF 11 1 RB (AF 7 1 (BM X) (AF 8 1 (BL X) []))),12⟩)
      (fun t=>4 - k - t) (fun t=>t≤4 - k) 0 [] (by rw[hB0]; simp +contextual [hVrn,hJb,hOO,hLL,hrA,hrB]) (by omega) ?_
     intro t ht N3 hN3;have hw4k:IntKind.i64.wrap (4 - (k:Int))=4 - k:=S8 (by omega) (by omega)
     by_cases he3:¬t=4 - k
     ·have htl:((t:Int)+1≤4 - k):=by omega
      have hN4:=hN3 (t+1);have Dh:=Dh t;have hBt:=hBr t;rw[hBs]at hN4;have hwt:=X5 ((t:Int)+1+1);have hwb:=Y1 ((base:Int)+((t:Int)+1)) ((base+(t+1):Nat):Int);clear hN3;generalize base+(t+1)=y at *;generalize BT t=B at *;generalize BM X=O at *;generalize BL X=W at *;have happ:∀ (id:Nat) (get:Nat→Option Ag),get 10=(if B=[]then none else some (.cells 1 B))→Z8 id 1 8 get (AH 10 B) [[.int .i64 (y:Int)]]=some (.sl id 0 (B.length+1),Vd 10 id B (.cells 1 (B++[[.int .i64 (y:Int)]]))):=fun id get hg=>Sz (by simp) hg (by simp; omega) (by decide)
      simp[htl,hw4k,hwt,hwb];rw[happ _ _ (by simp)]
      simp[hwt];exact hN4 [(10,22)] _ _ (by omega) (by omega) (by simp +contextual [hVrn,hJb,hO1,hL1,hrB,hBt])
     ·replace he3:t=4 - k:=Classical.not_not.1 he3
      subst he3;clear hN3 hBs hB0 ht;have Dh:=Dh (4 - k);have hBt:=hBr (4 - k);have htl:¬(((4 - k:Nat):Int)+1≤4 - k):=by omega
      rw[hBe]at hN';generalize BT (4 - k)=B at *;have hoS:BM (X++[(ov,below)])=BM X++[[.bool ov]]:=by simp[BM]
      have hlS:BL (X++[(ov,below)])=BL X++[[.bool below]]:=by simp[BL]
      have DR:(BM X).length=X.length:=by simp[BM]
      have HU:(BL X).length=X.length:=by simp[BL]
      have hXl:(X++[(ov,below)]).length=X.length+1:=by simp
      have hcb:decide ((c:Int)=1)=below:=by rw[hc]; cases below<;>rfl
      have hA1:∀ (id:Nat) (get:Nat→Option Ag) (b:Bool),Z8 id 1 1 get .Ai [[.bool b]]=some (.sl id 0 1,[(id,some (.cells 1 [[.bool b]]))]):=fun id get b=>by simp[Z8]
      have hwX:=Y1 ((X.length:Int)+1) ((X.length+1:Nat):Int);rw[hoS,hlS,hXl]at hN';have hN5:=fun l e mm h=>hN' l e mm (by omega) ⟨by omega,hO2,by omega,hs⟩ h
      have hXb:X.length≤1048575:=by omega
      have hXne:¬X.length+1≤X.length:=by omega
      clear hN' hoS hlS;generalize hOe:BM X=O at *;generalize hWe:BL X=W at *;by_cases hX:X.length=0
      ·have o1:O=[]:=List.eq_nil_of_length_eq_zero (by omega)
       have o2:W=[]:=List.eq_nil_of_length_eq_zero (by omega)
       subst o1; subst o2;simp[htl,hw4k,hcb,T3,T0,hA1,hwX];by_cases hRB:RB=[]
       ·subst hRB;rw[Wh (rows:=B) (k:=1) (by simp)]
        simp[LG,hw1];exact hN5 [(6,10),(7,22),(8,28)] _ _ (by simp +contextual [hVrn,hJb,hO1,hL1,hBt,hs1,Bg,DR,HU])
       ·rw[Sz hRB (rows:=B) (k:=1) (by simp) (by omega) (by decide)]
        have hne:¬B++RB=[]:=by simp[hRB]
        simp[hw1];exact hN5 [(6,38),(7,22),(8,28)] _ _ (by simp +contextual [hVrn,hJb,hO1,hL1,hBt,hrB,Y4 hne,Z9 hne,hne,hs1,Bg,DR,HU])
      ·have o1:¬O=[]:=fun e=>by rw[e]at DR; simp at DR; omega
       have o2:¬W=[]:=fun e=>by rw[e]at HU; simp at HU; omega
       have hA2:∀ (id:Nat) (get:Nat→Option Ag) (b:Bool),get 7=some (.cells 1 O)→Z8 id 1 1 get (.sl 7 0 X.length) [[.bool b]]=some (.sl id 0 (X.length+1),[(7,none),(id,some (.cells 1 (O++[[.bool b]])))]):=fun id get b hg=>by
        have o3:List.take X.length O=O:=tL (by omega)
        simp[Z8,hg,DR,hXne,hXb,o3]
       have hA3:∀ (id:Nat) (get:Nat→Option Ag) (b:Bool),get 8=some (.cells 1 W)→Z8 id 1 1 get (.sl 8 0 X.length) [[.bool b]]=some (.sl id 0 (X.length+1),[(8,none),(id,some (.cells 1 (W++[[.bool b]])))]):=fun id get b hg=>by
        have o4:List.take X.length W=W:=tL (by omega)
        simp[Z8,hg,HU,hXne,hXb,o4]
       simp[htl,hw4k,hcb,Y4 o1,Y4 o2,Z9 o1,Z9 o2,o1,o2,DR,HU,hA2,hA3,hwX];by_cases hRB:RB=[]
       ·subst hRB;rw[Wh (rows:=B) (k:=1) (by simp)]
        simp[LG,hw1];exact hN5 [(6,10),(7,22),(8,28)] _ _ (by simp +contextual [hVrn,hJb,hO1,hL1,hBt,hs1,Bg,DR,HU])
       ·rw[Sz hRB (rows:=B) (k:=1) (by simp) (by omega) (by decide)]
        have hne:¬B++RB=[]:=by simp[hRB]
        simp[hw1];exact hN5 [(6,38),(7,22),(8,28)] _ _ (by simp +contextual [hVrn,hJb,hO1,hL1,hBt,hrB,Y4 hne,Z9 hne,hne,hs1,Bg,DR,HU])
   ·by_cases c1:at0<0
    ·rw[iN (by simp only[M8]; first|omega|simp),iN (by simp only[J3]; omega)]at hs
     subst hs;have hKb:=hK _ _ ⟨rfl,rfl⟩;clear hK hN;simp only at hKb;generalize Z1 (Cr N L)=J at *;generalize BM X=O at *;generalize BL X=W at *;simp[hil,hili,hix,hg,hg2,hVlen, D2,Hy,hFnl,h2,c1];exact Z6 hKb [(4,1),(5,7),(6,8)] (by simp +contextual [hJ,hO1,hL1])
    obtain⟨a,rfl⟩:∃ a:Nat,at0=(a:Int):=⟨at0.toNat,by omega⟩
    by_cases c2:(F.length:Int) - 2<a
    ·rw[iN (by simp only[M8]; first|omega|simp),iN (by simp only[J3]; omega)]at hs
     subst hs;have hKb:=hK _ _ ⟨rfl,rfl⟩;clear hK hN;simp only at hKb;generalize Z1 (Cr N L)=J at *;generalize BM X=O at *;generalize BL X=W at *;simp[hil,hili,hix,hg,hg2,hVlen, D2,Hy,hFnl,h2,c1,c2,hw2];exact Z6 hKb [(4,1),(5,7),(6,8)] (by simp +contextual [hJ,hO1,hL1])
    have ha1:a+1<F.length:=by omega
    have ha0:a<F.length:=by omega
    have hFne:¬Z0 F=[]:=fun e=>by rw[e]at hFnl; simp at hFnl; omega
    have hw4:=X5 ((a:Int)+2);have hz2:(0:Int)≤(a:Int)+2:=by omega
    have ht2:((a:Int)+2).toNat=a+2:=by omega
    have ha2:a+2≤F.length:=by omega
    have ha00:a≤F.length:=by omega
    have hFd:(Z0 F).take a=Z0 (F.take a):=by simp[Z0]
    have hFdr:(Z0 F).drop (a+2)=Z0 (F.drop (a+2)):=by simp[Z0]
    have hRAl:(Z0 (F.take a)).length=a:=by rw[O5,lK]; omega
    have hRBl:(Z0 (F.drop (a+2))).length=F.length - (a+2):=by rw[O5,List.length_drop]
    have hl0:(Z0 (F.drop (a+2))).take (F.length - (a+2))=Z0 (F.drop (a+2)):=tL (by rw[hRBl]; omega)
    have hRAb:(Z0 (F.take a)).length≤1048576:=by omega
    have hRBb:(Z0 (F.drop (a+2))).length≤1048576:=by omega
    by_cases h1:kd=1
    ·subst h1;by_cases c3:nn=0∧ov=false
     ·obtain⟨c3a,c3b⟩:=c3;subst c3a; subst c3b;have hcap:M8 F.length (1,(a:Int),0,false):=⟨rfl,by show(0:Int)≤a; omega,by show(a:Int)<F.length - 1; omega,rfl,rfl⟩
      rw[iP hcap]at hs;have hg0:=MI (l:=F) (i:=a) ha0;obtain⟨_,hg02⟩:=Y6 hg0;have hg1:=MI (l:=F) (i:=a+1) ha1;obtain⟨_,hg12⟩:=Y6 hg1;have hx1:F.getD a 0<2*m+4*X.length:=hFl _ (ML ha0);have hx2:F.getD (a+1) 0<2*m+4*X.length:=hFl _ (ML ha1);have hj:=vV m (Cr N L) (BM X) (BL X) (F.getD a 0) (F.getD (a+1) 0) (by rw[OL]; omega) (by rw[OL]; omega)
      rw[OL,← rD]at hj;have hO2:=hO.cap ha1;simp only[Int.toNat_natCast]at hs;have hw3:=X5 ((a:Int)+1);have DJ:(0:Int)≤(a:Int)+1:=by omega
      have ht1:((a:Int)+1).toNat=a+1:=by omega
      have hN':=hN (i+1,F.take a++F.drop (a+2),L++[(F.getD a 0,F.getD (a+1) 0)],X);simp only at hN';have hFe:Z0 (F.take a++F.drop (a+2))=Z0 (F.take a)++Z0 (F.drop (a+2)):=by simp[Z0]
      have hrA:=fun q=>hnn q (F.take a)
      have hrB:=fun q=>hnn q (F.drop (a+2))
      rw[hFe]at hN';have hJ2:=fun q=>hJJ q (Cr N (L++[(F.getD a 0,F.getD (a+1) 0)]))
      rw[iN (show ¬(1:Int)=2 by decide),Nat.add_zero]at hk
      have hN2:=fun l e mm h=>hN' l e mm (by omega) ⟨by omega,hO2,by omega,hs⟩ h
      clear hN' hN hK;generalize Z1 (Cr N (L++[(F.getD a 0,F.getD (a+1) 0)]))=J2 at *;generalize Z1 (Cr N L)=J at *;generalize BM X=O at *;generalize BL X=W at *;generalize F.getD a 0=x at *;generalize F.getD (a+1) 0=y at *;generalize Z0 (F.take a)=RA at *;generalize Z0 (F.drop (a+2))=RB at *;generalize Z0 F=FF at *;simp[hil,hili,hix,hg,hg2,hVlen, D2,Hy,hFnl,h2,c1,c2,hw2,Y4 hFne,Z9 hFne,hFne,hw4,hz2,ht2,ha2,ha00,Q7,hFd,hFdr,hl0,KK hRAb (show 8≤1048576 by decide),KK hRBb (show 8≤1048576 by decide),LG,hw3,DJ,ht1,hg0,hg02,hg1,hg12,ha0,ha1]
      refine MG hj (by simp) [(1,1),(2,7),(3,8)] (by simp[WT]) (by simp +contextual [hJ]) (by simp +contextual) (by simp[EB]) (by decide) (by simp) (by simp) (by simp) ?_
      simp[hJ2,hw1];by_cases hRB:RB=[]
      ·subst hRB;rw[Wh (rows:=RA) (k:=1) (by simp)]
       simp[LG];exact hN2 [(6,55)] _ _ (by simp +contextual [hVrn,hJ2,hO1,hL1,hrA])
      ·rw[Sz hRB (rows:=RA) (k:=1) (by simp) (by omega) (by decide)]
       have hne:¬RA++RB=[]:=by simp[hRB]
       simp;exact hN2 [(6,83)] _ _ (by simp +contextual [hVrn,hJ2,hO1,hL1,hrA,hrB,Y4 hne,Z9 hne,hne])
     ·rw[iN (fun e=>c3 ⟨e.2.2.2.1,e.2.2.2.2⟩),iN (fun e=>absurd (show (1:Int)=2 from e.1) (by decide))]at hs
      subst hs;have hKb:=hK _ _ ⟨rfl,rfl⟩;clear hK hN;simp only at hKb;generalize Z1 (Cr N L)=J at *;generalize BM X=O at *;generalize BL X=W at *;generalize Z0 (F.take a)=RA at *;generalize Z0 (F.drop (a+2))=RB at *;generalize Z0 F=FF at *;by_cases c4:nn=0
      ·have c5:ov=true:=by revert c3; cases ov<;>simp[c4]
       subst c4; subst c5;simp[hil,hili,hix,hg,hg2,hVlen, D2,Hy,hFnl,h2,c1,c2,hw2,Y4 hFne,Z9 hFne,hFne,hw4,hz2,ht2,ha2,ha00,Q7,hFd,hFdr,hl0,KK hRAb (show 8≤1048576 by decide),KK hRBb (show 8≤1048576 by decide),LG]
       exact Z6 hKb [(4,1),(5,7),(6,8)] (by simp +contextual [hJ,hO1,hL1])
      ·simp[hil,hili,hix,hg,hg2,hVlen, D2,Hy,hFnl,h2,c1,c2,hw2,Y4 hFne,Z9 hFne,hFne,hw4,hz2,ht2,ha2,ha00,Q7,hFd,hFdr,hl0,KK hRAb (show 8≤1048576 by decide),KK hRBb (show 8≤1048576 by decide),LG,c4]
       exact Z6 hKb [(4,1),(5,7),(6,8)] (by simp +contextual [hJ,hO1,hL1])
    ·rw[iN (by simp only[M8]; omega),iN (by simp only[J3]; omega)]at hs
     subst hs;have hKb:=hK _ _ ⟨rfl,rfl⟩;clear hK hN;simp only at hKb;generalize Z1 (Cr N L)=J at *;generalize BM X=O at *;generalize BL X=W at *;generalize Z0 (F.take a)=RA at *;generalize Z0 (F.drop (a+2))=RB at *;generalize Z0 F=FF at *;simp[hil,hili,hix,hg,hg2,hVlen, D2,Hy,hFnl,h2,c1,c2,hw2,Y4 hFne,Z9 hFne,hFne,hw4,hz2,ht2,ha2,ha00,Q7,hFd,hFdr,hl0,KK hRAb (show 8≤1048576 by decide),KK hRBb (show 8≤1048576 by decide),LG,h1]
     exact Z6 hKb [(4,1),(5,7),(6,8)] (by simp +contextual [hJ,hO1,hL1])
end Go.Ab
end
section
namespace Go.Ab
open Go Go.AE Go.Proofs
open Go.Plain
def DP(m:Nat)(L:List (Nat×Nat))(n:Nat):Nat→List Nat
 | 0=>List.replicate (2*n) 0
 | t+1=>if Al m L t<2*m then DP m L n t else (DP m L n t).set (2*Bh m (Al m L t)+CG m (Al m L t) % 2) (CG m (Al m L t))
theorem Sf(m:Nat)(L:List (Nat×Nat))(n:Nat):∀ t,(DP m L n t).length=2*n
 | 0=>List.length_replicate
 | t+1=>by
  unfold DP;split
  ·exact Sf m L n t
  ·rw[List.length_set,Sf m L n t]
def Gi(m:Nat)(PL:List (Nat×Nat))(X:List Nd)(a:Nat)(s:Int):Lt:=
 if a<2*m then AG (PL.getD (a / 2) (0,0))
 else ⟨2,0,0,((Bh m a+1:Nat):Int),s,((X.getD (Bh m a) (false,false)).1 == (CG m a % 2 == 0)) != (X.getD (Bh m a) (false,false)).2⟩
def Ve(m:Nat)(X:List Nd)(E:List Nat)(a:Nat):Int:=FA (E.getD (2*Bh m a) 0) (E.getD (2*Bh m a+1) 0) (X.getD (Bh m a) (false,false)).1
def Dr(m:Nat)(PL:List (Nat×Nat))(X:List Nd)(L:List (Nat×Nat))(T x:Nat):List Lt:=
 (List.range T).map fun t=>Gi m PL X (Al m L t) (if t<x then Ve m X (DP m L X.length T) (Al m L t)else 0)
theorem Xd(m:Nat)(PL:List (Nat×Nat))(X:List Nd)(L:List (Nat×Nat))(T x:Nat):(Dr m PL X L T x).length=T:=by simp[Dr]
theorem Z3u(m:Nat)(PL:List (Nat×Nat))(X:List Nd)(L:List (Nat×Nat))(T:Nat):Dr m PL X L (T+1) 0=Dr m PL X L T 0++[Gi m PL X (Al m L T) 0]:=by
 unfold Dr;rw[List.range_succ,List.map_append];simp
theorem zn{m:Nat}{PL:List (Nat×Nat)}{X:List Nd}{L:List (Nat×Nat)}{T x:Nat}(h:x<T):(Dr m PL X L T x)[x]? = some (Gi m PL X (Al m L x) 0):=by
 unfold Dr;rw[gM,List.getElem?_range h];simp
theorem Z8l{m:Nat}{PL:List (Nat×Nat)}{X:List Nd}{L:List (Nat×Nat)}{T x:Nat}(hp:Al m L x<2*m):Dr m PL X L T (x+1)=Dr m PL X L T x:=by
 unfold Dr;refine List.map_congr_left fun t _=>?_
 by_cases h:t=x
 ·subst h;unfold Gi;rw[iP hp,iP hp]
 ·have:(t<x+1)=(t<x):=propext (by omega)
  simp only[this]
theorem yw{m:Nat}{PL:List (Nat×Nat)}{X:List Nd}{L:List (Nat×Nat)}{T x:Nat}(hx:x<T):Dr m PL X L T (x+1)=(Dr m PL X L T x).set x (Gi m PL X (Al m L x) (Ve m X (DP m L X.length T) (Al m L x))):=by
 apply List.ext_getElem?;intro i;rw[List.getElem?_set,Xd];unfold Dr;rw[gM,gM];by_cases h:x=i
 ·subst h;rw[iP rfl,iP hx,List.getElem?_range hx];simp
 ·rw[iN h];by_cases hi:i<T
  ·rw[List.getElem?_range hi];have:(i<x+1)=(i<x):=propext (by omega)
   simp[this]
  ·rw[List.getElem?_eq_none (by simp; omega)]
   rfl
theorem Zd:∀ (gs:List Nat) (k g r:Nat),g<gs.length→r<gs.getD g 0→(Ar k gs).getD ((gs.take g).sum+r) (0,0)=(k+g,r+1)
 | [],_,_,_,h,_=>by simp at h
 | c :: gs,k,0,r,_,h=>by
  have h:r<c:=h;show(((List.range c).map fun i=>(k,i+1))++Ar (k+1) gs).getD _ _=_
  rw[List.getD,List.getElem?_append_left (by simp; exact h)]
  simp[h]
 | c :: gs,k,g+1,r,h0,h=>by
  have h:r<gs.getD g 0:=h;show(((List.range c).map fun i=>(k,i+1))++Ar (k+1) gs).getD _ _=_
  rw[List.take_succ_cons,List.sum_cons,List.getD,List.getElem?_append_right (by simp; omega)]
  have:=Zd gs (k+1) g r (by simpa using h0) h
  rw[List.getD]at this;rw[lM,List.length_range,show c+(gs.take g).sum+r - c=(gs.take g).sum+r by omega,this]
  congr 1
  omega
theorem Z7w{n:Nat}{L:List (Nat×Nat)}(hn:(U1 L).Nodup)(hb:∀ p,p∈L→p.1<n∧p.2<n){e:Nat}(he:e∈U1 L):(Z1 (Cr n L))[e]? = some [.int .i64 ((Bk L e:Nat):Int)]:=by
 unfold Z1 Cr;rw[gM,ZL L _ e hn (by simpa using hb) he]
 rfl
section
variable {m:Nat} {X:List Nd} {L:List (Nat×Nat)} (h:Gt m X L)
include h
def Ft(m:Nat)(X:List Nd)(L:List (Nat×Nat)):Nat:=EZ (Ik m L) (2*m+4*X.length) 0
theorem ZH:0<Ft m X L∧Al m L (Ft m X L)=0∧(∀ t,0<t→t<Ft m X L→Al m L t≠0)∧Ft m X L≤2*m+4*X.length+1:=by
 have h0:0<2*m+4*X.length:=by have:=h.hm; omega
 obtain⟨h1,h2,h3⟩:=QL (Xl h) h0;exact⟨h1,h2,fun t a b=>h3 t a b,aP (Xl h) h0⟩
theorem q9:Ft m X L=m+2*X.length↔EF m X L:=by
 obtain⟨h1,h2,h3,_⟩:=ZH h;constructor
 ·intro e;rw[e]at h2 h3;exact⟨h2,h3⟩
 ·intro hw;have h0:=h.hm;rcases Nat.lt_trichotomy (Ft m X L) (m+2*X.length)with c|c|c
  ·exact absurd h2 (hw.first _ h1 c)
  ·exact c
  ·exact absurd hw.back (h3 _ (by omega) c)
variable (hw:EF m X L)
include hw
theorem ZT{j q s:Nat}(hj:j<X.length)(hq:q<4)(e:Al m L s=2*m+4*j+q):∀ t,t≤m+2*X.length→s<t→(DP m L X.length t).getD (2*j+q % 2) 0=q
 | 0,_,h=>absurd h (Nat.not_lt_zero _)
 | t+1,ht,hs=>by
  have hl:=Sf m L X.length t;unfold DP;by_cases hst:s=t
  ·subst hst;rw[iN (by omega)]
   have e1:Bh m (Al m L s)=j:=by unfold Bh; omega
   have e2:CG m (Al m L s)=q:=by unfold CG; omega
   rw[e1,e2,List.getD,List.getElem?_set_self (by omega)]
   rfl
  ·have ih:=ZT hj hq e t (by omega) (by omega)
   by_cases hp:Al m L t<2*m
   ·rw[iP hp]; exact ih
   ·rw[iN hp];have hal:=P8 h t;by_cases hi:2*Bh m (Al m L t)+CG m (Al m L t) % 2=2*j+q % 2
    ·have e1:Bh m (Al m L t)=j:=by omega
     have e2:CG m (Al m L t) % 2=q % 2:=by omega
     have EI:CG m (Al m L t)<4:=Nat.mod_lt _ (by omega)
     have ea:Al m L t=2*m+4*j+CG m (Al m L t):=by unfold Bh at e1; unfold CG; omega
     have f1:=MX h hw (t:=s) (by omega) hq e
     have f2:=MX h hw (t:=t) (by omega) EI ea
     have:CG m (Al m L t)=q:=by
      rcases Nat.mod_two_eq_zero_or_one q with c|c
      ·rw[← f1.1 c,← f2.1 (by omega)]
      ·rw[← f1.2 c,← f2.2 (by omega)]
     rw[hi,List.getD,List.getElem?_set_self (by omega),this]
     rfl
    ·rw[List.getD,List.getElem?_set_ne hi];exact ih
theorem eU{j:Nat}(hj:j<X.length):(DP m L X.length (m+2*X.length)).getD (2*j) 0=Gf m (CR m X L) j∧(DP m L X.length (m+2*X.length)).getD (2*j+1) 0=Gg m (CR m X L) j:=by
 have key:∀ b,b<2 → ∃ t q,t<m+2*X.length∧q<4∧q % 2=b∧Al m L t=2*m+4*j+q:=fun b hb=>by
  obtain⟨t,ht,e⟩:=VK h hw (e:=2*m+4*j+b) (Dt.2 (.inr ⟨j,hj,by omega⟩))
  refine⟨t,(Al m L t - 2*m) % 4,ht,Nat.mod_lt _ (by omega),?_⟩
  unfold EK at e;split at e<;>omega
 constructor
 ·obtain⟨t,q,ht,hq,hb,e⟩:=key 0 (by omega)
  have:=ZT h hw hj hq e _ (lR _) ht;rw[hb]at this;rw[(MX h hw ht hq e).1 hb];exact this
 ·obtain⟨t,q,ht,hq,hb,e⟩:=key 1 (by omega)
  have:=ZT h hw hj hq e _ (lR _) ht;rw[hb]at this;rw[(MX h hw ht hq e).2 hb];exact this
theorem Z9t(PL:List (Nat×Nat)):Dr m PL X L (m+2*X.length) (m+2*X.length)=Y3 m PL X L:=by
 unfold Dr Y3
 conv=>rhs; unfold CR
 rw[List.map_map];refine List.map_congr_left fun t ht=>?_
 have ht:=mR.1 ht;rw[iP ht];show _=Ez m PL X (CR m X L) (Al m L t);unfold Gi Ez;by_cases hp:Al m L t<2*m
 ·rw[iP hp,iP hp]
 ·have hal:=P8 h t;have:=eU h hw (j:=Bh m (Al m L t)) (by unfold Bh; omega)
  rw[iN hp,iN hp];unfold Ve;rw[this.1,this.2];rfl
end
end Go.Ab
end
