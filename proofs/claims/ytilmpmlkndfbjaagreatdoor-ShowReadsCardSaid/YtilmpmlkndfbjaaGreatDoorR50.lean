/- Part 50 of the proof: Et, Eu. -/
import Derived.Test.YtilmpmlkndfbjaaGreatDoorR49
set_option linter.all false
section
namespace Go.Known
open Go Go.AE Go.Proofs
open Go.Plain
attribute [local simp] Zd6 Ze1 Zeb Zee Zep Ze7 Zex Zen Zef Zd8 Ze4 isV isVo Zeo Zez Zeu Zd9
def orR(X:List Nd):List (List AVal):=X.map fun x=>[.bool x.1]
def lwR(X:List Nd):List (List AVal):=X.map fun x=>[.bool x.2]
theorem Zgd:∀ X:List Nd,W5 (orR X)=true∧W5 (lwR X)=true
 | []=>⟨rfl,rfl⟩
 | x :: r=>by
  have:=Zgd r;simp only[orR,lwR,List.map_cons,W5,X4,AVal.closed,Bool.and_true,Bool.true_and]at this ⊢;exact this
theorem Zci{id k a:Nat}{get:Nat→Option ABlk}{b:List (List AVal)}(h:b.length≤1048576)(e:a≤1048576):X5 id k a get .nilSl b=some (slV id b,dlS id k b):=by
 have d:W6=1048576:=rfl;rw[← d]at h e;unfold slV dlS;by_cases c:b=[]
 ·subst c; rfl
 ·rw[if_neg c,if_neg c];simp only[X5,if_neg c];rw[if_pos ⟨h,e⟩]
def frC(c i:Nat):List Nat:=(List.range i).map fun k=>2*k+c
theorem Ztb(r:Ro)(a:List Ro):W9 (r :: a)=W9 a+if r.1=2 then 1 else 0:=by
 unfold W9;rw[List.filter_cons];by_cases b:r.1=2<;>simp[b]
theorem Z6g(c i:Nat):Z0 (frC c (i+1))=Z0 (frC c i)++[[.int .i64 ((2*i+c:Nat):Int)]]:=by
 unfold frC;rw[List.range_succ,List.map_append];simp[Z0]
theorem Zz1(c i:Nat):(Z0 (frC c i)).length=i:=by rw[N9]; simp[frC]
set_option maxRecDepth 100000 in
set_option maxHeartbeats 16000000 in
theorem Zrr(m N c:Nat)(below:Bool)(hc:c=if below then 1 else 0)(V:AVal)(rs:List Ro)(hV:RowsV V rs)(L:List (Nat×Nat))(X:List Nd)(oth:List Nat)(hO:OpE m (frC c m) oth L X)(hn:2*m+4*(X.length+W9 rs)≤N)(hNb:N≤10000)(hrl:rs.length≤1000) :
 Ctr Tryz.prog 30 [.agg [.int .i64 m,.sl 1 0 N,slV 2 (orR X),slV 3 (lwR X)],V,.int .i64 c,.int .i64 X.length] ⟨(1,.cells 1 (Z2 (jnZ N L))) :: blV 2 1 (orR X) (blV 3 1 (lwR X) []),4⟩ fun r mm=>
  r=.tuple [.agg [.int .i64 m,.sl 4 0 N,slV 5 (orR (W1 m below rs (frC c m) L X).2.2),slV 6 (lwR (W1 m below rs (frC c m) L X).2.2)],.int .i64 (W1 m below rs (frC c m) L X).2.2.length,.bool (W1 m below rs (frC c m) L X).1] ∧
  mm=⟨(4,.cells 1 (Z2 (jnZ N (W1 m below rs (frC c m) L X).2.1))) :: blV 5 1 (orR (W1 m below rs (frC c m) L X).2.2) (blV 6 1 (lwR (W1 m below rs (frC c m) L X).2.2) []),7⟩:=by
 refine Zg4 hm [55] Tryz.func30 Z8w rfl rfl fun K hK=>?_
 obtain⟨res,hres⟩:∃ res,res=W1 m below rs (frC c m) L X:=⟨_,rfl⟩
 rw[← hres]at hK;have hVlen:=hV.len;have hVrn:=hV.ren;obtain⟨hVc,hVo,hVcl⟩:=hV.cells;have hVi:=fun {get:Nat→Option ABlk} {i:Nat} (hi:i<rs.length)=>hV.idx (get:=get) hi
 have hRg:∀ i (h:i<rs.length),(rs.map roR)[i]? = some (roR rs[i]):=fun i h=>by rw[List.getElem?_map,gE h]; rfl
 have hRrn:∀ q,Z6 q (rs.map roR)=rs.map roR:=fun q=>X6 q _ (Zf0 rs)
 have hnn:∀ q (l:List Nat),Z6 q (Z0 l)=Z0 l:=fun q l=>Z8 q l
 have hJJ:∀ q (l:List Int),Z6 q (Z2 l)=Z2 l:=fun q l=>X6 q _ (L5 l)
 have hOO:∀ q X,Z6 q (orR X)=orR X:=fun q X=>X6 q _ (Zgd X).1
 have hLL:∀ q X,Z6 q (lwR X)=lwR X:=fun q X=>X6 q _ (Zgd X).2
 have hmb:m≤5000:=by omega
 have hs1:∀ (c:Nat) (x:List AVal),slV c [x]=.sl c 0 1:=fun _ _=>rfl
 have hb1:∀ (c k:Nat) (x:List AVal) (r:List (Nat×ABlk)),blV c k [x] r=(c,.cells k [x]) :: r:=fun _ _ _ _=>rfl
 have hc1:c≤1:=by rw[hc]; split<;>omega
 simp[D7,C6];refine G1 (α:=Nat) (fun i=>[(1,V),(2,.int .i64 c),(3,.int .i64 X.length),(4,.ptr 4 0 0),(8,.ptr 5 0 0),(11,slV 6 (Z0 (frC c i))),(12,.int .i64 i)])
  (fun i=>⟨[(5,.cells 4 [[.int .i64 0,.nilSl,.nilSl,.nilSl]]),(4,.cells 4 [[.int .i64 m,.sl 1 0 N,slV 2 (orR X),slV 3 (lwR X)]]),(1,.cells 1 (Z2 (jnZ N L)))]++blV 6 1 (Z0 (frC c i)) (blV 2 1 (orR X) (blV 3 1 (lwR X) [])),7⟩) (fun i=>m - i) (fun i=>i≤m) 0 []
  (by have e0:Z0 (frC c 0)=[]:=rfl;rw[e0];simp +contextual [hVrn,hJJ,hOO,hLL]) (by omega) ?_
 ·intro i hi N' hN';have hJ:=fun q=>hJJ q (jnZ N L)
  have hO1:=fun q=>hOO q X
  have hL1:=fun q=>hLL q X
  by_cases hend:¬i=m
  ·have hil:i<m:=by omega
   have hili:(i:Int)<m:=by omega
   have hN1:=hN' (i+1);have hFl:=Zz1 c i;have hFr:=fun q=>hnn q (frC c i)
   rw[Z6g]at hN1;have hwi:IntKind.i64.wrap ((i:Int)+1)=((i+1:Nat):Int):=by rw[Z1 (by omega) (by omega)]; omega
   have hw2:IntKind.i64.wrap (2*(i:Int))=2*i:=Z1 (by omega) (by omega)
   have hw3:IntKind.i64.wrap (2*(i:Int)+c)=((2*i+c:Nat):Int):=by rw[Z1 (by omega) (by omega)]; omega
   generalize 2*i+c=y at *;generalize Z0 (frC c i)=FF at *;generalize Z2 (jnZ N L)=J at *;generalize orR X=O at *;generalize lwR X=W at *;have hb:i≤1048575:=by omega
   have hne:¬i+1≤i:=by omega
   by_cases hF:FF=[]
   ·subst hF;simp[hil,hili,hwi,hw2,hw3,Zay,Za4,X5];exact hN1 [(6,17)] _ _ (by omega) (by omega) (by simp +contextual [hVrn,hJ,hO1,hL1,hs1,hb1])
   ·have hT:List.take i FF=FF:=List.take_of_length_le (by omega)
    simp[hil,hili,hwi,hw2,hw3,W4 hF,Y7 hF,hF,hFl,hne,hb,hT,X5];exact hN1 [(6,17)] _ _ (by omega) (by omega) (by simp +contextual [hVrn,hJ,hO1,hL1,hFr,hFl])
  ·replace hend:i=m:=Classical.not_not.1 hend
   replace hend:=hend.symm
   subst hend;clear hN';simp;refine G1 (α:=Nat×List Nat×List (Nat×Nat)×List Nd) (fun a=>[(1,V),(2,.int .i64 c),(3,.int .i64 a.2.2.2.length),(4,.ptr 4 0 0),(8,.ptr 5 0 0),(11,slV 6 (Z0 a.2.1)),(13,.int .i64 a.1)])
    (fun a=>⟨[(5,.cells 4 [[.int .i64 0,.nilSl,.nilSl,.nilSl]]),(4,.cells 4 [[.int .i64 m,.sl 1 0 N,slV 7 (orR a.2.2.2),slV 8 (lwR a.2.2.2)]]),(1,.cells 1 (Z2 (jnZ N a.2.2.1)))]++blV 6 1 (Z0 a.2.1) (blV 7 1 (orR a.2.2.2) (blV 8 1 (lwR a.2.2.2) [])),9⟩)
    (fun a=>rs.length - a.1) (fun a=>a.1≤rs.length∧OpE m a.2.1 oth a.2.2.1 a.2.2.2∧2*m+4*(a.2.2.2.length+W9 (rs.drop a.1))≤N∧W1 m below (rs.drop a.1) a.2.1 a.2.2.1 a.2.2.2=res)
    (0,frC c m,L,X) [(7,2),(8,3)] (by simp +contextual [hVrn,hJJ,hOO,hLL,hnn]) ⟨by simp,hO,by simpa using hn,by simpa using hres.symm⟩ ?_
   clear hJ hO1 hL1 hO hn hres hi;rintro⟨i,F,L,X⟩ ⟨hi,hO,hk,hs⟩ N' hN;simp only at hi hO hk hs;obtain⟨hFl,hLl,hFn⟩:=hO.lt;have hFnl:=N9 F;have hJ:=fun q=>hJJ q (jnZ N L)
   have hO1:=fun q=>hOO q X
   have hL1:=fun q=>hLL q X
   have hF1:=fun q=>hnn q F
   have hw1:IntKind.i64.wrap ((i:Int)+1)=((i+1:Nat):Int):=by rw[Z1 (by omega) (by omega)]; omega
   by_cases hend:i=rs.length
   ·subst hend;rw[List.drop_length]at hs;simp only[W1]at hs;subst hs;have hd:decide (F=[])=decide (F.length=0):=by simp
    have hKb:=hK _ _ ⟨rfl,rfl⟩;simp only[hd]at hKb;clear hK hN;generalize Z2 (jnZ N L)=J at *;generalize orR X=O at *;generalize lwR X=W at *;simp[hVlen,D7,C6,Zaj,hFnl];exact Z9 hKb [(4,1),(5,7),(6,8)] (by simp +contextual [hJ,hO1,hL1])
   have hil:i<rs.length:=by omega
   have hili:(i:Int)<rs.length:=by omega
   have hix:=fun (get:Nat→Option ABlk)=>hVi (get:=get) hil
   have hg:=hRg i hil;obtain⟨_,hg2⟩:=Y5 hg;rw[List.drop_eq_getElem_cons hil]at hs hk;rw[Ztb]at hk;generalize rs.map roR=RR at *;obtain⟨⟨kd,at0,nn,ov⟩,hr⟩:∃ r,r=rs[i]:=⟨_,rfl⟩
   rw[← hr]at hs hg hg2 hk;simp only[W1,roR]at hs hg hg2 hk;have hw2:IntKind.i64.wrap ((F.length:Int) - 2)=(F.length:Int) - 2:=Z1 (by omega) (by omega)
   by_cases h2:kd=2
   ·subst h2;by_cases c1:at0<0
    ·rw[if_neg (by simp only[J5]; first|omega|simp),if_neg (by simp only[I5]; omega)]at hs
     subst hs;have hKb:=hK _ _ ⟨rfl,rfl⟩;clear hK hN;simp only at hKb;generalize Z2 (jnZ N L)=J at *;generalize orR X=O at *;generalize lwR X=W at *;simp[hil,hili,hix,hg,hg2,hVlen,D7,C6,Zaj,hFnl,c1];exact Z9 hKb [(4,1),(5,7),(6,8)] (by simp +contextual [hJ,hO1,hL1])
    by_cases c2:nn<1
    ·rw[if_neg (by simp only[J5]; first|omega|simp),if_neg (by simp only[I5]; omega)]at hs
     subst hs;have hKb:=hK _ _ ⟨rfl,rfl⟩;clear hK hN;simp only at hKb;generalize Z2 (jnZ N L)=J at *;generalize orR X=O at *;generalize lwR X=W at *;simp[hil,hili,hix,hg,hg2,hVlen,D7,C6,Zaj,hFnl,c1,c2];exact Z9 hKb [(4,1),(5,7),(6,8)] (by simp +contextual [hJ,hO1,hL1])
    by_cases c3:4<nn
    ·rw[if_neg (by simp only[J5]; first|omega|simp),if_neg (by simp only[I5]; omega)]at hs
     subst hs;have hKb:=hK _ _ ⟨rfl,rfl⟩;clear hK hN;simp only at hKb;generalize Z2 (jnZ N L)=J at *;generalize orR X=O at *;generalize lwR X=W at *;simp[hil,hili,hix,hg,hg2,hVlen,D7,C6,Zaj,hFnl,c1,c2,c3];exact Z9 hKb [(4,1),(5,7),(6,8)] (by simp +contextual [hJ,hO1,hL1])
    obtain⟨a,rfl⟩:∃ a:Nat,at0=(a:Int):=⟨at0.toNat,by omega⟩
    obtain⟨k,rfl⟩:∃ k:Nat,nn=(k:Int):=⟨nn.toNat,by omega⟩
    have hw2k:IntKind.i64.wrap ((F.length:Int) - k)=(F.length:Int) - k:=Z1 (by omega) (by omega)
    by_cases c4:(F.length:Int) - k<a
    ·rw[if_neg (by simp only[J5]; first|omega|simp),if_neg (by simp only[I5]; omega)]at hs
     subst hs;have hKb:=hK _ _ ⟨rfl,rfl⟩;clear hK hN;simp only at hKb;generalize Z2 (jnZ N L)=J at *;generalize orR X=O at *;generalize lwR X=W at *;simp[hil,hili,hix,hg,hg2,hVlen,D7,C6,Zaj,hFnl,c1,c2,c3,c4,hw2k];exact Z9 hKb [(4,1),(5,7),(6,8)] (by simp +contextual [hJ,hO1,hL1])
    have hk1:1≤k:=by omega
    have hk4:k≤4:=by omega
    have hak:a+k≤F.length:=by omega
    have hcc:I5 F.length (2,(a:Int),(k:Int),ov):=⟨rfl,by show(1:Int)≤k; omega,by show(k:Int)≤4; omega,by show(0:Int)≤a; omega,by show(a:Int)≤F.length - k; omega⟩
    rw[if_neg (fun e=>absurd (show (2:Int)=1 from e.1) (by decide)),if_pos hcc]at hs
    simp only[Int.toNat_natCast]at hs;rw[if_pos rfl]at hk;have hFne:¬Z0 F=[]:=fun e=>by rw[e]at hFnl; simp at hFnl; omega
    have hw4:IntKind.i64.wrap ((a:Int)+k)=(a:Int)+k:=Z1 (by omega) (by omega)
    have hz2:(0:Int)≤(a:Int)+k:=by omega
    have ht2:((a:Int)+k).toNat=a+k:=by omega
    have ha2:a+k≤F.length:=hak;have ha00:a≤F.length:=by omega
    have hFd:(Z0 F).take a=Z0 (F.take a):=by simp[Z0]
    have hFdr:(Z0 F).drop (a+k)=Z0 (F.drop (a+k)):=by simp[Z0]
    have hRAl:(Z0 (F.take a)).length=a:=by rw[N9,List.length_take]; omega
    have hRBl:(Z0 (F.drop (a+k))).length=F.length - (a+k):=by rw[N9,List.length_drop]
    have hl0:(Z0 (F.drop (a+k))).take (F.length - (a+k))=Z0 (F.drop (a+k)):=List.take_of_length_le (by rw[hRBl]; omega)
    have hRAb:(Z0 (F.take a)).length≤1048576:=by omega
    have hRBb:(Z0 (F.drop (a+k))).length≤1048576:=by omega
    have hO2:=hO.cross hk1 hk4 hak (ov,below);obtain⟨base,hbase⟩:∃ base,base=2*m+4*X.length:=⟨_,rfl⟩
    have hwb1:IntKind.i64.wrap (2*(m:Int))=2*m:=Z1 (by omega) (by omega)
    have hwb2:IntKind.i64.wrap (4*(X.length:Int))=4*X.length:=Z1 (by omega) (by omega)
    have hwb3:IntKind.i64.wrap (2*(m:Int)+4*X.length)=(base:Nat):=by rw[Z1 (by omega) (by omega)]; omega
    have hN':=hN (i+1,F.take a++K7 base k++F.drop (a+k),L++jnE F a base k,X++[(ov,below)]);simp only at hN';rw[← hbase]at hs hO2;have hbN:base+4≤N:=by omega
    have hgF:=fun j (hj:j<F.length)=>Zfu (l:=F) (i:=j) hj
    have hFlt:=fun j (hj:j<F.length)=>hFl _ (Zco (l:=F) (i:=j) hj)
    have hjn:=fun j (hj:j<k)=>Zrt m (jnZ N (L++jnE F a base j)) (orR X) (lwR X) (F.getD (a+j) 0) (base+(4 - j) % 4) (by rw[Zgb]; have:=hFlt (a+j) (by omega); omega) (by rw[Zgb]; have:=Nat.mod_lt (4 - j) (show 0<4 by omega); omega)
    simp only[Zgb,← Zu6,List.append_assoc,← Zuw]at hjn;have hJe:jnZ N (L++jnE F a base 0)=jnZ N L:=by show jnZ N (L++[])=_; rw[List.append_nil]
    have hrA:=fun q=>hnn q (F.take a)
    have hrB:=fun q=>hnn q (F.drop (a+k))
    generalize hRAe:Z0 (F.take a)=RA at *;generalize hRBe:Z0 (F.drop (a+k))=RB at *;clear hK hN;simp[hil,hili,hix,hg,hg2,hVlen,D7,C6,Zaj,hFnl,c1,c2,c3,c4,hw2k,W4 hFne,Y7 hFne,hFne,hw4,hz2,ht2,ha2,ha00,P1,hFd,hFdr,hl0,Zci hRAb (show 8≤1048576 by decide),Zci hRBb (show 8≤1048576 by decide),Ze3,hwb1,hwb2,hwb3]
    refine G1 (α:=Nat) (fun j=>[(1,V),(2,.int .i64 c),(3,.int .i64 X.length),(4,.ptr 4 0 0),(8,.ptr 5 0 0),(11,.sl 6 0 F.length),(13,.int .i64 i),(14,.ptr 9 0 0),(16,slV 11 RB),(17,slV 10 RA),(18,.int .i64 base),(19,.int .i64 j)])
     (fun j=>⟨[(5,.cells 4 [[.int .i64 0,.nilSl,.nilSl,.nilSl]]),(4,.cells 4 [[.int .i64 m,.sl 1 0 N,slV 7 (orR X),slV 8 (lwR X)]]),(9,.cells 4 [[.int .i64 2,.int .i64 a,.int .i64 k,.bool ov]]),(1,.cells 1 (Z2 (jnZ N (L++jnE F a base j)))),(6,.cells 1 (Z0 F))]++blV 10 1 RA (blV 11 1 RB (blV 7 1 (orR X) (blV 8 1 (lwR X) []))),12⟩)
     (fun j=>k - j) (fun j=>j≤k) 0 [(9,17),(10,58),(11,52)] (by rw[hJe]; simp +contextual [hVrn,hJJ,hOO,hLL,hF1,hrA,hrB]) (by omega) ?_
    intro j hj N2 hN2;by_cases he2:¬j=k
    ·have hjk:j<k:=by omega
     have hjki:(j:Int)<k:=by omega
     have hN3:=hN2 (j+1);have hjj:=hjn j hjk;have hgj:=hgF (a+j) (by omega)
     obtain⟨_,hgj2⟩:=Y5 hgj;have haj:a+j<F.length:=by omega
     have hwa:IntKind.i64.wrap ((a:Int)+j)=((a+j:Nat):Int):=by rw[Z1 (by omega) (by omega)]; omega
     have hwj:IntKind.i64.wrap ((j:Int)+1)=((j+1:Nat):Int):=by rw[Z1 (by omega) (by omega)]; omega
     have hw4j:IntKind.i64.wrap (4 - (j:Int))=((4 - j:Nat):Int):=by rw[Z1 (by omega) (by omega)]; omega
     have htj:((4 - j:Nat):Int).tmod 4=(((4 - j) % 4:Nat):Int):=rfl;have hm4:=Nat.mod_lt (4 - j) (show 0<4 by omega)
     generalize (4 - j) % 4=e at *;have hwe:IntKind.i64.wrap ((base:Int)+e)=((base+e:Nat):Int):=by rw[Z1 (by omega) (by omega)]; omega
     have hJa:=fun q=>hJJ q (jnZ N (L++jnE F a base j))
     have hJb:=fun q=>hJJ q (jnZ N (L++jnE F a base (j+1)))
     clear hjn hN2 hgF hFlt;generalize Z2 (jnZ N (L++jnE F a base (j+1)))=JB at *;generalize Z2 (jnZ N (L++jnE F a base j))=JA at *;generalize orR X=O at *;generalize lwR X=W at *;generalize Z0 F=FF at *;generalize F.getD (a+j) 0=x at *;generalize base+e=y at *;generalize 4 - j=jd at *;obtain⟨aj,haje⟩:∃ aj,aj=a+j:=⟨_,rfl⟩
     rw[← haje]at hgj hwa haj;have hgj2:=(Y5 hgj).2;simp[hjki,hwa,hwj,hw4j,htj,hwe,hgj,hgj2,haj,hFnl,D7,C6];refine Zfq hjj (by simp) [(1,1),(2,7),(3,8)] (by simp[Znm]) (by simp +contextual [hJa]) (by simp +contextual) (by simp[subK]) (by decide) (by simp) (by simp) (by simp) ?_
     simp[hJb,hwj];exact hN3 [] _ _ (by omega) (by omega) (by simp +contextual [hVrn,hJb,hO1,hL1,hF1,hrA,hrB])
    ·replace he2:=(Classical.not_not.1 he2).symm
     subst he2;clear hN2 hjn;have hJb:=fun q=>hJJ q (jnZ N (L++jnE F a base k))
     generalize Z2 (jnZ N (L++jnE F a base k))=JB at *;obtain⟨BT,hBT⟩:∃ BT:Nat→List (List AVal),BT=fun t=>Z0 (F.take a++(List.range t).map fun s=>base+(s+1)):=⟨_,rfl⟩
     have hBr:∀ t q,Z6 q (BT t)=BT t:=fun t q=>by rw[hBT]; exact hnn q _
     have hB0:BT 0=RA:=by rw[hBT,← hRAe]; simp
     have hBs:∀ t,BT (t+1)=BT t++[[.int .i64 ((base+(t+1):Nat):Int)]]:=fun t=>by rw[hBT]; simp only[List.range_succ,List.map_append]; simp[Z0]
     have hBl:∀ t,(BT t).length=a+t:=fun t=>by rw[hBT]; simp only[N9]; rw[List.length_append,List.length_take,List.length_map,List.length_range]; omega
     have hBe:Z0 (F.take a++K7 base k++F.drop (a+k))=BT (4 - k)++RB:=by rw[hBT,← hRBe]; simp[Z0,K7]
     clear hBT;have hki:¬(k:Int)<k:=by omega
     simp[hki];refine G1 (α:=Nat) (fun t=>[(1,V),(2,.int .i64 c),(3,.int .i64 X.length),(4,.ptr 4 0 0),(8,.ptr 5 0 0),(13,.int .i64 i),(14,.ptr 9 0 0),(16,slV 11 RB),(17,slV 10 (BT t)),(18,.int .i64 base),(20,.int .i64 (t+1:Nat))])
      (fun t=>⟨[(5,.cells 4 [[.int .i64 0,.nilSl,.nilSl,.nilSl]]),(4,.cells 4 [[.int .i64 m,.sl 1 0 N,slV 7 (orR X),slV 8 (lwR X)]]),(9,.cells 4 [[.int .i64 2,.int .i64 a,.int .i64 k,.bool ov]]),(1,.cells 1 JB)]++blV 10 1 (BT t) (blV 11 1 RB (blV 7 1 (orR X) (blV 8 1 (lwR X) []))),12⟩)
      (fun t=>4 - k - t) (fun t=>t≤4 - k) 0 [] (by rw[hB0]; simp +contextual [hVrn,hJb,hOO,hLL,hrA,hrB]) (by omega) ?_
     intro t ht N3 hN3;have hw4k:IntKind.i64.wrap (4 - (k:Int))=4 - k:=Z1 (by omega) (by omega)
     by_cases he3:¬t=4 - k
     ·have htl:((t:Int)+1≤4 - k):=by omega
      have hN4:=hN3 (t+1);have hBl:=hBl t;have hBt:=hBr t;rw[hBs]at hN4;have hwt:IntKind.i64.wrap ((t:Int)+1+1)=(t:Int)+1+1:=Z1 (by omega) (by omega)
      have hwb:IntKind.i64.wrap ((base:Int)+((t:Int)+1))=((base+(t+1):Nat):Int):=by rw[Z1 (by omega) (by omega)]; omega
      clear hN3;generalize base+(t+1)=y at *;generalize BT t=B at *;generalize orR X=O at *;generalize lwR X=W at *;have happ:∀ (id:Nat) (get:Nat→Option ABlk),get 10=(if B=[]then none else some (.cells 1 B))→X5 id 1 8 get (slV 10 B) [[.int .i64 (y:Int)]]=some (.sl id 0 (B.length+1),dlV 10 id B (.cells 1 (B++[[.int .i64 (y:Int)]]))):=fun id get hg=>Zit (by simp) hg (by simp; omega) (by decide)
      simp[htl,hw4k,hwt,hwb];rw[happ _ _ (by simp)]
      simp[hwt];exact hN4 [(10,22)] _ _ (by omega) (by omega) (by simp +contextual [hVrn,hJb,hO1,hL1,hrB,hBt])
     ·replace he3:t=4 - k:=Classical.not_not.1 he3
      subst he3;clear hN3 hBs hB0 ht;have hBl:=hBl (4 - k);have hBt:=hBr (4 - k);have htl:¬(((4 - k:Nat):Int)+1≤4 - k):=by omega
      rw[hBe]at hN';generalize BT (4 - k)=B at *;have hoS:orR (X++[(ov,below)])=orR X++[[.bool ov]]:=by simp[orR]
      have hlS:lwR (X++[(ov,below)])=lwR X++[[.bool below]]:=by simp[lwR]
      have hol:(orR X).length=X.length:=by simp[orR]
      have hll:(lwR X).length=X.length:=by simp[lwR]
      have hXl:(X++[(ov,below)]).length=X.length+1:=by simp
      have hcb:decide ((c:Int)=1)=below:=by rw[hc]; cases below<;>rfl
      have hA1:∀ (id:Nat) (get:Nat→Option ABlk) (b:Bool),X5 id 1 1 get .nilSl [[.bool b]]=some (.sl id 0 1,[(id,some (.cells 1 [[.bool b]]))]):=fun id get b=>by simp[X5]
      have hwX:IntKind.i64.wrap ((X.length:Int)+1)=((X.length+1:Nat):Int):=by rw[Z1 (by omega) (by omega)]; omega
      rw[hoS,hlS,hXl]at hN';have hN5:=fun l e mm h=>hN' l e mm (by omega) ⟨by omega,hO2,by omega,hs⟩ h
      have hXb:X.length≤1048575:=by omega
      have hXne:¬X.length+1≤X.length:=by omega
      clear hN' hoS hlS;generalize hOe:orR X=O at *;generalize hWe:lwR X=W at *;by_cases hX:X.length=0
      ·have o1:O=[]:=List.eq_nil_of_length_eq_zero (by omega)
       have o2:W=[]:=List.eq_nil_of_length_eq_zero (by omega)
       subst o1; subst o2;simp[htl,hw4k,hcb,Zay,Za4,hA1,hwX];by_cases hRB:RB=[]
       ·subst hRB;rw[Zm0 (rows:=B) (k:=1) (by simp)]
        simp[Ze3,hw1];exact hN5 [(6,10),(7,22),(8,28)] _ _ (by simp +contextual [hVrn,hJb,hO1,hL1,hBt,hs1,hb1,hol,hll])
       ·rw[Zit hRB (rows:=B) (k:=1) (by simp) (by omega) (by decide)]
        have hne:¬B++RB=[]:=by simp[hRB]
        simp[hw1];exact hN5 [(6,38),(7,22),(8,28)] _ _ (by simp +contextual [hVrn,hJb,hO1,hL1,hBt,hrB,W4 hne,Y7 hne,hne,hs1,hb1,hol,hll])
      ·have o1:¬O=[]:=fun e=>by rw[e]at hol; simp at hol; omega
       have o2:¬W=[]:=fun e=>by rw[e]at hll; simp at hll; omega
       have hA2:∀ (id:Nat) (get:Nat→Option ABlk) (b:Bool),get 7=some (.cells 1 O)→X5 id 1 1 get (.sl 7 0 X.length) [[.bool b]]=some (.sl id 0 (X.length+1),[(7,none),(id,some (.cells 1 (O++[[.bool b]])))]):=fun id get b hg=>by
        have o3:List.take X.length O=O:=List.take_of_length_le (by omega)
        simp[X5,hg,hol,hXne,hXb,o3]
       have hA3:∀ (id:Nat) (get:Nat→Option ABlk) (b:Bool),get 8=some (.cells 1 W)→X5 id 1 1 get (.sl 8 0 X.length) [[.bool b]]=some (.sl id 0 (X.length+1),[(8,none),(id,some (.cells 1 (W++[[.bool b]])))]):=fun id get b hg=>by
        have o4:List.take X.length W=W:=List.take_of_length_le (by omega)
        simp[X5,hg,hll,hXne,hXb,o4]
       simp[htl,hw4k,hcb,W4 o1,W4 o2,Y7 o1,Y7 o2,o1,o2,hol,hll,hA2,hA3,hwX];by_cases hRB:RB=[]
       ·subst hRB;rw[Zm0 (rows:=B) (k:=1) (by simp)]
        simp[Ze3,hw1];exact hN5 [(6,10),(7,22),(8,28)] _ _ (by simp +contextual [hVrn,hJb,hO1,hL1,hBt,hs1,hb1,hol,hll])
       ·rw[Zit hRB (rows:=B) (k:=1) (by simp) (by omega) (by decide)]
        have hne:¬B++RB=[]:=by simp[hRB]
        simp[hw1];exact hN5 [(6,38),(7,22),(8,28)] _ _ (by simp +contextual [hVrn,hJb,hO1,hL1,hBt,hrB,W4 hne,Y7 hne,hne,hs1,hb1,hol,hll])
   ·by_cases c1:at0<0
    ·rw[if_neg (by simp only[J5]; first|omega|simp),if_neg (by simp only[I5]; omega)]at hs
     subst hs;have hKb:=hK _ _ ⟨rfl,rfl⟩;clear hK hN;simp only at hKb;generalize Z2 (jnZ N L)=J at *;generalize orR X=O at *;generalize lwR X=W at *;simp[hil,hili,hix,hg,hg2,hVlen,D7,C6,Zaj,hFnl,h2,c1];exact Z9 hKb [(4,1),(5,7),(6,8)] (by simp +contextual [hJ,hO1,hL1])
    obtain⟨a,rfl⟩:∃ a:Nat,at0=(a:Int):=⟨at0.toNat,by omega⟩
    by_cases c2:(F.length:Int) - 2<a
    ·rw[if_neg (by simp only[J5]; first|omega|simp),if_neg (by simp only[I5]; omega)]at hs
     subst hs;have hKb:=hK _ _ ⟨rfl,rfl⟩;clear hK hN;simp only at hKb;generalize Z2 (jnZ N L)=J at *;generalize orR X=O at *;generalize lwR X=W at *;simp[hil,hili,hix,hg,hg2,hVlen,D7,C6,Zaj,hFnl,h2,c1,c2,hw2];exact Z9 hKb [(4,1),(5,7),(6,8)] (by simp +contextual [hJ,hO1,hL1])
    have ha1:a+1<F.length:=by omega
    have ha0:a<F.length:=by omega
    have hFne:¬Z0 F=[]:=fun e=>by rw[e]at hFnl; simp at hFnl; omega
    have hw4:IntKind.i64.wrap ((a:Int)+2)=(a:Int)+2:=Z1 (by omega) (by omega)
    have hz2:(0:Int)≤(a:Int)+2:=by omega
    have ht2:((a:Int)+2).toNat=a+2:=by omega
    have ha2:a+2≤F.length:=by omega
    have ha00:a≤F.length:=by omega
    have hFd:(Z0 F).take a=Z0 (F.take a):=by simp[Z0]
    have hFdr:(Z0 F).drop (a+2)=Z0 (F.drop (a+2)):=by simp[Z0]
    have hRAl:(Z0 (F.take a)).length=a:=by rw[N9,List.length_take]; omega
    have hRBl:(Z0 (F.drop (a+2))).length=F.length - (a+2):=by rw[N9,List.length_drop]
    have hl0:(Z0 (F.drop (a+2))).take (F.length - (a+2))=Z0 (F.drop (a+2)):=List.take_of_length_le (by rw[hRBl]; omega)
    have hRAb:(Z0 (F.take a)).length≤1048576:=by omega
    have hRBb:(Z0 (F.drop (a+2))).length≤1048576:=by omega
    by_cases h1:kd=1
    ·subst h1;by_cases c3:nn=0∧ov=false
     ·obtain⟨c3a,c3b⟩:=c3;subst c3a; subst c3b;have hcap:J5 F.length (1,(a:Int),0,false):=⟨rfl,by show(0:Int)≤a; omega,by show(a:Int)<F.length - 1; omega,rfl,rfl⟩
      rw[if_pos hcap]at hs;have hg0:=Zfu (l:=F) (i:=a) ha0;obtain⟨_,hg02⟩:=Y5 hg0;have hg1:=Zfu (l:=F) (i:=a+1) ha1;obtain⟨_,hg12⟩:=Y5 hg1;have hx1:F.getD a 0<2*m+4*X.length:=hFl _ (Zco ha0);have hx2:F.getD (a+1) 0<2*m+4*X.length:=hFl _ (Zco ha1);have hj:=Zrt m (jnZ N L) (orR X) (lwR X) (F.getD a 0) (F.getD (a+1) 0) (by rw[Zgb]; omega) (by rw[Zgb]; omega)
      rw[Zgb,← Zu6]at hj;have hO2:=hO.cap ha1;simp only[Int.toNat_natCast]at hs;have hw3:IntKind.i64.wrap ((a:Int)+1)=(a:Int)+1:=Z1 (by omega) (by omega)
      have hz1:(0:Int)≤(a:Int)+1:=by omega
      have ht1:((a:Int)+1).toNat=a+1:=by omega
      have hN':=hN (i+1,F.take a++F.drop (a+2),L++[(F.getD a 0,F.getD (a+1) 0)],X);simp only at hN';have hFe:Z0 (F.take a++F.drop (a+2))=Z0 (F.take a)++Z0 (F.drop (a+2)):=by simp[Z0]
      have hrA:=fun q=>hnn q (F.take a)
      have hrB:=fun q=>hnn q (F.drop (a+2))
      rw[hFe]at hN';have hJ2:=fun q=>hJJ q (jnZ N (L++[(F.getD a 0,F.getD (a+1) 0)]))
      rw[if_neg (show ¬(1:Int)=2 by decide),Nat.add_zero]at hk
      have hN2:=fun l e mm h=>hN' l e mm (by omega) ⟨by omega,hO2,by omega,hs⟩ h
      clear hN' hN hK;generalize Z2 (jnZ N (L++[(F.getD a 0,F.getD (a+1) 0)]))=J2 at *;generalize Z2 (jnZ N L)=J at *;generalize orR X=O at *;generalize lwR X=W at *;generalize F.getD a 0=x at *;generalize F.getD (a+1) 0=y at *;generalize Z0 (F.take a)=RA at *;generalize Z0 (F.drop (a+2))=RB at *;generalize Z0 F=FF at *;simp[hil,hili,hix,hg,hg2,hVlen,D7,C6,Zaj,hFnl,h2,c1,c2,hw2,W4 hFne,Y7 hFne,hFne,hw4,hz2,ht2,ha2,ha00,P1,hFd,hFdr,hl0,Zci hRAb (show 8≤1048576 by decide),Zci hRBb (show 8≤1048576 by decide),Ze3,hw3,hz1,ht1,hg0,hg02,hg1,hg12,ha0,ha1]
      refine Zfq hj (by simp) [(1,1),(2,7),(3,8)] (by simp[Znm]) (by simp +contextual [hJ]) (by simp +contextual) (by simp[subK]) (by decide) (by simp) (by simp) (by simp) ?_
      simp[hJ2,hw1];by_cases hRB:RB=[]
      ·subst hRB;rw[Zm0 (rows:=RA) (k:=1) (by simp)]
       simp[Ze3];exact hN2 [(6,55)] _ _ (by simp +contextual [hVrn,hJ2,hO1,hL1,hrA])
      ·rw[Zit hRB (rows:=RA) (k:=1) (by simp) (by omega) (by decide)]
       have hne:¬RA++RB=[]:=by simp[hRB]
       simp;exact hN2 [(6,83)] _ _ (by simp +contextual [hVrn,hJ2,hO1,hL1,hrA,hrB,W4 hne,Y7 hne,hne])
     ·rw[if_neg (fun e=>c3 ⟨e.2.2.2.1,e.2.2.2.2⟩),if_neg (fun e=>absurd (show (1:Int)=2 from e.1) (by decide))]at hs
      subst hs;have hKb:=hK _ _ ⟨rfl,rfl⟩;clear hK hN;simp only at hKb;generalize Z2 (jnZ N L)=J at *;generalize orR X=O at *;generalize lwR X=W at *;generalize Z0 (F.take a)=RA at *;generalize Z0 (F.drop (a+2))=RB at *;generalize Z0 F=FF at *;by_cases c4:nn=0
      ·have c5:ov=true:=by revert c3; cases ov<;>simp[c4]
       subst c4; subst c5;simp[hil,hili,hix,hg,hg2,hVlen,D7,C6,Zaj,hFnl,h2,c1,c2,hw2,W4 hFne,Y7 hFne,hFne,hw4,hz2,ht2,ha2,ha00,P1,hFd,hFdr,hl0,Zci hRAb (show 8≤1048576 by decide),Zci hRBb (show 8≤1048576 by decide),Ze3]
       exact Z9 hKb [(4,1),(5,7),(6,8)] (by simp +contextual [hJ,hO1,hL1])
      ·simp[hil,hili,hix,hg,hg2,hVlen,D7,C6,Zaj,hFnl,h2,c1,c2,hw2,W4 hFne,Y7 hFne,hFne,hw4,hz2,ht2,ha2,ha00,P1,hFd,hFdr,hl0,Zci hRAb (show 8≤1048576 by decide),Zci hRBb (show 8≤1048576 by decide),Ze3,c4]
       exact Z9 hKb [(4,1),(5,7),(6,8)] (by simp +contextual [hJ,hO1,hL1])
    ·rw[if_neg (by simp only[J5]; omega),if_neg (by simp only[I5]; omega)]at hs
     subst hs;have hKb:=hK _ _ ⟨rfl,rfl⟩;clear hK hN;simp only at hKb;generalize Z2 (jnZ N L)=J at *;generalize orR X=O at *;generalize lwR X=W at *;generalize Z0 (F.take a)=RA at *;generalize Z0 (F.drop (a+2))=RB at *;generalize Z0 F=FF at *;simp[hil,hili,hix,hg,hg2,hVlen,D7,C6,Zaj,hFnl,h2,c1,c2,hw2,W4 hFne,Y7 hFne,hFne,hw4,hz2,ht2,ha2,ha00,P1,hFd,hFdr,hl0,Zci hRAb (show 8≤1048576 by decide),Zci hRBb (show 8≤1048576 by decide),Ze3,h1]
     exact Z9 hKb [(4,1),(5,7),(6,8)] (by simp +contextual [hJ,hO1,hL1])
end Go.Known
end
section
namespace Go.Known
open Go Go.AE Go.Proofs
open Go.Plain
def enN(m:Nat)(L:List (Nat×Nat))(n:Nat):Nat→List Nat
 | 0=>List.replicate (2*n) 0
 | t+1=>if arE m L t<2*m then enN m L n t else (enN m L n t).set (2*xoE m (arE m L t)+qoE m (arE m L t) % 2) (qoE m (arE m L t))
theorem Zj8(m:Nat)(L:List (Nat×Nat))(n:Nat):∀ t,(enN m L n t).length=2*n
 | 0=>List.length_replicate
 | t+1=>by
  unfold enN;split
  ·exact Zj8 m L n t
  ·rw[List.length_set,Zj8 m L n t]
def frG(m:Nat)(PL:List (Nat×Nat))(X:List Nd)(a:Nat)(s:Int):Lt:=
 if a<2*m then passL (PL.getD (a / 2) (0,0))
 else ⟨2,0,0,((xoE m a+1:Nat):Int),s,((X.getD (xoE m a) (false,false)).1 == (qoE m a % 2 == 0)) != (X.getD (xoE m a) (false,false)).2⟩
def frZ(m:Nat)(X:List Nd)(E:List Nat)(a:Nat):Int:=sgE (E.getD (2*xoE m a) 0) (E.getD (2*xoE m a+1) 0) (X.getD (xoE m a) (false,false)).1
def frR(m:Nat)(PL:List (Nat×Nat))(X:List Nd)(L:List (Nat×Nat))(T x:Nat):List Lt:=
 (List.range T).map fun t=>frG m PL X (arE m L t) (if t<x then frZ m X (enN m L X.length T) (arE m L t)else 0)
theorem Zlo(m:Nat)(a:List (Nat×Nat))(X:List Nd)(L:List (Nat×Nat))(T x:Nat):(frR m a X L T x).length=T:=by simp[frR]
theorem Z3n(m:Nat)(a:List (Nat×Nat))(X:List Nd)(L:List (Nat×Nat))(T:Nat):frR m a X L (T+1) 0=frR m a X L T 0++[frG m a X (arE m L T) 0]:=by
 unfold frR;rw[List.range_succ,List.map_append];simp
theorem Z6n{m:Nat}{a:List (Nat×Nat)}{X:List Nd}{L:List (Nat×Nat)}{T x:Nat}(h:x<T):(frR m a X L T x)[x]? = some (frG m a X (arE m L x) 0):=by
 unfold frR;rw[List.getElem?_map,List.getElem?_range h];simp
theorem Ybj{m:Nat}{a:List (Nat×Nat)}{X:List Nd}{L:List (Nat×Nat)}{T x:Nat}(b:arE m L x<2*m):frR m a X L T (x+1)=frR m a X L T x:=by
 unfold frR;refine List.map_congr_left fun t _=>?_
 by_cases h:t=x
 ·subst h;unfold frG;rw[if_pos b,if_pos b]
 ·have:(t<x+1)=(t<x):=propext ⟨fun _=>by omega,fun _=>by omega⟩
  simp only[this]
theorem Zz3{m:Nat}{a:List (Nat×Nat)}{X:List Nd}{L:List (Nat×Nat)}{T x:Nat}(b:x<T):frR m a X L T (x+1)=(frR m a X L T x).set x (frG m a X (arE m L x) (frZ m X (enN m L X.length T) (arE m L x))):=by
 apply List.ext_getElem?;intro i;rw[List.getElem?_set,Zlo];unfold frR;rw[List.getElem?_map,List.getElem?_map];by_cases h:x=i
 ·subst h;rw[if_pos rfl,if_pos b,List.getElem?_range b];simp
 ·rw[if_neg h];by_cases hi:i<T
  ·rw[List.getElem?_range hi];have:(i<x+1)=(i<x):=propext ⟨fun _=>by omega,fun _=>by omega⟩
   simp[this]
  ·rw[List.getElem?_eq_none (by simp; omega)]
   rfl
theorem Zpy:∀ (gs:List Nat) (k g r:Nat),g<gs.length→r<gs.getD g 0→(plE k gs).getD ((gs.take g).sum+r) (0,0)=(k+g,r+1)
 | [],_,_,_,h,_=>by simp at h
 | c :: gs,k,0,r,_,h=>by
  have h:r<c:=h;show(((List.range c).map fun i=>(k,i+1))++plE (k+1) gs).getD _ _=_
  rw[List.getD,List.getElem?_append_left (by simp; exact h)]
  simp[h]
 | c :: gs,k,g+1,r,a,h=>by
  have h:r<gs.getD g 0:=h;show(((List.range c).map fun i=>(k,i+1))++plE (k+1) gs).getD _ _=_
  rw[List.take_succ_cons,List.sum_cons,List.getD,List.getElem?_append_right (by simp; omega)]
  have:=Zpy gs (k+1) g r (by simpa using a) h
  rw[List.getD]at this;rw[List.length_map,List.length_range,show c+(gs.take g).sum+r - c=(gs.take g).sum+r by omega,this]
  congr 1
  omega
theorem Z73{n:Nat}{L:List (Nat×Nat)}(c:(U9 L).Nodup)(a:∀ p,p∈L→p.1<n∧p.2<n){e:Nat}(b:e∈U9 L):(Z2 (jnZ n L))[e]? = some [.int .i64 ((ptn L e:Nat):Int)]:=by
 unfold Z2 jnZ;rw[List.getElem?_map,Zo9 L _ e c (by simpa using a) b]
 rfl
section
variable {m:Nat} {X:List Nd} {L:List (Nat×Nat)} (h:Rdg m X L)
include h
def bkT(m:Nat)(X:List Nd)(L:List (Nat×Nat)):Nat:=per (nxE m L) (2*m+4*X.length) 0
theorem Zoy:0<bkT m X L∧arE m L (bkT m X L)=0∧(∀ t,0<t→t<bkT m X L→arE m L t≠0)∧bkT m X L≤2*m+4*X.length+1:=by
 have c:0<2*m+4*X.length:=by have:=h.hm; omega
 obtain⟨d,e,f⟩:=Zhl (Zmq h) c;exact⟨d,e,fun t a b=>f t a b,Zqe (Zmq h) c⟩
theorem Yce:bkT m X L=m+2*X.length↔Whl m X L:=by
 obtain⟨d,a,b,_⟩:=Zoy h;constructor
 ·intro e;rw[e]at a b;exact⟨a,b⟩
 ·intro hw;have f:=h.hm;rcases Nat.lt_trichotomy (bkT m X L) (m+2*X.length)with c|c|c
  ·exact absurd a (hw.first _ d c)
  ·exact c
  ·exact absurd hw.back (b _ (by omega) c)
variable (hw:Whl m X L)
include hw
theorem Zo2{j q s:Nat}(r:j<X.length)(l:q<4)(e:arE m L s=2*m+4*j+q):∀ t,t≤m+2*X.length→s<t→(enN m L X.length t).getD (2*j+q % 2) 0=q
 | 0,_,h=>absurd h (Nat.not_lt_zero _)
 | t+1,w,v=>by
  have u:=Zj8 m L X.length t;unfold enN;by_cases d:s=t
  ·subst d;rw[if_neg (by omega)]
   have a:xoE m (arE m L s)=j:=by unfold xoE; omega
   have f:qoE m (arE m L s)=q:=by unfold qoE; omega
   rw[a,f,List.getD,List.getElem?_set_self (by omega)]
   rfl
  ·have n:=Zo2 r l e t (by omega) (by omega)
   by_cases k:arE m L t<2*m
   ·rw[if_pos k]; exact n
   ·rw[if_neg k];have p:=P9 h t;by_cases hi:2*xoE m (arE m L t)+qoE m (arE m L t) % 2=2*j+q % 2
    ·have a:xoE m (arE m L t)=j:=by omega
     have f:qoE m (arE m L t) % 2=q % 2:=by omega
     have b:qoE m (arE m L t)<4:=Nat.mod_lt _ (by omega)
     have o:arE m L t=2*m+4*j+qoE m (arE m L t):=by unfold xoE at a; unfold qoE; omega
     have g:=Zfx h hw (t:=s) (by omega) l e
     have i:=Zfx h hw (t:=t) (by omega) b o
     have:qoE m (arE m L t)=q:=by
      rcases Nat.mod_two_eq_zero_or_one q with c|c
      ·rw[← g.1 c,← i.1 (by omega)]
      ·rw[← g.2 c,← i.2 (by omega)]
     rw[hi,List.getD,List.getElem?_set_self (by omega),this]
     rfl
    ·rw[List.getD,List.getElem?_set_ne hi];exact n
theorem en_e{j:Nat}(f:j<X.length):(enN m L X.length (m+2*X.length)).getD (2*j) 0=e0E m (arL m X L) j∧(enN m L X.length (m+2*X.length)).getD (2*j+1) 0=e1E m (arL m X L) j:=by
 have key:∀ b,b<2 → ∃ t q,t<m+2*X.length∧q<4∧q % 2=b∧arE m L t=2*m+4*j+q:=fun b c=>by
  obtain⟨t,a,e⟩:=Zkq h hw (e:=2*m+4*j+b) (mem_reps.2 (.inr ⟨j,f,by omega⟩))
  refine⟨t,(arE m L t - 2*m) % 4,a,Nat.mod_lt _ (by omega),?_⟩
  unfold rpE at e;split at e<;>omega
 constructor
 ·obtain⟨t,q,a,d,c,e⟩:=key 0 (by omega)
  have:=Zo2 h hw f d e _ (Nat.le_refl _) a;rw[c]at this;rw[(Zfx h hw a d e).1 c];exact this
 ·obtain⟨t,q,a,d,c,e⟩:=key 1 (by omega)
  have:=Zo2 h hw f d e _ (Nat.le_refl _) a;rw[c]at this;rw[(Zfx h hw a d e).2 c];exact this
theorem Z6c(b:List (Nat×Nat)):frR m b X L (m+2*X.length) (m+2*X.length)=Y0 m b X L:=by
 unfold frR Y0
 conv=>rhs; unfold arL
 rw[List.map_map];refine List.map_congr_left fun t c=>?_
 have c:=List.mem_range.1 c;rw[if_pos c];show _=ltA m b X (arL m X L) (arE m L t);unfold frG ltA;by_cases a:arE m L t<2*m
 ·rw[if_pos a,if_pos a]
 ·have d:=P9 h t;have:=en_e h hw (j:=xoE m (arE m L t)) (by unfold xoE; omega)
  rw[if_neg a,if_neg a];unfold frZ;rw[this.1,this.2];rfl
end
end Go.Known
end
