/- Part 38 of the proof: Ei, Ek, El, Em. -/
import Derived.Test.YtilmpmlkndfbjaaGreatDoorK36
import Derived.Test.YtilmpmlkndfbjaaGreatDoorK37
set_option linter.all false
section
namespace Go.Ab
open Go Go.AE Go.Proofs
open Go.Plain
theorem C1(l:List FuncId)(k:Nat)(x:Ah)(lo hi mx:Option Ah):L4 l (.DB k x lo hi mx)=false:=rfl
attribute [local simp] C8 D6 D3 B4 B0 C6 D7 C7 D9 B7 C3 Gk E5 B6 D8 C2 C1
def kM(m:Nat)(PV:Aa)(j c:Nat)(L:List (Nat×Nat))(X:List Nd):List (Nat×Ag):=
 (1,Es PV (.sl j 0 (2*m+4*X.length)) (AH c ((xJ m X).map Cb))) :: (j,.cells 1 (Z1 (BK (2*m+4*X.length) L))) :: AF c 6 ((xJ m X).map Cb) []
theorem mA(l:List Nat):((Z0 l).all fun row=>row.all ZQ)=true:=by
 unfold Z0;rw[List.all_map];exact List.all_eq_true.2 fun x _=>rfl
theorem mY(l:List Nat):((Z0 l).all fun row=>row.length == 1)=true:=by
 unfold Z0;rw[List.all_map];exact List.all_eq_true.2 fun x _=>rfl
theorem oW(front:List Nat)(a e n:Nat):Dl front a e (n+1)=Dl front a e n++[(front.getD (a+n) 0,e+(4 - n) % 4)]:=by
 unfold Dl;rw[List.range_succ,List.map_append];rfl
theorem Wu{get:Nat→Option Ag}{b l h:Nat}{x0 x1 x2 x3:Int}{o p:Bool}(hg:get b=some (.cells 6 [[.int .i64 x0,.int .i64 x1,.int .i64 x2,.int .i64 x3,.bool o,.bool p]]))(hh:h≤4)(hl:l≤h) :
 Sk 4 1 get (.ptr b 0 0) (some (l,h))=some (.An ((([.int .i64 x0,.int .i64 x1,.int .i64 x2,.int .i64 x3,.bool o,.bool p].drop l).take (h - l)).map fun y=>[y]),[(b,none)]):=by
 have h1:EG get [b] (.sl b 0 1)=.An [[.int .i64 x0,.int .i64 x1,.int .i64 x2,.int .i64 x3,.bool o,.bool p]]:=uF (k:=6) (by simp[X3]) hg rfl (by
  intro row hr x hx;simp only[mC,List.not_mem_nil,or_false]at hr;subst hr;simp only[mC,List.not_mem_nil,or_false]at hx;rcases hx with rfl|rfl|rfl|rfl|rfl|rfl<;>rfl)
 unfold Sk MK;simp only[hg,h1];rw[iP ⟨by simp,by simp,hh,hl⟩]
 simp
theorem E8(e:Nat):O4 e 1=[e+1,e+2,e+3]:=rfl
theorem E9(e:Nat):O4 e 2=[e+1,e+2]:=rfl
theorem D1(e:Nat):O4 e 3=[e+1]:=rfl
theorem E6(e:Nat):O4 e 4=[]:=rfl
set_option maxRecDepth 100000 in
set_option maxHeartbeats 16000000 in
theorem Z2w(P:List (List Aa))(hP:V3 P=true)(m:Nat)(below:Bool)(rs:List Ro)(F CX:List Nat)(L:List (Nat×Nat))(X:List Nd)(hO:CU m F CX L X)(hb:2*m+4*(X.length+rs.length)≤100000) :
 Cc Tryz.prog 27 [.ptr 1 0 0,.An (rs.map BN),.sl 4 0 F.length,.bool below] ⟨(4,.cells 1 (Z0 F)) :: kM m (Bx P) 2 3 L X,5⟩ fun r mm=>
  r=.bool (X9 m below rs F L X).1∧mm=⟨kM m (Bx P) 5 6 (X9 m below rs F L X).2.1 (X9 m below rs F L X).2.2,7⟩:=by
 refine GV hm [53] Tryz.func27 Pq rfl rfl fun K hK=>?_
 obtain⟨res,hres⟩:∃ res,res=X9 m below rs F L X:=⟨_,rfl⟩
 rw[← hres]at hK;have hcI:=RO P;have hoI:=SF P;have hrI:∀ q,(Bx P).AA q=Bx P:=fun q=>Aa.Bn q _ (LO hP)
 have hcj:=fun J XR a b ha hb=>Z6o P hP J XR a b ha hb
 have Ci:∀ q,Z3 q (rs.map BN)=rs.map BN:=fun q=>X7 q _ (MH rs)
 have CP:(rs.map BN).length=rs.length:=lM ..;have hRg:∀ i (h:i<rs.length),(rs.map BN)[i]? = some (BN rs[i]):=fun i h=>by rw[gM,gE h]; rfl
 have hnn:∀ q (l:List Nat),Z3 q (Z0 l)=Z0 l:=fun q l=>Y0 q l
 have hJJ:∀ q (l:List Int),Z3 q (Z1 l)=Z1 l:=fun q l=>X7 q _ (N9 l)
 have hXX:∀ q (l:List (Int×Nd)),Z3 q (l.map Cb)=l.map Cb:=fun q l=>X7 q _ (OJ l)
 generalize Bx P=PV at *;generalize hR:rs.map BN=R at *;simp[CP,V9];refine T6 (α:=Nat×List Nat×List (Nat×Nat)×List Nd) (fun a=>[(0,.ptr 1 0 0),(1,.An R),(2,.sl 7 0 a.2.1.length),(3,.bool below),(15,.An R),(16,.int .i64 rs.length),(17,.int .i64 a.1)])
  (fun a=>⟨(7,.cells 1 (Z0 a.2.1)) :: kM m PV 8 9 a.2.2.1 a.2.2.2,10⟩) (fun a=>rs.length - a.1)
  (fun a=>a.1≤rs.length∧CU m a.2.1 CX a.2.2.1 a.2.2.2∧a.2.2.2.length+(rs.length - a.1)≤X.length+rs.length∧X9 m below (rs.drop a.1) a.2.1 a.2.2.1 a.2.2.2=res)
  (0,F,L,X) [(7,4),(8,2),(9,3)] (by simp +contextual [kM,Es,Ci,hnn,hJJ,hXX,hrI]) ⟨by simp,hO,by simp,by simpa using hres.symm⟩ ?_
 rintro⟨i,F,L,X⟩ ⟨hi,hO,hk,hs⟩ N hN;simp only at hi hO hk hs hN ⊢;obtain⟨hFl,hLl,hFn⟩:=hO.lt;have hw1:=X5 ((i:Int)+1);by_cases hend:i=rs.length
 ·subst hend;rw[List.drop_length]at hs;simp only[X9]at hs;subst hs;have hd:(decide (F=[]))=decide (F.length=0):=by simp
  simp only[hd]at hK;simp;exact Z6 (hK _ _ ⟨rfl,rfl⟩) [(5,8),(6,9)] (by simp +contextual [kM,Es,hnn,hJJ,hXX,hrI])
 have hil:i<rs.length:=by omega
 have hg:=hRg i hil;obtain⟨_,hg2⟩:=Y6 hg;rw[List.drop_eq_getElem_cons hil]at hs;obtain⟨⟨kd,at0,nn,ov⟩,hr⟩:∃ r,r=rs[i]:=⟨_,rfl⟩
 rw[← hr]at hs hg hg2;simp only[X9,BN]at hs hg hg2;have hw2:=X5 ((F.length:Int) - 1);by_cases h1:kd=1
 ·subst h1;by_cases c1:at0<0
  ·rw[iN (by simp only[M8]; first|omega|simp),iN (by simp only[J3]; omega)]at hs
   subst hs;have hKb:=hK _ _ ⟨rfl,rfl⟩;clear hK hN hcj;unfold kM Es at *;have hX1:=fun q=>hXX q (xJ m X)
   have hJ1:=fun q=>hJJ q (BK (2*m+4*X.length) L)
   generalize (xJ m X).map Cb=XX at *;generalize Z1 (BK (2*m+4*X.length) L)=JR at *;generalize 2*m+4*X.length=nn4 at *;simp[hil,hg,hg2,CP,hw2,c1];exact Z6 hKb [(5,8),(6,9)] (by simp +contextual [hnn,hX1,hJ1,hrI])
  obtain⟨a,rfl⟩:∃ a:Nat,at0=(a:Int):=⟨at0.toNat,by omega⟩
  by_cases c2:(F.length:Int) - 1≤a
  ·rw[iN (by simp only[M8]; first|omega|simp),iN (by simp only[J3]; omega)]at hs
   subst hs;have hKb:=hK _ _ ⟨rfl,rfl⟩;clear hK hN hcj;unfold kM Es at *;have hX1:=fun q=>hXX q (xJ m X)
   have hJ1:=fun q=>hJJ q (BK (2*m+4*X.length) L)
   generalize (xJ m X).map Cb=XX at *;generalize Z1 (BK (2*m+4*X.length) L)=JR at *;generalize 2*m+4*X.length=nn4 at *;simp[hil,hg,hg2,CP,hw2,c1,c2];exact Z6 hKb [(5,8),(6,9)] (by simp +contextual [hnn,hX1,hJ1,hrI])
  by_cases c3:nn=0
  ·subst c3;cases ov with
   | true=>
    rw[iN (by simp only[M8]; first|omega|simp),iN (by simp only[J3]; omega)]at hs
    subst hs;have hKb:=hK _ _ ⟨rfl,rfl⟩;clear hK hN hcj;unfold kM Es at *;have hX1:=fun q=>hXX q (xJ m X)
    have hJ1:=fun q=>hJJ q (BK (2*m+4*X.length) L)
    generalize (xJ m X).map Cb=XX at *;generalize Z1 (BK (2*m+4*X.length) L)=JR at *;generalize 2*m+4*X.length=nn4 at *;simp[hil,hg,hg2,CP,hw2,c1,c2];exact Z6 hKb [(5,8),(6,9)] (by simp +contextual [hnn,hX1,hJ1,hrI])
   | false=>
    have hcap:M8 F.length (1,(a:Int),0,false):=⟨rfl,by show(0:Int)≤a; omega,by show(a:Int)<F.length - 1; omega,rfl,rfl⟩
    rw[iP hcap]at hs;have ha1:a+1<F.length:=by omega
    have ha0:a<F.length:=by omega
    have hg0:=MI (l:=F) (i:=a) ha0;obtain⟨_,hg02⟩:=Y6 hg0;have hg1:=MI (l:=F) (i:=a+1) ha1;obtain⟨_,hg12⟩:=Y6 hg1;have hx1:F.getD a 0<2*m+4*X.length:=hFl _ (ML ha0);have hx2:F.getD (a+1) 0<2*m+4*X.length:=hFl _ (ML ha1);have hj:=hcj (BK (2*m+4*X.length) L) (xJ m X) (F.getD a 0) (F.getD (a+1) 0) (by rw[MZ]; exact hx1) (by rw[MZ]; exact hx2)
    rw[MZ,← nA]at hj;have hO2:=hO.cap ha1;simp only[Int.toNat_natCast]at hs;have hw3:=X5 ((a:Int)+1);have hw4:=X5 ((a:Int)+2);have DJ:(0:Int)≤(a:Int)+1:=by omega
    have hN':=hN (i+1,F.take a++F.drop (a+2),L++[(F.getD a 0,F.getD (a+1) 0)],X);simp only at hN';have hFe:Z0 (F.take a++F.drop (a+2))=Z0 (F.take a)++Z0 (F.drop (a+2)):=by simp[Z0]
    have hFl2:(F.take a++F.drop (a+2)).length=F.length - 2:=by simp; omega
    have hFn2:=O5 F;have hFd:(Z0 F).take a=Z0 (F.take a):=by simp[Z0]
    have hFdr:(Z0 F).drop (a+2)=Z0 (F.drop (a+2)):=by simp[Z0]
    have hRAl:(Z0 (F.take a)).length=a:=by rw[O5,lK]; omega
    have hRBl:(Z0 (F.drop (a+2))).length=F.length - (a+2):=by rw[O5,List.length_drop]
    have hl0:(Z0 (F.drop (a+2))).take (F.length - (a+2))=Z0 (F.drop (a+2)):=tL (by rw[hRBl]; omega)
    have Cm:=fun (h0:0<a)=>UK (Z0 (F.take a)) (fun e=>by rw[e]at hRAl; simp at hRAl; omega) (by rw[hRAl]; omega) (mY _) (Re _)
    rw[hRAl]at Cm;have hRAc:=Re (F.take a);have hRAn:=mA (F.take a);have hRAs:=fun get=>uO (get:=get) (n:=3) (F.take a)
    have hrA:=fun q=>hnn q (F.take a)
    have hrB:=fun q=>hnn q (F.drop (a+2))
    rw[hFe,hFl2]at hN';clear hN hcj;unfold kM Es at *;have hX1:=fun q=>hXX q (xJ m X)
    have hJ1:=fun q=>hJJ q (BK (2*m+4*X.length) L)
    have hJ2:=fun q=>hJJ q (BK (2*m+4*X.length) (L++[(F.getD a 0,F.getD (a+1) 0)]))
    generalize (xJ m X).map Cb=XX at *;generalize Z1 (BK (2*m+4*X.length) (L++[(F.getD a 0,F.getD (a+1) 0)]))=JR2 at *;generalize Z1 (BK (2*m+4*X.length) L)=JR at *;generalize F.getD a 0=x at *;generalize F.getD (a+1) 0=y at *;have hb3:F.length≤1048578:=by omega
    have ha00:a≤F.length:=by omega
    have ha2:a+2≤F.length:=by omega
    have ha2z:(a:Int)+2≤F.length:=by omega
    have htn:((a:Int)+2).toNat=a+2:=by omega
    have hz2:(0:Int)≤(a:Int)+2:=by omega
    generalize Z0 (F.take a)=RA at *;generalize Z0 (F.drop (a+2))=RB at *;by_cases BO:XX=[]
    ·subst BO;simp[hil,hg,hg2,CP,hw2,c1,c2,hg0,hg02,hg1,hg12,hFn2,ha0,ha1,hw3,DJ];refine MG hj (by simp[]) [(1,1),(2,8),(3,9)] (by simp[]) (by simp +contextual [hX1,hJ1,hrI]) (by simp +contextual []) (by simp[EB]) (by decide) (by simp[]) (by simp[]) (by simp[]) ?_
     simp[hX1,hJ2,hrI,ha00];by_cases ha0':a=0
     ·subst ha0';refine QH (by simp) HQ ?_
      have hwz:IntKind.i64.wrap 2=2:=rfl;have hRA0:RA=[]:=List.eq_nil_of_length_eq_zero hRAl;subst hRA0;simp only[Nat.zero_add]at hFdr hRBl hl0;by_cases hq:F.length=2
      ·have hRB0:RB=[]:=List.eq_nil_of_length_eq_zero (by omega)
       subst hRB0;simp[hwz,ha2,hrI,hJ2,hX1,Q7,Z8,hFn2,hFdr,hRBl,hq];exact hN' [(7,56),(8,8),(9,9)] _ _ (by omega) ⟨by omega,hO2,by omega,hs⟩ (by simp +contextual [hw1,hrI,hJ2,hX1,hrA,hrB,Ci,hq])
      ·have hq1:¬F.length - 2=0:=by omega
       simp[hwz,ha2,hrI,hJ2,hX1,Q7,Z8,hFn2,hFdr,hRBl,hl0,hq1,hb3];exact hN' [(7,62),(8,8),(9,9)] _ _ (by omega) ⟨by omega,hO2,by omega,hs⟩ (by simp +contextual [hw1,hrI,hJ2,hX1,hrA,hrB,Ci])
     ·refine Rq [7] (AZ:=[.An RA]) ?_ (by simp only[W9,Aa.closed,hRAc,Bool.and_true]) hRAn (Cm (by omega)) ?_
      ·simp only[List.map_cons,List.map_nil];rw[Rg (k:=1) (els:=Z0 F) rfl (by simp[B5,X3]) (by rw[hFn2]; exact ha00) (by rw[hFd]; exact hRAs _),hFd]
      have hRAt:List.take a RA=RA:=tL (by omega)
      have hRAd:List.drop a RA=[]:=List.drop_eq_nil_of_le (by omega)
      by_cases hq:F.length=a+2
      ·have hRB0:RB=[]:=List.eq_nil_of_length_eq_zero (by omega)
       subst hRB0;simp[hw4,hz2,ha2,ha2z,htn,hrI,hJ2,hX1,Q7,Z8,hFn2,hRAl,hFdr,hRBl,hq,hRAt,hRAd];exact hN' [(7,56),(8,8),(9,9)] _ _ (by omega) ⟨by omega,hO2,by omega,hs⟩ (by simp +contextual [hw1,hrI,hJ2,hX1,hrA,hrB,Ci,hq])
      ·have hq1:¬a+(F.length - (a+2))≤a:=by omega
       have hq2:a+(F.length - (a+2))≤1048576:=by omega
       have hq3:a+(F.length - (a+2))=F.length - 2:=by omega
       simp[hw4,hz2,ha2,ha2z,htn,hrI,hJ2,hX1,Q7,Z8,hFn2,hRAl,hFdr,hRBl,hl0,hq1,hq2,hRAt];exact hN' [(7,62),(8,8),(9,9)] _ _ (by omega) ⟨by omega,hO2,by omega,hs⟩ (by simp +contextual [hw1,hrI,hJ2,hX1,hrA,hrB,Ci,hq3])
    ·simp[hil,hg,hg2,CP,hw2,c1,c2,hg0,hg02,hg1,hg12,hFn2,ha0,ha1,hw3,DJ,Z9 BO,BO];refine MG hj (by simp[Z9 BO,BO]) [(1,1),(2,8),(3,9)] (by simp[Z9 BO,BO]) (by simp +contextual [hX1,hJ1,hrI,Z9 BO,BO]) (by simp +contextual [Z9 BO,BO]) (by simp[EB,Z9 BO,BO]) (by decide) (by simp[Z9 BO,BO]) (by simp[Z9 BO,BO]) (by simp[Z9 BO,BO]) ?_
     simp[hX1,hJ2,hrI,ha00,Z9 BO,BO];by_cases ha0':a=0
     ·subst ha0';refine QH (by simp) HQ ?_
      have hwz:IntKind.i64.wrap 2=2:=rfl;have hRA0:RA=[]:=List.eq_nil_of_length_eq_zero hRAl;subst hRA0;simp only[Nat.zero_add]at hFdr hRBl hl0;by_cases hq:F.length=2
      ·have hRB0:RB=[]:=List.eq_nil_of_length_eq_zero (by omega)
       subst hRB0;simp[hwz,ha2,hrI,hJ2,hX1,Q7,Z8,hFn2,hFdr,hRBl,hq,Z9 BO,BO];exact hN' [(7,56),(8,8),(9,9)] _ _ (by omega) ⟨by omega,hO2,by omega,hs⟩ (by simp +contextual [hw1,hrI,hJ2,hX1,hrA,hrB,Ci,hq,Z9 BO,BO])
      ·have hq1:¬F.length - 2=0:=by omega
       simp[hwz,ha2,hrI,hJ2,hX1,Q7,Z8,hFn2,hFdr,hRBl,hl0,hq1,hb3,Z9 BO,BO];exact hN' [(7,62),(8,8),(9,9)] _ _ (by omega) ⟨by omega,hO2,by omega,hs⟩ (by simp +contextual [hw1,hrI,hJ2,hX1,hrA,hrB,Ci,Z9 BO,BO])
     ·refine Rq [7] (AZ:=[.An RA]) ?_ (by simp only[W9,Aa.closed,hRAc,Bool.and_true]) hRAn (Cm (by omega)) ?_
      ·simp only[List.map_cons,List.map_nil];rw[Rg (k:=1) (els:=Z0 F) rfl (by simp[B5,X3,Z9 BO,BO]) (by rw[hFn2]; exact ha00) (by rw[hFd]; exact hRAs _),hFd]
      have hRAt:List.take a RA=RA:=tL (by omega)
      have hRAd:List.drop a RA=[]:=List.drop_eq_nil_of_le (by omega)
      by_cases hq:F.length=a+2
      ·have hRB0:RB=[]:=List.eq_nil_of_length_eq_zero (by omega)
       subst hRB0;simp[hw4,hz2,ha2,ha2z,htn,hrI,hJ2,hX1,Q7,Z8,hFn2,hRAl,hFdr,hRBl,hq,hRAt,hRAd,Z9 BO,BO];exact hN' [(7,56),(8,8),(9,9)] _ _ (by omega) ⟨by omega,hO2,by omega,hs⟩ (by simp +contextual [hw1,hrI,hJ2,hX1,hrA,hrB,Ci,hq,Z9 BO,BO])
      ·have hq1:¬a+(F.length - (a+2))≤a:=by omega
       have hq2:a+(F.length - (a+2))≤1048576:=by omega
       have hq3:a+(F.length - (a+2))=F.length - 2:=by omega
       simp[hw4,hz2,ha2,ha2z,htn,hrI,hJ2,hX1,Q7,Z8,hFn2,hRAl,hFdr,hRBl,hl0,hq1,hq2,hRAt,Z9 BO,BO];exact hN' [(7,62),(8,8),(9,9)] _ _ (by omega) ⟨by omega,hO2,by omega,hs⟩ (by simp +contextual [hw1,hrI,hJ2,hX1,hrA,hrB,Ci,hq3,Z9 BO,BO])
  ·rw[iN (by simp only[M8]; first|omega|simp),iN (by simp only[J3]; omega)]at hs
   subst hs;have hKb:=hK _ _ ⟨rfl,rfl⟩;clear hK hN hcj;unfold kM Es at *;have hX1:=fun q=>hXX q (xJ m X)
   have hJ1:=fun q=>hJJ q (BK (2*m+4*X.length) L)
   generalize (xJ m X).map Cb=XX at *;generalize Z1 (BK (2*m+4*X.length) L)=JR at *;generalize 2*m+4*X.length=nn4 at *;simp[hil,hg,hg2,CP,hw2,c1,c2,c3];exact Z6 hKb [(5,8),(6,9)] (by simp +contextual [hnn,hX1,hJ1,hrI])
 ·by_cases h2:kd=2
  ·subst h2;by_cases c1:nn<1
   ·rw[iN (by simp only[M8]; first|omega|simp),iN (by simp only[J3]; omega)]at hs
    subst hs;have hKb:=hK _ _ ⟨rfl,rfl⟩;clear hK hN hcj;unfold kM Es at *;have hX1:=fun q=>hXX q (xJ m X)
    have hJ1:=fun q=>hJJ q (BK (2*m+4*X.length) L)
    generalize (xJ m X).map Cb=XX at *;generalize Z1 (BK (2*m+4*X.length) L)=JR at *;generalize 2*m+4*X.length=nn4 at *;simp[hil,hg,hg2,CP,hw2,c1];exact Z6 hKb [(5,8),(6,9)] (by simp +contextual [hnn,hX1,hJ1,hrI])
   by_cases c2:4<nn
   ·rw[iN (by simp only[M8]; first|omega|simp),iN (by simp only[J3]; omega)]at hs
    subst hs;have hKb:=hK _ _ ⟨rfl,rfl⟩;clear hK hN hcj;unfold kM Es at *;have hX1:=fun q=>hXX q (xJ m X)
    have hJ1:=fun q=>hJJ q (BK (2*m+4*X.length) L)
    generalize (xJ m X).map Cb=XX at *;generalize Z1 (BK (2*m+4*X.length) L)=JR at *;generalize 2*m+4*X.length=nn4 at *;simp[hil,hg,hg2,CP,hw2,c1,c2];exact Z6 hKb [(5,8),(6,9)] (by simp +contextual [hnn,hX1,hJ1,hrI])
   by_cases c3:at0<0
   ·rw[iN (by simp only[M8]; first|omega|simp),iN (by simp only[J3]; omega)]at hs
    subst hs;have hKb:=hK _ _ ⟨rfl,rfl⟩;clear hK hN hcj;unfold kM Es at *;have hX1:=fun q=>hXX q (xJ m X)
    have hJ1:=fun q=>hJJ q (BK (2*m+4*X.length) L)
    generalize (xJ m X).map Cb=XX at *;generalize Z1 (BK (2*m+4*X.length) L)=JR at *;generalize 2*m+4*X.length=nn4 at *;simp[hil,hg,hg2,CP,hw2,c1,c2,c3];exact Z6 hKb [(5,8),(6,9)] (by simp +contextual [hnn,hX1,hJ1,hrI])
   obtain⟨a,rfl⟩:∃ a:Nat,at0=(a:Int):=⟨at0.toNat,by omega⟩
   obtain⟨k,rfl⟩:∃ k:Nat,nn=(k:Int):=⟨nn.toNat,by omega⟩
   have hw3:=X5 ((F.length:Int) - k);by_cases c4:(F.length:Int) - k<a
   ·rw[iN (by simp only[M8]; first|omega|simp),iN (by simp only[J3]; omega)]at hs
    subst hs;have hKb:=hK _ _ ⟨rfl,rfl⟩;clear hK hN hcj;unfold kM Es at *;have hX1:=fun q=>hXX q (xJ m X)
    have hJ1:=fun q=>hJJ q (BK (2*m+4*X.length) L)
    generalize (xJ m X).map Cb=XX at *;generalize Z1 (BK (2*m+4*X.length) L)=JR at *;generalize 2*m+4*X.length=nn4 at *;simp[hil,hg,hg2,CP,hw2,c1,c2,c3,c4,hw3];exact Z6 hKb [(5,8),(6,9)] (by simp +contextual [hnn,hX1,hJ1,hrI])
   have CM:J3 F.length (2,(a:Int),(k:Int),ov):=⟨rfl,by show(1:Int)≤k; omega,by show(k:Int)≤4; omega,by show(0:Int)≤a; omega,by show(a:Int)≤F.length - k; omega⟩
   rw[iN (by simp only[M8]; omega),iP CM]at hs
   simp only[Int.toNat_natCast]at hs;have hk1:1≤k:=by omega
   have hk4:k≤4:=by omega
   have hak:a+k≤F.length:=by omega
   have hO2:=hO.DE hk1 hk4 hak (ov,below);have hN':=hN (i+1,F.take a++O4 (2*m+4*X.length) k++F.drop (a+k),L++Dl F a (2*m+4*X.length) k,X++[(ov,below)]);simp only at hN';clear hN;obtain⟨JR,hJR⟩:∃ JR,JR=BK (2*m+4*X.length) L:=⟨_,rfl⟩
   have hJl:(Z1 JR).length=2*m+4*X.length:=by rw[A8,hJR,MZ]
   have hX1:=fun q=>hXX q (xJ m X)
   unfold kM Es;rw[← hJR];have hXl:((xJ m X).map Cb).length=X.length:=by rw[lM,Xh]
   obtain⟨XX,hXd⟩:∃ XX,XX=(xJ m X).map Cb:=⟨_,rfl⟩
   rw[← hXd]at hXl hX1 ⊢;obtain⟨e,he⟩:∃ e,e=2*m+4*X.length:=⟨_,rfl⟩
   rw[← he]at hJl hN' hs hO2 ⊢;simp[hil,hg,hg2,CP,hw2,c1,c2,c3,c4,hw3];have hnF:=fun q=>hnn q F
   have he1:e≤1048575:=by omega
   have he2:e≤1048574:=by omega
   have he3:e≤1048573:=by omega
   have he4:e≤1048572:=by omega
   have hXb:X.length≤1048575:=by omega
   have hT2:List.take (e+2) (Z1 JR++[[Aa.int .i64 (-1)],[.int .i64 (-1)]])=Z1 JR++[[.int .i64 (-1)],[.int .i64 (-1)]]:=tL (by rw[lA,hJl]; exact lR _)
   have hT3:List.take (e+3) (Z1 JR++[[Aa.int .i64 (-1)],[.int .i64 (-1)],[.int .i64 (-1)]])=Z1 JR++[[.int .i64 (-1)],[.int .i64 (-1)],[.int .i64 (-1)]]:=tL (by rw[lA,hJl]; exact lR _)
   have hne1:¬e+1≤e:=by omega
   have hne2:¬e+2≤e+1:=by omega
   have hT1:List.take (e+1) (Z1 JR++[[Aa.int .i64 (-1)]])=Z1 JR++[[.int .i64 (-1)]]:=tL (by rw[lA,hJl]; exact lR _)
   have hT0:List.take e (Z1 JR)=Z1 JR:=tL (by rw[hJl]; exact lR _)
   have hwj0:IntKind.i64.wrap 1=1:=rfl;have hwj1:IntKind.i64.wrap 2=2:=rfl;have hwj2:IntKind.i64.wrap 3=3:=rfl;have hwj3:IntKind.i64.wrap 4=4:=rfl;have hjR:=fun q=>hJJ q JR
   refine T6 (α:=Nat) (fun j=>[(0,.ptr 1 0 0),(1,.An R),(2,.sl 7 0 F.length),(3,.bool below),(10,.ptr 10 0 0),(11,.ptr 11 0 0),(15,.An R),(16,.int .i64 rs.length),(17,.int .i64 i),(98,.int .i64 j)])
    (fun j=>⟨(7,.cells 1 (Z0 F)) :: (1,.cells 3 [[PV,.sl 8 0 (e+j),AH 9 XX]]) :: (8,.cells 1 (Z1 JR++List.replicate j [.int .i64 (-1)])) ::
      (10,.cells 4 [[.int .i64 2,.int .i64 a,.int .i64 k,.bool ov]]) ::
      (11,.cells 6 [[.int .i64 (if 0<j then (e:Int)else 0),.int .i64 (if 1<j then (e:Int)+1 else 0),.int .i64 (if 2<j then (e:Int)+2 else 0),.int .i64 (if 3<j then (e:Int)+3 else 0),.bool ov,.bool below]]) :: AF 9 6 XX [],12⟩)
    (fun j=>4 - j) (fun j=>j≤4) 0 [(7,7),(8,8),(9,9),(10,13),(11,48)] (by simp +contextual [hrI,hX1,Ci,hnF,hjR]) (by omega) ?_
   intro j hj N3 hN3;have hj5:j=0∨j=1∨j=2∨j=3∨j=4:=by omega
   rcases hj5 with rfl|rfl|rfl|rfl|rfl
   ·have hN3':=hN3 1;simp[hJl,Z8,he1,he2,he3,he4,hT0,hT1,hT2,hT3,hne1,hne2];exact hN3' [(7,7),(8,30),(9,9),(10,10),(11,11)] _ _ (by omega) (by omega) (by simp +contextual [hrI,hX1,Ci,hnF,hjR,hwj0])
   ·have hN3':=hN3 2;simp[hJl,Z8,he1,he2,he3,he4,hT0,hT1,hT2,hT3,hne1,hne2];exact hN3' [(7,7),(8,30),(9,9),(10,10),(11,11)] _ _ (by omega) (by omega) (by simp +contextual [hrI,hX1,Ci,hnF,hjR,hwj1])
   ·have hN3':=hN3 3;simp[hJl,Z8,he1,he2,he3,he4,hT0,hT1,hT2,hT3,hne1,hne2];exact hN3' [(7,7),(8,30),(9,9),(10,10),(11,11)] _ _ (by omega) (by omega) (by simp +contextual [hrI,hX1,Ci,hnF,hjR,hwj2])
   ·have hN3':=hN3 4;simp[hJl,Z8,he1,he2,he3,he4,hT0,hT1,hT2,hT3,hne1,hne2];exact hN3' [(7,7),(8,30),(9,9),(10,10),(11,11)] _ _ (by omega) (by omega) (by simp +contextual [hrI,hX1,Ci,hnF,hjR,hwj3])
   ·simp[hJl,hXl,hXb];have hX2:(xJ m (X++[(ov,below)])).map Cb=XX++[[.int .i64 e,.int .i64 ((e:Int)+1),.int .i64 ((e:Int)+2),.int .i64 ((e:Int)+3),.bool ov,.bool below]]:=by
     rw[yh,List.map_append,← hXd,← he];rfl
    have hX2l:((xJ m (X++[(ov,below)])).map Cb).length=X.length+1:=by rw[lM,Xh]; simp
    have hX2n:(xJ m (X++[(ov,below)])).map Cb≠[]:=by rw[hX2]; simp
    have hX2r:=fun q=>hXX q (xJ m (X++[(ov,below)]))
    have hJ5:Z1 (BK (e+4) (L++Dl F a e 0))=Z1 JR++[[.int .i64 (-1)],[.int .i64 (-1)],[.int .i64 (-1)],[.int .i64 (-1)]]:=by
     have e1:L++Dl F a e 0=L:=by simp[Dl]
     rw[e1,wu 4 (by rw[he]; exact hLl),hJR,he]
     simp[Z1]
    have hF5:∀ t,t<k→F.getD (a+t) 0<e+4:=fun t ht=>by
     have:=hFl _ (ML (l:=F) (i:=a+t) (by omega))
     omega
    have hgF:∀ t,t<k→(Z0 F)[a+t]? = some [.int .i64 ((F.getD (a+t) 0:Nat):Int)]:=fun t ht=>MI (by omega)
    have hJn:∀ t,t<k→_:=fun t ht=>hcj (BK (e+4) (L++Dl F a e t)) (xJ m (X++[(ov,below)])) (F.getD (a+t) 0) (e+(4 - t) % 4) (by rw[MZ]; exact hF5 t ht) (by rw[MZ]; omega)
    simp only[MZ,← nA,List.append_assoc,← oW]at hJn;have hJr:=fun q t=>hJJ q (BK (e+4) (L++Dl F a e t))
    have hJ5l:=fun t=>(A8 (BK (e+4) (L++Dl F a e t))).trans (MZ _ _)
    have hFn2:=O5 F;have hwa:IntKind.i64.wrap (a:Int)=a:=S8 (by omega) (by omega)
    rw[← hX2,← hJ5];clear hcj hX2 hN3 hJ5;unfold Es AH at hJn;simp only[iN hX2n,Z9 hX2n,hX2l]at hJn;have hn4:2*m+4*(X++[(ov,below)]).length=e+4:=by simp; omega
    unfold kM Es AH at hN';simp only[hn4,iN hX2n,Z9 hX2n,hX2l]at hN';generalize (xJ m (X++[(ov,below)])).map Cb=X2 at *;refine T6 (α:=Nat) (fun t=>[(0,.ptr 1 0 0),(1,.An R),(2,.sl 7 0 F.length),(3,.bool below),(10,.ptr 10 0 0),(11,.ptr 11 0 0),(15,.An R),(16,.int .i64 rs.length),(17,.int .i64 i),(130,.int .i64 k),(131,.int .i64 t)])
     (fun t=>⟨[(7,.cells 1 (Z0 F)),(1,.cells 3 [[PV,.sl 8 0 (e+4),.sl 9 0 (X.length+1)]]),(8,.cells 1 (Z1 (BK (e+4) (L++Dl F a e t)))),(9,.cells 6 X2),
       (10,.cells 4 [[.int .i64 2,.int .i64 a,.int .i64 k,.bool ov]]),
       (11,.cells 6 [[.int .i64 (e:Int),.int .i64 ((e:Int)+1),.int .i64 ((e:Int)+2),.int .i64 ((e:Int)+3),.bool ov,.bool below]])],12⟩)
     (fun t=>k - t) (fun t=>t≤k) 0 [(7,7),(8,8),(9,20),(10,10),(11,11)] (by simp +contextual [hrI,Ci,hnF,hJr,hX2r]) (by omega) ?_
    intro t ht N5 hN5;by_cases htk:t=k
    ·subst htk;have hR5:=fun q=>hJr q t
     have hFd:(Z0 F).take a=Z0 (F.take a):=by simp[Z0]
     have hFdr:(Z0 F).drop (a+t)=Z0 (F.drop (a+t)):=by simp[Z0]
     have hRAl:(Z0 (F.take a)).length=a:=by rw[O5,lK]; omega
     have hRBl:(Z0 (F.drop (a+t))).length=F.length - (a+t):=by rw[O5,List.length_drop]
     have hl0:(Z0 (F.drop (a+t))).take (F.length - (a+t))=Z0 (F.drop (a+t)):=tL (by rw[hRBl]; omega)
     have Cm:=fun (h0:0<a)=>UK (Z0 (F.take a)) (fun e=>by rw[e]at hRAl; simp at hRAl; omega) (by rw[hRAl]; omega) (mY _) (Re _)
     rw[hRAl]at Cm;have hRAc:=Re (F.take a);have hRAn:=mA (F.take a);have hRAs:=fun get=>uO (get:=get) (n:=3) (F.take a)
     have hrA:=fun q=>hnn q (F.take a)
     have hrB:=fun q=>hnn q (F.drop (a+t))
     have ha00:a≤F.length:=by omega
     have hFe:Z0 (F.take a++O4 e t++F.drop (a+t))=Z0 (F.take a)++Z0 (O4 e t)++Z0 (F.drop (a+t)):=by simp[Z0]
     have hFl2:(F.take a++O4 e t++F.drop (a+t)).length=a+(4 - t)+(F.length - (a+t)):=by simp[O4]; omega
     have hw6:=X5 ((a:Int)+t);have hz6:(0:Int)≤(a:Int)+t:=by omega
     have ht6:((a:Int)+t).toNat=a+t:=by omega
     obtain⟨d,hd⟩:∃ d,F.length=a+t+d:=⟨F.length - (a+t),by omega⟩
     have hRBl':(Z0 (F.drop (a+t))).length=d:=by rw[hRBl]; omega
     have hl0':(Z0 (F.drop (a+t))).take d=Z0 (F.drop (a+t)):=tL (by rw[hRBl']; exact lR _)
     have hFl3:(F.take a++O4 e t++F.drop (a+t)).length=a+(4 - t)+d:=by rw[hFl2]; omega
     rw[hFe,hFl3]at hN';clear hFl2 hRBl hl0 hFl3 hF5;have hrk:=fun q=>hnn q (O4 e t)
     have Bg:a≤100000:=by omega
     have Cq:d≤100000:=by omega
     have hb3:a≤1048575:=by omega
     have hb4:a≤1048574:=by omega
     have hb5:a≤1048573:=by omega
     have DF:¬a+1≤a:=by omega
     have hn2:¬a+2≤a:=by omega
     have hn3:¬a+3≤a:=by omega
     clear hgF hJn hJr hJ5l hN5;generalize Z1 (BK (e+4) (L++Dl F a e t))=R5 at *;generalize Z0 (F.take a)=RA at *;generalize Z0 (F.drop (a+t))=RB at *;have ht4:t=1∨t=2∨t=3∨t=4:=by omega
     rcases ht4 with rfl|rfl|rfl|rfl
     ·simp[hwj0,hwj1,hwj2,hwj3];rw[Wu (x0:=(e:Int)) (x1:=(e:Int)+1) (x2:=(e:Int)+2) (x3:=(e:Int)+3) (o:=ov) (p:=below) (by simp) (by omega) (by omega)]
      have hna:a≤a+1+d:=by omega
      have hw6':=X5 ((a:Int)+1);have hz6':(0:Int)≤(a:Int)+1:=by omega
      have ht6':((a:Int)+1).toNat=a+1:=by omega
      have hna2:a+1≤a+1+d:=by omega
      simp[hd,hna];by_cases ha0':a=0
      ·subst ha0';refine QH (by simp) HQ ?_
       have hRA0:RA=[]:=List.eq_nil_of_length_eq_zero hRAl;subst hRA0;simp only[Nat.zero_add]at hFdr hak hd;by_cases hq:d=0
       ·have hRB0:RB=[]:=List.eq_nil_of_length_eq_zero (by omega)
        subst hRB0;subst hq;simp[hwj0,hwj1,hwj2,hwj3,hrI,hR5,hX2r,Q7,Z8,hd,hFdr,hRBl',hl0',hb3,hb4,hb5,DF,hn2,hn3];exact hN' [(7,25 - 2*(1 / 4)),(8,8),(9,9)] _ _ (by omega) ⟨by omega,hO2,by simp; omega,hs⟩ (by simp +contextual [hw1,hrI,hR5,hX2r,hrA,hrB,Ci,hd,hRAl,E8,E9,D1,E6,Z0])
       ·have EH:¬1+d≤1:=by omega
        have hm2:¬2+d≤2:=by omega
        have hm3:¬3+d≤3:=by omega
        have hm4:1+d≤1048576:=by omega
        have hm5:2+d≤1048576:=by omega
        have hm6:3+d≤1048576:=by omega
        have hm7:d≤1048576:=by omega
        simp[EH,hm2,hm3,hm4,hm5,hm6,hm7,hwj0,hwj1,hwj2,hwj3,hrI,hR5,hX2r,Q7,Z8,hd,hFdr,hRBl',hl0',hb3,hb4,hb5,DF,hn2,hn3,hq];exact hN' [(7,33),(8,8),(9,9)] _ _ (by omega) ⟨by omega,hO2,by simp; omega,hs⟩ (by simp +contextual [hw1,hrI,hR5,hX2r,hrA,hrB,Ci,hd,E8,E9,D1,E6,Z0])
      ·refine Rq [7] (AZ:=[.An RA]) ?_ (by simp only[W9,Aa.closed,hRAc,Bool.and_true]) hRAn (Cm (by omega)) ?_
       ·simp only[List.map_cons,List.map_nil];rw[Rg (k:=1) (els:=Z0 F) rfl (by simp[B5,X3]) (by rw[hFn2]; exact ha00) (by rw[hFd]; exact hRAs _),hFd]
       have hRAt:List.take a RA=RA:=tL (by omega)
       have hRAd:List.drop a RA=[]:=List.drop_eq_nil_of_le (by omega)
       have hZ1:∀ x:List Aa,List.take (a+1) (RA++[x])=RA++[x]:=fun x=>tL (by rw[lA,hRAl]; exact lR _)
       have hZ2:∀ x y:List Aa,List.take (a+2) (RA++[x,y])=RA++[x,y]:=fun x y=>tL (by rw[lA,hRAl]; exact lR _)
       have hZ3:∀ x y z:List Aa,List.take (a+3) (RA++[x,y,z])=RA++[x,y,z]:=fun x y z=>tL (by rw[lA,hRAl]; exact lR _)
       by_cases hq:d=0
       ·have hRB0:RB=[]:=List.eq_nil_of_length_eq_zero (by omega)
        subst hRB0;subst hq;simp[hZ1,hZ2,hZ3,hw6',hz6',ht6',hna2,hRAl,hRAt,hRAd,hwj0,hwj1,hwj2,hwj3,hrI,hR5,hX2r,Q7,Z8,hd,hFdr,hRBl',hl0',hb3,hb4,hb5,DF,hn2,hn3];exact hN' [(7,25 - 2*(1 / 4)),(8,8),(9,9)] _ _ (by omega) ⟨by omega,hO2,by simp; omega,hs⟩ (by simp +contextual [hw1,hrI,hR5,hX2r,hrA,hrB,Ci,hd,hRAl,E8,E9,D1,E6,Z0])
       ·have EH:¬a+1+d≤a+1:=by omega
        have hm2:¬a+2+d≤a+2:=by omega
        have hm3:¬a+3+d≤a+3:=by omega
        have hm4:a+1+d≤1048576:=by omega
        have hm5:a+2+d≤1048576:=by omega
        have hm6:a+3+d≤1048576:=by omega
        have hm7:a+d≤1048576:=by omega
        have hm8:¬a+d≤a:=by omega
        simp[EH,hm2,hm3,hm4,hm5,hm6,hm7,hm8,hZ1,hZ2,hZ3,hw6',hz6',ht6',hna2,hRAl,hRAt,hRAd,hwj0,hwj1,hwj2,hwj3,hrI,hR5,hX2r,Q7,Z8,hd,hFdr,hRBl',hl0',hb3,hb4,hb5,DF,hn2,hn3,hq];exact hN' [(7,33),(8,8),(9,9)] _ _ (by omega) ⟨by omega,hO2,by simp; omega,hs⟩ (by simp +contextual [hw1,hrI,hR5,hX2r,hrA,hrB,Ci,hd,E8,E9,D1,E6,Z0])
     ·simp[hwj0,hwj1,hwj2,hwj3];rw[Wu (x0:=(e:Int)) (x1:=(e:Int)+1) (x2:=(e:Int)+2) (x3:=(e:Int)+3) (o:=ov) (p:=below) (by simp) (by omega) (by omega)]
      have hna:a≤a+2+d:=by omega
      have hw6':=X5 ((a:Int)+2);have hz6':(0:Int)≤(a:Int)+2:=by omega
      have ht6':((a:Int)+2).toNat=a+2:=by omega
      have hna2:a+2≤a+2+d:=by omega
      simp[hd,hna];by_cases ha0':a=0
      ·subst ha0';refine QH (by simp) HQ ?_
       have hRA0:RA=[]:=List.eq_nil_of_length_eq_zero hRAl;subst hRA0;simp only[Nat.zero_add]at hFdr hak hd;by_cases hq:d=0
       ·have hRB0:RB=[]:=List.eq_nil_of_length_eq_zero (by omega)
        subst hRB0;subst hq;simp[hwj0,hwj1,hwj2,hwj3,hrI,hR5,hX2r,Q7,Z8,hd,hFdr,hRBl',hl0',hb3,hb4,hb5,DF,hn2,hn3];exact hN' [(7,25 - 2*(2 / 4)),(8,8),(9,9)] _ _ (by omega) ⟨by omega,hO2,by simp; omega,hs⟩ (by simp +contextual [hw1,hrI,hR5,hX2r,hrA,hrB,Ci,hd,hRAl,E8,E9,D1,E6,Z0])
       ·have EH:¬1+d≤1:=by omega
        have hm2:¬2+d≤2:=by omega
        have hm3:¬3+d≤3:=by omega
        have hm4:1+d≤1048576:=by omega
        have hm5:2+d≤1048576:=by omega
        have hm6:3+d≤1048576:=by omega
        have hm7:d≤1048576:=by omega
        simp[EH,hm2,hm3,hm4,hm5,hm6,hm7,hwj0,hwj1,hwj2,hwj3,hrI,hR5,hX2r,Q7,Z8,hd,hFdr,hRBl',hl0',hb3,hb4,hb5,DF,hn2,hn3,hq];exact hN' [(7,33),(8,8),(9,9)] _ _ (by omega) ⟨by omega,hO2,by simp; omega,hs⟩ (by simp +contextual [hw1,hrI,hR5,hX2r,hrA,hrB,Ci,hd,E8,E9,D1,E6,Z0])
      ·refine Rq [7] (AZ:=[.An RA]) ?_ (by simp only[W9,Aa.closed,hRAc,Bool.and_true]) hRAn (Cm (by omega)) ?_
       ·simp only[List.map_cons,List.map_nil];rw[Rg (k:=1) (els:=Z0 F) rfl (by simp[B5,X3]) (by rw[hFn2]; exact ha00) (by rw[hFd]; exact hRAs _),hFd]
       have hRAt:List.take a RA=RA:=tL (by omega)
       have hRAd:List.drop a RA=[]:=List.drop_eq_nil_of_le (by omega)
       have hZ1:∀ x:List Aa,List.take (a+1) (RA++[x])=RA++[x]:=fun x=>tL (by rw[lA,hRAl]; exact lR _)
       have hZ2:∀ x y:List Aa,List.take (a+2) (RA++[x,y])=RA++[x,y]:=fun x y=>tL (by rw[lA,hRAl]; exact lR _)
       have hZ3:∀ x y z:List Aa,List.take (a+3) (RA++[x,y,z])=RA++[x,y,z]:=fun x y z=>tL (by rw[lA,hRAl]; exact lR _)
       by_cases hq:d=0
       ·have hRB0:RB=[]:=List.eq_nil_of_length_eq_zero (by omega)
        subst hRB0;subst hq;simp[hZ1,hZ2,hZ3,hw6',hz6',ht6',hna2,hRAl,hRAt,hRAd,hwj0,hwj1,hwj2,hwj3,hrI,hR5,hX2r,Q7,Z8,hd,hFdr,hRBl',hl0',hb3,hb4,hb5,DF,hn2,hn3];exact hN' [(7,25 - 2*(2 / 4)),(8,8),(9,9)] _ _ (by omega) ⟨by omega,hO2,by simp; omega,hs⟩ (by simp +contextual [hw1,hrI,hR5,hX2r,hrA,hrB,Ci,hd,hRAl,E8,E9,D1,E6,Z0])
       ·have EH:¬a+1+d≤a+1:=by omega
        have hm2:¬a+2+d≤a+2:=by omega
        have hm3:¬a+3+d≤a+3:=by omega
        have hm4:a+1+d≤1048576:=by omega
        have hm5:a+2+d≤1048576:=by omega
        have hm6:a+3+d≤1048576:=by omega
        have hm7:a+d≤1048576:=by omega
        have hm8:¬a+d≤a:=by omega
        simp[EH,hm2,hm3,hm4,hm5,hm6,hm7,hm8,hZ1,hZ2,hZ3,hw6',hz6',ht6',hna2,hRAl,hRAt,hRAd,hwj0,hwj1,hwj2,hwj3,hrI,hR5,hX2r,Q7,Z8,hd,hFdr,hRBl',hl0',hb3,hb4,hb5,DF,hn2,hn3,hq];exact hN' [(7,33),(8,8),(9,9)] _ _ (by omega) ⟨by omega,hO2,by simp; omega,hs⟩ (by simp +contextual [hw1,hrI,hR5,hX2r,hrA,hrB,Ci,hd,E8,E9,D1,E6,Z0])
     ·simp[hwj0,hwj1,hwj2,hwj3];rw[Wu (x0:=(e:Int)) (x1:=(e:Int)+1) (x2:=(e:Int)+2) (x3:=(e:Int)+3) (o:=ov) (p:=below) (by simp) (by omega) (by omega)]
      have hna:a≤a+3+d:=by omega
      have hw6':=X5 ((a:Int)+3);have hz6':(0:Int)≤(a:Int)+3:=by omega
      have ht6':((a:Int)+3).toNat=a+3:=by omega
      have hna2:a+3≤a+3+d:=by omega
      simp[hd,hna];by_cases ha0':a=0
      ·subst ha0';refine QH (by simp) HQ ?_
       have hRA0:RA=[]:=List.eq_nil_of_length_eq_zero hRAl;subst hRA0;simp only[Nat.zero_add]at hFdr hak hd;by_cases hq:d=0
       ·have hRB0:RB=[]:=List.eq_nil_of_length_eq_zero (by omega)
        subst hRB0;subst hq;simp[hwj0,hwj1,hwj2,hwj3,hrI,hR5,hX2r,Q7,Z8,hd,hFdr,hRBl',hl0',hb3,hb4,hb5,DF,hn2,hn3];exact hN' [(7,25 - 2*(3 / 4)),(8,8),(9,9)] _ _ (by omega) ⟨by omega,hO2,by simp; omega,hs⟩ (by simp +contextual [hw1,hrI,hR5,hX2r,hrA,hrB,Ci,hd,hRAl,E8,E9,D1,E6,Z0])
       ·have EH:¬1+d≤1:=by omega
        have hm2:¬2+d≤2:=by omega
        have hm3:¬3+d≤3:=by omega
        have hm4:1+d≤1048576:=by omega
        have hm5:2+d≤1048576:=by omega
        have hm6:3+d≤1048576:=by omega
        have hm7:d≤1048576:=by omega
        simp[EH,hm2,hm3,hm4,hm5,hm6,hm7,hwj0,hwj1,hwj2,hwj3,hrI,hR5,hX2r,Q7,Z8,hd,hFdr,hRBl',hl0',hb3,hb4,hb5,DF,hn2,hn3,hq];exact hN' [(7,33),(8,8),(9,9)] _ _ (by omega) ⟨by omega,hO2,by simp; omega,hs⟩ (by simp +contextual [hw1,hrI,hR5,hX2r,hrA,hrB,Ci,hd,E8,E9,D1,E6,Z0])
      ·refine Rq [7] (AZ:=[.An RA]) ?_ (by simp only[W9,Aa.closed,hRAc,Bool.and_true]) hRAn (Cm (by omega)) ?_
       ·simp only[List.map_cons,List.map_nil];rw[Rg (k:=1) (els:=Z0 F) rfl (by simp[B5,X3]) (by rw[hFn2]; exact ha00) (by rw[hFd]; exact hRAs _),hFd]
       have hRAt:List.take a RA=RA:=tL (by omega)
       have hRAd:List.drop a RA=[]:=List.drop_eq_nil_of_le (by omega)
       have hZ1:∀ x:List Aa,List.take (a+1) (RA++[x])=RA++[x]:=fun x=>tL (by rw[lA,hRAl]; exact lR _)
       have hZ2:∀ x y:List Aa,List.take (a+2) (RA++[x,y])=RA++[x,y]:=fun x y=>tL (by rw[lA,hRAl]; exact lR _)
       have hZ3:∀ x y z:List Aa,List.take (a+3) (RA++[x,y,z])=RA++[x,y,z]:=fun x y z=>tL (by rw[lA,hRAl]; exact lR _)
       by_cases hq:d=0
       ·have hRB0:RB=[]:=List.eq_nil_of_length_eq_zero (by omega)
        subst hRB0;subst hq;simp[hZ1,hZ2,hZ3,hw6',hz6',ht6',hna2,hRAl,hRAt,hRAd,hwj0,hwj1,hwj2,hwj3,hrI,hR5,hX2r,Q7,Z8,hd,hFdr,hRBl',hl0',hb3,hb4,hb5,DF,hn2,hn3];exact hN' [(7,25 - 2*(3 / 4)),(8,8),(9,9)] _ _ (by omega) ⟨by omega,hO2,by simp; omega,hs⟩ (by simp +contextual [hw1,hrI,hR5,hX2r,hrA,hrB,Ci,hd,hRAl,E8,E9,D1,E6,Z0])
       ·have EH:¬a+1+d≤a+1:=by omega
        have hm2:¬a+2+d≤a+2:=by omega
        have hm3:¬a+3+d≤a+3:=by omega
        have hm4:a+1+d≤1048576:=by omega
        have hm5:a+2+d≤1048576:=by omega
        have hm6:a+3+d≤1048576:=by omega
        have hm7:a+d≤1048576:=by omega
        have hm8:¬a+d≤a:=by omega
        simp[EH,hm2,hm3,hm4,hm5,hm6,hm7,hm8,hZ1,hZ2,hZ3,hw6',hz6',ht6',hna2,hRAl,hRAt,hRAd,hwj0,hwj1,hwj2,hwj3,hrI,hR5,hX2r,Q7,Z8,hd,hFdr,hRBl',hl0',hb3,hb4,hb5,DF,hn2,hn3,hq];exact hN' [(7,33),(8,8),(9,9)] _ _ (by omega) ⟨by omega,hO2,by simp; omega,hs⟩ (by simp +contextual [hw1,hrI,hR5,hX2r,hrA,hrB,Ci,hd,E8,E9,D1,E6,Z0])
     ·simp[hwj0,hwj1,hwj2,hwj3];rw[Wu (x0:=(e:Int)) (x1:=(e:Int)+1) (x2:=(e:Int)+2) (x3:=(e:Int)+3) (o:=ov) (p:=below) (by simp) (by omega) (by omega)]
      have hna:a≤a+4+d:=by omega
      have hw6':=X5 ((a:Int)+4);have hz6':(0:Int)≤(a:Int)+4:=by omega
      have ht6':((a:Int)+4).toNat=a+4:=by omega
      have hna2:a+4≤a+4+d:=by omega
      simp[hd,hna];by_cases ha0':a=0
      ·subst ha0';refine QH (by simp) HQ ?_
       have hRA0:RA=[]:=List.eq_nil_of_length_eq_zero hRAl;subst hRA0;simp only[Nat.zero_add]at hFdr hak hd;by_cases hq:d=0
       ·have hRB0:RB=[]:=List.eq_nil_of_length_eq_zero (by omega)
        subst hRB0;subst hq;simp[hwj0,hwj1,hwj2,hwj3,hrI,hR5,hX2r,Q7,Z8,hd,hFdr,hRBl',hl0',hb3,hb4,hb5,DF,hn2,hn3];exact hN' [(7,25 - 2*(4 / 4)),(8,8),(9,9)] _ _ (by omega) ⟨by omega,hO2,by simp; omega,hs⟩ (by simp +contextual [hw1,hrI,hR5,hX2r,hrA,hrB,Ci,hd,hRAl,E8,E9,D1,E6,Z0])
       ·have EH:¬1+d≤1:=by omega
        have hm2:¬2+d≤2:=by omega
        have hm3:¬3+d≤3:=by omega
        have hm4:1+d≤1048576:=by omega
        have hm5:2+d≤1048576:=by omega
        have hm6:3+d≤1048576:=by omega
        have hm7:d≤1048576:=by omega
        simp[EH,hm2,hm3,hm4,hm5,hm6,hm7,hwj0,hwj1,hwj2,hwj3,hrI,hR5,hX2r,Q7,Z8,hd,hFdr,hRBl',hl0',hb3,hb4,hb5,DF,hn2,hn3,hq];exact hN' [(7,33),(8,8),(9,9)] _ _ (by omega) ⟨by omega,hO2,by simp; omega,hs⟩ (by simp +contextual [hw1,hrI,hR5,hX2r,hrA,hrB,Ci,hd,E8,E9,D1,E6,Z0])
      ·refine Rq [7] (AZ:=[.An RA]) ?_ (by simp only[W9,Aa.closed,hRAc,Bool.and_true]) hRAn (Cm (by omega)) ?_
       ·simp only[List.map_cons,List.map_nil];rw[Rg (k:=1) (els:=Z0 F) rfl (by simp[B5,X3]) (by rw[hFn2]; exact ha00) (by rw[hFd]; exact hRAs _),hFd]
       have hRAt:List.take a RA=RA:=tL (by omega)
       have hRAd:List.drop a RA=[]:=List.drop_eq_nil_of_le (by omega)
       have hZ1:∀ x:List Aa,List.take (a+1) (RA++[x])=RA++[x]:=fun x=>tL (by rw[lA,hRAl]; exact lR _)
       have hZ2:∀ x y:List Aa,List.take (a+2) (RA++[x,y])=RA++[x,y]:=fun x y=>tL (by rw[lA,hRAl]; exact lR _)
       have hZ3:∀ x y z:List Aa,List.take (a+3) (RA++[x,y,z])=RA++[x,y,z]:=fun x y z=>tL (by rw[lA,hRAl]; exact lR _)
       by_cases hq:d=0
       ·have hRB0:RB=[]:=List.eq_nil_of_length_eq_zero (by omega)
        subst hRB0;subst hq;simp[hZ1,hZ2,hZ3,hw6',hz6',ht6',hna2,hRAl,hRAt,hRAd,hwj0,hwj1,hwj2,hwj3,hrI,hR5,hX2r,Q7,Z8,hd,hFdr,hRBl',hl0',hb3,hb4,hb5,DF,hn2,hn3];exact hN' [(7,25 - 2*(4 / 4)),(8,8),(9,9)] _ _ (by omega) ⟨by omega,hO2,by simp; omega,hs⟩ (by simp +contextual [hw1,hrI,hR5,hX2r,hrA,hrB,Ci,hd,hRAl,E8,E9,D1,E6,Z0])
       ·have EH:¬a+1+d≤a+1:=by omega
        have hm2:¬a+2+d≤a+2:=by omega
        have hm3:¬a+3+d≤a+3:=by omega
        have hm4:a+1+d≤1048576:=by omega
        have hm5:a+2+d≤1048576:=by omega
        have hm6:a+3+d≤1048576:=by omega
        have hm7:a+d≤1048576:=by omega
        have hm8:¬a+d≤a:=by omega
        simp[EH,hm2,hm3,hm4,hm5,hm6,hm7,hm8,hZ1,hZ2,hZ3,hw6',hz6',ht6',hna2,hRAl,hRAt,hRAd,hwj0,hwj1,hwj2,hwj3,hrI,hR5,hX2r,Q7,Z8,hd,hFdr,hRBl',hl0',hb3,hb4,hb5,DF,hn2,hn3,hq];exact hN' [(7,33),(8,8),(9,9)] _ _ (by omega) ⟨by omega,hO2,by simp; omega,hs⟩ (by simp +contextual [hw1,hrI,hR5,hX2r,hrA,hrB,Ci,hd,E8,E9,D1,E6,Z0])
    ·have ht4:t=0∨t=1∨t=2∨t=3:=by omega
     rcases ht4 with rfl|rfl|rfl|rfl
     ·have hN5':=hN5 1;have hj:=hJn 0 (by omega)
      have hg5:=hgF 0 (by omega)
      obtain⟨_,hg52⟩:=Y6 hg5;have hw5:=X5 ((a:Int)+0);have Ll:(0:Int)≤(a:Int)+0:=by omega
      have hl5:a+0<F.length:=by omega
      have hl5z:(a:Int)+0<F.length:=by omega
      have ht5:((a:Int)+0).toNat=a+0:=by omega
      have hr5:=fun q=>hJr q 0
      have hr6:=fun q=>hJr q 1
      have hk5:(0:Int)<(k:Int):=by omega
      have hk5n:0<k:=by omega
      simp only[Nat.add_zero,Nat.reduceSub,Nat.reduceMod,Nat.reduceAdd]at hj hg5 hg52 hl5;generalize F.getD (a+0) 0=y at *;generalize Z1 (BK (e+4) (L++Dl F a e 0))=R5 at *;generalize Z1 (BK (e+4) (L++Dl F a e 1))=R6 at *;simp[hk5,hk5n,hg5,hg52,hw5,hwa,Ll,hl5,hl5z,ht5,hFn2,hwj0,hwj1,hwj2,hwj3];refine MG hj (by simp) [(1,1),(2,8),(3,9)] (by simp) (by simp +contextual [hX2r,hr5,hrI]) (by simp +contextual) (by simp[EB]) (by decide) (by simp) (by simp) (by simp) ?_
      simp[hX2r,hr6,hrI];exact hN5' [(7,7),(8,8),(9,9),(10,10),(11,11)] _ _ (by omega) (by omega) (by simp +contextual [hr6,hX2r,hrI,Ci,hnF])
     ·have hN5':=hN5 2;have hj:=hJn 1 (by omega)
      have hg5:=hgF 1 (by omega)
      obtain⟨_,hg52⟩:=Y6 hg5;have hw5:=X5 ((a:Int)+1);have Ll:(0:Int)≤(a:Int)+1:=by omega
      have hl5:a+1<F.length:=by omega
      have hl5z:(a:Int)+1<F.length:=by omega
      have ht5:((a:Int)+1).toNat=a+1:=by omega
      have hr5:=fun q=>hJr q 1
      have hr6:=fun q=>hJr q 2
      have hk5:(1:Int)<(k:Int):=by omega
      have hk5n:1<k:=by omega
      simp only[Nat.add_zero,Nat.reduceSub,Nat.reduceMod,Nat.reduceAdd]at hj hg5 hg52 hl5;generalize F.getD (a+1) 0=y at *;generalize Z1 (BK (e+4) (L++Dl F a e 1))=R5 at *;generalize Z1 (BK (e+4) (L++Dl F a e 2))=R6 at *;simp[hk5,hk5n,hg5,hg52,hw5,hwa,Ll,hl5,hl5z,ht5,hFn2,hwj0,hwj1,hwj2,hwj3];refine MG hj (by simp) [(1,1),(2,8),(3,9)] (by simp) (by simp +contextual [hX2r,hr5,hrI]) (by simp +contextual) (by simp[EB]) (by decide) (by simp) (by simp) (by simp) ?_
      simp[hX2r,hr6,hrI];exact hN5' [(7,7),(8,8),(9,9),(10,10),(11,11)] _ _ (by omega) (by omega) (by simp +contextual [hr6,hX2r,hrI,Ci,hnF])
     ·have hN5':=hN5 3;have hj:=hJn 2 (by omega)
      have hg5:=hgF 2 (by omega)
      obtain⟨_,hg52⟩:=Y6 hg5;have hw5:=X5 ((a:Int)+2);have Ll:(0:Int)≤(a:Int)+2:=by omega
      have hl5:a+2<F.length:=by omega
      have hl5z:(a:Int)+2<F.length:=by omega
      have ht5:((a:Int)+2).toNat=a+2:=by omega
      have hr5:=fun q=>hJr q 2
      have hr6:=fun q=>hJr q 3
      have hk5:(2:Int)<(k:Int):=by omega
      have hk5n:2<k:=by omega
      simp only[Nat.add_zero,Nat.reduceSub,Nat.reduceMod,Nat.reduceAdd]at hj hg5 hg52 hl5;generalize F.getD (a+2) 0=y at *;generalize Z1 (BK (e+4) (L++Dl F a e 2))=R5 at *;generalize Z1 (BK (e+4) (L++Dl F a e 3))=R6 at *;simp[hk5,hk5n,hg5,hg52,hw5,hwa,Ll,hl5,hl5z,ht5,hFn2,hwj0,hwj1,hwj2,hwj3];refine MG hj (by simp) [(1,1),(2,8),(3,9)] (by simp) (by simp +contextual [hX2r,hr5,hrI]) (by simp +contextual) (by simp[EB]) (by decide) (by simp) (by simp) (by simp) ?_
      simp[hX2r,hr6,hrI];exact hN5' [(7,7),(8,8),(9,9),(10,10),(11,11)] _ _ (by omega) (by omega) (by simp +contextual [hr6,hX2r,hrI,Ci,hnF])
     ·have hN5':=hN5 4;have hj:=hJn 3 (by omega)
      have hg5:=hgF 3 (by omega)
      obtain⟨_,hg52⟩:=Y6 hg5;have hw5:=X5 ((a:Int)+3);have Ll:(0:Int)≤(a:Int)+3:=by omega
      have hl5:a+3<F.length:=by omega
      have hl5z:(a:Int)+3<F.length:=by omega
      have ht5:((a:Int)+3).toNat=a+3:=by omega
      have hr5:=fun q=>hJr q 3
      have hr6:=fun q=>hJr q 4
      have hk5:(3:Int)<(k:Int):=by omega
      have hk5n:3<k:=by omega
      simp only[Nat.add_zero,Nat.reduceSub,Nat.reduceMod,Nat.reduceAdd]at hj hg5 hg52 hl5;generalize F.getD (a+3) 0=y at *;generalize Z1 (BK (e+4) (L++Dl F a e 3))=R5 at *;generalize Z1 (BK (e+4) (L++Dl F a e 4))=R6 at *;simp[hk5,hk5n,hg5,hg52,hw5,hwa,Ll,hl5,hl5z,ht5,hFn2,hwj0,hwj1,hwj2,hwj3];refine MG hj (by simp) [(1,1),(2,8),(3,9)] (by simp) (by simp +contextual [hX2r,hr5,hrI]) (by simp +contextual) (by simp[EB]) (by decide) (by simp) (by simp) (by simp) ?_
      simp[hX2r,hr6,hrI];exact hN5' [(7,7),(8,8),(9,9),(10,10),(11,11)] _ _ (by omega) (by omega) (by simp +contextual [hr6,hX2r,hrI,Ci,hnF])
  ·rw[iN (by simp only[M8]; first|omega|simp),iN (by simp only[J3]; omega)]at hs
   subst hs;have hKb:=hK _ _ ⟨rfl,rfl⟩;clear hK hN hcj;unfold kM Es at *;have hX1:=fun q=>hXX q (xJ m X)
   have hJ1:=fun q=>hJJ q (BK (2*m+4*X.length) L)
   generalize (xJ m X).map Cb=XX at *;generalize Z1 (BK (2*m+4*X.length) L)=JR at *;generalize 2*m+4*X.length=nn4 at *;simp[hil,hg,hg2,CP,hw2,h1,h2];exact Z6 hKb [(5,8),(6,9)] (by simp +contextual [hnn,hX1,hJ1,hrI])
set_option maxRecDepth 100000 in
set_option maxHeartbeats 16000000 in
theorem zD(P:List (List Aa))(hP:V3 P=true)(m:Nat)(below:Bool)(F:List Nat)(L:List (Nat×Nat))(X:List Nd) :
 Cc Tryz.prog 27 [.ptr 1 0 0,.Ai,.sl 4 0 F.length,.bool below] ⟨(4,.cells 1 (Z0 F)) :: kM m (Bx P) 2 3 L X,5⟩ fun r mm=>
  r=.bool (decide (F.length=0))∧mm=⟨kM m (Bx P) 5 6 L X,7⟩:=by
 refine GV hm [53] Tryz.func27 Pq rfl rfl fun K hK=>?_
 have hKb:=hK _ _ ⟨rfl,rfl⟩;have hrI:∀ q,(Bx P).AA q=Bx P:=fun q=>Aa.Bn q _ (LO hP)
 have hnn:∀ q (l:List Nat),Z3 q (Z0 l)=Z0 l:=fun q l=>Y0 q l
 have hJJ:∀ q (l:List Int),Z3 q (Z1 l)=Z1 l:=fun q l=>X7 q _ (N9 l)
 have hXX:∀ q (l:List (Int×Nd)),Z3 q (l.map Cb)=l.map Cb:=fun q l=>X7 q _ (OJ l)
 generalize Bx P=PV at *;clear hK;simp[V9];refine T6 (α:=Unit) (fun _=>[(0,.ptr 1 0 0),(1,.Ai),(2,.sl 7 0 F.length),(3,.bool below),(15,.Ai),(16,.int .i64 0),(17,.int .i64 0)])
  (fun _=>⟨(7,.cells 1 (Z0 F)) :: kM m PV 8 9 L X,10⟩) (fun _=>0) (fun _=>True) () [(7,4),(8,2),(9,3)] (by simp +contextual [kM,Es,hnn,hJJ,hXX,hrI]) trivial ?_
 intro _ _ N hN;simp;exact Z6 hKb [(5,8),(6,9)] (by simp +contextual [kM,Es,hnn,hJJ,hXX,hrI])
end Go.Ab
end
section
namespace Go.Ab
open Go Go.AE Go.Proofs
open Go.Plain
theorem Yi(p:Nat×Nat)(L:List (Nat×Nat)):U1 (p :: L)=p.1 :: p.2 :: U1 L:=rfl
theorem cW:∀ (L:List (Nat×Nat)) (J:List Int) (e:Nat),e∉U1 L→(L.foldl (fun J p=>N1 J p.1 p.2) J)[e]? = J[e]?
 | [],_,_,_=>rfl
 | p :: L,J,e,h=>by
  rw[Yi,mC,mC,not_or,not_or]at h;rw[List.foldl_cons,cW L _ e h.2.2];unfold N1;rw[List.getElem?_set_ne (Ne.symm h.2.1),List.getElem?_set_ne (Ne.symm h.1)]
theorem Zzx(p:Nat×Nat)(L:List (Nat×Nat))(e:Nat):Bk (p :: L) e=if p.1=e then p.2 else if p.2=e then p.1 else Bk L e:=by
 unfold Bk;rw[List.find?_cons];by_cases h1:p.1=e
 ·rw[iP h1];have:(p.1 == e||p.2 == e)=true:=by simp[h1]
  rw[this];simp only;rw[iP h1]
 ·rw[iN h1];by_cases h2:p.2=e
  ·rw[iP h2];have:(p.1 == e||p.2 == e)=true:=by simp[h2]
   rw[this];simp only;rw[iN h1]
  ·rw[iN h2];have:(p.1 == e||p.2 == e)=false:=by simp[h1,h2]
   rw[this]
theorem ZL:∀ (L:List (Nat×Nat)) (J:List Int) (e:Nat),(U1 L).Nodup→(∀ p,p∈L→p.1<J.length∧p.2<J.length)→e∈U1 L→(L.foldl (fun J p=>N1 J p.1 p.2) J)[e]? = some ((Bk L e:Nat):Int)
 | [],_,_,_,_,h=>by cases h
 | p :: L,J,e,hn,hb,h=>by
  rw[Yi,List.nodup_cons,List.nodup_cons,mC,not_or]at hn;obtain⟨⟨n1,n2⟩,n3,n4⟩:=hn;obtain⟨b1,b2⟩:=hb p (List.mem_cons_self ..);rw[List.foldl_cons,Zzx];rw[Yi,mC,mC]at h;by_cases h1:p.1=e
  ·subst h1;rw[iP rfl,cW L _ _ n2];unfold N1;rw[List.getElem?_set_ne (Ne.symm n1),List.getElem?_set_self b1]
  ·rw[iN h1];by_cases h2:p.2=e
   ·subst h2;rw[iP rfl,cW L _ _ n3];unfold N1;rw[List.getElem?_set_self (by rw[List.length_set]; exact b2)]
   ·rw[iN h2];refine ZL L _ e n4 (fun q hq=>?_) ((h.resolve_left (Ne.symm h1)).resolve_left (Ne.symm h2))
    rw[Zi];exact hb q (List.mem_cons_of_mem _ hq)
theorem Z8b{n:Nat}{L:List (Nat×Nat)}(hn:(U1 L).Nodup)(hb:∀ p,p∈L→p.1<n∧p.2<n){e:Nat}(he:e∈U1 L):(Z1 (BK n L))[e]? = some [.int .i64 ((Bk L e:Nat):Int)]:=by
 unfold Z1 BK;rw[gM,ZL L _ e hn (by simpa using hb) he]
 rfl
end Go.Ab
end
section
namespace Go.Ab
open Go Go.AE Go.Proofs
open Go.Plain
attribute [local simp] C8 D6 D3 B4 B0 C6 D7 C7 D9 B7 C3 Gk E5 B6 D8 C2 C1
def Lm(m:Nat)(PL:List (Nat×Nat))(L:List (Nat×Nat))(t:Nat):Lt:=
 if Al m L t<2*m then AG (PL.getD (Al m L t / 2) (0,0))else ⟨2,0,0,((Y9 ((Bh m (Al m L t):Nat):Int) ((DS m L (t+1)).map fun x=>((x:Nat):Int)):Nat):Int),0,false⟩
def I7(m:Nat)(PL:List (Nat×Nat))(L:List (Nat×Nat))(t:Nat):List Lt:=(List.range t).map (Lm m PL L)
def Dv(p:Nat×Nat):List Aa:=[.int .i64 (p.1:Nat),.int .i64 (p.2:Nat)]
theorem Rp:∀ (l:List (Nat×Nat)),V3 (l.map Dv)=true
 | []=>rfl
 | r :: l=>by
  have:=Rp l;simp only[List.map_cons,V3,Dv,W9,Aa.closed,Bool.and_true,Bool.true_and]at this ⊢;exact this
def Dj(m:Nat)(L:List (Nat×Nat))(t:Nat):List Int:=(DS m L t).map fun x=>((x:Nat):Int)
theorem rK(x:Nat):∀ N:List Nat,Y9 (((x+1:Nat):Nat):Int) (N.map fun x=>((x+1:Nat):Int))=Y9 ((x:Nat):Int) (N.map fun x=>((x:Nat):Int))
 | []=>rfl
 | y :: r=>by
  have ih:=rK x r;simp only[List.map_cons,Y9]
  grind
theorem uQ{m:Nat}{L:List (Nat×Nat)}{x:Nat}:∀ t,U4 m L t x=[]↔x∉DS m L t
 | 0=>by simp[U4,DS]
 | t+1=>by
  have ih:=uQ (m:=m) (L:=L) (x:=x) t;have e1:U4 m L (t+1) x=if ¬Al m L t<2*m∧Bh m (Al m L t)=x then U4 m L t x++[(t,CG m (Al m L t))]else U4 m L t x:=rfl
  have e2:DS m L (t+1)=if Al m L t<2*m∨Bh m (Al m L t)∈DS m L t then DS m L t else DS m L t++[Bh m (Al m L t)]:=rfl
  rw[e1,e2];by_cases h1:Al m L t<2*m
  ·grind
  ·by_cases h2:Bh m (Al m L t)=x
   ·subst h2;rw[iP ⟨h1,rfl⟩];by_cases h3:Bh m (Al m L t)∈DS m L t
    ·rw[iP (.inr h3)]; simp[h3]
    ·rw[iN (fun e=>e.elim h1 h3)]; simp
   grind
theorem wS{m:Nat}{L:List (Nat×Nat)}{x:Nat}:∀ t,(U4 m L t x).length≤t
 | 0=>lR _
 | t+1=>by
  have ih:=wS (m:=m) (L:=L) (x:=x) t;have e1:U4 m L (t+1) x=if ¬Al m L t<2*m∧Bh m (Al m L t)=x then U4 m L t x++[(t,CG m (Al m L t))]else U4 m L t x:=rfl
  grind
theorem pY{m:Nat}{L:List (Nat×Nat)}:∀ t,(Dj m L t).length≤t
 | 0=>lR _
 | t+1=>by
  have ih:=pY (m:=m) (L:=L) t;have e2:DS m L (t+1)=if Al m L t<2*m∨Bh m (Al m L t)∈DS m L t then DS m L t else DS m L t++[Bh m (Al m L t)]:=rfl
  unfold Dj at ih ⊢
  grind
theorem GK{m:Nat}{L:List (Nat×Nat)}{t x:Nat}:Y9 ((x:Nat):Int) (Dj m L t)=0↔x∉DS m L t:=by
 rw[bH];unfold Dj
 grind
theorem kS(d:Nat)(hd:d≤10000):X4 .xor .num (.int .i64 d) (.int .i64 1)=some (.int .i64 (Dc d:Nat)):=by
 have hb:Dc d≤10001:=by unfold Dc; split<;>omega
 have e1:(BitVec.ofInt 64 (d:Int) ^^^ BitVec.ofInt 64 1).toNat=Dc d:=by
  rw[BitVec.toNat_xor,← Z5h]
  grind
 show some (Aa.int .i64 (IntKind.i64.wrap ((BitVec.ofInt 64 (d:Int) ^^^ BitVec.ofInt 64 1).toNat:Nat)))=_;rw[e1,S8 (by omega) (by omega)]
end Go.Ab
end
section
namespace Go.Ab
open Go Go.AE Go.Proofs
open Go.Plain
attribute [local simp] C8 D6 D3 B4 B0 C6 D7 C7 D9 B7 C3 Gk E5 B6 D8 C2 C1
attribute [local simp] aN YA
theorem Ln{x n a k:Nat}(h:x<n)(h2:20+n≤a):¬(20+x=a+k):=by omega
theorem Hh{a i j:Nat}:a≤a+i+j:=by omega
theorem Hi{a i j k:Nat}:a≤a+i+j+k:=by omega
theorem Hj{a i j k l n:Nat}:a≤a+i+j+k+l+n:=by omega
theorem n20{n c:Nat}(h:c<20):¬(20+n=c):=by omega
def UN:Aq:=.loop (sr [cL 172 171 170]
(.seq (.cond (tZ 172) .skip
(.exit 4))
(.seq (.block 5 (sr [ix 173 2 169 171,lw 174 2 173,oZ 21 (.alloc [(.int .i64 0),(.int .i64 0)]),so 2 21 174]
(sr [fa 175 1 6,lo 176 175,fa 177 0 21,lo 178 177,ix 179 6 176 178,mv 22 179]
(.region true [mv 180 22,mv 181 22,mv 182 19,lw 183 2 21,lw 184 2 17,oZ 185 (.bin .eql (.flat [.int,.int]) (tZ 183) (tZ 184)),fa 186 5 16,lo 187 186,oZ 188 (.bin .neq .bool (tZ 185) (tZ 187)),nc 189 180,fa 190 4 189,⟨none,.store 1 (tZ 190) (tZ 182),none,[3,4,7]⟩,nc 191 181,fa 192 5 191,so 1 192 188]))))
(rf [Dw 193 171 1,mv 171 193]))))
def eI(n x:Nat)(sg:Int)(k:Nat):Env:=[(0,.ptr 1 0 0),(4,.ptr 10 0 0),(6,.ptr 11 0 0),(133,.sl 12 0 n),(134,.int .i64 n),(135,.int .i64 x),(16,.ptr 15 0 0),(17,.ptr 16 0 0),(19,.int .i64 sg),(169,.sl (20+x) 0 2),(170,.int .i64 2),(171,.int .i64 k)]
def mI(f:Int)(n K j:Nat)(F:Nat→List (List Aa))(P XX R:List (List Aa))(x0 x1 x2 x3:Int)(d low:Bool)(so po:Nat):Ac:=⟨M6 2 20 F n ([(10,.cells 2 [[.int .i64 0,.Ai]]),(11,.cells 2 [[.int .i64 f,.sl 14 0 K]]),(12,.cells 1 (M1 20 n F)),
 (1,.cells 3 [[.An P,.sl 2 0 j,AH 3 XX]]),(14,.cells 6 R),(15,.cells 6 [[.int .i64 x0,.int .i64 x1,.int .i64 x2,.int .i64 x3,.bool d,.bool low]]),(16,.cells 2 [[.int .i64 so,.int .i64 po]])]++AF 3 6 XX []),20+n⟩
theorem ZN(q:Nat→Nat)(R:List (List Aa))(i:Nat)(row:List Aa):Z3 q (R.set i row)=(Z3 q R).set i (U3 q row):=by
 rw[HE,HE,List.map_set]
theorem HR(XX:List (List Aa))(A B C D G H I:Ag)(c:Nat)(y:Ag)(hc:Y2 ([(10,A),(11,B),(12,C),(1,D),(14,G),(15,H),(16,I)]++AF 3 6 XX []) c=some y):c<20:=by
 refine RP (fun p hp=>?_) hc
 simp only[List.cons_append,List.nil_append,mC]at hp;rcases hp with rfl|rfl|rfl|rfl|rfl|rfl|rfl|hp
 any_goals (show _<_; omega)
 rcases RY hp with e|hp
 ·omega
 ·cases hp
set_option maxRecDepth 100000 in
set_option maxHeartbeats 16000000 in
theorem Z35(f:Int)(n K j x s t p q so po ids Rv:Nat)(sg:Int)(F:Nat→List (List Aa))(P XX R:List (List Aa))(x0 x1 x2 x3:Int)(d low bs bt:Bool)(Fv:∀ q,Z3 q P=P)(ET:∀ q,Z3 q XX=XX)(BO:¬XX=[])(Ci:∀ q,Z3 q R=R)(He:∀ y,V3 (F y)=true)
 (hx:x<n) (CP:R.length=K) (hst:s<t) (ht:t<K) (hK:K≤1000) (hF:F x=[[.int .i64 s,.int .i64 p],[.int .i64 t,.int .i64 q]])
 (XL:R[s]? = some (Ad ⟨2,0,0,(ids:Nat),0,false⟩)) (Mp:R[t]? = some (Ad ⟨2,0,0,(Rv:Nat),0,false⟩)) (iX:bs=(decide (s=so∧p=po) != low)) (iY:bt=(decide (t=so∧q=po) != low))
 (Q:Exit→Env→Ac→Prop) (e:Env) (mm:Ac) (hW:Dk 199 4 (eI n x sg 0) (mI f n K j F P XX R x0 x1 x2 x3 d low so po) e mm)
 (hQ:Q (.exit 4) ((172,.bool false) :: eI n x sg 2) ((mI f n K j F P XX ((R.set s (Ad ⟨2,0,0,(ids:Nat),sg,bs⟩)).set t (Ad ⟨2,0,0,(Rv:Nat),sg,bt⟩)) x0 x1 x2 x3 d low so po).at (20+n+1))):Cx Tryz.prog [] 199 4 UN Q e mm:=by
 unfold UN;have hfl:(M1 20 n F).length=n:=ZK;have hlf:∀ rest,Y2 (M6 2 20 F n rest) (20+x)=some (.cells 2 [[.int .i64 s,.int .i64 p],[.int .i64 t,.int .i64 q]]):=fun rest=>by rw[O6 _ hx,hF,iN (by simp)]
 obtain⟨Rk,hRk⟩:∃ Rk:Nat→List (List Aa),Rk=fun k=>if k=0 then R else if k=1 then R.set s (Ad ⟨2,0,0,(ids:Nat),sg,bs⟩)else (R.set s (Ad ⟨2,0,0,(ids:Nat),sg,bs⟩)).set t (Ad ⟨2,0,0,(Rv:Nat),sg,bt⟩):=⟨_,rfl⟩
 refine Tn (fun k=>eI n x sg k) (fun k=>mI f n K j F P XX (Rk k) x0 x1 x2 x3 d low so po) (fun k=>2 - k) (fun k=>k≤2) 0 (by rw[hRk]; exact hW) (by omega) ?_
 intro k hk N hN;by_cases h2:k=2
 ·subst h2;rw[hRk]at hN ⊢;unfold eI mI at *;simpa using hQ
 ·have hk0:k=0∨k=1:=by omega
  have hN1:=hN (k+1);clear hN hW hQ;have hin:∀ (A B:Int),(A=B)=(B=A):=fun A B=>propext ⟨Eq.symm,Eq.symm⟩
  obtain⟨_,hRs2⟩:=Y6 XL;obtain⟨_,hRt2⟩:=Y6 Mp;have hne:s≠t:=by omega
  have hsK:s<K:=by omega
  have hc2:∀ a b c d:Nat,X4 .eql (.flat [.int,.int]) (.agg [.int .i64 a,.int .i64 b]) (.agg [.int .i64 c,.int .i64 d])=some (.bool (decide (a=c∧b=d))):=fun a b c d=>by
   have e1:((a:Int) == (c:Int))=decide (a=c):=by rw[Bool.eq_iff_iff]; simp; omega
   have e2:((b:Int) == (d:Int))=decide (b=d):=by rw[Bool.eq_iff_iff]; simp; omega
   simp only[X4,FG,Nf,A9,if_true,e1,e2];by_cases h1:a=c<;>by_cases h2:b=d<;>simp[h1,h2]
  subst iX;subst iY;have hbn:∀ a b:Bool,(!(a == b))=(a != b):=fun _ _=>rfl
  have hw1:IntKind.i64.wrap 1=1:=rfl;have hw2:IntKind.i64.wrap 2=2:=rfl;have Cm:∀ y,y<n→V3 (F y)=true:=fun y _=>He y
  rcases hk0 with rfl|rfl
  ·rw[hRk]at hN1 ⊢;unfold eI mI at *;simp only[Ad]at *;simp[hlf,hc2,XL,hRs2,CP,hsK,BO,n20,hw1];refine hN1 _ _ (by omega) (by omega) (Dk.Dq (x:=n) (N:=0) (l:=[]) (by omega) (HR XX _ _ _ _ _ _ _) trivial (fun e=>absurd e (Nat.lt_irrefl _)) ?_ ?_ ?_ (fun e=>absurd e (Nat.lt_irrefl _)) Cm)
   ·simp[S5,W5,ME hx (show x≠n by omega)]
   ·simp +contextual [S5,W5,Hv,ZN,Fv,ET,Ci,n20,hbn]
   ·simp;intro y hy _ hv
    repeat rw[iN (by omega)]
    rw[O6 _ hy,iN (by simpa using hv)]
  ·rw[hRk]at hN1 ⊢;unfold eI mI at *;have hR1l:(R.set s (Ad ⟨2,0,0,(ids:Nat),sg,(decide (s=so∧p=po) != low)⟩)).length=K:=by rw[List.length_set,CP]
   have hR1t:(R.set s (Ad ⟨2,0,0,(ids:Nat),sg,(decide (s=so∧p=po) != low)⟩))[t]? = some (Ad ⟨2,0,0,(Rv:Nat),0,false⟩):=by rw[List.getElem?_set_ne hne,Mp]
   have hrR1:∀ q,Z3 q (R.set s (Ad ⟨2,0,0,(ids:Nat),sg,(decide (s=so∧p=po) != low)⟩))=R.set s (Ad ⟨2,0,0,(ids:Nat),sg,(decide (s=so∧p=po) != low)⟩):=fun q=>by rw[ZN,Ci]; rfl
   simp only[Nat.one_ne_zero,if_false,if_true]at hN1 ⊢;generalize R.set s (Ad ⟨2,0,0,(ids:Nat),sg,(decide (s=so∧p=po) != low)⟩)=R1 at *;obtain⟨_,hR1t2⟩:=Y6 hR1t;simp only[Ad]at *;simp[hlf,hc2,hR1t,hR1t2,hR1l,ht,BO,n20,hw2];refine hN1 _ _ (by omega) (by omega) (Dk.Dq (x:=n) (N:=0) (l:=[]) (by omega) (HR XX _ _ _ _ _ _ _) trivial (fun e=>absurd e (Nat.lt_irrefl _)) ?_ ?_ ?_ (fun e=>absurd e (Nat.lt_irrefl _)) Cm)
   ·simp[S5,W5,ME hx (show x≠n by omega)]
   ·simp +contextual [S5,W5,Hv,ZN,Fv,ET,hrR1,n20,hbn]
   ·simp;intro y hy _ hv
    repeat rw[iN (by omega)]
    rw[O6 _ hy,iN (by simpa using hv)]
end Go.Ab
end
