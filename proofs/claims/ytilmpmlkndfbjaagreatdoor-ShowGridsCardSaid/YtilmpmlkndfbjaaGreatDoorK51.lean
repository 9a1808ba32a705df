/- Part 51 of the proof: Gj, Gk, Gl. -/
import Derived.Test.YtilmpmlkndfbjaaGreatDoorK50
set_option linter.all false
section
namespace Go.Ab
open Go Go.AE Go.Proofs
open Go.Plain
theorem Z8e(id:Nat)(e:Ah→Aa)(get:Nat→Option Ag)(x:Ah)(lo hi:Option Ah):Ak id e get (.Ew x lo hi)=match e x with
 | .str s=>match I2 e s.length s.length lo hi with
  | some (l,h)=>some (.str ((s.take h).drop l),[])
  | none=>none
 | _=>none:=rfl
attribute [local simp] C8 D6 D3 B4 B0 C6 D7 C7 D9 B7 C3 Gk E5 B6 D8 C2 C1 Z8e
def CW(l:List (List UInt8)):List UInt8:=Lib.joinTail [32] l
theorem Zip(a b:List (List UInt8)):CW (a++b)=CW a++CW b:=by simp[CW,Lib.joinTail]
theorem Tl(a:List UInt8):CW [a]=32 :: a:=by simp[CW,Lib.joinTail]
theorem qk(k:Nat):CW (List.replicate (k+1) [124])=CW (List.replicate k [124])++[32,124]:=by
 rw[List.replicate_succ',Zip,Tl]
theorem VG:∀ (l:List (List UInt8)),(∀ s,s∈l→s.length≤2)→(CW l).length≤3*l.length
 | [],_=>Nat.zero_le _
 | x :: r,h=>by
  have h1:=h x (List.mem_cons_self ..);have h2:=VG r fun s hs=>h s (List.mem_cons_of_mem _ hs)
  rw[show CW (x :: r)=CW [x]++CW r from Zip [x] r,Tl]
  simp;omega
theorem qf:∀ l:List (List UInt8),(CW l).drop 1=Lib.join l [32]
 | []=>rfl
 | x :: r=>by
  rw[Lib.join_cons,show CW (x :: r)=CW [x]++CW r from Zip [x] r,Tl]
  rfl
theorem Z4k{l:List (List UInt8)}{r:Nat}(h:r<l.length):l.reverse.take (l.length - (r+1))++[Db l r]=l.reverse.take (l.length - r):=by
 have e:l.length - r=(l.length - (r+1))+1:=by omega
 have e2:l.length - 1 - (l.length - (r+1))=r:=by omega
 rw[e,List.take_add_one,List.getElem?_reverse (by omega),e2,gE h]
 simp[Db,List.getD,gE h]
set_option maxRecDepth 100000 in
set_option maxHeartbeats 16000000 in
theorem Z3h(F:Int)(G:List Int)(A B:List Ro)(AV BV:Aa)(hA:AY AV A)(hB:AY BV B)(Ee:A.length≤200)(Dh:B.length≤200)(hok:(Dm F G A B).2.2=0) :
 Cc Tryz.prog 18 [.agg [.int .i64 F,.An (Z1 G),AV,BV]] ⟨[],1⟩ fun r mm=>r=AH 1 (Z2 (A2 G A B))∧mm=⟨AF 1 1 (Z2 (A2 G A B)) [],2⟩:=by
 refine GV hm [] Tryz.func18 Z3n rfl rfl fun K hK=>?_
 have hk1:=hK _ _ ⟨rfl,rfl⟩;clear hK;obtain⟨hAc,hAo,hAcl⟩:=hA.cells;obtain⟨hBc,hBo,hBcl⟩:=hB.cells;have hArn:=hA.AA;have hBrn:=hB.AA;have hGl:=A8 G;have hrG:∀ q,Z3 q (Z1 G)=Z1 G:=fun q=>X7 q _ (N9 G)
 obtain⟨o1,o2,o3,o4,o5,o6,o7⟩:=xB hok;clear hok;have hG0:G≠[]:=fun e=>by rw[e]at o3; simp at o3; omega
 unfold A2 at hk1;obtain⟨gs,hgs⟩:∃ gs:List Nat,gs=G.map Int.toNat:=⟨_,rfl⟩
 rw[← hgs]at hk1 o5 o6 o7;have Dd:gs.length=G.length:=by rw[hgs,lM]
 have hGi:∀ i,i<gs.length→(Z1 G)[i]? = some [.int .i64 (gs.getD i 0:Nat)]:=fun i hi=>by
  rw[Kn (by omega)]
  have hp:0≤G.getD i 0:=by
   rcases Int.lt_or_le (G.getD i 0) 0 with c|c
   ·exact absurd ((Ts hG0).2 ⟨_,(by rw[List.getD,gE (by omega)]; exact List.getElem_mem _),c⟩) o4
   ·exact c
  have:gs.getD i 0=(G.getD i 0).toNat:=by rw[hgs,List.getD,gM,List.getD,gE (by omega)]; rfl
  rw[this]
  congr 3
  omega
 have hGlen:(Z1 G).length=gs.length:=by rw[hGl,Dd]
 have hg41:gs.length≤41:=by omega
 clear hgs hG0;generalize Z1 G=GR at *;simp[hAc,hBc,hAo,hBo,hGlen];have hs1:∀ (c:Nat) (x:List Aa),AH c [x]=.sl c 0 1:=fun _ _=>rfl
 have Bg:∀ (c k:Nat) (x:List Aa) (r:List (Nat×Ag)),AF c k [x] r=(c,.cells k [x]) :: r:=fun _ _ _ _=>rfl
 refine T6 (α:=Nat) (fun i=>[(1,.ptr 1 0 0),(3,.int .i64 (gs.take i).sum),(4,.str (CW (Dp 0 (gs.take i)))),(5,.int .i64 i)])
  (fun i=>⟨[(1,.cells 4 [[.int .i64 F,.An GR,AV,BV]])],2⟩) (fun i=>gs.length - i) (fun i=>i≤gs.length) 0 [] (by simp[hrG,hArn,hBrn,Dp,CW,Lib.joinTail]) (by omega) ?_
 intro i hi N hN;by_cases hend:¬i=gs.length
 ·have hil:i<gs.length:=by omega
  have hili:(i:Int)<gs.length:=by omega
  have hg:=hGi i hil;obtain⟨_,hg2⟩:=Y6 hg;have hN1:=hN (i+1);have hs0:(gs.take (i+1)).sum=(gs.take i).sum+gs.getD i 0:=by
   rw[List.take_add_one,List.sum_append,List.getD,gE hil];simp
  have hsl:(gs.take i).sum+gs.getD i 0≤400:=by
   have h2:(gs.take (i+1)).sum+(gs.drop (i+1)).sum=gs.sum:=by rw[← List.sum_append,List.take_append_drop]
   omega
  have hal:=Sy (gs.take i) 0;rw[lK]at hal;have hac:=VG _ (Xp (gs.take i) 0);have hw:=Y1 ((i:Int)+1) ((i+1:Nat):Int);rw[hs0,sZ hil,Zip,Zip]at hN1;have hIl:i<GR.length:=by omega
  generalize gs.getD i 0=c at *;generalize (gs.take i).sum=s at *;generalize CW (Dp 0 (gs.take i))=Y at *;have hws:=Y1 ((s:Int)+c) ((s+c:Nat):Int);obtain⟨X,hX,hXl⟩:∃ X,X=Y++CW (if 0<i then [F9 i]else [])∧X.length≤3000:=by
   refine⟨_,rfl,?_⟩;have h1:=dD i;split
   ·rw[Tl,lA,lC]; omega
   ·rw[lA]; simp[CW,Lib.joinTail]; omega
  rw[← hX]at hN1;have hbar:∀ k,k≤c→(CW (List.replicate k [124])).length≤1200:=fun k hk=>by
   have:=VG (List.replicate k [124]) fun s hs=>by rw[List.eq_of_mem_replicate hs]; decide
   rw[List.length_replicate]at this;omega
  have hbz:CW (List.replicate 0 [124])=[]:=rfl;have bS:∀ k,k≤c→X4 .add .num (.str (X++CW (List.replicate k [124]))) (.str [32,124])=some (.str (X++CW (List.replicate (k+1) [124]))):=fun k hk=>by
   rw[qk,← List.append_assoc];exact G6 (by have:=hbar k hk; simp; omega)
  by_cases h0:0<i
  ·have h0i:(0:Int)<i:=by omega
   have hit:=su (g:=i) (by omega)
   rw[iP h0,Tl]at hX;have b1:X4 .add .num (.str Y) (.str [32])=some (.str (Y++[32])):=G6 (by simp; omega)
   have b2:X4 .add .num (.str (Y++[32])) (.str (F9 i))=some (.str X):=by
    rw[G6 (by have:=dD i; simp; omega),hX,List.append_assoc]; rfl
   generalize F9 i=nu at *;simp[hil,hili,hg,hg2,h0,h0i,hIl,hGlen,b1];refine L3 hit ?_;simp[b2];refine T6 (α:=Nat) (fun k=>[(1,.ptr 1 0 0),(3,.int .i64 s),(4,.str (X++CW (List.replicate k [124]))),(5,.int .i64 i),(6,.int .i64 k)])
    (fun _=>⟨[(1,.cells 4 [[.int .i64 F,.An GR,AV,BV]])],2⟩) (fun k=>c - k) (fun k=>k≤c) 0 [] (by rw[hbz]; simp[hrG,hArn,hBrn]) (by omega) ?_
   intro k hkc N2 hN2;by_cases he2:¬k=c
   ·have hkl:k<c:=by omega
    have hkli:(k:Int)<c:=by omega
    have hN3:=hN2 (k+1);have hwk:=Y1 ((k:Int)+1) ((k+1:Nat):Int);have b3:=bS k hkc;generalize X++CW (List.replicate (k+1) [124])=X1 at *;generalize X++CW (List.replicate k [124])=X0 at *;simp[hil,hili,hg,hg2,hIl,hGlen,hkl,hkli,hwk,b3];exact hN3 [] _ _ (by omega) (by omega) (by simp[hrG,hArn,hBrn])
   ·replace he2:c=k:=(Classical.not_not.1 he2).symm
    subst he2;simp[hil,hili,hg,hg2,hIl,hGlen,hws,hw];exact hN1 [] _ _ (by omega) (by omega) (by simp[hrG,hArn,hBrn])
  ·have h0i:¬(0:Int)<i:=by omega
   rw[iN h0]at hX;have hXY:X=Y:=by rw[hX]; simp[CW,Lib.joinTail]
   clear hX;subst hXY;simp[hil,hili,hg,hg2,h0,h0i,hIl,hGlen];refine T6 (α:=Nat) (fun k=>[(1,.ptr 1 0 0),(3,.int .i64 s),(4,.str (X++CW (List.replicate k [124]))),(5,.int .i64 i),(6,.int .i64 k)])
    (fun _=>⟨[(1,.cells 4 [[.int .i64 F,.An GR,AV,BV]])],2⟩) (fun k=>c - k) (fun k=>k≤c) 0 [] (by rw[hbz]; simp[hrG,hArn,hBrn]) (by omega) ?_
   intro k hkc N2 hN2;by_cases he2:¬k=c
   ·have hkl:k<c:=by omega
    have hkli:(k:Int)<c:=by omega
    have hN3:=hN2 (k+1);have hwk:=Y1 ((k:Int)+1) ((k+1:Nat):Int);have b3:=bS k hkc;generalize X++CW (List.replicate (k+1) [124])=X1 at *;generalize X++CW (List.replicate k [124])=X0 at *;simp[hil,hili,hg,hg2,hIl,hGlen,hkl,hkli,hwk,b3];exact hN3 [] _ _ (by omega) (by omega) (by simp[hrG,hArn,hBrn])
   ·replace he2:c=k:=(Classical.not_not.1 he2).symm
    subst he2;simp[hil,hili,hg,hg2,hIl,hGlen,hws,hw];exact hN1 [] _ _ (by omega) (by omega) (by simp[hrG,hArn,hBrn])
 ·replace hend:i=gs.length:=Classical.not_not.1 hend
  subst hend;clear hN;rw[List.take_length];obtain⟨m,hm⟩:∃ m,m=gs.sum:=⟨_,rfl⟩
  have hac:=VG _ (Xp gs 0);have GZ:=Sy gs 0;rw[← hm]at o5 o6 o7 hk1 ⊢;have hla:=rI [94] (by simp) m AV A hA o6 o5 Ee
  have hlb:=rI [118] (by simp) m BV B hB o7 o5 Dh
  have hLr:=fun q l=>HH q l
  obtain⟨LA,hLA⟩:∃ LA,LA=Ek [94] m A:=⟨_,rfl⟩
  obtain⟨LB,hLB⟩:∃ LB,LB=Ek [118] m B:=⟨_,rfl⟩
  have hLAl:=Oy [94] A m;have hLBl:=Oy [118] B m;rw[← hLA]at hla hk1 hLAl;rw[← hLB]at hlb hk1 hLBl;rw[← qf]at hk1;have hTn:¬CW (Dp 0 gs)=[]→1≤(CW (Dp 0 gs)).length:=fun h=>List.length_pos_iff.2 h
  have hk2:K (AH 1 (Z2 LA.reverse++[[.str ((CW (Dp 0 gs)).drop 1)]]++Z2 LB)) ⟨AF 1 1 (Z2 LA.reverse++[[.str ((CW (Dp 0 gs)).drop 1)]]++Z2 LB) [],2⟩:=by
   have:Z2 (LA.reverse++[(CW (Dp 0 gs)).drop 1]++LB)=Z2 LA.reverse++[[.str ((CW (Dp 0 gs)).drop 1)]]++Z2 LB:=by simp[Z2]
   rw[← this];exact hk1
  clear hk1 hLA hLB;generalize CW (Dp 0 gs)=TX at *;simp[hAc,hAo,hGlen];have hAl2:=I9 LA;have hAl3:=I9 LA.reverse;have hBl2:=I9 LB;have hlrev:LA.reverse.length=LA.length:=List.length_reverse ..;refine V4 hla [] (by simp[hArn]) (by simp) (by simp) ?_
  rintro _ _ ⟨rfl,rfl⟩;have hw0:=X5 ((LA.length:Int) - 1);have hL0:Z2 (LA.reverse.take (LA.length - LA.length))=[]:=by rw[Nat.sub_self]; rfl
  simp[hrG,hArn,hBrn,hLr,hAl2,hw0];refine T6 (α:=Nat) (fun r=>[(1,.ptr 1 0 0),(3,.int .i64 m),(4,.str TX),(7,AH 3 (Z2 (LA.reverse.take (LA.length - r)))),(8,AH 2 (Z2 LA)),(9,.int .i64 ((r:Int) - 1))])
   (fun r=>⟨(1,.cells 4 [[.int .i64 F,.An GR,AV,BV]]) :: AF 2 1 (Z2 LA) (AF 3 1 (Z2 (LA.reverse.take (LA.length - r))) []),4⟩) (fun r=>r) (fun r=>r≤LA.length) LA.length [(2,13)] (by rw[hL0]; simp +contextual [hrG,hArn,hBrn,hLr]) (lR _) ?_
  intro r hr N hN;have CP:(Z2 (LA.reverse.take (LA.length - r))).length=LA.length - r:=by rw[I9,lK]; omega
  have hRr:=fun q=>HH q (LA.reverse.take (LA.length - r))
  have hLA:=fun q=>HH q LA
  cases r with
  | succ r=>
   have hrl:r<LA.length:=by omega
   have hN1:=hN r;have hg:=SD LA hrl;obtain⟨_,hg2⟩:=Y6 hg;rw[← Z4k hrl,IC]at hN1;have hLe:¬Z2 LA=[]:=fun e=>by rw[e]at hAl2; simp at hAl2; omega
   have e1:((r+1:Nat):Int) - 1=r:=by omega
   have hwr:=X5 ((r:Int) - 1);generalize Db LA r=s at *;generalize Z2 (LA.reverse.take (LA.length - (r+1)))=Q at *;generalize Z2 LA=LL at *;by_cases hQ:Q=[]
   ·subst hQ;simp[e1,hg,hg2,hrl,hAl2,Y4 hLe,Z9 hLe,hLe,hwr,Z8,T3,T0];exact hN1 [(3,12)] _ _ (by omega) (by omega) (by simp +contextual [hrG,hArn,hBrn,hs1,Bg,hLA,Y4 hLe,Z9 hLe,hAl2])
   ·have hQb:Q.length≤1048575:=by omega
    have hne:¬Q.length+1≤Q.length:=by omega
    have hQt:List.take Q.length Q=Q:=tL (lR _);clear CP;simp[e1,hg,hg2,hrl,hAl2,Y4 hLe,Z9 hLe,hLe,hwr,Z8,Y4 hQ,Z9 hQ,hQ,hQb,hne,hQt];exact hN1 [(3,12)] _ _ (by omega) (by omega) (by simp +contextual [hrG,hArn,hBrn,hRr,hLA,Y4 hLe,Z9 hLe,hAl2])
  | zero=>
   clear hN CP hRr;have e0:LA.reverse.take (LA.length - 0)=LA.reverse:=by rw[Nat.sub_zero,← hlrev,List.take_length]
   have z0:((0:Nat):Int) - 1 = -1:=rfl;have hRR:=fun q=>HH q LA.reverse
   have hLBr:=fun q=>HH q LB
   rw[hlrev]at hAl3;simp only[e0];generalize Z2 LA.reverse=RR at *;generalize Z2 LA=LL at *;have hdr:List.drop 1 (List.take TX.length TX)=List.drop 1 TX:=by rw[List.take_length]
   have bN1:X4 .neq .num (.str []) (.str [])=some (.bool false):=by simp[X4,Hx]
   have bN2:¬TX=[]→X4 .neq .num (.str TX) (.str [])=some (.bool true):=fun h=>by simp[X4,Hx,h]
   by_cases hR:RR=[]
   ·have hLL:LL=[]:=List.length_eq_zero_iff.1 (by rw[hAl2,← hAl3,hR]; rfl)
    have hLA0:LA=[]:=List.length_eq_zero_iff.1 (by rw[← hAl3,hR]; rfl)
    subst hR;subst hLL;subst hLA0;by_cases hT:TX=[]
    ·subst hT;simp[z0,bN1,T3,T0,Z8,hBc,hBo];refine V4 hlb [] (by simp[hBrn]) (by simp) (by simp) ?_
     rintro _ _ ⟨rfl,rfl⟩;by_cases hBe:Z2 LB=[]
     ·rw[hBe]at hk2 ⊢;simp[Z8,hBc,hBo,T3,T0,hLr,T7,Q3];exact Z6 hk2 [(1,11)] (by simp +contextual [hRR,hs1,Bg,hAl3,AH,AF])
     ·have hBt:List.take LB.length (Z2 LB)=Z2 LB:=tL (by omega)
      have hb5:¬1+LB.length≤1:=fun e=>hBe (List.length_eq_zero_iff.1 (by omega))
      have hb6:1+LB.length≤1048576:=by omega
      simp[Z8,hBc,hBo,Y4 hBe,Z9 hBe,hBe,hBl2,hLr,T7,Q3,hBt,hb5,hb6];exact Z6 hk2 [(1,18)] (by simp +contextual [hRR,hLBr,hs1,Bg,hAl3,hBl2,AH,AF]; omega)
    ·have h1:=hTn hT;simp[z0,bN2 hT,I2,h1,T3,T0,Z8,hBc,hBo];refine V4 hlb [] (by simp[hBrn]) (by simp) (by simp) ?_
     rintro _ _ ⟨rfl,rfl⟩;by_cases hBe:Z2 LB=[]
     ·rw[hBe]at hk2 ⊢;simp[Z8,hBc,hBo,T3,T0,hLr,T7,Q3];exact Z6 hk2 [(1,14)] (by simp +contextual [hRR,hs1,Bg,hAl3,AH,AF])
     ·have hBt:List.take LB.length (Z2 LB)=Z2 LB:=tL (by omega)
      have hb5:¬1+LB.length≤1:=fun e=>hBe (List.length_eq_zero_iff.1 (by omega))
      have hb6:1+LB.length≤1048576:=by omega
      simp[Z8,hBc,hBo,Y4 hBe,Z9 hBe,hBe,hBl2,hLr,T7,Q3,hBt,hb5,hb6];exact Z6 hk2 [(1,21)] (by simp +contextual [hRR,hLBr,hs1,Bg,hAl3,hBl2,AH,AF]; omega)
   ·have hLL:¬LL=[]:=fun e=>hR (List.length_eq_zero_iff.1 (by rw[hAl3,← hAl2,e]; rfl))
    have hjt:∀ x,List.take (LA.length+1) (RR++[x])=RR++[x]:=fun x=>tL (by simp[hAl3])
    have hne1:¬LA.length+1≤LA.length:=by omega
    have hlb1:LA.length≤1048575:=by omega
    have hrt:List.take LA.length RR=RR:=tL (by omega)
    by_cases hT:TX=[]
    ·subst hT;simp[z0,bN1,Y4 hR,Z9 hR,Y4 hLL,Z9 hLL,hR,hLL,hAl2,hAl3,hne1,hlb1,hrt,Z8,hBc,hBo];refine V4 hlb [] (by simp[hBrn]) (by simp) (by simp) ?_
     rintro _ _ ⟨rfl,rfl⟩;by_cases hBe:Z2 LB=[]
     ·rw[hBe]at hk2 ⊢;simp[Z8,hAl3,hBc,hBo,T3,T0,hLr,T7,Q3];exact Z6 hk2 [(1,11)] (by simp +contextual [hRR,hs1,Bg,hAl3,AH,AF])
     ·have hBt:List.take LB.length (Z2 LB)=Z2 LB:=tL (by omega)
      have hb5:¬LA.length+1+LB.length≤LA.length+1:=fun e=>hBe (List.length_eq_zero_iff.1 (by omega))
      have hb6:LA.length+1+LB.length≤1048576:=by omega
      simp[Z8,hAl3,hBc,hBo,Y4 hBe,Z9 hBe,hBe,hBl2,hLr,T7,Q3,hBt,hb5,hb6,hjt];exact Z6 hk2 [(1,18)] (by simp +contextual [hRR,hLBr,hs1,Bg,hAl3,hBl2,AH,AF]; omega)
    ·have h1:=hTn hT;simp[z0,bN2 hT,I2,h1,Y4 hR,Z9 hR,Y4 hLL,Z9 hLL,hR,hLL,hAl2,hAl3,hne1,hlb1,hrt,Z8,hBc,hBo];refine V4 hlb [] (by simp[hBrn]) (by simp) (by simp) ?_
     rintro _ _ ⟨rfl,rfl⟩;by_cases hBe:Z2 LB=[]
     ·rw[hBe]at hk2 ⊢;simp[Z8,hAl3,hBc,hBo,T3,T0,hLr,T7,Q3];exact Z6 hk2 [(1,14)] (by simp +contextual [hRR,hs1,Bg,hAl3,AH,AF])
     ·have hBt:List.take LB.length (Z2 LB)=Z2 LB:=tL (by omega)
      have hb5:¬LA.length+1+LB.length≤LA.length+1:=fun e=>hBe (List.length_eq_zero_iff.1 (by omega))
      have hb6:LA.length+1+LB.length≤1048576:=by omega
      simp[Z8,hAl3,hBc,hBo,Y4 hBe,Z9 hBe,hBe,hBl2,hLr,T7,Q3,hBt,hb5,hb6,hjt];exact Z6 hk2 [(1,21)] (by simp +contextual [hRR,hLBr,hs1,Bg,hAl3,hBl2,AH,AF]; omega)
theorem yl(F:Int)(G:List Int)(A B:List Ro)(AV BV:Aa)(hA:AY AV A)(hB:AY BV B)(Ee:A.length≤200)(Dh:B.length≤200)(hok:(Dm F G A B).2.2=0) :
 AS Tryz.prog 18 [.agg [.int .i64 F,.An (Z1 G),AV,BV]] (Bx (Z2 (A2 G A B))):=by
 obtain⟨hAc,hAo,hAcl⟩:=hA.cells;obtain⟨hBc,hBo,hBcl⟩:=hB.cells;refine MJ (k:=5) (by simp[W9,Aa.closed,N9,hAcl,hBcl]) (LO (QE _)) ((Z3h F G A B AV BV hA hB Ee Dh hok).mono fun r m' h=>?_)
 obtain⟨rfl,rfl⟩:=h;exact ZY (n:=3) (b:=1) (k:=1) (by simp) (qV _)
end Go.Ab
end
section
namespace Go.Ab
open Go Go.AE Go.Proofs
open Go.Plain
set_option maxHeartbeats 4000000 in
theorem u7(X:List (List UInt8))(hl:X.length≤10000):AS Tryz.prog 17 [.An (Z2 X),.An (Z2 X)] (.bool true):=by
 refine Lx hm Tryz.func17 UR rfl rfl (by simp[W9,Aa.closed,QE]) trivial fun K hK=>?_
 have hlen:=I9 X;have hg:∀ i,i<X.length→(Z2 X)[i]? = some [.str (Db X i)]:=fun i hi=>SD X hi
 have hr:=fun q=>HH q X
 generalize Z2 X=R at *;simp[hlen];refine C5 (α:=Nat) (fun i=>[(5,.int .i64 i),(0,.An R),(1,.An R)]) (fun _=>⟨[],1⟩) (fun i=>X.length - i) (fun i=>i≤X.length) 0 [] (by simp[hr]) (by simp) ?_
 intro i hi N hN;have hw:=X5 ((i:Int)+1);by_cases hlt:i<X.length
 ·have hg1:=hg i hlt;obtain⟨_,hg2⟩:=Y6 hg1;have hN':=hN (i+1) [];rw[Int.natCast_add,Int.natCast_one]at hN';generalize Db X i=s at *;have hb:X4 .neq .num (.str s) (.str s)=some (.bool false):=by simp[X4,Hx]
  simp[hlt,hlen,hg1,hg2,hb,hw];exact hN' _ _ (by omega) (by omega) (by simp[hr])
 ·simp[hlt,hlen];exact Z6 hK [] (by simp)
theorem rz(G:List Int)(A B:List Ro):¬Z2 (A2 G A B)=[]:=by simp[Z2,A2]
theorem u9(G:List Int)(A B:List Ro):(A2 G A B).length=A.length+1+B.length:=by
 unfold A2;rw[lA,lA,List.length_reverse,Oy,Oy];rfl
set_option maxRecDepth 100000 in
set_option maxHeartbeats 16000000 in
theorem w9(F:Int)(G:List Int)(A B:List Ro):AS Tryz.prog 6 [.agg [.int .i64 F,.An (Z1 G),.An (A.map BN),.An (B.map BN)]] (.bool true):=by
 refine Lx hm Tryz.func6 Z4x rfl rfl (by simp[W9,Aa.closed,N9,MH]) trivial fun K hK=>?_
 have hfw:=eA F G A B;by_cases hs:G.length≤60∧A.length≤60∧B.length≤60
 rotate_left
 ·have hb:(decide (G.length≤60)&&decide (A.length≤60)&&decide (B.length≤60))=false:=by
   simp only[Bool.and_eq_false_iff,decide_eq_false_iff_not];omega
  rw[hb]at hfw;generalize Z1 G=GR at *;generalize A.map BN=AR at *;generalize B.map BN=BR at *;simp;refine L3 hfw ?_;simp;refine L3 ZD ?_;simp;exact Z6 hK [] (by simp)
 obtain⟨s1,s2,s3⟩:=hs;have hb:(decide (G.length≤60)&&decide (A.length≤60)&&decide (B.length≤60))=true:=by simp[s1,s2,s3]
 rw[hb]at hfw;have r1:=qc F G A B _ _ (.inl rfl) (.inl rfl) (by omega) (by omega) (by omega)
 have r2:=Z7j F G A B _ _ (.inl rfl) (.inl rfl) (by omega) (by omega) (by omega)
 have r3:=yl F G A B _ _ (.inl rfl) (.inl rfl) (by omega) (by omega)
 unfold Jj at r2;unfold Mo Fu at r1;obtain⟨f,ls,e,hz⟩:∃ f ls e,Dm F G A B=(f,ls,e):=⟨_,_,_,rfl⟩
 rw[hz]at r1 r2 r3;simp only at r1 r2 r3;have hcD:=RO (ls.map Ad);have hoD:=SF (ls.map Ad);generalize Bx (ls.map Ad)=DV at *;by_cases he:e=0
 ·subst he
  replace r3:=r3 rfl
  rw[iP rfl]at r1;have r4:=u7 (A2 G A B) (by rw[u9]; omega)
  rw[Z8u (rz G A B)]at r1 r3;generalize Z2 (A2 G A B)=X at *;generalize Z1 G=GR at *;generalize A.map BN=AR at *;generalize B.map BN=BR at *;simp;refine L3 hfw ?_;simp[hcD,hoD];refine L3 r1 ?_;simp[hcD,hoD];refine L3 r2 ?_;simp[hcD,hoD];refine L3 r3 ?_;simp[hcD,hoD];refine L3 r4 ?_;simp[hcD,hoD];refine L3 ZD ?_;simp;exact Z6 hK [] (by simp)
 ·rw[iN he]at r1;generalize Z1 G=GR at *;generalize A.map BN=AR at *;generalize B.map BN=BR at *;simp;refine L3 hfw ?_;simp[hcD,hoD];refine L3 r1 ?_;simp[hcD,hoD];refine L3 r2 ?_;simp[hcD,hoD,he];refine L3 ZD ?_;simp;exact Z6 hK [] (by simp)
end Go.Ab
end
section
namespace Go.Ab
open Go Go.AE Go.Proofs
open Go.Plain
open Go.ChangeShapes Go.WideShapes Go.RowKit Go.Deep
variable {w:World}
theorem uf{v:Value}{F:Int}{G:List Int}{A B:List Ro}(hR:∀ ρ,R (Ei w) ρ (.agg [.int .i64 F,.An (Z1 G),.An (A.map BN),.An (B.map BN)]) v):Calls Tryz.prog 6 #[v] w fun e w'=>e=.returned (.bool true)∧Below w.heap.size w w':=by
 have hc:=w9 F G A B ⟨fun _=>none,1⟩ []
 refine(hc.2 ⟨w,fun _=>none,Ei w⟩ (Ei w) (fun _=>none) #[v] w ⟨⟨Below.refl _ _,fun B o hB=>(by cases hB)⟩,fun B c hB=>Z3z hB,fun b x hx=>(by cases hx),fun b b' x x' l l' h1=>(by cases h1),fun b l hb=>(by cases hb),fun B c hB=>.inl hB⟩
  ⟨rfl,fun i x u hx hu=>?_⟩ (fun b hb=>by simp at hb)).mono fun e w' he=>?_
 ·match i,hx,hu with
  | 0,hx,hu=>cases hx; cases hu; exact hR _
  | i+1,hx,hu=>simp at hx
 ·obtain⟨u,r,m',Am,ρ',rfl,_,_,hr,hRr,_,rfl,_⟩:=he;refine⟨?_,hr.base.below⟩;cases hRr;rfl
end Go.Ab
end
