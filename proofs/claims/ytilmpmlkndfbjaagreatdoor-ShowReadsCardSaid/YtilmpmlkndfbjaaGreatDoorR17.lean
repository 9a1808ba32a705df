/- Part 17 of the proof: Rc. -/
import Derived.Test.YtilmpmlkndfbjaaGreatDoorR8
import Derived.Test.YtilmpmlkndfbjaaGreatDoorR16
set_option linter.all false
namespace Go.Known
open Go Go.AE Go.Proofs
open Go.Plain
attribute [local simp] Zdk Zcv Zbn Zdb Zb9 Zdz Zcb Zcm Zc7 O6 O3 P8 P7 O1 O5 Zcy Zbm Zdo Zdd Zd5 Zdy Zdf Zdi Zbj Zbv Zdw Zbe Zbz Zbf Zca Zde Zbg Zd2 Zbh Zc5 Zdj Zc4 Zcq Zcr Zbu Zb8 Zd0 Zch Zby Zbq Zcg Zb5 Zcn Zcl Zbp Zck Zdc Zb3 Zcu Zdh Zb0 Zdq Zbs Zc2 Zb4 Zb7 Zdn Zdr Zd1 Zcp Zcd Zb1 Za8 Za3 Zc8 Env.get U1 SMem.at SMem.app SMem.get Z7 S3 AVal.cells AVal.one T7 P0 Zc6 Zbi Zbo Zbc Zda Zcx Zdp Zcz Zbw Zc3 Zdm Zc9 Zdv unA Q7 T0 H5 L4 W8 aundef Zbx Zbr Zce Zbt Zdg P5 Y8 L8 L3 H3 B5 Q9 F4 SubR SubRE SubRB InjK InjA qOf W3 AVal.ren U7 Z6 ABlk.ren V7 V8 Y9 FT.indep N4 O4 I0 H4 in1 Zkb
abbrev visV(v:Int×Int):AVal:=.agg [.int .i64 v.1,.int .i64 v.2]
def mkE:Nat→List Ent→List (AVal×AVal×Nat)
 | _,[]=>[]
 | j,(k,v) :: r=>(.int .i64 k,visV v,j) :: mkE (j+1) r
theorem Zjg:∀ (j:Nat) (E:List Ent),(mkE j E).length=E.length
 | _,[]=>rfl
 | j,(k,v) :: r=>by simp only[mkE,List.length_cons,Zjg (j+1) r]
theorem Y2(q:Nat→Nat):∀ (j:Nat) (E:List Ent),renM q (mkE j E)=mkE j E
 | _,[]=>rfl
 | j,(k,v) :: r=>by
  have:=Y2 q (j+1) r;simp only[renM,mkE,List.map_cons,AVal.ren,U7]at *;rw[this]
theorem Zmw(id:Int):∀ (j:Nat) (E:List Ent),D0 .int (.int .i64 id) (mkE j E)=some (match fnd id E with
 | some (p,v)=>some (p,visV v,j+p)
 | none=>none)
 | _,[]=>rfl
 | j,(k,v) :: r=>by
  simp only[mkE,D0,B3,if_true,fnd];by_cases h:id=k
  ·subst h; simp
  ·have a:(id == k)=false:=by simpa using h
   simp only[a,if_neg h];rw[Zmw id (j+1) r];cases fnd id r with
   | none=>rfl
   | some b=>obtain ⟨p,w⟩:=b; simp only; congr 4; omega
theorem Zt4(k:Int)(v:Int×Int):∀ (j p:Nat) (E:List Ent),(mkE j E).set p (.int .i64 k,visV v,j+p)=mkE j (E.set p (k,v))
 | _,_,[]=>rfl
 | j,0,(a,b) :: r=>rfl
 | j,p+1,(a,b) :: r=>by
  simp only[mkE,List.set_cons_succ];have:=Zt4 k v (j+1) p r;rw[show j+1+p=j+(p+1) by omega]at this
  rw[this]
theorem Zyd(k:Int)(v:Int×Int):∀ (j:Nat) (E:List Ent),mkE j E++[(.int .i64 k,visV v,j+E.length)]=mkE j (E++[(k,v)])
 | _,[]=>rfl
 | j,(a,b) :: r=>by
  simp only[mkE,List.cons_append,List.length_cons];have:=Zyd k v (j+1) r;rw[show j+1+r.length=j+(r.length+1) by omega]at this
  rw[this]
abbrev dV2(F n m:Nat)(rows:List (List AVal)):ABlk:=.cells 7 [[.int .i64 (F:Int),.imm rows,.sl 3 0 n,.sl 5 0 m,.sl 4 0 n,.map 6,.sl 2 0 (F+1)]]
abbrev dM(F n m:Nat)(rows A B C D:List (List AVal))(E:List Ent):SMem:=
 ⟨[(1,dV2 F n m rows),(2,.cells 1 A),(3,.cells 1 B),(4,.cells 1 C),(5,.cells 1 D),(6,.map (mkE 0 E) E.length)],7⟩
set_option maxRecDepth 100000 in
set_option maxHeartbeats 4000000 in
theorem c134(F:Nat)(ls:List Lt)(m:Nat)(h:ls.length≤1000)(A B C D:List (List AVal))(hA:∀ q,Z6 q A=A)(hB:∀ q,Z6 q B=B)(hC:∀ q,Z6 q C=C)(hD:∀ q,Z6 q D=D) :
 Ctr Tryz.prog 143 [.ptr 1 0 0] ⟨[(1,dV1 F ls.length m (ls.map rowL)),(2,.cells 1 A),(3,.cells 1 B),(4,.cells 1 C),(5,.cells 1 D)],6⟩ fun r sm=>
  ((X7 ls % 2=0∧crF ls (X7 ls) ls.length=true∧(crE ls ls.length).length=X7 ls / 2)∧r=.bool true∧sm=dM F ls.length m (ls.map rowL) A B C D (crE ls ls.length)) ∨
  (¬(X7 ls % 2=0∧crF ls (X7 ls) ls.length=true∧(crE ls ls.length).length=X7 ls / 2)∧r=.bool false∧sm=⟨[],6⟩):=by
 refine Zc0 hm Tryz.func143 Zxv rfl rfl fun K hK=>?_
 have hR:=M9 ls;have O:∀ q,Z6 q (ls.map rowL)=ls.map rowL:=fun q=>X6 q _ (U6 ls)
 have ah:(X7 ls % 2=0∧crF ls (X7 ls) ls.length=true∧(crE ls ls.length).length=X7 ls / 2) → ∀ l m',SubR 6 l [(0,.bool true)] (dM F ls.length m (ls.map rowL) A B C D (crE ls ls.length)) [(0,.bool true)] m'→O9 6 K (.bool true) m':=
  fun hr l m' hs=>Z9 (hK _ _ (.inl ⟨hr,rfl,rfl⟩)) l hs
 have H:¬(X7 ls % 2=0∧crF ls (X7 ls) ls.length=true∧(crE ls ls.length).length=X7 ls / 2) → ∀ l m',SubR 6 l [(0,.bool false)] ⟨[],6⟩ [(0,.bool false)] m'→O9 6 K (.bool false) m':=
  fun hr l m' hs=>Z9 (hK _ _ (.inr ⟨hr,rfl,rfl⟩)) l hs
 clear hK;have Y:=c103 F ls h;unfold cV at Y;generalize ls.map rowL=rows at *;have b:=hR.len;have an:X7 ls≤ls.length:=Za6;simp[-Int.natCast_add];refine J7 Y ?_;have al:Z5 isX ls=X7 ls:=rfl;rw[al];generalize hv:X7 ls=v at *;by_cases Q:v % 2=0
 rotate_left
 ·have M:¬(((v % 2:Nat):Int)=0):=by omega
  simp[-Int.natCast_emod,Zfv,Q,M];exact H (fun hh=>Q hh.1) [] _ (by simp)
 have M:((v % 2:Nat):Int)=0:=by omega
 simp[-Int.natCast_emod,Zfv,Q,M,b];refine B0 (α:=Nat) (fun i=>[(27,.int .i64 i),(26,.int .i64 ls.length),(25,.imm rows),(3,.int .i64 v),(0,.ptr 1 0 0)])
  (fun i=>dM F ls.length m rows A B C D (crE ls i)) (fun i=>ls.length - i) (fun i=>i≤ls.length∧crF ls v i=true) 0 [(6,17)] (by simp[renM,O,hA,hB,hC,hD,crE,mkE]) (by simp[crF]) ?_
 rintro i ⟨hi,ac⟩ N hN
 try simp only at hi ac hN ⊢
 by_cases t:i<ls.length
 ·have c:=hR.row i t;obtain⟨_,a⟩:=Y5 c;have ab:IntKind.i64.wrap ((i:Int)+1)=(i:Int)+1:=Z1 (by omega) (by omega)
  by_cases S:(at' ls i).k=2
  ·have hp:isX (at' ls i)=true:=by simp[isX,S]
   have e:crF ls v (i+1)=(decide (1≤(at' ls i).i)&&decide ((at' ls i).i≤(v / 2:Nat))&&fitE ls (crE ls i) (at' ls i)):=by
    simp[crF,ac,hp]
   have G:crE ls (i+1)=updE (crE ls i) (at' ls i).i (at' ls i).o i:=by simp[crE,hp]
   have y:crF ls v (i+1)=false → ¬(v % 2=0∧crF ls v ls.length=true∧(crE ls ls.length).length=v / 2):=fun hb hq=>by
    rw[Z66 (show i+1≤ls.length by omega) hq.2.1]at hb; cases hb
   have u:IntKind.i64.wrap ((v:Int) / 2)=(v:Int) / 2:=Z1 (by omega) (by omega)
   by_cases w:(at' ls i).i<1
   ·simp[b,t,c,a,rowL,S,w];exact H (y (by rw[e]; simp; omega)) [] _ (by simp)
   by_cases z:(v:Int) / 2<(at' ls i).i
   ·simp[b,t,c,a,rowL,S,w,A1,u,z];exact H (y (by rw[e]; simp; omega)) [] _ (by simp)
   have n:=Zmw (at' ls i).i 0 (crE ls i);have am:=Zg7 ls i;cases hf:fnd (at' ls i).i (crE ls i)with
   | none=>
    rw[hf]at n;simp only at n;have Z:fitE ls (crE ls i) (at' ls i)=true:=by unfold fitE; rw[hf]
    have I:=Zyd (at' ls i).i (J6 (at' ls i).o i (-1,-1)) 0 (crE ls i);have hE:updE (crE ls i) (at' ls i).i (at' ls i).o i=crE ls i++[((at' ls i).i,J6 (at' ls i).o i (-1,-1))]:=by unfold updE; rw[hf]
    rw[hE]at G;have X:(crE ls (i+1)).length=(crE ls i).length+1:=by rw[G]; simp
    rw[← G]at I;rw[Nat.zero_add]at I;rw[Z]at e;have V:crF ls v (i+1)=true:=by rw[e]; simp; omega
    cases U:(at' ls i).o with
    | true=>
     rw[U]at I;simp only[J6,if_true,visV]at I;simp[b,t,c,a,rowL,S,w,A1,u,z,n,U,ab];exact hN (i+1) [] _ _ (by omega) ⟨by omega,V⟩ (by simp[O,hA,hB,hC,hD,Y2,I,X])
    | false=>
     rw[U]at I;simp only[J6,bF,if_false,visV]at I;simp[b,t,c,a,rowL,S,w,A1,u,z,n,U,ab];exact hN (i+1) [] _ _ (by omega) ⟨by omega,V⟩ (by simp[O,hA,hB,hC,hD,Y2,I,X])
   | some pv=>
    obtain⟨p,v0,v1⟩:=pv;rw[hf]at n;simp only[visV,Nat.zero_add]at n;have ag:=List.mem_of_getElem? (Zha hf);obtain⟨ai,aj,ak⟩:=am _ ag;simp only at ai aj ak;have Z:fitE ls (crE ls i) (at' ls i)=(decide (S5 (at' ls i).o (v0,v1)<0)&&decide ((at' ls (S5 (!(at' ls i).o) (v0,v1)).toNat).s=(at' ls i).s)):=by unfold fitE; rw[hf]
    have J:=Zt4 (at' ls i).i (J6 (at' ls i).o i (v0,v1)) 0 p (crE ls i);have hE:updE (crE ls i) (at' ls i).i (at' ls i).o i=(crE ls i).set p ((at' ls i).i,J6 (at' ls i).o i (v0,v1)):=by unfold updE; rw[hf]
    rw[hE]at G;have X:(crE ls (i+1)).length=(crE ls i).length:=by rw[G]; simp
    rw[← G]at J;rw[Nat.zero_add]at J;rw[Z]at e;cases U:(at' ls i).o with
    | true=>
     rw[U]at e J;simp only[S5,J6,Bool.not_true,bF,if_true,if_false,visV]at e J;by_cases P:0≤v1
     ·simp[b,t,c,a,rowL,S,w,A1,u,z,n,U,P];exact H (y (by rw[e]; simp; omega)) [] _ (by simp)
     obtain⟨j,hj⟩:∃ j:Nat,v0=(j:Nat):=⟨v0.toNat,by omega⟩
     subst hj;have L:j<ls.length:=by omega
     have d:=hR.row j L;obtain⟨_,g⟩:=Y5 d;have aa:IntKind.i64.wrap 0=0:=by decide
     by_cases E:(at' ls j).s=(at' ls i).s
     ·have V:crF ls v (i+1)=true:=by rw[e]; simp[E]; omega
      simp[b,t,c,a,rowL,S,w,A1,u,z,n,U,P,aa,L,d,g,E,ab];exact hN (i+1) [] _ _ (by omega) ⟨by omega,V⟩ (by simp[O,hA,hB,hC,hD,Y2,J,X])
     ·simp[b,t,c,a,rowL,S,w,A1,u,z,n,U,P,aa,L,d,g,E];exact H (y (by rw[e]; simp[E])) [] _ (by simp)
    | false=>
     rw[U]at e J;simp only[S5,J6,Bool.not_false,bF,if_true,if_false,visV]at e J;by_cases P:0≤v0
     ·simp[b,t,c,a,rowL,S,w,A1,u,z,n,U,P];exact H (y (by rw[e]; simp; omega)) [] _ (by simp)
     obtain⟨j,hj⟩:∃ j:Nat,v1=(j:Nat):=⟨v1.toNat,by omega⟩
     subst hj;have L:j<ls.length:=by omega
     have d:=hR.row j L;obtain⟨_,g⟩:=Y5 d;have aa:IntKind.i64.wrap 1=1:=by decide
     by_cases E:(at' ls j).s=(at' ls i).s
     ·have V:crF ls v (i+1)=true:=by rw[e]; simp[E]; omega
      simp[b,t,c,a,rowL,S,w,A1,u,z,n,U,P,aa,L,d,g,E,ab];exact hN (i+1) [] _ _ (by omega) ⟨by omega,V⟩ (by simp[O,hA,hB,hC,hD,Y2,J,X])
     ·simp[b,t,c,a,rowL,S,w,A1,u,z,n,U,P,aa,L,d,g,E];exact H (y (by rw[e]; simp[E])) [] _ (by simp)
  ·have hp:isX (at' ls i)=false:=by simp[isX,S]
   have G:crE ls (i+1)=crE ls i:=by simp[crE,hp]
   simp[b,t,c,a,rowL,S,ab];exact hN (i+1) [] _ _ (by omega) ⟨by omega,by simp[crF,ac,hp]⟩ (by simp[O,hA,hB,hC,hD,Y2,G])
 have he:i=ls.length:=by omega
 subst he;have u:IntKind.i64.wrap ((v:Int) / 2)=(v:Int) / 2:=Z1 (by omega) (by omega)
 by_cases ad:(crE ls ls.length).length=v / 2
 ·have af:(((crE ls ls.length).length:Nat):Int)=(v:Int) / 2:=by omega
  simp[b,Zjg,A1,u,ad,af];exact ah ⟨Q,ac,ad⟩ [] _ (by simp[O,hA,hB,hC,hD,Y2,ad])
 ·have ae:¬(((crE ls ls.length).length:Nat):Int)=(v:Int) / 2:=by omega
  simp[b,Zjg,A1,u,ae];exact H (fun hh=>ad hh.2.2) [] _ (by simp)
end Go.Known
