/- Part 18 of the proof: Rc. -/
import Derived.Test.YtilmpmlkndfbjaaGreatDoorI9
import Derived.Test.YtilmpmlkndfbjaaGreatDoorI17
set_option linter.all false
namespace Go.Known
open Go Go.AE Go.Proofs
open Go.Plain
attribute [local simp] Zb1 Zcg Zb5 Zc7 Zdf Zd8 Zen Zbx Zcz O4 P9 P7 O0 P6 P8 Zd0 Zbw Zb6 Zco Zeg Zbo Zc3 Zc0 Zdx Zbv Zem Zb8 Zd9 Zcl Zej Zbz Zcs Zdy Zec Zch Zck Zbu Zdd Zc8 Zb7 Zcw Zbt Zds Zdj Zdt Zc9 Zeb Zea Zcv Zcu Zby Zdz Zee Zc1 Zd4 Zcr Zeh Zek Zb0 Zel Zdq Zcn Zcx Zdo Zdg Zcj Zdp Zbj Zc6 Zc5 Env.get V2 SMem.at SMem.app SMem.get Z9 Q5 AVal.cells AVal.one T9 Q8 Zd5 Zda Zei Zcq Zdk Zd7 Zcf Zb2 Zdl Zbq Zcp Zdm Zde unA R8 U8 G5 L4 W4 aundef Zdw Zct Zc4 Zb9 Zbs P3 V8 L5 L1 M8 G6 S3 H7 SubR SubRE SubRB InjK InjA qOf Zat AVal.ren Q4 Z4 ABlk.ren U4 U3 X0 FT.indep N6 P5 K9 H3 in1 Zjc
abbrev visV(v:Int×Int):AVal:=.agg [.int .i64 v.1,.int .i64 v.2]
def mkE:Nat→List Ent→List (AVal×AVal×Nat)
 | _,[]=>[]
 | j,(k,v) :: r=>(.int .i64 k,visV v,j) :: mkE (j+1) r
theorem Zix:∀ (j:Nat) (E:List Ent),(mkE j E).length=E.length
 | _,[]=>rfl
 | j,(k,v) :: r=>by simp only[mkE,List.length_cons,Zix (j+1) r]
theorem Z8(q:Nat→Nat):∀ (j:Nat) (E:List Ent),G8 q (mkE j E)=mkE j E
 | _,[]=>rfl
 | j,(k,v) :: r=>by
  have:=Z8 q (j+1) r;simp only[G8,mkE,List.map_cons,AVal.ren,Q4]at *;rw[this]
theorem Zlw(id:Int):∀ (j:Nat) (E:List Ent),H4 .int (.int .i64 id) (mkE j E)=some (match fnd id E with
 | some (p,v)=>some (p,visV v,j+p)
 | none=>none)
 | _,[]=>rfl
 | j,(k,v) :: r=>by
  simp only[mkE,H4,C2,if_true,fnd];by_cases h:id=k
  ·subst h; simp
  ·have a:(id == k)=false:=by simpa using h
   simp only[a,if_neg h];rw[Zlw id (j+1) r];cases fnd id r with
   | none=>rfl
   | some b=>obtain ⟨p,w⟩:=b; simp only; congr 4; omega
theorem Zw2(k:Int)(v:Int×Int):∀ (j p:Nat) (E:List Ent),(mkE j E).set p (.int .i64 k,visV v,j+p)=mkE j (E.set p (k,v))
 | _,_,[]=>rfl
 | j,0,(a,b) :: r=>rfl
 | j,p+1,(a,b) :: r=>by
  simp only[mkE,List.set_cons_succ];have:=Zw2 k v (j+1) p r;rw[show j+1+p=j+(p+1) by omega]at this
  rw[this]
theorem Zvv(k:Int)(v:Int×Int):∀ (j:Nat) (E:List Ent),mkE j E++[(.int .i64 k,visV v,j+E.length)]=mkE j (E++[(k,v)])
 | _,[]=>rfl
 | j,(a,b) :: r=>by
  simp only[mkE,List.cons_append,List.length_cons];have:=Zvv k v (j+1) r;rw[show j+1+r.length=j+(r.length+1) by omega]at this
  rw[this]
abbrev dV2(F n m:Nat)(rows:List (List AVal)):ABlk:=.cells 7 [[.int .i64 (F:Int),.imm rows,.sl 3 0 n,.sl 5 0 m,.sl 4 0 n,.map 6,.sl 2 0 (F+1)]]
abbrev dM(F n m:Nat)(rows A B C D:List (List AVal))(E:List Ent):SMem:=
 ⟨[(1,dV2 F n m rows),(2,.cells 1 A),(3,.cells 1 B),(4,.cells 1 C),(5,.cells 1 D),(6,.map (mkE 0 E) E.length)],7⟩
set_option maxRecDepth 100000 in
set_option maxHeartbeats 4000000 in
theorem c134(F:Nat)(ls:List Lt)(m:Nat)(h:ls.length≤1000)(A B C D:List (List AVal))(hA:∀ q,Z4 q A=A)(hB:∀ q,Z4 q B=B)(hC:∀ q,Z4 q C=C)(hD:∀ q,Z4 q D=D) :
 Ctr Tryz.prog 143 [.ptr 1 0 0] ⟨[(1,dV1 F ls.length m (ls.map rowL)),(2,.cells 1 A),(3,.cells 1 B),(4,.cells 1 C),(5,.cells 1 D)],6⟩ fun r sm=>
  ((Y9 ls % 2=0∧crF ls (Y9 ls) ls.length=true∧(crE ls ls.length).length=Y9 ls / 2)∧r=.bool true∧sm=dM F ls.length m (ls.map rowL) A B C D (crE ls ls.length)) ∨
  (¬(Y9 ls % 2=0∧crF ls (Y9 ls) ls.length=true∧(crE ls ls.length).length=Y9 ls / 2)∧r=.bool false∧sm=⟨[],6⟩):=by
 refine E7 hm Tryz.func143 Ztv rfl rfl fun K hK=>?_
 have hR:=L0 ls;have O:∀ q,Z4 q (ls.map rowL)=ls.map rowL:=fun q=>X1 q _ (Y5 ls)
 have ah:(Y9 ls % 2=0∧crF ls (Y9 ls) ls.length=true∧(crE ls ls.length).length=Y9 ls / 2) → ∀ l m',SubR 6 l [(0,.bool true)] (dM F ls.length m (ls.map rowL) A B C D (crE ls ls.length)) [(0,.bool true)] m'→S4 6 K (.bool true) m':=
  fun hr l m' hs=>Y1 (hK _ _ (.inl ⟨hr,rfl,rfl⟩)) l hs
 have H:¬(Y9 ls % 2=0∧crF ls (Y9 ls) ls.length=true∧(crE ls ls.length).length=Y9 ls / 2) → ∀ l m',SubR 6 l [(0,.bool false)] ⟨[],6⟩ [(0,.bool false)] m'→S4 6 K (.bool false) m':=
  fun hr l m' hs=>Y1 (hK _ _ (.inr ⟨hr,rfl,rfl⟩)) l hs
 clear hK;have Y:=c103 F ls h;unfold cV at Y;generalize ls.map rowL=rows at *;have b:=hR.len;have an:Y9 ls≤ls.length:=D2;simp[-Int.natCast_add];refine U1 Y ?_;have al:Z3 isX ls=Y9 ls:=rfl;rw[al];generalize hv:Y9 ls=v at *;by_cases Q:v % 2=0
 rotate_left
 ·have M:¬(((v % 2:Nat):Int)=0):=by omega
  simp[-Int.natCast_emod,Zf5,Q,M];exact H (fun hh=>Q hh.1) [] _ (by simp)
 have M:((v % 2:Nat):Int)=0:=by omega
 simp[-Int.natCast_emod,Zf5,Q,M,b];refine Q7 (α:=Nat) (fun i=>[(27,.int .i64 i),(26,.int .i64 ls.length),(25,.imm rows),(3,.int .i64 v),(0,.ptr 1 0 0)])
  (fun i=>dM F ls.length m rows A B C D (crE ls i)) (fun i=>ls.length - i) (fun i=>i≤ls.length∧crF ls v i=true) 0 [(6,17)] (by simp[G8,O,hA,hB,hC,hD,crE,mkE]) (by simp[crF]) ?_
 rintro i ⟨hi,ac⟩ N hN
 try simp only at hi ac hN ⊢
 by_cases t:i<ls.length
 ·have c:=hR.row i t;obtain⟨_,a⟩:=X5 c;have ab:IntKind.i64.wrap ((i:Int)+1)=(i:Int)+1:=Z5 (by omega) (by omega)
  by_cases S:(at' ls i).k=2
  ·have hp:isX (at' ls i)=true:=by simp[isX,S]
   have e:crF ls v (i+1)=(decide (1≤(at' ls i).i)&&decide ((at' ls i).i≤(v / 2:Nat))&&fitE ls (crE ls i) (at' ls i)):=by
    simp[crF,ac,hp]
   have G:crE ls (i+1)=updE (crE ls i) (at' ls i).i (at' ls i).o i:=by simp[crE,hp]
   have y:crF ls v (i+1)=false → ¬(v % 2=0∧crF ls v ls.length=true∧(crE ls ls.length).length=v / 2):=fun hb hq=>by
    rw[Z45 (show i+1≤ls.length by omega) hq.2.1]at hb; cases hb
   have u:IntKind.i64.wrap ((v:Int) / 2)=(v:Int) / 2:=Z5 (by omega) (by omega)
   by_cases w:(at' ls i).i<1
   ·simp[b,t,c,a,rowL,S,w];exact H (y (by rw[e]; simp; omega)) [] _ (by simp)
   by_cases z:(v:Int) / 2<(at' ls i).i
   ·simp[b,t,c,a,rowL,S,w,Zaf,u,z];exact H (y (by rw[e]; simp; omega)) [] _ (by simp)
   have n:=Zlw (at' ls i).i 0 (crE ls i);have am:=Zgg ls i;cases hf:fnd (at' ls i).i (crE ls i)with
   | none=>
    rw[hf]at n;simp only at n;have Z:fitE ls (crE ls i) (at' ls i)=true:=by unfold fitE; rw[hf]
    have I:=Zvv (at' ls i).i (K4 (at' ls i).o i (-1,-1)) 0 (crE ls i);have hE:updE (crE ls i) (at' ls i).i (at' ls i).o i=crE ls i++[((at' ls i).i,K4 (at' ls i).o i (-1,-1))]:=by unfold updE; rw[hf]
    rw[hE]at G;have X:(crE ls (i+1)).length=(crE ls i).length+1:=by rw[G]; simp
    rw[← G]at I;rw[Nat.zero_add]at I;rw[Z]at e;have V:crF ls v (i+1)=true:=by rw[e]; simp; omega
    cases U:(at' ls i).o with
    | true=>
     rw[U]at I;simp only[K4,if_true,visV]at I;simp[b,t,c,a,rowL,S,w,Zaf,u,z,n,U,ab];exact hN (i+1) [] _ _ (by omega) ⟨by omega,V⟩ (by simp[O,hA,hB,hC,hD,Z8,I,X])
    | false=>
     rw[U]at I;simp only[K4,bF,if_false,visV]at I;simp[b,t,c,a,rowL,S,w,Zaf,u,z,n,U,ab];exact hN (i+1) [] _ _ (by omega) ⟨by omega,V⟩ (by simp[O,hA,hB,hC,hD,Z8,I,X])
   | some pv=>
    obtain⟨p,v0,v1⟩:=pv;rw[hf]at n;simp only[visV,Nat.zero_add]at n;have ag:=List.mem_of_getElem? (Zh0 hf);obtain⟨ai,aj,ak⟩:=am _ ag;simp only at ai aj ak;have Z:fitE ls (crE ls i) (at' ls i)=(decide (S5 (at' ls i).o (v0,v1)<0)&&decide ((at' ls (S5 (!(at' ls i).o) (v0,v1)).toNat).s=(at' ls i).s)):=by unfold fitE; rw[hf]
    have J:=Zw2 (at' ls i).i (K4 (at' ls i).o i (v0,v1)) 0 p (crE ls i);have hE:updE (crE ls i) (at' ls i).i (at' ls i).o i=(crE ls i).set p ((at' ls i).i,K4 (at' ls i).o i (v0,v1)):=by unfold updE; rw[hf]
    rw[hE]at G;have X:(crE ls (i+1)).length=(crE ls i).length:=by rw[G]; simp
    rw[← G]at J;rw[Nat.zero_add]at J;rw[Z]at e;cases U:(at' ls i).o with
    | true=>
     rw[U]at e J;simp only[S5,K4,Bool.not_true,bF,if_true,if_false,visV]at e J;by_cases P:0≤v1
     ·simp[b,t,c,a,rowL,S,w,Zaf,u,z,n,U,P];exact H (y (by rw[e]; simp; omega)) [] _ (by simp)
     obtain⟨j,hj⟩:∃ j:Nat,v0=(j:Nat):=⟨v0.toNat,by omega⟩
     subst hj;have L:j<ls.length:=by omega
     have d:=hR.row j L;obtain⟨_,g⟩:=X5 d;have aa:IntKind.i64.wrap 0=0:=by decide
     by_cases E:(at' ls j).s=(at' ls i).s
     ·have V:crF ls v (i+1)=true:=by rw[e]; simp[E]; omega
      simp[b,t,c,a,rowL,S,w,Zaf,u,z,n,U,P,aa,L,d,g,E,ab];exact hN (i+1) [] _ _ (by omega) ⟨by omega,V⟩ (by simp[O,hA,hB,hC,hD,Z8,J,X])
     ·simp[b,t,c,a,rowL,S,w,Zaf,u,z,n,U,P,aa,L,d,g,E];exact H (y (by rw[e]; simp[E])) [] _ (by simp)
    | false=>
     rw[U]at e J;simp only[S5,K4,Bool.not_false,bF,if_true,if_false,visV]at e J;by_cases P:0≤v0
     ·simp[b,t,c,a,rowL,S,w,Zaf,u,z,n,U,P];exact H (y (by rw[e]; simp; omega)) [] _ (by simp)
     obtain⟨j,hj⟩:∃ j:Nat,v1=(j:Nat):=⟨v1.toNat,by omega⟩
     subst hj;have L:j<ls.length:=by omega
     have d:=hR.row j L;obtain⟨_,g⟩:=X5 d;have aa:IntKind.i64.wrap 1=1:=by decide
     by_cases E:(at' ls j).s=(at' ls i).s
     ·have V:crF ls v (i+1)=true:=by rw[e]; simp[E]; omega
      simp[b,t,c,a,rowL,S,w,Zaf,u,z,n,U,P,aa,L,d,g,E,ab];exact hN (i+1) [] _ _ (by omega) ⟨by omega,V⟩ (by simp[O,hA,hB,hC,hD,Z8,J,X])
     ·simp[b,t,c,a,rowL,S,w,Zaf,u,z,n,U,P,aa,L,d,g,E];exact H (y (by rw[e]; simp[E])) [] _ (by simp)
  ·have hp:isX (at' ls i)=false:=by simp[isX,S]
   have G:crE ls (i+1)=crE ls i:=by simp[crE,hp]
   simp[b,t,c,a,rowL,S,ab];exact hN (i+1) [] _ _ (by omega) ⟨by omega,by simp[crF,ac,hp]⟩ (by simp[O,hA,hB,hC,hD,Z8,G])
 have he:i=ls.length:=by omega
 subst he;have u:IntKind.i64.wrap ((v:Int) / 2)=(v:Int) / 2:=Z5 (by omega) (by omega)
 by_cases ad:(crE ls ls.length).length=v / 2
 ·have af:(((crE ls ls.length).length:Nat):Int)=(v:Int) / 2:=by omega
  simp[b,Zix,Zaf,u,ad,af];exact ah ⟨Q,ac,ad⟩ [] _ (by simp[O,hA,hB,hC,hD,Z8,ad])
 ·have ae:¬(((crE ls ls.length).length:Nat):Int)=(v:Int) / 2:=by omega
  simp[b,Zix,Zaf,u,ae];exact H (fun hh=>ad hh.2.2) [] _ (by simp)
end Go.Known
