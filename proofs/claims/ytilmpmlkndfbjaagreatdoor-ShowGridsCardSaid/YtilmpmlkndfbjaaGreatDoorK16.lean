/- Part 16 of the proof: Rc. -/
import Derived.Test.YtilmpmlkndfbjaaGreatDoorK8
import Derived.Test.YtilmpmlkndfbjaaGreatDoorK15
set_option linter.all false
namespace Go.Ab
open Go Go.AE Go.Proofs
open Go.Plain
attribute [local simp] KV KF Kv KM K8 KI K2 Ku KT HG HJ HC HK HL HF JC Ld Kb Jw JF Kk JM Kz KE KZ KY Kl KU K4 KD JO KP K6 Jv Kt Ks Kw JI KR K7 K1 Jx Kq Kd KB JU Ky JY JG JZ Kc Ko KX KN Km JX K3 Jy KW Kr Kg Kx JP JE Kf Jz Lf Iy JW Env.get P3 Ac.at Ac.app Ac.get Y2 P0 Aa.cells Aa.one J4 C0 Ke KQ K9 K5 JQ KL Jq JL KJ Ka Jt KH KC Ga F5 N6 H9 I8 U5 Aj La Ki JT JH O3 X3 J0 M0 I6 D4 Q6 I0 Bq BY BB Cz Df Bz W5 Aa.AA U3 Z3 Ag.AA U9 T2 W2 FT.indep E4 Iz A0 EC Jg Sx
abbrev Ff(v:Int×Int):Aa:=.agg [.int .i64 v.1,.int .i64 v.2]
def FH:Nat→List DW→List (Aa×Aa×Nat)
 | _,[]=>[]
 | j,(k,v) :: r=>(.int .i64 k,Ff v,j) :: FH (j+1) r
theorem Sd:∀ (j:Nat) (E:List DW),(FH j E).length=E.length
 | _,[]=>rfl
 | j,(k,v) :: r=>by simp only[FH,lC,Sd (j+1) r]
theorem Y8(q:Nat→Nat):∀ (j:Nat) (E:List DW),EA q (FH j E)=FH j E
 | _,[]=>rfl
 | j,(k,v) :: r=>by
  have:=Y8 q (j+1) r;simp only[EA,FH,List.map_cons,Aa.AA,U3]at *;rw[this]
theorem WE(id:Int):∀ (j:Nat) (E:List DW),G3 .int (.int .i64 id) (FH j E)=some (match Dg id E with
 | some (p,v)=>some (p,Ff v,j+p)
 | none=>none)
 | _,[]=>rfl
 | j,(k,v) :: r=>by
  simp only[FH,G3,A9,if_true,Dg];by_cases h:id=k
  ·subst h; simp
  ·have hb:(id == k)=false:=by simpa using h
   simp only[hb,iN h];rw[WE id (j+1) r];cases Dg id r with
   | none=>rfl
   | some pw=>obtain ⟨p,w⟩:=pw; simp only; congr 4; omega
theorem qN(k:Int)(v:Int×Int):∀ (j p:Nat) (E:List DW),(FH j E).set p (.int .i64 k,Ff v,j+p)=FH j (E.set p (k,v))
 | _,_,[]=>rfl
 | j,0,(k',v') :: r=>rfl
 | j,p+1,(k',v') :: r=>by
  simp only[FH,List.set_cons_succ];have:=qN k v (j+1) p r;rw[show j+1+p=j+(p+1) by omega]at this
  rw[this]
theorem rT(k:Int)(v:Int×Int):∀ (j:Nat) (E:List DW),FH j E++[(.int .i64 k,Ff v,j+E.length)]=FH j (E++[(k,v)])
 | _,[]=>rfl
 | j,(k',v') :: r=>by
  simp only[FH,List.cons_append,lC];have:=rT k v (j+1) r;rw[show j+1+r.length=j+(r.length+1) by omega]at this
  rw[this]
abbrev XK(F n m:Nat)(rows:List (List Aa)):Ag:=.cells 7 [[.int .i64 (F:Int),.An rows,.sl 3 0 n,.sl 5 0 m,.sl 4 0 n,.map 6,.sl 2 0 (F+1)]]
abbrev dM(F n m:Nat)(rows A B C D:List (List Aa))(E:List DW):Ac:=
 ⟨[(1,XK F n m rows),(2,.cells 1 A),(3,.cells 1 B),(4,.cells 1 C),(5,.cells 1 D),(6,.map (FH 0 E) E.length)],7⟩
set_option maxRecDepth 100000 in
set_option maxHeartbeats 4000000 in
theorem dO(F:Nat)(ls:List Lt)(m:Nat)(h:ls.length≤1000)(A B C D:List (List Aa))(hA:∀ q,Z3 q A=A)(hB:∀ q,Z3 q B=B)(hC:∀ q,Z3 q C=C)(hD:∀ q,Z3 q D=D) :
 Cc Tryz.prog 143 [.ptr 1 0 0] ⟨[(1,XJ F ls.length m (ls.map Ad)),(2,.cells 1 A),(3,.cells 1 B),(4,.cells 1 C),(5,.cells 1 D)],6⟩ fun r sm=>
  ((U0 ls % 2=0∧ER ls (U0 ls) ls.length=true∧(Bc ls ls.length).length=U0 ls / 2)∧r=.bool true∧sm=dM F ls.length m (ls.map Ad) A B C D (Bc ls ls.length)) ∨
  (¬(U0 ls % 2=0∧ER ls (U0 ls) ls.length=true∧(Bc ls ls.length).length=U0 ls / 2)∧r=.bool false∧sm=⟨[],6⟩):=by
 refine Ih hm Tryz.func143 mL rfl rfl fun K hK=>?_
 have hR:=IA ls;have As:∀ q,Z3 q (ls.map Ad)=ls.map Ad:=fun q=>X7 q _ (R7 ls)
 have hyes:(U0 ls % 2=0∧ER ls (U0 ls) ls.length=true∧(Bc ls ls.length).length=U0 ls / 2) → ∀ l m',Bq 6 l [(0,.bool true)] (dM F ls.length m (ls.map Ad) A B C D (Bc ls ls.length)) [(0,.bool true)] m'→M4 6 K (.bool true) m':=
  fun hr l m' hs=>Z6 (hK _ _ (.inl ⟨hr,rfl,rfl⟩)) l hs
 have hno:¬(U0 ls % 2=0∧ER ls (U0 ls) ls.length=true∧(Bc ls ls.length).length=U0 ls / 2) → ∀ l m',Bq 6 l [(0,.bool false)] ⟨[],6⟩ [(0,.bool false)] m'→M4 6 K (.bool false) m':=
  fun hr l m' hs=>Z6 (hK _ _ (.inr ⟨hr,rfl,rfl⟩)) l hs
 clear hK;have hc103:=UJ F ls h;unfold cV at hc103;generalize ls.map Ad=rows at *;have hlen:=hR.len;have hvl:U0 ls≤ls.length:=Si;simp[-Int.natCast_add];refine L3 hc103 ?_;have hve:Z7 Bv ls=U0 ls:=rfl;rw[hve];generalize hv:U0 ls=nv at *;by_cases hpar:nv % 2=0
 rotate_left
 ·have hpar':¬(((nv % 2:Nat):Int)=0):=by omega
  simp[-Int.natCast_emod,YR,hpar];exact hno (fun hh=>hpar hh.1) [] _ (by simp)
 have hpar':((nv % 2:Nat):Int)=0:=by omega
 simp[-Int.natCast_emod,YR,hpar,hlen];refine C5 (α:=Nat) (fun i=>[(27,.int .i64 i),(26,.int .i64 ls.length),(25,.An rows),(3,.int .i64 nv),(0,.ptr 1 0 0)])
  (fun i=>dM F ls.length m rows A B C D (Bc ls i)) (fun i=>ls.length - i) (fun i=>i≤ls.length∧ER ls nv i=true) 0 [(6,17)] (by simp[EA,As,hA,hB,hC,hD,Bc,FH]) (by simp[ER]) ?_
 rintro i ⟨hi,Dx⟩ N hN
 try simp only at hi Dx hN ⊢
 by_cases hlt:i<ls.length
 ·have hrow:=hR.row i hlt;obtain⟨_,hrow2⟩:=Y6 hrow;have hw1:=X5 ((i:Int)+1);by_cases hk:(at' ls i).k=2
  ·have hp:Bv (at' ls i)=true:=by simp[Bv,hk]
   have Ck:ER ls nv (i+1)=(decide (1≤(at' ls i).i)&&decide ((at' ls i).i≤(nv / 2:Nat))&&FQ ls (Bc ls i) (at' ls i)):=by
    simp[ER,Dx,hp]
   have hes:Bc ls (i+1)=ED (Bc ls i) (at' ls i).i (at' ls i).o i:=by simp[Bc,hp]
   have hbad:ER ls nv (i+1)=false → ¬(nv % 2=0∧ER ls nv ls.length=true∧(Bc ls ls.length).length=nv / 2):=fun hb hq=>by
    rw[Z3r (show i+1≤ls.length by omega) hq.2.1]at hb; cases hb
   have hwq:=X5 ((nv:Int) / 2);by_cases hr1:(at' ls i).i<1
   ·simp[hlen,hlt,hrow2,Ad,hk,hr1];exact hno (hbad (by rw[Ck]; simp; omega)) [] _ (by simp)
   by_cases hr2:(nv:Int) / 2<(at' ls i).i
   ·simp[hlen,hlt,hrow2,Ad,hk,hr1,hwq,hr2];exact hno (hbad (by rw[Ck]; simp; omega)) [] _ (by simp)
   have hfa:=WE (at' ls i).i 0 (Bc ls i);have hvo:=ON ls i;cases hf:Dg (at' ls i).i (Bc ls i)with
   | none=>
    rw[hf]at hfa;simp only at hfa;have hfit:FQ ls (Bc ls i) (at' ls i)=true:=by unfold FQ; rw[hf]
    have hsn:=rT (at' ls i).i (L9 (at' ls i).o i (-1,-1)) 0 (Bc ls i);have hE:ED (Bc ls i) (at' ls i).i (at' ls i).o i=Bc ls i++[((at' ls i).i,L9 (at' ls i).o i (-1,-1))]:=by unfold ED; rw[hf]
    rw[hE]at hes;have hEl:(Bc ls (i+1)).length=(Bc ls i).length+1:=by rw[hes]; simp
    rw[← hes]at hsn;rw[Nat.zero_add]at hsn;rw[hfit]at Ck;have hok:ER ls nv (i+1)=true:=by rw[Ck]; simp; omega
    cases ho:(at' ls i).o with
    | true=>
     rw[ho]at hsn;simp only[L9,if_true,Ff]at hsn;simp[hlen,hlt,hrow2,Ad,hk,hr1,hwq,hr2,hfa,ho,hw1];exact hN (i+1) [] _ _ (by omega) ⟨by omega,hok⟩ (by simp[As,hA,hB,hC,hD,Y8,hsn,hEl])
    | false=>
     rw[ho]at hsn;simp only[L9,bF,if_false,Ff]at hsn;simp[hlen,hlt,hrow2,Ad,hk,hr1,hwq,hr2,hfa,ho,hw1];exact hN (i+1) [] _ _ (by omega) ⟨by omega,hok⟩ (by simp[As,hA,hB,hC,hD,Y8,hsn,hEl])
   | some pv=>
    obtain⟨p,v0,v1⟩:=pv;rw[hf]at hfa;simp only[Ff,Nat.zero_add]at hfa;have hmem:=List.mem_of_getElem? (Rf hf);obtain⟨hv0,hv1,hv2⟩:=hvo _ hmem;simp only at hv0 hv1 hv2;have hfit:FQ ls (Bc ls i) (at' ls i)=(decide (S4 (at' ls i).o (v0,v1)<0)&&decide ((at' ls (S4 (!(at' ls i).o) (v0,v1)).toNat).s=(at' ls i).s)):=by unfold FQ; rw[hf]
    have hst:=qN (at' ls i).i (L9 (at' ls i).o i (v0,v1)) 0 p (Bc ls i);have hE:ED (Bc ls i) (at' ls i).i (at' ls i).o i=(Bc ls i).set p ((at' ls i).i,L9 (at' ls i).o i (v0,v1)):=by unfold ED; rw[hf]
    rw[hE]at hes;have hEl:(Bc ls (i+1)).length=(Bc ls i).length:=by rw[hes]; simp
    rw[← hes]at hst;rw[Nat.zero_add]at hst;rw[hfit]at Ck;cases ho:(at' ls i).o with
    | true=>
     rw[ho]at Ck hst;simp only[S4,L9,Bool.not_true,bF,if_true,if_false,Ff]at Ck hst;by_cases hs1:0≤v1
     ·simp[hlen,hlt,hrow2,Ad,hk,hr1,hwq,hr2,hfa,ho,hs1];exact hno (hbad (by rw[Ck]; simp; omega)) [] _ (by simp)
     obtain⟨j,hj⟩:∃ j:Nat,v0=(j:Nat):=⟨v0.toNat,by omega⟩
     subst hj;have hjl:j<ls.length:=by omega
     have hrowj:=hR.row j hjl;obtain⟨_,hrowj2⟩:=Y6 hrowj;have hw0:IntKind.i64.wrap 0=0:=by decide
     by_cases hss:(at' ls j).s=(at' ls i).s
     ·have hok:ER ls nv (i+1)=true:=by rw[Ck]; simp[hss]; omega
      simp[hlen,hlt,hrow2,Ad,hk,hr1,hwq,hr2,hfa,ho,hs1,hw0,hjl,hrowj2,hss,hw1];exact hN (i+1) [] _ _ (by omega) ⟨by omega,hok⟩ (by simp[As,hA,hB,hC,hD,Y8,hst,hEl])
     ·simp[hlen,hlt,hrow2,Ad,hk,hr1,hwq,hr2,hfa,ho,hs1,hw0,hjl,hrowj2,hss];exact hno (hbad (by rw[Ck]; simp[hss])) [] _ (by simp)
    | false=>
     rw[ho]at Ck hst;simp only[S4,L9,Bool.not_false,bF,if_true,if_false,Ff]at Ck hst;by_cases hs1:0≤v0
     ·simp[hlen,hlt,hrow2,Ad,hk,hr1,hwq,hr2,hfa,ho,hs1];exact hno (hbad (by rw[Ck]; simp; omega)) [] _ (by simp)
     obtain⟨j,hj⟩:∃ j:Nat,v1=(j:Nat):=⟨v1.toNat,by omega⟩
     subst hj;have hjl:j<ls.length:=by omega
     have hrowj:=hR.row j hjl;obtain⟨_,hrowj2⟩:=Y6 hrowj;have hw0:IntKind.i64.wrap 1=1:=by decide
     by_cases hss:(at' ls j).s=(at' ls i).s
     ·have hok:ER ls nv (i+1)=true:=by rw[Ck]; simp[hss]; omega
      simp[hlen,hlt,hrow2,Ad,hk,hr1,hwq,hr2,hfa,ho,hs1,hw0,hjl,hrowj2,hss,hw1];exact hN (i+1) [] _ _ (by omega) ⟨by omega,hok⟩ (by simp[As,hA,hB,hC,hD,Y8,hst,hEl])
     ·simp[hlen,hlt,hrow2,Ad,hk,hr1,hwq,hr2,hfa,ho,hs1,hw0,hjl,hrowj2,hss];exact hno (hbad (by rw[Ck]; simp[hss])) [] _ (by simp)
  ·have hp:Bv (at' ls i)=false:=by simp[Bv,hk]
   have hes:Bc ls (i+1)=Bc ls i:=by simp[Bc,hp]
   simp[hlen,hlt,hrow2,Ad,hk,hw1];exact hN (i+1) [] _ _ (by omega) ⟨by omega,by simp[ER,Dx,hp]⟩ (by simp[As,hA,hB,hC,hD,Y8,hes])
 have he:i=ls.length:=by omega
 subst he;have hwq:=X5 ((nv:Int) / 2);by_cases hle:(Bc ls ls.length).length=nv / 2
 ·have hle2:(((Bc ls ls.length).length:Nat):Int)=(nv:Int) / 2:=by omega
  simp[Sd,hwq,hle];exact hyes ⟨hpar,Dx,hle⟩ [] _ (by simp[As,hA,hB,hC,hD,Y8,hle])
 ·have hle':¬(((Bc ls ls.length).length:Nat):Int)=(nv:Int) / 2:=by omega
  simp[Sd,hwq,hle'];exact hno (fun hh=>hle hh.2.2) [] _ (by simp)
end Go.Ab
