/- Part 21 of the proof: Rc. -/
import Derived.Test.YtipeejpafgnjdaaGreatDoorG13
import Derived.Test.YtipeejpafgnjdaaGreatDoorG20
set_option linter.all false
namespace Go.Known
open Go Go.AE Go.Proofs
open Go.Plain
attribute [local simp] Zgn Zdn Zcw Zj0 Ze2 Ze7 Zex Zgo Zj6 Zam Za2 Zat Zai Zau Zap Zdw Ze6 Zg8 Zgz Zgt Zkn Zeu Zqe Zgm Zg5 Ze3 Zg3 Zg7 Zki Zgq Zg0 Zew Zkj Zg9 Ze4 Ze1 Zgv Zgx Zgp Zgu Zev Zdp Zkc Zgw Zkd Zqh Zdo Ze8 Zdy Zko Zhc Zey Zkh Zjs Ze5 Ze0 Zg4 Zjr Zjv Zql Zj2 Zgl Zdk Zdx Zdr Zdq Zdm Zp2 Zjp Zj9 Env.get argE SMem.at SMem.app SMem.get Zar Zb8 AVal.cells AVal.one Zc2 Zce Zj4 Zkb Zjt Zkl Zka Zkm Zke Zkf Zkp Zj3 Zjz Zjw Zjy unA Zb7 Zbp Zhz Zfl Zaq aundef Zct Zdv Zez Zj8 Zgs recF memN indF Zfm retN oneK Zbz Zd8 SubR SubRE SubRB InjK InjA qOf Znn AVal.ren renL Zak ABlk.ren Zbd Zbb Za5 FT.indep Zcl Zch Zdh subL in1 Zlk
abbrev visV (v:Int×Int):AVal:=.agg [.int .i64 v.1,.int .i64 v.2]
def mkE:Nat→List Ent→List (AVal×AVal×Nat)
 | _,[]=>[]
 | j,(k,v) :: r=>(.int .i64 k,visV v,j) :: mkE (j+1) r
theorem Zhe:∀ (j:Nat) (E:List Ent),(mkE j E).length=E.length
 | _,[]=>rfl
 | j,(k,v) :: r=>by simp only[mkE,List.length_cons,Zhe (j+1) r]
theorem Zaf (q:Nat→Nat):∀ (j:Nat) (E:List Ent),renM q (mkE j E)=mkE j E
 | _,[]=>rfl
 | j,(k,v) :: r=>by
  have:=Zaf q (j+1) r
  simp only[renM,mkE,List.map_cons,AVal.ren,renL]at *
  rw[this]
theorem Zn4 (id:Int):∀ (j:Nat) (E:List Ent),Zia .int (.int .i64 id) (mkE j E)=some (match fnd id E with
 | some (p,v)=>some (p,visV v,j+p)
 | none=>none)
 | _,[]=>rfl
 | j,(k,v) :: r=>by
  simp only[mkE,Zia,Zlw,if_true,fnd]
  by_cases h:id=k
  ·subst h; simp
  ·have hb:(id == k)=false:=by simpa using h
   simp only[hb,if_neg h]
   rw[Zn4 id (j+1) r]
   cases fnd id r with
   | none=>rfl
   | some pw=>obtain ⟨p,w⟩:=pw; simp only; congr 4; omega
theorem Z1i (k:Int) (v:Int×Int):∀ (j p:Nat) (E:List Ent),(mkE j E).set p (.int .i64 k,visV v,j+p)=mkE j (E.set p (k,v))
 | _,_,[]=>rfl
 | j,0,(k',v') :: r=>rfl
 | j,p+1,(k',v') :: r=>by
  simp only[mkE,List.set_cons_succ]
  have:=Z1i k v (j+1) p r
  rw[show j+1+p=j+(p+1) by omega]at this
  rw[this]
theorem Zxu (k:Int) (v:Int×Int):∀ (j:Nat) (E:List Ent),mkE j E++[(.int .i64 k,visV v,j+E.length)]=mkE j (E++[(k,v)])
 | _,[]=>rfl
 | j,(k',v') :: r=>by
  simp only[mkE,List.cons_append,List.length_cons]
  have:=Zxu k v (j+1) r
  rw[show j+1+r.length=j+(r.length+1) by omega]at this
  rw[this]
abbrev dV2 (F n m:Nat) (rows:List (List AVal)):ABlk:=.cells 7 [[.int .i64 (F:Int),.imm rows,.sl 3 0 n,.sl 5 0 m,.sl 4 0 n,.map 6,.sl 2 0 (F+1)]]
abbrev dM (F n m:Nat) (rows A B C D:List (List AVal)) (E:List Ent):SMem:=
 ⟨[(1,dV2 F n m rows),(2,.cells 1 A),(3,.cells 1 B),(4,.cells 1 C),(5,.cells 1 D),(6,.map (mkE 0 E) E.length)],7⟩
set_option maxRecDepth 100000 in
set_option maxHeartbeats 4000000 in
theorem c134 (F:Nat) (ls:List Lt) (m:Nat) (h:ls.length≤1000) (A B C D:List (List AVal)) (hA:∀ q,Zak q A=A) (hB:∀ q,Zak q B=B) (hC:∀ q,Zak q C=C) (hD:∀ q,Zak q D=D) :
 Ctr Tryz.prog 170 [.ptr 1 0 0] ⟨[(1,dV1 F ls.length m (ls.map rowL)),(2,.cells 1 A),(3,.cells 1 B),(4,.cells 1 C),(5,.cells 1 D)],6⟩ fun r sm=>
  ((Zax ls % 2=0∧crF ls (Zax ls) ls.length=true∧(crE ls ls.length).length=Zax ls / 2)∧r=.bool true∧sm=dM F ls.length m (ls.map rowL) A B C D (crE ls ls.length)) ∨
  (¬(Zax ls % 2=0∧crF ls (Zax ls) ls.length=true∧(crE ls ls.length).length=Zax ls / 2)∧r=.bool false∧sm=⟨[],6⟩):=by
 refine Zlc hm Tryz.func170 cf134 rfl rfl fun K hK=>?_
 have hR:=Zb4 ls
 have hrr:∀ q,Zak q (ls.map rowL)=ls.map rowL:=fun q=>Zad q _ (Zac ls)
 have hyes:(Zax ls % 2=0∧crF ls (Zax ls) ls.length=true∧(crE ls ls.length).length=Zax ls / 2) → ∀ l m',SubR 6 l [(0,.bool true)] (dM F ls.length m (ls.map rowL) A B C D (crE ls ls.length)) [(0,.bool true)] m'→EndK 6 K (.bool true) m':=
  fun hr l m' hs=>endK (hK _ _ (.inl ⟨hr,rfl,rfl⟩)) l hs
 have hno:¬(Zax ls % 2=0∧crF ls (Zax ls) ls.length=true∧(crE ls ls.length).length=Zax ls / 2) → ∀ l m',SubR 6 l [(0,.bool false)] ⟨[],6⟩ [(0,.bool false)] m'→EndK 6 K (.bool false) m':=
  fun hr l m' hs=>endK (hK _ _ (.inr ⟨hr,rfl,rfl⟩)) l hs
 clear hK
 have hc103:=c103 F ls h
 unfold cV at hc103
 generalize ls.map rowL=rows at *
 have hlen:=hR.len
 have hvl:Zax ls≤ls.length:=Za4
 simp[-Int.natCast_add]
 refine Zbc hc103 ?_
 have hve:cntP isX ls=Zax ls:=rfl
 rw[hve]
 generalize hv:Zax ls=nv at *
 by_cases hpar:nv % 2=0
 rotate_left
 ·have hpar':¬(((nv % 2:Nat):Int)=0):=by omega
  simp[-Int.natCast_emod,Zs6,hpar,hpar']
  exact hno (fun hh=>hpar hh.1) [] _ (by simp)
 have hpar':((nv % 2:Nat):Int)=0:=by omega
 simp[-Int.natCast_emod,Zs6,hpar,hpar',hlen]
 refine Zbg (α:=Nat) (fun i=>[(27,.int .i64 i),(26,.int .i64 ls.length),(25,.imm rows),(3,.int .i64 nv),(0,.ptr 1 0 0)])
  (fun i=>dM F ls.length m rows A B C D (crE ls i)) (fun i=>ls.length - i) (fun i=>i≤ls.length∧crF ls nv i=true) 0 [(6,17)] (by simp[renM,hrr,hA,hB,hC,hD,crE,mkE]) (by simp[crF]) ?_
 rintro i ⟨hi,hcr⟩ N hN
 try simp only at hi hcr hN ⊢
 by_cases hlt:i<ls.length
 ·have hrow:=hR.row i hlt
  obtain⟨_,hrow2⟩:=getE hrow
  have hw1:IntKind.i64.wrap ((i:Int)+1)=(i:Int)+1:=Zae (by omega) (by omega)
  by_cases hk:(at' ls i).k=2
  ·have hp:isX (at' ls i)=true:=by simp[isX,hk]
   have hrs:crF ls nv (i+1)=(decide (1≤(at' ls i).i)&&decide ((at' ls i).i≤(nv / 2:Nat))&&fitE ls (crE ls i) (at' ls i)):=by
    simp[crF,hcr,hp]
   have hes:crE ls (i+1)=updE (crE ls i) (at' ls i).i (at' ls i).o i:=by simp[crE,hp]
   have hbad:crF ls nv (i+1)=false → ¬(nv % 2=0∧crF ls nv ls.length=true∧(crE ls ls.length).length=nv / 2):=fun hb hq=>by
    rw[crF_le (show i+1≤ls.length by omega) hq.2.1]at hb; cases hb
   have hwq:IntKind.i64.wrap ((nv:Int) / 2)=(nv:Int) / 2:=Zae (by omega) (by omega)
   by_cases hr1:(at' ls i).i<1
   ·simp[hlen,hlt,hrow,hrow2,rowL,hk,hr1]
    exact hno (hbad (by rw[hrs]; simp; omega)) [] _ (by simp)
   by_cases hr2:(nv:Int) / 2<(at' ls i).i
   ·simp[hlen,hlt,hrow,hrow2,rowL,hk,hr1,Zk9,hwq,hr2]
    exact hno (hbad (by rw[hrs]; simp; omega)) [] _ (by simp)
   have hfa:=Zn4 (at' ls i).i 0 (crE ls i)
   have hvo:=Zpx ls i
   cases hf:fnd (at' ls i).i (crE ls i)with
   | none=>
    rw[hf]at hfa
    simp only at hfa
    have hfit:fitE ls (crE ls i) (at' ls i)=true:=by unfold fitE; rw[hf]
    have hsn:=Zxu (at' ls i).i (putV (at' ls i).o i (-1,-1)) 0 (crE ls i)
    have hE:updE (crE ls i) (at' ls i).i (at' ls i).o i=crE ls i++[((at' ls i).i,putV (at' ls i).o i (-1,-1))]:=by unfold updE; rw[hf]
    rw[hE]at hes
    have hEl:(crE ls (i+1)).length=(crE ls i).length+1:=by rw[hes]; simp
    rw[← hes]at hsn
    rw[Nat.zero_add]at hsn
    rw[hfit]at hrs
    have hok:crF ls nv (i+1)=true:=by rw[hrs]; simp; omega
    cases ho:(at' ls i).o with
    | true=>
     rw[ho]at hsn
     simp only[putV,if_true,visV]at hsn
     simp[hlen,hlt,hrow,hrow2,rowL,hk,hr1,Zk9,hwq,hr2,hfa,ho,hw1]
     exact hN (i+1) [] _ _ (by omega) ⟨by omega,hok⟩ (by simp[hrr,hA,hB,hC,hD,Zaf,hsn,hEl])
    | false=>
     rw[ho]at hsn
     simp only[putV,Bool.false_eq_true,if_false,visV]at hsn
     simp[hlen,hlt,hrow,hrow2,rowL,hk,hr1,Zk9,hwq,hr2,hfa,ho,hw1]
     exact hN (i+1) [] _ _ (by omega) ⟨by omega,hok⟩ (by simp[hrr,hA,hB,hC,hD,Zaf,hsn,hEl])
   | some pv=>
    obtain⟨p,v0,v1⟩:=pv
    rw[hf]at hfa
    simp only[visV,Nat.zero_add]at hfa
    have hmem:=List.mem_of_getElem? (Zna hf)
    obtain⟨hv0,hv1,hv2⟩:=hvo _ hmem
    simp only at hv0 hv1 hv2
    have hfit:fitE ls (crE ls i) (at' ls i)=(decide (Zc6 (at' ls i).o (v0,v1)<0)&&decide ((at' ls (Zc6 (!(at' ls i).o) (v0,v1)).toNat).s=(at' ls i).s)):=by unfold fitE; rw[hf]
    have hst:=Z1i (at' ls i).i (putV (at' ls i).o i (v0,v1)) 0 p (crE ls i)
    have hE:updE (crE ls i) (at' ls i).i (at' ls i).o i=(crE ls i).set p ((at' ls i).i,putV (at' ls i).o i (v0,v1)):=by unfold updE; rw[hf]
    rw[hE]at hes
    have hEl:(crE ls (i+1)).length=(crE ls i).length:=by rw[hes]; simp
    rw[← hes]at hst
    rw[Nat.zero_add]at hst
    rw[hfit]at hrs
    cases ho:(at' ls i).o with
    | true=>
     rw[ho]at hrs hst
     simp only[Zc6,putV,Bool.not_true,Bool.false_eq_true,if_true,if_false,visV]at hrs hst
     by_cases hs1:0≤v1
     ·simp[hlen,hlt,hrow,hrow2,rowL,hk,hr1,Zk9,hwq,hr2,hfa,ho,hs1]
      exact hno (hbad (by rw[hrs]; simp; omega)) [] _ (by simp)
     obtain⟨j,hj⟩:∃ j:Nat,v0=(j:Nat):=⟨v0.toNat,by omega⟩
     subst hj
     have hjl:j<ls.length:=by omega
     have hrowj:=hR.row j hjl
     obtain⟨_,hrowj2⟩:=getE hrowj
     have hw0:IntKind.i64.wrap 0=0:=by decide
     by_cases hss:(at' ls j).s=(at' ls i).s
     ·have hok:crF ls nv (i+1)=true:=by rw[hrs]; simp[hss]; omega
      simp[hlen,hlt,hrow,hrow2,rowL,hk,hr1,Zk9,hwq,hr2,hfa,ho,hs1,hw0,hjl,hrowj,hrowj2,hss,hw1]
      exact hN (i+1) [] _ _ (by omega) ⟨by omega,hok⟩ (by simp[hrr,hA,hB,hC,hD,Zaf,hst,hEl])
     ·simp[hlen,hlt,hrow,hrow2,rowL,hk,hr1,Zk9,hwq,hr2,hfa,ho,hs1,hw0,hjl,hrowj,hrowj2,hss]
      exact hno (hbad (by rw[hrs]; simp[hss])) [] _ (by simp)
    | false=>
     rw[ho]at hrs hst
     simp only[Zc6,putV,Bool.not_false,Bool.false_eq_true,if_true,if_false,visV]at hrs hst
     by_cases hs1:0≤v0
     ·simp[hlen,hlt,hrow,hrow2,rowL,hk,hr1,Zk9,hwq,hr2,hfa,ho,hs1]
      exact hno (hbad (by rw[hrs]; simp; omega)) [] _ (by simp)
     obtain⟨j,hj⟩:∃ j:Nat,v1=(j:Nat):=⟨v1.toNat,by omega⟩
     subst hj
     have hjl:j<ls.length:=by omega
     have hrowj:=hR.row j hjl
     obtain⟨_,hrowj2⟩:=getE hrowj
     have hw0:IntKind.i64.wrap 1=1:=by decide
     by_cases hss:(at' ls j).s=(at' ls i).s
     ·have hok:crF ls nv (i+1)=true:=by rw[hrs]; simp[hss]; omega
      simp[hlen,hlt,hrow,hrow2,rowL,hk,hr1,Zk9,hwq,hr2,hfa,ho,hs1,hw0,hjl,hrowj,hrowj2,hss,hw1]
      exact hN (i+1) [] _ _ (by omega) ⟨by omega,hok⟩ (by simp[hrr,hA,hB,hC,hD,Zaf,hst,hEl])
     ·simp[hlen,hlt,hrow,hrow2,rowL,hk,hr1,Zk9,hwq,hr2,hfa,ho,hs1,hw0,hjl,hrowj,hrowj2,hss]
      exact hno (hbad (by rw[hrs]; simp[hss])) [] _ (by simp)
  ·have hp:isX (at' ls i)=false:=by simp[isX,hk]
   have hes:crE ls (i+1)=crE ls i:=by simp[crE,hp]
   simp[hlen,hlt,hrow,hrow2,rowL,hk,hw1]
   exact hN (i+1) [] _ _ (by omega) ⟨by omega,by simp[crF,hcr,hp]⟩ (by simp[hrr,hA,hB,hC,hD,Zaf,hes])
 have he:i=ls.length:=by omega
 subst he
 have hwq:IntKind.i64.wrap ((nv:Int) / 2)=(nv:Int) / 2:=Zae (by omega) (by omega)
 by_cases hle:(crE ls ls.length).length=nv / 2
 ·have hle2:(((crE ls ls.length).length:Nat):Int)=(nv:Int) / 2:=by omega
  simp[hlen,Zhe,Zk9,hwq,hle,hle2]
  exact hyes ⟨hpar,hcr,hle⟩ [] _ (by simp[hrr,hA,hB,hC,hD,Zaf,hle])
 ·have hle':¬(((crE ls ls.length).length:Nat):Int)=(nv:Int) / 2:=by omega
  simp[hlen,Zhe,Zk9,hwq,hle']
  exact hno (fun hh=>hle hh.2.2) [] _ (by simp)
end Go.Known
