/- Part 32 of the proof: Rc. -/
import Derived.Test.YtfmnflhggplkmaaGreatDoorV22
import Derived.Test.YtfmnflhggplkmaaGreatDoorV31
set_option linter.all false
namespace Go.Known
open Go Go.AE Go.Proofs
open Go.Plain
attribute [local simp] wZ_skip wZ_region wZ_dregion wZ_seq wZ_condM wZ_block wZ_scope wZ_exit wZ_ret thenS_normal thenS_ret thenS_exit blockS_normal blockS_ret blockS_exit zops_nil' zops_one zops_gd pt_some pt_none ev_tmp ev_const ev_fn wt_some wt_bool wt_undef vo_some wo_some sd_mov sd_pick pk_true pk_false sd_box bx_some sd_alloc sd_build ag_some sd_mkSl mk_some sd_load sd_store sd_nilChk nl_ptr nl_iptr sd_bin sd_un sd_mkFunc sd_mkMap sd_fieldA ad_ptr ad_iptr sd_field fl_agg sd_ext ex_tuple sd_lenSl ln_some sl_nil sl_emp sl_sl sl_imm sd_idxA sd_makeSl sd_append sd_lenMap sd_lookup sd_mapUpd ix_sl ix_imm an_int Env.get argE SMem.at SMem.app SMem.get lookB eraseB AVal.cells AVal.one loadD rowAtD bn_add bn_sub bn_mul bn_quo bn_rem bn_eql bn_neq bn_lss bn_leq bn_gtr bn_geq bb_eql bb_neq unA storeD setRow fillA fillS calleeE aundef xdops_nil' xdops_one xdops_gd kp_nil kp_cons recF memN indF lookF retN oneK yieldE quietO SubR SubRE SubRB InjK InjA qOf lookN AVal.ren renL renLL ABlk.ren footWD footRD blkOf FT.indep apartL apart1 belowL subL in1 sd_idxAA
abbrev visV (v:Int×Int):AVal:=.agg [.int .i64 v.1,.int .i64 v.2]
def mkE:Nat→List Ent→List (AVal×AVal×Nat)
 | _,[]=>[]
 | j,(k,v) :: r=>(.int .i64 k,visV v,j) :: mkE (j+1) r
theorem mkE_length:∀ (j:Nat) (E:List Ent),(mkE j E).length=E.length
 | _,[]=>rfl
 | j,(k,v) :: r=>by simp only[mkE,List.length_cons,mkE_length (j+1) r]
theorem ren_mkE (q:Nat→Nat):∀ (j:Nat) (E:List Ent),renM q (mkE j E)=mkE j E
 | _,[]=>rfl
 | j,(k,v) :: r=>by
  have:=ren_mkE q (j+1) r
  simp only[renM,mkE,List.map_cons,AVal.ren,renL]at *
  rw[this]
theorem find_mkE (id:Int):∀ (j:Nat) (E:List Ent),findA .int (.int .i64 id) (mkE j E)=some (match fnd id E with
 | some (p,v)=>some (p,visV v,j+p)
 | none=>none)
 | _,[]=>rfl
 | j,(k,v) :: r=>by
  simp only[mkE,findA,keyEq,if_true,fnd]
  by_cases h:id=k
  ·subst h; simp
  ·have hb:(id == k)=false:=by simpa using h
   simp only[hb,if_neg h]
   rw[find_mkE id (j+1) r]
   cases fnd id r with
   | none=>rfl
   | some pw=>obtain ⟨p,w⟩:=pw; simp only; congr 4; omega
theorem mkE_set (k:Int) (v:Int×Int):∀ (j p:Nat) (E:List Ent),(mkE j E).set p (.int .i64 k,visV v,j+p)=mkE j (E.set p (k,v))
 | _,_,[]=>rfl
 | j,0,(k',v') :: r=>rfl
 | j,p+1,(k',v') :: r=>by
  simp only[mkE,List.set_cons_succ]
  have:=mkE_set k v (j+1) p r
  rw[show j+1+p=j+(p+1) by omega]at this
  rw[this]
theorem mkE_snoc (k:Int) (v:Int×Int):∀ (j:Nat) (E:List Ent),mkE j E++[(.int .i64 k,visV v,j+E.length)]=mkE j (E++[(k,v)])
 | _,[]=>rfl
 | j,(k',v') :: r=>by
  simp only[mkE,List.cons_append,List.length_cons]
  have:=mkE_snoc k v (j+1) r
  rw[show j+1+r.length=j+(r.length+1) by omega]at this
  rw[this]
abbrev dV2 (F n m:Nat) (rows:List (List AVal)):ABlk:=.cells 7 [[.int .i64 (F:Int),.imm rows,.sl 3 0 n,.sl 5 0 m,.sl 4 0 n,.map 6,.sl 2 0 (F+1)]]
abbrev dM (F n m:Nat) (rows A B C D:List (List AVal)) (E:List Ent):SMem:=
 ⟨[(1,dV2 F n m rows),(2,.cells 1 A),(3,.cells 1 B),(4,.cells 1 C),(5,.cells 1 D),(6,.map (mkE 0 E) E.length)],7⟩
set_option maxRecDepth 100000 in
set_option maxHeartbeats 4000000 in
theorem c134 (F:Nat) (ls:List Lt) (m:Nat) (h:ls.length≤1000) (A B C D:List (List AVal)) (hA:∀ q,renLL q A=A) (hB:∀ q,renLL q B=B) (hC:∀ q,renLL q C=C) (hD:∀ q,renLL q D=D) :
 Ctr Tryz.prog 100 [.ptr 1 0 0] ⟨[(1,dV1 F ls.length m (ls.map rowL)),(2,.cells 1 A),(3,.cells 1 B),(4,.cells 1 C),(5,.cells 1 D)],6⟩ fun r sm=>
  ((visits ls % 2=0∧crF ls (visits ls) ls.length=true∧(crE ls ls.length).length=visits ls / 2)∧r=.bool true∧sm=dM F ls.length m (ls.map rowL) A B C D (crE ls ls.length)) ∨
  (¬(visits ls % 2=0∧crF ls (visits ls) ls.length=true∧(crE ls ls.length).length=visits ls / 2)∧r=.bool false∧sm=⟨[],6⟩):=by
 refine ctr_P hm Tryz.func100 cf134 rfl rfl fun K hK=>?_
 have hR:=rows_of ls
 have hrr:∀ q,renLL q (ls.map rowL)=ls.map rowL:=fun q=>renLL_closed q _ (closed_rows ls)
 have hyes:(visits ls % 2=0∧crF ls (visits ls) ls.length=true∧(crE ls ls.length).length=visits ls / 2) → ∀ l m',SubR 6 l [(0,.bool true)] (dM F ls.length m (ls.map rowL) A B C D (crE ls ls.length)) [(0,.bool true)] m'→EndK 6 K (.bool true) m':=
  fun hr l m' hs=>endK (hK _ _ (.inl ⟨hr,rfl,rfl⟩)) l hs
 have hno:¬(visits ls % 2=0∧crF ls (visits ls) ls.length=true∧(crE ls ls.length).length=visits ls / 2) → ∀ l m',SubR 6 l [(0,.bool false)] ⟨[],6⟩ [(0,.bool false)] m'→EndK 6 K (.bool false) m':=
  fun hr l m' hs=>endK (hK _ _ (.inr ⟨hr,rfl,rfl⟩)) l hs
 clear hK
 have hc103:=c103 F ls h
 unfold cV at hc103
 generalize ls.map rowL=rows at *
 have hlen:=hR.len
 have hvl:visits ls≤ls.length:=cntP_le_one
 simp[-Int.natCast_add]
 refine SC_pure hc103 ?_
 have hve:cntP isX ls=visits ls:=rfl
 rw[hve]
 generalize hv:visits ls=nv at *
 by_cases hpar:nv % 2=0
 rotate_left
 ·have hpar':¬(((nv % 2:Nat):Int)=0):=by omega
  simp[-Int.natCast_emod,tmod2,hpar]
  exact hno (fun hh=>hpar hh.1) [] _ (by simp)
 have hpar':((nv % 2:Nat):Int)=0:=by omega
 simp[-Int.natCast_emod,tmod2,hpar,hlen]
 refine wZ_loop (α:=Nat) (fun i=>[(27,.int .i64 i),(26,.int .i64 ls.length),(25,.imm rows),(3,.int .i64 nv),(0,.ptr 1 0 0)])
  (fun i=>dM F ls.length m rows A B C D (crE ls i)) (fun i=>ls.length - i) (fun i=>i≤ls.length∧crF ls nv i=true) 0 [(6,17)] (by simp[renM,hrr,hA,hB,hC,hD,crE,mkE]) (by simp[crF]) ?_
 rintro i ⟨hi,hcr⟩ N hN
 try simp only at hi hcr hN ⊢
 by_cases hlt:i<ls.length
 ·have hrow:=hR.row i hlt
  obtain⟨_,hrow2⟩:=getE hrow
  have hw1:IntKind.i64.wrap ((i:Int)+1)=(i:Int)+1:=wrap64 (by omega) (by omega)
  by_cases hk:(at' ls i).k=2
  ·have hp:isX (at' ls i)=true:=by simp[isX,hk]
   have hrs:crF ls nv (i+1)=(decide (1≤(at' ls i).i)&&decide ((at' ls i).i≤(nv / 2:Nat))&&fitE ls (crE ls i) (at' ls i)):=by
    simp[crF,hcr,hp]
   have hes:crE ls (i+1)=updE (crE ls i) (at' ls i).i (at' ls i).o i:=by simp[crE,hp]
   have hbad:crF ls nv (i+1)=false → ¬(nv % 2=0∧crF ls nv ls.length=true∧(crE ls ls.length).length=nv / 2):=fun hb hq=>by
    rw[crF_le (show i+1≤ls.length by omega) hq.2.1]at hb; cases hb
   have hwq:IntKind.i64.wrap ((nv:Int) / 2)=(nv:Int) / 2:=wrap64 (by omega) (by omega)
   by_cases hr1:(at' ls i).i<1
   ·simp[hlen,hlt,hrow2,rowL,hk,hr1]
    exact hno (hbad (by rw[hrs]; simp; omega)) [] _ (by simp)
   by_cases hr2:(nv:Int) / 2<(at' ls i).i
   ·simp[hlen,hlt,hrow2,rowL,hk,hr1,hwq,hr2]
    exact hno (hbad (by rw[hrs]; simp; omega)) [] _ (by simp)
   have hfa:=find_mkE (at' ls i).i 0 (crE ls i)
   have hvo:=crE_ok ls i
   cases hf:fnd (at' ls i).i (crE ls i)with
   | none=>
    rw[hf]at hfa
    simp only at hfa
    have hfit:fitE ls (crE ls i) (at' ls i)=true:=by unfold fitE; rw[hf]
    have hsn:=mkE_snoc (at' ls i).i (putV (at' ls i).o i (-1,-1)) 0 (crE ls i)
    have hE:updE (crE ls i) (at' ls i).i (at' ls i).o i=crE ls i++[((at' ls i).i,putV (at' ls i).o i (-1,-1))]:=by unfold updE; rw[hf]
    rw[hE]at hes
    have hEl:(crE ls (i+1)).length=(crE ls i).length+1:=by rw[hes]; simp
    rw[← hes]at hsn
    rw[Nat.zero_add]at hsn
    rw[hfit]at hrs
    have hok:crF ls nv (i+1)=true:=by rw[hrs]; simp; omega
    cases ho:(at' ls i).o with
    | true=>
     rw[ho]at hsn
     simp only[putV,if_true,visV]at hsn
     simp[hlen,hlt,hrow2,rowL,hk,hr1,hwq,hr2,hfa,ho,hw1]
     exact hN (i+1) [] _ _ (by omega) ⟨by omega,hok⟩ (by simp[hrr,hA,hB,hC,hD,ren_mkE,hsn,hEl])
    | false=>
     rw[ho]at hsn
     simp only[putV,Bool.false_eq_true,if_false,visV]at hsn
     simp[hlen,hlt,hrow2,rowL,hk,hr1,hwq,hr2,hfa,ho,hw1]
     exact hN (i+1) [] _ _ (by omega) ⟨by omega,hok⟩ (by simp[hrr,hA,hB,hC,hD,ren_mkE,hsn,hEl])
   | some pv=>
    obtain⟨p,v0,v1⟩:=pv
    rw[hf]at hfa
    simp only[visV,Nat.zero_add]at hfa
    have hmem:=List.mem_of_getElem? (fnd_mem hf)
    obtain⟨hv0,hv1,hv2⟩:=hvo _ hmem
    simp only at hv0 hv1 hv2
    have hfit:fitE ls (crE ls i) (at' ls i)=(decide (slotV (at' ls i).o (v0,v1)<0)&&decide ((at' ls (slotV (!(at' ls i).o) (v0,v1)).toNat).s=(at' ls i).s)):=by unfold fitE; rw[hf]
    have hst:=mkE_set (at' ls i).i (putV (at' ls i).o i (v0,v1)) 0 p (crE ls i)
    have hE:updE (crE ls i) (at' ls i).i (at' ls i).o i=(crE ls i).set p ((at' ls i).i,putV (at' ls i).o i (v0,v1)):=by unfold updE; rw[hf]
    rw[hE]at hes
    have hEl:(crE ls (i+1)).length=(crE ls i).length:=by rw[hes]; simp
    rw[← hes]at hst
    rw[Nat.zero_add]at hst
    rw[hfit]at hrs
    cases ho:(at' ls i).o with
    | true=>
     rw[ho]at hrs hst
     simp only[slotV,putV,Bool.not_true,Bool.false_eq_true,if_true,if_false,visV]at hrs hst
     by_cases hs1:0≤v1
     ·simp[hlen,hlt,hrow2,rowL,hk,hr1,hwq,hr2,hfa,ho,hs1]
      exact hno (hbad (by rw[hrs]; simp; omega)) [] _ (by simp)
     obtain⟨j,hj⟩:∃ j:Nat,v0=(j:Nat):=⟨v0.toNat,by omega⟩
     subst hj
     have hjl:j<ls.length:=by omega
     have hrowj:=hR.row j hjl
     obtain⟨_,hrowj2⟩:=getE hrowj
     have hw0:IntKind.i64.wrap 0=0:=by decide
     by_cases hss:(at' ls j).s=(at' ls i).s
     ·have hok:crF ls nv (i+1)=true:=by rw[hrs]; simp[hss]; omega
      simp[hlen,hlt,hrow2,rowL,hk,hr1,hwq,hr2,hfa,ho,hs1,hw0,hjl,hrowj2,hss,hw1]
      exact hN (i+1) [] _ _ (by omega) ⟨by omega,hok⟩ (by simp[hrr,hA,hB,hC,hD,ren_mkE,hst,hEl])
     ·simp[hlen,hlt,hrow2,rowL,hk,hr1,hwq,hr2,hfa,ho,hs1,hw0,hjl,hrowj2,hss]
      exact hno (hbad (by rw[hrs]; simp[hss])) [] _ (by simp)
    | false=>
     rw[ho]at hrs hst
     simp only[slotV,putV,Bool.not_false,Bool.false_eq_true,if_true,if_false,visV]at hrs hst
     by_cases hs1:0≤v0
     ·simp[hlen,hlt,hrow2,rowL,hk,hr1,hwq,hr2,hfa,ho,hs1]
      exact hno (hbad (by rw[hrs]; simp; omega)) [] _ (by simp)
     obtain⟨j,hj⟩:∃ j:Nat,v1=(j:Nat):=⟨v1.toNat,by omega⟩
     subst hj
     have hjl:j<ls.length:=by omega
     have hrowj:=hR.row j hjl
     obtain⟨_,hrowj2⟩:=getE hrowj
     have hw0:IntKind.i64.wrap 1=1:=by decide
     by_cases hss:(at' ls j).s=(at' ls i).s
     ·have hok:crF ls nv (i+1)=true:=by rw[hrs]; simp[hss]; omega
      simp[hlen,hlt,hrow2,rowL,hk,hr1,hwq,hr2,hfa,ho,hs1,hw0,hjl,hrowj2,hss,hw1]
      exact hN (i+1) [] _ _ (by omega) ⟨by omega,hok⟩ (by simp[hrr,hA,hB,hC,hD,ren_mkE,hst,hEl])
     ·simp[hlen,hlt,hrow2,rowL,hk,hr1,hwq,hr2,hfa,ho,hs1,hw0,hjl,hrowj2,hss]
      exact hno (hbad (by rw[hrs]; simp[hss])) [] _ (by simp)
  ·have hp:isX (at' ls i)=false:=by simp[isX,hk]
   have hes:crE ls (i+1)=crE ls i:=by simp[crE,hp]
   simp[hlen,hlt,hrow2,rowL,hk,hw1]
   exact hN (i+1) [] _ _ (by omega) ⟨by omega,by simp[crF,hcr,hp]⟩ (by simp[hrr,hA,hB,hC,hD,ren_mkE,hes])
 have he:i=ls.length:=by omega
 subst he
 have hwq:IntKind.i64.wrap ((nv:Int) / 2)=(nv:Int) / 2:=wrap64 (by omega) (by omega)
 by_cases hle:(crE ls ls.length).length=nv / 2
 ·have hle2:(((crE ls ls.length).length:Nat):Int)=(nv:Int) / 2:=by omega
  simp[mkE_length,hwq,hle]
  exact hyes ⟨hpar,hcr,hle⟩ [] _ (by simp[hrr,hA,hB,hC,hD,ren_mkE,hle])
 ·have hle':¬(((crE ls ls.length).length:Nat):Int)=(nv:Int) / 2:=by omega
  simp[mkE_length,hwq,hle']
  exact hno (fun hh=>hle hh.2.2) [] _ (by simp)
end Go.Known
