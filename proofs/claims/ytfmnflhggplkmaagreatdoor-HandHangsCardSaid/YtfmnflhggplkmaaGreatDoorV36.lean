/- Part 36 of the proof: Re, Rf, Rs. -/
import Derived.Test.YtfmnflhggplkmaaGreatDoorV27
import Derived.Test.YtfmnflhggplkmaaGreatDoorV33
import Derived.Test.YtfmnflhggplkmaaGreatDoorV34
import Derived.Test.YtfmnflhggplkmaaGreatDoorV35
set_option linter.all false
section
namespace Go.Known
open Go Go.AE Go.Proofs
open Go.Plain
attribute [local simp] wZ_skip wZ_region wZ_dregion wZ_seq wZ_condM wZ_block wZ_scope wZ_exit wZ_ret thenS_normal thenS_ret thenS_exit blockS_normal blockS_ret blockS_exit zops_nil' zops_one zops_gd pt_some pt_none ev_tmp ev_const ev_fn wt_some wt_bool wt_undef vo_some wo_some sd_mov sd_pick pk_true pk_false sd_box bx_some sd_alloc sd_build ag_some sd_mkSl mk_some sd_load sd_store sd_nilChk nl_ptr nl_iptr sd_bin sd_un sd_mkFunc sd_mkMap sd_fieldA ad_ptr ad_iptr sd_field fl_agg sd_ext ex_tuple sd_lenSl ln_some sl_nil sl_emp sl_sl sl_imm sd_idxA sd_makeSl sd_append sd_lenMap sd_lookup sd_mapUpd ix_sl ix_imm an_int Env.get argE SMem.at SMem.app SMem.get lookB eraseB AVal.cells AVal.one loadD rowAtD bn_add bn_sub bn_mul bn_quo bn_rem bn_eql bn_neq bn_lss bn_leq bn_gtr bn_geq bb_eql bb_neq unA storeD setRow fillA fillS calleeE aundef xdops_nil' xdops_one xdops_gd kp_nil kp_cons recF memN indF lookF retN oneK yieldE quietO SubR SubRE SubRB InjK InjA qOf lookN AVal.ren renL renLL ABlk.ren renB lessB qKeys
theorem cyc_bound (T:Nat→Nat) (N:Nat):∀ (k:Nat) (seen:List Bool),cyc T N k seen≤k
 | 0,_=>Nat.le_refl _
 | k+1,seen=>by
  simp only[cyc]
  split
  ·have:=cyc_bound T N k seen; omega
  ·have:=cyc_bound T N k (Plain.mark T (N+1) seen (N - (k+1))); omega
set_option maxRecDepth 100000 in
set_option maxHeartbeats 4000000 in
theorem c135 (F:Nat) (ls:List Lt) (E:List Ent) (hg:Filled ls E) (hT:∀ d,d<2*ls.length+2*(axis ls).length→turnN ls (axis ls) d<2*ls.length+2*(axis ls).length) (hE:E.length≤1000) :
 Ctr Tryz.prog 101 [.ptr 1 0 0] (dF F ls (ls.map rowL) E) fun r m=>r=.bool (decide (cycles (turnN ls (axis ls)) (2*ls.length+2*(axis ls).length)=(axis ls).length+E.length+2))∧m=dF F ls (ls.map rowL) E:=by
 refine ctr_1 hm Tryz.func101 cf135 rfl rfl fun K hK=>?_
 have hR:=rows_of ls
 have h:=hg.small
 have h105:=fun d hd=>c105 F ls E hg d hd
 unfold dF dM dV2 at *
 have hrr:∀ q,renLL q (ls.map rowL)=ls.map rowL:=fun q=>renLL_closed q _ (closed_rows ls)
 generalize ls.map rowL=rows at *
 have hlen:=hR.len
 have hm0:=hg.some
 have hml:(axis ls).length≤ls.length:=by rw[axis_length]; exact cntP_le_one
 generalize hBe:bls (fillN ls.length ls.length (downV ls) false)=B at *
 generalize hCe:nums (fillN ls.length ls.length (placeV ls) 0)=C at *
 generalize hAe:nums (axis ls)=A at *
 have hrA:∀ q,renLL q A=A:=fun q=>by rw[← hAe]; exact ren_nums q _
 have hrB:∀ q,renLL q B=B:=fun q=>by rw[← hBe]; exact ren_bls q _
 have hrC:∀ q,renLL q C=C:=fun q=>by rw[← hCe]; exact ren_nums q _
 generalize (axis ls).length=m at *
 generalize turnN ls (axis ls)=T at *
 obtain⟨N0,hN0⟩:∃ N0,2*ls.length+2*m=N0:=⟨_,rfl⟩
 have hw1:IntKind.i64.wrap (2*(ls.length:Int))=2*(ls.length:Int):=wrap64 (by omega) (by omega)
 have hw2:IntKind.i64.wrap (2*(m:Int))=2*(m:Int):=wrap64 (by omega) (by omega)
 have hw3:IntKind.i64.wrap (2*(ls.length:Int)+2*(m:Int))=(N0:Int):=by rw[wrap64 (by omega) (by omega)]; omega
 have hN1:N0≤1048576:=by omega
 have hNr:N0≤4000:=by omega
 rw[hN0]at hT h105
 simp only[hN0]at hK
 obtain⟨S0,hS0⟩:∃ S0,List.replicate N0 false=S0:=⟨_,rfl⟩
 have e1:List.replicate N0 [AVal.bool false]=bls S0:=by rw[← hS0,bls_rep]
 have hS0l:S0.length=N0:=by rw[← hS0]; simp
 simp[room,hlen,hw1,hw2,hw3,hN1,e1]
 refine wZ_loop (α:=Nat×Nat×List Bool) (fun a=>[(25,.int .i64 a.1),(24,.int .i64 N0),(5,.int .i64 a.2.1),(4,.sl 7 0 N0),(0,.ptr 1 0 0)])
  (fun a=>⟨[(1,.cells 7 [[.int .i64 (F:Int),.imm rows,.sl 3 0 ls.length,.sl 5 0 m,.sl 4 0 ls.length,.map 6,.sl 2 0 (F+1)]]),(2,.cells 1 (nums (cnts F ls))),(3,.cells 1 B),(4,.cells 1 C),(5,.cells 1 A),(6,.map (mkE 0 E) E.length),(7,.cells 1 (bls a.2.2))],8⟩)
  (fun a=>N0 - a.1) (fun a=>a.1≤N0∧a.2.2.length=N0∧a.2.1+cyc T N0 (N0 - a.1) a.2.2=cycles T N0) (0,0,S0) [(7,24)] (by simp[hrr,hrA,hrB,hrC,ren_mkE,ren_nums,ren_bls]) ⟨by simp,hS0l,by simp[cycles,hS0]⟩ ?_
 rintro⟨d,c,seen⟩ ⟨hd,hs,hcyc⟩ N hN
 simp only at hd hs hcyc hN ⊢
 have hcl:c≤N0:=by
  have:=cyc_bound T N0 N0 (List.replicate N0 false)
  unfold cycles at hcyc
  omega
 by_cases hlt:d<N0
 ·have hwd:IntKind.i64.wrap ((d:Int)+1)=(d:Int)+1:=wrap64 (by omega) (by omega)
  have hwc:IntKind.i64.wrap ((c:Int)+1)=(c:Int)+1:=wrap64 (by omega) (by omega)
  obtain⟨b,hb⟩:∃ b,seen[d]? = some b:=⟨_,List.getElem?_eq_getElem (by omega)⟩
  have hbg:=bls_get hb
  have hbl:(bls seen).length=N0:=by rw[bls,List.length_map,hs]
  cases b with
  | true=>
   rw[cyc_seen hlt hb]at hcyc
   generalize hSe:bls seen=S at *
   obtain⟨_,hbg2⟩:=getE hbg
   simp[hlt,hbg2,hbl,hwd]
   exact hN (d+1,c,seen) [] _ _ (by simp; omega) ⟨by simp; omega,hs,hcyc⟩ (by simp[hrr,hrA,hrB,hrC,ren_mkE,ren_nums,ren_bls,hSe.symm])
  | false=>
   rw[cyc_new hlt hb]at hcyc
   have hbg':=hbg
   generalize hSe:bls seen=S at *
   obtain⟨_,hbg2⟩:=getE hbg
   simp[hlt,hbg2,hbl,hwc]
   subst hSe
   refine wZ_loop (α:=Nat×List Bool×Nat) (fun a=>[(7,.int .i64 a.1),(5,.int .i64 ((c:Int)+1)),(25,.int .i64 d),(24,.int .i64 N0),(4,.sl 7 0 N0),(0,.ptr 1 0 0)])
    (fun a=>⟨[(1,.cells 7 [[.int .i64 (F:Int),.imm rows,.sl 3 0 ls.length,.sl 5 0 m,.sl 4 0 ls.length,.map 6,.sl 2 0 (F+1)]]),(2,.cells 1 (nums (cnts F ls))),(3,.cells 1 B),(4,.cells 1 C),(5,.cells 1 A),(6,.map (mkE 0 E) E.length),(7,.cells 1 (bls a.2.1))],8⟩)
    (fun a=>unseen a.2.1) (fun a=>a.1<N0∧a.2.1.length=N0∧unseen a.2.1≤a.2.2∧Plain.mark T (N0+1) seen d=Plain.mark T (a.2.2+1) a.2.1 a.1) (d,seen,N0) [] (by simp[hrr,hrA,hrB,hrC,ren_mkE,ren_nums,ren_bls]) ⟨hlt,hs,by have:=unseen_le (l:=seen); simp; omega,rfl⟩ ?_
   rintro⟨x,sn,fu⟩ ⟨hx,hsn,hfu,hmark⟩ N2 hN2
   simp only at hx hsn hfu hmark hN2 ⊢
   obtain⟨b2,hb2⟩:∃ b2,sn[x]? = some b2:=⟨_,List.getElem?_eq_getElem (by omega)⟩
   have hb2g:=bls_get hb2
   have hb2l:(bls sn).length=N0:=by rw[bls,List.length_map,hsn]
   cases b2 with
   | true=>
    rw[mark_seen hb2]at hmark
    generalize hSe:bls sn=S at *
    obtain⟨_,hb2g2⟩:=getE hb2g
    simp[hx,hb2g2,hb2l,hwd]
    subst hSe
    refine hN (d+1,c+1,sn) [] _ _ (by simp; omega) ⟨by simp; omega,hsn,?_⟩ (by simp[hrr,hrA,hrB,hrC,ren_mkE,ren_nums,ren_bls])
    simp only
    rw[hmark]at hcyc
    rw[← hcyc,Nat.add_assoc]
   | false=>
    rw[mark_new hb2]at hmark
    have hun:=unseen_set hb2
    have hset:=bls_set sn x true
    have hTx:=hT x hx
    have hsn1:(sn.set x true).length=N0:=by simpa using hsn
    generalize sn.set x true=sn1 at *
    generalize hSe:bls sn=S at *
    obtain⟨_,hb2g2⟩:=getE hb2g
    simp[hx,hb2g2,hb2l,hset]
    refine SC_ctr (h105 x hx) [] (by simp) (by simp[hrr,hrA,hrB,hrC,ren_mkE,ren_nums]) (by simp) ?_
    rintro r sm ⟨rfl,rfl⟩
    simp[hrr,hrA,hrB,hrC,ren_mkE,ren_nums]
    obtain⟨fu',hfe⟩:∃ fu',fu=fu'+1:=⟨fu - 1,by omega⟩
    subst hfe
    exact hN2 (T x,sn1,fu') [] _ _ (by simp; omega) ⟨hTx,hsn1,by simp; omega,hmark⟩ (by simp[hrr,hrA,hrB,hrC,ren_mkE,ren_nums,ren_bls])
 have he:d=N0:=by omega
 subst he
 rw[Nat.sub_self]at hcyc
 simp only[cyc,Nat.add_zero]at hcyc
 have hw4:IntKind.i64.wrap ((m:Int)+(E.length:Int))=(m:Int)+(E.length:Int):=wrap64 (by omega) (by omega)
 have hw5:IntKind.i64.wrap ((m:Int)+(E.length:Int)+2)=(m:Int)+(E.length:Int)+2:=wrap64 (by omega) (by omega)
 by_cases hc:c=m+E.length+2
 ·have hc':(c:Int)=(m:Int)+(E.length:Int)+2:=by omega
  simp[mkE_length,hw4,hw5,hc']
  refine endK hK [] ?_
  rw[← hcyc]
  simp[hrr,hrA,hrB,hrC,ren_mkE,ren_nums,hc]
 ·have hc':¬(c:Int)=(m:Int)+(E.length:Int)+2:=by omega
  simp[mkE_length,hw4,hw5,hc']
  refine endK hK [] ?_
  rw[← hcyc]
  simp[hrr,hrA,hrB,hrC,ren_mkE,ren_nums,hc]
end Go.Known
end
section
namespace Go.Known
open Go Go.AE Go.Proofs
open Go.Plain
attribute [local simp] wZ_skip wZ_region wZ_dregion wZ_seq wZ_condM wZ_block wZ_scope wZ_exit wZ_ret thenS_normal thenS_ret thenS_exit blockS_normal blockS_ret blockS_exit zops_nil' zops_one zops_gd pt_some pt_none ev_tmp ev_const ev_fn wt_some wt_bool wt_undef vo_some wo_some sd_mov sd_pick pk_true pk_false sd_box bx_some sd_alloc sd_build ag_some sd_mkSl mk_some sd_load sd_store sd_nilChk nl_ptr nl_iptr sd_bin sd_un sd_mkFunc sd_mkMap sd_fieldA ad_ptr ad_iptr sd_field fl_agg sd_ext ex_tuple sd_lenSl ln_some sl_nil sl_emp sl_sl sl_imm sd_idxA sd_makeSl sd_append sd_lenMap sd_lookup sd_mapUpd ix_sl ix_imm an_int Env.get argE SMem.at SMem.app SMem.get lookB eraseB AVal.cells AVal.one loadD rowAtD bn_add bn_sub bn_mul bn_quo bn_rem bn_eql bn_neq bn_lss bn_leq bn_gtr bn_geq bb_eql bb_neq unA storeD setRow fillA fillS calleeE aundef xdops_nil' xdops_one xdops_gd kp_nil kp_cons recF memN indF lookF retN oneK yieldE quietO SubR SubRE SubRB InjK InjA qOf lookN AVal.ren renL renLL ABlk.ren renB lessB qKeys
def OkAll (F:Nat) (ls:List Lt):Prop:=
 ls.all (okC F)=true∧(at' ls 0).k=1∧passes ls % 2=0∧rkF ls (passes ls) ls.length=true∧CrOk ls∧cycles (turnN ls (axis ls)) (2*ls.length+2*(axis ls).length)=(axis ls).length+(crE ls ls.length).length+2
def stg (F:Nat) (ls:List Lt) (rows:List (List AVal)):Nat→List (Nat×ABlk)
 | 0|1|2=>[(1,dV0 F rows)]
 | 3=>[(1,dV1 F ls.length (axis ls).length rows),(2,.cells 1 (nums (cnts F ls))),(3,.cells 1 (bls (fillN ls.length ls.length (downV ls) false))),(4,.cells 1 (nums (fillN ls.length ls.length (placeV ls) 0))),(5,.cells 1 (nums (axis ls)))]
 | _=>[(1,dV2 F ls.length (axis ls).length rows),(2,.cells 1 (nums (cnts F ls))),(3,.cells 1 (bls (fillN ls.length ls.length (downV ls) false))),(4,.cells 1 (nums (fillN ls.length ls.length (placeV ls) 0))),(5,.cells 1 (nums (axis ls))),(6,.map (mkE 0 (crE ls ls.length)) (crE ls ls.length).length)]
abbrev clos:ABlk:=.cells 1 [[.func (.func 97) [.ptr 1 0 0] []],[.func (.func 98) [.ptr 1 0 0] []],[.func (.func 99) [.ptr 1 0 0] []],[.func (.func 100) [.ptr 1 0 0] []],[.func (.func 101) [.ptr 1 0 0] []]]
set_option maxRecDepth 100000 in
set_option maxHeartbeats 4000000 in
theorem c104 (F:Nat) (ls:List Lt) (h:ls.length≤1000) (hF:F≤1000) :
 Ctr Tryz.prog 74 [.ptr 1 0 0] (dM1 F (ls.map rowL)) fun r m=>(ls=[]∧r=.bool true∧m=dM1 F (ls.map rowL))∨(ls≠[]∧OkAll F ls∧r=.bool true∧m=dF F ls (ls.map rowL) (crE ls ls.length))∨(ls≠[] ∧ ¬OkAll F ls∧r=.bool false∧m=⟨[],2⟩):=by
 refine ctr_P hm Tryz.func74 cf104 rfl rfl fun K hK=>?_
 have hR:=rows_of ls
 have h131:=c131 F ls h
 have h132:=c132 F ls h
 have h133:=c133 F ls h hF
 have h134:=fun A B C D=>c134 F ls (axis ls).length h A B C D
 have h135:=c135 F ls (crE ls ls.length)
 have hrr:∀ q,renLL q (ls.map rowL)=ls.map rowL:=fun q=>renLL_closed q _ (closed_rows ls)
 generalize ls.map rowL=rows at *
 have hlen:=hR.len
 by_cases h0:ls=[]
 ·have hr0:rows=[]:=List.length_eq_zero_iff.1 (by rw[hlen,h0]; rfl)
  have hK0:=hK _ _ (.inl ⟨h0,rfl,rfl⟩)
  subst hr0
  simp
  exact endK hK0 [] (by simp)
 have hpos:0<ls.length:=List.length_pos_iff.2 h0
 have hn0:¬rows=[]:=fun e=>by rw[e]at hlen; simp at hlen; omega
 have hyes:OkAll F ls → ∀ l m,SubR 2 l [(0,.bool true)] (dF F ls rows (crE ls ls.length)) [(0,.bool true)] m→EndK 2 K (.bool true) m:=
  fun hr l m hs=>endK (hK _ _ (.inr (.inl ⟨h0,hr,rfl,rfl⟩))) l hs
 have hno:¬OkAll F ls → ∀ l m,SubR 2 l [(0,.bool false)] ⟨[],2⟩ [(0,.bool false)] m→EndK 2 K (.bool false) m:=
  fun hr l m hs=>endK (hK _ _ (.inr (.inr ⟨h0,hr,rfl,rfl⟩))) l hs
 clear hK
 simp[hlen,h0]
 refine wZ_loop (α:=Nat) (fun i=>[(24,.int .i64 i),(23,.int .i64 5),(22,.sl 7 0 5),(0,.ptr 1 0 0)]) (fun i=>⟨stg F ls rows i++[(7,clos)],8⟩)
  (fun i=>5 - i) (fun i=>i≤5∧(0<i→ls.all (okC F)=true)∧(1<i→(at' ls 0).k=1∧passes ls % 2=0)∧(2<i→rkF ls (passes ls) ls.length=true)∧(3<i→CrOk ls) ∧
    (4<i→cycles (turnN ls (axis ls)) (2*ls.length+2*(axis ls).length)=(axis ls).length+(crE ls ls.length).length+2)) 0 [(7,20)] (by simp[stg,hrr,ren_mkE,ren_nums,ren_bls]) (by simp) ?_
 rintro i ⟨hi,g1,g2,g3,g4,g5⟩ N hN
 try simp only at hi g1 g2 g3 g4 g5 hN ⊢
 have w1:IntKind.i64.wrap 1=1:=by decide
 have w2:IntKind.i64.wrap 2=2:=by decide
 have w3:IntKind.i64.wrap 3=3:=by decide
 have w4:IntKind.i64.wrap 4=4:=by decide
 have w5:IntKind.i64.wrap 5=5:=by decide
 rcases (show i=0∨i=1∨i=2∨i=3∨i=4∨i=5 by omega)with rfl|rfl|rfl|rfl|rfl|rfl
 ·simp[stg]
  refine SC_ctr h131 [] (by simp) (by simp[hrr,ren_mkE,ren_nums,ren_bls]) (by simp) ?_
  rintro r sm ⟨rfl,rfl⟩
  cases hb:ls.all (okC F)with
  | true=>
   simp[hrr,ren_mkE,ren_nums,ren_bls,w1,w2,w3,w4,w5]
   exact hN 1 [] _ _ (by omega) ⟨by omega,fun _=>hb,by omega,by omega,by omega,by omega⟩ (by simp[stg,hrr,ren_mkE,ren_nums,ren_bls])
  | false=>
   simp[hrr,ren_mkE,ren_nums,ren_bls,w1,w2,w3,w4,w5]
   exact hno (fun hh=>by rw[hh.1]at hb; cases hb) [] _ (by simp)
 ·simp[stg]
  refine SC_ctr (h132 hpos) [] (by simp) (by simp[hrr,ren_mkE,ren_nums,ren_bls]) (by simp) ?_
  rintro r sm ⟨rfl,rfl⟩
  by_cases hb:(at' ls 0).k=1∧passes ls % 2=0
  ·simp[hrr,w2,hb]
   exact hN 2 [] _ _ (by omega) ⟨by omega,fun _=>g1 (by omega),fun _=>hb,by omega,by omega,by omega⟩ (by simp[stg,hrr,ren_mkE,ren_nums,ren_bls])
  ·have hb2:(decide ((at' ls 0).k=1)&&decide (passes ls % 2=0))=false:=by
    rw[← Bool.not_eq_true]; simpa using hb
   rw[hb2]
   simp[hrr,ren_mkE,ren_nums,ren_bls,w1,w2,w3,w4,w5]
   exact hno (fun hh=>hb ⟨hh.2.1,hh.2.2.1⟩) [] _ (by simp)
 ·have hG:=gated_of (g1 (by omega))
  simp[stg]
  refine SC_ctr (h133 hG) [] (by simp) (by simp[hrr,ren_mkE,ren_nums,ren_bls]) (by simp) ?_
  rintro r sm (⟨hb,rfl,rfl⟩|⟨hb,rfl,rfl⟩)
  ·have hax:=axisF_eq hG hb
   have hal:=axis_length ls
   unfold dR
   rw[hax,← hal]
   simp[hrr,ren_mkE,ren_nums,ren_bls,w1,w2,w3,w4,w5]
   exact hN 3 [(2,15),(3,16),(4,17),(5,18)] _ _ (by omega) ⟨by omega,fun _=>g1 (by omega),fun _=>g2 (by omega),fun _=>hb,by omega,by omega⟩ (by simp[stg,hrr,ren_nums,ren_bls])
  ·simp[hrr,ren_mkE,ren_nums,ren_bls,w1,w2,w3,w4,w5]
   exact hno (fun hh=>by rw[hh.2.2.2.1]at hb; cases hb) [] _ (by simp)
 ·simp[stg]
  refine SC_ctr (h134 (nums (cnts F ls)) (bls (fillN ls.length ls.length (downV ls) false)) (nums (fillN ls.length ls.length (placeV ls) 0)) (nums (axis ls)) (fun q=>ren_nums q _) (fun q=>ren_bls q _) (fun q=>ren_nums q _) (fun q=>ren_nums q _)) [] (by simp) (by simp[hrr,ren_nums,ren_bls]) (by simp) ?_
  rintro r sm (⟨hb,rfl,rfl⟩|⟨hb,rfl,rfl⟩)
  ·simp[hrr,ren_mkE,ren_nums,ren_bls,w4]
   exact hN 4 [(6,15)] _ _ (by omega) ⟨by omega,fun _=>g1 (by omega),fun _=>g2 (by omega),fun _=>g3 (by omega),fun _=>hb,by omega⟩ (by simp[stg,hrr,ren_mkE,ren_nums,ren_bls])
  ·simp[hrr,ren_mkE,ren_nums,ren_bls,w1,w2,w3,w4,w5]
   exact hno (fun hh=>hb hh.2.2.2.2.1) [] _ (by simp)
 ·have hG:=gated_of (g1 (by omega))
  have hfl:=filled_of h (g1 (by omega)) hpos (g2 (by omega)).1 (g3 (by omega)) (g4 (by omega))
  have hax:∀ v,v∈axis ls→v<ls.length:=fun v hv=>(mem_axis.1 hv).1
  have hmm:∀ v,v<ls.length→(at' ls v).k≠2→v∈axis ls:=fun v hv h2=>mem_axis.2 ⟨hv,by simp[isP,(hfl.kind v hv).resolve_right h2]⟩
  have hT:∀ d,d<2*ls.length+2*(axis ls).length→turnN ls (axis ls) d<2*ls.length+2*(axis ls).length:=fun d hd=>turnN_lt' hax hmm hfl.some hd
  have hEl:(crE ls ls.length).length≤1000:=by have:=crE_length_le ls ls.length; omega
  simp[stg]
  refine SC_ctr (h135 hfl hT hEl) [] (by simp) (by simp[hrr,ren_mkE,ren_nums,ren_bls]) (by simp) ?_
  rintro r sm ⟨rfl,rfl⟩
  by_cases hb:cycles (turnN ls (axis ls)) (2*ls.length+2*(axis ls).length)=(axis ls).length+(crE ls ls.length).length+2
  ·simp[hrr,ren_mkE,ren_nums,ren_bls,w5,hb]
   exact hN 5 [] _ _ (by omega) ⟨by omega,fun _=>g1 (by omega),fun _=>g2 (by omega),fun _=>g3 (by omega),fun _=>g4 (by omega),fun _=>hb⟩ (by simp[stg,hrr,ren_mkE,ren_nums,ren_bls])
  ·simp[hrr,ren_mkE,ren_nums,ren_bls,hb]
   exact hno (fun hh=>hb hh.2.2.2.2.2) [] _ (by simp)
 ·simp[stg]
  exact hyes ⟨g1 (by omega),(g2 (by omega)).1,(g2 (by omega)).2,g3 (by omega),g4 (by omega),g5 (by omega)⟩ [] _ (by simp[hrr,ren_mkE,ren_nums,ren_bls])
end Go.Known
end
section
namespace Go.Known
open Go Go.AE Go.Proofs
open Go.Plain
attribute [simp] wZ_skip wZ_region wZ_dregion wZ_seq wZ_condM wZ_block wZ_scope wZ_exit wZ_ret thenS_normal thenS_ret thenS_exit blockS_normal blockS_ret blockS_exit zops_nil' zops_one zops_gd pt_some pt_none ev_tmp ev_const ev_fn wt_some wt_bool wt_undef vo_some wo_some sd_mov sd_pick pk_true pk_false sd_box bx_some sd_alloc sd_build ag_some sd_mkSl mk_some sd_load sd_store sd_nilChk nl_ptr nl_iptr sd_bin sd_un sd_mkFunc sd_mkMap sd_fieldA ad_ptr ad_iptr sd_field fl_agg sd_ext ex_tuple sd_lenSl ln_some sl_nil sl_emp sl_sl sl_imm sd_idxA sd_makeSl sd_append sd_lenMap sd_lookup sd_mapUpd ix_sl ix_imm an_int Env.get argE SMem.at SMem.app SMem.get lookB eraseB loadD rowAtD bn_add bn_sub bn_mul bn_quo bn_rem bn_eql bn_neq bn_lss bn_leq bn_gtr bn_geq bb_eql bb_neq unA storeD setRow fillA fillS calleeE aundef xdops_nil' xdops_one xdops_gd kp_nil kp_cons recF memN indF lookF retN oneK yieldE quietO SubR SubRE SubRB InjK InjA qOf lookN AVal.ren renL renLL ABlk.ren renB lessB qKeys footWD footRD FT.indep apartL apart1 belowL subL in1 sd_idxAA slBoundsD optNatD room sl_slV ren_slV cells_slV one_slV look_blV look_blV_eq erase_blV erase_blV_eq ren_blV sub_blV injA_blV injK_blV wr_eq app_dlV app_dlS less_nil less_blV keys_blV apart1_app apart_slV apart1_slV bk_ptr bk_sl bk_map bk_imm bk_iptr bk_nil bk_int bk_str bk_imV xOf upX ap_slV ap_slV0 ix_slV sr_slV sr_sl0 sr_nil sr_imm slV_nil blV_nil slV_snoc blV_snoc
@[simp] theorem ce_int (k : IntKind) (n : Int): AVal.cells (.int k n) = some [(.int k n)] := rfl
@[simp] theorem on_int (k : IntKind) (n : Int): AVal.one (.int k n) = true := rfl
@[simp] theorem ce_bool (b : Bool): AVal.cells (.bool b) = some [(.bool b)] := rfl
@[simp] theorem on_bool (b : Bool): AVal.one (.bool b) = true := rfl
@[simp] theorem ce_ptr (a b c : Nat): AVal.cells (.ptr a b c) = some [(.ptr a b c)] := rfl
@[simp] theorem on_ptr (a b c : Nat): AVal.one (.ptr a b c) = true := rfl
@[simp] theorem ce_iptr (l : List (List AVal)) (a b : Nat): AVal.cells (.iptr l a b) = some [(.iptr l a b)] := rfl
@[simp] theorem on_iptr (l : List (List AVal)) (a b : Nat): AVal.one (.iptr l a b) = true := rfl
@[simp] theorem ce_sl (a b c : Nat): AVal.cells (.sl a b c) = some [(.sl a b c)] := rfl
@[simp] theorem on_sl (a b c : Nat): AVal.one (.sl a b c) = true := rfl
@[simp] theorem ce_imm (l : List (List AVal)): AVal.cells (.imm l) = some [(.imm l)] := rfl
@[simp] theorem on_imm (l : List (List AVal)): AVal.one (.imm l) = true := rfl
@[simp] theorem ce_map (b : Nat): AVal.cells (.map b) = some [(.map b)] := rfl
@[simp] theorem on_map (b : Nat): AVal.one (.map b) = true := rfl
@[simp] theorem ce_func (f : Fn) (a b : List AVal): AVal.cells (.func f a b) = some [(.func f a b)] := rfl
@[simp] theorem on_func (f : Fn) (a b : List AVal): AVal.one (.func f a b) = true := rfl
@[simp] theorem ce_str (l : List UInt8): AVal.cells (.str l) = some [(.str l)] := rfl
@[simp] theorem on_str (l : List UInt8): AVal.one (.str l) = true := rfl
@[simp] theorem ce_nilSl : AVal.cells .nilSl = some [.nilSl] := rfl
@[simp] theorem on_nilSl : AVal.one .nilSl = true := rfl
@[simp] theorem ce_nilPtr : AVal.cells .nilPtr = some [.nilPtr] := rfl
@[simp] theorem on_nilPtr : AVal.one .nilPtr = true := rfl
@[simp] theorem ce_nilMap : AVal.cells .nilMap = some [.nilMap] := rfl
@[simp] theorem on_nilMap : AVal.one .nilMap = true := rfl
@[simp] theorem ce_nilFunc : AVal.cells .nilFunc = some [.nilFunc] := rfl
@[simp] theorem on_nilFunc : AVal.one .nilFunc = true := rfl
@[simp] theorem ce_agg (l : List AVal) : AVal.cells (.agg l) = some l := rfl
def wrows (l:List (List Nat)):List (List AVal):=l.map fun w=>[.imm (nums w)]
theorem wrows_length (l:List (List Nat)):(wrows l).length=l.length:=by simp[wrows]
theorem wrows_snoc (l:List (List Nat)) (w:List Nat):wrows (l++[w])=wrows l++[[.imm (nums w)]]:=by simp[wrows]
theorem closed_wrows:∀ (l:List (List Nat)),closedLL (wrows l)=true
 | []=>rfl
 | w :: r=>by
  have:=closed_wrows r
  simp only[wrows,List.map_cons,closedLL,closedL,AVal.closed,closed_nums,Bool.and_true,Bool.true_and]at this ⊢
  exact this
theorem ren_wrows (q:Nat→Nat) (l:List (List Nat)):renLL q (wrows l)=wrows l:=renLL_closed q _ (closed_wrows l)
theorem fzLL_snoc {get:Nat→Option ABlk} {S:List Nat} {A:List (List AVal)} (hA:closedLL A=true) (r:List AVal):fzLL get S (A++[r])=A++[r.map (fzV get S)]:=by
 rw[fzLL_append,fzLL_closed hA]; rfl
@[simp] theorem ren_append (q : Nat → Nat) (a b : List (List AVal)) : renLL q (a ++ b) = renLL q a ++ renLL q b := by simp [renLL_map]
theorem fz_nums {get:Nat→Option ABlk} {S:List Nat} {b:Nat} {l:List Nat} (hb:memN b S=true) (hg:get b=if nums l=[]then none else some (.cells 1 (nums l))):fzV get S (slV b (nums l))=imV (nums l):=
 fz_slV hb hg fun row hr x hx=>by
  obtain⟨i,_,rfl⟩:=List.mem_map.1 hr
  rw[List.mem_singleton]at hx
  subst hx
  rfl
theorem freeze_rows {get:Nat→Option ABlk} {b k n:Nat} {rows:List (List AVal)} (h:get b=some (.cells k rows)) (hs:∀ row,row∈rows → ∀ x,x∈row→freezeV get n x=some x):freezeV get (n+1) (.sl b 0 rows.length)=some (.imm rows):=by
 have h1:Nat.ble (0+rows.length) rows.length=true:=by rw[Nat.zero_add]; exact Nat.ble_self_eq_true _
 rw[freezeV]
 simp only[h,h1,cond_true,List.drop_zero,List.take_length,mapO_closed hs]
theorem freeze_imm {get:Nat→Option ABlk} {n:Nat} {rows:List (List AVal)} (hs:∀ row,row∈rows → ∀ x,x∈row→freezeV get n x=some x):freezeV get (n+1) (.imm rows)=some (.imm rows):=by
 rw[freezeV]
 simp only[mapO_closed hs]
theorem scal_nums {get:Nat→Option ABlk} {n:Nat} (l:List Nat):∀ row,row∈nums l → ∀ x,x∈row→freezeV get (n+1) x=some x:=by
 intro row hr x hx
 obtain⟨i,_,rfl⟩:=List.mem_map.1 hr
 rw[List.mem_singleton]at hx
 subst hx
 rfl
theorem scal_wrows {get:Nat→Option ABlk} {n:Nat} (l:List (List Nat)):∀ row,row∈wrows l → ∀ x,x∈row→freezeV get (n+2) x=some x:=by
 intro row hr x hx
 obtain⟨w,_,rfl⟩:=List.mem_map.1 hr
 rw[List.mem_singleton]at hx
 subst hx
 exact freeze_imm (scal_nums w)
end Go.Known
end
