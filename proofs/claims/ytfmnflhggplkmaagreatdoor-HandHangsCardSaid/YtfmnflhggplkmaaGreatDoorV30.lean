/- Part 30 of the proof: Ra, Lb, Kv. -/
import Derived.Test.YtfmnflhggplkmaaGreatDoorV27
import Derived.Test.YtfmnflhggplkmaaGreatDoorV29
set_option linter.all false
section
namespace Go.Known
open Go Go.AE Go.Proofs
open Go.Plain
attribute [local simp] wZ_skip wZ_region wZ_dregion wZ_seq wZ_condM wZ_block wZ_scope wZ_exit wZ_ret thenS_normal thenS_ret thenS_exit blockS_normal blockS_ret blockS_exit zops_nil' zops_one zops_gd pt_some pt_none ev_tmp ev_const ev_fn wt_some wt_bool wt_undef vo_some wo_some sd_mov sd_pick pk_true pk_false sd_box bx_some sd_alloc sd_build ag_some sd_mkSl mk_some sd_load sd_store sd_nilChk nl_ptr nl_iptr sd_bin sd_un sd_mkFunc sd_mkMap sd_fieldA ad_ptr ad_iptr sd_field fl_agg sd_ext ex_tuple sd_lenSl ln_some sl_nil sl_emp sl_sl sl_imm sd_idxA sd_makeSl sd_append sd_lenMap sd_lookup sd_mapUpd ix_sl ix_imm an_int Env.get argE SMem.at SMem.app SMem.get lookB eraseB AVal.cells AVal.one loadD rowAtD bn_add bn_sub bn_mul bn_quo bn_rem bn_eql bn_neq bn_lss bn_leq bn_gtr bn_geq bb_eql bb_neq unA storeD setRow fillA fillS calleeE aundef xdops_nil' xdops_one xdops_gd kp_nil kp_cons recF memN indF lookF retN oneK yieldE quietO SubR SubRE SubRB InjK InjA qOf lookN AVal.ren renL renLL ABlk.ren slBoundsD optNatD srcRowsD rowsOfD appendRowsD room renB lessB qKeys
abbrev dV0 (f:Int) (rows:List (List AVal)):ABlk:=.cells 7 [[.int .i64 f,.imm rows,.nilSl,.nilSl,.nilSl,.nilMap,.nilSl]]
abbrev dM1 (f:Int) (rows:List (List AVal)):SMem:=⟨[(1,dV0 f rows)],2⟩
abbrev dM2 (f:Int) (rows:List (List AVal)):SMem:=⟨[(2,.cells 1 [[.ptr 1 0 0]]),(1,dV0 f rows)],3⟩
set_option maxHeartbeats 1000000 in
theorem c167 (f:Int) (rows:List (List AVal)) (hrr:∀ q,renLL q rows=rows) (l:Lt) :
 Ctr Tryz.prog 119 [.agg (rowL l),.ptr 2 0 0] (dM2 f rows) fun r m=>r=.bool (!okC f l)∧m=dM2 f rows:=by
 refine ctr_1 hm Tryz.func119 cf167 rfl rfl fun K hK=>?_
 rcases l with⟨lk,lg,lr,li,lsn,lo⟩
 have fin:∀ b m,(!okC f ⟨lk,lg,lr,li,lsn,lo⟩)=b→SubR 3 [] [(0,.bool b)] (dM2 f rows) [(0,.bool b)] m→EndK 3 K (.bool b) m:=
  fun b m hb h=>by subst hb; exact endK hK [] h
 clear hK
 by_cases h1:lk=1
 ·by_cases h2:lg<0
  ·have h2':¬0≤lg:=by omega
   simp[rowL,h1,h2]; exact fin _ _ (by simp[okC,h1,h2']) (by simp[hrr])
  have h2':0≤lg:=by omega
  by_cases h3:f<lg
  ·have h3':¬lg≤f:=by omega
   simp[rowL,h1,h2,h3]; exact fin _ _ (by simp[okC,h1,h2',h3']) (by simp[hrr])
  have h3':lg≤f:=by omega
  by_cases h4:li=0
  ·by_cases h5:lsn=0
   ·cases lo with
    | true=>
     simp[rowL,h1,h2,h3,h4,h5]; exact fin _ _ (by simp[okC,h1,h2',h3',h4,h5]) (by simp[hrr])
    | false=>
     simp[rowL,h1,h2,h3,h4,h5]; exact fin _ _ (by simp[okC,h1,h2',h3',h4,h5]) (by simp[hrr])
   ·simp[rowL,h1,h2,h3,h4,h5]; exact fin _ _ (by simp[okC,h1,h2',h3',h4,h5]) (by simp[hrr])
  ·simp[rowL,h1,h2,h3,h4]; exact fin _ _ (by simp[okC,h1,h2',h3',h4]) (by simp[hrr])
 by_cases h2:lk=2
 ·by_cases h3:lg=0
  ·by_cases h4:lr=0
   ·by_cases h5:lsn=1
    ·simp[rowL,h2,h3,h4,h5]; exact fin _ _ (by simp[okC,h2,h3,h4,h5]) (by simp[hrr])
    ·by_cases h6:lsn = -1
     ·simp[rowL,h2,h3,h4,h6]; exact fin _ _ (by simp[okC,h2,h3,h4,h6]) (by simp[hrr])
     ·simp[rowL,h2,h3,h4,h5,h6]; exact fin _ _ (by simp[okC,h2,h3,h4,h5,h6]) (by simp[hrr])
   ·simp[rowL,h2,h3,h4]; exact fin _ _ (by simp[okC,h2,h3,h4]) (by simp[hrr])
  ·simp[rowL,h2,h3]; exact fin _ _ (by simp[okC,h2,h3]) (by simp[hrr])
 ·simp[rowL,h1,h2]; exact fin _ _ (by simp[okC,h1,h2]) (by simp[hrr])
set_option maxHeartbeats 1000000 in
theorem c183 (f:Int) (ls:List Lt) (h:ls.length≤1000) :
 Ctr Tryz.prog 138 [.imm (ls.map rowL),.func (.func 119) [] [.ptr 2 0 0]] (dM2 f (ls.map rowL)) fun r m=>(∃ n:Int,r=.int .i64 n∧decide (0≤n) = !ls.all (okC f))∧m=dM2 f (ls.map rowL):=by
 refine ctr_P hm Tryz.func138 cf183 rfl rfl fun K hK=>?_
 have hR:=rows_of ls
 have hrr:∀ q,renLL q (ls.map rowL)=ls.map rowL:=fun q=>renLL_closed q _ (closed_rows ls)
 have hc:=fun l=>c167 f (ls.map rowL) hrr l
 generalize ls.map rowL=rows at *
 have hlen:=hR.len
 have fin:∀ (n:Int) m,decide (0≤n)=(!ls.all (okC f))→SubR 3 [] [(0,.int .i64 n)] (dM2 f rows) [(0,.int .i64 n)] m→EndK 3 K (.int .i64 n) m:=
  fun n m hb h=>endK (hK (.int .i64 n) (dM2 f rows) ⟨⟨n,rfl,hb⟩,rfl⟩) [] h
 clear hK
 simp
 refine wZ_loop (α:=Nat) (fun i=>[(8,.int .i64 i),(7,.int .i64 ls.length),(1,.func (.func 119) [] [.ptr 2 0 0]),(0,.imm rows)]) (fun i=>⟨[(2,.cells 1 [[.ptr 1 0 0]]),(1,dV0 f rows)],5⟩)
  (fun i=>ls.length - i) (fun i=>i≤ls.length∧(ls.take i).all (okC f)=true) 0 [] (by simp[hrr,hlen]) (by simp) ?_
 rintro i ⟨hi,hall⟩ N hN
 by_cases hlt:i<ls.length
 ·have hrow:=hR.row i hlt
  obtain⟨hil,hrow2⟩:=List.getElem?_eq_some_iff.1 hrow
  have hw1:IntKind.i64.wrap ((i:Int)+1)=(i:Int)+1:=wrap64 (by omega) (by omega)
  have hnext:ls.take (i+1)=ls.take i++[at' ls i]:=by
   rw[List.take_add_one,at',List.getD,List.getElem?_eq_getElem hlt]
   rfl
  have hin:at' ls i∈ls:=at'_mem hlt
  simp[hlen,hlt,hrow2,rowL]
  refine SC_ctr (hc (at' ls i)) [(1,1),(2,2)] (by simp[rowL]) (by simp[hrr]) (by simp) ?_
  rintro r sm ⟨rfl,rfl⟩
  cases hok:okC f (at' ls i)with
  | true=>
   simp[hrr,hw1]
   exact hN (i+1) [] _ _ (by omega) ⟨by omega,by rw[hnext,List.all_append,hall]; simp[hok]⟩ (by simp[hrr])
  | false=>
   have hno:ls.all (okC f)=false:=by rw[List.all_eq_false]; exact⟨_,hin,by simp[hok]⟩
   simp[hrr]
   exact fin _ _ (by simp[hno]) (by simp[hrr])
 ·have he:i=ls.length:=by omega
  subst he
  rw[List.take_length]at hall
  simp[]
  exact fin _ _ (by simp[hall]) (by simp[hrr])
theorem c166 (f:Int) (ls:List Lt) (h:ls.length≤1000) :
 Ctr Tryz.prog 118 [.imm (ls.map rowL),.func (.func 119) [] [.ptr 2 0 0]] (dM2 f (ls.map rowL)) fun r m=>r=.bool (!ls.all (okC f))∧m=dM2 f (ls.map rowL):=by
 refine ctr_1 hm Tryz.func118 cf166 rfl rfl fun K hK=>?_
 have hrr:∀ q,renLL q (ls.map rowL)=ls.map rowL:=fun q=>renLL_closed q _ (closed_rows ls)
 have hc:=c183 f ls h
 generalize ls.map rowL=rows at *
 simp
 refine SC_ctr hc [(1,1),(2,2)] (by simp[hrr]) (by simp[hrr]) (by simp) ?_
 rintro r sm ⟨⟨n,rfl,hn⟩,rfl⟩
 simp[hrr,hn]
 exact endK hK [] (by simp[hrr])
theorem c131 (f:Int) (ls:List Lt) (h:ls.length≤1000) :
 Ctr Tryz.prog 97 [.ptr 1 0 0] (dM1 f (ls.map rowL)) fun r m=>r=.bool (ls.all (okC f))∧m=dM1 f (ls.map rowL):=by
 refine ctr_1 hm Tryz.func97 cf131 rfl rfl fun K hK=>?_
 have hrr:∀ q,renLL q (ls.map rowL)=ls.map rowL:=fun q=>renLL_closed q _ (closed_rows ls)
 have hc:=c166 f ls h
 generalize ls.map rowL=rows at *
 simp
 refine SC_ctr hc [(1,1),(2,2)] (by simp[hrr]) (by simp[hrr]) (by simp) ?_
 rintro r sm ⟨rfl,rfl⟩
 simp[hrr]
 exact endK hK [] (by simp[hrr])
theorem c132 (f:Int) (ls:List Lt) (h:ls.length≤1000) (h0:0<ls.length) :
 Ctr Tryz.prog 98 [.ptr 1 0 0] (dM1 f (ls.map rowL)) fun r m=>r=.bool (decide ((at' ls 0).k=1)&&decide (passes ls % 2=0))∧m=dM1 f (ls.map rowL):=by
 refine ctr_1 hm Tryz.func98 cf132 rfl rfl fun K hK=>?_
 have hR:=rows_of ls
 have hrr:∀ q,renLL q (ls.map rowL)=ls.map rowL:=fun q=>renLL_closed q _ (closed_rows ls)
 have hc:=c168 f ls h
 unfold cV at hc
 generalize ls.map rowL=rows at *
 have hlen:=hR.len
 have hrow:=hR.row 0 h0
 by_cases hk:(at' ls 0).k=1
 ·simp[hrow,rowL,hk]
  refine SC_pure hc ?_
  simp[tmod2]
  refine endK (v0:=.bool (decide ((at' ls 0).k=1)&&decide (passes ls % 2=0))) hK [] ?_
  simp[hrr,hk,passes]
  exact decide_eq_decide.2 (by omega)
 ·simp[hrow,rowL,hk]
  refine endK (v0:=.bool (decide ((at' ls 0).k=1)&&decide (passes ls % 2=0))) hK [] ?_
  simp[hrr,hk]
end Go.Known
end
section
namespace Go.Known
open Go Go.AE Go.Proofs
open Go.Plain
attribute [local simp] wS_skip wS_region wS_dregion wS_seq wS_cond wS_block wS_exit wS_ret thenS_normal thenS_ret thenS_exit blockS_normal blockS_ret blockS_exit sops_nil sops_cons wantedE evE Env.get putE argE stepD SMem.at SMem.app SMem.get lookB AVal.cells AVal.one addA loadD rowAtD sliceLen asNat binA binInt unA eqA storeD setRow retS calleeE aundef sdops_nil sdops_cons indepL FT.indep apartL apart1 belowL subL in1 footWD footRD blkOf SubS SubE SubB
def idxN (x:Nat):List Nat→Nat
 | []=>0
 | y :: r=>if y=x then 0 else 1+idxN x r
theorem idxN_spec {x:Nat}:∀ {l:List Nat},x∈l→l[idxN x l]? = some x ∧ ∀ q,q<idxN x l→l[q]? ≠ some x
 | [],h=>by simp at h
 | y :: r,h=>by
  simp only[idxN]
  by_cases hy:y=x
  ·subst hy
   simp
  ·rw[if_neg hy]
   have hm:x∈r:=by
    rcases List.mem_cons.1 h with h|h
    ·exact absurd h.symm hy
    ·exact h
   obtain⟨h1,h2⟩:=idxN_spec hm
   refine⟨by rw[Nat.add_comm,List.getElem?_cons_succ]; exact h1,fun q hq=>?_⟩
   cases q with
   | zero=>simp[hy]
   | succ q=>rw[List.getElem?_cons_succ]; exact h2 q (by omega)
def turnN (ls:List Lt) (ax:List Nat) (d:Nat):Nat:=
 if 2*ls.length≤d then
  if d % 2=0 then alongN ls.length (ax.getD (((d - 2*ls.length) / 2+1) % ax.length) 0) (!down ls (ax.getD (((d - 2*ls.length) / 2+1) % ax.length) 0))
  else alongN ls.length (ax.getD ((d - 2*ls.length) / 2) 0) (down ls (ax.getD ((d - 2*ls.length) / 2) 0))
 else
  let v:=if d % 2=0 then (d / 2+1) % ls.length else d / 2
  if (at' ls v).k=2 then alongN ls.length (otherN ls v ls.length 0) ((d % 2 == 0) == ((at' ls v).o == ((at' ls v).s == 1)))
  else if down ls v=(d % 2 == 0)then 2*ls.length+2*idxN v ax else 2*ls.length+2*((idxN v ax+ax.length - 1) % ax.length)+1
end Go.Known
end
section
namespace Go.Known
open Go Go.AE Go.Proofs
def kv29:AVal:=(.imm [[(.int .i64 1),(.int .i64 0)],[(.int .i64 0),(.int .i64 1)]])
def kv23:AVal:=(.imm [[(.int .i64 9)],[(.int .i64 8)],[(.int .i64 7)],[(.int .i64 4)],[(.int .i64 3)],[(.int .i64 2)]])
def kv26:AVal:=(.imm [[(.int .i64 5)],[(.int .i64 6)],[(.int .i64 10)],[(.int .i64 1)]])
def kv30:AVal:=(.imm [[(.int .i64 5),(.int .i64 0)],[(.int .i64 4),(.int .i64 1)]])
def kv31:AVal:=(.imm [[(.int .i64 6),(.int .i64 0)],[(.int .i64 5),(.int .i64 2)]])
def kv21:AVal:=(.imm [[(.int .i64 6),(.int .i64 1)],[(.int .i64 7),(.int .i64 0)],[(.int .i64 8),(.int .i64 0)],[(.int .i64 9),(.int .i64 0)]])
def kv27:AVal:=(.imm [[(.int .i64 10),(.int .i64 0)],[(.int .i64 9),(.int .i64 1)]])
def kv28:AVal:=(.imm [[(.int .i64 10),(.int .i64 1)],[(.int .i64 0),(.int .i64 0)]])
def kv2:AVal:=(.imm [[(.bool false),(.imm [[(.int .i64 0)]]),kv29,(.imm [[(.int .i64 1)]]),(.bool false)],[(.bool false),(.imm [[(.int .i64 1)],[(.int .i64 13)],[(.int .i64 9)],[(.int .i64 5)]]),(.imm [[(.int .i64 0),(.int .i64 0)],[(.int .i64 10),(.int .i64 1)],[(.int .i64 9),(.int .i64 0)],[(.int .i64 8),(.int .i64 0)],[(.int .i64 7),(.int .i64 0)],[(.int .i64 6),(.int .i64 1)],[(.int .i64 5),(.int .i64 1)],[(.int .i64 4),(.int .i64 0)],[(.int .i64 3),(.int .i64 0)],[(.int .i64 2),(.int .i64 0)],[(.int .i64 1),(.int .i64 1)]]),kv23,(.bool true)],[(.bool true),(.imm [[(.int .i64 2)],[(.int .i64 6)],[(.int .i64 10)],[(.int .i64 14)]]),(.imm [[(.int .i64 4),(.int .i64 1)],[(.int .i64 5),(.int .i64 0)],[(.int .i64 5),(.int .i64 2)],[(.int .i64 6),(.int .i64 0)],[(.int .i64 9),(.int .i64 1)],[(.int .i64 10),(.int .i64 0)],[(.int .i64 0),(.int .i64 1)],[(.int .i64 1),(.int .i64 0)]]),kv26,(.bool false)],[(.bool true),(.imm [[(.int .i64 3)]]),(.imm [[(.int .i64 1),(.int .i64 1)],[(.int .i64 2),(.int .i64 0)],[(.int .i64 3),(.int .i64 0)],[(.int .i64 4),(.int .i64 0)]]),(.imm [[(.int .i64 2)],[(.int .i64 3)],[(.int .i64 4)]]),(.bool false)],[(.bool false),(.imm [[(.int .i64 4)]]),kv30,(.imm [[(.int .i64 5)]]),(.bool false)],[(.bool true),(.imm [[(.int .i64 7)]]),(.imm [[(.int .i64 5),(.int .i64 1)]]),.nilSl,(.bool false)],[(.bool false),(.imm [[(.int .i64 8)]]),kv31,(.imm [[(.int .i64 6)]]),(.bool false)],[(.bool true),(.imm [[(.int .i64 11)]]),kv21,(.imm [[(.int .i64 7)],[(.int .i64 8)],[(.int .i64 9)]]),(.bool false)],[(.bool false),(.imm [[(.int .i64 12)]]),kv27,(.imm [[(.int .i64 10)]]),(.bool false)],[(.bool true),(.imm [[(.int .i64 15)]]),kv28,.nilSl,(.bool true)]])
def kv1:AVal:=(.agg [kv2])
def kv3:AVal:=(.agg [(.int .i64 10),(.imm [[(.int .i64 1),(.int .i64 0),(.int .i64 1),(.int .i64 0),(.int .i64 0),(.bool false)],[(.int .i64 1),(.int .i64 1),(.int .i64 1),(.int .i64 0),(.int .i64 0),(.bool false)],[(.int .i64 1),(.int .i64 3),(.int .i64 1),(.int .i64 0),(.int .i64 0),(.bool false)],[(.int .i64 1),(.int .i64 3),(.int .i64 2),(.int .i64 0),(.int .i64 0),(.bool false)],[(.int .i64 1),(.int .i64 4),(.int .i64 1),(.int .i64 0),(.int .i64 0),(.bool false)],[(.int .i64 1),(.int .i64 5),(.int .i64 1),(.int .i64 0),(.int .i64 0),(.bool false)],[(.int .i64 1),(.int .i64 5),(.int .i64 2),(.int .i64 0),(.int .i64 0),(.bool false)],[(.int .i64 1),(.int .i64 6),(.int .i64 1),(.int .i64 0),(.int .i64 0),(.bool false)],[(.int .i64 1),(.int .i64 9),(.int .i64 1),(.int .i64 0),(.int .i64 0),(.bool false)],[(.int .i64 1),(.int .i64 10),(.int .i64 1),(.int .i64 0),(.int .i64 0),(.bool false)]])])
def kv4:AVal:=(.agg [(.int .i64 10),(.imm [[(.int .i64 1),(.int .i64 0),(.int .i64 1),(.int .i64 0),(.int .i64 0),(.bool false)],[(.int .i64 1),(.int .i64 1),(.int .i64 1),(.int .i64 0),(.int .i64 0),(.bool false)],[(.int .i64 1),(.int .i64 2),(.int .i64 1),(.int .i64 0),(.int .i64 0),(.bool false)],[(.int .i64 1),(.int .i64 3),(.int .i64 1),(.int .i64 0),(.int .i64 0),(.bool false)],[(.int .i64 1),(.int .i64 4),(.int .i64 1),(.int .i64 0),(.int .i64 0),(.bool false)],[(.int .i64 1),(.int .i64 5),(.int .i64 1),(.int .i64 0),(.int .i64 0),(.bool false)],[(.int .i64 1),(.int .i64 5),(.int .i64 2),(.int .i64 0),(.int .i64 0),(.bool false)],[(.int .i64 1),(.int .i64 6),(.int .i64 1),(.int .i64 0),(.int .i64 0),(.bool false)],[(.int .i64 1),(.int .i64 9),(.int .i64 1),(.int .i64 0),(.int .i64 0),(.bool false)],[(.int .i64 1),(.int .i64 10),(.int .i64 1),(.int .i64 0),(.int .i64 0),(.bool false)]])])
def kv5:AVal:=(.agg [(.int .i64 10),(.imm [[(.int .i64 1),(.int .i64 0),(.int .i64 1),(.int .i64 0),(.int .i64 0),(.bool false)],[(.int .i64 1),(.int .i64 1),(.int .i64 1),(.int .i64 0),(.int .i64 0),(.bool false)],[(.int .i64 1),(.int .i64 4),(.int .i64 1),(.int .i64 0),(.int .i64 0),(.bool false)],[(.int .i64 1),(.int .i64 5),(.int .i64 1),(.int .i64 0),(.int .i64 0),(.bool false)],[(.int .i64 1),(.int .i64 5),(.int .i64 2),(.int .i64 0),(.int .i64 0),(.bool false)],[(.int .i64 1),(.int .i64 6),(.int .i64 1),(.int .i64 0),(.int .i64 0),(.bool false)],[(.int .i64 1),(.int .i64 9),(.int .i64 1),(.int .i64 0),(.int .i64 0),(.bool false)],[(.int .i64 1),(.int .i64 10),(.int .i64 1),(.int .i64 0),(.int .i64 0),(.bool false)]])])
def kv6:AVal:=(.agg [(.int .i64 10),(.imm [[(.int .i64 1),(.int .i64 1),(.int .i64 1),(.int .i64 0),(.int .i64 0),(.bool false)],[(.int .i64 2),(.int .i64 0),(.int .i64 0),(.int .i64 1),(.int .i64 1),(.bool true)],[(.int .i64 2),(.int .i64 0),(.int .i64 0),(.int .i64 1),(.int .i64 1),(.bool false)],[(.int .i64 1),(.int .i64 1),(.int .i64 2),(.int .i64 0),(.int .i64 0),(.bool false)],[(.int .i64 1),(.int .i64 9),(.int .i64 1),(.int .i64 0),(.int .i64 0),(.bool false)],[(.int .i64 1),(.int .i64 10),(.int .i64 1),(.int .i64 0),(.int .i64 0),(.bool false)]])])
def kv7:AVal:=(.agg [(.int .i64 10),(.imm [[(.int .i64 1),(.int .i64 1),(.int .i64 2),(.int .i64 0),(.int .i64 0),(.bool false)],[(.int .i64 1),(.int .i64 1),(.int .i64 1),(.int .i64 0),(.int .i64 0),(.bool false)],[(.int .i64 2),(.int .i64 0),(.int .i64 0),(.int .i64 1),(.int .i64 1),(.bool false)],[(.int .i64 1),(.int .i64 9),(.int .i64 1),(.int .i64 0),(.int .i64 0),(.bool false)],[(.int .i64 1),(.int .i64 10),(.int .i64 1),(.int .i64 0),(.int .i64 0),(.bool false)],[(.int .i64 2),(.int .i64 0),(.int .i64 0),(.int .i64 1),(.int .i64 1),(.bool true)]])])
def kv8:AVal:=(.agg [(.int .i64 10),(.imm [[(.int .i64 1),(.int .i64 1),(.int .i64 1),(.int .i64 0),(.int .i64 0),(.bool false)],[(.int .i64 1),(.int .i64 0),(.int .i64 1),(.int .i64 0),(.int .i64 0),(.bool false)],[(.int .i64 2),(.int .i64 0),(.int .i64 0),(.int .i64 1),(.int .i64 1),(.bool false)],[(.int .i64 1),(.int .i64 9),(.int .i64 1),(.int .i64 0),(.int .i64 0),(.bool false)],[(.int .i64 1),(.int .i64 10),(.int .i64 1),(.int .i64 0),(.int .i64 0),(.bool false)],[(.int .i64 2),(.int .i64 0),(.int .i64 0),(.int .i64 1),(.int .i64 1),(.bool true)]])])
def kv9:AVal:=(.agg [(.imm [[(.int .i64 1),(.bool false),(.int .i64 1)],[(.int .i64 1),(.bool false),(.int .i64 2)],[(.int .i64 1),(.bool false),(.int .i64 3)],[(.int .i64 1),(.bool false),(.int .i64 4)],[(.int .i64 1),(.bool false),(.int .i64 5)],[(.int .i64 1),(.bool true),(.int .i64 5)],[(.int .i64 1),(.bool true),(.int .i64 4)],[(.int .i64 1),(.bool true),(.int .i64 3)],[(.int .i64 1),(.bool true),(.int .i64 2)],[(.int .i64 1),(.bool true),(.int .i64 1)]]),(.int .i64 6),(.int .i64 4)])
def kv10:AVal:=(.agg [(.int .i64 10),(.imm [[(.int .i64 1),(.int .i64 0),(.int .i64 1),(.int .i64 0),(.int .i64 0),(.bool false)],[(.int .i64 1),(.int .i64 1),(.int .i64 1),(.int .i64 0),(.int .i64 0),(.bool false)],[(.int .i64 1),(.int .i64 10),(.int .i64 1),(.int .i64 0),(.int .i64 0),(.bool false)],[(.int .i64 1),(.int .i64 10),(.int .i64 2),(.int .i64 0),(.int .i64 0),(.bool false)]])])
def kv11:AVal:=(.agg [(.int .i64 10),(.imm [[(.int .i64 1),(.int .i64 0),(.int .i64 1),(.int .i64 0),(.int .i64 0),(.bool false)],[(.int .i64 1),(.int .i64 1),(.int .i64 1),(.int .i64 0),(.int .i64 0),(.bool false)],[(.int .i64 1),(.int .i64 9),(.int .i64 1),(.int .i64 0),(.int .i64 0),(.bool false)],[(.int .i64 1),(.int .i64 10),(.int .i64 1),(.int .i64 0),(.int .i64 0),(.bool false)]])])
def kv12:AVal:=(.agg [(.int .i64 10),(.imm [[(.int .i64 1),(.int .i64 1),(.int .i64 1),(.int .i64 0),(.int .i64 0),(.bool false)],[(.int .i64 1),(.int .i64 1),(.int .i64 2),(.int .i64 0),(.int .i64 0),(.bool false)],[(.int .i64 1),(.int .i64 9),(.int .i64 1),(.int .i64 0),(.int .i64 0),(.bool false)],[(.int .i64 1),(.int .i64 10),(.int .i64 1),(.int .i64 0),(.int .i64 0),(.bool false)]])])
def kv13:AVal:=(.imm [[(.int .i64 1),(.int .i64 0)],[(.int .i64 0),(.int .i64 0)],[(.int .i64 10),(.int .i64 1)],[(.int .i64 9),(.int .i64 0)],[(.int .i64 8),(.int .i64 0)],[(.int .i64 7),(.int .i64 0)],[(.int .i64 6),(.int .i64 0)],[(.int .i64 5),(.int .i64 0)],[(.int .i64 4),(.int .i64 0)],[(.int .i64 3),(.int .i64 0)],[(.int .i64 2),(.int .i64 0)],[(.int .i64 1),(.int .i64 2)]])
def kv14:AVal:=(.imm [[(.int .i64 1),(.int .i64 2)],[(.int .i64 2),(.int .i64 0)],[(.int .i64 3),(.int .i64 0)],[(.int .i64 4),(.int .i64 0)],[(.int .i64 5),(.int .i64 0)],[(.int .i64 6),(.int .i64 0)],[(.int .i64 7),(.int .i64 0)],[(.int .i64 8),(.int .i64 0)],[(.int .i64 9),(.int .i64 0)]])
def kv15:AVal:=(.agg [(.int .i64 10),(.imm [[(.int .i64 1),(.int .i64 0),(.int .i64 1),(.int .i64 0),(.int .i64 0),(.bool false)],[(.int .i64 1),(.int .i64 1),(.int .i64 1),(.int .i64 0),(.int .i64 0),(.bool false)]])])
def kv16:AVal:=(.agg [(.int .i64 10),(.imm [[(.int .i64 1),(.int .i64 1),(.int .i64 1),(.int .i64 0),(.int .i64 0),(.bool false)],[(.int .i64 1),(.int .i64 1),(.int .i64 2),(.int .i64 0),(.int .i64 0),(.bool false)]])])
def kv17:AVal:=(.imm [[(.int .i64 10)],[(.int .i64 9)],[(.int .i64 8)],[(.int .i64 7)],[(.int .i64 6)],[(.int .i64 5)],[(.int .i64 4)],[(.int .i64 3)],[(.int .i64 2)]])
def kv18:AVal:=(.imm [[(.int .i64 2)],[(.int .i64 3)],[(.int .i64 4)],[(.int .i64 5)],[(.int .i64 6)],[(.int .i64 7)],[(.int .i64 8)],[(.int .i64 9)],[(.int .i64 10)]])
def kv19:AVal:=(.imm [[(.int .i64 1)],[(.int .i64 9)],[(.int .i64 8)],[(.int .i64 7)],[(.int .i64 6)],[(.int .i64 5)],[(.int .i64 4)],[(.int .i64 3)],[(.int .i64 2)]])
def kv20:AVal:=(.imm [[(.int .i64 2)],[(.int .i64 3)],[(.int .i64 4)],[(.int .i64 5)],[(.int .i64 6)],[(.int .i64 7)],[(.int .i64 8)],[(.int .i64 9)]])
def kv22:AVal:=(.agg [(.int .i64 9),(.int .i64 0),(.int .i64 0),(.int .i64 0),(.bool false),(.bool false),(.int .i64 0)])
def kv24:AVal:=(.imm [[(.int .i64 9),(.int .i64 1)],[(.int .i64 10),(.int .i64 0)],[(.int .i64 1),(.int .i64 1)]])
def kv25:AVal:=(.imm [[(.int .i64 10),(.int .i64 1)],[(.int .i64 0),(.int .i64 0)],[(.int .i64 1),(.int .i64 0)]])
def kv32:AVal:=(.imm [[(.int .i64 6),(.int .i64 1),(.bool false),(.int .i64 0)]])
def kv33:AVal:=(.agg [(.int .i64 5),(.int .i64 0),(.bool false),(.int .i64 0)])
end Go.Known
end
