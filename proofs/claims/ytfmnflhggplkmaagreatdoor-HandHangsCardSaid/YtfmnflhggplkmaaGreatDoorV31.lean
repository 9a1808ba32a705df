/- Part 31 of the proof: Rb. -/
import Derived.Test.YtfmnflhggplkmaaGreatDoorV22
import Derived.Test.YtfmnflhggplkmaaGreatDoorV30
set_option linter.all false
namespace Go.Known
open Go Go.AE Go.Proofs
open Go.Plain
attribute [local simp] wZ_skip wZ_region wZ_dregion wZ_seq wZ_condM wZ_block wZ_scope wZ_exit wZ_ret thenS_normal thenS_ret thenS_exit blockS_normal blockS_ret blockS_exit zops_nil' zops_one zops_gd pt_some pt_none ev_tmp ev_const ev_fn wt_some wt_bool wt_undef vo_some wo_some sd_mov sd_pick pk_true pk_false sd_box bx_some sd_alloc sd_build ag_some sd_mkSl mk_some sd_load sd_store sd_nilChk nl_ptr nl_iptr sd_bin sd_un sd_mkFunc sd_mkMap sd_fieldA ad_ptr ad_iptr sd_field fl_agg sd_ext ex_tuple sd_lenSl ln_some sl_nil sl_emp sl_sl sl_imm sd_idxA sd_makeSl sd_append sd_lenMap sd_lookup sd_mapUpd ix_sl ix_imm an_int Env.get argE SMem.at SMem.app SMem.get lookB eraseB AVal.cells AVal.one loadD rowAtD bn_add bn_sub bn_mul bn_quo bn_rem bn_eql bn_neq bn_lss bn_leq bn_gtr bn_geq bb_eql bb_neq unA storeD setRow fillA fillS calleeE aundef xdops_nil' xdops_one xdops_gd kp_nil kp_cons recF memN indF lookF retN oneK yieldE quietO SubR SubRE SubRB InjK InjA qOf lookN AVal.ren renL renLL ABlk.ren
abbrev bls (l:List Bool):List (List AVal):=l.map fun b=>[AVal.bool b]
theorem ren_nums (q:Nat→Nat) (l:List Nat):renLL q (nums l)=nums l:=renLL_closed q _ (closed_nums l)
theorem closed_bls:∀ (l:List Bool),closedLL (bls l)=true
 | []=>rfl
 | x :: r=>by simp only[bls,List.map_cons,closedLL]; exact closed_bls r
theorem ren_bls (q:Nat→Nat) (l:List Bool):renLL q (bls l)=bls l:=renLL_closed q _ (closed_bls l)
theorem nums_set (l:List Nat) (i x:Nat):(nums l).set i [AVal.int .i64 (x:Int)]=nums (l.set i x):=by rw[nums,nums,List.map_set]
theorem bls_set (l:List Bool) (i:Nat) (x:Bool):(bls l).set i [AVal.bool x]=bls (l.set i x):=by rw[bls,bls,List.map_set]
theorem nums_rep (n x:Nat):nums (List.replicate n x)=List.replicate n [AVal.int .i64 (x:Int)]:=by simp[nums]
theorem bls_rep (n:Nat) (b:Bool):bls (List.replicate n b)=List.replicate n [AVal.bool b]:=by simp[bls]
theorem nums_get {l:List Nat} {i x:Nat} (h:l[i]? = some x):(nums l)[i]? = some [AVal.int .i64 (x:Int)]:=by rw[nums,List.getElem?_map,h]; rfl
theorem bls_get {l:List Bool} {i:Nat} {x:Bool} (h:l[i]? = some x):(bls l)[i]? = some [AVal.bool x]:=by rw[bls,List.getElem?_map,h]; rfl
theorem len_nums (l:List Nat):(nums l).length=l.length:=by rw[nums,List.length_map]
theorem getE {α:Type} {l:List α} {i:Nat} {x:α} (h:l[i]? = some x):∃ hi:i<l.length,l[i]=x:=List.getElem?_eq_some_iff.1 h
theorem down_succ {ls:List Lt} {i:Nat} (h:i<ls.length):down ls (i+1)=if isP (at' ls i)then !down ls i else down ls i:=by
 unfold down passes
 rw[cntP_take h]
 cases isP (at' ls i)with
 | false=>simp
 | true=>
  rw[Bool.eq_iff_iff]
  simp
  omega
abbrev dV1 (F n m:Nat) (rows:List (List AVal)):ABlk:=.cells 7 [[.int .i64 (F:Int),.imm rows,.sl 3 0 n,.sl 5 0 m,.sl 4 0 n,.nilMap,.sl 2 0 (F+1)]]
abbrev dR (F:Nat) (ls:List Lt) (rows:List (List AVal)):SMem:=
 ⟨[(1,dV1 F ls.length (passes ls) rows),(2,.cells 1 (nums (cnts F ls))),(3,.cells 1 (bls (fillN ls.length ls.length (downV ls) false))),(4,.cells 1 (nums (fillN ls.length ls.length (placeV ls) 0))),(5,.cells 1 (nums (axisF ls (passes ls) ls.length)))],6⟩
set_option maxRecDepth 100000 in
set_option maxHeartbeats 4000000 in
theorem c133 (F:Nat) (ls:List Lt) (h:ls.length≤1000) (hF:F≤1000) (hG:Gated F ls) :
 Ctr Tryz.prog 99 [.ptr 1 0 0] (dM1 F (ls.map rowL)) fun r m=>(rkF ls (passes ls) ls.length=true∧r=.bool true∧m=dR F ls (ls.map rowL))∨(rkF ls (passes ls) ls.length=false∧r=.bool false∧m=⟨[],2⟩):=by
 refine ctr_P hm Tryz.func99 cf133 rfl rfl fun K hK=>?_
 have hR:=rows_of ls
 have hrr:∀ q,renLL q (ls.map rowL)=ls.map rowL:=fun q=>renLL_closed q _ (closed_rows ls)
 have hyes:rkF ls (passes ls) ls.length=true → ∀ l m,SubR 2 l [(0,.bool true)] (dR F ls (ls.map rowL)) [(0,.bool true)] m→EndK 2 K (.bool true) m:=
  fun hr l m hs=>endK (hK _ _ (.inl ⟨hr,rfl,rfl⟩)) l hs
 have hno:rkF ls (passes ls) ls.length=false → ∀ l m,SubR 2 l [(0,.bool false)] ⟨[],2⟩ [(0,.bool false)] m→EndK 2 K (.bool false) m:=
  fun hr l m hs=>endK (hK _ _ (.inr ⟨hr,rfl,rfl⟩)) l hs
 clear hK
 generalize ls.map rowL=rows at *
 have hlen:=hR.len
 have hpl:passes ls≤ls.length:=cntP_le_one
 have hwF:IntKind.i64.wrap ((F:Int)+1)=((F+1:Nat):Int):=by rw[wrap64 (by omega) (by omega)]; rfl
 have hF0:F+1≤1048576:=by omega
 have hn0:ls.length≤1048576:=by omega
 have e1:List.replicate (F+1) [AVal.int .i64 0]=nums (cnts F (ls.take 0)):=by rw[List.take_zero,cnts_nil,nums_rep]; rfl
 have e2:List.replicate ls.length [AVal.bool false]=bls (fillN ls.length 0 (downV ls) false):=by rw[fillN_zero,bls_rep]
 have e3:List.replicate ls.length [AVal.int .i64 0]=nums (fillN ls.length 0 (placeV ls) 0):=by rw[fillN_zero,nums_rep]; rfl
 simp[-Int.natCast_add,room,hwF,hF0,hlen,hn0,e1,e2,e3]
 refine wZ_loop (α:=Nat) (fun i=>[(50,.int .i64 i),(49,.int .i64 ls.length),(48,.imm rows),(3,.bool (down ls i)),(0,.ptr 1 0 0)])
  (fun i=>⟨[(1,.cells 7 [[.int .i64 (F:Int),.imm rows,.sl 3 0 ls.length,.nilSl,.sl 4 0 ls.length,.nilMap,.sl 2 0 (F+1)]]),(2,.cells 1 (nums (cnts F (ls.take i)))),(3,.cells 1 (bls (fillN ls.length i (downV ls) false))),(4,.cells 1 (nums (fillN ls.length 0 (placeV ls) 0)))],5⟩)
  (fun i=>ls.length - i) (fun i=>i≤ls.length) 0 [(2,10),(3,21),(4,32)] (by simp[hrr,ren_nums,ren_bls,down,passes,cntP]) (by simp) ?_
 intro i hi N hN
 try simp only at hi hN ⊢
 by_cases hlt:i<ls.length
 ·have hrow:=hR.row i hlt
  obtain⟨_,hrow2⟩:=getE hrow
  have hw1:IntKind.i64.wrap ((i:Int)+1)=(i:Int)+1:=wrap64 (by omega) (by omega)
  have hnext:ls.take (i+1)=ls.take i++[at' ls i]:=by
   rw[List.take_add_one,at',List.getD,List.getElem?_eq_getElem hlt]
   rfl
  have hds:=down_succ hlt
  by_cases hk:(at' ls i).k=1
  ·have hp:isP (at' ls i)=true:=by simp[isP,hk]
   obtain⟨hg1,hg2⟩:=hG _ (at'_mem hlt) hp
   obtain⟨G,hg⟩:∃ G:Nat,(at' ls i).g=(G:Nat):=⟨(at' ls i).g.toNat,by omega⟩
   have hGF:G≤F:=by omega
   have hGF1:G<F+1:=by omega
   have hc:=nums_get (cnts_get (ls:=ls.take i) hGF)
   have hcs:=cnts_pass (F:=F) (ls:=ls.take i) hp hg hGF
   have hcl:inG G (ls.take i)≤i:=cntP_le i
   have hwc:IntKind.i64.wrap ((inG G (ls.take i):Nat)+1:Int)=((inG G (ls.take i)+1:Nat):Int):=by rw[wrap64 (by omega) (by omega)]; rfl
   have hC':=nums_set (cnts F (ls.take i)) G (inG G (ls.take i)+1)
   rw[hcs,← hnext]at hC'
   have hCl:(nums (cnts F (ls.take i))).length=F+1:=by rw[len_nums,cnts_length]
   have hDv:downV ls i=down ls i:=by simp[downV,hp]
   have hD':=bls_set (fillN ls.length i (downV ls) false) i (downV ls i)
   rw[fillN_set hlt,hDv]at hD'
   have hDg:=bls_get (fillN_get (i:=i) (v:=downV ls) (d:=false) hlt)
   have hDl:(bls (fillN ls.length i (downV ls) false)).length=ls.length:=by rw[bls,List.length_map,fillN_length]
   rw[if_pos hp]at hds
   simp only[Nat.lt_irrefl,if_false]at hDg
   generalize nums (cnts F (ls.take i))=C at *
   generalize bls (fillN ls.length i (downV ls) false)=D at *
   obtain⟨_,hc2⟩:=getE hc
   obtain⟨_,hDg2⟩:=getE hDg
   simp[-Int.natCast_add,hlen,hlt,hrow2,rowL,hk,hg,hc2,hCl,hGF1,hwc,hC',hDg2,hDl,hD',hw1]
   exact hN (i+1) [] _ _ (by omega) (by omega) (by simp[hrr,ren_nums,ren_bls,hds])
  ·have hp:isP (at' ls i)=false:=by simp[isP,hk]
   have hcs:=cnts_skip (F:=F) (ls:=ls.take i) hp
   rw[← hnext]at hcs
   have hD:=fillN_skip (n:=ls.length) (i:=i) (v:=downV ls) (d:=false) (by simp[downV,hp])
   rw[if_neg (by simp[hp])]at hds
   simp[-Int.natCast_add,hlen,hlt,hrow2,rowL,hk,hw1]
   exact hN (i+1) [] _ _ (by omega) (by omega) (by simp[hrr,ren_nums,ren_bls,hds,hcs,hD])
 have he:i=ls.length:=by omega
 subst he
 clear hN
 rw[List.take_length]
 have e4:List.replicate (F+1) [AVal.int .i64 0]=nums (fillN (F+1) 0 (tot ls) 0):=by rw[fillN_zero,nums_rep]; rfl
 simp[-Int.natCast_add,room,hwF,hF0,e4]
 refine wZ_loop (α:=Nat) (fun g=>[(90,.int .i64 g),(89,.int .i64 ((F+1:Nat):Int)),(88,.sl 2 0 (F+1)),(7,.int .i64 (tot ls g:Nat)),(6,.sl 5 0 (F+1)),(0,.ptr 1 0 0)])
  (fun g=>⟨[(1,.cells 7 [[.int .i64 (F:Int),.imm rows,.sl 3 0 ls.length,.nilSl,.sl 4 0 ls.length,.nilMap,.sl 2 0 (F+1)]]),(2,.cells 1 (nums (cnts F ls))),(3,.cells 1 (bls (fillN ls.length ls.length (downV ls) false))),(4,.cells 1 (nums (fillN ls.length 0 (placeV ls) 0))),(5,.cells 1 (nums (fillN (F+1) g (tot ls) 0)))],6⟩)
  (fun g=>F+1 - g) (fun g=>g≤F+1) 0 [(5,12)] (by simp[hrr,ren_nums,ren_bls,tot_zero hG]) (by simp) ?_
 intro g hg N hN
 try simp only at hg hN ⊢
 by_cases hlt:g<F+1
 ·have hw1:IntKind.i64.wrap ((g:Int)+1)=(g:Int)+1:=wrap64 (by omega) (by omega)
  have hc:=nums_get (cnts_get (ls:=ls) (show g≤F by omega))
  have hCl:(nums (cnts F ls)).length=F+1:=by rw[len_nums,cnts_length]
  have hts:=tot_succ ls g
  have htl:=tot_le ls (g+1)
  have hwt:IntKind.i64.wrap ((tot ls g:Nat)+(inG g ls:Nat):Int)=((tot ls (g+1):Nat):Int):=by rw[wrap64 (by omega) (by omega)]; omega
  have hFg:=nums_get (fillN_get (i:=g) (v:=tot ls) (d:=0) hlt)
  have hFs:=nums_set (fillN (F+1) g (tot ls) 0) g (tot ls g)
  rw[fillN_set hlt]at hFs
  have hFl:(nums (fillN (F+1) g (tot ls) 0)).length=F+1:=by rw[len_nums,fillN_length]
  simp only[Nat.lt_irrefl,if_false]at hFg
  generalize nums (fillN (F+1) g (tot ls) 0)=T at *
  generalize hCe:nums (cnts F ls)=C at *
  obtain⟨_,hc2⟩:=getE hc
  obtain⟨_,hFg2⟩:=getE hFg
  have hrC:∀ q,renLL q C=C:=fun q=>by rw[← hCe]; exact ren_nums q _
  simp[-Int.natCast_add,hlt,hc2,hCl,hwt,hFg2,hFs,hFl,hw1]
  exact hN (g+1) [] _ _ (by omega) (by omega) (by simp[hrr,ren_nums,ren_bls,hrC])
 have he:g=F+1:=by omega
 subst he
 clear hN
 rw[tot_full hG]
 have hp0:passes ls≤1048576:=by omega
 have e5:List.replicate (passes ls) [AVal.int .i64 0]=nums (axisF ls (passes ls) 0):=by rw[axisF,nums_rep]; rfl
 have e6:List.replicate (passes ls) [AVal.bool false]=bls (takenF ls (passes ls) 0):=by rw[takenF,bls_rep]
 simp[-Int.natCast_add,room,hlen,hp0,e5,e6]
 refine wZ_loop (α:=Nat) (fun i=>[(116,.int .i64 i),(115,.int .i64 ls.length),(114,.imm rows),(10,.sl 7 0 (passes ls)),(6,.sl 6 0 (F+1)),(0,.ptr 1 0 0)])
  (fun i=>⟨[(1,dV1 F ls.length (passes ls) rows),(2,.cells 1 (nums (cnts F ls))),(3,.cells 1 (bls (fillN ls.length ls.length (downV ls) false))),(4,.cells 1 (nums (fillN ls.length i (placeV ls) 0))),(5,.cells 1 (nums (axisF ls (passes ls) i))),(6,.cells 1 (nums (fillN (F+1) (F+1) (tot ls) 0))),(7,.cells 1 (bls (takenF ls (passes ls) i)))],8⟩)
  (fun i=>ls.length - i) (fun i=>i≤ls.length∧rkF ls (passes ls) i=true) 0 [(6,5),(5,9),(7,14)] (by simp[hrr,ren_nums,ren_bls]) (by simp[rkF]) ?_
 rintro i ⟨hi,hrk⟩ N hN
 try simp only at hi hrk hN ⊢
 by_cases hlt:i<ls.length
 ·have hrow:=hR.row i hlt
  obtain⟨_,hrow2⟩:=getE hrow
  have hw1:IntKind.i64.wrap ((i:Int)+1)=(i:Int)+1:=wrap64 (by omega) (by omega)
  by_cases hk:(at' ls i).k=1
  ·have hp:isP (at' ls i)=true:=by simp[isP,hk]
   have hin:=at'_mem hlt
   obtain⟨hg1,hg2⟩:=hG _ hin hp
   have hrs:rkF ls (passes ls) (i+1)=(decide (1≤(at' ls i).r)&&decide ((at' ls i).r≤(inG (at' ls i).g ls:Nat)) && !(takenF ls (passes ls) i).getD (pos ls (at' ls i)) true):=by
    simp[rkF,hrk,hp]
   have hbad:rkF ls (passes ls) (i+1)=false→rkF ls (passes ls) ls.length=false:=fun hb=>by
    cases hq:rkF ls (passes ls) ls.length with
    | false=>rfl
    | true=>rw[rkF_le (show i+1≤ls.length by omega) hq]at hb; cases hb
   by_cases hr1:(at' ls i).r<1
   ·simp[-Int.natCast_add,hlen,hlt,hrow2,rowL,hk,hr1]
    exact hno (hbad (by rw[hrs]; simp; omega)) [] _ (by simp)
   obtain⟨G,hg⟩:∃ G:Nat,(at' ls i).g=(G:Nat):=⟨(at' ls i).g.toNat,by omega⟩
   have hGF:G≤F:=by omega
   have hGF1:G<F+1:=by omega
   have hc:=nums_get (cnts_get (ls:=ls) hGF)
   have hCl:(nums (cnts F ls)).length=F+1:=by rw[len_nums,cnts_length]
   by_cases hr2:(inG (G:Nat) ls:Nat)<(at' ls i).r
   ·generalize nums (cnts F ls)=C at *
    obtain⟨_,hc2⟩:=getE hc
    simp[-Int.natCast_add,hlen,hlt,hrow2,rowL,hk,hr1,hg,hc2,hCl,hGF1,hr2]
    exact hno (hbad (by rw[hrs,hg]; simp; omega)) [] _ (by simp)
   have hpos:=pos_lt hG hin hp (by omega) (by rw[hg]; omega)
   have hpe:=pos_eq (ls:=ls) hg
   have hFg:=nums_get (fillN_get (n:=F+1) (i:=F+1) (v:=tot ls) (d:=0) (j:=G) hGF1)
   rw[if_pos hGF1]at hFg
   have hFl:(nums (fillN (F+1) (F+1) (tot ls) 0)).length=F+1:=by rw[len_nums,fillN_length]
   have hwa:IntKind.i64.wrap ((tot ls G:Nat)+(at' ls i).r)=((pos ls (at' ls i)+1:Nat):Int):=by rw[wrap64 (by omega) (by omega)]; omega
   have hwb:IntKind.i64.wrap (((pos ls (at' ls i)+1:Nat):Int) - 1)=((pos ls (at' ls i):Nat):Int):=by rw[wrap64 (by omega) (by omega)]; omega
   have htl:=takenF_length ls (passes ls) i
   have hxl:=axisF_length ls (passes ls) i
   obtain⟨tb,htb⟩:∃ tb,(takenF ls (passes ls) i)[pos ls (at' ls i)]? = some tb:=⟨_,List.getElem?_eq_getElem (by omega)⟩
   have htg:(takenF ls (passes ls) i).getD (pos ls (at' ls i)) true=tb:=by rw[List.getD,htb]; rfl
   have htb':=bls_get htb
   have hTl:(bls (takenF ls (passes ls) i)).length=passes ls:=by rw[bls,List.length_map,htl]
   have hTs:=bls_set (takenF ls (passes ls) i) (pos ls (at' ls i)) true
   have hT1:(takenF ls (passes ls) i).set (pos ls (at' ls i)) true=takenF ls (passes ls) (i+1):=by simp[takenF,hp]
   rw[hT1]at hTs
   have hXl:(nums (axisF ls (passes ls) i)).length=passes ls:=by rw[len_nums,hxl]
   have hXs:=nums_set (axisF ls (passes ls) i) (pos ls (at' ls i)) i
   have hX1:(axisF ls (passes ls) i).set (pos ls (at' ls i)) i=axisF ls (passes ls) (i+1):=by simp[axisF,hp]
   rw[hX1]at hXs
   obtain⟨xv,hxv⟩:∃ xv,(axisF ls (passes ls) i)[pos ls (at' ls i)]? = some xv:=⟨_,List.getElem?_eq_getElem (by omega)⟩
   have hxv':=nums_get hxv
   have hPl:(nums (fillN ls.length i (placeV ls) 0)).length=ls.length:=by rw[len_nums,fillN_length]
   have hPv:placeV ls i=pos ls (at' ls i):=by simp[placeV,hp]
   have hPs:=nums_set (fillN ls.length i (placeV ls) 0) i (placeV ls i)
   rw[fillN_set hlt,hPv]at hPs
   have hPg:=nums_get (fillN_get (i:=i) (v:=placeV ls) (d:=0) hlt)
   simp only[Nat.lt_irrefl,if_false]at hPg
   rw[htg,hg]at hrs
   clear hpe hxl hxv htb htg htl hX1 hT1 hPv
   generalize hp':pos ls (at' ls i)=p at *
   generalize hCe:nums (cnts F ls)=C at *
   generalize hFe:nums (fillN (F+1) (F+1) (tot ls) 0)=T at *
   generalize bls (takenF ls (passes ls) i)=B at *
   generalize nums (axisF ls (passes ls) i)=X at *
   generalize nums (fillN ls.length i (placeV ls) 0)=Y at *
   have hrC:∀ q,renLL q C=C:=fun q=>by rw[← hCe]; exact ren_nums q _
   have hrT:∀ q,renLL q T=T:=fun q=>by rw[← hFe]; exact ren_nums q _
   obtain⟨_,hc2⟩:=getE hc
   obtain⟨_,hFg2⟩:=getE hFg
   obtain⟨_,htb2⟩:=getE htb'
   obtain⟨_,hxv2⟩:=getE hxv'
   obtain⟨_,hPg2⟩:=getE hPg
   cases tb with
   | true=>
    simp[-Int.natCast_add,hlen,hlt,hrow2,rowL,hk,hr1,hg,hc2,hCl,hGF1,hr2,hFg2,hFl,hwa,hwb,hpos,htb2,hTl]
    exact hno (hbad (by rw[hrs]; simp)) [] _ (by simp)
   | false=>
    simp[-Int.natCast_add,hlen,hlt,hrow2,rowL,hk,hr1,hg,hc2,hCl,hGF1,hr2,hFg2,hFl,hwa,hwb,hpos,htb2,hTl,hTs,hXl,hxv2,hXs,hPl,hPg2,hPs,hw1]
    exact hN (i+1) [] _ _ (by omega) ⟨by omega,by rw[hrs]; simp; omega⟩ (by simp[hrr,ren_nums,ren_bls,hrC,hrT])
  ·have hp:isP (at' ls i)=false:=by simp[isP,hk]
   have hT:takenF ls (passes ls) (i+1)=takenF ls (passes ls) i:=by simp[takenF,hp]
   have hX:axisF ls (passes ls) (i+1)=axisF ls (passes ls) i:=by simp[axisF,hp]
   have hY:=fillN_skip (n:=ls.length) (i:=i) (v:=placeV ls) (d:=0) (by simp[placeV,hp])
   simp[-Int.natCast_add,hlen,hlt,hrow2,rowL,hk,hw1]
   exact hN (i+1) [] _ _ (by omega) ⟨by omega,by simp[rkF,hrk,hp]⟩ (by simp[hrr,ren_nums,ren_bls,hT,hX,hY])
 have he:i=ls.length:=by omega
 subst he
 simp[-Int.natCast_add]
 exact hyes hrk [] _ (by simp[hrr,ren_nums,ren_bls])
end Go.Known
