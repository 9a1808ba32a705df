/- Part 33 of the proof: Rd. -/
import Derived.Test.YtfmnflhggplkmaaGreatDoorV30
import Derived.Test.YtfmnflhggplkmaaGreatDoorV32
set_option linter.all false
namespace Go.Known
open Go Go.AE Go.Proofs
open Go.Plain
attribute [local simp] wZ_skip wZ_region wZ_dregion wZ_seq wZ_condM wZ_block wZ_scope wZ_exit wZ_ret thenS_normal thenS_ret thenS_exit blockS_normal blockS_ret blockS_exit zops_nil' zops_one zops_gd pt_some pt_none ev_tmp ev_const ev_fn wt_some wt_bool wt_undef vo_some wo_some sd_mov sd_pick pk_true pk_false sd_box bx_some sd_alloc sd_build ag_some sd_mkSl mk_some sd_load sd_store sd_nilChk nl_ptr nl_iptr sd_bin sd_un sd_mkFunc sd_mkMap sd_fieldA ad_ptr ad_iptr sd_field fl_agg sd_ext ex_tuple sd_lenSl ln_some sl_nil sl_emp sl_sl sl_imm sd_idxA sd_makeSl sd_append sd_lenMap sd_lookup sd_mapUpd ix_sl ix_imm an_int Env.get argE SMem.at SMem.app SMem.get lookB eraseB AVal.cells AVal.one loadD rowAtD bn_add bn_sub bn_mul bn_quo bn_rem bn_eql bn_neq bn_lss bn_leq bn_gtr bn_geq bb_eql bb_neq unA storeD setRow fillA fillS calleeE aundef xdops_nil' xdops_one xdops_gd kp_nil kp_cons recF memN indF lookF retN oneK yieldE quietO SubR SubRE SubRB InjK InjA qOf lookN AVal.ren renL renLL ABlk.ren renB lessB qKeys footWD footRD blkOf FT.indep apartL apart1 belowL subL in1 sd_idxAA
abbrev dF (F:Nat) (ls:List Lt) (rows:List (List AVal)) (E:List Ent):SMem:=
 dM F ls.length (axis ls).length rows (nums (cnts F ls)) (bls (fillN ls.length ls.length (downV ls) false)) (nums (fillN ls.length ls.length (placeV ls) 0)) (nums (axis ls)) E
structure Filled (ls:List Lt) (E:List Ent):Prop where
 small:ls.length≤1000
 some:0<(axis ls).length
 kind:∀ v,v<ls.length→(at' ls v).k=1∨(at' ls v).k=2
 place:∀ v,v<ls.length→(at' ls v).k=1→placeV ls v=idxN v (axis ls)∧idxN v (axis ls)<(axis ls).length
 cross:∀ v,v<ls.length→(at' ls v).k=2 → ∃ p w,fnd (at' ls v).i E=.some (p,w)∧slotV (!(at' ls v).o) w=(otherN ls v ls.length 0:Nat)∧otherN ls v ls.length 0<ls.length
theorem c136 (F:Nat) (ls:List Lt) (E:List Ent) (i:Nat) (h:ls.length≤1000) (hi:i<ls.length) :
 Ctr Tryz.prog 139 [.ptr 1 0 0,.int .i64 i] (dF F ls (ls.map rowL) E) fun r m=>r=.int .i64 (alongN ls.length i false:Nat)∧m=dF F ls (ls.map rowL) E:=by
 refine ctr_1 hm Tryz.func139 cf136 rfl rfl fun K hK=>?_
 have hR:=rows_of ls
 have hrr:∀ q,renLL q (ls.map rowL)=ls.map rowL:=fun q=>renLL_closed q _ (closed_rows ls)
 generalize ls.map rowL=rows at *
 have hlen:=hR.len
 have hn0:¬((ls.length:Int)=0):=by omega
 have hne:ls≠[]:=by intro e; subst e; simp at hi
 have hw1:IntKind.i64.wrap ((i:Int) - 1)=(i:Int) - 1:=wrap64 (by omega) (by omega)
 have hw2:IntKind.i64.wrap ((i:Int) - 1+ls.length)=((i+ls.length - 1:Nat):Int):=by rw[wrap64 (by omega) (by omega)]; omega
 have hmod:=Nat.mod_lt (i+ls.length - 1) (show 0<ls.length by omega)
 have hal:((alongN ls.length i false:Nat):Int)=2*(((i+ls.length - 1) % ls.length:Nat):Int)+1:=by simp only[alongN,Bool.false_eq_true,if_false]; omega
 have hm2:((i+ls.length - 1:Nat):Int).tmod (ls.length:Int)=(((i+ls.length - 1) % ls.length:Nat):Int):=rfl
 generalize (i+ls.length - 1) % ls.length=x at *
 generalize i+ls.length - 1=y at *
 have hw3:IntKind.i64.wrap (2*(x:Int))=2*(x:Int):=wrap64 (by omega) (by omega)
 have hw4:IntKind.i64.wrap (2*(x:Int)+1)=2*(x:Int)+1:=wrap64 (by omega) (by omega)
 simp[hlen,hw1,hw2,hne,hm2,hw3,hw4]
 refine endK hK [] ?_
 simp[hrr,ren_nums,ren_bls,ren_mkE,hal]
theorem c137 (F:Nat) (ls:List Lt) (E:List Ent) (i:Nat) (h:ls.length≤1000) (hi:i<ls.length) :
 Ctr Tryz.prog 140 [.ptr 1 0 0,.int .i64 i] (dF F ls (ls.map rowL) E) fun r m=>r=.int .i64 (alongN ls.length i true:Nat)∧m=dF F ls (ls.map rowL) E:=by
 refine ctr_1 hm Tryz.func140 cf137 rfl rfl fun K hK=>?_
 have hrr:∀ q,renLL q (ls.map rowL)=ls.map rowL:=fun q=>renLL_closed q _ (closed_rows ls)
 generalize ls.map rowL=rows at *
 have hal:((alongN ls.length i true:Nat):Int)=2*(i:Int):=by simp only[alongN,if_true]; omega
 have hw3:IntKind.i64.wrap (2*(i:Int))=2*(i:Int):=wrap64 (by omega) (by omega)
 simp[hw3]
 refine endK hK [] ?_
 simp[hrr,ren_nums,ren_bls,ren_mkE,hal]
set_option maxRecDepth 100000 in
set_option maxHeartbeats 4000000 in
theorem c105 (F:Nat) (ls:List Lt) (E:List Ent) (hg:Filled ls E) (d:Nat) (hd:d<2*ls.length+2*(axis ls).length) :
 Ctr Tryz.prog 121 [.ptr 1 0 0,.int .i64 d] (dF F ls (ls.map rowL) E) fun r m=>r=.int .i64 (turnN ls (axis ls) d:Nat)∧m=dF F ls (ls.map rowL) E:=by
 refine ctr_1 hm Tryz.func121 cf105 rfl rfl fun K hK=>?_
 have hR:=rows_of ls
 have h:=hg.small
 have h136:=fun i hi=>c136 F ls E i h hi
 have h137:=fun i hi=>c137 F ls E i h hi
 unfold dF dM dV2 at *
 have hrr:∀ q,renLL q (ls.map rowL)=ls.map rowL:=fun q=>renLL_closed q _ (closed_rows ls)
 generalize ls.map rowL=rows at *
 have hlen:=hR.len
 have hm0:=hg.some
 have hml:(axis ls).length≤ls.length:=by rw[axis_length]; exact cntP_le_one
 have hAl:(nums (axis ls)).length=(axis ls).length:=len_nums _
 have hBl:(bls (fillN ls.length ls.length (downV ls) false)).length=ls.length:=by rw[bls,List.length_map,fillN_length]
 have hCl:(nums (fillN ls.length ls.length (placeV ls) 0)).length=ls.length:=by rw[len_nums,fillN_length]
 have hBg:∀ v,v<ls.length→(bls (fillN ls.length ls.length (downV ls) false))[v]? = some [AVal.bool (downV ls v)]:=fun v hv=>by
  have:=bls_get (fillN_get (i:=ls.length) (v:=downV ls) (d:=false) hv)
  rw[if_pos hv]at this; exact this
 have hCg:∀ v,v<ls.length→(nums (fillN ls.length ls.length (placeV ls) 0))[v]? = some [AVal.int .i64 (placeV ls v:Nat)]:=fun v hv=>by
  have:=nums_get (fillN_get (i:=ls.length) (v:=placeV ls) (d:=0) hv)
  rw[if_pos hv]at this; exact this
 have hAg:∀ j,j<(axis ls).length→(nums (axis ls))[j]? = some [AVal.int .i64 ((axis ls).getD j 0:Nat)]:=fun j hj=>by
  apply nums_get
  rw[List.getElem?_eq_getElem hj,List.getD,List.getElem?_eq_getElem hj]; rfl
 have hAm:∀ j,j<(axis ls).length→(axis ls).getD j 0<ls.length∧isP (at' ls ((axis ls).getD j 0))=true:=fun j hj=>by
  have:(axis ls).getD j 0=(axis ls)[j]:=by rw[List.getD,List.getElem?_eq_getElem hj]; rfl
  rw[this]
  exact mem_axis.1 (List.getElem_mem hj)
 have hplace:=hg.place
 have hcross:=hg.cross
 have hkind:=hg.kind
 have hn0:¬((ls.length:Int)=0):=by omega
 have hne:ls≠[]:=by intro e; rw[e]at hml hm0; have:([]:List Lt).length=0:=rfl; omega
 have hmz:¬(((axis ls).length:Nat):Int)=0:=by omega
 have hmz':axis ls≠[]:=by intro e; rw[e]at hm0; simp at hm0
 have hw2n:IntKind.i64.wrap (2*(ls.length:Int))=2*(ls.length:Int):=wrap64 (by omega) (by omega)
 have fin:∀ v m,v=turnN ls (axis ls) d→SubR 7 [] [(0,.int .i64 (v:Nat))] ⟨[(1,.cells 7 [[.int .i64 (F:Int),.imm rows,.sl 3 0 ls.length,.sl 5 0 (axis ls).length,.sl 4 0 ls.length,.map 6,.sl 2 0 (F+1)]]),(2,.cells 1 (nums (cnts F ls))),(3,.cells 1 (bls (fillN ls.length ls.length (downV ls) false))),(4,.cells 1 (nums (fillN ls.length ls.length (placeV ls) 0))),(5,.cells 1 (nums (axis ls))),(6,.map (mkE 0 E) E.length)],7⟩ [(0,.int .i64 (v:Nat))] m→EndK 7 K (.int .i64 (v:Nat)) m:=fun v m hv hs=>by
  subst hv; exact endK hK [] hs
 clear hK
 unfold turnN at fin
 generalize hBe:bls (fillN ls.length ls.length (downV ls) false)=B at *
 generalize hCe:nums (fillN ls.length ls.length (placeV ls) 0)=C at *
 generalize hAe:nums (axis ls)=A at *
 have hrA:∀ q,renLL q A=A:=fun q=>by rw[← hAe]; exact ren_nums q _
 have hrB:∀ q,renLL q B=B:=fun q=>by rw[← hBe]; exact ren_bls q _
 have hrC:∀ q,renLL q C=C:=fun q=>by rw[← hCe]; exact ren_nums q _
 generalize hme:(axis ls).length=m at *
 have hm00:¬m=0:=by omega
 have htm:(d:Int).tmod 2=((d % 2:Nat):Int):=rfl
 by_cases hd1:2*ls.length≤d
 ·rw[if_pos hd1]at fin
  have hd1':2*(ls.length:Int)≤(d:Int):=by omega
  obtain⟨e,he⟩:∃ e,d - 2*ls.length=e:=⟨_,rfl⟩
  have hws:IntKind.i64.wrap ((d:Int) - 2*(ls.length:Int))=(e:Int):=by rw[wrap64 (by omega) (by omega)]; omega
  obtain⟨j,hj⟩:∃ j,e / 2=j:=⟨_,rfl⟩
  have hwj:IntKind.i64.wrap ((e:Int) / 2)=(j:Int):=by rw[wrap64 (by omega) (by omega)]; omega
  rw[he,hj]at fin
  have hjm:j<m:=by omega
  have hAj:=hAg j hjm
  obtain⟨_,hAj2⟩:=getE hAj
  by_cases hpar:d % 2=0
  ·rw[if_pos hpar]at fin
   have hpar':=hpar
   obtain⟨y,hy⟩:∃ y,(j+1) % m=y:=⟨_,rfl⟩
   have hym:y<m:=by rw[← hy]; exact Nat.mod_lt _ hm0
   have hwj1:IntKind.i64.wrap ((j:Int)+1)=(j:Int)+1:=wrap64 (by omega) (by omega)
   have hy2:((j:Int)+1) % (m:Int)=(y:Int):=by rw[← hy]; rfl
   have hy3:((j:Int)+1).tmod (m:Int)=(y:Int):=by rw[← hy]; rfl
   have hAy:=hAg y hym
   obtain⟨_,hAy2⟩:=getE hAy
   obtain⟨hvl,hvp⟩:=hAm y hym
   rw[hy]at fin
   generalize (axis ls).getD y 0=v at *
   have hBv:=hBg v hvl
   obtain⟨_,hBv2⟩:=getE hBv
   have hdv:downV ls v=down ls v:=by simp[downV,hvp]
   rw[hdv]at hBv hBv2
   cases hdn:down ls v with
   | true=>
    rw[hdn]at fin hBv hBv2
    simp[hlen,hw2n,hd1',hws,hwj,hjm,hAj2,hAl,htm,hpar',hm00,hwj1,hy3,hym,hAy2,hvl,hBv2,hBl]
    refine SC_ctr (h136 v hvl) [] (by simp) (by simp[hrr,hrA,hrB,hrC,ren_mkE,ren_nums]) (by simp) ?_
    rintro r sm ⟨rfl,rfl⟩
    simp[hrr,hrA,hrB,hrC,ren_mkE,ren_nums]
    exact fin _ _ rfl (by simp[hrr,hrA,hrB,hrC,ren_mkE,ren_nums])
   | false=>
    rw[hdn]at fin hBv hBv2
    simp[hlen,hw2n,hd1',hws,hwj,hjm,hAj2,hAl,htm,hpar',hm00,hwj1,hy3,hym,hAy2,hvl,hBv2,hBl]
    refine SC_ctr (h137 v hvl) [] (by simp) (by simp[hrr,hrA,hrB,hrC,ren_mkE,ren_nums]) (by simp) ?_
    rintro r sm ⟨rfl,rfl⟩
    simp[hrr,hrA,hrB,hrC,ren_mkE,ren_nums]
    exact fin _ _ rfl (by simp[hrr,hrA,hrB,hrC,ren_mkE,ren_nums])
  ·rw[if_neg hpar]at fin
   have hpar':d % 2=1:=by omega
   obtain⟨hvl,hvp⟩:=hAm j hjm
   generalize (axis ls).getD j 0=v at *
   have hBv:=hBg v hvl
   obtain⟨_,hBv2⟩:=getE hBv
   have hdv:downV ls v=down ls v:=by simp[downV,hvp]
   rw[hdv]at hBv hBv2
   cases hdn:down ls v with
   | true=>
    rw[hdn]at fin hBv hBv2
    simp[hlen,hw2n,hd1',hws,hwj,hjm,hAj2,hAl,htm,hpar',hvl,hBv2,hBl]
    refine SC_ctr (h137 v hvl) [] (by simp) (by simp[hrr,hrA,hrB,hrC,ren_mkE,ren_nums]) (by simp) ?_
    rintro r sm ⟨rfl,rfl⟩
    simp[hrr,hrA,hrB,hrC,ren_mkE,ren_nums]
    exact fin _ _ rfl (by simp[hrr,hrA,hrB,hrC,ren_mkE,ren_nums])
   | false=>
    rw[hdn]at fin hBv hBv2
    simp[hlen,hw2n,hd1',hws,hwj,hjm,hAj2,hAl,htm,hpar',hvl,hBv2,hBl]
    refine SC_ctr (h136 v hvl) [] (by simp) (by simp[hrr,hrA,hrB,hrC,ren_mkE,ren_nums]) (by simp) ?_
    rintro r sm ⟨rfl,rfl⟩
    simp[hrr,hrA,hrB,hrC,ren_mkE,ren_nums]
    exact fin _ _ rfl (by simp[hrr,hrA,hrB,hrC,ren_mkE,ren_nums])
 rw[if_neg hd1]at fin
 have hd1':¬2*(ls.length:Int)≤(d:Int):=by omega
 obtain⟨g,hgd⟩:∃ g,d / 2=g:=⟨_,rfl⟩
 rw[hgd]at fin
 have hwd:IntKind.i64.wrap ((d:Int) / 2)=(g:Int):=by rw[wrap64 (by omega) (by omega)]; omega
 have hwd1:IntKind.i64.wrap ((g:Int)+1)=(g:Int)+1:=wrap64 (by omega) (by omega)
 obtain⟨v,hv⟩:∃ v,(if d % 2=0 then (g+1) % ls.length else g)=v:=⟨_,rfl⟩
 have hvl:v<ls.length:=by
  rw[← hv]
  split
  ·exact Nat.mod_lt _ (by omega)
  ·omega
 rw[hv]at fin
 simp only at fin
 have hrow:=hR.row v hvl
 obtain⟨_,hrow2⟩:=getE hrow
 have hBv:=hBg v hvl
 obtain⟨_,hBv2⟩:=getE hBv
 have hCv:=hCg v hvl
 obtain⟨_,hCv2⟩:=getE hCv
 have hkv:=hkind v hvl
 have hpl:=hplace v hvl
 have hcr:=hcross v hvl
 by_cases hpar:d % 2=0
 ·rw[if_pos hpar]at hv
  have hpar':=hpar
  have hb:(d % 2 == 0)=true:=by simp[hpar]
  have hmd:((g:Int)+1).tmod (ls.length:Int)=(v:Int):=by rw[← hv]; rfl
  rw[hb]at fin
  by_cases hk:(at' ls v).k=2
  ·rw[if_pos hk]at fin
   obtain⟨p,w,hf,hs,ho⟩:=hcr hk
   have hfa:=find_mkE (at' ls v).i 0 E
   rw[hf]at hfa
   simp only[visV]at hfa
   generalize otherN ls v ls.length 0=x at *
   cases hov:(at' ls v).o with
   | true=>
    rw[hov]at fin hs
    simp only[slotV,Bool.not_true,Bool.false_eq_true,if_false]at hs
    by_cases hsg:(at' ls v).s=1
    ·have hsb:((at' ls v).s == 1)=true:=by simp[hsg]
     rw[hsb]at fin
     simp[hlen,hw2n,hd1',hwd,htm,hpar',hwd1,hne,hmd,hvl,hrow2,rowL,hk,hfa,hov,hsg,hs]
     refine SC_ctr (h137 x ho) [] (by simp) (by simp[hrr,hrA,hrB,hrC,ren_mkE,ren_nums]) (by simp) ?_
     rintro r sm ⟨rfl,rfl⟩
     simp[hrr,hrA,hrB,hrC,ren_mkE,ren_nums]
     exact fin _ _ rfl (by simp[hrr,hrA,hrB,hrC,ren_mkE,ren_nums])
    ·have hsb:((at' ls v).s == 1)=false:=by simp[hsg]
     rw[hsb]at fin
     simp[hlen,hw2n,hd1',hwd,htm,hpar',hwd1,hne,hmd,hvl,hrow2,rowL,hk,hfa,hov,hsg,hs]
     refine SC_ctr (h136 x ho) [] (by simp) (by simp[hrr,hrA,hrB,hrC,ren_mkE,ren_nums]) (by simp) ?_
     rintro r sm ⟨rfl,rfl⟩
     simp[hrr,hrA,hrB,hrC,ren_mkE,ren_nums]
     exact fin _ _ rfl (by simp[hrr,hrA,hrB,hrC,ren_mkE,ren_nums])
   | false=>
    rw[hov]at fin hs
    simp only[slotV,Bool.not_false,if_true]at hs
    by_cases hsg:(at' ls v).s=1
    ·have hsb:((at' ls v).s == 1)=true:=by simp[hsg]
     rw[hsb]at fin
     simp[hlen,hw2n,hd1',hwd,htm,hpar',hwd1,hne,hmd,hvl,hrow2,rowL,hk,hfa,hov,hsg,hs]
     refine SC_ctr (h136 x ho) [] (by simp) (by simp[hrr,hrA,hrB,hrC,ren_mkE,ren_nums]) (by simp) ?_
     rintro r sm ⟨rfl,rfl⟩
     simp[hrr,hrA,hrB,hrC,ren_mkE,ren_nums]
     exact fin _ _ rfl (by simp[hrr,hrA,hrB,hrC,ren_mkE,ren_nums])
    ·have hsb:((at' ls v).s == 1)=false:=by simp[hsg]
     rw[hsb]at fin
     simp[hlen,hw2n,hd1',hwd,htm,hpar',hwd1,hne,hmd,hvl,hrow2,rowL,hk,hfa,hov,hsg,hs]
     refine SC_ctr (h137 x ho) [] (by simp) (by simp[hrr,hrA,hrB,hrC,ren_mkE,ren_nums]) (by simp) ?_
     rintro r sm ⟨rfl,rfl⟩
     simp[hrr,hrA,hrB,hrC,ren_mkE,ren_nums]
     exact fin _ _ rfl (by simp[hrr,hrA,hrB,hrC,ren_mkE,ren_nums])
  ·have hk1:(at' ls v).k=1:=hkv.resolve_right hk
   have hp:isP (at' ls v)=true:=by simp[isP,hk1]
   rw[if_neg hk]at fin
   obtain⟨hpv,hpm⟩:=hpl hk1
   rw[hpv]at hCv hCv2
   have hdv:downV ls v=down ls v:=by simp[downV,hp]
   rw[hdv]at hBv hBv2
   generalize idxN v (axis ls)=x at *
   have hwx:IntKind.i64.wrap (2*(x:Int))=2*(x:Int):=wrap64 (by omega) (by omega)
   have hwx2:IntKind.i64.wrap (2*(ls.length:Int)+2*(x:Int))=((2*ls.length+2*x:Nat):Int):=by rw[wrap64 (by omega) (by omega)]; omega
   have hwy:IntKind.i64.wrap ((x:Int) - 1)=(x:Int) - 1:=wrap64 (by omega) (by omega)
   have hwy2:IntKind.i64.wrap ((x:Int) - 1+m)=((x+m - 1:Nat):Int):=by rw[wrap64 (by omega) (by omega)]; omega
   have hmy:((x+m - 1:Nat):Int).tmod (m:Int)=(((x+m - 1) % m:Nat):Int):=rfl
   have hylt:=Nat.mod_lt (x+m - 1) hm0
   generalize (x+m - 1) % m=y at *
   generalize x+m - 1=y0 at *
   have hwz:IntKind.i64.wrap (2*(y:Int))=2*(y:Int):=wrap64 (by omega) (by omega)
   have hwz2:IntKind.i64.wrap (2*(ls.length:Int)+2*(y:Int))=2*(ls.length:Int)+2*(y:Int):=wrap64 (by omega) (by omega)
   have hwz3:IntKind.i64.wrap (2*(ls.length:Int)+2*(y:Int)+1)=((2*ls.length+2*y+1:Nat):Int):=by rw[wrap64 (by omega) (by omega)]; omega
   cases hdn:down ls v with
   | true=>
    rw[hdn]at fin hBv hBv2
    rw[if_pos rfl]at fin
    simp[-Int.natCast_add,-Int.natCast_mul,hlen,hw2n,hd1',hwd,htm,hpar',hm00,hwd1,hn0,hne,hmd,hvl,hrow,hrow2,rowL,hBv,hBv2,hBl,hk1,hCl,hCv,hCv2,hwx,hwx2,hwy,hwy2,hmz,hmz',hmy,hwz,hwz2,hwz3]
    exact fin _ _ rfl (by simp[hrr,hrA,hrB,hrC,ren_mkE,ren_nums])
   | false=>
    rw[hdn]at fin hBv hBv2
    rw[if_neg (by simp)]at fin
    simp[-Int.natCast_add,-Int.natCast_mul,hlen,hw2n,hd1',hwd,htm,hpar',hm00,hwd1,hne,hmd,hvl,hrow2,rowL,hBv2,hBl,hk1,hCl,hCv2,hwy,hwy2,hmy,hwz,hwz2,hwz3]
    exact fin _ _ rfl (by simp[hrr,hrA,hrB,hrC,ren_mkE,ren_nums])
 ·rw[if_neg hpar]at hv
  have hpar':d % 2=1:=by omega
  have hb:(d % 2 == 0)=false:=by simp[hpar]
  rw[hv]at hwd
  rw[hb]at fin
  by_cases hk:(at' ls v).k=2
  ·rw[if_pos hk]at fin
   obtain⟨p,w,hf,hs,ho⟩:=hcr hk
   have hfa:=find_mkE (at' ls v).i 0 E
   rw[hf]at hfa
   simp only[visV]at hfa
   generalize otherN ls v ls.length 0=x at *
   cases hov:(at' ls v).o with
   | true=>
    rw[hov]at fin hs
    simp only[slotV,Bool.not_true,Bool.false_eq_true,if_false]at hs
    by_cases hsg:(at' ls v).s=1
    ·have hsb:((at' ls v).s == 1)=true:=by simp[hsg]
     rw[hsb]at fin
     simp[hlen,hw2n,hd1',hwd,htm,hpar',hvl,hrow2,rowL,hk,hfa,hov,hsg,hs]
     refine SC_ctr (h136 x ho) [] (by simp) (by simp[hrr,hrA,hrB,hrC,ren_mkE,ren_nums]) (by simp) ?_
     rintro r sm ⟨rfl,rfl⟩
     simp[hrr,hrA,hrB,hrC,ren_mkE,ren_nums]
     exact fin _ _ rfl (by simp[hrr,hrA,hrB,hrC,ren_mkE,ren_nums])
    ·have hsb:((at' ls v).s == 1)=false:=by simp[hsg]
     rw[hsb]at fin
     simp[hlen,hw2n,hd1',hwd,htm,hpar',hvl,hrow2,rowL,hk,hfa,hov,hsg,hs]
     refine SC_ctr (h137 x ho) [] (by simp) (by simp[hrr,hrA,hrB,hrC,ren_mkE,ren_nums]) (by simp) ?_
     rintro r sm ⟨rfl,rfl⟩
     simp[hrr,hrA,hrB,hrC,ren_mkE,ren_nums]
     exact fin _ _ rfl (by simp[hrr,hrA,hrB,hrC,ren_mkE,ren_nums])
   | false=>
    rw[hov]at fin hs
    simp only[slotV,Bool.not_false,if_true]at hs
    by_cases hsg:(at' ls v).s=1
    ·have hsb:((at' ls v).s == 1)=true:=by simp[hsg]
     rw[hsb]at fin
     simp[hlen,hw2n,hd1',hwd,htm,hpar',hvl,hrow2,rowL,hk,hfa,hov,hsg,hs]
     refine SC_ctr (h137 x ho) [] (by simp) (by simp[hrr,hrA,hrB,hrC,ren_mkE,ren_nums]) (by simp) ?_
     rintro r sm ⟨rfl,rfl⟩
     simp[hrr,hrA,hrB,hrC,ren_mkE,ren_nums]
     exact fin _ _ rfl (by simp[hrr,hrA,hrB,hrC,ren_mkE,ren_nums])
    ·have hsb:((at' ls v).s == 1)=false:=by simp[hsg]
     rw[hsb]at fin
     simp[hlen,hw2n,hd1',hwd,htm,hpar',hvl,hrow2,rowL,hk,hfa,hov,hsg,hs]
     refine SC_ctr (h136 x ho) [] (by simp) (by simp[hrr,hrA,hrB,hrC,ren_mkE,ren_nums]) (by simp) ?_
     rintro r sm ⟨rfl,rfl⟩
     simp[hrr,hrA,hrB,hrC,ren_mkE,ren_nums]
     exact fin _ _ rfl (by simp[hrr,hrA,hrB,hrC,ren_mkE,ren_nums])
  ·have hk1:(at' ls v).k=1:=hkv.resolve_right hk
   have hp:isP (at' ls v)=true:=by simp[isP,hk1]
   rw[if_neg hk]at fin
   obtain⟨hpv,hpm⟩:=hpl hk1
   rw[hpv]at hCv hCv2
   have hdv:downV ls v=down ls v:=by simp[downV,hp]
   rw[hdv]at hBv hBv2
   generalize idxN v (axis ls)=x at *
   have hwx:IntKind.i64.wrap (2*(x:Int))=2*(x:Int):=wrap64 (by omega) (by omega)
   have hwx2:IntKind.i64.wrap (2*(ls.length:Int)+2*(x:Int))=((2*ls.length+2*x:Nat):Int):=by rw[wrap64 (by omega) (by omega)]; omega
   have hwy:IntKind.i64.wrap ((x:Int) - 1)=(x:Int) - 1:=wrap64 (by omega) (by omega)
   have hwy2:IntKind.i64.wrap ((x:Int) - 1+m)=((x+m - 1:Nat):Int):=by rw[wrap64 (by omega) (by omega)]; omega
   have hmy:((x+m - 1:Nat):Int).tmod (m:Int)=(((x+m - 1) % m:Nat):Int):=rfl
   have hylt:=Nat.mod_lt (x+m - 1) hm0
   generalize (x+m - 1) % m=y at *
   generalize x+m - 1=y0 at *
   have hwz:IntKind.i64.wrap (2*(y:Int))=2*(y:Int):=wrap64 (by omega) (by omega)
   have hwz2:IntKind.i64.wrap (2*(ls.length:Int)+2*(y:Int))=2*(ls.length:Int)+2*(y:Int):=wrap64 (by omega) (by omega)
   have hwz3:IntKind.i64.wrap (2*(ls.length:Int)+2*(y:Int)+1)=((2*ls.length+2*y+1:Nat):Int):=by rw[wrap64 (by omega) (by omega)]; omega
   cases hdn:down ls v with
   | true=>
    rw[hdn]at fin hBv hBv2
    rw[if_neg (by simp)]at fin
    simp[-Int.natCast_add,-Int.natCast_mul,hlen,hw2n,hd1',hwd,htm,hpar',hm00,hvl,hrow2,rowL,hBv2,hBl,hk1,hCl,hCv2,hwy,hwy2,hmy,hwz,hwz2,hwz3]
    exact fin _ _ rfl (by simp[hrr,hrA,hrB,hrC,ren_mkE,ren_nums])
   | false=>
    rw[hdn]at fin hBv hBv2
    rw[if_pos rfl]at fin
    simp[-Int.natCast_add,-Int.natCast_mul,hlen,hw2n,hd1',hwd,htm,hpar',hm00,hvl,hrow,hrow2,rowL,hBv,hBv2,hBl,hk1,hCl,hCv,hCv2,hwx,hwx2,hwy,hwy2,hmz,hmz',hmy,hwz,hwz2,hwz3]
    exact fin _ _ rfl (by simp[hrr,hrA,hrB,hrC,ren_mkE,ren_nums])
end Go.Known
