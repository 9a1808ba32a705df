/- Part 48 of the proof: Tq, Hb, Tr, Tu, Ha. -/
import Derived.Test.YtfmnflhggplkmaaGreatDoorV26
import Derived.Test.YtfmnflhggplkmaaGreatDoorV38
import Derived.Test.YtfmnflhggplkmaaGreatDoorV40
import Derived.Test.YtfmnflhggplkmaaGreatDoorV42
import Derived.Test.YtfmnflhggplkmaaGreatDoorV46
import Derived.Test.YtfmnflhggplkmaaGreatDoorV47
set_option linter.all false
section
namespace Go.Known
open Go Go.AE Go.Proofs
open Go.Plain
set_option maxRecDepth 100000 in
set_option maxHeartbeats 8000000 in
theorem c154 (f n:Int) (ls:List Lt) (h:ls.length≤1000) (hP:PosP ls) (hq:∀ l,l∈ls→l.k=1→0≤l.r∧l.r≤1000) :
 Ctr Tryz.prog 38 [cV f ls,.int .i64 n] ⟨[],1⟩ fun r m=>∃ ps:List (Nat×Nat),ps.Perm (lpL ls n ls.length)∧RankS ls ps∧r=slV 1 (ps.map lrow)∧m=⟨blV 1 2 (ps.map lrow) [],2⟩:=by
 refine ctr_P hm Tryz.func38 cf154 rfl rfl fun K hK=>?_
 have hrr:∀ q,renLL q (ls.map rowL)=ls.map rowL:=fun q=>renLL_closed q _ (closed_rows ls)
 have hlen:(ls.map rowL).length=ls.length:=List.length_map ..
 have hg:=fun i hi=>get_row ls (i:=i) hi
 have h151:=c151
 have hsort:=fun ps h1 h2 h3=>cSortL f ls ps h1 h2 h3
 have hrL:∀ (ps:List (Nat×Nat)) q,renLL q (ps.map lrow)=ps.map lrow:=fun ps q=>renLL_closed q _ (closed_lrow ps)
 unfold cV at *
 generalize ls.map rowL=rows at *
 simp[hlen]
 refine wZ_loop (α:=Nat) (fun i=>[(13,.int .i64 i),(12,.int .i64 ls.length),(11,.imm rows),(6,.bool (!down ls i)),(5,slV 2 ((lpL ls n i).map lrow)),(2,.ptr 1 0 0),(1,.int .i64 n)])
  (fun i=>⟨(1,.cells 2 [[.int .i64 f,.imm rows]]) :: blV 2 2 ((lpL ls n i).map lrow) [],3⟩) (fun i=>ls.length - i) (fun i=>i≤ls.length) 0 [] (by simp[hrr,lpL_zero]; rfl) (by simp) ?_
 rintro i hi N hN
 try simp only at hi hN ⊢
 by_cases hlt:i<ls.length
 ·have hgi:=hg i hlt
  obtain⟨hgl,hg2⟩:=getE hgi
  have hw:IntKind.i64.wrap ((i:Int)+1)=(i:Int)+1:=wrap64 (by omega) (by omega)
  have h8:=h151 (at' ls i)
  have hN':=hN (i+1)
  have hLl:(lpL ls n i).length≤1048575:=by have:=lpL_le (ls:=ls) (f:=n) (n:=i); omega
  have hrLi:=hrL (lpL ls n i)
  rw[down_succ hlt,lpL_succ]at hN'
  by_cases hk:(at' ls i).k=1
  ·have hp:isP (at' ls i)=true:=by simp[isP,hk]
   rw[if_pos hp]at hN'
   obtain⟨y,hy⟩:∃ y:Nat,(i+1) % ls.length=y:=⟨_,rfl⟩
   have hj:y<ls.length:=by rw[← hy]; exact Nat.mod_lt _ (by omega)
   have hy3:((i:Int)+1).tmod (ls.length:Int)=(y:Int):=by rw[← hy]; rfl
   have hl0:¬(ls.length:Int)=0:=by omega
   have hl1:¬ls.length=0:=by omega
   have hl2:¬ls=[]:=fun e=>hl1 (by rw[e]; rfl)
   have hgj:=hg _ hj
   obtain⟨hgjl,hgj2⟩:=getE hgj
   have hnx:nxL ls i=at' ls y:=by unfold nxL; rw[hy]
   rw[decide_eq_true hk]at h8
   simp only[rowL,hk]at h8
   simp[hlen,hlt,hgi,hg2,hw,rowL,hk]
   refine SC_pure h8 ?_
   by_cases hd:down ls i=true
   ·by_cases hm:mxg ls i=n
    ·have hlp:isLp ls n i=true:=by unfold isLp; simp[hk,hd,hm]
     rw[if_pos hlp,List.map_append]at hN'
     have hm':(if (at' ls i).g<(at' ls y).g then (at' ls y).g else (at' ls i).g)=n:=by rw[← hm]; unfold mxg; rw[hnx]
     by_cases he:(at' ls i).g=n
     ·have hA:lpA ls n i=(y,i):=by unfold lpA; rw[if_pos he,hy]
      rw[hA]at hN'
      rw[he]at hm'
      simp[hlen,hlt,hw,hy3,hl0,hl1,hl2,hgj,hgj2,hd,rowL,hm',he,hLl]
      exact hN' [(2,47)] _ _ (by omega) (by omega) (by simp +contextual [hrr,hrLi,hd,lrow])
     ·have hA:lpA ls n i=(i,y):=by unfold lpA; rw[if_neg he,hy]
      rw[hA]at hN'
      simp[hlen,hlt,hw,hy3,hl0,hl1,hl2,hgj,hgj2,hd,rowL,hm',he,hLl]
      exact hN' [(2,47)] _ _ (by omega) (by omega) (by simp +contextual [hrr,hrLi,hd,lrow])
    ·have hlp:¬isLp ls n i=true:=by unfold isLp; simp[hm]
     rw[if_neg hlp]at hN'
     have hm':¬(if (at' ls i).g<(at' ls y).g then (at' ls y).g else (at' ls i).g)=n:=by rw[← hnx]; exact hm
     simp[hlen,hlt,hw,hy3,hl0,hl1,hl2,hgj,hgj2,hd,rowL,hm']
     exact hN' [] _ _ (by omega) (by omega) (by simp +contextual [hrr,hrLi,hd])
   ·have hd':down ls i=false:=by simpa using hd
    have hlp:¬isLp ls n i=true:=by unfold isLp; simp[hd']
    rw[if_neg hlp]at hN'
    simp[hlen,hlt,hw,hy3,hl0,hl1,hl2,hgj,hgj2,hd',rowL]
    exact hN' [] _ _ (by omega) (by omega) (by simp +contextual [hrr,hrLi,hd'])
  ·have hp:isP (at' ls i)=false:=by simp[isP,hk]
   have hlp:¬isLp ls n i=true:=by unfold isLp; simp[hk]
   rw[if_neg (by simp[hp]),if_neg hlp]at hN'
   rw[decide_eq_false hk]at h8
   simp only[rowL]at h8
   simp[hlen,hlt,hgi,hg2,hw,rowL]
   refine SC_pure h8 ?_
   simp[hw]
   exact hN' [] _ _ (by omega) (by omega) (by simp +contextual [hrr,hrLi])
 ·have hie:i=ls.length:=by omega
  subst hie
  by_cases h0:lpL ls n ls.length=[]
  ·have hK':=hK _ _ ⟨[],by rw[h0],List.Pairwise.nil,rfl,rfl⟩
   simp[hlen,hlt,h0]
   refine SC_ctr (cSortL0 ⟨[],3⟩ (.func (.func 54) [] [.ptr 1 0 0])) [] rfl (by simp) (by simp) ?_
   rintro r sm ⟨rfl,rfl⟩
   simp
   exact endK hK' [] (by simp)
  ·have hLp:∀ p,p∈lpL ls n ls.length→LpOk ls p:=fun p hp=>by
    obtain⟨h1,h2⟩:=(lp_pass hP hp).1
    have:=hq _ (at'_mem h1) h2
    exact⟨h1,this.1,this.2⟩
   have hs:=hsort _ h0 hLp (by have:=cnL_le (ls:=ls) (f:=n); unfold cnL at this; omega)
   have hrL0:=hrL (lpL ls n ls.length)
   have hnm:(lpL ls n ls.length).map lrow≠[]:=by simpa using h0
   have e1:slV 2 ((lpL ls n ls.length).map lrow)=.sl 2 0 (lpL ls n ls.length).length:=by rw[slV_ne hnm,List.length_map]
   have e2:blV 2 2 ((lpL ls n ls.length).map lrow) []=[(2,.cells 2 ((lpL ls n ls.length).map lrow))]:=blV_ne hnm
   simp[hlen,hlt,e1,e2]
   refine SC_ctr hs [] rfl (by simp[hrr,hrL0]) (by simp) ?_
   rintro r sm ⟨rfl,ps,hperm,hrank,rfl⟩
   have hpl:=hperm.length_eq
   have hnp:ps.map lrow≠[]:=fun e=>by
    have h1:ps.length=0:=by simpa using congrArg List.length e
    exact h0 (List.length_eq_zero_iff.1 (by omega))
   have hrps:=hrL ps
   have hK':=hK _ _ ⟨ps,hperm,hrank,rfl,rfl⟩
   rw[slV_ne hnp,blV_ne hnp,List.length_map]at hK'
   simp[hrps,hrr,← hpl]
   exact endK hK' [(1,2)] (by simp[hrps])
end Go.Known
end
section
namespace Go.Known
open Go Go.AE Go.Proofs
open Go.Plain
theorem known6:PCall Tryz.prog 8 [] (.bool true):=mo81
theorem cShort6 (fs:List Fg) (re lo:Int):PCall Tryz.prog 7 [frV fs re lo] (.bool (decide (fs.length≤60))):=by
 refine PCall_1 hm Tryz.func7 chShort rfl rfl (by simp[closedL,AVal.closed,closed_rowG,frV]) trivial fun K hK=>?_
 have hlenG:(fs.map rowG).length=fs.length:=List.length_map ..
 unfold frV
 generalize fs.map rowG=rowsG at *
 by_cases h1:fs.length≤60
 ·have h1':(fs.length:Int)≤60:=by omega
  rw[decide_eq_true h1]at hK
  simp[hlenG,h1']
  exact endK hK [] (by simp)
 ·have h1':¬(fs.length:Int)≤60:=by omega
  rw[decide_eq_false h1]at hK
  simp[hlenG,h1']
  exact endK hK [] (by simp)
end Go.Known
end
section
namespace Go.Known
open Go Go.AE Go.Proofs
open Go.Plain
theorem handE_zero {fs:List Fg} {re lo f:Int} {ls:List Lt} (h:handE fs re lo f ls=0):frB fs re lo=true∧errC f ls=0∧f=fs.length∧PosP ls:=by
 unfold handE at h
 cases hB:frB fs re lo with
 | false=>rw[if_pos hB]at h; exact absurd h (by decide)
 | true=>
  rw[if_neg (by simp[hB])]at h
  by_cases he:errC f ls=0
  ·rw[if_neg (by simp[he])]at h
   by_cases hc:f=fs.length∧posB ls=true
   ·refine⟨rfl,he,hc.1,?_⟩
    have:=hc.2
    unfold posB at this
    simpa using this
   ·rw[if_neg hc]at h; exact absurd h (by decide)
  ·rw[if_pos he]at h; exact absurd h he
theorem ranks_of {f:Int} {ls:List Lt} (he:errC f ls=0):∀ l,l∈ls→l.k=1→0≤l.r∧l.r≤1000:=by
 intro l hm hk
 have h0:ls≠[]:=fun e=>by subst e; simp at hm
 have hv:=valR_of he h0
 have h1:=(hv.key hm (by simp[isP,hk])).2
 have h2:=hv.len
 have h3:inG l.g ls≤ls.length:=cntP_le_one
 exact⟨by omega,by omega⟩
theorem fz_loops (ns:List Nat):freezeV (SMem.get ⟨blV 1 1 (nums ns) [],2⟩) 4 (.tuple [slV 1 (nums ns),.int .i64 0])=some (.tuple [imV (nums ns),.int .i64 0]):=by
 have:=frz_slV (get:=SMem.get ⟨blV 1 1 (nums ns) [],2⟩) (n:=1) (b:=1) (k:=1) (rows:=nums ns) (by simp) (scal_nums _)
 rw[freezeV]
 simp only[mapO]
 rw[this]
 rfl
set_option maxRecDepth 100000 in
set_option maxHeartbeats 8000000 in
theorem c124 (fs:List Fg) (re lo:Int) (F:Nat) (ls:List Lt) (hf:fs.length≤1000) (h:ls.length≤1000) (he:handE fs re lo F ls=0) :
 PCall Tryz.prog 22 [frV fs re lo,cV F ls] (.tuple [imV (nums (cnLs ls F)),.int .i64 0]):=by
 obtain⟨_,hE,hFl,hP⟩:=handE_zero he
 refine PCall_F hm 4 Tryz.func22 cf124 rfl rfl (by simp[closedL,AVal.closed,closed_rowG,closed_rows,frV]) (by simp[AVal.closed,closedL,closed_imV (closed_nums _)]) fun K hK=>?_
 have hKv:=hK _ ⟨_,_⟩ (fz_loops (cnLs ls F))
 clear hK
 have hrr:∀ q,renLL q (ls.map rowL)=ls.map rowL:=fun q=>renLL_closed q _ (closed_rows ls)
 have hrG:∀ q,renLL q (fs.map rowG)=fs.map rowG:=fun q=>renLL_closed q _ (closed_rowG fs)
 have h153:=c153 fs re lo F ls hf h
 rw[he]at h153
 have h154:=fun n=>c154 F n ls h hP (ranks_of hE)
 have hrL:∀ (ps:List (Nat×Nat)) q,renLL q (ps.map lrow)=ps.map lrow:=fun ps q=>renLL_closed q _ (closed_lrow ps)
 have hF1:F≤1000:=by omega
 unfold frV cV at *
 generalize ls.map rowL=rows at *
 generalize fs.map rowG=rowsG at *
 simp
 refine SC_pure h153 ?_
 simp
 refine wZ_loop (α:=Nat) (fun i=>[(8,.int .i64 ((i:Int)+1)),(7,slV 3 (nums (cnLs ls i))),(3,.ptr 2 0 0)])
  (fun i=>⟨(2,.cells 2 [[.int .i64 F,.imm rows]]) :: blV 3 1 (nums (cnLs ls i)) [],4⟩) (fun i=>F - i) (fun i=>i≤F) 0 [] (by simp[hrr,cnLs,nums]) (by simp) ?_
 intro i hi N hN
 try simp only at hi hN ⊢
 have hw:IntKind.i64.wrap ((i:Int)+1+1)=(i:Int)+1+1:=wrap64 (by omega) (by omega)
 have hren:=ren_nums
 by_cases hlt:i<F
 ·have h1:=h154 ((i:Int)+1)
  have hN':=hN (i+1)
  have hcl:(cnLs ls i).length≤1048575:=by rw[cnLs_length]; omega
  have hc0:(i:Int)+1≤(F:Int):=by omega
  have hcs:=cnLs_succ (ls:=ls) i
  have hns:nums (cnLs ls (i+1))=nums (cnLs ls i)++[[.int .i64 (cnL ls ((i:Int)+1):Nat)]]:=by rw[hcs]; simp[nums]
  rw[hns,Int.natCast_add]at hN'
  have hgt:¬(F:Int)<(i:Int)+1:=by omega
  simp[hc0,hgt]
  refine SC_ctr h1 [] (by simp[hrr]) (by simp) (by simp) ?_
  rintro r sm ⟨ps,hp,_,rfl,rfl⟩
  have hpl:ps.length=cnL ls ((i:Int)+1):=hp.length_eq
  have hrps:=hrL ps
  simp[hpl,hcl,hw]
  exact hN' [(3,14)] _ _ (by omega) (by omega) (by simp +contextual [hrr,hren])
 ·have hie:i=F:=by omega
  subst hie
  have hgt:¬(i:Int)+1≤(i:Int):=by omega
  simp[hgt]
  exact endK hKv [(1,3)] (by simp +contextual [hren])
end Go.Known
end
section
namespace Go.Known
open Go Go.AE Go.Proofs
open Go.Plain
theorem errC_nil {f:Int} (h0:0≤f) (h1:f≤40):errC f []=0:=by
 have hv:visits ([]:List Lt)=0:=rfl
 have hok:OkV f []:=.inl rfl
 unfold errC
 rw[if_neg (by simp[hv]),if_neg (by omega),if_pos hok]
section
variable {p:Int} {fs:List Fg} {d:Nat}
end
end Go.Known
end
section
namespace Go.Known
open Go.Plain
def hgL:Int→List Int→List Lt
 | _,[]=>[]
 | p,f :: r=>⟨1,f - 1,if p=f - 1 then 2 else 1,0,0,false⟩ :: ⟨1,f,1,0,0,false⟩ :: hgL f r
def incB (hi:Int):Int→List Int→Bool
 | _,[]=>true
 | lo,f :: r=>decide (lo<f)&&decide (f≤hi)&&incB hi f r
theorem hgL_len:∀ (fs:List Int) (p:Int),(hgL p fs).length=2*fs.length
 | [],_=>rfl
 | f :: r,p=>by simp only[hgL,List.length_cons,hgL_len r f]; omega
theorem incB_cons {hi lo f:Int} {r:List Int} (h:incB hi lo (f :: r)=true):lo<f∧f≤hi∧incB hi f r=true:=by
 simp only[incB,Bool.and_eq_true,decide_eq_true_eq]at h
 exact⟨h.1.1,h.1.2,h.2⟩
theorem hg_mem {hi:Int}:∀ (fs:List Int) (p lo:Int),incB hi lo fs=true → ∀ l,l∈hgL p fs→l.k=1∧l.i=0∧l.s=0∧l.o=false∧lo≤l.g∧l.g≤hi∧(l.r=1∨l.r=2)∧(l.g=lo→l.r=1→p≠lo)
 | [],_,_,_,l,hl=>by simp[hgL]at hl
 | f :: r,p,lo,h,l,hl=>by
  obtain⟨h1,h2,h3⟩:=incB_cons h
  simp only[hgL,List.mem_cons]at hl
  rcases hl with rfl|rfl|hl
  ·refine⟨rfl,rfl,rfl,rfl,by show lo≤f - 1; omega,by show f - 1≤hi; omega,?_,fun e1 e2 e3=>?_⟩
   ·show(if p=f - 1 then (2:Int)else 1)=1∨_=2
    split
    ·exact .inr rfl
    ·exact .inl rfl
   ·have e1':f - 1=lo:=e1
    have e2':(if p=f - 1 then (2:Int)else 1)=1:=e2
    rw[if_pos (by omega)]at e2'
    omega
  ·refine⟨rfl,rfl,rfl,rfl,by show lo≤f; omega,h2,.inl rfl,fun e1 _=>?_⟩
   have e1':f=lo:=e1
   omega
  ·obtain⟨a1,a2,a3,a4,a5,a6,a7,_⟩:=hg_mem r f f h3 l hl
   exact⟨a1,a2,a3,a4,by omega,a6,a7,fun e _=>by omega⟩
theorem hg_sorted {hi:Int}:∀ (fs:List Int) (p lo:Int),incB hi lo fs=true→(hgL p fs).Pairwise fun a b=>keyLt a b=true
 | [],_,_,_=>List.Pairwise.nil
 | f :: r,p,lo,h=>by
  obtain⟨h1,h2,h3⟩:=incB_cons h
  have hm:=hg_mem r f f h3
  simp only[hgL]
  rw[List.pairwise_cons,List.pairwise_cons]
  refine⟨fun b hb=>?_,fun b hb=>?_,hg_sorted r f f h3⟩
  ·simp only[List.mem_cons]at hb
   simp only[keyLt,Bool.or_eq_true,Bool.and_eq_true,decide_eq_true_eq,beq_iff_eq]
   rcases hb with rfl|hb
   ·exact .inl (by show f - 1<f; omega)
   ·have:=(hm b hb).2.2.2.2.1
    exact .inl (by omega)
  ·obtain⟨_,_,_,_,a5,_,a7,a8⟩:=hm b hb
   simp only[keyLt,Bool.or_eq_true,Bool.and_eq_true,decide_eq_true_eq,beq_iff_eq]
   by_cases hg:b.g=f
   ·refine .inr ⟨hg.symm,?_⟩
    rcases a7 with h|h
    ·exact absurd rfl (a8 hg h)
    ·omega
   ·exact .inl (by omega)
theorem same_one:∀ {ls:List Lt},ls.Pairwise (fun a b=>keyLt a b=true) → ∀ l,l∈ls→same l ls=1
 | [],_,l,hl=>by simp at hl
 | a :: r,h,l,hl=>by
  rw[List.pairwise_cons]at h
  simp only[List.mem_cons]at hl
  have hne:∀ b,b∈r→((b.k == a.k&&b.g == a.g)&&b.r == a.r)=false:=fun b hb=>by
   have:=h.1 b hb
   simp only[keyLt,Bool.or_eq_true,Bool.and_eq_true,decide_eq_true_eq,beq_iff_eq]at this
   simp only[Bool.and_eq_false_iff,beq_eq_false_iff_ne]
   rcases this with h|⟨_,h⟩
   ·exact .inl (.inr (by omega))
   ·exact .inr (by omega)
  unfold same at *
  rw[cntP_cons]
  by_cases hla:l=a
  ·subst hla
   rw[if_pos (by simp)]
   have:cntP (fun o=>o.k == l.k&&o.g == l.g&&o.r == l.r) r=0:=by
    rw[cntP_congr (q:=fun _=>false) hne]
    simp[cntP]
   rw[this]
  ·have hlr:l∈r:=hl.resolve_left hla
   rw[if_neg (by
    have:=hne l hlr
    simp only[Bool.and_eq_false_iff,beq_eq_false_iff_ne]at this
    simp only[Bool.and_eq_true,beq_iff_eq]
    rintro⟨⟨e1,e2⟩,e3⟩
    rcases this with(h|h)|h
    ·exact h e1.symm
    ·exact h e2.symm
    ·exact h e3.symm),Nat.zero_add]
   exact same_one h.2 l hlr
theorem inG_cons (g:Int) (l:Lt) (r:List Lt):inG g (l :: r)=(if isP l&&l.g == g then 1 else 0)+inG g r:=cntP_cons _ _ _
theorem hg_inG {hi:Int}:∀ (fs:List Int) (p lo:Int),incB hi lo fs=true → ∀ l,l∈hgL p fs→1≤inG l.g (hgL p fs)∧(l.r=2→l.g=p∨2≤inG l.g (hgL p fs))
 | [],_,_,_,l,hl=>by simp[hgL]at hl
 | f :: r,p,lo,h,l,hl=>by
  obtain⟨h1,h2,h3⟩:=incB_cons h
  simp only[hgL,List.mem_cons]at hl
  simp only[hgL,inG_cons]
  rcases hl with rfl|rfl|hl
  ·rw[if_pos (by simp[isP])]
   refine⟨by omega,fun e=>.inl ?_⟩
   have e':(if p=f - 1 then (2:Int)else 1)=2:=e
   by_cases hp:p=f - 1
   ·exact hp.symm
   ·rw[if_neg hp]at e'; cases e'
  ·rw[if_pos (c:=(isP (⟨1,f,1,0,0,false⟩:Lt)&&(⟨1,f,1,0,0,false⟩:Lt).g == (⟨1,f,1,0,0,false⟩:Lt).g)=true) (by simp[isP])]
   exact⟨by omega,fun e=>by cases e⟩
  ·obtain⟨a1,a2⟩:=hg_inG r f f h3 l hl
   refine⟨by omega,fun e=>?_⟩
   rcases a2 e with h|h
   ·rw[if_pos (c:=(isP (⟨1,f,1,0,0,false⟩:Lt)&&(⟨1,f,1,0,0,false⟩:Lt).g == l.g)=true) (by simp[isP,h])]
    exact .inr (by omega)
   ·exact .inr (by omega)
theorem ins_end {ls:List Lt} {i:Nat}:∀ {l:List Nat},(∀ j,j∈l→keyLt (at' ls j) (at' ls i)=true)→ins ls i l=l++[i]
 | [],_=>rfl
 | j :: r,h=>by
  simp only[ins]
  rw[if_pos (h j (by simp)),ins_end fun x hx=>h x (List.mem_cons_of_mem _ hx)]
  rfl
theorem axis_range {ls:List Lt} (h:ls.Pairwise fun a b=>keyLt a b=true) (hp:∀ l,l∈ls→isP l=true):axis ls=List.range ls.length:=by
 unfold axis
 have key:∀ k,k≤ls.length→axisN ls k=List.range k:=by
  intro k
  induction k with
  | zero=>intro _; rfl
  | succ k ih=>
   intro hk
   simp only[axisN]
   rw[if_pos (hp _ (at'_mem (by omega))),ih (by omega),ins_end,List.range_succ]
   intro j hj
   rw[List.mem_range]at hj
   have:=List.pairwise_iff_getElem.1 h j k (by omega) (by omega) hj
   rw[at',at',List.getD_eq_getElem?_getD,List.getD_eq_getElem?_getD,List.getElem?_eq_getElem (by omega),List.getElem?_eq_getElem (by omega)]
   exact this
 exact key _ (Nat.le_refl _)
def tk (m d:Nat):Nat:=
 if 2*m≤d then
  if d % 2=0 then alongN m (((d - 2*m) / 2+1) % m) (!(((d - 2*m) / 2+1) % m % 2 == 0))
  else alongN m ((d - 2*m) / 2) ((d - 2*m) / 2 % 2 == 0)
 else
  let v:=if d % 2=0 then (d / 2+1) % m else d / 2
  if (v % 2 == 0)=(d % 2 == 0)then 2*m+2*v else 2*m+2*((v+m - 1) % m)+1
theorem idxN_range':∀ (m s v:Nat),v<m→idxN (s+v) (List.range' s m)=v
 | 0,_,_,h=>by omega
 | m+1,s,0,_=>by simp[List.range'_succ,idxN]
 | m+1,s,v+1,h=>by
  simp only[List.range'_succ,idxN]
  rw[if_neg (by omega)]
  have:=idxN_range' m (s+1) v (by omega)
  rw[show s+1+v=s+(v+1) by omega]at this
  omega
theorem idxN_range {m v:Nat} (h:v<m):idxN v (List.range m)=v:=by
 have:=idxN_range' m 0 v h
 rw[Nat.zero_add,← List.range_eq_range']at this
 exact this
theorem down_all {ls:List Lt} (hp:∀ l,l∈ls→isP l=true) {v:Nat} (hv:v≤ls.length):down ls v=(v % 2 == 0):=by
 unfold down passes
 have:cntP isP (ls.take v)=v:=by
  unfold cntP
  rw[List.filter_eq_self.2 fun l hl=>hp l (List.mem_of_mem_take hl),List.length_take]
  omega
 rw[this]
theorem turn_tk {ls:List Lt} (hp:∀ l,l∈ls→isP l=true) (ha:axis ls=List.range ls.length) (h0:0<ls.length) (d:Nat) (hd:d<4*ls.length):turnN ls (axis ls) d=tk ls.length d:=by
 rw[ha]
 unfold turnN tk
 have hr:(List.range ls.length).length=ls.length:=List.length_range
 have hget:∀ v,v<ls.length→(List.range ls.length).getD v 0=v:=fun v hv=>by
  rw[List.getD_eq_getElem?_getD,List.getElem?_range hv]; rfl
 by_cases h1:2*ls.length≤d
 ·rw[if_pos h1,if_pos h1,hr]
  by_cases h2:d % 2=0
  ·have hv:((d - 2*ls.length) / 2+1) % ls.length<ls.length:=Nat.mod_lt _ h0
   rw[if_pos h2,if_pos h2,hget _ hv,down_all hp (by omega)]
  ·have hv:(d - 2*ls.length) / 2<ls.length:=by omega
   rw[if_neg h2,if_neg h2,hget _ hv,down_all hp (by omega)]
 ·rw[if_neg h1,if_neg h1]
  obtain⟨v,hv⟩:∃ v,v=(if d % 2=0 then (d / 2+1) % ls.length else d / 2):=⟨_,rfl⟩
  have hvl:v<ls.length:=by
   rw[hv]
   split
   ·exact Nat.mod_lt _ h0
   ·omega
  simp only[← hv]
  have hk:(at' ls v).k=1:=by simpa[isP]using hp _ (at'_mem hvl)
  rw[if_neg (by rw[hk]; decide),down_all hp (by omega),idxN_range hvl,hr]
theorem tk_lt {m:Nat} (h0:0<m) (d:Nat) (hd:d<4*m):tk m d<4*m:=by
 unfold tk alongN
 have hv:((d - 2*m) / 2+1) % m<m:=Nat.mod_lt _ h0
 have hw:∀ x,x % m<m:=fun x=>Nat.mod_lt _ h0
 by_cases h1:2*m≤d
 ·rw[if_pos h1]
  by_cases h2:d % 2=0
  ·rw[if_pos h2]
   have:=hw (((d - 2*m) / 2+1) % m+m - 1)
   split<;>omega
  ·rw[if_neg h2]
   have:=hw ((d - 2*m) / 2+m - 1)
   split<;>omega
 ·rw[if_neg h1]
  obtain⟨v,hv⟩:∃ v,v=(if d % 2=0 then (d / 2+1) % m else d / 2):=⟨_,rfl⟩
  have hvl:v<m:=by
   rw[hv]
   split
   ·exact hw _
   ·omega
  simp only[← hv]
  have:=hw (v+m - 1)
  split<;>omega
def tkOk (k:Nat):Bool:=Nat.beq (cycles (tk (2*k)) (8*k)) (2*k+2)
theorem tk0:((List.range' 1 16).all tkOk)=true:=by kernel_rfl
theorem tk1:((List.range' 17 8).all tkOk)=true:=by kernel_rfl
theorem tk2:((List.range' 25 5).all tkOk)=true:=by kernel_rfl
theorem tk3:((List.range' 30 4).all tkOk)=true:=by kernel_rfl
theorem tk4:((List.range' 34 3).all tkOk)=true:=by kernel_rfl
theorem tk5:((List.range' 37 2).all tkOk)=true:=by kernel_rfl
theorem tk6:((List.range' 39 2).all tkOk)=true:=by kernel_rfl
theorem tkAll_spec {k:Nat} (h0:0<k) (h1:k≤40):cycles (tk (2*k)) (8*k)=2*k+2:=by
 have key:∀ {s n:Nat},((List.range' s n).all tkOk)=true→s≤k→k<s+n→tkOk k=true:=fun h ha hb=>List.all_eq_true.1 h k (List.mem_range'_1.2 ⟨ha,hb⟩)
 have:tkOk k=true:=by
  by_cases c0:k<17
  ·exact key tk0 (by omega) (by omega)
  by_cases c1:k<25
  ·exact key tk1 (by omega) (by omega)
  by_cases c2:k<30
  ·exact key tk2 (by omega) (by omega)
  by_cases c3:k<34
  ·exact key tk3 (by omega) (by omega)
  by_cases c4:k<37
  ·exact key tk4 (by omega) (by omega)
  by_cases c5:k<39
  ·exact key tk5 (by omega) (by omega)
  exact key tk6 (by omega) (by omega)
 exact Nat.eq_of_beq_eq_true this
theorem inc_len {hi:Int}:∀ (fs:List Int) (lo:Int),incB hi lo fs=true→lo≤hi→(fs.length:Int)≤hi - lo
 | [],_,_,h=>by simp only[List.length_nil]; omega
 | f :: r,lo,h,_=>by
  obtain⟨h1,h2,h3⟩:=incB_cons h
  have:=inc_len r f h3 h2
  simp only[List.length_cons]
  omega
theorem valR_hg {n:Int} {fs:List Int} (h0:fs≠[]) (hn:n≤40) (hn0:0≤n) (h:incB n 0 fs=true):ValR n (hgL (-1) fs):=by
 have hm:=hg_mem fs (-1) 0 h
 have hs:=hg_sorted fs (-1) 0 h
 have hlen:=hgL_len fs (-1)
 have hfl:(fs.length:Int)≤n - 0:=inc_len fs 0 h hn0
 have hpos:0<fs.length:=List.length_pos_iff.2 h0
 have hp:∀ l,l∈hgL (-1) fs→isP l=true:=fun l hl=>by simp[isP,(hm l hl).1]
 have hpass:passes (hgL (-1) fs)=(hgL (-1) fs).length:=by
  unfold passes cntP
  rw[List.filter_eq_self.2 hp]
 have hvis:visits (hgL (-1) fs)=0:=by
  unfold visits cntP
  rw[List.filter_eq_nil_iff.2 fun l hl=>by simp[isX,(hm l hl).1]]
  rfl
 refine⟨by omega,by omega,hn0,hn,(hm _ (at'_mem (by omega))).1,by rw[hpass]; omega,fun l hl=>?_,?_⟩
 ·obtain⟨a1,a2,a3,a4,a5,a6,a7,a8⟩:=hm l hl
  obtain⟨b1,b2⟩:=hg_inG fs (-1) 0 h l hl
  refine(okR_pass a1).2 ⟨a2,a3,a4,a5,a6,by omega,?_,same_one hs l hl⟩
  rcases a7 with h|h
  ·rw[h]; exact_mod_cast b1
  ·rcases b2 h with h'|h'
   ·omega
   ·rw[h]; exact_mod_cast h'
 ·rw[hpass,hvis,hlen,cycles_congr (next':=tk (2*fs.length)) (fun d hd=>by rw[← hlen]; exact turn_tk hp (axis_range hs hp) (by omega) d (by omega)) (fun d hd=>by
   rw[turn_tk hp (axis_range hs hp) (by omega) d (by omega)]
   have:=tk_lt (m:=(hgL (-1) fs).length) (by omega) d (by omega)
   omega)]
  rw[show 2*(2*fs.length)+2*(2*fs.length)=8*fs.length by omega,tkAll_spec hpos (by omega)]
theorem errC_hg {n:Int} {fs:List Int} (hn:n≤40) (hn0:0≤n) (h:incB n 0 fs=true):errC n (hgL (-1) fs)=0:=by
 by_cases h0:fs=[]
 ·subst h0
  exact errC_nil hn0 hn
 ·exact(valR_hg h0 hn hn0 h).to
end Go.Known
end
