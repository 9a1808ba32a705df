/- Part 43 of the proof: Tq, Tr, Ts, AeNl. -/
import Derived.Test.YtipeejpafgnjdaaGreatDoorF17
import Derived.Test.YtipeejpafgnjdaaGreatDoorF31
import Derived.Test.YtipeejpafgnjdaaGreatDoorF42
set_option linter.all false
section
namespace Go.Known
open Go Go.AE Go.Proofs
open Go.Plain
set_option maxRecDepth 100000 in
set_option maxHeartbeats 8000000 in
theorem c154 (f n:Int) (ls:List Lt) (h:ls.length≤1000) (hP:PosP ls) (hq:∀ l,l∈ls→l.k=1→0≤l.r∧l.r≤1000) :
 Ctr Tryz.prog 174 [cV f ls,.int .i64 n] ⟨[],1⟩ fun r m=>∃ ps:List (Nat×Nat),ps.Perm (lpL ls n ls.length)∧RankS ls ps∧r=slV 1 (ps.map lrow)∧m=⟨blV 1 2 (ps.map lrow) [],2⟩:=by
 refine ctr_P hm Tryz.func174 cf154 rfl rfl fun K hK=>?_
 have hrr:∀ q,renLL q (ls.map rowL)=ls.map rowL:=fun q=>renLL_closed q _ (closed_rows ls)
 have hlen:(ls.map rowL).length=ls.length:=List.length_map ..
 have hg:=fun i hi=>get_row ls (i:=i) hi
 have h151:=c151
 have hsort:=fun ps h1 h2 h3=>cSortL f ls ps h1 h2 h3
 have hrL:∀ (ps:List (Nat×Nat)) q,renLL q (ps.map lrow)=ps.map lrow:=fun ps q=>renLL_closed q _ (closed_lrow ps)
 unfold cV at *
 generalize ls.map rowL=rows at *
 simp [hlen]
 refine wZ_loop (α:=Nat) (fun i=>[(13,.int .i64 i),(12,.int .i64 ls.length),(11,.imm rows),(6,.bool (!down ls i)),(5,slV 2 ((lpL ls n i).map lrow)),(2,.ptr 1 0 0),(1,.int .i64 n)])
  (fun i=>⟨(1,.cells 2 [[.int .i64 f,.imm rows]]) :: blV 2 2 ((lpL ls n i).map lrow) [],3⟩) (fun i=>ls.length - i) (fun i=>i≤ls.length) 0 [] (by simp [hrr,lpL_zero]; rfl) (by simp) ?_
 rintro i hi N hN
 try simp only at hi hN ⊢
 by_cases hlt:i<ls.length
 · have hgi:=hg i hlt
   obtain⟨hgl,hg2⟩:=getE hgi
   have hw:IntKind.i64.wrap ((i:Int)+1)=(i:Int)+1:=wrap64 (by omega) (by omega)
   have h8:=h151 (at' ls i)
   have hN':=hN (i+1)
   have hLl:(lpL ls n i).length≤1048575:=by have:=lpL_le (ls:=ls) (f:=n) (n:=i); omega
   have hrLi:=hrL (lpL ls n i)
   rw [down_succ hlt,lpL_succ] at hN'
   by_cases hk:(at' ls i).k=1
   · have hp:isP (at' ls i)=true:=by simp [isP,hk]
     rw [if_pos hp] at hN'
     obtain⟨y,hy⟩:∃ y:Nat,(i+1) % ls.length=y:=⟨_,rfl⟩
     have hj:y<ls.length:=by rw [← hy]; exact Nat.mod_lt _ (by omega)
     have hy3:((i:Int)+1).tmod (ls.length:Int)=(y:Int):=by rw [← hy]; rfl
     have hl0:¬(ls.length:Int)=0:=by omega
     have hl1:¬ls.length=0:=by omega
     have hl2:¬ls=[]:=fun e=>hl1 (by rw [e]; rfl)
     have hgj:=hg _ hj
     obtain⟨hgjl,hgj2⟩:=getE hgj
     have hnx:nxL ls i=at' ls y:=by unfold nxL; rw [hy]
     rw [decide_eq_true hk] at h8
     simp only [rowL,hk] at h8
     simp [hlen,hlt,hgi,hg2,hw,rowL,hk]
     refine SC_pure h8 ?_
     by_cases hd:down ls i=true
     · by_cases hm:mxg ls i=n
       · have hlp:isLp ls n i=true:=by unfold isLp; simp [hk,hd,hm]
         rw [if_pos hlp,List.map_append] at hN'
         have hm':(if (at' ls i).g<(at' ls y).g then (at' ls y).g else (at' ls i).g)=n:=by rw [← hm]; unfold mxg; rw [hnx]
         by_cases he:(at' ls i).g=n
         · have hA:lpA ls n i=(y,i):=by unfold lpA; rw [if_pos he,hy]
           rw [hA] at hN'
           rw [he] at hm'
           simp [hlen,hlt,hw,hy3,hl0,hl1,hl2,hgj,hgj2,hd,rowL,hm',he,hLl]
           exact hN' [(2,47)] _ _ (by omega) (by omega) (by simp +contextual [hrr,hrLi,hd,lrow])
         · have hA:lpA ls n i=(i,y):=by unfold lpA; rw [if_neg he,hy]
           rw [hA] at hN'
           simp [hlen,hlt,hw,hy3,hl0,hl1,hl2,hgj,hgj2,hd,rowL,hm',he,hLl]
           exact hN' [(2,47)] _ _ (by omega) (by omega) (by simp +contextual [hrr,hrLi,hd,lrow])
       · have hlp:¬isLp ls n i=true:=by unfold isLp; simp [hm]
         rw [if_neg hlp] at hN'
         have hm':¬(if (at' ls i).g<(at' ls y).g then (at' ls y).g else (at' ls i).g)=n:=by rw [← hnx]; exact hm
         simp [hlen,hlt,hw,hy3,hl0,hl1,hl2,hgj,hgj2,hd,rowL,hm']
         exact hN' [] _ _ (by omega) (by omega) (by simp +contextual [hrr,hrLi,hd])
     · have hd':down ls i=false:=by simpa using hd
       have hlp:¬isLp ls n i=true:=by unfold isLp; simp [hd']
       rw [if_neg hlp] at hN'
       simp [hlen,hlt,hw,hy3,hl0,hl1,hl2,hgj,hgj2,hd',rowL]
       exact hN' [] _ _ (by omega) (by omega) (by simp +contextual [hrr,hrLi,hd'])
   · have hp:isP (at' ls i)=false:=by simp [isP,hk]
     have hlp:¬isLp ls n i=true:=by unfold isLp; simp [hk]
     rw [if_neg (by simp [hp]),if_neg hlp] at hN'
     rw [decide_eq_false hk] at h8
     simp only [rowL] at h8
     simp [hlen,hlt,hgi,hg2,hw,rowL]
     refine SC_pure h8 ?_
     simp [hw]
     exact hN' [] _ _ (by omega) (by omega) (by simp +contextual [hrr,hrLi])
 · have hie:i=ls.length:=by omega
   subst hie
   by_cases h0:lpL ls n ls.length=[]
   · have hK':=hK _ _ ⟨[],by rw [h0],List.Pairwise.nil,rfl,rfl⟩
     simp [hlen,hlt,h0]
     refine SC_ctr (cSortL0 ⟨[],3⟩ (.func (.func 202) [] [.ptr 1 0 0])) [] rfl (by simp) (by simp) ?_
     rintro r sm ⟨rfl,rfl⟩
     simp
     exact endK hK' [] (by simp)
   · have hLp:∀ p,p∈lpL ls n ls.length→LpOk ls p:=fun p hp=>by
      obtain⟨h1,h2⟩:=(lp_pass hP hp).1
      have:=hq _ (at'_mem h1) h2
      exact⟨h1,this.1,this.2⟩
     have hs:=hsort _ h0 hLp (by have:=cnL_le (ls:=ls) (f:=n); unfold cnL at this; omega)
     have hrL0:=hrL (lpL ls n ls.length)
     have hnm:(lpL ls n ls.length).map lrow≠[]:=by simpa using h0
     have e1:slV 2 ((lpL ls n ls.length).map lrow)=.sl 2 0 (lpL ls n ls.length).length:=by rw [slV_ne hnm,List.length_map]
     have e2:blV 2 2 ((lpL ls n ls.length).map lrow) []=[(2,.cells 2 ((lpL ls n ls.length).map lrow))]:=blV_ne hnm
     simp [hlen,hlt,e1,e2]
     refine SC_ctr hs [] rfl (by simp [hrr,hrL0]) (by simp) ?_
     rintro r sm ⟨rfl,ps,hperm,hrank,rfl⟩
     have hpl:=hperm.length_eq
     have hnp:ps.map lrow≠[]:=fun e=>by
      have h1:ps.length=0:=by simpa using congrArg List.length e
      exact h0 (List.length_eq_zero_iff.1 (by omega))
     have hrps:=hrL ps
     have hK':=hK _ _ ⟨ps,hperm,hrank,rfl,rfl⟩
     rw [slV_ne hnp,blV_ne hnp,List.length_map] at hK'
     simp [hrps,hrr,← hpl]
     exact endK hK' [(1,2)] (by simp [hrps])
end Go.Known
end
section
namespace Go.Known
open Go Go.AE Go.Proofs
open Go.Plain
theorem handE_zero {fs:List Fg} {re lo f:Int} {ls:List Lt} (h:handE fs re lo f ls=0):frB fs re lo=true∧errC f ls=0∧f=fs.length∧PosP ls:=by
 unfold handE at h
 cases hB:frB fs re lo with
 | false=>rw [if_pos hB] at h; exact absurd h (by decide)
 | true=>
  rw [if_neg (by simp [hB])] at h
  by_cases he:errC f ls=0
  · rw [if_neg (by simp [he])] at h
    by_cases hc:f=fs.length∧posB ls=true
    · refine⟨rfl,he,hc.1,?_⟩
      have:=hc.2
      unfold posB at this
      simpa using this
    · rw [if_neg hc] at h; exact absurd h (by decide)
  · rw [if_pos he] at h; exact absurd h he
theorem ranks_of {f:Int} {ls:List Lt} (he:errC f ls=0):∀ l,l∈ls→l.k=1→0≤l.r∧l.r≤1000:=by
 intro l hm hk
 have h0:ls≠[]:=fun e=>by subst e; simp at hm
 have hv:=valR_of he h0
 have h1:=(hv.key hm (by simp [isP,hk])).2
 have h2:=hv.len
 have h3:inG l.g ls≤ls.length:=cntP_le_one
 exact⟨by omega,by omega⟩
theorem fz_loops (ns:List Nat):freezeV (SMem.get ⟨blV 1 1 (nums ns) [],2⟩) 4 (.tuple [slV 1 (nums ns),.int .i64 0])=some (.tuple [imV (nums ns),.int .i64 0]):=by
 have:=frz_slV (get:=SMem.get ⟨blV 1 1 (nums ns) [],2⟩) (n:=1) (b:=1) (k:=1) (rows:=nums ns) (by simp) (scal_nums _)
 rw [freezeV]
 simp only [mapO]
 rw [this]
 rfl
set_option maxRecDepth 100000 in
set_option maxHeartbeats 8000000 in
theorem c124 (fs:List Fg) (re lo:Int) (F:Nat) (ls:List Lt) (hf:fs.length≤1000) (h:ls.length≤1000) (he:handE fs re lo F ls=0) :
 PCall Tryz.prog 122 [frV fs re lo,cV F ls] (.tuple [imV (nums (cnLs ls F)),.int .i64 0]):=by
 obtain⟨_,hE,hFl,hP⟩:=handE_zero he
 refine PCall_F hm 4 Tryz.func122 cf124 rfl rfl (by simp [closedL,AVal.closed,closed_rowG,closed_rows,frV]) (by simp [AVal.closed,closedL,closed_imV (closed_nums _)]) fun K hK=>?_
 have hKv:=hK _ ⟨_,_⟩ (fz_loops (cnLs ls F))
 clear hK
 have hrr:∀ q,renLL q (ls.map rowL)=ls.map rowL:=fun q=>renLL_closed q _ (closed_rows ls)
 have hrG:∀ q,renLL q (fs.map rowG)=fs.map rowG:=fun q=>renLL_closed q _ (closed_rowG fs)
 have h153:=c153 fs re lo F ls hf h
 rw [he] at h153
 have h154:=fun n=>c154 F n ls h hP (ranks_of hE)
 have hrL:∀ (ps:List (Nat×Nat)) q,renLL q (ps.map lrow)=ps.map lrow:=fun ps q=>renLL_closed q _ (closed_lrow ps)
 have hF1:F≤1000:=by omega
 unfold frV cV at *
 generalize ls.map rowL=rows at *
 generalize fs.map rowG=rowsG at *
 simp
 refine SC_pure h153 ?_
 simp
 refine wZ_loop (α:=Nat) (fun i=>[(8,.int .i64 ((i:Int)+1)),(7,slV 3 (nums (cnLs ls i))),(3,.ptr 2 0 0)])
  (fun i=>⟨(2,.cells 2 [[.int .i64 F,.imm rows]]) :: blV 3 1 (nums (cnLs ls i)) [],4⟩) (fun i=>F - i) (fun i=>i≤F) 0 [] (by simp [hrr,cnLs,nums]) (by simp) ?_
 intro i hi N hN
 try simp only at hi hN ⊢
 have hw:IntKind.i64.wrap ((i:Int)+1+1)=(i:Int)+1+1:=wrap64 (by omega) (by omega)
 have hren:=ren_nums
 by_cases hlt:i<F
 · have h1:=h154 ((i:Int)+1)
   have hN':=hN (i+1)
   have hcl:(cnLs ls i).length≤1048575:=by rw [cnLs_length]; omega
   have hc0:(i:Int)+1≤(F:Int):=by omega
   have hcs:=cnLs_succ (ls:=ls) i
   have hns:nums (cnLs ls (i+1))=nums (cnLs ls i)++[[.int .i64 (cnL ls ((i:Int)+1):Nat)]]:=by rw [hcs]; simp [nums]
   rw [hns,Int.natCast_add] at hN'
   have hgt:¬(F:Int)<(i:Int)+1:=by omega
   simp [hc0,hgt]
   refine SC_ctr h1 [] (by simp [hrr]) (by simp) (by simp) ?_
   rintro r sm ⟨ps,hp,_,rfl,rfl⟩
   have hpl:ps.length=cnL ls ((i:Int)+1):=hp.length_eq
   have hrps:=hrL ps
   simp [hpl,hcl,hw]
   exact hN' [(3,14)] _ _ (by omega) (by omega) (by simp +contextual [hrr,hren])
 · have hie:i=F:=by omega
   subst hie
   have hgt:¬(i:Int)+1≤(i:Int):=by omega
   simp [hgt]
   exact endK hKv [(1,3)] (by simp +contextual [hren])
end Go.Known
end
section
namespace Go.Known
open Go Go.AE Go.Proofs
open Go.Plain
def smP (p:Int) (fs:List Fg) (ls:List Lt):Nat→Nat
 | 0=>0
 | i+1=>smP p fs ls i+if (fgAt fs i).p=p then cnL ls ((i:Int)+1) else 0
theorem smP_le (p:Int) (fs:List Fg) (ls:List Lt) (h:ls.length≤1000) (i:Nat):smP p fs ls i≤i*1000:=by
 induction i with
 | zero=>exact Nat.zero_le _
 | succ i ih=>
  have h2:=cnL_le (ls:=ls) (f:=(i:Int)+1)
  have h4:(if (fgAt fs i).p=p then cnL ls ((i:Int)+1) else 0)≤1000:=by
   split
   · exact Nat.le_trans h2 h
   · exact Nat.zero_le _
  rw [Nat.succ_mul]
  exact Nat.add_le_add ih h4
theorem ren_imV {rows:List (List AVal)} (h:closedLL rows=true) (q:Nat→Nat):(imV rows).ren q=imV rows:=AVal.ren_closed q _ (closed_imV h)
theorem ix_imV {get:Nat→Option ABlk} {l:List Nat} {i:Nat} (h:i<l.length):idxZ get 1 (imV (nums l)) (some i)=some (.iptr (nums l) i 0,[]):=by
 have hne:nums l≠[]:=fun e=>by
  have:=len_nums l
  rw [e] at this
  simp at this
  omega
 have hg:=nums_get (List.getElem?_eq_getElem h)
 unfold imV
 rw [if_neg hne,ix_imm,hg]
 rfl
set_option maxRecDepth 100000 in
set_option maxHeartbeats 8000000 in
theorem c90 (p:Int) (fs:List Fg) (re lo:Int) (ls:List Lt) (hf:fs.length≤1000) (h:ls.length≤1000) (he:handE fs re lo fs.length ls=0) :
 Ctr Tryz.prog 75 [.ptr 1 0 0,.int .i64 p] ⟨[(1,stB fs re lo fs.length ls)],2⟩ fun r m=>r=.int .i64 (smP p fs ls fs.length:Nat)∧m=⟨[(1,stB fs re lo fs.length ls)],2⟩:=by
 refine ctr_1 hm Tryz.func75 cf90 rfl rfl fun K hK=>?_
 have hrr:∀ q,renLL q (ls.map rowL)=ls.map rowL:=fun q=>renLL_closed q _ (closed_rows ls)
 have hrG:∀ q,renLL q (fs.map rowG)=fs.map rowG:=fun q=>renLL_closed q _ (closed_rowG fs)
 have hlen:(fs.map rowG).length=fs.length:=List.length_map ..
 have hg:=fun i hi=>get_rowG fs (i:=i) hi
 have h124:=c124 fs re lo fs.length ls hf h he
 have hrV:=ren_imV (closed_nums (cnLs ls fs.length))
 have hix:=fun get i (hi:i<fs.length)=>ix_imV (get:=get) (l:=cnLs ls fs.length) (i:=i) (by rw [cnLs_length]; exact hi)
 have hng:=fun i (hi:i<fs.length)=>nums_get (cnLs_get (ls:=ls) hi)
 have hnl:(nums (cnLs ls fs.length)).length=fs.length:=by rw [len_nums,cnLs_length]
 generalize imV (nums (cnLs ls fs.length))=V at *
 generalize nums (cnLs ls fs.length)=NN at *
 unfold stB frV cV at *
 generalize ls.map rowL=rows at *
 generalize fs.map rowG=rowsG at *
 unfold rowG at *
 simp
 refine DC_pure h124 ?_
 simp
 refine wZ_loop (α:=Nat) (fun i=>[(28,.int .i64 i),(27,.int .i64 fs.length),(26,.imm rowsG),(7,.int .i64 (smP p fs ls i:Nat)),(5,V),(1,.int .i64 p),(0,.ptr 1 0 0)])
  (fun i=>⟨[(1,.cells 5 [[.imm rowsG,.int .i64 re,.int .i64 lo,.int .i64 fs.length,.imm rows]])],2⟩) (fun i=>fs.length - i) (fun i=>i≤fs.length) 0 [] (by simp [hrr,hrG,hrV,hlen,smP]) (by simp) ?_
 intro i hi N hN
 try simp only at hi hN ⊢
 by_cases hlt:i<fs.length
 · have hgi:=hg i hlt
   obtain⟨hgl,hg2⟩:=getE hgi
   have hixi:=fun get=>hix get i hlt
   have hngi:=hng i hlt
   obtain⟨hngl,hng2⟩:=getE hngi
   have hw:IntKind.i64.wrap ((i:Int)+1)=(i:Int)+1:=wrap64 (by omega) (by omega)
   have hs1:=smP_le p fs ls h i
   have hs2:=cnL_le (ls:=ls) (f:=(i:Int)+1)
   have hw2:IntKind.i64.wrap ((smP p fs ls i:Int)+(cnL ls ((i:Int)+1):Int))=(smP p fs ls i:Int)+(cnL ls ((i:Int)+1):Int):=wrap64 (by omega) (by omega)
   have hN':=hN (i+1) []
   simp only [smP] at hN'
   by_cases hp:(fgAt fs i).p=p
   · rw [if_pos hp] at hN'
     simp [hlen,hlt,hgi,hg2,hw,hp,hixi,hnl,hngi,hng2,hw2]
     exact hN' _ _ (by omega) (by omega) (by simp [hrr,hrG,hrV])
   · rw [if_neg hp] at hN'
     simp [hlen,hlt,hgi,hg2,hw,hp]
     exact hN' _ _ (by omega) (by omega) (by simp [hrr,hrG,hrV])
 · have hie:i=fs.length:=by omega
   subst hie
   simp [hlen,hlt]
   exact endK hK [] (by simp [hrr,hrG])
end Go.Known
end
section
namespace Go.AE
open Go.RowKit
def fzBk (get:Nat→Option ABlk) (S:List Nat):ABlk→ABlk
 | .cells k els=>.cells k (fzLL get S els)
 | x=>x
def fzBl (get:Nat→Option ABlk) (S:List Nat):List (Nat×ABlk)→List (Nat×ABlk)
 | []=>[]
 | (b,x) :: r=>(b,fzBk get S x) :: fzBl get S r
theorem lookB_fzBl {get:Nat→Option ABlk} {S:List Nat} {b:Nat} {x:ABlk}:∀ {l:List (Nat×ABlk)},lookB (fzBl get S l) b=some x → ∃ y,lookB l b=some y∧x=fzBk get S y
 | [],h=>by simp [fzBl,lookB] at h
 | (c,y) :: r,h=>by
  simp only [fzBl,lookB] at h ⊢
  split at h
  · rename_i e
    injection h with h
    exact⟨y,by rw [if_pos e],h.symm⟩
  · rename_i e
    obtain⟨z,h1,h2⟩:=lookB_fzBl h
    exact⟨z,by rw [if_neg e]; exact h1,h2⟩
def fzW (get:Nat→Option ABlk) (S:List Nat):Nat→AVal→AVal
 | 0,x=>x
 | n+1,x=>match x with
  | .agg cs=>.agg (cs.map (fzW get S n))
  | .tuple cs=>.tuple (cs.map (fzW get S n))
  | x=>fzV get S x
theorem fzW_R {Φ Φs:Pers} {ρ:Rho} {get:Nat→Option ABlk} {S:List Nat} (hE:Ext Φ ρ Φs ρ) (hf:∀ x v,R Φ ρ x v→R Φs ρ (fzV get S x) v):∀ (n:Nat) (x:AVal) (v:Value),R Φ ρ x v→R Φs ρ (fzW get S n x) v
 | 0,x,v,h=>h.ext hE
 | n+1,x,v,h=>by
  have hmap:∀ (cs:List AVal) (vs:Array Value),(∀(i:Nat) (x:AVal) (v:Value),cs[i]? = some x→vs[i]? = some v→R Φ ρ x v) → ∀(i:Nat) (x:AVal) (v:Value),(cs.map (fzW get S n))[i]? = some x→vs[i]? = some v→R Φs ρ x v:=by
   intro cs vs hr i x v hx hv
   rw [List.getElem?_map] at hx
   cases h0:cs[i]? with
   | none=>rw [h0] at hx; cases hx
   | some y=>
    rw [h0] at hx
    injection hx with hx
    rw [← hx]
    exact fzW_R hE hf n y v (hr i y v h0 hv)
  unfold fzW
  split
  · cases h with
    | agg cs vs hs hr=>exact .agg _ vs (by rw [List.length_map]; exact hs) (hmap _ vs hr)
  · cases h with
    | tuple cs vs hs hr=>exact .tuple _ vs (by rw [List.length_map]; exact hs) (hmap _ vs hr)
  · exact hf _ _ h
theorem Ctr.freezeB {P:Program} {g:FuncId} {args:List AVal} {m:SMem} {K K':AVal→SMem→Prop} (h:Ctr P g args m K) (hk:∀ r sm,K r sm → ∃ S,K' (fzW sm.get S 3 r) ⟨fzBl sm.get S (lessB S sm.bl),sm.next⟩):Ctr P g args m K':=by
 refine⟨h.1,fun W Φ ρ vs w hr ha hav=>(h.2 W Φ ρ vs w hr ha hav).mono fun e w' he=>?_⟩
 obtain⟨u,r,m1,Φ',ρ',e1,hE,hk1,hr',hR,hn,sm,rfl,hK⟩:=he
 obtain⟨S,hS⟩:=hk r sm hK
 obtain⟨Φs,f0,f1,f2,f3,f4⟩:=freezeS S hr'
 refine⟨u,fzW sm.get S 3 r,SMem.mem ⟨fzBl sm.get S (lessB S sm.bl),sm.next⟩,Φs,ρ',e1,hE.trans f0,hk1,⟨hr'.base,f1,fun b x hx=>?_,fun b b' x x' l l' h1 h2=>?_,hr'.fresh,f2⟩,fzW_R f0 f4 3 _ _ hR,hn,_,rfl,hS⟩
 · obtain⟨y,hy,rfl⟩:=lookB_fzBl hx
   obtain⟨h1,h2⟩:=lookB_less hy
   obtain⟨l',o,g1,g2,g3,g4,g5⟩:=hr'.live b y h1
   have hm0:memN b S=false:=by
    cases hb:memN b S with
    | false=>rfl
    | true=>exact absurd (memN_iff.1 hb) h2
   refine⟨l',o,g1,g2,f3 b y l' h1 g1 hm0,g4,?_⟩
   cases y with
   | cells k els=>exact g5.fz f4
   | map es c=>exact g5.ext f0
   | siter s p=>exact g5.ext f0
   | miter a b c d=>exact g5.ext f0
 · obtain⟨y,hy,rfl⟩:=lookB_fzBl h1
   obtain⟨y',hy',rfl⟩:=lookB_fzBl h2
   exact hr'.inj b b' y y' l l' (lookB_less hy).1 (lookB_less hy').1
end Go.AE
end
