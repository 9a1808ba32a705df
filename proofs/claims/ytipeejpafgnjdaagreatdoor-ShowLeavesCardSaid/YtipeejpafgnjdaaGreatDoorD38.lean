/- Part 38 of the proof: Sv, Sw, Sx, Sy. -/
import Derived.Test.YtipeejpafgnjdaaGreatDoorD15
import Derived.Test.YtipeejpafgnjdaaGreatDoorD16
import Derived.Test.YtipeejpafgnjdaaGreatDoorD36
import Derived.Test.YtipeejpafgnjdaaGreatDoorD37
set_option linter.all false
section
namespace Go.Known
open Go Go.AE Go.Proofs
open Go.Plain
theorem fo_same {n:Int} {ls:List Lt} {l:Lt} (h:¬(l.k=1∧n≤l.g)):foL n ls l=l:=by unfold foL; rw [if_neg h]
theorem fo_at {n:Int} {ls:List Lt} {l:Lt} (h:l.k=1) (hg:l.g=n):foL n ls l={ l with g:=l.g - 1,r:=l.r+inG (n - 1) ls }:=by unfold foL; rw [if_pos ⟨h,by omega⟩,if_pos hg]
theorem fo_gt {n:Int} {ls:List Lt} {l:Lt} (h:l.k=1) (hg:n<l.g):foL n ls l={ l with g:=l.g - 1 }:=by unfold foL; rw [if_pos ⟨h,by omega⟩,if_neg (by omega)]
set_option maxRecDepth 100000 in
set_option maxHeartbeats 8000000 in
theorem cRForget (f n:Int) (ls:List Lt) (hv:ValR f ls) (h0:ls≠[]) (h1:1≤n) (h2:n≤f):PCall Tryz.prog 67 [cV f ls,.int .i64 n] (cV (f - 1) (foN n ls)):=by
 refine PCall_F hm 4 Tryz.func67 cjRForget rfl rfl (by simp [closedL,AVal.closed,closed_rows]) (by simp [AVal.closed,closedL,closed_rows]) fun K hK=>?_
 have hl:ls.length≤1000:=by have:=hv.len; omega
 have hhi:=hv.hi
 have hKv:=hK _ _ (fz_cV (f - 1) (foN n ls))
 clear hK
 have hq:∀ l,l∈ls→l.k=1→1≤l.r∧l.r≤inG l.g ls∧0≤l.g∧l.g≤f:=fun l hm hk=>(hv.key hm (by simp [isP,hk])).2
 have h114:=c114s f ls h0 hl
 have h37:=c37 f ls (n - 1) hl
 have hcnt:cntP (fun l=>isP l&&l.g == n - 1) ls=inG (n - 1) ls:=rfl
 rw [hcnt] at h37
 have hin:inG (n - 1) ls≤ls.length:=cntP_le_one
 have hMg:=fun i hi=>mix_get (g:=foL n ls) (ls:=ls) (i:=i) hi
 have hMs:=fun i hi=>mix_set (g:=foL n ls) (ls:=ls) (i:=i) hi
 have hMe:=fun i hi hg=>mix_same (g:=foL n ls) (ls:=ls) (i:=i) hi hg
 have hMl:∀ i,((mix (foL n ls) i ls).map rowL).length=ls.length:=fun i=>by rw [List.length_map,mix_len]
 have hMc:∀ i q,renLL q ((mix (foL n ls) i ls).map rowL)=(mix (foL n ls) i ls).map rowL:=fun i q=>renLL_closed q _ (closed_rows _)
 have hM0:(mix (foL n ls) 0 ls).map rowL=ls.map rowL:=by rw [mix_zero]
 have hMn:(mix (foL n ls) ls.length ls).map rowL=(foN n ls).map rowL:=by rw [mix_all]; rfl
 have hsl:(foN n ls).length=ls.length:=by simp [foN]
 rw [← hMn,hsl] at hKv
 have hlen:(ls.map rowL).length=ls.length:=List.length_map ..
 have hrg:=fun i hi=>get_row ls (i:=i) hi
 have hrr:∀ q,renLL q (ls.map rowL)=ls.map rowL:=fun q=>renLL_closed q _ (closed_rows ls)
 obtain⟨M,hM⟩:∃ M:Nat→List (List AVal),(fun i=>(mix (foL n ls) i ls).map rowL)=M:=⟨_,rfl⟩
 have hMi:∀ i,(mix (foL n ls) i ls).map rowL=M i:=fun i=>by rw [← hM]
 simp only [hMi] at hMg hMs hMe hMl hMc hM0 hMn hKv
 clear hM hMi
 have wf:IntKind.i64.wrap (f - 1)=f - 1:=wrap64 (by omega) (by omega)
 have wn:IntKind.i64.wrap (n - 1)=n - 1:=wrap64 (by omega) (by omega)
 unfold cV at *
 generalize ls.map rowL=rows at *
 simp
 refine SC_ctr h114 [] (by simp [hrr]) (by simp) (by simp) ?_
 rintro r sm ⟨rfl,rfl⟩
 simp [hrr,hlen,wf]
 refine wZ_loop (α:=Nat) (fun i=>[(6,.int .i64 i),(5,.ptr 3 0 0),(4,.ptr 2 0 0),(2,.ptr 1 0 0),(1,.int .i64 n)])
  (fun i=>⟨[(3,.cells 2 [[.int .i64 (f - 1),.sl 4 0 ls.length]]),(4,.cells 6 (M i)),(2,.cells 2 [[.int .i64 0,.nilSl]]),(1,.cells 2 [[.int .i64 f,.imm rows]])],5⟩)
  (fun i=>ls.length - i) (fun i=>i≤ls.length) 0 [(3,5),(4,7)] (by simp [hrr,hM0]) (by simp) ?_
 intro i hi N hN
 try simp only at hi hN ⊢
 by_cases hlt:i<ls.length
 · have hg:=hMg i hlt
   obtain⟨hgl,hg2⟩:=getE hg
   have hr:=hrg i hlt
   obtain⟨hrl,hr2⟩:=getE hr
   have hset:=hMs i hlt
   have hw:IntKind.i64.wrap ((i:Int)+1)=(i:Int)+1:=wrap64 (by omega) (by omega)
   have hlM:=hMl i
   have hN':=hN (i+1) []
   by_cases hk:(at' ls i).k=1
   · obtain⟨q1,q2,q3,q4⟩:=hq _ (at'_mem hlt) hk
     have hin2:inG (at' ls i).g ls≤ls.length:=cntP_le_one
     have wg:IntKind.i64.wrap ((at' ls i).g - 1)=(at' ls i).g - 1:=wrap64 (by omega) (by omega)
     have wr':IntKind.i64.wrap ((at' ls i).r+(inG (n - 1) ls:Int))=(at' ls i).r+(inG (n - 1) ls:Int):=wrap64 (by omega) (by omega)
     by_cases hgn:(at' ls i).g=n
     · rw [fo_at hk hgn] at hset
       simp only [rowL,hk,hgn] at hset
       simp [hlt,hg,hg2,hr,hr2,hlM,hlen,rowL,hk,hgn,wn]
       refine DC_pure h37 ?_
       simp [hlt,hg,hg2,hr,hr2,hlM,hlen,rowL,hk,hgn,hw,wn,wr',FT.indep]
       exact hN' _ _ (by omega) (by omega) (by simp [hrr,hMc,hset])
     · by_cases hgt:n<(at' ls i).g
       · rw [fo_gt hk hgt] at hset
         simp only [rowL,hk] at hset
         have hge:n≤(at' ls i).g:=by omega
         simp [hlt,hg,hg2,hr,hr2,hlM,hlen,rowL,hk,hgn,hge,hw,wg]
         exact hN' _ _ (by omega) (by omega) (by simp [hrr,hMc,hset])
       · have hge:¬n≤(at' ls i).g:=by omega
         have hsame:=hMe i hlt (fo_same fun e=>hge e.2)
         rw [hsame] at hN'
         simp [hlt,hg,hg2,hr,hr2,hlM,hlen,rowL,hk,hgn,hge,hw]
         exact hN' _ _ (by omega) (by omega) (by simp [hrr,hMc])
   · have hsame:=hMe i hlt (fo_same fun e=>hk e.1)
     rw [hsame] at hN'
     simp [hlt,hg,hg2,hr,hr2,hlM,hlen,rowL,hk,hw]
     exact hN' _ _ (by omega) (by omega) (by simp [hrr,hMc])
 · have hie:i=ls.length:=by omega
   subst hie
   simp [hlt]
   exact endK hKv [(1,4)] (by simp [hrr,hMc])
end Go.Known
end
section
namespace Go.Known
open Go Go.AE Go.Proofs
open Go.Plain
theorem fz_cVt (f:Int) (L:List Lt):freezeV (SMem.get ⟨[(1,.cells 6 (L.map rowL))],2⟩) 4 (.tuple [.agg [.int .i64 f,.sl 1 0 L.length],.int .i64 0])=some (.tuple [cV f L,.int .i64 0]):=by
 have:=freeze_rows (n:=1) (get:=SMem.get ⟨[(1,.cells 6 (L.map rowL))],2⟩) (b:=1) (k:=6) (rows:=L.map rowL) (by simp) (scal_rows _)
 rw [List.length_map] at this
 rw [freezeV]
 simp only [mapO]
 rw [freezeV]
 simp only [mapO]
 rw [this]
 rfl
set_option maxRecDepth 100000 in
set_option maxHeartbeats 8000000 in
theorem cForget (f n:Int) (ls:List Lt) (hv:ValR f ls) (h0:ls≠[]) (h1:1≤n) (h2:n≤f):PCall Tryz.prog 113 [cV f ls,.int .i64 n] (.tuple [cV (f - 1) (foN n ls),.int .i64 0]):=by
 refine PCall_F hm 4 Tryz.func113 cjForget rfl rfl (by simp [closedL,AVal.closed,closed_rows]) (by simp [AVal.closed,closedL,closed_rows]) fun K hK=>?_
 have hl:ls.length≤1000:=by have:=hv.len; omega
 have hhi:=hv.hi
 have hq:∀ l,l∈ls→l.k=1→1≤l.r∧l.r≤inG l.g ls∧0≤l.g∧l.g≤f:=fun l hm hk=>(hv.key hm (by simp [isP,hk])).2
 have h59:=c59 f ls hl
 have he:=hv.to
 have h31:=c31s (ls.map rowL) (by simpa using h0) (by simpa using hl) (rows6 ls) (closed_rows ls)
 have hin:inG (n - 1) ls≤ls.length:=cntP_le_one
 have hMg:=fun i hi=>mix_get (g:=foL n ls) (ls:=ls) (i:=i) hi
 have hMs:=fun i hi=>mix_set (g:=foL n ls) (ls:=ls) (i:=i) hi
 have hMe:=fun i hi hg=>mix_same (g:=foL n ls) (ls:=ls) (i:=i) hi hg
 have hMl:∀ i,((mix (foL n ls) i ls).map rowL).length=ls.length:=fun i=>by rw [List.length_map,mix_len]
 have hMc:∀ i q,renLL q ((mix (foL n ls) i ls).map rowL)=(mix (foL n ls) i ls).map rowL:=fun i q=>renLL_closed q _ (closed_rows _)
 have hM0:(mix (foL n ls) 0 ls).map rowL=ls.map rowL:=by rw [mix_zero]
 have hMn:(mix (foL n ls) ls.length ls).map rowL=(foN n ls).map rowL:=by rw [mix_all]; rfl
 have hsl:(foN n ls).length=ls.length:=by simp [foN]
 have hKv:=hK _ _ (fz_cVt (f - 1) (foN n ls))
 clear hK
 unfold cV dF dM dV2 at *
 rw [← hMn,hsl] at hKv
 have hlen:(ls.map rowL).length=ls.length:=List.length_map ..
 have hrr:∀ q,renLL q (ls.map rowL)=ls.map rowL:=fun q=>renLL_closed q _ (closed_rows ls)
 obtain⟨M,hM⟩:∃ M:Nat→List (List AVal),(fun i=>(mix (foL n ls) i ls).map rowL)=M:=⟨_,rfl⟩
 have hMi:∀ i,(mix (foL n ls) i ls).map rowL=M i:=fun i=>by rw [← hM]
 simp only [hMi] at hMg hMs hMe hMl hMc hM0 hMn hKv
 clear hM hMi
 have wf:IntKind.i64.wrap (f - 1)=f - 1:=wrap64 (by omega) (by omega)
 have wn:IntKind.i64.wrap (n - 1)=n - 1:=wrap64 (by omega) (by omega)
 generalize ls.map rowL=rows at *
 generalize hBe:bls (fillN ls.length ls.length (downV ls) false)=B at *
 generalize hCe:nums (fillN ls.length ls.length (placeV ls) 0)=C at *
 generalize hAe:nums (axis ls)=A at *
 have hrA:∀ q,renLL q A=A:=fun q=>by rw [← hAe]; exact ren_nums q _
 have hrB:∀ q,renLL q B=B:=fun q=>by rw [← hBe]; exact ren_bls q _
 have hrC:∀ q,renLL q C=C:=fun q=>by rw [← hCe]; exact ren_nums q _
 clear hBe hCe hAe
 generalize (axis ls).length=m at *
 generalize crE ls ls.length=E at *
 simp
 refine SC_ctr h59 [] (by simp [hrr]) (by simp) (by simp) ?_
 rintro r sm (⟨h1,_⟩ | ⟨_,h1,_⟩ | ⟨_,_,hf0,hf1,_,rfl,rfl⟩)
 · exact absurd he h1
 · exact absurd h1 h0
 obtain⟨F,hF⟩:∃ F:Nat,f=(F:Int):=⟨f.toNat,by omega⟩
 subst hF
 have hn1:¬n<1:=by omega
 have hn2:¬(F:Int)<n:=by omega
 simp [hrr,hrA,hrB,hrC,ren_mkE,ren_nums,hn1,hn2]
 refine SC_ctr h31 [] (by simp [hrr]) (by simp) (by simp) ?_
 rintro r sm ⟨rfl,rfl⟩
 simp [hrr,hrA,hrB,hrC,ren_mkE,ren_nums,hlen]
 have hcl:(nums (cnts F ls)).length=F+1:=by rw [len_nums,cnts_length]
 obtain⟨G,hG⟩:∃ G:Nat,n - 1=(G:Int):=⟨(n - 1).toNat,by omega⟩
 have hG1:G<F+1:=by omega
 have hc0:=cnts_get (ls:=ls) (g:=G) (F:=F) (by omega)
 have hc2:=nums_get hc0
 obtain⟨hc3,hc4⟩:=getE hc2
 rw [hG] at hin
 have wn':IntKind.i64.wrap (n - 1)=(G:Int):=by rw [wn,hG]
 refine wZ_loop (α:=Nat) (fun i=>[(37,.int .i64 i),(36,.int .i64 ls.length),(35,.sl 9 0 ls.length),(8,.sl 9 0 ls.length),(6,.ptr 3 0 0),(4,.ptr 2 0 0),(2,.ptr 1 0 0),(1,.int .i64 n)])
  (fun i=>⟨[(9,.cells 6 (M i)),(3,.cells 7 [[.int .i64 (F:Int),.imm rows,.sl 5 0 ls.length,.sl 7 0 m,.sl 6 0 ls.length,.map 8,.sl 4 0 (F+1)]]),(4,.cells 1 (nums (cnts F ls))),(5,.cells 1 B),(6,.cells 1 C),(7,.cells 1 A),(8,.map (mkE 0 E) E.length),(2,.cells 2 [[.int .i64 0,.nilSl]]),(1,.cells 2 [[.int .i64 F,.imm rows]])],10⟩)
  (fun i=>ls.length - i) (fun i=>i≤ls.length) 0 [(9,34),(3,11),(4,12),(5,13),(6,14),(7,15),(8,16)] (by simp [hrr,hrA,hrB,hrC,ren_mkE,ren_nums,hM0]) (by simp) ?_
 intro i hi N hN
 try simp only at hi hN ⊢
 by_cases hlt:i<ls.length
 · have hg:=hMg i hlt
   obtain⟨hgl,hg2⟩:=getE hg
   have hset:=hMs i hlt
   have hw:IntKind.i64.wrap ((i:Int)+1)=(i:Int)+1:=wrap64 (by omega) (by omega)
   have hlM:=hMl i
   have hN':=hN (i+1) []
   by_cases hk:(at' ls i).k=1
   · obtain⟨q1,q2,q3,q4⟩:=hq _ (at'_mem hlt) hk
     have wg:IntKind.i64.wrap ((at' ls i).g - 1)=(at' ls i).g - 1:=wrap64 (by omega) (by omega)
     by_cases hlo:(at' ls i).g<n
     · have hsame:=hMe i hlt (fo_same fun e=>by omega)
       rw [hsame] at hN'
       simp [hlt,hg,hg2,hlM,hlen,rowL,hk,hlo,hw]
       exact hN' _ _ (by omega) (by omega) (by simp [hrr,hrA,hrB,hrC,ren_mkE,ren_nums,hMc])
     · have wr':IntKind.i64.wrap ((at' ls i).r+(inG (G:Int) ls:Int))=(at' ls i).r+(inG (G:Int) ls:Int):=by
        have:inG (at' ls i).g ls≤ls.length:=cntP_le_one
        exact wrap64 (by omega) (by omega)
       by_cases hgn:(at' ls i).g=n
       · rw [fo_at hk hgn,hG] at hset
         simp only [rowL,hk,hgn,hG] at hset
         simp [hlt,hg,hg2,hlM,hlen,rowL,hk,hgn,hw,wn',wr',hc2,hc4,hcl,hG1]
         exact hN' _ _ (by omega) (by omega) (by simp [hrr,hrA,hrB,hrC,ren_mkE,ren_nums,hMc,hset])
       · rw [fo_gt hk (by omega)] at hset
         simp only [rowL,hk] at hset
         simp [hlt,hg,hg2,hlM,hlen,rowL,hk,hlo,hgn,hw,wg]
         exact hN' _ _ (by omega) (by omega) (by simp [hrr,hrA,hrB,hrC,ren_mkE,ren_nums,hMc,hset])
   · have hsame:=hMe i hlt (fo_same fun e=>hk e.1)
     rw [hsame] at hN'
     simp [hlt,hg,hg2,hlM,hlen,rowL,hk,hw]
     exact hN' _ _ (by omega) (by omega) (by simp [hrr,hrA,hrB,hrC,ren_mkE,ren_nums,hMc])
 · have hie:i=ls.length:=by omega
   subst hie
   simp [hlt,wf]
   exact endK hKv [(1,9)] (by simp [hrr,hMc])
end Go.Known
end
section
namespace Go.Known
open Go Go.AE Go.Proofs
open Go.Plain
structure Fg where
 p:Int
 r:Bool
 d:Int
deriving DecidableEq,Inhabited
def rowG (x:Fg):List AVal:=[.int .i64 x.p,.bool x.r,.int .i64 x.d]
def frV (fs:List Fg) (re lo:Int):AVal:=.agg [.imm (fs.map rowG),.int .i64 re,.int .i64 lo]
def fgAt (fs:List Fg) (i:Nat):Fg:=fs.getD i default
def fiG (x:Fg) (fs:List Fg):Nat:=fs.findIdx fun y=>decide (y=x)
theorem closed_rowG:∀ (fs:List Fg),closedLL (fs.map rowG)=true
 | []=>rfl
 | l :: r=>by simp only [List.map_cons,closedLL,closed_rowG r,Bool.and_true]; rfl
theorem scal_rowG {get:Nat→Option ABlk} {n:Nat} (l:List Fg):∀ row,row∈l.map rowG → ∀ x,x∈row→freezeV get (n+1) x=some x:=by
 intro row hr x hx
 obtain⟨i,_,rfl⟩:=List.mem_map.1 hr
 simp only [rowG,List.mem_cons,List.not_mem_nil,or_false] at hx
 rcases hx with rfl | rfl | rfl<;>rfl
theorem get_rowG (fs:List Fg) {i:Nat} (h:i<fs.length):(fs.map rowG)[i]? = some (rowG (fgAt fs i)):=by
 rw [List.getElem?_map,List.getElem?_eq_getElem h,fgAt,List.getD,List.getElem?_eq_getElem h]
 rfl
theorem fgAt_eq {fs:List Fg} {i:Nat} (h:i<fs.length):fgAt fs i=fs[i]:=by rw [fgAt,List.getD,List.getElem?_eq_getElem h]; rfl
theorem same_rowG (a b:Fg):sameCells [.int,.bool,.int] (rowG a) (rowG b)=some (decide (a=b)):=by
 obtain⟨a1,a2,a3⟩:=a
 obtain⟨b1,b2,b3⟩:=b
 simp only [rowG,sameCells,keyEq,if_true,Fg.mk.injEq]
 by_cases h1:a1=b1
 · by_cases h2:a2=b2
   · by_cases h3:a3=b3
     · simp [h1,h2,h3]
     · simp [h1,h2,h3,beq_false_of_ne h3]
   · simp [h1,h2,beq_false_of_ne h2]
 · simp [h1,beq_false_of_ne h1]
theorem eq_rowG (a b:Fg):binA .eql (.flat [.int,.bool,.int]) (.agg (rowG a)) (.agg (rowG b))=some (.bool (decide (a=b))):=by
 simp only [binA,eqA,same_rowG]
theorem fi_le (x:Fg) (fs:List Fg):fiG x fs≤fs.length:=List.findIdx_le_length
theorem fi_eq {x:Fg} {fs:List Fg} {i:Nat} (h:i<fs.length) (hx:fgAt fs i=x) (hn:∀ j,j<i→fgAt fs j≠x):fiG x fs=i:=by
 unfold fiG
 rw [List.findIdx_eq h]
 refine⟨by rw [← fgAt_eq h,hx]; simp,fun j hj=>?_⟩
 have:=hn j hj
 rw [fgAt_eq (by omega)] at this
 simpa using this
theorem fi_none {x:Fg} {fs:List Fg} (hn:∀ j,j<fs.length→fgAt fs j≠x):fiG x fs=fs.length:=by
 unfold fiG
 rw [List.findIdx_eq_length]
 intro y hy
 obtain⟨j,hj,rfl⟩:=List.getElem_of_mem hy
 have:=hn j hj
 rw [fgAt_eq hj] at this
 simpa using this
def fiI (x:Fg) (fs:List Fg):Int:=if fiG x fs<fs.length then (fiG x fs:Int) else -1
set_option maxRecDepth 100000 in
set_option maxHeartbeats 4000000 in
theorem c150 (x:Fg) (fs:List Fg) (h:fs.length≤1000):PCall Tryz.prog 196 [.imm (fs.map rowG),.agg (rowG x)] (.int .i64 (fiI x fs)):=by
 refine PCall_1 hm Tryz.func196 cf150 rfl rfl (by simp [closedL,AVal.closed,closed_rowG,rowG]) trivial fun K hK=>?_
 have hrr:∀ q,renLL q (fs.map rowG)=fs.map rowG:=fun q=>renLL_closed q _ (closed_rowG fs)
 have hrx:∀ q,renL q (rowG x)=rowG x:=fun q=>rfl
 have hlen:(fs.map rowG).length=fs.length:=List.length_map ..
 have hg:=fun i hi=>get_rowG fs (i:=i) hi
 have l3:∀ y:Fg,(rowG y).length=3:=fun _=>rfl
 have t3:∀ y:Fg,(rowG y).take 3=rowG y:=fun _=>rfl
 have hq:=fun y=>eq_rowG x y
 generalize fs.map rowG=rows at *
 have hl0:=l3 x
 have ht0:=t3 x
 simp [hlen,hl0]
 refine wZ_loop (α:=Nat) (fun i=>[(8,.int .i64 i),(7,.int .i64 fs.length),(6,.imm rows),(0,.imm rows),(3,.ptr 1 0 0)]) (fun _=>⟨[(1,.cells 3 [rowG x])],2⟩) (fun i=>fs.length - i) (fun i=>i≤fs.length ∧ ∀ j,j<i→fgAt fs j≠x) 0 [] (by simp [hrr,hrx]) (by simp) ?_
 rintro i ⟨hi,hI⟩ N hN
 try simp only at hi hN ⊢
 by_cases hlt:i<fs.length
 · have hgi:=hg i hlt
   obtain⟨hgl,hg2⟩:=getE hgi
   have hw:IntKind.i64.wrap ((i:Int)+1)=(i:Int)+1:=wrap64 (by omega) (by omega)
   have he:=hq (fgAt fs i)
   have hl1:=l3 (fgAt fs i)
   have ht1:=t3 (fgAt fs i)
   by_cases hx:x=fgAt fs i
   · have hfi:fiI x fs=(i:Int):=by
      unfold fiI
      rw [fi_eq hlt hx.symm hI,if_pos hlt]
     rw [hfi] at hK
     rw [decide_eq_true hx] at he
     generalize rowG (fgAt fs i)=ra at *
     generalize rowG x=rb at *
     simp [hlt,hgi,hg2,hw,hl0,ht0,hl1,ht1,he]
     exact endK hK [] (by simp)
   · rw [decide_eq_false hx] at he
     generalize rowG (fgAt fs i)=ra at *
     generalize rowG x=rb at *
     simp [hlt,hgi,hg2,hw,hl0,ht0,hl1,ht1,he]
     refine hN (i+1) [] _ _ (by omega) ⟨by omega,fun j hj e=>?_⟩ (by simp [hrr,hrx])
     by_cases hji:j=i
     · subst hji; exact hx e.symm
     · exact hI j (by omega) e
 · have hie:i=fs.length:=by omega
   have hfi:fiI x fs = -1:=by
    unfold fiI
    rw [fi_none (fun j hj=>hI j (by omega)),if_neg (by omega)]
   rw [hfi] at hK
   simp [hlt]
   exact endK hK [] (by simp)
end Go.Known
end
section
namespace Go.Known
open Go Go.AE Go.Proofs
open Go.Plain
theorem fi_lt {x:Fg} {l:List Fg}:fiG x l<l.length ↔ ∃ j,j<l.length∧fgAt l j=x:=by
 constructor
 · intro h
   refine⟨fiG x l,h,?_⟩
   have:=List.findIdx_getElem (p:=fun y=>decide (y=x)) (xs:=l) (w:=h)
   rw [fgAt_eq h]
   exact of_decide_eq_true this
 · rintro⟨j,hj,rfl⟩
   refine List.findIdx_lt_length_of_exists ⟨l[j],List.getElem_mem hj,?_⟩
   rw [fgAt_eq hj]
   simp
theorem fg_take {fs:List Fg} {i j:Nat} (hj:j<i):fgAt (fs.take i) j=fgAt fs j:=by
 unfold fgAt List.getD
 rw [List.getElem?_take,if_pos hj]
theorem fi_take {fs:List Fg} {i:Nat} (h:i<fs.length):fiG (fgAt fs i) (fs.take i)<(fs.take i).length↔fiG (fgAt fs i) fs≠i:=by
 rw [fi_lt]
 have hl:(fs.take i).length=i:=by rw [List.length_take]; omega
 rw [hl]
 constructor
 · rintro⟨j,hj,e⟩ hi
   rw [fg_take hj] at e
   have:=List.findIdx_eq (p:=fun y=>decide (y=fgAt fs i)) h
   unfold fiG at hi
   have h2:=(this.1 hi).2 j hj
   rw [← fgAt_eq (by omega),e] at h2
   simp at h2
 · intro hne
   refine Classical.byContradiction fun hc=>hne (fi_eq h rfl fun j hj e=>hc ⟨j,hj,?_⟩)
   rw [fg_take hj,e]
def ThereP (x:Fg):Prop:=1≤x.p∧x.p≤9∧0≤x.d∧x.d≤6
instance (x:Fg):Decidable (ThereP x):=by unfold ThereP; infer_instance
def FrV (fs:List Fg) (re lo:Int):Prop:=fs.length≤40∧0≤re∧re≤40∧1≤lo∧lo≤20 ∧ ∀ i,i<fs.length→ThereP (fgAt fs i)∧fiG (fgAt fs i) fs=i
open Classical in
noncomputable def frB (fs:List Fg) (re lo:Int):Bool:=decide (FrV fs re lo)
theorem frB_true {fs:List Fg} {re lo:Int} (h:FrV fs re lo):frB fs re lo=true:=by unfold frB; simp [h]
theorem frB_false {fs:List Fg} {re lo:Int} (h:¬FrV fs re lo):frB fs re lo=false:=by unfold frB; simp [h]
set_option maxRecDepth 100000 in
set_option maxHeartbeats 4000000 in
theorem c119 (x:Fg) (fs:List Fg) (h:fs.length≤1000):PCall Tryz.prog 163 [.imm (fs.map rowG),.agg (rowG x)] (.bool (decide (fiG x fs<fs.length))):=by
 refine PCall_1 hm Tryz.func163 cf119 rfl rfl (by simp [closedL,AVal.closed,closed_rowG,rowG]) trivial fun K hK=>?_
 have h150:=c150 x fs h
 have hrr:∀ q,renLL q (fs.map rowG)=fs.map rowG:=fun q=>renLL_closed q _ (closed_rowG fs)
 have hle:=fi_le x fs
 generalize fs.map rowG=rows at *
 unfold rowG at *
 simp
 refine SC_pure h150 ?_
 by_cases hlt:fiG x fs<fs.length
 · have:fiI x fs=(fiG x fs:Int):=by unfold fiI; rw [if_pos hlt]
   rw [decide_eq_true hlt] at hK
   simp [this]
   exact endK hK [] (by simp)
 · have:fiI x fs = -1:=by unfold fiI; rw [if_neg hlt]
   rw [decide_eq_false hlt] at hK
   simp [this]
   exact endK hK [] (by simp)
theorem c118 (x:Fg):PCall Tryz.prog 162 [.agg (rowG x)] (.bool (decide (ThereP x))):=by
 refine PCall_1 hm Tryz.func162 cf118 rfl rfl (by simp [closedL,AVal.closed,rowG]) trivial fun K hK=>?_
 by_cases h1:1≤x.p
 · by_cases h2:x.p≤9
   · by_cases h3:0≤x.d
     · by_cases h4:x.d≤6
       · simp [rowG,h1,h2,h3,h4]
         exact endK hK [] (by simp [ThereP,h1,h2,h3,h4])
       · simp [rowG,h1,h2,h3,h4]
         exact endK hK [] (by simp [ThereP,h1,h2,h3,h4])
     · simp [rowG,h1,h2,h3]
       exact endK hK [] (by simp [ThereP,h1,h2,h3])
   · simp [rowG,h1,h2]
     exact endK hK [] (by simp [ThereP,h1,h2])
 · simp [rowG,h1]
   exact endK hK [] (by simp [ThereP,h1])
end Go.Known
end
