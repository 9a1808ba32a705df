/- Part 36 of the proof: Sv, Sw. -/
import Derived.Test.YtipeejpafgnjdaaGreatDoorF15
import Derived.Test.YtipeejpafgnjdaaGreatDoorF16
import Derived.Test.YtipeejpafgnjdaaGreatDoorF32
import Derived.Test.YtipeejpafgnjdaaGreatDoorF35
set_option linter.all false
section
namespace Go.Known
open Go Go.AE Go.Proofs
open Go.Plain
theorem fo_same {n:Int} {ls:List Lt} {l:Lt} (h:¬(l.k=1∧n≤l.g)):foL n ls l=l:=by unfold foL; rw [if_neg h]
theorem fo_at {n:Int} {ls:List Lt} {l:Lt} (h:l.k=1) (hg:l.g=n):foL n ls l={ l with g:=l.g - 1,r:=l.r+inG (n - 1) ls }:=by unfold foL; rw [if_pos ⟨h,by omega⟩,if_pos hg]
theorem fo_gt {n:Int} {ls:List Lt} {l:Lt} (h:l.k=1) (hg:n<l.g):foL n ls l={ l with g:=l.g - 1 }:=by unfold foL; rw [if_pos ⟨h,by omega⟩,if_neg (by omega)]
end Go.Known
end
section
namespace Go.Known
open Go Go.AE Go.Proofs
open Go.Plain
theorem fz_cVt (f:Int) (L:List Lt):freezeV (SMem.get ⟨[(1,.cells 6 (L.map rowL))],2⟩) 4 (.tuple [.agg [.int .i64 f,.sl 1 0 L.length],.int .i64 0])=some (.tuple [cV f L,.int .i64 0]):=by
 have:=freeze_rows (n:=1) (get:=SMem.get ⟨[(1,.cells 6 (L.map rowL))],2⟩) (b:=1) (k:=6) (rows:=L.map rowL) (by simp) (scal_rows _)
 rw [List.length_map] at this
 rw [freezeV]
 simp only [mapO]
 rw [freezeV]
 simp only [mapO]
 rw [this]
 rfl
set_option maxRecDepth 100000 in
set_option maxHeartbeats 8000000 in
theorem cForget (f n:Int) (ls:List Lt) (hv:ValR f ls) (h0:ls≠[]) (h1:1≤n) (h2:n≤f):PCall Tryz.prog 113 [cV f ls,.int .i64 n] (.tuple [cV (f - 1) (foN n ls),.int .i64 0]):=by
 refine PCall_F hm 4 Tryz.func113 cjForget rfl rfl (by simp [closedL,AVal.closed,closed_rows]) (by simp [AVal.closed,closedL,closed_rows]) fun K hK=>?_
 have hl:ls.length≤1000:=by have:=hv.len; omega
 have hhi:=hv.hi
 have hq:∀ l,l∈ls→l.k=1→1≤l.r∧l.r≤inG l.g ls∧0≤l.g∧l.g≤f:=fun l hm hk=>(hv.key hm (by simp [isP,hk])).2
 have h59:=c59 f ls hl
 have he:=hv.to
 have h31:=c31s (ls.map rowL) (by simpa using h0) (by simpa using hl) (rows6 ls) (closed_rows ls)
 have hin:inG (n - 1) ls≤ls.length:=cntP_le_one
 have hMg:=fun i hi=>mix_get (g:=foL n ls) (ls:=ls) (i:=i) hi
 have hMs:=fun i hi=>mix_set (g:=foL n ls) (ls:=ls) (i:=i) hi
 have hMe:=fun i hi hg=>mix_same (g:=foL n ls) (ls:=ls) (i:=i) hi hg
 have hMl:∀ i,((mix (foL n ls) i ls).map rowL).length=ls.length:=fun i=>by rw [List.length_map,mix_len]
 have hMc:∀ i q,renLL q ((mix (foL n ls) i ls).map rowL)=(mix (foL n ls) i ls).map rowL:=fun i q=>renLL_closed q _ (closed_rows _)
 have hM0:(mix (foL n ls) 0 ls).map rowL=ls.map rowL:=by rw [mix_zero]
 have hMn:(mix (foL n ls) ls.length ls).map rowL=(foN n ls).map rowL:=by rw [mix_all]; rfl
 have hsl:(foN n ls).length=ls.length:=by simp [foN]
 have hKv:=hK _ _ (fz_cVt (f - 1) (foN n ls))
 clear hK
 unfold cV dF dM dV2 at *
 rw [← hMn,hsl] at hKv
 have hlen:(ls.map rowL).length=ls.length:=List.length_map ..
 have hrr:∀ q,renLL q (ls.map rowL)=ls.map rowL:=fun q=>renLL_closed q _ (closed_rows ls)
 obtain⟨M,hM⟩:∃ M:Nat→List (List AVal),(fun i=>(mix (foL n ls) i ls).map rowL)=M:=⟨_,rfl⟩
 have hMi:∀ i,(mix (foL n ls) i ls).map rowL=M i:=fun i=>by rw [← hM]
 simp only [hMi] at hMg hMs hMe hMl hMc hM0 hMn hKv
 clear hM hMi
 have wf:IntKind.i64.wrap (f - 1)=f - 1:=wrap64 (by omega) (by omega)
 have wn:IntKind.i64.wrap (n - 1)=n - 1:=wrap64 (by omega) (by omega)
 generalize ls.map rowL=rows at *
 generalize hBe:bls (fillN ls.length ls.length (downV ls) false)=B at *
 generalize hCe:nums (fillN ls.length ls.length (placeV ls) 0)=C at *
 generalize hAe:nums (axis ls)=A at *
 have hrA:∀ q,renLL q A=A:=fun q=>by rw [← hAe]; exact ren_nums q _
 have hrB:∀ q,renLL q B=B:=fun q=>by rw [← hBe]; exact ren_bls q _
 have hrC:∀ q,renLL q C=C:=fun q=>by rw [← hCe]; exact ren_nums q _
 clear hBe hCe hAe
 generalize (axis ls).length=m at *
 generalize crE ls ls.length=E at *
 simp
 refine SC_ctr h59 [] (by simp [hrr]) (by simp) (by simp) ?_
 rintro r sm (⟨h1,_⟩ | ⟨_,h1,_⟩ | ⟨_,_,hf0,hf1,_,rfl,rfl⟩)
 · exact absurd he h1
 · exact absurd h1 h0
 obtain⟨F,hF⟩:∃ F:Nat,f=(F:Int):=⟨f.toNat,by omega⟩
 subst hF
 have hn1:¬n<1:=by omega
 have hn2:¬(F:Int)<n:=by omega
 simp [hrr,hrA,hrB,hrC,ren_mkE,ren_nums,hn1,hn2]
 refine SC_ctr h31 [] (by simp [hrr]) (by simp) (by simp) ?_
 rintro r sm ⟨rfl,rfl⟩
 simp [hrr,hrA,hrB,hrC,ren_mkE,ren_nums,hlen]
 have hcl:(nums (cnts F ls)).length=F+1:=by rw [len_nums,cnts_length]
 obtain⟨G,hG⟩:∃ G:Nat,n - 1=(G:Int):=⟨(n - 1).toNat,by omega⟩
 have hG1:G<F+1:=by omega
 have hc0:=cnts_get (ls:=ls) (g:=G) (F:=F) (by omega)
 have hc2:=nums_get hc0
 obtain⟨hc3,hc4⟩:=getE hc2
 rw [hG] at hin
 have wn':IntKind.i64.wrap (n - 1)=(G:Int):=by rw [wn,hG]
 refine wZ_loop (α:=Nat) (fun i=>[(37,.int .i64 i),(36,.int .i64 ls.length),(35,.sl 9 0 ls.length),(8,.sl 9 0 ls.length),(6,.ptr 3 0 0),(4,.ptr 2 0 0),(2,.ptr 1 0 0),(1,.int .i64 n)])
  (fun i=>⟨[(9,.cells 6 (M i)),(3,.cells 7 [[.int .i64 (F:Int),.imm rows,.sl 5 0 ls.length,.sl 7 0 m,.sl 6 0 ls.length,.map 8,.sl 4 0 (F+1)]]),(4,.cells 1 (nums (cnts F ls))),(5,.cells 1 B),(6,.cells 1 C),(7,.cells 1 A),(8,.map (mkE 0 E) E.length),(2,.cells 2 [[.int .i64 0,.nilSl]]),(1,.cells 2 [[.int .i64 F,.imm rows]])],10⟩)
  (fun i=>ls.length - i) (fun i=>i≤ls.length) 0 [(9,34),(3,11),(4,12),(5,13),(6,14),(7,15),(8,16)] (by simp [hrr,hrA,hrB,hrC,ren_mkE,ren_nums,hM0]) (by simp) ?_
 intro i hi N hN
 try simp only at hi hN ⊢
 by_cases hlt:i<ls.length
 · have hg:=hMg i hlt
   obtain⟨hgl,hg2⟩:=getE hg
   have hset:=hMs i hlt
   have hw:IntKind.i64.wrap ((i:Int)+1)=(i:Int)+1:=wrap64 (by omega) (by omega)
   have hlM:=hMl i
   have hN':=hN (i+1) []
   by_cases hk:(at' ls i).k=1
   · obtain⟨q1,q2,q3,q4⟩:=hq _ (at'_mem hlt) hk
     have wg:IntKind.i64.wrap ((at' ls i).g - 1)=(at' ls i).g - 1:=wrap64 (by omega) (by omega)
     by_cases hlo:(at' ls i).g<n
     · have hsame:=hMe i hlt (fo_same fun e=>by omega)
       rw [hsame] at hN'
       simp [hlt,hg,hg2,hlM,hlen,rowL,hk,hlo,hw]
       exact hN' _ _ (by omega) (by omega) (by simp [hrr,hrA,hrB,hrC,ren_mkE,ren_nums,hMc])
     · have wr':IntKind.i64.wrap ((at' ls i).r+(inG (G:Int) ls:Int))=(at' ls i).r+(inG (G:Int) ls:Int):=by
        have:inG (at' ls i).g ls≤ls.length:=cntP_le_one
        exact wrap64 (by omega) (by omega)
       by_cases hgn:(at' ls i).g=n
       · rw [fo_at hk hgn,hG] at hset
         simp only [rowL,hk,hgn,hG] at hset
         simp [hlt,hg,hg2,hlM,hlen,rowL,hk,hgn,hw,wn',wr',hc2,hc4,hcl,hG1]
         exact hN' _ _ (by omega) (by omega) (by simp [hrr,hrA,hrB,hrC,ren_mkE,ren_nums,hMc,hset])
       · rw [fo_gt hk (by omega)] at hset
         simp only [rowL,hk] at hset
         simp [hlt,hg,hg2,hlM,hlen,rowL,hk,hlo,hgn,hw,wg]
         exact hN' _ _ (by omega) (by omega) (by simp [hrr,hrA,hrB,hrC,ren_mkE,ren_nums,hMc,hset])
   · have hsame:=hMe i hlt (fo_same fun e=>hk e.1)
     rw [hsame] at hN'
     simp [hlt,hg,hg2,hlM,hlen,rowL,hk,hw]
     exact hN' _ _ (by omega) (by omega) (by simp [hrr,hrA,hrB,hrC,ren_mkE,ren_nums,hMc])
 · have hie:i=ls.length:=by omega
   subst hie
   simp [hlt,wf]
   exact endK hKv [(1,9)] (by simp [hrr,hMc])
end Go.Known
end
