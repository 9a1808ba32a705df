/- Part 49 of the proof: Ig. -/
import Derived.Test.YtfmnflhggplkmaaGreatDoorN48
set_option linter.all false
namespace Go.Known
open Go Go.AE Go.Proofs
open Go.Plain
set_option maxRecDepth 100000 in
set_option maxHeartbeats 8000000 in
theorem cParseR (s:List UInt8):PCall Tryz.prog 16 [.str s] (pnV s (.bool true) (.bool false)):=by
 refine PCall_F hm 4 Tryz.func16 chRParseName rfl rfl rfl (by unfold pnV; split<;>rfl) fun K hK=>?_
 have hKs:∀ k,k<126→nameS (candAt k)=s→(∀ j,j<k→nameS (candAt j)≠s)→K (.tuple [.agg (rowG (candAt k)),.bool true]) ⟨[],1⟩:=fun k hk h1 h2=>hK _ _ (by unfold pnV; rw[PN_some hk h1 h2]; rfl)
 have hKn:(∀ j,j<126→nameS (candAt j)≠s)→K (.tuple [.agg [.int .i64 0,.bool false,.int .i64 0],.bool false]) ⟨[],1⟩:=fun h=>hK _ _ (by unfold pnV; rw[PN_none h]; rfl)
 clear hK
 simp
 refine wZ_loop (α:=Nat) (fun i=>[(4,.int .i64 ((i:Int)+1)),(2,.ptr 1 0 0),(0,.str s)]) (fun _=>⟨[(1,.cells 3 [[.int .i64 0,.bool false,.int .i64 0]])],2⟩) (fun i=>9 - i) (fun i=>i≤9 ∧ ∀ j,j<14*i→nameS (candAt j)≠s) 0 [] (by simp) (by simp) ?_
 rintro i ⟨hi,hno⟩ N hN
 try simp only at hi hN ⊢
 by_cases hlt:i<9
 ·have h9:(i:Int)+1≤9:=by omega
  have h9':(i:Int)<9:=by omega
  have hw:IntKind.i64.wrap ((i:Int)+1+1)=(i:Int)+1+1:=wrap64 (by omega) (by omega)
  simp[h9,h9',hlt]
  refine wZ_loop (α:=Nat) (fun e=>[(5,.int .i64 e),(4,.int .i64 ((i:Int)+1)),(2,.ptr 1 0 0),(0,.str s)]) (fun _=>⟨[(1,.cells 3 [[.int .i64 0,.bool false,.int .i64 0]])],2⟩) (fun e=>7 - e) (fun e=>e≤7 ∧ ∀ j,j<14*i+2*e→nameS (candAt j)≠s) 0 [] (by simp) (by simpa using hno) ?_
  rintro e ⟨he,hne⟩ N2 hN2
  try simp only at he hN2 ⊢
  by_cases hlt2:e<7
  ·have h6:(e:Int)≤6:=by omega
   have h6':e≤6:=by omega
   have hw2:IntKind.i64.wrap ((e:Int)+1)=(e:Int)+1:=wrap64 (by omega) (by omega)
   simp[h6,h6']
   have hk0:14*i+2*e+0<126:=by omega
   have hk1:14*i+2*e+1<126:=by omega
   have n0:=cNameR (candAt (14*i+2*e+0)) (cand_64 hk0)
   have n1:=cNameR (candAt (14*i+2*e+1)) (cand_64 hk1)
   have y0:=hKs _ hk0
   have y1:=hKs _ hk1
   have hsucc:nameS (candAt (14*i+2*e+0))≠s → ∀ j,j<14*i+2*e+1→nameS (candAt j)≠s:=fun h j hj=>by
    by_cases hj':j<14*i+2*e
    ·exact hne j hj'
    ·rw[show j=14*i+2*e+0 by omega]; exact h
   have hsucc2:nameS (candAt (14*i+2*e+0))≠s→nameS (candAt (14*i+2*e+1))≠s → ∀ j,j<14*i+2*(e+1)→nameS (candAt j)≠s:=fun h h2 j hj=>by
    by_cases hj':j<14*i+2*e+1
    ·exact hsucc h j hj'
    ·rw[show j=14*i+2*e+1 by omega]; exact h2
   generalize nameS (candAt (14*i+2*e+0))=m0 at *
   generalize nameS (candAt (14*i+2*e+1))=m1 at *
   rw[cand_at hlt2 (by omega)]at n0 y0 n1 y1
   unfold rowG at n0 y0 n1 y1
   simp at n0 y0 n1 y1
   by_cases h0:m0=s
   ·have y0:=y0 h0 (by simpa using hne)
    have hq:binA .eql .num (.str m0) (.str s)=some (.bool true):=by simp[binA,binStr,h0]
    refine SC_pure n0 ?_
    simp[hq]
    exact endK y0 [] (by simp)
   ·have hbq:(m0 == s)=false:=by simpa using h0
    have hq:binA .eql .num (.str m0) (.str s)=some (.bool false):=by simp[binA,binStr,hbq]
    refine SC_pure n0 ?_
    simp[hq]
    by_cases h1:m1=s
    ·have y1:=y1 h1 (by simpa using hsucc h0)
     have hq1:binA .eql .num (.str m1) (.str s)=some (.bool true):=by simp[binA,binStr,h1]
     refine SC_pure n1 ?_
     simp[hq1]
     exact endK y1 [] (by simp)
    ·have hbq1:(m1 == s)=false:=by simpa using h1
     have hq1:binA .eql .num (.str m1) (.str s)=some (.bool false):=by simp[binA,binStr,hbq1]
     refine SC_pure n1 ?_
     simp[hq1,hw2]
     exact hN2 (e+1) [] _ _ (by omega) ⟨by omega,hsucc2 h0 h1⟩ (by simp)
  ·have he7:e=7:=by omega
   subst he7
   simp[hw]
   exact hN (i+1) [] _ _ (by omega) ⟨by omega,fun j hj=>hne j (by omega)⟩ (by simp)
 ·have hi9:i=9:=by omega
  subst hi9
  have hKn:=hKn fun j hj=>hno j (by omega)
  simp
  exact endK hKn [] (by simp)
end Go.Known
