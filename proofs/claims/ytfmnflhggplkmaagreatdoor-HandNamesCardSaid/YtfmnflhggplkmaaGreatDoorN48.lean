/- Part 48 of the proof: Ie. -/
import Derived.Test.YtfmnflhggplkmaaGreatDoorN47
set_option linter.all false
namespace Go.Known
open Go Go.AE Go.Proofs
open Go.Plain
theorem cand_64 {k:Nat} (hk:k<126):Fg64 (candAt k):=by
 obtain⟨h1,h2,h3,h4⟩:=cand_good hk
 exact⟨by omega,by omega,by omega,by omega⟩
theorem cand_at {i e t:Nat} (he:e<7) (ht:t<2):candAt (14*i+2*e+t)=⟨(i:Int)+1,decide (t=1),(e:Int)⟩:=by
 unfold candAt
 rw[show (14*i+2*e+t) / 14=i by omega,show (14*i+2*e+t) % 2=t by omega,show (14*i+2*e+t) % 14 / 2=e by omega]
 rfl
def pnV (s:List UInt8) (a b:AVal):AVal:=match PN s with
 | some f=>.tuple [.agg (rowG f),a]
 | none=>.tuple [.agg [.int .i64 0,.bool false,.int .i64 0],b]
set_option maxRecDepth 100000 in
set_option maxHeartbeats 8000000 in
theorem cParseP (s:List UInt8):PCall Tryz.prog 15 [.str s] (pnV s (.int .i64 0) (.int .i64 6)):=by
 refine PCall_F hm 4 Tryz.func15 chParseName rfl rfl rfl (by unfold pnV; split<;>rfl) fun K hK=>?_
 have hKs:∀ k,k<126→nameS (candAt k)=s→(∀ j,j<k→nameS (candAt j)≠s)→K (.tuple [.agg (rowG (candAt k)),.int .i64 0]) ⟨[],1⟩:=fun k hk h1 h2=>hK _ _ (by unfold pnV; rw[PN_some hk h1 h2]; rfl)
 have hKn:(∀ j,j<126→nameS (candAt j)≠s)→K (.tuple [.agg [.int .i64 0,.bool false,.int .i64 0],.int .i64 6]) ⟨[],1⟩:=fun h=>hK _ _ (by unfold pnV; rw[PN_none h]; rfl)
 clear hK
 simp
 refine wZ_loop (α:=Nat) (fun i=>[(4,.int .i64 ((i:Int)+1)),(2,.ptr 1 0 0),(0,.str s)]) (fun _=>⟨[(1,.cells 3 [[.int .i64 0,.bool false,.int .i64 0]])],2⟩) (fun i=>9 - i) (fun i=>i≤9 ∧ ∀ j,j<14*i→nameS (candAt j)≠s) 0 [] (by simp) (by simp) ?_
 rintro i ⟨hi,hno⟩ N hN
 try simp only at hi hN ⊢
 by_cases hlt:i<9
 ·have h9:(i:Int)+1≤9:=by omega
  have h9':(i:Int)<9:=by omega
  have hw:IntKind.i64.wrap ((i:Int)+1+1)=(i:Int)+1+1:=wrap64 (by omega) (by omega)
  simp[h9,h9',hlt]
  refine wZ_loop (α:=Nat) (fun e=>[(5,.int .i64 e),(4,.int .i64 ((i:Int)+1)),(2,.ptr 1 0 0),(0,.str s)]) (fun _=>⟨[(1,.cells 3 [[.int .i64 0,.bool false,.int .i64 0]])],2⟩) (fun e=>7 - e) (fun e=>e≤7 ∧ ∀ j,j<14*i+2*e→nameS (candAt j)≠s) 0 [] (by simp) (by simpa using hno) ?_
  rintro e ⟨he,hne⟩ N2 hN2
  try simp only at he hN2 ⊢
  by_cases hlt2:e<7
  ·have h6:(e:Int)≤6:=by omega
   have h6':e≤6:=by omega
   have hw2:IntKind.i64.wrap ((e:Int)+1)=(e:Int)+1:=wrap64 (by omega) (by omega)
   simp[h6,h6']
   refine wZ_loop (α:=Nat) (fun t=>[(19,.int .i64 t),(18,.int .i64 2),(17,.sl 2 0 2),(5,.int .i64 e),(4,.int .i64 ((i:Int)+1)),(2,.ptr 1 0 0),(0,.str s)])
    (fun _=>⟨[(2,.cells 1 [[.bool false],[.bool true]]),(1,.cells 3 [[.int .i64 0,.bool false,.int .i64 0]])],3⟩) (fun t=>2 - t) (fun t=>t≤2 ∧ ∀ j,j<14*i+2*e+t→nameS (candAt j)≠s) 0 [(2,4)] (by simp) (by simpa using hne) ?_
   rintro t ⟨ht,hnt⟩ N3 hN3
   try simp only at ht hN3 ⊢
   by_cases hlt3:t<2
   ·have hk:14*i+2*e+t<126:=by omega
    have hname:=cNameP (candAt (14*i+2*e+t)) (cand_64 hk)
    have hyes:=hKs _ hk
    have hsucc:nameS (candAt (14*i+2*e+t))≠s → ∀ j,j<14*i+2*e+(t+1)→nameS (candAt j)≠s:=fun h j hj=>by
     by_cases hj':j<14*i+2*e+t
     ·exact hnt j hj'
     ·rw[show j=14*i+2*e+t by omega]; exact h
    generalize nameS (candAt (14*i+2*e+t))=nm at *
    rw[cand_at hlt2 hlt3]at hname hyes
    unfold rowG at hname hyes
    rcases (show t=0∨t=1 by omega)with rfl|rfl
    ·simp at hname hyes
     by_cases hs:nm=s
     ·have hyes:=hyes hs (by simpa using hnt)
      have hq:binA .eql .num (.str nm) (.str s)=some (.bool true):=by simp[binA,binStr,hs]
      simp
      refine SC_pure hname ?_
      simp[hq]
      exact endK hyes [] (by simp)
     ·simp
      refine SC_pure hname ?_
      have w1:IntKind.i64.wrap 1=1:=rfl
      have hbq:(nm == s)=false:=by simpa using hs
      have hq:binA .eql .num (.str nm) (.str s)=some (.bool false):=by simp[binA,binStr,hbq]
      simp[hq,w1]
      exact hN3 1 [] _ _ (by omega) ⟨by omega,hsucc hs⟩ (by simp)
    ·simp at hname hyes
     by_cases hs:nm=s
     ·have hyes:=hyes hs (by simpa using hnt)
      have hq:binA .eql .num (.str nm) (.str s)=some (.bool true):=by simp[binA,binStr,hs]
      simp
      refine SC_pure hname ?_
      simp[hq]
      exact endK hyes [] (by simp)
     ·simp
      refine SC_pure hname ?_
      have w2:IntKind.i64.wrap 2=2:=rfl
      have hbq:(nm == s)=false:=by simpa using hs
      have hq:binA .eql .num (.str nm) (.str s)=some (.bool false):=by simp[binA,binStr,hbq]
      simp[hq,w2]
      exact hN3 2 [] _ _ (by omega) ⟨by omega,hsucc hs⟩ (by simp)
   ·have ht2:t=2:=by omega
    subst ht2
    simp[hw2]
    exact hN2 (e+1) [] _ _ (by omega) ⟨by omega,fun j hj=>hnt j (by omega)⟩ (by simp)
  ·have he7:e=7:=by omega
   subst he7
   simp[hw]
   exact hN (i+1) [] _ _ (by omega) ⟨by omega,fun j hj=>hne j (by omega)⟩ (by simp)
 ·have hi9:i=9:=by omega
  subst hi9
  have hKn:=hKn fun j hj=>hno j (by omega)
  simp
  exact endK hKn [] (by simp)
end Go.Known
