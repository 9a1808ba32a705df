/- Part 50 of the proof: If. -/
import Derived.Test.YtfmnflhggplkmaaGreatDoorN42
import Derived.Test.YtfmnflhggplkmaaGreatDoorN49
set_option linter.all false
namespace Go.Known
open Go Go.AE Go.Proofs
open Go.Plain
def strZ:AVal→Option (AVal×List (Nat×Option ABlk))
 | .str s=>some (.int .i64 s.length,[])
 | _=>none
theorem sd_lenStr {id:Nat} {f:AOpd→AVal} {get:Nat→Option ABlk} (x:AOpd):stepD id f get (.lenStr x)=strZ (f x):=by simp only[stepD]; unfold strZ; rfl
theorem st_str (s:List UInt8):strZ (.str s)=some (.int .i64 s.length,[]):=rfl
attribute [simp] sd_lenStr st_str
theorem there_not {x:Fg} (h:¬ThereP x):¬1≤x.p∨(1≤x.p ∧ ¬x.p≤9)∨(1≤x.p∧x.p≤9 ∧ ¬0≤x.d)∨(1≤x.p∧x.p≤9∧0≤x.d ∧ ¬x.d≤6):=by
 unfold ThereP at h
 omega
set_option maxRecDepth 100000 in
set_option maxHeartbeats 16000000 in
theorem cNames6 (x:Fg) (hx:Fg64 x) (s:List UInt8):PCall Tryz.prog 4 [.agg (rowG x),.str s] (.bool true):=by
 refine PCall_1 hm Tryz.func4 chHNames rfl rfl (by simp[closedL,AVal.closed,rowG]) trivial fun K hK=>?_
 have hk:=known6
 by_cases hl:1000<s.length
 ·have hl':(1000:Int)<(s.length:Int):=by omega
  unfold rowG
  simp[hl,hl']
  refine SC_pure hk ?_
  simp
  exact endK hK [] (by simp)
 ·have hl':¬(1000:Int)<(s.length:Int):=by omega
  have h1:=cParseP s
  have h2:=cParseR s
  have h3:=cNameP x hx
  have h4:=cNameR x hx
  have h5:=cParseP (nameS x)
  unfold pnV at h1 h2 h5
  rw[PN_name]at h5
  have hN:binA .neq .num (.str (nameS x)) (.str (nameS x))=some (.bool false):=by simp[binA,binStr]
  have hE:binA .eql (.flat [.int,.bool,.int]) (.agg [.int .i64 x.p,.bool x.r,.int .i64 x.d]) (.agg [.int .i64 x.p,.bool x.r,.int .i64 x.d])=some (.bool true):=by
   have:=eq_rowG x x
   unfold rowG at this
   simpa using this
  have hG:∀ a b c,binA .neq (.flat [.int,.bool,.int]) (.agg [.int .i64 a,.bool b,.int .i64 c]) (.agg [.int .i64 a,.bool b,.int .i64 c])=some (.bool false):=fun a b c=>by
   have:=same_rowG ⟨a,b,c⟩ ⟨a,b,c⟩
   unfold rowG at this
   simp[binA,eqA,this]
  unfold rowG at h3 h4
  unfold rowG
  generalize nameS x=nm at *
  cases hP:PN s with
  | none=>
   rw[hP]at h1 h2
   simp only at h1 h2
   by_cases hT:ThereP x
   ·rw[if_pos hT]at h5
    obtain⟨t1,t2,t3,t4⟩:=hT
    unfold rowG at h5
    simp[hl,hl']
    refine SC_pure h1 ?_
    simp
    refine SC_pure h2 ?_
    simp
    refine SC_pure h3 ?_
    simp
    refine SC_pure h4 ?_
    simp[hN,hG]
    refine SC_pure h5 ?_
    simp[t1,t2,t3,t4,hE]
    refine SC_pure hk ?_
    simp
    exact endK hK [] (by simp)
   ·rw[if_neg hT]at h5
    simp only at h5
    rcases there_not hT with t1|⟨t1,t2⟩|⟨t1,t2,t3⟩|⟨t1,t2,t3,t4⟩
    ·simp[hl,hl']
     refine SC_pure h1 ?_
     simp
     refine SC_pure h2 ?_
     simp
     refine SC_pure h3 ?_
     simp
     refine SC_pure h4 ?_
     simp[hN,hG]
     refine SC_pure h5 ?_
     simp[t1,hE]
     refine SC_pure hk ?_
     simp
     exact endK hK [] (by simp)
    ·simp[hl,hl']
     refine SC_pure h1 ?_
     simp
     refine SC_pure h2 ?_
     simp
     refine SC_pure h3 ?_
     simp
     refine SC_pure h4 ?_
     simp[hN,hG]
     refine SC_pure h5 ?_
     simp[t1,t2,hE]
     refine SC_pure hk ?_
     simp
     exact endK hK [] (by simp)
    ·simp[hl,hl']
     refine SC_pure h1 ?_
     simp
     refine SC_pure h2 ?_
     simp
     refine SC_pure h3 ?_
     simp
     refine SC_pure h4 ?_
     simp[hN,hG]
     refine SC_pure h5 ?_
     simp[t1,t2,t3,hE]
     refine SC_pure hk ?_
     simp
     exact endK hK [] (by simp)
    ·simp[hl,hl']
     refine SC_pure h1 ?_
     simp
     refine SC_pure h2 ?_
     simp
     refine SC_pure h3 ?_
     simp
     refine SC_pure h4 ?_
     simp[hN,hG]
     refine SC_pure h5 ?_
     simp[t1,t2,t3,t4,hE]
     refine SC_pure hk ?_
     simp
     exact endK hK [] (by simp)
  | some g=>
   rw[hP]at h1 h2
   simp only at h1 h2
   unfold rowG at h1 h2
   by_cases hT:ThereP x
   ·rw[if_pos hT]at h5
    obtain⟨t1,t2,t3,t4⟩:=hT
    unfold rowG at h5
    simp[hl,hl']
    refine SC_pure h1 ?_
    simp
    refine SC_pure h2 ?_
    simp
    refine SC_pure h3 ?_
    simp
    refine SC_pure h4 ?_
    simp[hN,hG]
    refine SC_pure h5 ?_
    simp[t1,t2,t3,t4,hE]
    refine SC_pure hk ?_
    simp
    exact endK hK [] (by simp)
   ·rw[if_neg hT]at h5
    simp only at h5
    rcases there_not hT with t1|⟨t1,t2⟩|⟨t1,t2,t3⟩|⟨t1,t2,t3,t4⟩
    ·simp[hl,hl']
     refine SC_pure h1 ?_
     simp
     refine SC_pure h2 ?_
     simp
     refine SC_pure h3 ?_
     simp
     refine SC_pure h4 ?_
     simp[hN,hG]
     refine SC_pure h5 ?_
     simp[t1,hE]
     refine SC_pure hk ?_
     simp
     exact endK hK [] (by simp)
    ·simp[hl,hl']
     refine SC_pure h1 ?_
     simp
     refine SC_pure h2 ?_
     simp
     refine SC_pure h3 ?_
     simp
     refine SC_pure h4 ?_
     simp[hN,hG]
     refine SC_pure h5 ?_
     simp[t1,t2,hE]
     refine SC_pure hk ?_
     simp
     exact endK hK [] (by simp)
    ·simp[hl,hl']
     refine SC_pure h1 ?_
     simp
     refine SC_pure h2 ?_
     simp
     refine SC_pure h3 ?_
     simp
     refine SC_pure h4 ?_
     simp[hN,hG]
     refine SC_pure h5 ?_
     simp[t1,t2,t3,hE]
     refine SC_pure hk ?_
     simp
     exact endK hK [] (by simp)
    ·simp[hl,hl']
     refine SC_pure h1 ?_
     simp
     refine SC_pure h2 ?_
     simp
     refine SC_pure h3 ?_
     simp
     refine SC_pure h4 ?_
     simp[hN,hG]
     refine SC_pure h5 ?_
     simp[t1,t2,t3,t4,hE]
     refine SC_pure hk ?_
     simp
     exact endK hK [] (by simp)
end Go.Known
