/- Part 46 of the proof: Tt, Tu, Tv. -/
import Derived.Test.YtipeejpafgnjdaaGreatDoorE45
set_option linter.all false
section
namespace Go.Known
open Go Go.AE Go.Proofs
open Go.Plain
def cpV (b:Nat) (rows:List (List AVal)):AVal:=if rows=[] then .imm [] else .sl b 0 rows.length
theorem Zsk (fs:List Fg):((fs.map rowG).all fun x=>x.length == 3)=true:=by
 rw [List.all_eq_true]
 intro x hx
 obtain⟨a,_,rfl⟩:=List.mem_map.1 hx
 rfl
set_option maxRecDepth 100000 in
set_option maxHeartbeats 8000000 in
theorem c51 (fs:List Fg) (re lo f:Int) (ls:List Lt) (hf:fs.length≤1000) (h:ls.length≤1000) :
 Ctr Tryz.prog 65 [.ptr 1 0 0] ⟨[(1,stB fs re lo f ls)],2⟩ fun r m=>
  r=.tuple [.agg [cpV 2 (fs.map rowG),.int .i64 re,.int .i64 lo],.agg [.int .i64 f,cpV 3 (ls.map rowL)]]∧m=⟨blV 2 3 (fs.map rowG) (blV 3 6 (ls.map rowL) [(1,stB fs re lo f ls)]),4⟩:=by
 refine Zit hm Tryz.func65 cf51 rfl rfl fun K hK=>?_
 have hrr:∀ q,Zam q (ls.map rowL)=ls.map rowL:=fun q=>Zaa q _ (Zab ls)
 have hrG:∀ q,Zam q (fs.map rowG)=fs.map rowG:=fun q=>Zaa q _ (Zaf fs)
 have h31:=fun h0=>c31s (ls.map rowL) h0 (by simpa using h) (Z0r ls) (Zab ls)
 have h31e:=c31e
 have h88:=fun h0=>c88s (fs.map rowG) h0 (by simpa using hf) (Zsk fs) (Zaf fs)
 have h88e:=c88e
 have hcG:=Zaf fs
 have hcL:=Zab ls
 unfold stB at *
 generalize ls.map rowL=rows at *
 generalize fs.map rowG=rowsG at *
 simp
 by_cases hG:rowsG=[]
 · subst hG
   refine Zby h88e ?_
   simp [FT.indep]
   by_cases hL:rows=[]
   · subst hL
     refine Zby h31e ?_
     simp [FT.indep]
     exact endK hK [] (by simp [cpV])
   · refine Zr9 (by simp [Zae,AVal.closed,hcL]) (by simp [hrr]) (h31 hL) ?_
     simp [FT.indep]
     exact endK hK [(3,21)] (by simp [cpV,hL,hrr])
 · refine Zr9 (by simp [Zae,AVal.closed,hcG]) (by simp [hrG]) (h88 hG) ?_
   simp [FT.indep]
   by_cases hL:rows=[]
   · subst hL
     refine Zby h31e ?_
     simp [FT.indep]
     exact endK hK [(2,18)] (by simp [cpV,hG,hrG])
   · refine Zr9 (by simp [Zae,AVal.closed,hcL]) (by simp [hrr]) (h31 hL) ?_
     simp [FT.indep]
     exact endK hK [(2,18),(3,21)] (by simp [cpV,hG,hL,hrG,hrr])
end Go.Known
end
section
namespace Go.Known
open Go Go.AE Go.Proofs
open Go.Plain
theorem Z0v {f:Int} (h0:0≤f) (h1:f≤40):errC f []=0:=by
 have hv:Zax ([]:List Lt)=0:=rfl
 have hok:OkV f []:=.inl rfl
 unfold errC
 rw [if_neg (by simp [hv]),if_neg (by omega),if_pos hok]
theorem Zqt {f:Int} {ls:List Lt} (h:errC f ls=0):0≤f∧f≤40:=by
 unfold errC at h
 split at h
 · cases h
 · split at h
   · cases h
   · omega
section
variable {p:Int} {fs:List Fg} {d:Nat}
end
end Go.Known
end
section
namespace Go.Known
open Go Go.AE Go.Proofs
open Go.Plain
@[simp] theorem Ztt (get : Nat → Option ABlk) (S : List Nat) (k : IntKind) (n : Int) : fzV get S (.int k n) = .int k n := rfl
theorem Z0i (get:Nat→Option ABlk) (S:List Nat) (fs:List Fg):fzV get S (.imm (fs.map rowG))=.imm (fs.map rowG):=Zlr (Zaf fs)
theorem Zqv (get:Nat→Option ABlk) (S:List Nat) (ls:List Lt):fzV get S (.imm (ls.map rowL))=.imm (ls.map rowL):=Zlr (Zab ls)
theorem Zsa {get:Nat→Option ABlk} {S:List Nat} {b k:Nat} {rows:List (List AVal)} (hc:Zap rows=true) (hs:∀ row,row∈rows → ∀ x,x∈row→Zaj (Zir get S) 4 x=some x) (hb:memN b S=true) (hg:get b=if rows=[] then none else some (.cells k rows)):fzV get S (cpV b rows)=.imm rows:=by
 unfold cpV
 by_cases h:rows=[]
 · rw [if_pos h,h]; rfl
 · rw [if_neg h]
   exact Z2n hb (by rw [hg,if_neg h]) rfl hs
theorem Z36 {get:Nat→Option ABlk} {S:List Nat} {b len:Nat} (hb:memN b S=false):fzV get S (.sl b 0 len)=.sl b 0 len:=by
 unfold fzV
 rw [Zaj]
 unfold Zir
 rw [hb]
 rfl
theorem Zkz (k:Nat) (rows:List (List AVal)) (b:Nat) (rest:List (Nat×ABlk)) (ks:List Nat) (h:memN b ks=true):Zdj ks (blV b k rows rest)=Zdj ks rest:=by rw [Zvb,h]; rfl
theorem Zw9 (get:Nat→Option ABlk) (S:List Nat) (fs:List Fg) (re lo f:Int) (ls:List Lt):fzBk get S (stB fs re lo f ls)=stB fs re lo f ls:=by
 unfold stB fzBk
 simp only [fzLL,List.map_cons,List.map_nil,Z0i,Zqv,Ztt]
theorem Zxg (get:Nat→Option ABlk) (S:List Nat) (n b:Nat) (rows:List (List AVal)):fzW get S (n+1) (cpV b rows)=fzV get S (cpV b rows):=by
 unfold cpV
 split<;>rfl
theorem Zy6 (get:Nat→Option ABlk) (S:List Nat) (b c:Nat) (A B:List (List AVal)) (x y z:Int) :
 fzW get S 3 (.tuple [.agg [cpV b A,.int .i64 x,.int .i64 y],.agg [.int .i64 z,cpV c B]])=.tuple [.agg [fzV get S (cpV b A),.int .i64 x,.int .i64 y],.agg [.int .i64 z,fzV get S (cpV c B)]]:=by
 rw [← Zxg get S 0 b A,← Zxg get S 0 c B]
 rfl
theorem c51z (fs:List Fg) (re lo f:Int) (ls:List Lt) (hf:fs.length≤1000) (h:ls.length≤1000) :
 Ctr Tryz.prog 65 [.ptr 1 0 0] ⟨[(1,stB fs re lo f ls)],2⟩ fun r m=>r=.tuple [frV fs re lo,cV f ls]∧m=⟨[(1,stB fs re lo f ls)],4⟩:=by
 refine(c51 fs re lo f ls hf h).freezeB fun r sm=>?_
 rintro⟨rfl,rfl⟩
 refine⟨[2,3],?_,?_⟩
 · rw [Zy6,Zsa (b:=2) (S:=[2,3]) (k:=3) (Zaf fs) (Zkh fs) rfl (by simp),Zsa (b:=3) (S:=[2,3]) (k:=6) (Zab ls) (Zdr ls) rfl (by simp)]
   rfl
 · rw [Zkz _ _ _ _ _ rfl,Zkz _ _ _ _ _ rfl]
   simp [Zdj,memN,fzBl,Zw9]
theorem c51f (fs:List Fg) (re lo f:Int) (ls:List Lt) (h0:fs≠[]) (hf:fs.length≤1000) (h:ls.length≤1000) :
 Ctr Tryz.prog 65 [.ptr 1 0 0] ⟨[(1,stB fs re lo f ls)],2⟩ fun r m=>r=.tuple [.agg [.sl 2 0 fs.length,.int .i64 re,.int .i64 lo],cV f ls]∧m=⟨[(2,.cells 3 (fs.map rowG)),(1,stB fs re lo f ls)],4⟩:=by
 refine(c51 fs re lo f ls hf h).freezeB fun r sm=>?_
 have h1:fs.map rowG≠[]:=by simpa using h0
 rintro⟨rfl,rfl⟩
 refine⟨[3],?_,?_⟩
 · rw [Zy6,Zsa (b:=3) (S:=[3]) (k:=6) (Zab ls) (Zdr ls) rfl (by simp),cpV,if_neg h1,Z36 rfl,List.length_map]
 · rw [Zko h1]
   have e1:fzLL (SMem.get ⟨(2,ABlk.cells 3 (fs.map rowG)) :: blV 3 6 (ls.map rowL) [(1,stB fs re lo f ls)],4⟩) [3] (fs.map rowG)=fs.map rowG:=Zj0 (Zaf fs)
   simp only [Zdj,memN]
   rw [Zkz _ _ _ _ _ rfl]
   simp [Zdj,memN,fzBl,Zw9]
   simp [fzBk]
   exact e1
end Go.Known
end
