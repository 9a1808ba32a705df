/- Part 38 of the proof: Sz, Td, Oa. -/
import Derived.Test.YtfmnflhggplkmaaGreatDoorO25
import Derived.Test.YtfmnflhggplkmaaGreatDoorO28
import Derived.Test.YtfmnflhggplkmaaGreatDoorO30
import Derived.Test.YtfmnflhggplkmaaGreatDoorO36
import Derived.Test.YtfmnflhggplkmaaGreatDoorO37
set_option linter.all false
section
namespace Go.Known
open Go Go.AE Go.Proofs
open Go.Plain
set_option maxRecDepth 100000 in
set_option maxHeartbeats 8000000 in
theorem c82 (fs:List Fg) (re lo:Int) (h:fs.length≤1000):PCall Tryz.prog 10 [frV fs re lo] (.bool (frB fs re lo)):=by
 refine PCall_1 hm Tryz.func10 cf82 rfl rfl (by simp[closedL,AVal.closed,closed_rowG,frV]) trivial fun K hK=>?_
 have hrr:∀ q,renLL q (fs.map rowG)=fs.map rowG:=fun q=>renLL_closed q _ (closed_rowG fs)
 have hlen:(fs.map rowG).length=fs.length:=List.length_map ..
 have hg:=fun i hi=>get_rowG fs (i:=i) hi
 have h118:=c118
 have h119:=fun i=>c119 (fgAt fs i) (fs.take i) (by rw[List.length_take]; omega)
 simp only[List.map_take]at h119
 unfold frV at *
 have hT:∀ i,closedLL ((fs.map rowG).take i)=true:=fun i=>by rw[← List.map_take]; exact closed_rowG _
 have h3:(∀ x,x∈fs.map rowG→x.length=3)=True:=eq_true fun x hx=>by
  obtain⟨l,_,rfl⟩:=List.mem_map.1 hx
  rfl
 generalize fs.map rowG=rows at *
 have hno:¬FrV fs re lo → ∀ m,SubR 1 [] [(0,.bool false)] ⟨[],1⟩ [(0,.bool false)] m→EndK 1 K (.bool false) m:=fun hn m hs=>by
  rw[frB_false hn]at hK
  exact endK hK [] hs
 by_cases h1:40<fs.length
 ·have h1':(40:Int)<(fs.length:Int):=by omega
  simp[hlen,h1']
  exact hno (fun hv=>by have:=hv.1; omega) _ (by simp)
 have h1':¬(40:Int)<(fs.length:Int):=by omega
 by_cases h2:re<0
 ·simp[hlen,h1',h2]
  exact hno (fun hv=>by have:=hv.2.1; omega) _ (by simp)
 by_cases h3':40<re
 ·simp[hlen,h1',h2,h3']
  exact hno (fun hv=>by have:=hv.2.2.1; omega) _ (by simp)
 by_cases h4:lo<1
 ·simp[hlen,h1',h2,h3',h4]
  exact hno (fun hv=>by have:=hv.2.2.2.1; omega) _ (by simp)
 by_cases h5:20<lo
 ·simp[hlen,h1',h2,h3',h4,h5]
  exact hno (fun hv=>by have:=hv.2.2.2.2.1; omega) _ (by simp)
 simp[hlen,h1',h2,h3',h4,h5]
 refine wZ_loop (α:=Nat) (fun i=>[(32,.int .i64 i),(31,.int .i64 fs.length),(30,.imm rows),(1,.ptr 1 0 0)]) (fun _=>⟨[(1,.cells 3 [[.imm rows,.int .i64 re,.int .i64 lo]])],2⟩) (fun i=>fs.length - i) (fun i=>i≤fs.length ∧ ∀ j,j<i→ThereP (fgAt fs j)∧fiG (fgAt fs j) fs=j) 0 [] (by simp[hrr]) (by simp) ?_
 rintro i ⟨hi,hI⟩ N hN
 try simp only at hi hN ⊢
 by_cases hlt:i<fs.length
 ·have hgi:=hg i hlt
  obtain⟨hgl,hg2⟩:=getE hgi
  have hw:IntKind.i64.wrap ((i:Int)+1)=(i:Int)+1:=wrap64 (by omega) (by omega)
  have h8:=h118 (fgAt fs i)
  have h9:=h119 i
  unfold rowG at *
  simp[hlt,hgi,hg2,hw]
  refine DC_pure h8 ?_
  by_cases ht:ThereP (fgAt fs i)
  ·have hle:i≤rows.length:=by omega
   have hft:=fi_take hlt
   by_cases hf:fiG (fgAt fs i) fs=i
   ·have hnf:¬fiG (fgAt fs i) (fs.take i)<(fs.take i).length:=fun hh=>hft.1 hh hf
    rw[decide_eq_false hnf]at h9
    simp[ht,h3,hle]
    refine DC_pure h9 ?_
    simp[hw]
    refine hN (i+1) [] _ _ (by omega) ⟨by omega,fun j hj=>?_⟩ (by simp[hrr])
    by_cases hji:j=i
    ·subst hji; exact⟨ht,hf⟩
    ·exact hI j (by omega)
   ·have hnf:=hft.2 hf
    rw[decide_eq_true hnf]at h9
    simp[ht,h3,hle]
    refine DC_pure h9 ?_
    simp[]
    exact hno (fun hv=>hf (hv.2.2.2.2.2 i hlt).2) _ (by simp)
  ·simp[ht]
   exact hno (fun hv=>ht (hv.2.2.2.2.2 i hlt).1) _ (by simp)
 ·have hie:i=fs.length:=by omega
  subst hie
  have hv:FrV fs re lo:=⟨by omega,by omega,by omega,by omega,by omega,hI⟩
  rw[frB_true hv]at hK
  simp[]
  exact endK hK [] (by simp)
end Go.Known
end
section
namespace Go.Known
open Go Go.AE Go.Proofs
open Go.Plain
def fiR (x:Fg) (fs:List Fg):Int:=if fiG x fs<fs.length then (fiG x fs:Int)+1 else 0
set_option maxRecDepth 100000 in
set_option maxHeartbeats 4000000 in
theorem cRIndex (x:Fg) (fs:List Fg) (re lo:Int) (h:fs.length≤1000):PCall Tryz.prog 13 [frV fs re lo,.agg (rowG x)] (.int .i64 (fiR x fs)):=by
 refine PCall_1 hm Tryz.func13 cjRIndex rfl rfl (by simp[closedL,AVal.closed,closed_rowG,rowG,frV]) trivial fun K hK=>?_
 have hrr:∀ q,renLL q (fs.map rowG)=fs.map rowG:=fun q=>renLL_closed q _ (closed_rowG fs)
 have hlen:(fs.map rowG).length=fs.length:=List.length_map ..
 have hg:=fun i hi=>get_rowG fs (i:=i) hi
 have hq:=fun y=>eq_rowG y x
 unfold frV
 generalize fs.map rowG=rows at *
 unfold rowG at *
 simp[hlen]
 refine wZ_loop (α:=Nat) (fun i=>[(5,.int .i64 i),(2,.ptr 1 0 0),(3,.ptr 2 0 0)]) (fun _=>⟨[(2,.cells 3 [[.int .i64 x.p,.bool x.r,.int .i64 x.d]]),(1,.cells 3 [[.imm rows,.int .i64 re,.int .i64 lo]])],3⟩) (fun i=>fs.length - i) (fun i=>i≤fs.length ∧ ∀ j,j<i→fgAt fs j≠x) 0 [] (by simp[hrr]) (by simp) ?_
 rintro i ⟨hi,hI⟩ N hN
 try simp only at hi hN ⊢
 by_cases hlt:i<fs.length
 ·have hgi:=hg i hlt
  obtain⟨hgl,hg2⟩:=getE hgi
  have hw:IntKind.i64.wrap ((i:Int)+1)=(i:Int)+1:=wrap64 (by omega) (by omega)
  have he:=hq (fgAt fs i)
  by_cases hx:fgAt fs i=x
  ·have hfi:fiR x fs=(i:Int)+1:=by
    unfold fiR
    rw[fi_eq hlt hx hI,if_pos hlt]
   rw[hfi]at hK
   rw[decide_eq_true hx]at he
   simp[hlen,hlt,hgi,hg2,hw,he]
   exact endK hK [] (by simp)
  ·rw[decide_eq_false hx]at he
   simp[hlen,hlt,hgi,hg2,hw,he]
   refine hN (i+1) [] _ _ (by omega) ⟨by omega,fun j hj e=>?_⟩ (by simp[hrr])
   by_cases hji:j=i
   ·subst hji; exact hx e
   ·exact hI j (by omega) e
 ·have hie:i=fs.length:=by omega
  have hfi:fiR x fs=0:=by
   unfold fiR
   rw[fi_none (fun j hj=>hI j (by omega)),if_neg (by omega)]
  rw[hfi]at hK
  simp[hlen,hlt]
  exact endK hK [] (by simp)
set_option maxRecDepth 100000 in
set_option maxHeartbeats 8000000 in
theorem cRValid (fs:List Fg) (re lo:Int) (h:fs.length≤1000):PCall Tryz.prog 11 [frV fs re lo] (.bool (frB fs re lo)):=by
 refine PCall_1 hm Tryz.func11 cjRValid rfl rfl (by simp[closedL,AVal.closed,closed_rowG,frV]) trivial fun K hK=>?_
 have hrr:∀ q,renLL q (fs.map rowG)=fs.map rowG:=fun q=>renLL_closed q _ (closed_rowG fs)
 have hlen:(fs.map rowG).length=fs.length:=List.length_map ..
 have hg:=fun i hi=>get_rowG fs (i:=i) hi
 have hR:=fun i=>cRIndex (fgAt fs i) fs re lo h
 unfold frV at *
 generalize fs.map rowG=rows at *
 have hno:¬FrV fs re lo → ∀ m,SubR 1 [] [(0,.bool false)] ⟨[],1⟩ [(0,.bool false)] m→EndK 1 K (.bool false) m:=fun hn m hs=>by
  rw[frB_false hn]at hK
  exact endK hK [] hs
 by_cases h1:40<fs.length
 ·have h1':(40:Int)<(fs.length:Int):=by omega
  simp[hlen,h1,h1']
  exact hno (fun hv=>by have:=hv.1; omega) _ (by simp)
 have h1':¬(40:Int)<(fs.length:Int):=by omega
 by_cases h2:re<0
 ·simp[hlen,h1,h1',h2]
  exact hno (fun hv=>by have:=hv.2.1; omega) _ (by simp)
 by_cases h3:40<re
 ·simp[hlen,h1,h1',h2,h3]
  exact hno (fun hv=>by have:=hv.2.2.1; omega) _ (by simp)
 by_cases h4:lo<1
 ·simp[hlen,h1,h1',h2,h3,h4]
  exact hno (fun hv=>by have:=hv.2.2.2.1; omega) _ (by simp)
 by_cases h5:20<lo
 ·simp[hlen,h1,h1',h2,h3,h4,h5]
  exact hno (fun hv=>by have:=hv.2.2.2.2.1; omega) _ (by simp)
 simp[hlen,h1,h1',h2,h3,h4,h5]
 refine wZ_loop (α:=Nat) (fun i=>[(3,.int .i64 i),(1,.ptr 1 0 0)]) (fun _=>⟨[(1,.cells 3 [[.imm rows,.int .i64 re,.int .i64 lo]])],2⟩) (fun i=>fs.length - i) (fun i=>i≤fs.length ∧ ∀ j,j<i→ThereP (fgAt fs j)∧fiG (fgAt fs j) fs=j) 0 [] (by simp[hrr]) (by simp) ?_
 rintro i ⟨hi,hI⟩ N hN
 try simp only at hi hN ⊢
 by_cases hlt:i<fs.length
 ·have hgi:=hg i hlt
  obtain⟨hgl,hg2⟩:=getE hgi
  have hw:IntKind.i64.wrap ((i:Int)+1)=(i:Int)+1:=wrap64 (by omega) (by omega)
  have hRi:=hR i
  have hfl:fiG (fgAt fs i) fs<fs.length:=fi_lt.2 ⟨i,hlt,rfl⟩
  have hfe:fiR (fgAt fs i) fs=(fiG (fgAt fs i) fs:Int)+1:=by unfold fiR; rw[if_pos hfl]
  rw[hfe]at hRi
  generalize hG:fiG (fgAt fs i) fs=G at *
  have hnt:¬ThereP (fgAt fs i) → ¬FrV fs re lo:=fun ht hv=>ht (hv.2.2.2.2.2 i hlt).1
  unfold rowG at *
  by_cases t1:(fgAt fs i).p<1
  ·simp[hlen,hlt,hgi,hg2,t1]
   exact hno (hnt fun ht=>by have:=ht.1; omega) _ (by simp)
  by_cases t2:9<(fgAt fs i).p
  ·simp[hlen,hlt,hgi,hg2,t1,t2]
   exact hno (hnt fun ht=>by have:=ht.2.1; omega) _ (by simp)
  by_cases t3:(fgAt fs i).d<0
  ·simp[hlen,hlt,hgi,hg2,t1,t2,t3]
   exact hno (hnt fun ht=>by have:=ht.2.2.1; omega) _ (by simp)
  by_cases t4:6<(fgAt fs i).d
  ·simp[hlen,hlt,hgi,hg2,t1,t2,t3,t4]
   exact hno (hnt fun ht=>by have:=ht.2.2.2; omega) _ (by simp)
  simp[hlen,hlt,hgi,hg2,t1,t2,t3,t4]
  refine SC_pure hRi ?_
  have hw2:IntKind.i64.wrap ((i:Int)+1)=(i:Int)+1:=hw
  by_cases hf:G=i
  ·rw[hf]
   simp[hw]
   refine hN (i+1) [] _ _ (by omega) ⟨by omega,fun j hj=>?_⟩ (by simp[hrr])
   by_cases hji:j=i
   ·rw[hji,hG]; exact⟨⟨by omega,by omega,by omega,by omega⟩,hf⟩
   ·exact hI j (by omega)
  ·have hf':¬(G:Int)+1=(i:Int)+1:=by omega
   have hf2:¬(G:Int)=(i:Int):=by omega
   simp[hw,hf,hf',hf2]
   exact hno (fun hv=>hf (by rw[← hG]; exact(hv.2.2.2.2.2 i hlt).2)) _ (by simp)
 ·have hie:i=fs.length:=by omega
  subst hie
  have hv:FrV fs re lo:=⟨by omega,by omega,by omega,by omega,by omega,hI⟩
  rw[frB_true hv]at hK
  simp[hlen,hlt]
  exact endK hK [] (by simp)
end Go.Known
end
section
namespace Go.Known
open Go Go.AE Go.Proofs
open Go.Plain
def opP (f m y:Int):List AVal:=[.int .i64 3,.int .i64 f,.int .i64 m,.int .i64 1,.bool false,.int .i64 0,.imm [[.int .i64 y,.int .i64 1,.bool false,.int .i64 0,.bool true]],.bool false]
def opQ (f m:Int):List AVal:=[.int .i64 3,.int .i64 f,.int .i64 m,.int .i64 1,.bool false,.int .i64 1,.nilSl,.bool false]
def opsV (f m y g:Int):AVal:=.imm [opP f m y,opQ g y]
theorem same_st (m p:Int):binA .neq (.flat [.int,.int,.bool,.int]) (.agg [.int .i64 m,.int .i64 1,.bool false,.int .i64 p]) (.agg [.int .i64 m,.int .i64 1,.bool false,.int .i64 p])=some (.bool false):=by
 simp[binA,eqA,sameCells,keyEq]
theorem same_sp (y:Int):binA .neq (.flat [.int,.int,.bool,.int,.bool]) (.agg [.int .i64 y,.int .i64 1,.bool false,.int .i64 0,.bool true]) (.agg [.int .i64 y,.int .i64 1,.bool false,.int .i64 0,.bool true])=some (.bool false):=by
 simp[binA,eqA,sameCells,keyEq]
set_option maxRecDepth 100000 in
set_option maxHeartbeats 4000000 in
theorem cSameOpP (f m y:Int):PCall Tryz.prog 43 [.agg (opP f m y),.agg (opP f m y)] (.bool true):=by
 refine PCall_1 hm Tryz.func43 chSameOp rfl rfl rfl trivial fun K hK=>?_
 have hb:=same_st m 0
 have hs:=same_sp y
 have w1:IntKind.i64.wrap 1=1:=rfl
 unfold opP
 simp[hb]
 refine wZ_loop (α:=Nat) (fun i=>[(5,.int .i64 i),(3,.ptr 2 0 0),(2,.ptr 1 0 0)]) (fun _=>⟨[(2,.cells 8 [opP f m y]),(1,.cells 8 [opP f m y])],3⟩) (fun i=>1 - i) (fun i=>i≤1) 0 [] (by simp[opP]) (by simp) ?_
 intro i hi N hN
 try simp only at hi hN ⊢
 unfold opP at *
 rcases (show i=0∨i=1 by omega)with rfl|rfl
 ·simp[hs,w1]
  exact hN 1 [] _ _ (by omega) (by omega) (by simp)
 ·simp
  exact endK hK [] (by simp)
set_option maxRecDepth 100000 in
set_option maxHeartbeats 4000000 in
theorem cSameOpQ (f m:Int):PCall Tryz.prog 43 [.agg (opQ f m),.agg (opQ f m)] (.bool true):=by
 refine PCall_1 hm Tryz.func43 chSameOp rfl rfl rfl trivial fun K hK=>?_
 have hb:=same_st m 1
 unfold opQ
 simp[hb]
 refine wZ_loop (α:=Unit) (fun _=>[(5,.int .i64 0),(3,.ptr 2 0 0),(2,.ptr 1 0 0)]) (fun _=>⟨[(2,.cells 8 [opQ f m]),(1,.cells 8 [opQ f m])],3⟩) (fun _=>0) (fun _=>True) () [] (by simp[opQ]) trivial ?_
 intro _ _ N hN
 unfold opQ at *
 simp
 exact endK hK [] (by simp)
set_option maxRecDepth 100000 in
theorem cSameOps0:PCall Tryz.prog 27 [.nilSl,.nilSl] (.bool true):=by
 refine PCall_1 hm Tryz.func27 chSameOps rfl rfl rfl trivial fun K hK=>?_
 simp
 refine wZ_loop (α:=Unit) (fun _=>[(5,.int .i64 0),(1,.nilSl),(0,.nilSl)]) (fun _=>⟨[],1⟩) (fun _=>0) (fun _=>True) () [] (by simp) trivial ?_
 intro _ _ N hN
 simp
 exact endK hK [] (by simp)
set_option maxRecDepth 100000 in
set_option maxHeartbeats 4000000 in
theorem cSameOps2 (f m y g:Int):PCall Tryz.prog 27 [opsV f m y g,opsV f m y g] (.bool true):=by
 refine PCall_1 hm Tryz.func27 chSameOps rfl rfl rfl trivial fun K hK=>?_
 have h1:=cSameOpP f m y
 have h2:=cSameOpQ g y
 have w1:IntKind.i64.wrap 1=1:=rfl
 have w2:IntKind.i64.wrap 2=2:=rfl
 unfold opsV opP opQ at *
 simp
 refine wZ_loop (α:=Nat) (fun i=>[(5,.int .i64 i),(1,opsV f m y g),(0,opsV f m y g)]) (fun _=>⟨[],1⟩) (fun i=>2 - i) (fun i=>i≤2) 0 [] (by simp[opsV,opP,opQ]) (by simp) ?_
 intro i hi N hN
 try simp only at hi hN ⊢
 unfold opsV opP opQ at *
 rcases (show i=0∨i=1∨i=2 by omega)with rfl|rfl|rfl
 ·simp
  refine DC_pure h1 ?_
  simp[w1]
  exact hN 1 [] _ _ (by omega) (by omega) (by simp)
 ·simp
  refine DC_pure h2 ?_
  simp[w2]
  exact hN 2 [] _ _ (by omega) (by omega) (by simp)
 ·simp
  exact endK hK [] (by simp)
end Go.Known
end
