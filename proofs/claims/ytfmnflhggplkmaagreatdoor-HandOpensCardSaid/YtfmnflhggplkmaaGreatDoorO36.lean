/- Part 36 of the proof: Tb, Si, Sj, Sp, Sx, Hk. -/
import Derived.Test.YtfmnflhggplkmaaGreatDoorO21
import Derived.Test.YtfmnflhggplkmaaGreatDoorO23
import Derived.Test.YtfmnflhggplkmaaGreatDoorO26
import Derived.Test.YtfmnflhggplkmaaGreatDoorO28
import Derived.Test.YtfmnflhggplkmaaGreatDoorO30
import Derived.Test.YtfmnflhggplkmaaGreatDoorO33
import Derived.Test.YtfmnflhggplkmaaGreatDoorO34
import Derived.Test.YtfmnflhggplkmaaGreatDoorO35
import Derived.ProofKit
import Derived.Carry
import Derived.Deep.Slices
set_option linter.all false
section
namespace Go.Known
open Go Go.AE Go.Proofs
open Go.Plain
open Go.ChangeShapes Go.WideShapes Go.RowKit Go.Deep
variable {H:Type} {enc:TypeId×Value→H} {w:World} {base:Nat} {spare:Nat→Bool} {held:Bool}
def allP (w:World):Pers:=fun B=>match w.heap[B]? with
 | some (.cells c _ _)=>some c
 | _=>none
theorem allP_of {w:World} {B:Nat} {c:Array Value} (h:allP w B=some c):∃ e fz,w.heap[B]? = some (.cells c e fz):=by
 unfold allP at h
 grind
theorem add_block (a:Addr) (n:Nat):(a.add n).block=a.block:=by unfold Addr.add; split<;>rfl
theorem add_off (a:Addr) (n:Nat):(a.add n).off=a.off+n:=by
 unfold Addr.add
 grind
theorem cells_get {w:World} {base:Nat} {a:Addr} {n:Nat} {cs:List Value} (h:w.cells? base a n=some cs):∀ j,j<n→w.cell? (a.add j)=cs[j]? ∧ cs.length=n:=by
 unfold World.cells? at h
 split at h
 ·intro j hj
  exact⟨mapM_some_get h j j (by simp[hj]),by simpa using mapM_some_length h⟩
 ·cases h
theorem cell_off {w:World} {a:Addr} {v:Value} (h:w.cell? a=some v):∃ c e fz,w.heap[a.block]? = some (.cells c e fz)∧c[a.off]? = some v:=by
 unfold World.cell? at h
 grind
theorem cell_spot {w:World} {a:Addr} {v:Value} (h:w.cell? a=some v):a.spot=none:=by
 unfold World.cell? at h
 split at h
 ·simp_all
 ·cases h
end Go.Known
end
section
namespace Go.Known
open Go Go.AE Go.Proofs
open Go.Plain
def sides (ls:List Lt):Nat→List Lt
 | 0=>ls
 | _=>backN ls
end Go.Known
end
section
namespace Go.AE
open Go.RowKit
variable {P:Program}
def Wk (v v':AVal):Prop:=∀ (Φ:Pers) (ρ:Rho) (u:Value),R Φ ρ v u→R Φ ρ v' u
def WkL:List AVal→List AVal→Prop
 | [],[]=>True
 | x :: r,y :: s=>Wk x y∧WkL r s
 | _,_=>False
theorem Wk.refl (v:AVal):Wk v v:=fun _ _ _ h=>h
theorem Wk_nil:Wk .nilSl (.imm []):=fun Φ ρ u h=>E0_nil Φ ρ u h Φ ρ
theorem WkL_get:∀ {xs ys:List AVal},WkL xs ys→xs.length=ys.length ∧ ∀(i:Nat) (y:AVal),ys[i]? = some y → ∃ x,xs[i]? = some x∧Wk x y
 | [],[],_=>⟨rfl,fun i y h=>by simp at h⟩
 | [],_ :: _,h=>h.elim
 | _ :: _,[],h=>h.elim
 | x :: r,y :: s,h=>by
  obtain⟨h1,h2⟩:=WkL_get h.2
  refine⟨by simp[h1],fun i z hz=>?_⟩
  cases i with
  | zero=>cases hz; exact⟨x,rfl,h.1⟩
  | succ i=>grind
theorem Wk_agg {xs ys:List AVal} (h:WkL xs ys):Wk (.agg xs) (.agg ys):=fun Φ ρ u hu=>by
 obtain⟨h1,h2⟩:=WkL_get h
 cases hu with
 | agg cs vs hs hr=>
  refine .agg _ _ (by rw[hs,h1]) fun i y v hy hv=>?_
  obtain⟨x,hx,hw⟩:=h2 i y hy
  exact hw _ _ _ (hr i x v hx hv)
theorem Wk_tuple {xs ys:List AVal} (h:WkL xs ys):Wk (.tuple xs) (.tuple ys):=fun Φ ρ u hu=>by
 obtain⟨h1,h2⟩:=WkL_get h
 cases hu with
 | tuple cs vs hs hr=>
  refine .tuple _ _ (by rw[hs,h1]) fun i y v hy hv=>?_
  obtain⟨x,hx,hw⟩:=h2 i y hy
  exact hw _ _ _ (hr i x v hx hv)
theorem PCall.wk {g:FuncId} {args:List AVal} {v v':AVal} (h:PCall P g args v) (hv:Wk v v'):PCall P g args v':=by
 intro m av
 refine⟨(h m av).1,fun W Φ ρ vs w hr ha hav=>((h m av).2 W Φ ρ vs w hr ha hav).mono fun e w' he=>?_⟩
 obtain⟨u,r,m',Φ',ρ',e1,hE,hk,hr',hR,hn,rfl,rfl⟩:=he
 exact⟨u,_,_,Φ',ρ',e1,hE,hk,hr',hv _ _ _ hR,hn,rfl,rfl⟩
end Go.AE
namespace Go.Known
open Go Go.AE Go.Proofs
open Go.Plain
end Go.Known
end
section
namespace Go.Known
open Go Go.AE Go.Proofs
open Go.Plain
set_option maxRecDepth 100000 in
set_option maxHeartbeats 8000000 in
theorem c12v (f g:Int) (a b:List Lt) (ha:a.length≤1000) (hb:b.length≤1000):PCall Tryz.prog 21 [cV f a,cV g b] (.bool (decide (f=g)&&decide (a=b))):=by
 refine PCall_1 hm Tryz.func21 cf12 rfl rfl (by simp[closedL,AVal.closed,closed_rows]) trivial fun K hK=>?_
 have hra:∀ q,renLL q (a.map rowL)=a.map rowL:=fun q=>renLL_closed q _ (closed_rows a)
 have hrb:∀ q,renLL q (b.map rowL)=b.map rowL:=fun q=>renLL_closed q _ (closed_rows b)
 have hla:(a.map rowL).length=a.length:=by grind
 have hlb:(b.map rowL).length=b.length:=by grind
 have hga:=fun i hi=>get_row a (i:=i) hi
 have hgb:=fun i hi=>get_row b (i:=i) hi
 unfold cV at *
 generalize a.map rowL=A at *
 generalize b.map rowL=B at *
 by_cases hfg:f=g
 rotate_left
 ·rw[decide_eq_false hfg,Bool.false_and]at hK
  simp[hfg]
  exact endK hK [] (by simp)
 subst hfg
 rw[decide_eq_true rfl,Bool.true_and]at hK
 by_cases hl:a.length=b.length
 rotate_left
 ·have hne:¬a=b:=fun e=>hl (by rw[e])
  rw[decide_eq_false hne]at hK
  have hl':¬(a.length:Int)=(b.length:Int):=by omega
  simp[hla,hlb,hl']
  exact endK hK [] (by simp)
 simp[hla,hlb,hl]
 refine wZ_loop (α:=Nat) (fun i=>[(5,.int .i64 i),(3,.ptr 2 0 0),(2,.ptr 1 0 0)]) (fun _=>⟨[(1,.cells 2 [[.int .i64 f,.imm A]]),(2,.cells 2 [[.int .i64 f,.imm B]])],3⟩) (fun i=>a.length - i) (fun i=>i≤a.length∧(a.drop i=b.drop i)=(a=b)) 0 [] (by simp[hra,hrb]) (by simp) ?_
 rintro i ⟨hi,hI⟩ N hN
 try simp only at hi hN ⊢
 by_cases hlt:i<a.length
 ·have ga:=hga i hlt
  have gb:=hgb i (by omega)
  obtain⟨_,ga2⟩:=getE ga
  obtain⟨_,gb2⟩:=getE gb
  have hw:IntKind.i64.wrap ((i:Int)+1)=(i:Int)+1:=wrap64 (by omega) (by omega)
  have he:=ne_rowL (at' a i) (at' b i)
  have l6a:(rowL (at' a i)).length=6:=rfl
  have l6b:(rowL (at' b i)).length=6:=rfl
  have t6a:(rowL (at' a i)).take 6=rowL (at' a i):=rfl
  have t6b:(rowL (at' b i)).take 6=rowL (at' b i):=rfl
  by_cases hab:at' a i=at' b i
  ·have hN':=hN (i+1) []
   rw[hab]at he
   rw[decide_eq_true rfl]at he
   rw[drop_same hlt (by omega) hab]at hI
   rw[hab]at ga ga2
   generalize rowL (at' b i)=rb at *
   simp[hlt,hla,gb,ga2,hw,l6b,t6b,he]
   exact hN' _ _ (by omega) ⟨by omega,hI⟩ (by simp[hra,hrb])
  ·rw[decide_eq_false hab]at he
   have hne:¬a=b:=by
    grind
   rw[decide_eq_false hne]at hK
   generalize rowL (at' a i)=ra at *
   generalize rowL (at' b i)=rb at *
   simp[hlt,hla,gb,ga2,l6a,l6b,t6a,t6b,he]
   exact endK hK [] (by simp)
 ·have hie:i=a.length:=by omega
  have hyes:a=b:=by
   grind
  rw[decide_eq_true hyes]at hK
  simp[hlt,hla]
  exact endK hK [] (by simp)
end Go.Known
end
section
namespace Go.Known
open Go Go.AE Go.Proofs
open Go.Plain
structure Fg where
 p:Int
 r:Bool
 d:Int
deriving DecidableEq,Inhabited
def rowG (x:Fg):List AVal:=[.int .i64 x.p,.bool x.r,.int .i64 x.d]
def frV (fs:List Fg) (re lo:Int):AVal:=.agg [.imm (fs.map rowG),.int .i64 re,.int .i64 lo]
def fgAt (fs:List Fg) (i:Nat):Fg:=fs.getD i default
def fiG (x:Fg) (fs:List Fg):Nat:=fs.findIdx fun y=>decide (y=x)
theorem closed_rowG:∀ (fs:List Fg),closedLL (fs.map rowG)=true
 | []=>rfl
 | l :: r=>by simp only[List.map_cons,closedLL,closed_rowG r,Bool.and_true]; rfl
theorem scal_rowG {get:Nat→Option ABlk} {n:Nat} (l:List Fg):∀ row,row∈l.map rowG → ∀ x,x∈row→freezeV get (n+1) x=some x:=by
 intro row hr x hx
 obtain⟨i,_,rfl⟩:=List.mem_map.1 hr
 simp only[rowG,List.mem_cons,List.not_mem_nil,or_false]at hx
 rcases hx with rfl|rfl|rfl<;>rfl
theorem get_rowG (fs:List Fg) {i:Nat} (h:i<fs.length):(fs.map rowG)[i]? = some (rowG (fgAt fs i)):=by
 rw[List.getElem?_map,List.getElem?_eq_getElem h,fgAt,List.getD,List.getElem?_eq_getElem h]
 rfl
theorem fgAt_eq {fs:List Fg} {i:Nat} (h:i<fs.length):fgAt fs i=fs[i]:=by rw[fgAt,List.getD,List.getElem?_eq_getElem h]; rfl
theorem same_rowG (a b:Fg):sameCells [.int,.bool,.int] (rowG a) (rowG b)=some (decide (a=b)):=by
 obtain⟨a1,a2,a3⟩:=a
 obtain⟨b1,b2,b3⟩:=b
 simp only[rowG,sameCells,keyEq,if_true,Fg.mk.injEq]
 by_cases h1:a1=b1
 ·by_cases h2:a2=b2
  ·by_cases h3:a3=b3
   ·simp[h1,h2,h3]
   ·simp[h1,h2,h3,beq_false_of_ne h3]
  ·simp[h1,h2,beq_false_of_ne h2]
 ·simp[h1,beq_false_of_ne h1]
theorem eq_rowG (a b:Fg):binA .eql (.flat [.int,.bool,.int]) (.agg (rowG a)) (.agg (rowG b))=some (.bool (decide (a=b))):=by
 simp only[binA,eqA,same_rowG]
theorem fi_le (x:Fg) (fs:List Fg):fiG x fs≤fs.length:=List.findIdx_le_length
theorem fi_eq {x:Fg} {fs:List Fg} {i:Nat} (h:i<fs.length) (hx:fgAt fs i=x) (hn:∀ j,j<i→fgAt fs j≠x):fiG x fs=i:=by
 unfold fiG
 rw[List.findIdx_eq h]
 refine⟨by rw[← fgAt_eq h,hx]; simp,fun j hj=>?_⟩
 have:=hn j hj
 rw[fgAt_eq (by omega)]at this
 simpa using this
theorem fi_none {x:Fg} {fs:List Fg} (hn:∀ j,j<fs.length→fgAt fs j≠x):fiG x fs=fs.length:=by
 unfold fiG
 rw[List.findIdx_eq_length]
 intro y hy
 obtain⟨j,hj,rfl⟩:=List.getElem_of_mem hy
 have:=hn j hj
 rw[fgAt_eq hj]at this
 simpa using this
def fiI (x:Fg) (fs:List Fg):Int:=if fiG x fs<fs.length then (fiG x fs:Int)else -1
set_option maxRecDepth 100000 in
set_option maxHeartbeats 4000000 in
theorem c150 (x:Fg) (fs:List Fg) (h:fs.length≤1000):PCall Tryz.prog 34 [.imm (fs.map rowG),.agg (rowG x)] (.int .i64 (fiI x fs)):=by
 refine PCall_1 hm Tryz.func34 cf150 rfl rfl (by simp[closedL,AVal.closed,closed_rowG,rowG]) trivial fun K hK=>?_
 have hrr:∀ q,renLL q (fs.map rowG)=fs.map rowG:=fun q=>renLL_closed q _ (closed_rowG fs)
 have hrx:∀ q,renL q (rowG x)=rowG x:=fun q=>rfl
 have hlen:(fs.map rowG).length=fs.length:=List.length_map ..
 have hg:=fun i hi=>get_rowG fs (i:=i) hi
 have l3:∀ y:Fg,(rowG y).length=3:=fun _=>rfl
 have t3:∀ y:Fg,(rowG y).take 3=rowG y:=fun _=>rfl
 have hq:=fun y=>eq_rowG x y
 generalize fs.map rowG=rows at *
 have hl0:=l3 x
 have ht0:=t3 x
 simp[hlen,hl0]
 refine wZ_loop (α:=Nat) (fun i=>[(8,.int .i64 i),(7,.int .i64 fs.length),(6,.imm rows),(0,.imm rows),(3,.ptr 1 0 0)]) (fun _=>⟨[(1,.cells 3 [rowG x])],2⟩) (fun i=>fs.length - i) (fun i=>i≤fs.length ∧ ∀ j,j<i→fgAt fs j≠x) 0 [] (by simp[hrr,hrx]) (by simp) ?_
 rintro i ⟨hi,hI⟩ N hN
 try simp only at hi hN ⊢
 by_cases hlt:i<fs.length
 ·have hgi:=hg i hlt
  obtain⟨hgl,hg2⟩:=getE hgi
  have hw:IntKind.i64.wrap ((i:Int)+1)=(i:Int)+1:=wrap64 (by omega) (by omega)
  have he:=hq (fgAt fs i)
  have hl1:=l3 (fgAt fs i)
  have ht1:=t3 (fgAt fs i)
  by_cases hx:x=fgAt fs i
  ·have hfi:fiI x fs=(i:Int):=by
    unfold fiI
    rw[fi_eq hlt hx.symm hI,if_pos hlt]
   rw[hfi]at hK
   rw[decide_eq_true hx]at he
   generalize rowG (fgAt fs i)=ra at *
   generalize rowG x=rb at *
   simp[hlt,hgi,hl0,ht0,hl1,ht1,he]
   exact endK hK [] (by simp)
  ·rw[decide_eq_false hx]at he
   generalize rowG (fgAt fs i)=ra at *
   generalize rowG x=rb at *
   simp[hlt,hgi,hw,hl0,ht0,hl1,ht1,he]
   refine hN (i+1) [] _ _ (by omega) ⟨by omega,fun j hj e=>?_⟩ (by simp[hrr,hrx])
   by_cases hji:j=i
   ·subst hji; exact hx e.symm
   ·exact hI j (by omega) e
 ·have hie:i=fs.length:=by omega
  have hfi:fiI x fs = -1:=by
   unfold fiI
   rw[fi_none (fun j hj=>hI j (by omega)),if_neg (by omega)]
  rw[hfi]at hK
  simp[hlt]
  exact endK hK [] (by simp)
end Go.Known
end
section
namespace Go.Known
open Go Go.AE Go.Proofs
def okRun (e:Memo):Bool:=match runM tab (orcM []) e.g e.args with|some r=>beqA r e.v&&(closedL e.args&&e.v.closed)|none=>false
end Go.Known
end
