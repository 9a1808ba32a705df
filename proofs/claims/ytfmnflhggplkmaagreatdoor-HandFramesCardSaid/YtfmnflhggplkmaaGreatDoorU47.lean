/- Part 47 of the proof: Tb, Rn, Rq, Rv, Sj, Sx, Kr2. -/
import Derived.Test.YtfmnflhggplkmaaGreatDoorU30
import Derived.Test.YtfmnflhggplkmaaGreatDoorU32
import Derived.Test.YtfmnflhggplkmaaGreatDoorU33
import Derived.Test.YtfmnflhggplkmaaGreatDoorU34
import Derived.Test.YtfmnflhggplkmaaGreatDoorU35
import Derived.Test.YtfmnflhggplkmaaGreatDoorU40
import Derived.Test.YtfmnflhggplkmaaGreatDoorU41
import Derived.Test.YtfmnflhggplkmaaGreatDoorU42
import Derived.Test.YtfmnflhggplkmaaGreatDoorU43
import Derived.Test.YtfmnflhggplkmaaGreatDoorU45
import Derived.Test.YtfmnflhggplkmaaGreatDoorU46
import Derived.ProofKit
import Derived.Carry
import Derived.Deep.Slices
set_option linter.all false
section
namespace Go.Known
open Go Go.AE Go.Proofs
open Go.Plain
open Go.ChangeShapes Go.WideShapes Go.RowKit Go.Deep
variable {H:Type} {enc:TypeId×Value→H} {w:World} {base:Nat} {spare:Nat→Bool} {held:Bool}
def allP (w:World):Pers:=fun B=>match w.heap[B]? with
 | some (.cells c _ _)=>some c
 | _=>none
theorem allP_of {w:World} {B:Nat} {c:Array Value} (h:allP w B=some c):∃ e fz,w.heap[B]? = some (.cells c e fz):=by
 unfold allP at h
 grind
theorem add_block (a:Addr) (n:Nat):(a.add n).block=a.block:=by unfold Addr.add; split<;>rfl
theorem add_off (a:Addr) (n:Nat):(a.add n).off=a.off+n:=by
 unfold Addr.add
 grind
theorem cells_get {w:World} {base:Nat} {a:Addr} {n:Nat} {cs:List Value} (h:w.cells? base a n=some cs):∀ j,j<n→w.cell? (a.add j)=cs[j]? ∧ cs.length=n:=by
 unfold World.cells? at h
 split at h
 ·intro j hj
  exact⟨mapM_some_get h j j (by simp[hj]),by simpa using mapM_some_length h⟩
 ·cases h
theorem cell_off {w:World} {a:Addr} {v:Value} (h:w.cell? a=some v):∃ c e fz,w.heap[a.block]? = some (.cells c e fz)∧c[a.off]? = some v:=by
 unfold World.cell? at h
 grind
theorem cell_spot {w:World} {a:Addr} {v:Value} (h:w.cell? a=some v):a.spot=none:=by
 unfold World.cell? at h
 split at h
 ·simp_all
 ·cases h
end Go.Known
end
section
namespace Go.Known
open Go Go.AE Go.Proofs
open Go.Plain
theorem imV_ne {rows:List (List AVal)} (h:¬rows=[]):imV rows=.imm rows:=by simp[imV,h]
end Go.Known
end
section
namespace Go.Known
open Go Go.AE Go.Proofs
open Go.Plain
theorem FRow.one {w:List Nat×Bool} {row:List AVal} (h:FRow w row):∀ x,x∈row→x.one=true:=by
 obtain⟨ab,o,P,G,rfl,_⟩:=h
 have hi:∀ rows:List (List AVal),(imV rows).one=true:=fun rows=>by unfold imV; split<;>rfl
 intro x hx
 simp only[List.mem_cons,List.not_mem_nil,or_false]at hx
 rcases hx with rfl|rfl|rfl|rfl|rfl<;>first|rfl|exact hi _
end Go.Known
end
section
namespace Go.Known
open Go Go.AE Go.Proofs
open Go.Plain
@[simp] theorem sd_slSl (id : Nat) (f : AOpd → AVal) (get : Nat → Option ABlk) (k : Nat) (x : AOpd) (lo hi : Option AOpd) : stepD id f get (.slSl k x lo hi none) = match f x with
 | .nilSl=>match slBoundsD f 0 0 lo hi with
  | some _=>some (.nilSl,[])
  | none=>none
 | .emp=>match slBoundsD f 0 0 lo hi with
  | some _=>some (.emp,[])
  | none=>none
 | .imm els=>if els.all (·.length == k)then match slBoundsD f els.length els.length lo hi with
  | some (l,h)=>some (.imm ((els.take h).drop l),[])
  | none=>none
  else none
 | .sl b off len=>match get b with
  | some (.cells k' els)=>if k'=k∧off+len≤els.length then match slBoundsD f len (els.length - off) lo hi with
   | some (l,h)=>some (.sl b (off+l) (h - l),[])
   | none=>none
   else none
  | _=>none
 | _=>none:=rfl
end Go.Known
end
section
namespace Go.AE
open Go.RowKit
variable {P:Program}
def Wk (v v':AVal):Prop:=∀ (Φ:Pers) (ρ:Rho) (u:Value),R Φ ρ v u→R Φ ρ v' u
theorem Wk.refl (v:AVal):Wk v v:=fun _ _ _ h=>h
end Go.AE
namespace Go.Known
open Go Go.AE Go.Proofs
open Go.Plain
end Go.Known
end
section
namespace Go.Known
open Go Go.AE Go.Proofs
open Go.Plain
structure Fg where
 p:Int
 r:Bool
 d:Int
deriving DecidableEq,Inhabited
def rowG (x:Fg):List AVal:=[.int .i64 x.p,.bool x.r,.int .i64 x.d]
def frV (fs:List Fg) (re lo:Int):AVal:=.agg [.imm (fs.map rowG),.int .i64 re,.int .i64 lo]
def fgAt (fs:List Fg) (i:Nat):Fg:=fs.getD i default
def fiG (x:Fg) (fs:List Fg):Nat:=fs.findIdx fun y=>decide (y=x)
theorem closed_rowG:∀ (fs:List Fg),closedLL (fs.map rowG)=true
 | []=>rfl
 | l :: r=>by simp only[List.map_cons,closedLL,closed_rowG r,Bool.and_true]; rfl
theorem get_rowG (fs:List Fg) {i:Nat} (h:i<fs.length):(fs.map rowG)[i]? = some (rowG (fgAt fs i)):=by
 rw[List.getElem?_map,List.getElem?_eq_getElem h,fgAt,List.getD,List.getElem?_eq_getElem h]
 rfl
theorem fgAt_eq {fs:List Fg} {i:Nat} (h:i<fs.length):fgAt fs i=fs[i]:=by rw[fgAt,List.getD,List.getElem?_eq_getElem h]; rfl
theorem same_rowG (a b:Fg):sameCells [.int,.bool,.int] (rowG a) (rowG b)=some (decide (a=b)):=by
 obtain⟨a1,a2,a3⟩:=a
 obtain⟨b1,b2,b3⟩:=b
 simp only[rowG,sameCells,keyEq,if_true,Fg.mk.injEq]
 by_cases h1:a1=b1
 ·by_cases h2:a2=b2
  ·by_cases h3:a3=b3
   ·simp[h1,h2,h3]
   ·simp[h1,h2,h3,beq_false_of_ne h3]
  ·simp[h1,h2,beq_false_of_ne h2]
 ·simp[h1,beq_false_of_ne h1]
theorem eq_rowG (a b:Fg):binA .eql (.flat [.int,.bool,.int]) (.agg (rowG a)) (.agg (rowG b))=some (.bool (decide (a=b))):=by
 simp only[binA,eqA,same_rowG]
theorem fi_le (x:Fg) (fs:List Fg):fiG x fs≤fs.length:=List.findIdx_le_length
theorem fi_eq {x:Fg} {fs:List Fg} {i:Nat} (h:i<fs.length) (hx:fgAt fs i=x) (hn:∀ j,j<i→fgAt fs j≠x):fiG x fs=i:=by
 unfold fiG
 rw[List.findIdx_eq h]
 refine⟨by rw[← fgAt_eq h,hx]; simp,fun j hj=>?_⟩
 have:=hn j hj
 rw[fgAt_eq (by omega)]at this
 simpa using this
theorem fi_none {x:Fg} {fs:List Fg} (hn:∀ j,j<fs.length→fgAt fs j≠x):fiG x fs=fs.length:=by
 unfold fiG
 rw[List.findIdx_eq_length]
 intro y hy
 obtain⟨j,hj,rfl⟩:=List.getElem_of_mem hy
 have:=hn j hj
 rw[fgAt_eq hj]at this
 simpa using this
def fiI (x:Fg) (fs:List Fg):Int:=if fiG x fs<fs.length then (fiG x fs:Int)else -1
set_option maxRecDepth 100000 in
set_option maxHeartbeats 4000000 in
theorem c150 (x:Fg) (fs:List Fg) (h:fs.length≤1000):PCall Tryz.prog 34 [.imm (fs.map rowG),.agg (rowG x)] (.int .i64 (fiI x fs)):=by
 refine PCall_1 hm Tryz.func34 cf150 rfl rfl (by simp[closedL,AVal.closed,closed_rowG,rowG]) trivial fun K hK=>?_
 have hrr:∀ q,renLL q (fs.map rowG)=fs.map rowG:=fun q=>renLL_closed q _ (closed_rowG fs)
 have hrx:∀ q,renL q (rowG x)=rowG x:=fun q=>rfl
 have hlen:(fs.map rowG).length=fs.length:=List.length_map ..
 have hg:=fun i hi=>get_rowG fs (i:=i) hi
 have l3:∀ y:Fg,(rowG y).length=3:=fun _=>rfl
 have t3:∀ y:Fg,(rowG y).take 3=rowG y:=fun _=>rfl
 have hq:=fun y=>eq_rowG x y
 generalize fs.map rowG=rows at *
 have hl0:=l3 x
 have ht0:=t3 x
 simp[hlen,hl0]
 refine wZ_loop (α:=Nat) (fun i=>[(8,.int .i64 i),(7,.int .i64 fs.length),(6,.imm rows),(0,.imm rows),(3,.ptr 1 0 0)]) (fun _=>⟨[(1,.cells 3 [rowG x])],2⟩) (fun i=>fs.length - i) (fun i=>i≤fs.length ∧ ∀ j,j<i→fgAt fs j≠x) 0 [] (by simp[hrr,hrx]) (by simp) ?_
 rintro i ⟨hi,hI⟩ N hN
 try simp only at hi hN ⊢
 by_cases hlt:i<fs.length
 ·have hgi:=hg i hlt
  obtain⟨hgl,hg2⟩:=getE hgi
  have hw:IntKind.i64.wrap ((i:Int)+1)=(i:Int)+1:=wrap64 (by omega) (by omega)
  have he:=hq (fgAt fs i)
  have hl1:=l3 (fgAt fs i)
  have ht1:=t3 (fgAt fs i)
  by_cases hx:x=fgAt fs i
  ·have hfi:fiI x fs=(i:Int):=by
    unfold fiI
    rw[fi_eq hlt hx.symm hI,if_pos hlt]
   rw[hfi]at hK
   rw[decide_eq_true hx]at he
   generalize rowG (fgAt fs i)=ra at *
   generalize rowG x=rb at *
   simp[hlt,hgi,hl0,ht0,hl1,ht1,he]
   exact endK hK [] (by simp)
  ·rw[decide_eq_false hx]at he
   generalize rowG (fgAt fs i)=ra at *
   generalize rowG x=rb at *
   simp[hlt,hgi,hw,hl0,ht0,hl1,ht1,he]
   refine hN (i+1) [] _ _ (by omega) ⟨by omega,fun j hj e=>?_⟩ (by simp[hrr,hrx])
   by_cases hji:j=i
   ·subst hji; exact hx e.symm
   ·exact hI j (by omega) e
 ·have hie:i=fs.length:=by omega
  have hfi:fiI x fs = -1:=by
   unfold fiI
   rw[fi_none (fun j hj=>hI j (by omega)),if_neg (by omega)]
  rw[hfi]at hK
  simp[hlt]
  exact endK hK [] (by simp)
end Go.Known
end
section
namespace Go.Known
open Go Go.AE Go.Proofs
theorem mo78:mm78.Ok Tryz.prog:=
 memo_two hm rtC_ok (runFN_ok hm tab_ok rtC_ok 100) (e:=mm78) (af:=aq49) Tryz.func49 cq49 (by kernel_rfl) (by kernel_rfl)
  (r1:=sqL (rtB Tryz.f49)) (r2:=sqL (rtS Tryz.f49)) (r3:=sqL (rtT Tryz.f49)) (r5:=sqL (sqR (rtU Tryz.f49))) (r6:=sqL (sqR (sqR (rtU Tryz.f49)))) (rM:=sqL (sqR (sqR (sqR (sqR (rtU Tryz.f49)))))) (rT:=sqR (sqR (sqR (sqR (sqR (rtU Tryz.f49)))))) (id:=rtI Tryz.f49) (ops:=rtO Tryz.f49) (lb:=0) (by kernel_rfl) (x:=4) (y:=8) (by decide) .data rt_perm
  (a1:=rt1) (a2:=rt2) (a3:=rt3) (a5:=rt5) (a6:=rt6) (aM:=rt7) (aT:=rt8) (oA:=rtA Tryz.prog Tryz.f49) (oB:=rtZ Tryz.prog Tryz.f49) (by kernel_rfl) (by kernel_rfl) (by kernel_rfl) (by kernel_rfl) (by kernel_rfl) (by kernel_rfl) (by kernel_rfl)
  (by kernel_rfl) (by kernel_rfl) (by kernel_rfl) (by kernel_rfl) (by kernel_rfl) (by kernel_rfl) (by kernel_rfl) (by kernel_rfl) (by kernel_rfl) (by kernel_rfl) (by kernel_rfl) (by kernel_rfl) 4 8 (by decide)
  (fun i hi=>match i,hi with
    | 0,_=>rtk0|1,_=>rtk1|2,_=>rtk2|3,_=>rtk3|4,_=>rtk4|5,_=>rtk5|6,_=>rtk6|7,_=>rtk7
    | k+8,h=>absurd h (by omega))
end Go.Known
end
