/- Part 37 of the proof: Sx, Sy. -/
import Derived.Test.YtipeejpafgnjdaaGreatDoorF36
set_option linter.all false
section
namespace Go.Known
open Go Go.AE Go.Proofs
open Go.Plain
structure Fg where
 p:Int
 r:Bool
 d:Int
deriving DecidableEq,Inhabited
def rowG (x:Fg):List AVal:=[.int .i64 x.p,.bool x.r,.int .i64 x.d]
def frV (fs:List Fg) (re lo:Int):AVal:=.agg [.imm (fs.map rowG),.int .i64 re,.int .i64 lo]
def fgAt (fs:List Fg) (i:Nat):Fg:=fs.getD i default
def fiG (x:Fg) (fs:List Fg):Nat:=fs.findIdx fun y=>decide (y=x)
theorem closed_rowG:∀ (fs:List Fg),closedLL (fs.map rowG)=true
 | []=>rfl
 | l :: r=>by simp only [List.map_cons,closedLL,closed_rowG r,Bool.and_true]; rfl
theorem scal_rowG {get:Nat→Option ABlk} {n:Nat} (l:List Fg):∀ row,row∈l.map rowG → ∀ x,x∈row→freezeV get (n+1) x=some x:=by
 intro row hr x hx
 obtain⟨i,_,rfl⟩:=List.mem_map.1 hr
 simp only [rowG,List.mem_cons,List.not_mem_nil,or_false] at hx
 rcases hx with rfl | rfl | rfl<;>rfl
theorem get_rowG (fs:List Fg) {i:Nat} (h:i<fs.length):(fs.map rowG)[i]? = some (rowG (fgAt fs i)):=by
 rw [List.getElem?_map,List.getElem?_eq_getElem h,fgAt,List.getD,List.getElem?_eq_getElem h]
 rfl
theorem fgAt_eq {fs:List Fg} {i:Nat} (h:i<fs.length):fgAt fs i=fs[i]:=by rw [fgAt,List.getD,List.getElem?_eq_getElem h]; rfl
theorem same_rowG (a b:Fg):sameCells [.int,.bool,.int] (rowG a) (rowG b)=some (decide (a=b)):=by
 obtain⟨a1,a2,a3⟩:=a
 obtain⟨b1,b2,b3⟩:=b
 simp only [rowG,sameCells,keyEq,if_true,Fg.mk.injEq]
 by_cases h1:a1=b1
 · by_cases h2:a2=b2
   · by_cases h3:a3=b3
     · simp [h1,h2,h3]
     · simp [h1,h2,h3,beq_false_of_ne h3]
   · simp [h1,h2,beq_false_of_ne h2]
 · simp [h1,beq_false_of_ne h1]
theorem eq_rowG (a b:Fg):binA .eql (.flat [.int,.bool,.int]) (.agg (rowG a)) (.agg (rowG b))=some (.bool (decide (a=b))):=by
 simp only [binA,eqA,same_rowG]
theorem fi_le (x:Fg) (fs:List Fg):fiG x fs≤fs.length:=List.findIdx_le_length
theorem fi_eq {x:Fg} {fs:List Fg} {i:Nat} (h:i<fs.length) (hx:fgAt fs i=x) (hn:∀ j,j<i→fgAt fs j≠x):fiG x fs=i:=by
 unfold fiG
 rw [List.findIdx_eq h]
 refine⟨by rw [← fgAt_eq h,hx]; simp,fun j hj=>?_⟩
 have:=hn j hj
 rw [fgAt_eq (by omega)] at this
 simpa using this
theorem fi_none {x:Fg} {fs:List Fg} (hn:∀ j,j<fs.length→fgAt fs j≠x):fiG x fs=fs.length:=by
 unfold fiG
 rw [List.findIdx_eq_length]
 intro y hy
 obtain⟨j,hj,rfl⟩:=List.getElem_of_mem hy
 have:=hn j hj
 rw [fgAt_eq hj] at this
 simpa using this
def fiI (x:Fg) (fs:List Fg):Int:=if fiG x fs<fs.length then (fiG x fs:Int) else -1
set_option maxRecDepth 100000 in
set_option maxHeartbeats 4000000 in
theorem c150 (x:Fg) (fs:List Fg) (h:fs.length≤1000):PCall Tryz.prog 196 [.imm (fs.map rowG),.agg (rowG x)] (.int .i64 (fiI x fs)):=by
 refine PCall_1 hm Tryz.func196 cf150 rfl rfl (by simp [closedL,AVal.closed,closed_rowG,rowG]) trivial fun K hK=>?_
 have hrr:∀ q,renLL q (fs.map rowG)=fs.map rowG:=fun q=>renLL_closed q _ (closed_rowG fs)
 have hrx:∀ q,renL q (rowG x)=rowG x:=fun q=>rfl
 have hlen:(fs.map rowG).length=fs.length:=List.length_map ..
 have hg:=fun i hi=>get_rowG fs (i:=i) hi
 have l3:∀ y:Fg,(rowG y).length=3:=fun _=>rfl
 have t3:∀ y:Fg,(rowG y).take 3=rowG y:=fun _=>rfl
 have hq:=fun y=>eq_rowG x y
 generalize fs.map rowG=rows at *
 have hl0:=l3 x
 have ht0:=t3 x
 simp [hlen,hl0]
 refine wZ_loop (α:=Nat) (fun i=>[(8,.int .i64 i),(7,.int .i64 fs.length),(6,.imm rows),(0,.imm rows),(3,.ptr 1 0 0)]) (fun _=>⟨[(1,.cells 3 [rowG x])],2⟩) (fun i=>fs.length - i) (fun i=>i≤fs.length ∧ ∀ j,j<i→fgAt fs j≠x) 0 [] (by simp [hrr,hrx]) (by simp) ?_
 rintro i ⟨hi,hI⟩ N hN
 try simp only at hi hN ⊢
 by_cases hlt:i<fs.length
 · have hgi:=hg i hlt
   obtain⟨hgl,hg2⟩:=getE hgi
   have hw:IntKind.i64.wrap ((i:Int)+1)=(i:Int)+1:=wrap64 (by omega) (by omega)
   have he:=hq (fgAt fs i)
   have hl1:=l3 (fgAt fs i)
   have ht1:=t3 (fgAt fs i)
   by_cases hx:x=fgAt fs i
   · have hfi:fiI x fs=(i:Int):=by
      unfold fiI
      rw [fi_eq hlt hx.symm hI,if_pos hlt]
     rw [hfi] at hK
     rw [decide_eq_true hx] at he
     generalize rowG (fgAt fs i)=ra at *
     generalize rowG x=rb at *
     simp [hlt,hgi,hg2,hw,hl0,ht0,hl1,ht1,he]
     exact endK hK [] (by simp)
   · rw [decide_eq_false hx] at he
     generalize rowG (fgAt fs i)=ra at *
     generalize rowG x=rb at *
     simp [hlt,hgi,hg2,hw,hl0,ht0,hl1,ht1,he]
     refine hN (i+1) [] _ _ (by omega) ⟨by omega,fun j hj e=>?_⟩ (by simp [hrr,hrx])
     by_cases hji:j=i
     · subst hji; exact hx e.symm
     · exact hI j (by omega) e
 · have hie:i=fs.length:=by omega
   have hfi:fiI x fs = -1:=by
    unfold fiI
    rw [fi_none (fun j hj=>hI j (by omega)),if_neg (by omega)]
   rw [hfi] at hK
   simp [hlt]
   exact endK hK [] (by simp)
end Go.Known
end
section
namespace Go.Known
open Go Go.AE Go.Proofs
open Go.Plain
theorem fi_lt {x:Fg} {l:List Fg}:fiG x l<l.length ↔ ∃ j,j<l.length∧fgAt l j=x:=by
 constructor
 · intro h
   refine⟨fiG x l,h,?_⟩
   have:=List.findIdx_getElem (p:=fun y=>decide (y=x)) (xs:=l) (w:=h)
   rw [fgAt_eq h]
   exact of_decide_eq_true this
 · rintro⟨j,hj,rfl⟩
   refine List.findIdx_lt_length_of_exists ⟨l[j],List.getElem_mem hj,?_⟩
   rw [fgAt_eq hj]
   simp
theorem fg_take {fs:List Fg} {i j:Nat} (hj:j<i):fgAt (fs.take i) j=fgAt fs j:=by
 unfold fgAt List.getD
 rw [List.getElem?_take,if_pos hj]
theorem fi_take {fs:List Fg} {i:Nat} (h:i<fs.length):fiG (fgAt fs i) (fs.take i)<(fs.take i).length↔fiG (fgAt fs i) fs≠i:=by
 rw [fi_lt]
 have hl:(fs.take i).length=i:=by rw [List.length_take]; omega
 rw [hl]
 constructor
 · rintro⟨j,hj,e⟩ hi
   rw [fg_take hj] at e
   have:=List.findIdx_eq (p:=fun y=>decide (y=fgAt fs i)) h
   unfold fiG at hi
   have h2:=(this.1 hi).2 j hj
   rw [← fgAt_eq (by omega),e] at h2
   simp at h2
 · intro hne
   refine Classical.byContradiction fun hc=>hne (fi_eq h rfl fun j hj e=>hc ⟨j,hj,?_⟩)
   rw [fg_take hj,e]
def ThereP (x:Fg):Prop:=1≤x.p∧x.p≤9∧0≤x.d∧x.d≤6
instance (x:Fg):Decidable (ThereP x):=by unfold ThereP; infer_instance
def FrV (fs:List Fg) (re lo:Int):Prop:=fs.length≤40∧0≤re∧re≤40∧1≤lo∧lo≤20 ∧ ∀ i,i<fs.length→ThereP (fgAt fs i)∧fiG (fgAt fs i) fs=i
open Classical in
noncomputable def frB (fs:List Fg) (re lo:Int):Bool:=decide (FrV fs re lo)
theorem frB_true {fs:List Fg} {re lo:Int} (h:FrV fs re lo):frB fs re lo=true:=by unfold frB; simp [h]
theorem frB_false {fs:List Fg} {re lo:Int} (h:¬FrV fs re lo):frB fs re lo=false:=by unfold frB; simp [h]
set_option maxRecDepth 100000 in
set_option maxHeartbeats 4000000 in
theorem c119 (x:Fg) (fs:List Fg) (h:fs.length≤1000):PCall Tryz.prog 163 [.imm (fs.map rowG),.agg (rowG x)] (.bool (decide (fiG x fs<fs.length))):=by
 refine PCall_1 hm Tryz.func163 cf119 rfl rfl (by simp [closedL,AVal.closed,closed_rowG,rowG]) trivial fun K hK=>?_
 have h150:=c150 x fs h
 have hrr:∀ q,renLL q (fs.map rowG)=fs.map rowG:=fun q=>renLL_closed q _ (closed_rowG fs)
 have hle:=fi_le x fs
 generalize fs.map rowG=rows at *
 unfold rowG at *
 simp
 refine SC_pure h150 ?_
 by_cases hlt:fiG x fs<fs.length
 · have:fiI x fs=(fiG x fs:Int):=by unfold fiI; rw [if_pos hlt]
   rw [decide_eq_true hlt] at hK
   simp [this]
   exact endK hK [] (by simp)
 · have:fiI x fs = -1:=by unfold fiI; rw [if_neg hlt]
   rw [decide_eq_false hlt] at hK
   simp [this]
   exact endK hK [] (by simp)
theorem c118 (x:Fg):PCall Tryz.prog 162 [.agg (rowG x)] (.bool (decide (ThereP x))):=by
 refine PCall_1 hm Tryz.func162 cf118 rfl rfl (by simp [closedL,AVal.closed,rowG]) trivial fun K hK=>?_
 by_cases h1:1≤x.p
 · by_cases h2:x.p≤9
   · by_cases h3:0≤x.d
     · by_cases h4:x.d≤6
       · simp [rowG,h1,h2,h3,h4]
         exact endK hK [] (by simp [ThereP,h1,h2,h3,h4])
       · simp [rowG,h1,h2,h3,h4]
         exact endK hK [] (by simp [ThereP,h1,h2,h3,h4])
     · simp [rowG,h1,h2,h3]
       exact endK hK [] (by simp [ThereP,h1,h2,h3])
   · simp [rowG,h1,h2]
     exact endK hK [] (by simp [ThereP,h1,h2])
 · simp [rowG,h1]
   exact endK hK [] (by simp [ThereP,h1])
end Go.Known
end
