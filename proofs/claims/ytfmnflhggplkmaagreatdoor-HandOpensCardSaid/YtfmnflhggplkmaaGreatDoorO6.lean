/- Part 6 of the proof: AeG, AeH, AeI. -/
import Derived.Test.YtfmnflhggplkmaaGreatDoorO5
import Derived.Laws.StructEq
import Derived.Lib.Strings
set_option linter.all false
section
namespace Go.AE
open Go.RowKit
def Done (P:Program) (s:Sem Next) (W:Base) (Φ:Pers) (ρ:Rho) (id:Nat) (w:World) (x:AVal) (m':Mem):Prop:=
 ∃ v w' Φ' ρ',(s.run P w=.ok (.value v) w'∨(s.run P w=.ok .skip w'∧v=undef))∧Ext Φ ρ Φ' ρ'∧(∀ b,b≠id→ρ b=none→ρ' b=none)∧Rel W Φ' ρ' m' w'∧R Φ' ρ' x v
section
variable {P:Program} {s:Sem Next} {W:Base} {Φ:Pers} {ρ:Rho} {id:Nat} {w w1:World} {m m':Mem} {x:AVal} {v:Value}
theorem Done.val (h:s.run P w=.ok (.value v) w) (hr:Rel W Φ ρ m w) (hR:R Φ ρ x v):Done P s W Φ ρ id w x m:=
 ⟨v,w,Φ,ρ,.inl h,.refl _ _,fun _ _ h=>h,hr,hR⟩
theorem R_undef (Φ:Pers) (ρ:Rho):R Φ ρ aundef undef:=.tuple [] #[] rfl (fun i x v hx=>by simp at hx)
theorem Done.upd {b:Nat} {x0 x':ABlk} {l:Loc} {o':Obj} (h:s.run P w=.ok .skip (putBlk w l.blk o')) (hr:Rel W Φ ρ m w) (hb:m.get b=some x0) (hl:ρ b=some l) (hbr:BR Φ ρ x' l o') :
 Done P s W Φ ρ id w aundef (m.set b x'):=
 ⟨undef,_,Φ,ρ,.inr ⟨h,rfl⟩,.refl _ _,fun _ _ h=>h,rel_put hr hb hl hbr,R_undef _ _⟩
theorem Done.updV {b:Nat} {x0 x':ABlk} {l:Loc} {o':Obj} (h:s.run P w=.ok (.value v) (putBlk w l.blk o')) (hr:Rel W Φ ρ m w) (hb:m.get b=some x0) (hl:ρ b=some l) (hbr:BR Φ ρ x' l o') (hR:R Φ ρ x v) :
 Done P s W Φ ρ id w x (m.set b x'):=
 ⟨v,_,Φ,ρ,.inl h,.refl _ _,fun _ _ h=>h,rel_put hr hb hl hbr,hR⟩
theorem Done.new {blk:ABlk} {l:Loc} {o:Obj} (h:s.run P w=.ok (.value v) (w1.alloc o)) (hr:Rel W Φ ρ m w1) (hn:ρ id=none) (hlt:id<m.next) (hl:l.blk=w1.heap.size)
 (hbr:BR Φ (ρ.put id l) blk l o) (hR:R Φ (ρ.put id l) x v):Done P s W Φ ρ id w x (m.set id blk):=
 ⟨v,_,Φ,ρ.put id l,.inl h,Rho.ext_put hn,fun b hb h0=>by unfold Rho.put; rw[if_neg hb]; exact h0,rel_new hr hn hlt hl hbr,hR⟩
theorem R.cells_R {cs:List AVal} (h:R Φ ρ x v) (hc:x.cells=some cs):RL Φ ρ cs v.cells:=by
 have one:∀ (y:AVal) (u:Value),R Φ ρ y u→RL Φ ρ [y] #[u]:=fun y u hy=>⟨rfl,fun i x v hx hv=>by
  cases i with
  | zero=>
   simp only[List.getElem?_cons_zero,Option.some.injEq]at hx
   have:u=v:=by simpa using hv
   subst hx; subst this
   exact hy
  | succ i=>simp at hx⟩
 have h':=h
 cases h<;>(try simp only[AVal.cells]at hc)<;>first|(cases hc; done)|skip
 all_goals (injection hc with hc; subst hc)
 case agg cs vs hs hr=>exact ⟨hs,hr⟩
 all_goals exact one _ _ h'
theorem one_R {y:AVal} {u:Value} (h:R Φ ρ y u) (h1:y.one=true):u.oneCell'=true:=by
 cases h<;>simp_all[AVal.one,Value.oneCell']
theorem RL_one {cs:List AVal} {vs:Array Value} (h:RL Φ ρ cs vs) (h1:cs.all AVal.one=true):∀ v,v∈vs.toList→v.oneCell'=true:=by
 intro u hu
 obtain⟨q,hq,rfl⟩:=List.getElem_of_mem hu
 simp only[Array.length_toList]at hq
 have hq':q<cs.length:=by rw[← h.1]; exact hq
 have h2:=h.2 q _ _ (List.getElem?_eq_getElem hq') (Array.getElem?_eq_getElem hq)
 simpa using one_R h2 (List.all_eq_true.1 h1 _ (List.getElem_mem hq'))
theorem rowsIn_one {cs:List AVal} {vs:Array Value} (h:RL Φ ρ cs vs) (h1:cs.all AVal.one=true):RowsIn Φ ρ [cs] 0 cs.length vs:=by
 refine⟨fun i row hi=>?_,fun i row j y hi hj=>?_⟩
 ·cases i with
  | zero=>simp at hi; rw[hi]
  | succ i=>simp at hi
 ·cases i with
  | zero=>
   simp only[List.getElem?_cons_zero,Option.some.injEq]at hi
   subst hi
   have hlt:j<cs.length:=(List.getElem?_eq_some_iff.1 hj).1
   have hv:vs[j]? = some (vs[j]'(by rw[h.1]; exact hlt)):=Array.getElem?_eq_getElem _
   exact⟨_,by simpa using hv,one_R (h.2 j y _ hj hv) (List.all_eq_true.1 h1 y (List.mem_of_getElem? hj)),h.2 j y _ hj hv⟩
  | succ i=>simp at hi
theorem BR.ext_put {blk:ABlk} {l l0:Loc} {o:Obj} (hn:ρ id=none) (h:BR Φ ρ blk l0 o):BR Φ (ρ.put id l) blk l0 o:=h.ext (Rho.ext_put hn)
theorem done_box {e:TypeId} {cs:List AVal} {y:AVal} (hr:Rel W Φ ρ m w) (hn:ρ id=none) (hlt:id<m.next) (hy:R Φ ρ y v) (hc:y.cells=some cs) (h1:cs.all AVal.one=true)
 (h:s.run P w=.ok (.value (.pointer (some ⟨w.heap.size,0,none⟩))) (w.alloc (.cells v.cells e))) :
 Done P s W Φ ρ id w (.ptr id 0 0) (m.set id (.cells cs.length [cs])):=by
 have hcs:=hy.cells_R hc
 refine Done.new (l:=⟨w.heap.size,0,cs.length,1⟩) h hr hn hlt rfl (BR.ext_put hn (.cells _ _ _ _ _ rfl (by simp[hcs.1]) (by simp) (rowsIn_one hcs h1) (RL_one hcs h1))) ?_
 have:=R.ptr (Φ:=Φ) (ρ:=ρ.put id ⟨w.heap.size,0,cs.length,1⟩) id 0 0 _ Rho.put_same
 simpa using this
theorem cZeros_R {t:TypeId} {zs:List AVal} (h:cZeros P t=some zs) (Φ:Pers) (ρ:Rho):∃ i z y,P.info? t=some i∧i.zero=some z∧R Φ ρ y z∧y.cells=some zs∧zs.all AVal.one=true:=by
 unfold cZeros cZero at h
 cases hi:P.info? t with
 | none=>simp[hi]at h
 | some i=>
  cases hz:i.zero with
  | none=>simp[hi,hz]at h
  | some z=>
   cases hy:absV z with
   | none=>simp[hi,hz,hy]at h
   | some y=>
    simp only[hi,hz,hy]at h
    cases hc:y.cells with
    | none=>simp[hc]at h
    | some cs=>
     simp only[hc]at h
     split at h
     ·rename_i h1
      injection h with h; subst h
      exact⟨i,z,y,rfl,hz,absV_R Φ ρ hy,hc,h1⟩
     ·cases h
def aggD:TypeDesc→Bool
 | .struct _ | .array _ _=>true
 | _=>false
theorem cLoad_spec {t:TypeId} {n:Option Nat} (h:cLoad P t=some n):∃ d i,P.underlying t=some d∧P.info? t=some i ∧
 ((n=some i.size∧aggD d=true)∨(n=none∧aggD d=false)):=by
 unfold cLoad at h
 cases hd:P.underlying t with
 | none=>simp[hd]at h
 | some d=>
  cases hi:P.info? t with
  | none=>cases d<;>simp[hd,hi]at h
  | some i=>
   refine⟨d,i,rfl,rfl,?_⟩
   cases d<;>simp[hd,hi]at h<;>first|exact .inl ⟨h.symm,rfl⟩|exact .inr ⟨h.symm,rfl⟩
theorem r_isAgg {t:TypeId} {d:TypeDesc} (h:P.underlying t=some d):(isAgg t).run P w=.ok (aggD d) w:=by
 simp only[isAgg,Sem.run_bind,r_und h,Result.andThen_ok]
 cases d<;>rfl
theorem ok_load {t:TypeId} {n:Option Nat} {xa y:AVal} {va:Value} (hr:Rel W Φ ρ m w) (hx:R Φ ρ xa va) (hc:cLoad P t=some n) (hl:loadA m n xa=some y) :
 ∃ u,(Instr.loadAt t va).run P w=.ok u w∧R Φ ρ y u:=by
 unfold loadA at hl
 cases hrow:rowAt m xa with
 | none=>simp[hrow]at hl
 | some rj=>
  obtain⟨row,j⟩:=rj
  simp only[hrow]at hl
  obtain⟨B,o,c,e,fz,rfl,hB,hcell⟩:=row_cells hr hx hrow
  obtain⟨d,i,hd,hi,hcase⟩:=cLoad_spec hc
  have hagg:=r_isAgg (w:=w) hd
  simp only[Instr.loadAt,Instr.sureAddr,Sem.run_bind,Sem.run_pure,Result.andThen_ok,loadVar,hagg]
  rcases hcase with⟨rfl,hd'⟩|⟨rfl,hd'⟩
  ·simp only at hl
   split at hl
   ·rename_i hle
    injection hl with hl
    subst hl
    rw[hd']
    simp only[if_true,Sem.run_bind,r_size hi,Result.andThen_ok]
    have hsz:o+i.size≤c.size:=by
     have hlt:j+(i.size - 1)<row.length:=by omega
     obtain⟨u,hu,_⟩:=hcell (i.size - 1) _ (List.getElem?_eq_getElem hlt)
     have:=(Array.getElem?_eq_some_iff.1 hu).1
     omega
    rw[run_loadCells hB hsz]
    refine⟨_,rfl,.agg _ _ (by simp; omega) fun q y v hy hv=>?_⟩
    have hq:q<i.size:=by
     have:=(List.getElem?_eq_some_iff.1 hy).1
     simp at this; omega
    rw[List.getElem?_take,if_pos hq,List.getElem?_drop]at hy
    obtain⟨u,hu,hru⟩:=hcell q y hy
    rw[Array.getElem?_extract]at hv
    split at hv
    ·rw[hu]at hv; injection hv with hv; subst hv; exact hru
    ·cases hv
   ·cases hl
  ·simp only at hl
   rw[hd']
   simp only[Bool.false_eq_true,if_false]
   obtain⟨u,hu,hru⟩:=hcell 0 y (by simpa using hl)
   have hcl:w.cell? ⟨B,o,none⟩=some u:=by
    simp only[World.cell?,hB,Option.isSome_none,Bool.false_eq_true,if_false]
    simpa using hu
   rw[run_load,hcl]
   exact⟨u,rfl,hru⟩
theorem setRow_length (cs:List AVal):∀ (row:List AVal) (j:Nat),(setRow row j cs).length=row.length:=by
 induction cs with
 | nil=>intro row j; rfl
 | cons v r ih=>intro row j; simp[setRow,ih]
theorem setRow_get (cs:List AVal):∀ (row:List AVal) (j q:Nat),(setRow row j cs)[q]? = if j≤q∧q<j+cs.length∧q<row.length then cs[q - j]? else row[q]?:=by
 induction cs with
 | nil=>intro row j q; simp[setRow]; intro h1 h2; omega
 | cons v r ih=>
  intro row j q
  simp only[setRow,ih,List.length_set,List.length_cons,List.getElem?_set]
  by_cases h1:j+1≤q∧q<j+1+r.length∧q<row.length
  ·rw[if_pos h1,if_pos (by omega)]
   have:q - j=(q - (j+1))+1:=by omega
   rw[this,List.getElem?_cons_succ]
  ·rw[if_neg h1]
   by_cases h2:j=q
   ·subst h2
    by_cases h3:j<row.length
    ·simp[h3]
    ·simp[h3]
   ·rw[if_neg h2,if_neg (by omega)]
theorem mul_apart {a b k j n q:Nat} (hne:a≠b) (hj:j+n≤k) (hq:q<k):¬(a*k+j≤b*k+q∧b*k+q<a*k+j+n):=by
 rcases Nat.lt_or_gt_of_ne hne with h|h
 ·have:(a+1)*k≤b*k:=Nat.mul_le_mul_right k h
  rw[Nat.add_mul]at this
  omega
 ·have:(b+1)*k≤a*k:=Nat.mul_le_mul_right k h
  rw[Nat.add_mul]at this
  omega
theorem mul_lt {a n k q:Nat} (h:a<n) (hq:q<k):a*k+q<n*k:=by
 have:(a+1)*k≤n*k:=Nat.mul_le_mul_right k h
 rw[Nat.add_mul]at this
 omega
theorem rowsIn_set {els:List (List AVal)} {sh k n i j:Nat} {c:Array Value} {row cs:List AVal} {vs:Array Value} (hrow:RowsIn Φ ρ els sh k c) (hn:c.size=n*k) (hl:sh+els.length≤n)
 (hi:els[i]? = some row) (hcs:RL Φ ρ cs vs) (h1:cs.all AVal.one=true) (hj:j+cs.length≤row.length):RowsIn Φ ρ (els.set i (setRow row j cs)) sh k (setFrom c ((sh+i)*k+j) vs.toList):=by
 have hk:=hrow.1 i row hi
 have hil:i<els.length:=(List.getElem?_eq_some_iff.1 hi).1
 refine⟨fun i' row' h'=>?_,fun i' row' q x h' hq=>?_⟩
 ·rw[List.getElem?_set]at h'
  by_cases hii:i=i'
  ·rw[if_pos hii,if_pos hil]at h'
   injection h' with h'; subst h'; rw[setRow_length,hk]
  ·rw[if_neg hii]at h'
   exact hrow.1 i' row' h'
 ·rw[List.getElem?_set]at h'
  rw[setFrom_get]
  simp only[Array.length_toList,hcs.1]
  by_cases hii:i=i'
  ·subst hii
   rw[if_pos rfl,if_pos hil]at h'
   injection h' with h'
   subst h'
   rw[setRow_get]at hq
   by_cases hin:j≤q∧q<j+cs.length∧q<row.length
   ·rw[if_pos hin]at hq
    have hlt:=mul_lt (a:=sh+i) (n:=n) (k:=k) (q:=q) (by omega) (by omega)
    rw[if_pos ⟨by omega,by omega,by omega⟩]
    have e1:(sh+i)*k+q - ((sh+i)*k+j)=q - j:=by omega
    rw[e1]
    have hlt2:q - j<vs.size:=by rw[hcs.1]; omega
    have hrr:=hcs.2 (q - j) x _ hq (Array.getElem?_eq_getElem hlt2)
    refine⟨vs[q - j],by simp[hlt2],one_R hrr (List.all_eq_true.1 h1 x (List.mem_of_getElem? hq)),hrr⟩
   ·rw[if_neg hin]at hq
    have hqr:q<row.length:=(List.getElem?_eq_some_iff.1 hq).1
    rw[if_neg (by omega)]
    exact hrow.2 i row q x hi hq
  ·rw[if_neg hii]at h'
   have hqk:q<k:=by
    have h1:=hrow.1 i' row' h'
    have h2:=(List.getElem?_eq_some_iff.1 hq).1
    omega
   have hap:=mul_apart (a:=sh+i) (b:=sh+i') (k:=k) (j:=j) (n:=cs.length) (q:=q) (by omega) (by omega) hqk
   rw[if_neg (fun h=>hap ⟨h.1,h.2.1⟩)]
   exact hrow.2 i' row' q x h' hq
theorem r_storeVar {t:TypeId} {i:TypeInfo} {B o:Nat} {c:Array Value} {e:TypeId} (hi:P.info? t=some i) (hB:w.heap[B]? = some (.cells c e (0,0))) (hs:v.cells.size=i.size)
 (h1:∀ u,u∈v.cells.toList→u.oneCell'=true) (hl:o+i.size≤c.size) :
 (Instr.storeAt t (.pointer (some ⟨B,o,none⟩)) v).run P w=.ok () (putBlk w B (.cells (setFrom c o v.cells.toList) e (0,0))):=by
 simp only[Instr.storeAt,Instr.sureAddr,Sem.run_bind,Sem.run_pure,Result.andThen_ok,storeVar,r_size hi]
 rw[if_neg (by simp[hs])]
 have:=run_storeCells (P:=P) (B:=B) (o:=o) (e:=e) v.cells.toList 0 w c h1 hB (by simp[hs]; omega)
 simpa using this
theorem ok_store {t:TypeId} {n:Nat} {xa xv:AVal} {va vv:Value} {m':Mem} (hr:Rel W Φ ρ m w) (hx:R Φ ρ xa va) (hv:R Φ ρ xv vv) (hc:cSize P t=some n) (hst:storeA m n xa xv=some m')
 (he:s.run P w=match (Instr.storeAt t va vv).run P w with | .ok _ w'=>.ok .skip w' | .halt h w'=>.halt h w'):Done P s W Φ ρ id w aundef m':=by
 unfold storeA at hst
 cases xa with
 | ptr b i j=>
  cases hcs:xv.cells with
  | none=>simp[hcs]at hst
  | some cs=>
   simp only[hcs]at hst
   cases hg:m.get b with
   | none=>simp[hg]at hst
   | some blk=>
    cases blk with
    | cells k els=>
     simp only[hg]at hst
     cases hrow:els[i]? with
     | none=>simp[hrow]at hst
     | some row=>
      simp only[hrow]at hst
      split at hst
      ·rename_i hcond
       obtain⟨hc1,hc2,hc3⟩:=hcond
       injection hst with hst
       subst hst
       cases hx with
       | ptr _ _ _ l hl=>
        obtain⟨l',o,g1,g2,g3,g4,g5⟩:=hr.live b _ hg
        rw[hl]at g1; injection g1 with g1; subst g1
        cases g5 with
        | cells _ _ _ c e hk hn hlen hrows h1c=>
         subst hk
         have hcells:=hv.cells_R hcs
         unfold cSize at hc
         cases hi:P.info? t with
         | none=>simp[hi]at hc
         | some inf=>
          simp only[hi,Option.map_some,Option.some.injEq]at hc
          have hk2:=hrows.1 i row hrow
          have hil:i<els.length:=(List.getElem?_eq_some_iff.1 hrow).1
          have hbound:(l.sh+i)*l.k+j+inf.size≤c.size:=by
           have:(l.sh+i+1)*l.k≤l.n*l.k:=Nat.mul_le_mul_right _ (by omega)
           rw[Nat.add_mul]at this
           omega
          have hone:∀ u,u∈vv.cells.toList→u.oneCell'=true:=by
           intro u hu
           obtain⟨q,hq,rfl⟩:=List.getElem_of_mem hu
           simp only[Array.length_toList]at hq
           have hq':q<cs.length:=by rw[← hcells.1]; exact hq
           have h1:=hcells.2 q _ _ (List.getElem?_eq_getElem hq') (Array.getElem?_eq_getElem hq)
           have h2:(cs[q]).one=true:=List.all_eq_true.1 hc3 _ (List.getElem_mem hq')
           simpa using one_R h1 h2
          have hrun:=r_storeVar (P:=P) (v:=vv) hi g4 (by rw[hcells.1,hc1,hc]) hone hbound
          rw[hrun]at he
          exact Done.upd he hr hg hl (.cells _ _ _ _ _ rfl (by rw[setFrom_size,hn]) (by simpa using hlen) (rowsIn_set hrows hn hlen hrow hcells hc3 (by omega)) (setFrom_one _ _ _ h1c hone))
      ·cases hst
    | map es clock=>simp[hg]at hst
    | siter s pos=>simp[hg]at hst
    | miter a b c d=>simp[hg]at hst
 | _=>simp at hst
end
end Go.AE
end
section
namespace Go.AE
open Go.RowKit
section
variable {P:Program} {s:Sem Next} {W:Base} {Φ:Pers} {ρ:Rho} {id:Nat} {w w1:World} {m m':Mem} {x:AVal} {v:Value}
theorem asNat_R {y:AVal} {n:Nat} (h:R Φ ρ y v) (hn:asNat y=some n):∃ k,v=.int k (n:Int):=by
 cases h<;>simp only[asNat]at hn<;>try (cases hn; done)
 split at hn
 ·rename_i k z h0
  injection hn with hn
  subst hn
  exact⟨k,by rw[Int.toNat_of_nonneg h0]⟩
 ·cases hn
theorem cSize_spec {t:TypeId} {n:Nat} (h:cSize P t=some n):∃ i,P.info? t=some i∧i.size=n:=by
 unfold cSize at h
 cases hi:P.info? t with
 | none=>simp[hi]at h
 | some i=>exact ⟨i,rfl,by simpa[hi]using h⟩
theorem addA_R {y z:AVal} {off:Nat} (h:R Φ ρ y v) (ha:addA off y=some z):∃ B o,v=.pointer (some ⟨B,o,none⟩)∧R Φ ρ z (.pointer (some ⟨B,o+off,none⟩)):=by
 cases h with
 | ptr b i j l hl=>
  simp only[addA,Option.some.injEq]at ha
  subst ha
  refine⟨_,_,rfl,?_⟩
  have:=R.ptr (Φ:=Φ) (ρ:=ρ) b i (j+off) l hl
  rwa[← Nat.add_assoc]at this
 | iptr els i j B o k c f hB hk hc hr=>
  simp only[addA,Option.some.injEq]at ha
  subst ha
  refine⟨_,_,rfl,?_⟩
  have:=R.iptr (Φ:=Φ) (ρ:=ρ) els i (j+off) B o k c f hB hk hc hr
  rwa[← Nat.add_assoc]at this
 | _=>simp[addA]at ha
theorem ok_fieldA {t:TypeId} {fs:Array Field} {i n:Nat} {f:Field} {y z:AVal} (ht:P.underlying t=some (.struct fs)) (hf:fs[i]? = some f) (hn:cSize P f.type=some n) (h0:n≠0)
 (hy:R Φ ρ y v) (ha:addA f.offset y=some z):∃ u,(Instr.fieldAt t v i).run P w=.ok u w∧R Φ ρ z u:=by
 obtain⟨B,o,rfl,hz⟩:=addA_R hy ha
 obtain⟨inf,hi,hs⟩:=cSize_spec hn
 refine⟨_,?_,hz⟩
 simp only[Instr.fieldAt,Sem.run_bind,r_und ht,Result.andThen_ok,hf,Instr.sureAddr,Sem.run_pure,fieldPlace,r_size hi,hs]
 rw[if_neg h0]
 simp[Addr.add_none]
theorem partA_R {t:TypeId} {n:Option Nat} {cs:List AVal} {vs:Array Value} {off:Nat} {z:AVal} (hc:cLoad P t=some n) (h:RL Φ ρ cs vs) (hp:partA cs off n=some z) :
 ∃ u,(part t vs off).run P w=.ok u w∧R Φ ρ z u:=by
 obtain⟨d,i,hd,hi,hcase⟩:=cLoad_spec hc
 have hagg:=r_isAgg (w:=w) hd
 simp only[part,Sem.run_bind,hagg,Result.andThen_ok]
 rcases hcase with⟨rfl,hd'⟩|⟨rfl,hd'⟩
 ·rw[hd']
  simp only[partA]at hp
  split at hp
  ·rename_i hle
   injection hp with hp
   subst hp
   simp only[if_true,Sem.run_bind,r_size hi,Result.andThen_ok,Sem.run_pure]
   refine⟨_,rfl,.agg _ _ (by simp[h.1]; omega) fun q y u hy hu=>?_⟩
   have hq:q<i.size:=by
    have:=(List.getElem?_eq_some_iff.1 hy).1
    simp at this; omega
   rw[List.getElem?_take,if_pos hq,List.getElem?_drop]at hy
   rw[Array.getElem?_extract]at hu
   split at hu
   ·exact h.2 _ _ _ hy hu
   ·cases hu
  ·cases hp
 ·rw[hd']
  simp only[partA]at hp
  simp only[Bool.false_eq_true,if_false]
  have hlt:=(List.getElem?_eq_some_iff.1 hp).1
  have hv:vs[off]? = some (vs[off]'(by rw[h.1]; exact hlt)):=Array.getElem?_eq_getElem _
  rw[hv]
  exact⟨_,rfl,h.2 _ _ _ hp hv⟩
theorem agg_R {cs:List AVal} (h:R Φ ρ (.agg cs) v):∃ vs,v=.agg vs∧RL Φ ρ cs vs:=by
 cases h with
 | agg cs vs hs hr=>exact ⟨vs,rfl,hs,hr⟩
theorem ok_field {t:TypeId} {fs:Array Field} {i:Nat} {f:Field} {n:Option Nat} {cs:List AVal} {z:AVal} (ht:P.underlying t=some (.struct fs)) (hf:fs[i]? = some f) (hn:cLoad P f.type=some n)
 (hy:R Φ ρ (.agg cs) v) (ha:partA cs f.offset n=some z):∃ u,(Instr.field t v i).run P w=.ok u w∧R Φ ρ z u:=by
 obtain⟨vs,rfl,h⟩:=agg_R hy
 obtain⟨u,hu,hz⟩:=partA_R (P:=P) (w:=w) hn h ha
 refine⟨u,?_,hz⟩
 simp only[Instr.field,Sem.run_bind,r_und ht,Result.andThen_ok,hf,asAgg,Sem.run_pure,hu]
theorem ok_idxA {t e:TypeId} {k i:Nat} {y:AVal} {z:AVal} {vi:Value} {ki:IntKind} (hr:Rel W Φ ρ m w) (ht:P.underlying t=some (.slice e)) (hk:cSize P e=some k) (hy:R Φ ρ y v) (hi:vi=.int ki (i:Int))
 (h:(∃ b off len els,y=.sl b off len∧m.get b=some (.cells k els)∧i<len∧z=.ptr b (off+i) 0)∨(∃ els row,y=.imm els∧els[i]? = some row∧row.length=k∧z=.iptr els i 0)) :
 ∃ u,(Instr.indexAt t v vi).run P w=.ok u w∧R Φ ρ z u:=by
 subst hi
 obtain⟨inf,hinf,hs⟩:=cSize_spec hk
 rcases h with⟨b,off,len,els,rfl,hb,hlt,rfl⟩|⟨els,row,rfl,hrow,hlen,rfl⟩
 ·cases hy with
  | sl _ _ _ a cap l hl hle hn hcap hav=>
   have ha:=hcap (by omega)
   subst ha
   obtain⟨l',o,g1,g2,g3,g4,g5⟩:=hr.live b _ hb
   rw[hl]at g1; injection g1 with g1; subst g1
   have hkl:l.k=k:=by cases g5 with|cells _ _ _ c e hk' _ _ _ _=>exact hk'
   refine⟨_,?_,R.ptr b (off+i) 0 l hl⟩
   simp only[Instr.indexAt,asIntOf,Sem.run_bind,Sem.run_pure,Result.andThen_ok,r_und ht]
   rw[if_pos ⟨by omega,by omega⟩]
   simp only[Sem.run_bind,r_size hinf,Result.andThen_ok,Sem.run_pure,Int.toNat_natCast,Addr.add_none,hs]
   congr 4
   rw[hkl,← Nat.add_assoc,Nat.add_mul (l.sh+off) i]
   rfl
 ·cases hy with
  | imm0 a cap _=>simp at hrow
  | imm _ B o k' cap c f hne hcap hB hk' hc hrr=>
   have hlt:i<els.length:=(List.getElem?_eq_some_iff.1 hrow).1
   have hkk:k'=k:=by rw[← hk' i row hrow,hlen]
   subst hkk
   refine⟨_,?_,R.iptr els i 0 B o k' c f hB hk' hc hrr⟩
   simp only[Instr.indexAt,asIntOf,Sem.run_bind,Sem.run_pure,Result.andThen_ok,r_und ht]
   rw[if_pos ⟨by omega,by omega⟩]
   simp only[Sem.run_bind,r_size hinf,Result.andThen_ok,Sem.run_pure,Int.toNat_natCast,Addr.add_none,hs]
   rfl
theorem ok_idxAA {t e:TypeId} {n k i:Nat} {y z:AVal} {vi:Value} {ki:IntKind} (ht:P.underlying t=some (.array n e)) (hk:cSize P e=some k) (hy:R Φ ρ y v) (hi:vi=.int ki (i:Int)) (hlt:i<n)
 (ha:addA (i*k) y=some z):∃ u,(Instr.indexAt t v vi).run P w=.ok u w∧R Φ ρ z u:=by
 subst hi
 obtain⟨inf,hinf,hs⟩:=cSize_spec hk
 obtain⟨B,o,rfl,hz⟩:=addA_R hy ha
 refine⟨_,?_,hz⟩
 simp only[Instr.indexAt,asIntOf,Sem.run_bind,Sem.run_pure,Result.andThen_ok,r_und ht,Instr.sureAddr]
 rw[if_pos ⟨by omega,by omega⟩]
 simp only[Sem.run_bind,r_size hinf,Result.andThen_ok,Sem.run_pure,Int.toNat_natCast,Addr.add_none,hs]
theorem ok_idxStr {t:TypeId} {l:List UInt8} {i:Nat} {c:UInt8} {vi:Value} {ki:IntKind} (ht:P.underlying t=some .string) (hy:R Φ ρ (.str l) v) (hi:vi=.int ki (i:Int)) (hc:l[i]? = some c) :
 (Instr.index t v vi).run P w=.ok (.int .u8 c.toNat) w:=by
 subst hi
 cases hy with
 | str _=>
  simp only[Instr.index,asIntOf,Sem.run_bind,Sem.run_pure,Result.andThen_ok,r_und ht]
  rw[if_pos (by omega)]
  have:(ByteArray.mk ⟨l⟩)[(i:Int).toNat]? = some c:=by
   simp only[Int.toNat_natCast]
   have hlt:=(List.getElem?_eq_some_iff.1 hc).1
   have hlt':i<(ByteArray.mk ⟨l⟩).size:=hlt
   rw[getElem?_pos (ByteArray.mk ⟨l⟩) i hlt']
   rw[List.getElem?_eq_getElem hlt]at hc
   injection hc with hc
   subst hc
   rfl
  rw[this]
  rfl
theorem ok_idxArr {t e:TypeId} {n k i:Nat} {sz:Option Nat} {cs:List AVal} {z:AVal} {vi:Value} {ki:IntKind} (ht:P.underlying t=some (.array n e)) (hk:cSize P e=some k) (hsz:cLoad P e=some sz)
 (hy:R Φ ρ (.agg cs) v) (hi:vi=.int ki (i:Int)) (hlt:i<n) (ha:partA cs (i*k) sz=some z):∃ u,(Instr.index t v vi).run P w=.ok u w∧R Φ ρ z u:=by
 subst hi
 obtain⟨inf,hinf,hs⟩:=cSize_spec hk
 obtain⟨vs,rfl,h⟩:=agg_R hy
 obtain⟨u,hu,hz⟩:=partA_R (P:=P) (w:=w) hsz h ha
 refine⟨u,?_,hz⟩
 simp only[Instr.index,asIntOf,Sem.run_bind,Sem.run_pure,Result.andThen_ok,r_und ht]
 rw[if_pos ⟨by omega,by omega⟩]
 simp only[Sem.run_bind,r_size hinf,Result.andThen_ok,hs,Int.toNat_natCast]
 exact hu
end
end Go.AE
end
section
namespace Go.AE
open Go.RowKit
section
variable {P:Program} {s:Sem Next} {W:Base} {Φ:Pers} {ρ:Rho} {id:Nat} {w w1:World} {m m':Mem} {x:AVal} {v:Value}
theorem ok_sliceBound {y:AVal} {n mx:Nat} {code:BoundsCode} (h:R Φ ρ y v) (hn:asNat y=some n) (hle:n≤mx):(Instr.sliceBound v mx code).run P w=.ok n w:=by
 obtain⟨k,rfl⟩:=asNat_R h hn
 simp only[Instr.sliceBound,asIntOf,Sem.run_bind,Sem.run_pure,Result.andThen_ok]
 rw[if_pos ⟨by omega,by omega⟩]
 simp
def OptR (Φ:Pers) (ρ:Rho) (t:List AVal) (ao:Option AOpd) (vo:Option Value):Prop:=
 match ao,vo with
 | none,none=>True
 | some y,some u=>R Φ ρ (ev t y) u
 | _,_=>False
theorem cOpt_R {t:List AVal} {a:Act} (h:RL Φ ρ t a.tmps) {o:Option Operand} {ao:Option AOpd} (ho:cOpt o=some ao):OptR Φ ρ t ao (o.map a.eval):=by
 cases o with
 | none=>
  simp only[cOpt,Option.some.injEq]at ho
  subst ho
  trivial
 | some y=>
  simp only[cOpt]at ho
  cases hy:cOpd y with
  | none=>simp[hy]at ho
  | some z=>
   simp only[hy,Option.some.injEq]at ho
   subst ho
   exact ev_R h hy
theorem ok_bounds {t:List AVal} {len mxlen cap l h:Nat} {lo hi:Option AOpd} {vlo vhi:Option Value} {b:Bool} (hlo:OptR Φ ρ t lo vlo) (hhi:OptR Φ ρ t hi vhi) (hs:slBounds t len mxlen lo hi=some (l,h))
 (hc:mxlen≤cap):(Instr.sliceBounds b len cap vlo vhi none).run P w=.ok (l,h,cap) w∧l≤h∧h≤mxlen:=by
 unfold slBounds at hs
 cases hh:optNat t len hi with
 | none=>simp[hh]at hs
 | some h'=>
  simp only[hh]at hs
  split at hs
  ·rename_i hle
   cases hl:optNat t 0 lo with
   | none=>simp[hl]at hs
   | some l'=>
    simp only[hl]at hs
    split at hs
    ·rename_i hle2
     simp only[Option.some.injEq,Prod.mk.injEq]at hs
     obtain⟨rfl,rfl⟩:=hs
     refine⟨?_,hle2,hle⟩
     have e1:(vhi=none∧len=h') ∨ ∃ u,vhi=some u ∧ ∀(code:BoundsCode),(Instr.sliceBound u cap code).run P w=.ok h' w:=by
      cases hi with
      | none=>
       cases vhi with
       | none=>simp only[optNat,Option.some.injEq]at hh; exact .inl ⟨rfl,hh⟩
       | some u=>exact hhi.elim
      | some y=>
       cases vhi with
       | none=>exact hhi.elim
       | some u=>exact .inr ⟨u,rfl,fun code=>ok_sliceBound hhi hh (by omega)⟩
     have e2:(vlo=none∧0=l') ∨ ∃ u,vlo=some u ∧ ∀(code:BoundsCode),(Instr.sliceBound u h' code).run P w=.ok l' w:=by
      cases lo with
      | none=>
       cases vlo with
       | none=>simp only[optNat,Option.some.injEq]at hl; exact .inl ⟨rfl,hl⟩
       | some u=>exact hlo.elim
      | some y=>
       cases vlo with
       | none=>exact hlo.elim
       | some u=>exact .inr ⟨u,rfl,fun code=>ok_sliceBound hlo hl (by omega)⟩
     rcases e1 with⟨rfl,rfl⟩|⟨u1,rfl,e1⟩<;>rcases e2 with⟨rfl,rfl⟩|⟨u2,rfl,e2⟩ <;>
      simp only[Instr.sliceBounds,Sem.run_bind,Sem.run_pure,Result.andThen_ok, *]
    ·cases hs
  ·cases hs
theorem slice_run {t e:TypeId} {k:Nat} {a:Option Addr} {len cap l h:Nat} {vlo vhi vmx:Option Value} {mc:Nat} (ht:P.underlying t=some (.slice e)) (hk:cSize P e=some k)
 (hb:(Instr.sliceBounds true len cap vlo vhi vmx).run P w=.ok (l,h,mc) w) :
 (Instr.sliceAt t (.slice a len cap) vlo vhi vmx).run P w=.ok (.slice (if mc=l then a else a.map (·.add (l*k))) (h - l) (mc - l)) w:=by
 obtain⟨inf,hinf,hs⟩:=cSize_spec hk
 simp only[Instr.sliceAt,Instr.slice,Sem.run_bind,r_und ht,Result.andThen_ok,hb,r_size hinf,hs,Sem.run_pure]
theorem rows_k {els:List (List AVal)} {k:Nat} (h:(els.all fun r=>r.length == k)=true) (i:Nat) (row:List AVal) (hi:els[i]? = some row):row.length=k:=by
 have:=List.all_eq_true.1 h row (List.mem_of_getElem? hi)
 simpa using this
theorem imm_part {els:List (List AVal)} {k l h len cap:Nat} {a:Option Addr} (hy:R Φ ρ (.imm els) (.slice a len cap)) (hall:(els.all fun r=>r.length == k)=true) (hl:l≤h) (hh:h≤els.length) :
 R Φ ρ (.imm ((els.take h).drop l)) (.slice (if cap=l then a else a.map (·.add (l*k))) (h - l) (cap - l)):=by
 by_cases he:(els.take h).drop l=[]
 ·have hlen:h - l=0:=by
   have:=congrArg List.length he
   simp at this
   omega
  rw[he,hlen]
  refine .imm0 _ _ fun hp=>?_
  rw[if_neg (by omega)]
  cases hy with
  | imm0 a cap hz=>
   obtain⟨B,o,rfl⟩:=hz (by omega)
   exact⟨B,o+l*k,by simp only[Option.map_some,Addr.add_none]⟩
  | imm _ B o k' cap c f hne hcap hB hk' hc hrr=>exact ⟨B,o+l*k,by simp only[Option.map_some,Addr.add_none]⟩
 ·have hlt:l<h:=by
   rcases Nat.lt_or_ge l h with h1|h1
   ·exact h1
   ·exfalso
    apply he
    apply List.eq_nil_of_length_eq_zero
    simp; omega
  cases hy with
  | imm0 a cap _=>simp at hh; omega
  | imm _ B o k' cap c f hne hcap hB hk' hc hrr=>
   have hkk:k'=k:=by
    have hpos:0<els.length:=by omega
    have e1:=hk' 0 _ (List.getElem?_eq_getElem hpos)
    have e2:=rows_k hall 0 _ (List.getElem?_eq_getElem hpos)
    omega
   subst hkk
   rw[if_neg (by omega)]
   simp only[Option.map_some,Addr.add_none]
   have hget:∀ (i:Nat) (row:List AVal),((els.take h).drop l)[i]? = some row→els[l+i]? = some row:=by
    intro i row hi
    rw[List.getElem?_drop,List.getElem?_take]at hi
    split at hi
    ·exact hi
    ·cases hi
   have hlen:h - l=((els.take h).drop l).length:=by simp; omega
   rw[hlen]
   refine .imm _ B (o+l*k') k' (cap - l) c (fun i j=>f (l+i) j) he (by simp; omega) hB (fun i row hi=>hk' _ row (hget i row hi)) (fun i row j y hi hj=>?_) (fun i row j y hi hj=>hrr _ row j y (hget i row hi) hj)
   have:=hc (l+i) row j y (hget i row hi) hj
   refine⟨?_,this.2⟩
   rw[← this.1]
   congr 1
   rw[Nat.add_mul]; omega
theorem ok_slSl {t e:TypeId} {k:Nat} {tl:List AVal} {y:AVal} {lo hi:Option AOpd} {vlo vhi:Option Value} {z:AVal} {m2:Mem} (hr:Rel W Φ ρ m w) (ht:P.underlying t=some (.slice e)) (hk:cSize P e=some k) (hy:R Φ ρ y v)
 (hlo:OptR Φ ρ tl lo vlo) (hhi:OptR Φ ρ tl hi vhi)
 (h:(y=.nilSl∧(∃ lh,slBounds tl 0 0 lo hi=some lh)∧z=.nilSl∧m2=m)∨(y=.emp∧(∃ lh,slBounds tl 0 0 lo hi=some lh)∧z=.emp∧m2=m) ∨
   (∃ els l h,y=.imm els∧(els.all fun r=>r.length == k)=true∧slBounds tl els.length els.length lo hi=some (l,h)∧z=.imm ((els.take h).drop l)∧m2=m) ∨
   (∃ b off len els l h,y=.sl b off len∧m.get b=some (.cells k els)∧off+len≤els.length∧slBounds tl len (els.length - off) lo hi=some (l,h)∧z=.sl b (off+l) (h - l)∧m2=m)) :
 m2=m ∧ ∃ u,(Instr.sliceAt t v vlo vhi none).run P w=.ok u w∧R Φ ρ z u:=by
 rcases h with⟨rfl,⟨⟨l,h⟩,hb⟩,rfl,rfl⟩|⟨rfl,⟨⟨l,h⟩,hb⟩,rfl,rfl⟩|⟨els,l,h,rfl,hall,hb,rfl,rfl⟩|⟨b,off,len,els,l,h,rfl,hg,hle,hb,rfl,rfl⟩
 ·refine⟨rfl,?_⟩
  cases hy
  obtain⟨hb1,h1,h2⟩:=ok_bounds (P:=P) (w:=w) (b:=true) (cap:=0) hlo hhi hb (Nat.le_refl _)
  obtain rfl:h=0:=by omega
  obtain rfl:l=0:=by omega
  exact⟨_,slice_run ht hk hb1,.nilSl⟩
 ·refine⟨rfl,?_⟩
  cases hy with
  | emp a=>
   obtain⟨hb1,h1,h2⟩:=ok_bounds (P:=P) (w:=w) (b:=true) (cap:=0) hlo hhi hb (Nat.le_refl _)
   obtain rfl:h=0:=by omega
   obtain rfl:l=0:=by omega
   exact⟨_,slice_run ht hk hb1,.emp _⟩
 ·refine⟨rfl,?_⟩
  have hv:∃ a cap,v=.slice a els.length cap∧els.length≤cap:=by
   cases hy with
   | imm0 a cap _=>exact ⟨_,_,rfl,Nat.zero_le _⟩
   | imm _ B o k' cap c f hne hcap hB hk' hc hrr=>exact ⟨_,_,rfl,hcap⟩
  obtain⟨a,cap,rfl,hcap⟩:=hv
  obtain⟨hb1,h1,h2⟩:=ok_bounds (P:=P) (w:=w) (b:=true) (cap:=cap) hlo hhi hb hcap
  exact⟨_,slice_run ht hk hb1,imm_part hy hall h1 h2⟩
 ·refine⟨rfl,?_⟩
  cases hy with
  | sl _ _ _ a cap lc hl hlc hn2 hcap hav=>
   obtain⟨l',o,g1,g2,g3,g4,g5⟩:=hr.live b _ hg
   rw[hl]at g1; injection g1 with g1; subst g1
   cases g5 with
   | cells _ _ _ c e' hk' hn hlen hrows _=>
    have hmx:els.length - off≤cap:=by omega
    obtain⟨hb1,h1,h2⟩:=ok_bounds (P:=P) (w:=w) (b:=true) (cap:=cap) hlo hhi hb hmx
    refine⟨_,slice_run ht hk hb1,.sl b (off+l) (h - l) _ (cap - l) lc hl (by omega) (by omega) (fun hpos=>?_) (by split<;>simp[hav])⟩
    have ha:=hcap (by omega)
    subst ha
    rw[if_neg (by omega)]
    simp only[Option.map_some,Addr.add_none]
    congr 2
    rw[← Nat.add_assoc,Nat.add_mul (lc.sh+off) l,hk']
theorem extract_mk (l:List UInt8) (a b:Nat):(ByteArray.mk ⟨l⟩).extract a b=⟨⟨(l.take b).drop a⟩⟩:=by
 have h1:=Lib.extract_data (ByteArray.mk ⟨l⟩) a b
 cases h:(ByteArray.mk ⟨l⟩).extract a b with
 | mk d=>
  rw[h]at h1
  have h2:d.toList=(l.take b).drop a:=by rw[List.drop_take]; simpa using h1
  cases d
  simp at h2
  rw[h2]
theorem ok_slStr {t:TypeId} {tl:List AVal} {l:List UInt8} {lo hi:Option AOpd} {vlo vhi:Option Value} {a b:Nat} (ht:P.underlying t=some .string) (hy:R Φ ρ (.str l) v)
 (hlo:OptR Φ ρ tl lo vlo) (hhi:OptR Φ ρ tl hi vhi) (hb:slBounds tl l.length l.length lo hi=some (a,b)) :
 ∃ u,(Instr.sliceAt t v vlo vhi none).run P w=.ok u w∧R Φ ρ (.str ((l.take b).drop a)) u:=by
 cases hy with
 | str _=>
  obtain⟨hb1,h1,h2⟩:=ok_bounds (P:=P) (w:=w) (b:=false) (cap:=l.length) hlo hhi hb (Nat.le_refl _)
  refine⟨_,?_,.str _⟩
  have hsz:(ByteArray.mk ⟨l⟩).size=l.length:=rfl
  simp only[Instr.sliceAt,Instr.slice,Sem.run_bind,r_und ht,Result.andThen_ok,Option.isSome_none,Bool.false_eq_true,if_false,Sem.run_pure,hsz,hb1,extract_mk]
end
end Go.AE
end
