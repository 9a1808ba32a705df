/- Part 6 of the proof: AeG. -/
import Derived.Test.YtfmnflhggplkmaaGreatDoorU5
set_option linter.all false
namespace Go.AE
open Go.RowKit
def Done (P:Program) (s:Sem Next) (W:Base) (Φ:Pers) (ρ:Rho) (id:Nat) (w:World) (x:AVal) (m':Mem):Prop:=
 ∃ v w' Φ' ρ',(s.run P w=.ok (.value v) w'∨(s.run P w=.ok .skip w'∧v=undef))∧Ext Φ ρ Φ' ρ'∧(∀ b,b≠id→ρ b=none→ρ' b=none)∧Rel W Φ' ρ' m' w'∧R Φ' ρ' x v
section
variable {P:Program} {s:Sem Next} {W:Base} {Φ:Pers} {ρ:Rho} {id:Nat} {w w1:World} {m m':Mem} {x:AVal} {v:Value}
theorem Done.val (h:s.run P w=.ok (.value v) w) (hr:Rel W Φ ρ m w) (hR:R Φ ρ x v):Done P s W Φ ρ id w x m:=
 ⟨v,w,Φ,ρ,.inl h,.refl _ _,fun _ _ h=>h,hr,hR⟩
theorem R_undef (Φ:Pers) (ρ:Rho):R Φ ρ aundef undef:=.tuple [] #[] rfl (fun i x v hx=>by simp at hx)
theorem Done.upd {b:Nat} {x0 x':ABlk} {l:Loc} {o':Obj} (h:s.run P w=.ok .skip (putBlk w l.blk o')) (hr:Rel W Φ ρ m w) (hb:m.get b=some x0) (hl:ρ b=some l) (hbr:BR Φ ρ x' l o') :
 Done P s W Φ ρ id w aundef (m.set b x'):=
 ⟨undef,_,Φ,ρ,.inr ⟨h,rfl⟩,.refl _ _,fun _ _ h=>h,rel_put hr hb hl hbr,R_undef _ _⟩
theorem Done.updV {b:Nat} {x0 x':ABlk} {l:Loc} {o':Obj} (h:s.run P w=.ok (.value v) (putBlk w l.blk o')) (hr:Rel W Φ ρ m w) (hb:m.get b=some x0) (hl:ρ b=some l) (hbr:BR Φ ρ x' l o') (hR:R Φ ρ x v) :
 Done P s W Φ ρ id w x (m.set b x'):=
 ⟨v,_,Φ,ρ,.inl h,.refl _ _,fun _ _ h=>h,rel_put hr hb hl hbr,hR⟩
theorem Done.new {blk:ABlk} {l:Loc} {o:Obj} (h:s.run P w=.ok (.value v) (w1.alloc o)) (hr:Rel W Φ ρ m w1) (hn:ρ id=none) (hlt:id<m.next) (hl:l.blk=w1.heap.size)
 (hbr:BR Φ (ρ.put id l) blk l o) (hR:R Φ (ρ.put id l) x v):Done P s W Φ ρ id w x (m.set id blk):=
 ⟨v,_,Φ,ρ.put id l,.inl h,Rho.ext_put hn,fun b hb h0=>by unfold Rho.put; rw[if_neg hb]; exact h0,rel_new hr hn hlt hl hbr,hR⟩
theorem R.cells_R {cs:List AVal} (h:R Φ ρ x v) (hc:x.cells=some cs):RL Φ ρ cs v.cells:=by
 have one:∀ (y:AVal) (u:Value),R Φ ρ y u→RL Φ ρ [y] #[u]:=fun y u hy=>⟨rfl,fun i x v hx hv=>by
  cases i with
  | zero=>
   simp only[List.getElem?_cons_zero,Option.some.injEq]at hx
   have:u=v:=by simpa using hv
   subst hx; subst this
   exact hy
  | succ i=>simp at hx⟩
 have h':=h
 cases h<;>(try simp only[AVal.cells]at hc)<;>first|(cases hc; done)|skip
 all_goals (injection hc with hc; subst hc)
 case agg cs vs hs hr=>exact ⟨hs,hr⟩
 all_goals exact one _ _ h'
theorem one_R {y:AVal} {u:Value} (h:R Φ ρ y u) (h1:y.one=true):u.oneCell'=true:=by
 cases h<;>simp_all[AVal.one,Value.oneCell']
theorem RL_one {cs:List AVal} {vs:Array Value} (h:RL Φ ρ cs vs) (h1:cs.all AVal.one=true):∀ v,v∈vs.toList→v.oneCell'=true:=by
 intro u hu
 obtain⟨q,hq,rfl⟩:=List.getElem_of_mem hu
 simp only[Array.length_toList]at hq
 have hq':q<cs.length:=by rw[← h.1]; exact hq
 have h2:=h.2 q _ _ (List.getElem?_eq_getElem hq') (Array.getElem?_eq_getElem hq)
 simpa using one_R h2 (List.all_eq_true.1 h1 _ (List.getElem_mem hq'))
theorem rowsIn_one {cs:List AVal} {vs:Array Value} (h:RL Φ ρ cs vs) (h1:cs.all AVal.one=true):RowsIn Φ ρ [cs] 0 cs.length vs:=by
 refine⟨fun i row hi=>?_,fun i row j y hi hj=>?_⟩
 ·cases i with
  | zero=>simp at hi; rw[hi]
  | succ i=>simp at hi
 ·cases i with
  | zero=>
   simp only[List.getElem?_cons_zero,Option.some.injEq]at hi
   subst hi
   have hlt:j<cs.length:=(List.getElem?_eq_some_iff.1 hj).1
   have hv:vs[j]? = some (vs[j]'(by rw[h.1]; exact hlt)):=Array.getElem?_eq_getElem _
   exact⟨_,by simpa using hv,one_R (h.2 j y _ hj hv) (List.all_eq_true.1 h1 y (List.mem_of_getElem? hj)),h.2 j y _ hj hv⟩
  | succ i=>simp at hi
theorem BR.ext_put {blk:ABlk} {l l0:Loc} {o:Obj} (hn:ρ id=none) (h:BR Φ ρ blk l0 o):BR Φ (ρ.put id l) blk l0 o:=h.ext (Rho.ext_put hn)
theorem done_box {e:TypeId} {cs:List AVal} {y:AVal} (hr:Rel W Φ ρ m w) (hn:ρ id=none) (hlt:id<m.next) (hy:R Φ ρ y v) (hc:y.cells=some cs) (h1:cs.all AVal.one=true)
 (h:s.run P w=.ok (.value (.pointer (some ⟨w.heap.size,0,none⟩))) (w.alloc (.cells v.cells e))) :
 Done P s W Φ ρ id w (.ptr id 0 0) (m.set id (.cells cs.length [cs])):=by
 have hcs:=hy.cells_R hc
 refine Done.new (l:=⟨w.heap.size,0,cs.length,1⟩) h hr hn hlt rfl (BR.ext_put hn (.cells _ _ _ _ _ rfl (by simp[hcs.1]) (by simp) (rowsIn_one hcs h1) (RL_one hcs h1))) ?_
 have:=R.ptr (Φ:=Φ) (ρ:=ρ.put id ⟨w.heap.size,0,cs.length,1⟩) id 0 0 _ Rho.put_same
 simpa using this
theorem cZeros_R {t:TypeId} {zs:List AVal} (h:cZeros P t=some zs) (Φ:Pers) (ρ:Rho):∃ i z y,P.info? t=some i∧i.zero=some z∧R Φ ρ y z∧y.cells=some zs∧zs.all AVal.one=true:=by
 unfold cZeros cZero at h
 cases hi:P.info? t with
 | none=>simp[hi]at h
 | some i=>
  cases hz:i.zero with
  | none=>simp[hi,hz]at h
  | some z=>
   cases hy:absV z with
   | none=>simp[hi,hz,hy]at h
   | some y=>
    simp only[hi,hz,hy]at h
    cases hc:y.cells with
    | none=>simp[hc]at h
    | some cs=>
     simp only[hc]at h
     split at h
     ·rename_i h1
      injection h with h; subst h
      exact⟨i,z,y,rfl,hz,absV_R Φ ρ hy,hc,h1⟩
     ·cases h
def aggD:TypeDesc→Bool
 | .struct _ | .array _ _=>true
 | _=>false
theorem cLoad_spec {t:TypeId} {n:Option Nat} (h:cLoad P t=some n):∃ d i,P.underlying t=some d∧P.info? t=some i ∧
 ((n=some i.size∧aggD d=true)∨(n=none∧aggD d=false)):=by
 unfold cLoad at h
 cases hd:P.underlying t with
 | none=>simp[hd]at h
 | some d=>
  cases hi:P.info? t with
  | none=>cases d<;>simp[hd,hi]at h
  | some i=>
   refine⟨d,i,rfl,rfl,?_⟩
   cases d<;>simp[hd,hi]at h<;>first|exact .inl ⟨h.symm,rfl⟩|exact .inr ⟨h.symm,rfl⟩
theorem r_isAgg {t:TypeId} {d:TypeDesc} (h:P.underlying t=some d):(isAgg t).run P w=.ok (aggD d) w:=by
 simp only[isAgg,Sem.run_bind,r_und h,Result.andThen_ok]
 cases d<;>rfl
theorem ok_load {t:TypeId} {n:Option Nat} {xa y:AVal} {va:Value} (hr:Rel W Φ ρ m w) (hx:R Φ ρ xa va) (hc:cLoad P t=some n) (hl:loadA m n xa=some y) :
 ∃ u,(Instr.loadAt t va).run P w=.ok u w∧R Φ ρ y u:=by
 unfold loadA at hl
 cases hrow:rowAt m xa with
 | none=>simp[hrow]at hl
 | some rj=>
  obtain⟨row,j⟩:=rj
  simp only[hrow]at hl
  obtain⟨B,o,c,e,fz,rfl,hB,hcell⟩:=row_cells hr hx hrow
  obtain⟨d,i,hd,hi,hcase⟩:=cLoad_spec hc
  have hagg:=r_isAgg (w:=w) hd
  simp only[Instr.loadAt,Instr.sureAddr,Sem.run_bind,Sem.run_pure,Result.andThen_ok,loadVar,hagg]
  rcases hcase with⟨rfl,hd'⟩|⟨rfl,hd'⟩
  ·simp only at hl
   split at hl
   ·rename_i hle
    injection hl with hl
    subst hl
    rw[hd']
    simp only[if_true,Sem.run_bind,r_size hi,Result.andThen_ok]
    have hsz:o+i.size≤c.size:=by
     have hlt:j+(i.size - 1)<row.length:=by omega
     obtain⟨u,hu,_⟩:=hcell (i.size - 1) _ (List.getElem?_eq_getElem hlt)
     have:=(Array.getElem?_eq_some_iff.1 hu).1
     omega
    rw[run_loadCells hB hsz]
    refine⟨_,rfl,.agg _ _ (by simp; omega) fun q y v hy hv=>?_⟩
    have hq:q<i.size:=by
     have:=(List.getElem?_eq_some_iff.1 hy).1
     simp at this; omega
    rw[List.getElem?_take,if_pos hq,List.getElem?_drop]at hy
    obtain⟨u,hu,hru⟩:=hcell q y hy
    rw[Array.getElem?_extract]at hv
    split at hv
    ·rw[hu]at hv; injection hv with hv; subst hv; exact hru
    ·cases hv
   ·cases hl
  ·simp only at hl
   rw[hd']
   simp only[Bool.false_eq_true,if_false]
   obtain⟨u,hu,hru⟩:=hcell 0 y (by simpa using hl)
   have hcl:w.cell? ⟨B,o,none⟩=some u:=by
    simp only[World.cell?,hB,Option.isSome_none,Bool.false_eq_true,if_false]
    simpa using hu
   rw[run_load,hcl]
   exact⟨u,rfl,hru⟩
theorem setRow_length (cs:List AVal):∀ (row:List AVal) (j:Nat),(setRow row j cs).length=row.length:=by
 induction cs with
 | nil=>intro row j; rfl
 | cons v r ih=>intro row j; simp[setRow,ih]
theorem setRow_get (cs:List AVal):∀ (row:List AVal) (j q:Nat),(setRow row j cs)[q]? = if j≤q∧q<j+cs.length∧q<row.length then cs[q - j]? else row[q]?:=by
 induction cs with
 | nil=>intro row j q; simp[setRow]; intro h1 h2; omega
 | cons v r ih=>
  intro row j q
  simp only[setRow,ih,List.length_set,List.length_cons,List.getElem?_set]
  by_cases h1:j+1≤q∧q<j+1+r.length∧q<row.length
  ·rw[if_pos h1,if_pos (by omega)]
   have:q - j=(q - (j+1))+1:=by omega
   rw[this,List.getElem?_cons_succ]
  ·rw[if_neg h1]
   by_cases h2:j=q
   ·subst h2
    by_cases h3:j<row.length
    ·simp[h3]
    ·simp[h3]
   ·rw[if_neg h2,if_neg (by omega)]
theorem mul_apart {a b k j n q:Nat} (hne:a≠b) (hj:j+n≤k) (hq:q<k):¬(a*k+j≤b*k+q∧b*k+q<a*k+j+n):=by
 rcases Nat.lt_or_gt_of_ne hne with h|h
 ·have:(a+1)*k≤b*k:=Nat.mul_le_mul_right k h
  rw[Nat.add_mul]at this
  omega
 ·have:(b+1)*k≤a*k:=Nat.mul_le_mul_right k h
  rw[Nat.add_mul]at this
  omega
theorem mul_lt {a n k q:Nat} (h:a<n) (hq:q<k):a*k+q<n*k:=by
 have:(a+1)*k≤n*k:=Nat.mul_le_mul_right k h
 rw[Nat.add_mul]at this
 omega
theorem rowsIn_set {els:List (List AVal)} {sh k n i j:Nat} {c:Array Value} {row cs:List AVal} {vs:Array Value} (hrow:RowsIn Φ ρ els sh k c) (hn:c.size=n*k) (hl:sh+els.length≤n)
 (hi:els[i]? = some row) (hcs:RL Φ ρ cs vs) (h1:cs.all AVal.one=true) (hj:j+cs.length≤row.length):RowsIn Φ ρ (els.set i (setRow row j cs)) sh k (setFrom c ((sh+i)*k+j) vs.toList):=by
 have hk:=hrow.1 i row hi
 have hil:i<els.length:=(List.getElem?_eq_some_iff.1 hi).1
 refine⟨fun i' row' h'=>?_,fun i' row' q x h' hq=>?_⟩
 ·rw[List.getElem?_set]at h'
  by_cases hii:i=i'
  ·rw[if_pos hii,if_pos hil]at h'
   injection h' with h'; subst h'; rw[setRow_length,hk]
  ·rw[if_neg hii]at h'
   exact hrow.1 i' row' h'
 ·rw[List.getElem?_set]at h'
  rw[setFrom_get]
  simp only[Array.length_toList,hcs.1]
  by_cases hii:i=i'
  ·subst hii
   rw[if_pos rfl,if_pos hil]at h'
   injection h' with h'
   subst h'
   rw[setRow_get]at hq
   by_cases hin:j≤q∧q<j+cs.length∧q<row.length
   ·rw[if_pos hin]at hq
    have hlt:=mul_lt (a:=sh+i) (n:=n) (k:=k) (q:=q) (by omega) (by omega)
    rw[if_pos ⟨by omega,by omega,by omega⟩]
    have e1:(sh+i)*k+q - ((sh+i)*k+j)=q - j:=by omega
    rw[e1]
    have hlt2:q - j<vs.size:=by rw[hcs.1]; omega
    have hrr:=hcs.2 (q - j) x _ hq (Array.getElem?_eq_getElem hlt2)
    refine⟨vs[q - j],by simp[hlt2],one_R hrr (List.all_eq_true.1 h1 x (List.mem_of_getElem? hq)),hrr⟩
   ·rw[if_neg hin]at hq
    have hqr:q<row.length:=(List.getElem?_eq_some_iff.1 hq).1
    rw[if_neg (by omega)]
    exact hrow.2 i row q x hi hq
  ·rw[if_neg hii]at h'
   have hqk:q<k:=by
    have h1:=hrow.1 i' row' h'
    have h2:=(List.getElem?_eq_some_iff.1 hq).1
    omega
   have hap:=mul_apart (a:=sh+i) (b:=sh+i') (k:=k) (j:=j) (n:=cs.length) (q:=q) (by omega) (by omega) hqk
   rw[if_neg (fun h=>hap ⟨h.1,h.2.1⟩)]
   exact hrow.2 i' row' q x h' hq
theorem r_storeVar {t:TypeId} {i:TypeInfo} {B o:Nat} {c:Array Value} {e:TypeId} (hi:P.info? t=some i) (hB:w.heap[B]? = some (.cells c e (0,0))) (hs:v.cells.size=i.size)
 (h1:∀ u,u∈v.cells.toList→u.oneCell'=true) (hl:o+i.size≤c.size) :
 (Instr.storeAt t (.pointer (some ⟨B,o,none⟩)) v).run P w=.ok () (putBlk w B (.cells (setFrom c o v.cells.toList) e (0,0))):=by
 simp only[Instr.storeAt,Instr.sureAddr,Sem.run_bind,Sem.run_pure,Result.andThen_ok,storeVar,r_size hi]
 rw[if_neg (by simp[hs])]
 have:=run_storeCells (P:=P) (B:=B) (o:=o) (e:=e) v.cells.toList 0 w c h1 hB (by simp[hs]; omega)
 simpa using this
theorem ok_store {t:TypeId} {n:Nat} {xa xv:AVal} {va vv:Value} {m':Mem} (hr:Rel W Φ ρ m w) (hx:R Φ ρ xa va) (hv:R Φ ρ xv vv) (hc:cSize P t=some n) (hst:storeA m n xa xv=some m')
 (he:s.run P w=match (Instr.storeAt t va vv).run P w with | .ok _ w'=>.ok .skip w' | .halt h w'=>.halt h w'):Done P s W Φ ρ id w aundef m':=by
 unfold storeA at hst
 cases xa with
 | ptr b i j=>
  cases hcs:xv.cells with
  | none=>simp[hcs]at hst
  | some cs=>
   simp only[hcs]at hst
   cases hg:m.get b with
   | none=>simp[hg]at hst
   | some blk=>
    cases blk with
    | cells k els=>
     simp only[hg]at hst
     cases hrow:els[i]? with
     | none=>simp[hrow]at hst
     | some row=>
      simp only[hrow]at hst
      split at hst
      ·rename_i hcond
       obtain⟨hc1,hc2,hc3⟩:=hcond
       injection hst with hst
       subst hst
       cases hx with
       | ptr _ _ _ l hl=>
        obtain⟨l',o,g1,g2,g3,g4,g5⟩:=hr.live b _ hg
        rw[hl]at g1; injection g1 with g1; subst g1
        cases g5 with
        | cells _ _ _ c e hk hn hlen hrows h1c=>
         subst hk
         have hcells:=hv.cells_R hcs
         unfold cSize at hc
         cases hi:P.info? t with
         | none=>simp[hi]at hc
         | some inf=>
          simp only[hi,Option.map_some,Option.some.injEq]at hc
          have hk2:=hrows.1 i row hrow
          have hil:i<els.length:=(List.getElem?_eq_some_iff.1 hrow).1
          have hbound:(l.sh+i)*l.k+j+inf.size≤c.size:=by
           have:(l.sh+i+1)*l.k≤l.n*l.k:=Nat.mul_le_mul_right _ (by omega)
           rw[Nat.add_mul]at this
           omega
          have hone:∀ u,u∈vv.cells.toList→u.oneCell'=true:=by
           intro u hu
           obtain⟨q,hq,rfl⟩:=List.getElem_of_mem hu
           simp only[Array.length_toList]at hq
           have hq':q<cs.length:=by rw[← hcells.1]; exact hq
           have h1:=hcells.2 q _ _ (List.getElem?_eq_getElem hq') (Array.getElem?_eq_getElem hq)
           have h2:(cs[q]).one=true:=List.all_eq_true.1 hc3 _ (List.getElem_mem hq')
           simpa using one_R h1 h2
          have hrun:=r_storeVar (P:=P) (v:=vv) hi g4 (by rw[hcells.1,hc1,hc]) hone hbound
          rw[hrun]at he
          exact Done.upd he hr hg hl (.cells _ _ _ _ _ rfl (by rw[setFrom_size,hn]) (by simpa using hlen) (rowsIn_set hrows hn hlen hrow hcells hc3 (by omega)) (setFrom_one _ _ _ h1c hone))
      ·cases hst
    | map es clock=>simp[hg]at hst
    | siter s pos=>simp[hg]at hst
    | miter a b c d=>simp[hg]at hst
 | _=>simp at hst
end
end Go.AE
