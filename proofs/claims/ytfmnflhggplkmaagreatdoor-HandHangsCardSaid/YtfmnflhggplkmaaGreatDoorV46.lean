/- Part 46 of the proof: Tf, Tm, To, AeSo, Kr2, Km3. -/
import Derived.Test.YtfmnflhggplkmaaGreatDoorV40
import Derived.Test.YtfmnflhggplkmaaGreatDoorV42
import Derived.Test.YtfmnflhggplkmaaGreatDoorV44
import Derived.Test.YtfmnflhggplkmaaGreatDoorV45
import Derived.Shelf.SlSortCmp.NoneTotal
set_option linter.all false
section
namespace Go.Known
open Go Go.AE Go.Proofs
open Go.Plain
theorem gates_of {f:Int} {ls:List Lt} (he:errC f ls=0):∀ l,l∈ls→l.k=1→0≤l.g∧l.g≤40:=by
 intro l hm hk
 have h0:ls≠[]:=fun e=>by subst e; simp at hm
 have hv:=valR_of he h0
 have h1:=(hv.key hm (by simp[isP,hk])).2
 have:=hv.hi
 exact⟨by omega,by omega⟩
open Classical in
noncomputable def handE (fs:List Fg) (re lo f:Int) (ls:List Lt):Int:=
 if frB fs re lo=false then 2 else if errC f ls≠0 then errC f ls else if f=fs.length∧posB ls=true then 0 else 2
set_option maxRecDepth 100000 in
set_option maxHeartbeats 8000000 in
theorem c83 (fs:List Fg) (re lo f:Int) (ls:List Lt) (hf:fs.length≤1000) (h:ls.length≤1000):PCall Tryz.prog 23 [frV fs re lo,cV f ls] (.bool (decide (handE fs re lo f ls=0))):=by
 refine PCall_1 hm Tryz.func23 cf83 rfl rfl (by simp[closedL,AVal.closed,closed_rowG,closed_rows,frV]) trivial fun K hK=>?_
 have hrr:∀ q,renLL q (fs.map rowG)=fs.map rowG:=fun q=>renLL_closed q _ (closed_rowG fs)
 have hlen:(fs.map rowG).length=fs.length:=List.length_map ..
 have h82:=c82 fs re lo hf
 have h30:=c30 f ls h
 have h120:=fun he=>c120 f ls h (gates_of (f:=f) he)
 unfold frV cV at *
 generalize ls.map rowL=rows at *
 generalize fs.map rowG=rowsG at *
 unfold handE at hK
 cases hB:frB fs re lo with
 | false=>
  rw[hB]at h82
  rw[if_pos hB]at hK
  simp[]
  refine SC_pure h82 ?_
  simp
  exact endK hK [] (by simp)
 | true=>
  rw[hB]at h82
  rw[if_neg (by simp[hB])]at hK
  simp[]
  refine SC_pure h82 ?_
  simp
  refine SC_pure h30 ?_
  by_cases he:errC f ls=0
  ·rw[if_neg (by simp[he])]at hK
   have h120':=h120 he
   simp only[he]
   by_cases hl:f=fs.length
   ·subst hl
    simp[hlen]
    refine SC_pure h120' ?_
    cases hP:posB ls with
    | true=>
     rw[if_pos ⟨rfl,hP⟩]at hK
     simp
     exact endK hK [] (by simp)
    | false=>
     rw[if_neg (fun hh=>by simp[hP]at hh)]at hK
     simp
     exact endK hK [] (by simp)
   ·rw[if_neg (fun hh=>hl hh.1)]at hK
    simp[hl,hlen]
    exact endK hK [] (by simp)
  ·rw[if_pos he]at hK
   rw[decide_eq_false he]at hK
   simp[he]
   exact endK hK [] (by simp)
set_option maxRecDepth 100000 in
set_option maxHeartbeats 8000000 in
theorem c153 (fs:List Fg) (re lo f:Int) (ls:List Lt) (hf:fs.length≤1000) (h:ls.length≤1000):PCall Tryz.prog 37 [frV fs re lo,cV f ls] (.int .i64 (handE fs re lo f ls)):=by
 refine PCall_1 hm Tryz.func37 cf153 rfl rfl (by simp[closedL,AVal.closed,closed_rowG,closed_rows,frV]) trivial fun K hK=>?_
 have hlen:(fs.map rowG).length=fs.length:=List.length_map ..
 have h82:=c82 fs re lo hf
 have h30:=c30 f ls h
 have h120:=fun he=>c120 f ls h (gates_of (f:=f) he)
 unfold frV cV at *
 generalize ls.map rowL=rows at *
 generalize fs.map rowG=rowsG at *
 unfold handE at hK
 cases hB:frB fs re lo with
 | false=>
  rw[hB]at h82
  rw[if_pos hB]at hK
  simp[]
  refine SC_pure h82 ?_
  simp
  exact endK hK [] (by simp)
 | true=>
  rw[hB]at h82
  rw[if_neg (by simp[hB])]at hK
  simp[]
  refine SC_pure h82 ?_
  simp
  refine SC_pure h30 ?_
  by_cases he:errC f ls=0
  ·rw[if_neg (by simp[he])]at hK
   have h120':=h120 he
   simp[he,hlen]
   by_cases hl:f=fs.length
   ·subst hl
    simp[]
    refine SC_pure h120' ?_
    cases hP:posB ls with
    | true=>
     rw[if_pos ⟨rfl,hP⟩]at hK
     simp
     exact endK hK [] (by simp)
    | false=>
     rw[if_neg (fun hh=>by simp[hP]at hh)]at hK
     simp
     exact endK hK [] (by simp)
   ·rw[if_neg (fun hh=>hl hh.1)]at hK
    simp[hl]
    exact endK hK [] (by simp)
  ·rw[if_pos he]at hK
   simp[he]
   exact endK hK [] (by simp)
end Go.Known
end
section
namespace Go.Known
open Go Go.AE Go.Proofs
open Go.Plain
@[simp] theorem sd_clear (id : Nat) (f : AOpd → AVal) (get : Nat → Option ABlk) (k : Nat) (zero : List AVal) (x : AOpd) : stepD id f get (.clear k zero x) = match f x with
 | .sl b off len=>match get b with
  | some (.cells k' els)=>if k'=k∧off+len≤els.length then
   some (aundef,[(b,some (.cells k (els.take off++List.replicate len zero++els.drop (off+len))))])
   else none
  | _=>none
 | .nilSl=>some (aundef,[])
 | .emp=>some (aundef,[])
 | _=>none:=rfl
@[simp] theorem sd_minmax2 (id : Nat) (f : AOpd → AVal) (get : Nat → Option ABlk) (mx : Bool) (x y : AOpd) : stepD id f get (.minmax mx [x, y]) = match minmaxA mx (f x) [f y] with
  | some v=>some (v,[])
  | none=>none:=rfl
@[simp] theorem mm_int (mx : Bool) (k k' : IntKind) (a b : Int) : minmaxA mx (.int k a) [.int k' b] = some (.int k (if mx then (if b > a then b else a) else (if b < a then b else a))) := rfl
end Go.Known
end
section
namespace Go.Known
open Go Go.AE Go.Proofs
open Go.Plain
def mxg (ls:List Lt) (i:Nat):Int:=if (at' ls i).g<(nxL ls i).g then (nxL ls i).g else (at' ls i).g
def isLp (ls:List Lt) (f:Int) (i:Nat):Bool:=decide ((at' ls i).k=1)&&down ls i&&decide (mxg ls i=f)
def lpA (ls:List Lt) (f:Int) (i:Nat):Nat×Nat:=if (at' ls i).g=f then ((i+1) % ls.length,i)else (i,(i+1) % ls.length)
def lpL (ls:List Lt) (f:Int) (n:Nat):List (Nat×Nat):=((List.range n).filter (isLp ls f)).map (lpA ls f)
def lrow (p:Nat×Nat):List AVal:=[.int .i64 p.1,.int .i64 p.2]
def cnL (ls:List Lt) (f:Int):Nat:=(lpL ls f ls.length).length
def cnLs (ls:List Lt) (F:Nat):List Nat:=(List.range F).map fun i:Nat=>cnL ls ((i:Int)+1)
section
variable {ls:List Lt} {f:Int} {n:Nat}
theorem lpL_zero:lpL ls f 0=[]:=rfl
theorem lpL_succ:lpL ls f (n+1)=if isLp ls f n=true then lpL ls f n++[lpA ls f n]else lpL ls f n:=by
 unfold lpL
 rw[List.range_succ,List.filter_append,List.map_append]
 by_cases h:isLp ls f n=true
 ·simp[h]
 ·simp[h]
theorem lpL_mem {p:Nat×Nat} (h:p∈lpL ls f n):∃ i,i<n∧isLp ls f i=true∧p=lpA ls f i:=by
 obtain⟨i,hi,rfl⟩:=List.mem_map.1 h
 rw[List.mem_filter,List.mem_range]at hi
 exact⟨i,hi.1,hi.2,rfl⟩
theorem lpL_le:(lpL ls f n).length≤n:=by
 have:=List.length_filter_le (isLp ls f) (List.range n)
 simpa[lpL]using this
theorem cnL_le:cnL ls f≤ls.length:=lpL_le
theorem lp_pass (hP:PosP ls) {p:Nat×Nat} (h:p∈lpL ls f ls.length):(p.1<ls.length∧(at' ls p.1).k=1)∧p.2<ls.length∧(at' ls p.2).k=1:=by
 obtain⟨i,hi,h1,rfl⟩:=lpL_mem h
 unfold isLp at h1
 simp only[Bool.and_eq_true,decide_eq_true_eq]at h1
 obtain⟨⟨h1,h2⟩,_⟩:=h1
 have h3:=(hP i hi h1 h2).1
 have h4:(i+1) % ls.length<ls.length:=Nat.mod_lt _ (by omega)
 unfold lpA
 split
 ·exact⟨⟨h4,h3⟩,hi,h1⟩
 ·exact⟨⟨hi,h1⟩,h4,h3⟩
theorem closed_lrow:∀ (ps:List (Nat×Nat)),closedLL (ps.map lrow)=true
 | []=>rfl
 | p :: r=>by
  have:=closed_lrow r
  simp only[List.map_cons,closedLL,lrow,closedL,AVal.closed,Bool.and_true,Bool.true_and]at this ⊢
  exact this
theorem cnLs_succ (F:Nat):cnLs ls (F+1)=cnLs ls F++[cnL ls ((F:Int)+1)]:=by simp[cnLs,List.range_succ]
theorem cnLs_length (F:Nat):(cnLs ls F).length=F:=by simp[cnLs]
end
end Go.Known
end
section
namespace Go.AE
open Go.RowKit Go.Sort Go.Shelf Go.Proofs
structure RowEnc {α:Type} (enc:α→List Value) (encA:α→List AVal) (k:Nat):Prop where
 pos:0<k
 len:∀ x,(enc x).length=k
 lenA:∀ x,(encA x).length=k
 one:∀ x,∀ v∈enc x,v.oneCell'=true
 rel:∀ (Φ:Pers) (ρ:Rho) (x:α) (j:Nat) (y:AVal) (v:Value),(encA x)[j]? = some y→(enc x)[j]? = some v→R Φ ρ y v
 det:∀ (Φ:Pers) (ρ:Rho) (x:α) (j:Nat) (y:AVal) (v v':Value),(encA x)[j]? = some y→(enc x)[j]? = some v→R Φ ρ y v'→v'=v
theorem rel_ahead {W:Base} {Φ:Pers} {ρ:Rho} {m:Mem} {w:World} (h:Rel W Φ ρ m w) (n:Nat):Rel W Φ ρ m (Sort.ahead w n):=
 h.below ⟨rfl,rfl,rfl,Nat.le_refl _,fun _ _=>rfl⟩
theorem rel_grow {W:Base} {Φ:Pers} {ρ:Rho} {m:Mem} {w:World} (h:Rel W Φ ρ m w) (os:Array Obj):Rel W Φ ρ m (Sort.grow w os):=
 h.below ⟨rfl,rfl,rfl,by simp,fun k hk=>by
  show(w.heap++os)[k]? = w.heap[k]?
  rw[Array.getElem?_append,if_pos hk]⟩
theorem mapBlock_put {w:World} {B:Nat} {f:Array Value→Array Value} {c:Array Value} {e:TypeId} {fr:Nat×Nat} (h:w.heap[B]? = some (.cells c e fr)):mapBlock w B f=putBlk w B (.cells (f c) e fr):=by
 unfold mapBlock putBlk
 congr 1
 apply Array.ext_getElem?
 intro i
 simp only[Array.getElem?_modify,Array.getElem?_setIfInBounds]
 by_cases hi:B=i
 ·subst hi
  simp only[if_true,h,Option.map_some,onCells]
  rw[if_pos (heap_lt h)]
 ·simp[hi]
section
variable {α:Type} [Inhabited α] {enc:α→List Value} {encA:α→List AVal} {k:Nat}
theorem flat_get (E:RowEnc enc encA k) (dk:Array α) (i j:Nat) (hi:i<dk.size) (hj:j<k):(flatK enc k dk)[i*k+j]! = (enc dk[i]!)[j]!:=by
 have lt:i*k+j<dk.size*k:=by
  have:=Nat.mul_le_mul_right k (show i+1≤dk.size from hi); rw[Nat.add_mul,Nat.one_mul]at this; omega
 have e1:(i*k+j) / k=i:=(blk_iff k i _ E.pos).1 ⟨by omega,by omega⟩
 have e2:(i*k+j) % k=j:=by rw[Nat.mod_eq_sub_div_mul,e1]; omega
 rw[get_flatK _ _ _ _ lt,e1,e2]
theorem rel_sort (E:RowEnc enc encA k) {W:Base} {Φ:Pers} {ρ:Rho} {m:Mem} {w:World} (h:Rel W Φ ρ m w) {b off:Nat} {els:List (List AVal)} {l:Loc} (hg:m.get b=some (.cells k els)) (hl:ρ b=some l) (dk:Array α) (hd:off+dk.size≤els.length) (n:Nat) (os:Array Obj) :
 Rel W Φ ρ (m.set b (.cells k (els.take off++dk.toList.map encA++els.drop (off+dk.size)))) (sortWorldK enc k w l.blk ((l.sh+off)*k) n dk os):=by
 unfold sortWorldK
 refine rel_grow ?_ os
 obtain⟨l',o,g1,g2,g3,g4,g5⟩:=h.live b _ hg
 rw[hl]at g1; injection g1 with g1; subst g1
 cases g5 with
 | cells _ _ _ c e hk hn hle hrows h1=>
  have g4':(Sort.ahead w n).heap[l.blk]? = some (.cells c e (0,0)):=g4
  unfold putRowK putRow
  rw[mapBlock_put g4']
  refine rel_put (rel_ahead h n) hg hl ?_
  have hsz:(putCells id ((l.sh+off)*k) (flatK enc k dk) c).size=c.size:=by simp[putCells]
  have hin:∀ t,t<c.size→(putCells id ((l.sh+off)*k) (flatK enc k dk) c)[t]? = some (if (l.sh+off)*k≤t∧t<(l.sh+off)*k+dk.size*k then (flatK enc k dk)[t - (l.sh+off)*k]! else c[t]!):=by
   intro t ht
   simp only[putCells,Array.getElem?_mapIdx,size_flatK,id]
   rw[Array.getElem?_eq_getElem ht]
   simp[ht]
  refine .cells k _ l _ e hk (by rw[hsz]; exact hn) ?_ ⟨fun i row hi=>?_,fun i row j y hi hj=>?_⟩ fun v hv=>?_
  ·simp
   omega
  ·rw[List.append_assoc,List.getElem?_append]at hi
   split at hi
   ·exact hrows.1 i row (by rw[List.getElem?_take]at hi; split at hi; exact hi; cases hi)
   ·rw[List.getElem?_append]at hi
    split at hi
    ·rw[List.getElem?_map]at hi
     cases hx:dk.toList[i - (els.take off).length]? with
     | none=>rw[hx]at hi; cases hi
     | some x=>rw[hx]at hi; injection hi with hi; rw[← hi]; exact E.lenA x
    ·rw[List.getElem?_drop]at hi
     exact hrows.1 _ row hi
  ·have htl:(els.take off).length=off:=by simp; omega
   have hml:(dk.toList.map encA).length=dk.size:=by simp
   have keep:els[i]? = some row→(i<off∨off+dk.size≤i) → ∃ v,(putCells id ((l.sh+off)*k) (flatK enc k dk) c)[(l.sh+i)*k+j]? = some v∧v.oneCell'=true∧R Φ ρ y v:=by
    intro hi' hout
    obtain⟨v,k1,k2,k3⟩:=hrows.2 i row j y hi' hj
    have hjk:j<k:=by rw[← hrows.1 i row hi']; exact(List.getElem?_eq_some_iff.1 hj).1
    have hlt:(l.sh+i)*k+j<c.size:=(Array.getElem?_eq_some_iff.1 k1).1
    refine⟨v,?_,k2,k3⟩
    rw[hin _ hlt,if_neg,← k1,Array.getElem?_eq_getElem hlt,getElem!_pos c _ hlt]
    rintro⟨q1,q2⟩
    rcases hout with ho|ho
    ·have:=Nat.mul_le_mul_right k (show l.sh+i+1≤l.sh+off by omega)
     rw[Nat.add_mul,Nat.one_mul]at this
     omega
    ·have:=Nat.mul_le_mul_right k (show l.sh+off+dk.size≤l.sh+i by omega)
     rw[Nat.add_mul]at this
     omega
   rw[List.append_assoc,List.getElem?_append]at hi
   split at hi
   ·rename_i hlt
    rw[htl]at hlt
    exact keep (by rw[List.getElem?_take,if_pos hlt]at hi; exact hi) (.inl hlt)
   ·rename_i hge
    rw[htl]at hge hi
    rw[List.getElem?_append]at hi
    split at hi
    ·rename_i hlt
     rw[hml]at hlt
     rw[List.getElem?_map]at hi
     have hx:dk.toList[i - off]? = some dk[i - off]!:=by
      rw[List.getElem?_eq_getElem (by simpa using hlt),getElem!_pos dk _ hlt]; simp
     rw[hx]at hi
     injection hi with hi
     subst hi
     have hjk:j<k:=by rw[← E.lenA dk[i - off]!]; exact(List.getElem?_eq_some_iff.1 hj).1
     have hb:(l.sh+i)*k+j<c.size:=by
      rw[hn]
      have:=Nat.mul_le_mul_right k (show l.sh+i+1≤l.n by omega)
      rw[Nat.add_mul,Nat.one_mul]at this
      omega
     have e0:(l.sh+i)*k=(l.sh+off)*k+(i - off)*k:=by rw[← Nat.add_mul]; congr 1; omega
     have hik:(i - off)*k+k≤dk.size*k:=by
      have:=Nat.mul_le_mul_right k (show (i - off)+1≤dk.size by omega); rwa[Nat.add_mul,Nat.one_mul]at this
     have hen:(enc dk[i - off]!)[j]? = some (enc dk[i - off]!)[j]!:=by
      have:j<(enc dk[i - off]!).length:=by rw[E.len]; exact hjk
      rw[List.getElem?_eq_getElem this,getElem!_pos _ j this]
     refine⟨(enc dk[i - off]!)[j]!,?_,?_,E.rel Φ ρ _ j y _ hj hen⟩
     ·rw[hin _ hb,if_pos ⟨by omega,by omega⟩]
      congr 1
      rw[show (l.sh+i)*k+j - (l.sh+off)*k=(i - off)*k+j by omega]
      exact flat_get E dk (i - off) j hlt hjk
     ·exact E.one _ _ (List.mem_of_getElem? hen)
    ·rename_i hge2
     rw[hml]at hge2 hi
     rw[List.getElem?_drop]at hi
     have e9:off+dk.size+(i - off - dk.size)=i:=by omega
     rw[e9]at hi
     exact keep hi (.inr (by omega))
  ·obtain⟨t,ht,rfl⟩:=List.getElem_of_mem hv
   have ht':t<c.size:=by simpa[putCells]using ht
   have:=hin t ht'
   rw[Array.getElem?_eq_getElem (by rw[hsz]; exact ht')]at this
   injection this with this
   rw[Array.getElem_toList,this]
   split
   ·rename_i hc
    have hlt:t - (l.sh+off)*k<dk.size*k:=by omega
    rw[get_flatK _ _ _ _ hlt]
    have hm:(t - (l.sh+off)*k) % k<(enc dk[(t - (l.sh+off)*k) / k]!).length:=by rw[E.len]; exact Nat.mod_lt _ E.pos
    have hm2:(enc dk[(t - (l.sh+off)*k) / k]!)[(t - (l.sh+off)*k) % k]! = (enc dk[(t - (l.sh+off)*k) / k]!)[(t - (l.sh+off)*k) % k]:=getElem!_pos (enc dk[(t - (l.sh+off)*k) / k]!) _ hm
    rw[hm2]
    exact E.one _ _ (List.getElem_mem hm)
   ·rw[getElem!_pos c t ht']
    exact h1 _ (Array.getElem_mem_toList ht')
theorem holds_rel (E:RowEnc enc encA k) {W:Base} {Φ:Pers} {ρ:Rho} {m:Mem} {w:World} (h:Rel W Φ ρ m w) {b off:Nat} {els:List (List AVal)} {l:Loc} (hg:m.get b=some (.cells k els)) (hl:ρ b=some l) (d:Array α)
 (hd:∀ i,i<d.size→els[off+i]? = some (encA d[i]!)):HoldsK enc k w l.blk ((l.sh+off)*k) d∧l.blk<w.heap.size:=by
 obtain⟨l',o,g1,g2,g3,g4,g5⟩:=h.live b _ hg
 rw[hl]at g1; injection g1 with g1; subst g1
 refine⟨?_,heap_lt g4⟩
 cases g5 with
 | cells _ _ _ c e hk hn hle hrows h1=>
  intro t ht
  rw[size_flatK]at ht
  have hq:t / k<d.size:=Nat.div_lt_of_lt_mul (by rw[Nat.mul_comm]; exact ht)
  have hr:t % k<k:=Nat.mod_lt _ E.pos
  have hA:t % k<(encA d[t / k]!).length:=by rw[E.lenA]; exact hr
  have hV:t % k<(enc d[t / k]!).length:=by rw[E.len]; exact hr
  obtain⟨v,k1,k2,k3⟩:=hrows.2 (off+t / k) _ (t % k) _ (hd _ hq) (List.getElem?_eq_getElem hA)
  have hv:=E.det Φ ρ d[t / k]! (t % k) _ _ v (List.getElem?_eq_getElem hA) (List.getElem?_eq_getElem hV) k3
  have hpos:(l.sh+off)*k+t=(l.sh+(off+t / k))*k+t % k:=by
   have:=Nat.div_add_mod t k
   rw[Nat.mul_comm]at this
   rw[← Nat.add_assoc,Nat.add_mul (l.sh+off)]
   omega
  refine⟨?_,?_⟩
  ·simp only[World.cell?,g4,Option.isSome_none,Bool.false_eq_true,if_false,id]
   have hV2:(enc d[t / k]!)[t % k]! = (enc d[t / k]!)[t % k]:=getElem!_pos (enc d[t / k]!) _ hV
   rw[hpos,k1,hv,get_flatK _ _ _ _ ht,hV2]
  ·simp[World.frozen?,g4]
variable {P:Program} {rn:Ren}
theorem sort_calls (L:SlLaysF0.n6 P rn) (hb:HasBody P (rn.f 6)) (aE:∀ w,(isAgg (rn.t 24)).run P w=.ok true w) (zE:∀ w,(Go.sizeOf (rn.t 24)).run P w=.ok k w) (E:RowEnc enc encA k) (cf:α→α→Int) (hO:SWO (Go.Proofs.ltOf cf)) (g:Nat)
 (eg:∀ args w,(callFunc g args).run P w=.ok (.enter g args) w) {m:Mem} {b off:Nat} {els:List (List AVal)} {cb:List AVal} (hg:m.get b=some (.cells k els)) (d:List α) (hd0:d≠[]) (hd:(els.drop off).take d.length=d.map encA) (hsz:d.length≤1000000)
 (hc:∀ (W:Base) (Φ:Pers) (ρ:Rho) (vc:Array Value) (x:ABlk) (w:World),Rel W Φ ρ (m.set b x) w→RL Φ ρ cb vc → ∀ x y:α,
   Calls P g (#[.agg (enc x).toArray,.agg (enc y).toArray]++vc) w fun e w'=>e=.returned (.int .i64 (cf x y)) ∧ ∃ q os,w'=Sort.grow (w.drewN q) os) :
 ACalls P (rn.f 6) [.sl b off d.length,.func (.func g) [] cb] m [] fun r m'=>r=aundef ∧ ∃ d':List α,d'.Perm d∧(∀ i j,i<j→j<d'.length→Go.Proofs.ltOf cf d'[j]! d'[i]! = false) ∧
  m'=m.set b (.cells k (els.take off++d'.map encA++els.drop (off+d.length))):=by
 refine⟨hb,fun W Φ ρ vs w hr ha hav=>?_⟩
 obtain⟨v1,v2,rfl⟩:∃ v1 v2,vs = #[v1,v2]:=by
  have hs:vs.size=2:=by simpa using ha.1
  refine⟨vs[0],vs[1],?_⟩
  apply Array.ext
  ·simp[hs]
  ·intro i h1 h2
   have:i=0∨i=1:=by omega
   rcases this with rfl|rfl<;>rfl
 have r1:=ha.2 0 _ v1 rfl rfl
 have r2:=ha.2 1 _ v2 rfl rfl
 have hdl:0<d.length:=List.length_pos_iff.2 hd0
 have hin:∀ i,i<d.toArray.size→els[off+i]? = some (encA d.toArray[i]!):=by
  intro i hi
  have hi':i<d.length:=by simpa using hi
  have h1:((els.drop off).take d.length)[i]? = (d.map encA)[i]?:=by rw[hd]
  rw[List.getElem?_take,if_pos hi',List.getElem?_drop,List.getElem?_map,List.getElem?_eq_getElem hi']at h1
  rw[h1]
  simp[hi']
 have hle:off+d.length≤els.length:=by
  have:=hin (d.length - 1) (by simp; omega)
  have:=(List.getElem?_eq_some_iff.1 this).1
  omega
 cases r1 with
 | sl _ _ _ a cap l hl hlc hn2 hcap hav1=>
  have ea:=hcap (by omega)
  subst ea
  cases r2 with
  | func _ _ _ vf vc hf hvc hfr hcr=>
   have hvf:vf = #[]:=Array.size_eq_zero_iff.1 (by simpa using hf)
   subst hvf
   have hlk:l.k=k:=by
    obtain⟨l',o,g1,g2,g3,g4,g5⟩:=hr.live b _ hg
    rw[hl]at g1; injection g1 with g1; subst g1
    cases g5 with
    | cells _ _ _ c e hk hn hle hrows h1=>exact hk
   obtain⟨hH,hblk⟩:=holds_rel E hr hg hl d.toArray hin
   have hS:∀ (dk:Array α),dk.size=d.length → ∀ n os,Rel W Φ ρ (m.set b (.cells k (els.take off++dk.toList.map encA++els.drop (off+d.length)))) (sortWorldK enc k w l.blk ((l.sh+off)*k) n dk os):=by
    intro dk hdk n os
    have:=rel_sort E hr hg hl dk (off:=off) (by rw[hdk]; exact hle) n os
    rw[hdk]at this
    exact this
   have hcall:=Go.Proofs.AnyQ.slices_SortFunc L k aE zE enc E.len E.one cf hO g vc l.blk ((l.sh+off)*k) cap d.toArray w eg
    (fun mm os dk hdk x y=>hc W Φ ρ vc _ _ (hS dk (by simpa using hdk) mm os) ⟨hvc,hcr⟩ x y) hH hblk (by simp; omega)
   rw[hlk]
   rw[show d.toArray.size=d.length by simp]at hcall
   refine hcall.mono ?_
   rintro e w' ⟨rfl,d',n,os,hp,hs,rfl⟩
   have hd's:d'.size=d.length:=by rw[hp.1]; simp
   refine⟨_,aundef,_,Φ,ρ,rfl,.refl _ _,fun _ _ _ h=>h,hS d' hd's n os,R_undef _ _,Nat.le_refl _,rfl,d'.toList,?_,?_,rfl⟩
   ·have:=hp.2.2
    have e1:d'.extract 0 d.length=d':=by rw[← hd's]; exact Array.extract_size
    have e2:d.toArray.extract 0 d.length=d.toArray:=by
     have:d.length=d.toArray.size:=by simp
     rw[this]; exact Array.extract_size
    rw[e1,e2]at this
    simpa using this
   ·intro i j hij hj
    have hj':j<d'.size:=by simpa using hj
    have:=hs i j (Nat.zero_le _) hij (by omega)
    rw[getElem!_pos d' j hj',getElem!_pos d' i (by omega)]at this
    rw[getElem!_pos _ j hj,getElem!_pos _ i (by omega)]
    simpa using this
theorem sort_nil (L:SlLaysF0.n6 P rn) (hb:HasBody P (rn.f 6)) {m:Mem} {f:AVal}:ACalls P (rn.f 6) [.nilSl,f] m [] fun r m'=>r=aundef∧m'=m:=by
 refine⟨hb,fun W Φ ρ vs w hr ha hav=>?_⟩
 obtain⟨v1,v2,rfl⟩:∃ v1 v2,vs = #[v1,v2]:=by
  have hs:vs.size=2:=by simpa using ha.1
  refine⟨vs[0],vs[1],?_⟩
  apply Array.ext
  ·simp[hs]
  ·intro i h1 h2
   have:i=0∨i=1:=by omega
   rcases this with rfl|rfl<;>rfl
 have r1:=ha.2 0 _ v1 rfl rfl
 cases r1
 refine(Go.Proofs.AnyF.slices_SortFunc_none L none 0 v2 w).mono ?_
 rintro e w' ⟨rfl,rfl⟩
 exact⟨_,aundef,m,Φ,ρ,rfl,.refl _ _,fun _ _ _ h=>h,hr,R_undef _ _,Nat.le_refl _,rfl,rfl⟩
end
end Go.AE
end
section
namespace Go.Known
open Go Go.AE Go.Proofs
theorem mo78:mm78.Ok Tryz.prog:=
 memo_two hm rtC_ok (runFN_ok hm tab_ok rtC_ok 100) (e:=mm78) (af:=aq49) Tryz.func49 cq49 (by kernel_rfl) (by kernel_rfl)
  (r1:=sqL (rtB Tryz.f49)) (r2:=sqL (rtS Tryz.f49)) (r3:=sqL (rtT Tryz.f49)) (r5:=sqL (sqR (rtU Tryz.f49))) (r6:=sqL (sqR (sqR (rtU Tryz.f49)))) (rM:=sqL (sqR (sqR (sqR (sqR (rtU Tryz.f49)))))) (rT:=sqR (sqR (sqR (sqR (sqR (rtU Tryz.f49)))))) (id:=rtI Tryz.f49) (ops:=rtO Tryz.f49) (lb:=0) (by kernel_rfl) (x:=4) (y:=8) (by decide) .data rt_perm
  (a1:=rt1) (a2:=rt2) (a3:=rt3) (a5:=rt5) (a6:=rt6) (aM:=rt7) (aT:=rt8) (oA:=rtA Tryz.prog Tryz.f49) (oB:=rtZ Tryz.prog Tryz.f49) (by kernel_rfl) (by kernel_rfl) (by kernel_rfl) (by kernel_rfl) (by kernel_rfl) (by kernel_rfl) (by kernel_rfl)
  (by kernel_rfl) (by kernel_rfl) (by kernel_rfl) (by kernel_rfl) (by kernel_rfl) (by kernel_rfl) (by kernel_rfl) (by kernel_rfl) (by kernel_rfl) (by kernel_rfl) (by kernel_rfl) (by kernel_rfl) 4 8 (by decide)
  (fun i hi=>match i,hi with
    | 0,_=>rtk0|1,_=>rtk1|2,_=>rtk2|3,_=>rtk3|4,_=>rtk4|5,_=>rtk5|6,_=>rtk6|7,_=>rtk7
    | k+8,h=>absurd h (by omega))
end Go.Known
end
section
namespace Go.Known
open Go Go.AE Go.Proofs
def mm18:Memo:=⟨30,[kv9,kv5,(.agg [(.int .i64 3),(.int .i64 3),(.int .i64 5),(.int .i64 0),(.bool false),(.int .i64 0),.nilSl,(.bool false)])],(.tuple [kv4,(.imm [[(.int .i64 2),(.int .i64 1),(.int .i64 3),(.int .i64 0),(.bool false),(.bool false),(.int .i64 0)],[(.int .i64 10),(.int .i64 2),(.int .i64 0),(.int .i64 0),(.bool false),(.bool false),(.int .i64 0)]]),(.int .i64 0)])⟩
theorem mo18:mm18.Ok Tryz.prog:=known_of (l:=[mm2,mm6,mm8,mm9,mm11,mm12,mm13,mm14,mm15,mm17]) ⟨mo2,mo6,mo8,mo9,mo11,mo12,mo13,mo14,mo15,mo17,trivial⟩ mm18 (by kernel_rfl)
def mm29:Memo:=⟨30,[kv9,kv11,(.agg [(.int .i64 4),(.int .i64 1),(.int .i64 0),(.int .i64 0),(.bool false),(.int .i64 0),.nilSl,(.bool true)])],(.tuple [kv8,(.imm [[(.int .i64 9),(.int .i64 0),(.int .i64 0),(.int .i64 0),(.bool false),(.bool false),(.int .i64 0)],[(.int .i64 5),(.int .i64 0),(.int .i64 0),(.int .i64 0),(.bool false),(.bool true),(.int .i64 1)],[(.int .i64 3),(.int .i64 0),(.int .i64 2),(.int .i64 0),(.bool false),(.bool false),(.int .i64 0)],[(.int .i64 10),(.int .i64 1),(.int .i64 0),(.int .i64 0),(.bool false),(.bool false),(.int .i64 0)]]),(.int .i64 0)])⟩
theorem mo29:mm29.Ok Tryz.prog:=known_of (l:=[mm2,mm19,mm20,mm22,mm24,mm26,mm28]) ⟨mo2,mo19,mo20,mo22,mo24,mo26,mo28,trivial⟩ mm29 (by kernel_rfl)
def mm34:Memo:=⟨30,[kv9,kv11,(.agg [(.int .i64 1),(.int .i64 10),(.int .i64 0),(.int .i64 0),(.bool false),(.int .i64 0),.nilSl,(.bool false)])],(.tuple [kv15,(.imm [[(.int .i64 9),(.int .i64 2),(.int .i64 0),(.int .i64 0),(.bool false),(.bool false),(.int .i64 0)],[(.int .i64 1),(.int .i64 2),(.int .i64 0),(.int .i64 0),(.bool false),(.bool false),(.int .i64 0)]]),(.int .i64 0)])⟩
theorem mo34:mm34.Ok Tryz.prog:=known_of (l:=[mm2,mm19,mm30,mm31,mm33]) ⟨mo2,mo19,mo30,mo31,mo33,trivial⟩ mm34 (by kernel_rfl)
def mm41:Memo:=⟨30,[kv9,kv15,(.agg [(.int .i64 1),(.int .i64 1),(.int .i64 0),(.int .i64 0),(.bool false),(.int .i64 0),.nilSl,(.bool false)])],(.tuple [(.agg [(.int .i64 10),.nilSl]),(.imm [[(.int .i64 9),(.int .i64 0),(.int .i64 0),(.int .i64 0),(.bool false),(.bool false),(.int .i64 0)],[(.int .i64 1),(.int .i64 0),(.int .i64 0),(.int .i64 0),(.bool false),(.bool false),(.int .i64 0)]]),(.int .i64 0)])⟩
theorem mo41:mm41.Ok Tryz.prog:=known_of (l:=[mm2,mm35,mm36,mm38,mm40]) ⟨mo2,mo35,mo36,mo38,mo40,trivial⟩ mm41 (by kernel_rfl)
def mm42:Memo:=⟨28,[kv9,kv11,(.imm [[(.int .i64 1),(.int .i64 10),(.int .i64 0),(.int .i64 0),(.bool false),(.int .i64 0),.nilSl,(.bool false)],[(.int .i64 1),(.int .i64 1),(.int .i64 0),(.int .i64 0),(.bool false),(.int .i64 0),.nilSl,(.bool false)]])],(.tuple [(.agg [(.int .i64 10),.nilSl]),(.int .i64 2),(.int .i64 0)])⟩
theorem mo42:mm42.Ok Tryz.prog:=known_of (l:=[mm2,mm19,mm34,mm41]) ⟨mo2,mo19,mo34,mo41,trivial⟩ mm42 (by kernel_rfl)
def mm79:Memo:=⟨31,[kv9,kv5,(.int .i64 9),kv33],(.tuple [kv32,(.int .i64 0)])⟩
theorem mo79:mm79.Ok Tryz.prog:=known_of (l:=[mm2,mm6,mm8,mm78]) ⟨mo2,mo6,mo8,mo78,trivial⟩ mm79 (by kernel_rfl)
def mm80:Memo:=⟨17,[(.agg [(.int .i64 2),(.bool true),(.int .i64 5)])],(.str [50,82,53])⟩
theorem mo80:mm80.Ok Tryz.prog:=known_of (l:=[]) trivial mm80 (by kernel_rfl)
def mm81:Memo:=⟨8,[],(.bool true)⟩
theorem mo81:mm81.Ok Tryz.prog:=known_of (l:=[mm1,mm3,mm4,mm5,mm18,mm29,mm42,mm43,mm44,mm79,mm80]) ⟨mo1,mo3,mo4,mo5,mo18,mo29,mo42,mo43,mo44,mo79,mo80,trivial⟩ mm81 (by kernel_rfl)
end Go.Known
end
