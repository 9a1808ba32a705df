/- Part 44 of the proof: Yc, Wj. -/
import Derived.Test.YtipeejpafgnjdaaGreatDoorH23
import Derived.Test.YtipeejpafgnjdaaGreatDoorH34
import Derived.Test.YtipeejpafgnjdaaGreatDoorH43
set_option linter.all false
section
namespace Go.Known
open Go.Plain
section
variable {α:Type}
def C4(id:Int):List (Int×α)→Option (Nat×α)
 | []=>none
 | (k,v) :: r=>if id=k then some (0,v)else match C4 id r with
  | some (p,w)=>some (p+1,w)
  | none=>none
def C0(id:Int)(E:List (Int×α)):Option α:=(C4 id E).map Prod.snd
def updG(E:List (Int×α))(id:Int)(v:α):List (Int×α):=match C4 id E with
 | some (p,_)=>E.set p (id,v)
 | none=>E++[(id,v)]
theorem Zt6(id:Int):C0 id ([]:List (Int×α))=none:=rfl
theorem Zju(id k:Int)(v:α)(r:List (Int×α)):C0 id ((k,v) :: r)=if id=k then some v else C0 id r:=by
 unfold C0;simp only[C4];split
 ·rfl
 ·cases C4 id r<;>rfl
theorem Z5s(id:Int)(v:α):updG [] id v=[(id,v)]:=rfl
theorem Z20(k:Int)(w:α)(r:List (Int×α))(id:Int)(v:α):updG ((k,w) :: r) id v=if id=k then (id,v) :: r else (k,w) :: updG r id v:=by
 unfold updG;by_cases h:id=k
 ·subst h; simp[C4]
 ·simp only[C4,if_neg h];cases C4 id r<;>rfl
theorem Zrq(id' id:Int)(v:α):∀ (E:List (Int×α)),C0 id' (updG E id v)=if id'=id then some v else C0 id' E
 | []=>by rw[Z5s,Zju,Zt6]
 | (k,w) :: r=>by
  rw[Z20];by_cases h:id=k
  ·subst h;rw[if_pos rfl,Zju,Zju];split<;>rfl
  ·rw[if_neg h,Zju,Zju,Zrq id' id v r];by_cases h1:id'=k
   ·rw[if_pos h1,if_pos h1,if_neg (fun e=>h (by omega))]
   ·rw[if_neg h1,if_neg h1]
end
def fsE(ls:List Lt):Nat→List (Int×Nat)
 | 0=>[]
 | i+1=>if isX (at' ls i)then updG (fsE ls i) (at' ls i).i i else fsE ls i
def T8(ls:List Lt):Nat→List Nat
 | 0=>List.replicate ls.length 0
 | i+1=>if isX (at' ls i)then (match C0 (at' ls i).i (fsE ls i)with
  | some j=>((T8 ls i).set i j).set j i
  | none=>T8 ls i)else T8 ls i
section
variable {ls:List Lt}
theorem Zif:∀ i,(T8 ls i).length=ls.length
 | 0=>by simp[T8]
 | i+1=>by
  simp only[T8];split
  ·split<;>simp[Zif i]
  ·exact Zif i
theorem Zov:∀ i,(∀ id j,C0 id (fsE ls i)=some j→j<i∧isX (at' ls j)=true∧(at' ls j).i=id) ∧ ∀ j,j<i→isX (at' ls j)=true → ∃ j',C0 (at' ls j).i (fsE ls i)=some j'
 | 0=>⟨fun id j h=>by simp[fsE,Zt6]at h,fun j hj=>by omega⟩
 | i+1=>by
  obtain⟨h1,h2⟩:=Zov i;simp only[fsE];split
  ·rename_i hx;refine⟨fun id j h=>?_,fun j hj hxj=>?_⟩
   ·rw[Zrq]at h;split at h
    ·rename_i e;injection h with h
     subst h;exact⟨Nat.lt_succ_self _,hx,e.symm⟩
    ·have:=h1 id j h;exact⟨by omega,this.2⟩
   ·rw[Zrq];split
    ·exact⟨_,rfl⟩
    ·rename_i e;have:j≠i:=fun e2=>e (by rw[e2])
     exact h2 j (by omega) hxj
  ·rename_i hx;refine⟨fun id j h=>?_,fun j hj hxj=>?_⟩
   ·have:=h1 id j h;exact⟨by omega,this.2⟩
   ·have:j≠i:=fun e2=>hx (by rw[← e2]; exact hxj)
    exact h2 j (by omega) hxj
theorem Zyf(hw:Wv ls)(hu:∀ v x,v<ls.length→(at' ls v).k=2→x<ls.length→(at' ls x).k=2→(at' ls x).i=(at' ls v).i→x=v∨x=W1 ls v ls.length 0)
 (hs:∀ v,v<ls.length→(at' ls v).k=2→W1 ls v ls.length 0≠v∧(at' ls (W1 ls v ls.length 0)).i=(at' ls v).i):∀ i,i≤ls.length → ∀ v,v<i→(at' ls v).k=2→otN ls v<i→(T8 ls i)[v]? = some (otN ls v)
 | 0,_,v,hv,_,_=>by omega
 | i+1,hi,v,hv,hk,ho=>by
  have ih:=Zyf hw hu hs i (by omega)
  simp only[T8];by_cases hx:isX (at' ls i)=true
  ·rw[if_pos hx];have hki:(at' ls i).k=2:=by simpa[isX]using hx
   obtain⟨f1,f2⟩:=Zov (ls:=ls) i;obtain⟨w1,w2,w3,w4,w5⟩:=hw.oth i (by omega) hki
   obtain⟨s1,s2⟩:=hs i (by omega) hki
   have hlen:=Zif (ls:=ls) i;cases hv':C0 (at' ls i).i (fsE ls i)with
   | none=>
    simp only;have hne:v≠i:=fun e=>by
     subst e;have:otN ls v<v:=by
      have:otN ls v≠v:=s1;omega
     obtain⟨j',hj'⟩:=f2 (otN ls v) this (by simp only[isX]; unfold otN; rw[w2]; rfl)
     have e2:(at' ls (otN ls v)).i=(at' ls v).i:=s2;rw[e2,hv']at hj';cases hj'
    have hne2:otN ls v≠i:=fun e=>by
     obtain⟨j',hj'⟩:=f2 v (by omega) (by simp[isX,hk])
     have:=(hs v (by omega) hk).2
     have e2:W1 ls v ls.length 0=i:=e;rw[e2]at this;rw[← this,hv']at hj';cases hj'
    exact ih v (by omega) hk (by omega)
   | some j=>
    simp only;obtain⟨j1,j2,j3⟩:=f1 _ _ hv';have hj:j=otN ls i:=(hu i j (by omega) hki (by omega) (by simpa[isX]using j2) j3).resolve_left (by omega)
    subst hj;rw[List.getElem?_set,List.getElem?_set];by_cases e1:otN ls i=v
    ·rw[if_pos e1,List.length_set,hlen,if_pos (by omega)]
     have:otN ls v=i:=by rw[← e1]; exact w3
     rw[this]
    ·rw[if_neg e1];by_cases e2:i=v
     ·subst e2;rw[if_pos rfl,hlen,if_pos (by omega)]
     ·rw[if_neg e2];have hne2:otN ls v≠i:=fun e=>by
       obtain⟨_,_,q3,_⟩:=hw.oth v (by omega) hk
       have:otN ls (otN ls v)=v:=q3;rw[e]at this;exact e1 this
      exact ih v (by omega) hk (by omega)
  ·rw[if_neg hx];have hne:v≠i:=fun e=>hx (by rw[← e]; simp[isX,hk])
   have hne2:otN ls v≠i:=fun e=>hx (by
    obtain⟨_,q2,_⟩:=hw.oth v (by omega) hk
    have:(at' ls (otN ls v)).k=2:=q2;rw[e]at this;simp[isX,this])
   exact ih v (by omega) hk (by omega)
abbrev Ps:=Nat×Nat
def psN(ls:List Lt)(i:Nat):List Ps:=((List.range i).filter fun j=>isP (at' ls j)).map fun j=>(j,upN ls j)
theorem Z79:psN ls 0=[]:=rfl
theorem Z8c{i:Nat}(h:isP (at' ls i)=true):psN ls (i+1)=psN ls i++[(i,upN ls i)]:=by
 unfold psN;rw[List.range_succ,List.filter_append,List.map_append];simp[h]
theorem Yez{i:Nat}(h:isP (at' ls i)=false):psN ls (i+1)=psN ls i:=by
 unfold psN;rw[List.range_succ,List.filter_append,List.map_append];simp[h]
theorem Zym{i:Nat}{p:Ps}(h:p∈psN ls i):p.1<i∧isP (at' ls p.1)=true∧p.2=upN ls p.1:=by
 obtain⟨j,hj,rfl⟩:=List.mem_map.1 h;rw[List.mem_filter,List.mem_range]at hj;exact⟨hj.1,hj.2,rfl⟩
theorem Zxg(i:Nat):(psN ls i).length≤i:=by
 unfold psN;rw[List.length_map];have:=List.length_filter_le (fun j=>isP (at' ls j)) (List.range i)
 simpa using this
def cmpP(ls:List Lt)(a b:Ps):Int:=if (at' ls a.1).g=(at' ls b.1).g then (at' ls a.1).r - (at' ls b.1).r else (at' ls a.1).g - (at' ls b.1).g
theorem Yek(ha:Zft ls){d:List Ps}(hp:d.Perm (psN ls ls.length))(hs:d.Pairwise fun a b=>cmpP ls a b≤0):d.map Prod.snd=T2 ls:=by
 have hm:∀ p,p∈d→p.1<ls.length∧isP (at' ls p.1)=true∧p.2=upN ls p.1:=fun p h=>Zym (hp.mem_iff.1 h)
 have h2:d.map Prod.snd=(d.map Prod.fst).map (upN ls):=by
  rw[List.map_map];exact List.map_congr_left fun p h=>(hm p h).2.2
 have e1:d.map Prod.fst=Z2 ls:=by
  have hp1:(d.map Prod.fst).Perm (Z2 ls):=by
   refine(hp.map Prod.fst).trans ?_;have:(psN ls ls.length).map Prod.fst=(List.range ls.length).filter fun j=>isP (at' ls j):=by
    unfold psN;rw[List.map_map];exact List.map_id' _
   rw[this];exact(Zbc ls ls.length).symm
  have hnd:(d.map Prod.fst).Nodup:=hp1.nodup_iff.2 (Zga ls);have hs1:(d.map Prod.fst).Pairwise (fun a b=>U0 (at' ls a) (at' ls b)=true):=by
   have hnd':d.Pairwise fun a b=>a.1≠b.1:=by
    have:=hnd;unfold List.Nodup at this;rwa[List.pairwise_map]at this
   rw[List.pairwise_map];refine(hs.and hnd').imp_of_mem fun {a b} hma hmb h=>?_
   obtain⟨h1,h2⟩:=h;obtain⟨a1,a2,_⟩:=hm a hma;obtain⟨b1,b2,_⟩:=hm b hmb;rcases Zsb (a:=at' ls a.1) (b:=at' ls b.1) (fun e=>h2 (ha _ _ a1 b1 a2 b2 e.1 e.2))with h|h
   ·exact h
   ·exfalso;unfold cmpP at h1;simp only[U0,Bool.or_eq_true,bA,decide_eq_true_eq,beq_iff_eq]at h;split at h1<;>omega
  refine List.Perm.eq_of_pairwise (le:=fun a b=>U0 (at' ls a) (at' ls b)=true) (fun a b _ _ h1 h2=>?_) hs1 (Znm ha ls.length (Nat.le_refl _)) hp1
  rw[Zzs h1]at h2;cases h2
 rw[h2,e1];rfl
end
end Go.Known
end
section
namespace Go.Known
open Go Go.AE Go.Proofs
open Go.Plain
attribute [local simp] Zjz Zkx Zl5 Zkn Zmn Zm1 Zlq Zj6 Zkw Znl Zka Zlp Zj9 Zks Zkr Znd Zmx Zj3 Zmu
def cpR(els:List (List AVal))(off len:Nat)(xs:List (List AVal)):List (List AVal):=els.take off++xs.take (min xs.length len)++els.drop (off+min xs.length len)
theorem Zgj{P Q S xs:List (List AVal)}{off len:Nat}(h1:P.length=off)(h2:Q.length=xs.length)(h3:xs.length≤len):cpR (P++Q++S) off len xs=P++xs++S:=by
 have a1:(P++Q++S).take P.length=P:=by rw[List.append_assoc,List.take_left]
 have a3:(P++Q++S).drop (P.length+xs.length)=S:=by rw[← h2,← List.length_append,List.drop_left]
 unfold cpR;rw[Nat.min_eq_left h3,← h1,a1,a3,List.take_length]
theorem Zml(id:Nat)(f:AOpd→AVal)(get:Nat→Option ABlk)(k:Nat)(x y:AOpd):stepD id f get (.copy k x y)=match f x,P9 get k (f y)with
 | .sl b off len,some xs=>match get b with
  | some (.cells k' els)=>if k'=k∧off+len≤els.length then
   some (.int .i64 (min xs.length len:Nat),[(b,some (.cells k (cpR els off len xs)))])
   else none
  | _=>none
 | _,_=>none:=rfl
theorem Ze9(get:Nat→Option ABlk)(k b off len:Nat):P9 get k (.sl b off len)=R2 get k (.sl b off len):=rfl
end Go.Known
end
