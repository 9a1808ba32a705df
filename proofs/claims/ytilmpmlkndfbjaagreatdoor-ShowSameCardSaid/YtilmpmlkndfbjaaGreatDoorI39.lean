/- Part 39 of the proof: Yc, Wj. -/
import Derived.Test.YtilmpmlkndfbjaaGreatDoorI23
import Derived.Test.YtilmpmlkndfbjaaGreatDoorI34
import Derived.Test.YtilmpmlkndfbjaaGreatDoorI38
set_option linter.all false
section
namespace Go.Known
open Go.Plain
section
variable {α:Type}
def A2(id:Int):List (Int×α)→Option (Nat×α)
 | []=>none
 | (k,v) :: r=>if id=k then some (0,v)else match A2 id r with
  | some (p,w)=>some (p+1,w)
  | none=>none
def C9(id:Int)(E:List (Int×α)):Option α:=(A2 id E).map Prod.snd
def updG(E:List (Int×α))(id:Int)(v:α):List (Int×α):=match A2 id E with
 | some (p,_)=>E.set p (id,v)
 | none=>E++[(id,v)]
theorem Zy5(id:Int):C9 id ([]:List (Int×α))=none:=rfl
theorem Zj8(id k:Int)(v:α)(r:List (Int×α)):C9 id ((k,v) :: r)=if id=k then some v else C9 id r:=by
 unfold C9;simp only[A2];split
 ·rfl
 ·cases A2 id r<;>rfl
theorem Z6v(id:Int)(v:α):updG [] id v=[(id,v)]:=rfl
theorem Z95(k:Int)(w:α)(r:List (Int×α))(id:Int)(v:α):updG ((k,w) :: r) id v=if id=k then (id,v) :: r else (k,w) :: updG r id v:=by
 unfold updG;by_cases h:id=k
 ·subst h; simp[A2]
 ·simp only[A2,if_neg h];cases A2 id r<;>rfl
theorem Zqg(a id:Int)(v:α):∀ (E:List (Int×α)),C9 a (updG E id v)=if a=id then some v else C9 a E
 | []=>by rw[Z6v,Zj8,Zy5]
 | (k,w) :: r=>by
  rw[Z95];by_cases h:id=k
  ·subst h;rw[if_pos rfl,Zj8,Zj8];split<;>rfl
  ·rw[if_neg h,Zj8,Zj8,Zqg a id v r];by_cases b:a=k
   ·rw[if_pos b,if_pos b,if_neg (fun e=>h (by omega))]
   ·rw[if_neg b,if_neg b]
end
def fsE(ls:List Lt):Nat→List (Int×Nat)
 | 0=>[]
 | i+1=>if isX (at' ls i)then updG (fsE ls i) (at' ls i).i i else fsE ls i
def S7(ls:List Lt):Nat→List Nat
 | 0=>List.replicate ls.length 0
 | i+1=>if isX (at' ls i)then (match C9 (at' ls i).i (fsE ls i)with
  | some j=>((S7 ls i).set i j).set j i
  | none=>S7 ls i)else S7 ls i
section
variable {ls:List Lt}
theorem Zkh:∀ i,(S7 ls i).length=ls.length
 | 0=>by simp[S7]
 | i+1=>by
  simp only[S7];split
  ·split<;>simp[Zkh i]
  ·exact Zkh i
theorem Zso:∀ i,(∀ id j,C9 id (fsE ls i)=some j→j<i∧isX (at' ls j)=true∧(at' ls j).i=id) ∧ ∀ j,j<i→isX (at' ls j)=true → ∃ k,C9 (at' ls j).i (fsE ls i)=some k
 | 0=>⟨fun id j h=>by simp[fsE,Zy5]at h,fun j g=>by omega⟩
 | i+1=>by
  obtain⟨d,f⟩:=Zso i;simp only[fsE];split
  ·rename_i c;refine⟨fun id j h=>?_,fun j g a=>?_⟩
   ·rw[Zqg]at h;split at h
    ·rename_i e;injection h with h
     subst h;exact⟨Nat.lt_succ_self _,c,e.symm⟩
    ·have:=d id j h;exact⟨by omega,this.2⟩
   ·rw[Zqg];split
    ·exact⟨_,rfl⟩
    ·rename_i e;have:j≠i:=fun b=>e (by rw[b])
     exact f j (by omega) a
  ·rename_i c;refine⟨fun id j h=>?_,fun j g a=>?_⟩
   ·have:=d id j h;exact⟨by omega,this.2⟩
   ·have:j≠i:=fun b=>c (by rw[← b]; exact a)
    exact f j (by omega) a
theorem Zwt(n:Wv ls)(s:∀ v x,v<ls.length→(at' ls v).k=2→x<ls.length→(at' ls x).k=2→(at' ls x).i=(at' ls v).i→x=v∨x=X9 ls v ls.length 0)
 (p:∀ v,v<ls.length→(at' ls v).k=2→X9 ls v ls.length 0≠v∧(at' ls (X9 ls v ls.length 0)).i=(at' ls v).i):∀ i,i≤ls.length → ∀ v,v<i→(at' ls v).k=2→otN ls v<i→(S7 ls i)[v]? = some (otN ls v)
 | 0,_,v,w,_,_=>by omega
 | i+1,hi,v,w,b,G=>by
  have q:=Zwt n s p i (by omega)
  simp only[S7];by_cases l:isX (at' ls i)=true
  ·rw[if_pos l];have f:(at' ls i).k=2:=by simpa[isX]using l
   obtain⟨t,r⟩:=Zso (ls:=ls) i;obtain⟨w1,w2,F,I,J⟩:=n.oth i (by omega) f
   obtain⟨D,E⟩:=p i (by omega) f
   have c:=Zkh (ls:=ls) i;cases g:C9 (at' ls i).i (fsE ls i)with
   | none=>
    simp only;have o:v≠i:=fun e=>by
     subst e;have:otN ls v<v:=by
      have:otN ls v≠v:=D;omega
     obtain⟨y,a⟩:=r (otN ls v) this (by simp only[isX]; unfold otN; rw[w2]; rfl)
     have h:(at' ls (otN ls v)).i=(at' ls v).i:=E;rw[h,g]at a;cases a
    have d:otN ls v≠i:=fun e=>by
     obtain⟨y,a⟩:=r v (by omega) (by simp[isX,b])
     have:=(p v (by omega) b).2
     have h:X9 ls v ls.length 0=i:=e;rw[h]at this;rw[← this,g]at a;cases a
    exact q v (by omega) b (by omega)
   | some j=>
    simp only;obtain⟨H,z,A⟩:=t _ _ g;have u:j=otN ls i:=(s i j (by omega) f (by omega) (by simpa[isX]using z) A).resolve_left (by omega)
    subst u;rw[List.getElem?_set,List.getElem?_set];by_cases m:otN ls i=v
    ·rw[if_pos m,List.length_set,c,if_pos (by omega)]
     have:otN ls v=i:=by rw[← m]; exact F
     rw[this]
    ·rw[if_neg m];by_cases h:i=v
     ·subst h;rw[if_pos rfl,c,if_pos (by omega)]
     ·rw[if_neg h];have d:otN ls v≠i:=fun e=>by
       obtain⟨_,_,C,_⟩:=n.oth v (by omega) b
       have:otN ls (otN ls v)=v:=C;rw[e]at this;exact m this
      exact q v (by omega) b (by omega)
  ·rw[if_neg l];have o:v≠i:=fun e=>l (by rw[← e]; simp[isX,b])
   have d:otN ls v≠i:=fun e=>l (by
    obtain⟨_,B,_⟩:=n.oth v (by omega) b
    have:(at' ls (otN ls v)).k=2:=B;rw[e]at this;simp[isX,this])
   exact q v (by omega) b (by omega)
abbrev Ps:=Nat×Nat
def psN(ls:List Lt)(i:Nat):List Ps:=((List.range i).filter fun j=>isP (at' ls j)).map fun j=>(j,upN ls j)
theorem Ybx:psN ls 0=[]:=rfl
theorem Z4f{i:Nat}(h:isP (at' ls i)=true):psN ls (i+1)=psN ls i++[(i,upN ls i)]:=by
 unfold psN;rw[List.range_succ,List.filter_append,List.map_append];simp[h]
theorem Z85{i:Nat}(h:isP (at' ls i)=false):psN ls (i+1)=psN ls i:=by
 unfold psN;rw[List.range_succ,List.filter_append,List.map_append];simp[h]
theorem Z17{i:Nat}{p:Ps}(h:p∈psN ls i):p.1<i∧isP (at' ls p.1)=true∧p.2=upN ls p.1:=by
 obtain⟨j,a,rfl⟩:=List.mem_map.1 h;rw[List.mem_filter,List.mem_range]at a;exact⟨a.1,a.2,rfl⟩
theorem Zxq(i:Nat):(psN ls i).length≤i:=by
 unfold psN;rw[List.length_map];have:=List.length_filter_le (fun j=>isP (at' ls j)) (List.range i)
 simpa using this
def cmpP(ls:List Lt)(a b:Ps):Int:=if (at' ls a.1).g=(at' ls b.1).g then (at' ls a.1).r - (at' ls b.1).r else (at' ls a.1).g - (at' ls b.1).g
theorem Z6y(o:Zf1 ls){d:List Ps}(q:d.Perm (psN ls ls.length))(w:d.Pairwise fun a b=>cmpP ls a b≤0):d.map Prod.snd=Y2 ls:=by
 have hm:∀ p,p∈d→p.1<ls.length∧isP (at' ls p.1)=true∧p.2=upN ls p.1:=fun p h=>Z17 (q.mem_iff.1 h)
 have c:d.map Prod.snd=(d.map Prod.fst).map (upN ls):=by
  rw[List.map_map];exact List.map_congr_left fun p h=>(hm p h).2.2
 have v:d.map Prod.fst=Z1 ls:=by
  have g:(d.map Prod.fst).Perm (Z1 ls):=by
   refine(q.map Prod.fst).trans ?_;have:(psN ls ls.length).map Prod.fst=(List.range ls.length).filter fun j=>isP (at' ls j):=by
    unfold psN;rw[List.map_map];exact List.map_id' _
   rw[this];exact(Zbp ls ls.length).symm
  have m:(d.map Prod.fst).Nodup:=g.nodup_iff.2 (Zfy ls);have n:(d.map Prod.fst).Pairwise (fun a b=>U7 (at' ls a) (at' ls b)=true):=by
   have f:d.Pairwise fun a b=>a.1≠b.1:=by
    have:=m;unfold List.Nodup at this;rwa[List.pairwise_map]at this
   rw[List.pairwise_map];refine(w.and f).imp_of_mem fun {a b} k l h=>?_
   obtain⟨i,c⟩:=h;obtain⟨r,s,_⟩:=hm a k;obtain⟨t,u,_⟩:=hm b l;rcases Zw0 (a:=at' ls a.1) (b:=at' ls b.1) (fun e=>c (o _ _ r t s u e.1 e.2))with h|h
   ·exact h
   ·exfalso;unfold cmpP at i;simp only[U7,Bool.or_eq_true,bA,decide_eq_true_eq,beq_iff_eq]at h;split at i<;>omega
  refine List.Perm.eq_of_pairwise (le:=fun a b=>U7 (at' ls a) (at' ls b)=true) (fun a b _ _ i c=>?_) n (Zob o ls.length (Nat.le_refl _)) g
  rw[Z13 i]at c;cases c
 rw[c,v];rfl
end
end Go.Known
end
section
namespace Go.Known
open Go Go.AE Go.Proofs
open Go.Plain
attribute [local simp] Zmb Zn0 Zl4 Zlc Znc Zn2 Zlo Zl3 Znd Zm3 Zmj Zna Zlg Zl7 Zlt Zmo Znh Zm5 Zk2
def cpR(els:List (List AVal))(off len:Nat)(xs:List (List AVal)):List (List AVal):=els.take off++xs.take (min xs.length len)++els.drop (off+min xs.length len)
theorem Zgo{P Q S xs:List (List AVal)}{off len:Nat}(c:P.length=off)(d:Q.length=xs.length)(e:xs.length≤len):cpR (P++Q++S) off len xs=P++xs++S:=by
 have a:(P++Q++S).take P.length=P:=by rw[List.append_assoc,List.take_left]
 have b:(P++Q++S).drop (P.length+xs.length)=S:=by rw[← d,← List.length_append,List.drop_left]
 unfold cpR;rw[Nat.min_eq_left e,← c,a,b,List.take_length]
theorem Zma(id:Nat)(f:AOpd→AVal)(get:Nat→Option ABlk)(k:Nat)(x y:AOpd):stepD id f get (.copy k x y)=match f x,N5 get k (f y)with
 | .sl b off len,some xs=>match get b with
  | some (.cells a els)=>if a=k∧off+len≤els.length then
   some (.int .i64 (min xs.length len:Nat),[(b,some (.cells k (cpR els off len xs)))])
   else none
  | _=>none
 | _,_=>none:=rfl
theorem Zfn(get:Nat→Option ABlk)(k b off len:Nat):N5 get k (.sl b off len)=R4 get k (.sl b off len):=rfl
end Go.Known
end
