/- Part 23 of the proof: Pf, Pg. -/
import Derived.Test.YtipeejpafgnjdaaGreatDoorG13
import Derived.Test.YtipeejpafgnjdaaGreatDoorG22
set_option linter.all false
section
namespace Go.Known
open Go.Plain
theorem Zd6 {n i:Nat} {fw:Bool} (h:i<n):Zb5 n i fw<2*n:=by
 unfold Zb5
 have:=Nat.mod_lt (i+n - 1) (show 0<n by omega)
 split<;>omega
theorem Zm1 {ls:List Lt} {v:Nat} (hv:v<ls.length):∀ k j,j+k≤ls.length→Zbf ls v k j<ls.length
 | 0,j,_=>hv
 | k+1,j,hj=>by
  simp only[Zbf]
  split
  ·omega
  ·exact Zm1 hv k (j+1) (by omega)
theorem Zl2 {x:Nat} {l:List Nat} (h:x∈l):idxN x l<l.length:=(List.getElem?_eq_some_iff.1 (Zc3 h).1).1
theorem Zoy {ls:List Lt} {ax:List Nat} {d:Nat} (hax:∀ v,v∈ax→v<ls.length) (hm:∀ v,v<ls.length→(at' ls v).k≠2→v∈ax) (h0:0<ax.length) (hd:d<2*ls.length+2*ax.length) :
 Za6 ls ax d<2*ls.length+2*ax.length:=by
 have hget:∀ j,j<ax.length→ax.getD j 0<ls.length:=fun j hj=>by
  rw[List.getD,List.getElem?_eq_getElem hj]
  exact hax _ (List.getElem_mem hj)
 have hmod:=fun x=>Nat.mod_lt x h0
 unfold Za6
 split
 ·split
  ·exact Nat.lt_of_lt_of_le (Zd6 (hget _ (hmod _))) (by omega)
  ·exact Nat.lt_of_lt_of_le (Zd6 (hget _ (by omega))) (by omega)
 ·rename_i hlt
  have hv:(if d % 2=0 then (d / 2+1) % ls.length else d / 2)<ls.length:=by
   split
   ·exact Nat.mod_lt _ (by omega)
   ·omega
  simp only
  generalize (if d % 2=0 then (d / 2+1) % ls.length else d / 2)=v at hv
  split
  ·exact Nat.lt_of_lt_of_le (Zd6 (Zm1 hv ls.length 0 (by omega))) (by omega)
  ·rename_i hk
   have h1:=Zl2 (hm v hv hk)
   split
   ·omega
   ·have:=hmod (idxN v ax+ax.length - 1)
    omega
theorem Zx5 {f:Int} {l:Lt} (h:okC f l=true):l.k=1∨l.k=2:=by
 unfold okC at h
 split at h
 ·exact .inl ‹_›
 ·split at h
  ·exact .inr ‹_›
  ·cases h
theorem Zi4 {F:Nat} {ls:List Lt} (h:ls.all (okC F)=true):Zov F ls:=by
 intro l hl hp
 have:=List.all_eq_true.1 h l hl
 simp only[isP,beq_iff_eq]at hp
 unfold okC at this
 rw[if_pos hp]at this
 simp at this
 omega
theorem Zkv {ls:List Lt} {m:Nat}:∀ (i p:Nat),p<m → ∃ b,(Zc1 ls m i)[p]? = some b∧(b=true ↔ ∃ j,j<i∧isP (at' ls j)=true∧pos ls (at' ls j)=p)
 | 0,p,hp=>⟨false,by simp[Zc1,List.getElem?_replicate,hp],by simp⟩
 | i+1,p,hp=>by
  obtain⟨b,hb,hiff⟩:=Zkv (ls:=ls) (m:=m) i p hp
  simp only[Zc1]
  by_cases hpi:isP (at' ls i)=true
  ·rw[if_pos hpi,List.getElem?_set,Zh3]
   by_cases hq:pos ls (at' ls i)=p
   ·exact⟨true,by rw[if_pos hq,if_pos (by omega)],by simp only[true_iff]; exact⟨i,by omega,hpi,hq⟩⟩
   ·refine⟨b,by rw[if_neg hq]; exact hb,hiff.trans ⟨fun⟨j,h1,h2,h3⟩=>⟨j,by omega,h2,h3⟩,fun⟨j,h1,h2,h3⟩=>?_⟩⟩
    rcases Nat.lt_or_ge j i with h4|h4
    ·exact⟨j,h4,h2,h3⟩
    ·have:j=i:=by omega
     subst this
     exact absurd h3 hq
  ·rw[if_neg hpi]
   refine⟨b,hb,hiff.trans ⟨fun⟨j,h1,h2,h3⟩=>⟨j,by omega,h2,h3⟩,fun⟨j,h1,h2,h3⟩=>?_⟩⟩
   rcases Nat.lt_or_ge j i with h4|h4
   ·exact⟨j,h4,h2,h3⟩
   ·have:j=i:=by omega
    subst this
    exact absurd h2 hpi
theorem Zsx {F:Nat} {ls:List Lt} (hG:Zov F ls):∀ i,i≤ls.length→rkF ls (Zaa ls) i=true →
 (∀ j,j<i→isP (at' ls j)=true→1≤(at' ls j).r∧(at' ls j).r≤(inG (at' ls j).g ls:Nat)) ∧
 (∀ j k,j<k→k<i→isP (at' ls j)=true→isP (at' ls k)=true→pos ls (at' ls j)≠pos ls (at' ls k))
 | 0,_,_=>⟨fun j hj=>by omega,fun j k _ hk=>by omega⟩
 | i+1,hi,h=>by
  simp only[rkF,Bool.and_eq_true,Bool.or_eq_true,Bool.not_eq_true',decide_eq_true_eq]at h
  obtain⟨h1,h2⟩:=h
  obtain⟨a1,a2⟩:=Zsx hG i (by omega) h1
  refine⟨fun j hj hp=>?_,fun j k hjk hk hpj hpk=>?_⟩
  ·rcases Nat.lt_or_ge j i with h4|h4
   ·exact a1 j h4 hp
   ·have:j=i:=by omega
    subst this
    rcases h2 with h2|h2
    ·rw[hp]at h2; cases h2
    ·exact h2.1
  ·rcases Nat.lt_or_ge k i with h4|h4
   ·exact a2 j k hjk h4 hpj hpk
   ·have:k=i:=by omega
    subst this
    rcases h2 with h2|h2
    ·rw[hpk]at h2; cases h2
    ·have hpos:=Zw2 hG (Zcq (by omega)) hpk h2.1.1 h2.1.2
     obtain⟨b,hb,hiff⟩:=Zkv (ls:=ls) (m:=Zaa ls) k (pos ls (at' ls k)) hpos
     have hbf:b=false:=by
      have:=h2.2
      rw[List.getD,hb]at this
      exact this
     subst hbf
     intro he
     have:=hiff.2 ⟨j,hjk,hpj,he⟩
     cases this
theorem Zlh {F:Nat} {ls:List Lt} (hG:Zov F ls) (h:rkF ls (Zaa ls) ls.length=true):Zs3 ls∧Zul ls:=by
 obtain⟨a1,a2⟩:=Zsx hG ls.length (Nat.le_refl _) h
 refine⟨fun l hl hp=>?_,fun i j hi hj hpi hpj hg hr=>?_⟩
 ·obtain⟨j,hj,he⟩:=List.getElem_of_mem hl
  have:at' ls j=l:=by rw[at',List.getD,List.getElem?_eq_getElem hj,he]; rfl
  subst this
  exact a1 j hj hp
 ·have hpe:pos ls (at' ls i)=pos ls (at' ls j):=by unfold pos; rw[hg,hr]
  rcases Nat.lt_trichotomy i j with h1|h1|h1
  ·exact absurd hpe (a2 i j h1 hj hpi hpj)
  ·exact h1
  ·exact absurd hpe.symm (a2 j i h1 hi hpj hpi)
theorem Zej (ls:List Lt):(axis ls).Nodup:=by
 rw[axis,(Zcu ls ls.length).nodup_iff]
 exact List.nodup_range.filter _
theorem Zir {l:List Nat} (h:l.Nodup) {i j x:Nat} (hi:l[i]? = some x) (hj:l[j]? = some x):i=j:=by
 obtain⟨h1,h2⟩:=List.getElem?_eq_some_iff.1 hi
 obtain⟨h3,h4⟩:=List.getElem?_eq_some_iff.1 hj
 exact(List.getElem_inj h).1 (h2.trans h4.symm)
theorem Zsn {F:Nat} {ls:List Lt} (hG:Zov F ls) (h:rkF ls (Zaa ls) ls.length=true):∀ i,i≤ls.length → ∀ j,j<i→isP (at' ls j)=true→(Zf7 ls (Zaa ls) i)[pos ls (at' ls j)]? = some j
 | 0,_,j,hj,_=>by omega
 | i+1,hi,j,hj,hp=>by
  obtain⟨a1,a2⟩:=Zsx hG ls.length (Nat.le_refl _) h
  simp only[Zf7]
  by_cases hpi:isP (at' ls i)=true
  ·rw[if_pos hpi,List.getElem?_set,Zgc]
   obtain⟨r1,r2⟩:=a1 i (by omega) hpi
   have hpos:=Zw2 hG (Zcq (show i<ls.length by omega)) hpi r1 r2
   rcases Nat.lt_or_ge j i with h4|h4
   ·rw[if_neg (fun e=>a2 j i h4 (by omega) hp hpi e.symm)]
    exact Zsn hG h i (by omega) j h4 hp
   ·have:j=i:=by omega
    subst this
    rw[if_pos rfl,if_pos hpos]
  ·rw[if_neg hpi]
   rcases Nat.lt_or_ge j i with h4|h4
   ·exact Zsn hG h i (by omega) j h4 hp
   ·have:j=i:=by omega
    subst this
    exact absurd hp hpi
theorem Z3r {F:Nat} {ls:List Lt} (hG:Zov F ls) (h:rkF ls (Zaa ls) ls.length=true):Zf7 ls (Zaa ls) ls.length=axis ls:=by
 obtain⟨hr,ha⟩:=Zlh hG h
 apply List.ext_getElem?
 intro p
 rcases Nat.lt_or_ge p (Zaa ls)with hp|hp
 ·obtain⟨j,hj⟩:∃ j,(axis ls)[p]? = some j:=⟨_,List.getElem?_eq_getElem (by rw[Zas]; exact hp)⟩
  obtain⟨h1,h2⟩:=mem_axis.1 (List.mem_of_getElem? hj)
  have h3:=Zwm ha hr h1 h2
  have h4:=Zir (Zej ls) hj h3
  subst h4
  rw[hj]
  exact Zsn hG h _ (Nat.le_refl _) j h1 h2
 ·rw[List.getElem?_eq_none (by rw[Zgc]; exact hp),List.getElem?_eq_none (by rw[Zas]; exact hp)]
theorem Z26 {F:Nat} {ls:List Lt} (hG:Zov F ls) (h:rkF ls (Zaa ls) ls.length=true) {v:Nat} (hv:v<ls.length) (hk:(at' ls v).k=1):Zcd ls v=idxN v (axis ls)∧idxN v (axis ls)<(axis ls).length:=by
 obtain⟨hr,ha⟩:=Zlh hG h
 have hp:isP (at' ls v)=true:=by simp[isP,hk]
 have h1:=Zwm ha hr hv hp
 have hm:v∈axis ls:=mem_axis.2 ⟨hv,hp⟩
 refine⟨?_,Zl2 hm⟩
 unfold Zcd
 rw[if_pos hp]
 exact Zir (Zej ls) h1 (Zc3 hm).1
end Go.Known
end
section
namespace Go.Known
open Go.Plain
theorem Zsd {id id':Int} {w:Int×Int}:∀ {E:List Ent} {p:Nat} {v:Int×Int},fnd id E=some (p,v)→fnd id' (E.set p (id,w))=if id'=id then some (p,w)else fnd id' E
 | [],p,v,h=>by cases h
 | (k,u) :: r,p,v,h=>by
  simp only[fnd]at h
  by_cases hk:id=k
  ·rw[if_pos hk]at h
   cases h
   subst hk
   simp only[List.set_cons_zero,fnd]
   split<;>rfl
  ·rw[if_neg hk]at h
   cases hr:fnd id r with
   | none=>rw[hr]at h; cases h
   | some pu=>
    obtain⟨q,u'⟩:=pu
    rw[hr]at h
    cases h
    simp only[List.set_cons_succ,fnd]
    rw[Zsd hr]
    by_cases h1:id'=k
    ·rw[if_pos h1,if_neg (fun e=>hk (e.symm.trans h1))]
     simp[h1]
    ·rw[if_neg h1]
     by_cases h2:id'=id
     ·rw[if_pos h2,if_pos h2]
     ·rw[if_neg h2,if_neg h2,if_neg h1]
theorem Zr3 {id id':Int} {w:Int×Int}:∀ {E:List Ent},fnd id E=none→fnd id' (E++[(id,w)])=if id'=id then some (E.length,w)else fnd id' E
 | [],_=>by simp only[List.nil_append,fnd,List.length_nil]
 | (k,u) :: r,h=>by
  simp only[fnd]at h
  by_cases hk:id=k
  ·rw[if_pos hk]at h; cases h
  ·rw[if_neg hk]at h
   have hr:fnd id r=none:=by
    cases hr:fnd id r with
    | none=>rfl
    | some pu=>rw[hr]at h; cases h
   simp only[List.cons_append,fnd]
   rw[Zr3 hr]
   by_cases h1:id'=k
   ·rw[if_pos h1,if_neg (fun e=>hk (e.symm.trans h1))]
    simp[h1]
   ·rw[if_neg h1]
    by_cases h2:id'=id
    ·rw[if_pos h2,if_pos h2]; rfl
    ·rw[if_neg h2,if_neg h2,if_neg h1]
def fil (v:Int×Int):Nat:=(if 0≤v.1 then 1 else 0)+(if 0≤v.2 then 1 else 0)
def sumF:List Ent→Nat
 | []=>0
 | e :: r=>fil e.2+sumF r
theorem Z57 (v:Int×Int):fil v≤2:=by unfold fil; split<;>split<;>omega
theorem Zz5:∀ (E:List Ent),sumF E≤2*E.length
 | []=>Nat.le_refl _
 | e :: r=>by have:=Zz5 r; have:=Z57 e.2; simp only[sumF,List.length_cons]; omega
theorem Zua:∀ {E:List Ent},sumF E=2*E.length → ∀ e,e∈E→fil e.2=2
 | [],_,e,h=>by simp at h
 | x :: r,hs,e,h=>by
  have h1:=Zz5 r
  have h2:=Z57 x.2
  simp only[sumF,List.length_cons]at hs
  rcases List.mem_cons.1 h with rfl|h
  ·omega
  ·exact Zua (by omega) e h
theorem Zt0 (x:Ent):∀ (E:List Ent),sumF (E++[x])=sumF E+fil x.2
 | []=>by simp[sumF]
 | e :: r=>by simp only[List.cons_append,sumF,Zt0 x r]; omega
theorem Zwz {x y:Ent}:∀ {E:List Ent} {p:Nat},E[p]? = some x→sumF (E.set p y)+fil x.2=sumF E+fil y.2
 | [],p,h=>by simp at h
 | e :: r,0,h=>by
  simp only[List.getElem?_cons_zero,Option.some.injEq]at h
  subst h
  simp only[List.set_cons_zero,sumF]; omega
 | e :: r,p+1,h=>by
  simp only[List.getElem?_cons_succ]at h
  have:=Zwz (y:=y) h
  simp only[List.set_cons_succ,sumF]; omega
theorem Zr9 (o o':Bool) (i:Int) (v:Int×Int):Zc6 o' (putV o i v)=if o'=o then i else Zc6 o' v:=by
 cases o<;>cases o'<;>rfl
theorem Zz1 {o:Bool} {i:Int} {v:Int×Int} (hi:0≤i) (hs:Zc6 o v<0):fil (putV o i v)=fil v+1:=by
 cases o<;>simp only[Zc6,Bool.false_eq_true,if_true,if_false]at hs<;>unfold fil putV<;>simp only[Bool.false_eq_true,if_true,if_false]
 ·rw[if_pos hi,if_neg (show ¬0≤v.1 by omega)]; try omega
 ·rw[if_pos hi,if_neg (show ¬0≤v.2 by omega)]; try omega
structure CrInv (ls:List Lt) (i:Nat):Prop where
 slot:∀ id p w,fnd id (crE ls i)=some (p,w) → ∀ o,0≤Zc6 o w → ∃ j:Nat,j<i∧Zc6 o w=j∧isX (at' ls j)=true∧(at' ls j).i=id∧(at' ls j).o=o
 visit:∀ j,j<i→isX (at' ls j)=true → ∃ p w,fnd (at' ls j).i (crE ls i)=some (p,w)∧Zc6 (at' ls j).o w=j
 sign:∀ id p w,fnd id (crE ls i)=some (p,w)→0≤w.1→0≤w.2→(at' ls w.1.toNat).s=(at' ls w.2.toNat).s
 sum:sumF (crE ls i)=cntP isX (ls.take i)
theorem Z54 {ls:List Lt} {n:Nat}:∀ i,i≤ls.length→crF ls n i=true→CrInv ls i
 | 0,_,_=>⟨fun id p w h=>(by cases h),fun j hj=>(by omega),fun id p w h=>(by cases h),rfl⟩
 | i+1,hi,h=>by
  simp only[crF,Bool.and_eq_true,Bool.or_eq_true,Bool.not_eq_true',decide_eq_true_eq]at h
  obtain⟨h1,h2⟩:=h
  obtain⟨b,c,d,e⟩:=Z54 i (by omega) h1
  have htk:=Zcj (p:=isX) (ls:=ls) (i:=i) (by omega)
  by_cases hx:isX (at' ls i)=true
  ·have hfit:fitE ls (crE ls i) (at' ls i)=true:=by
    rcases h2 with h2|h2
    ·rw[hx]at h2; cases h2
    ·exact h2.2
   have hE:crE ls (i+1)=updE (crE ls i) (at' ls i).i (at' ls i).o i:=by simp only[crE,if_pos hx]
   rw[if_pos hx]at htk
   obtain⟨q,v,hfE,hneg,hsum,hold⟩:∃ (q:Nat) (v:Int×Int),(∀ id',fnd id' (crE ls (i+1))=if id'=(at' ls i).i then some (q,putV (at' ls i).o i v)else fnd id' (crE ls i)) ∧
    Zc6 (at' ls i).o v<0∧sumF (crE ls (i+1))=sumF (crE ls i)+1 ∧
    ((fnd (at' ls i).i (crE ls i)=some (q,v)∧(at' ls (Zc6 (!(at' ls i).o) v).toNat).s=(at' ls i).s)∨(fnd (at' ls i).i (crE ls i)=none∧v=(-1,-1))):=by
    unfold fitE at hfit
    cases hf:fnd (at' ls i).i (crE ls i)with
    | none=>
     have hE2:crE ls (i+1)=crE ls i++[((at' ls i).i,putV (at' ls i).o i (-1,-1))]:=by rw[hE]; unfold updE; rw[hf]
     refine⟨(crE ls i).length,(-1,-1),fun id'=>by rw[hE2,Zr3 hf],by cases (at' ls i).o<;>decide,?_,.inr ⟨rfl,rfl⟩⟩
     rw[hE2,Zt0,Zz1 (by omega) (by cases (at' ls i).o<;>decide)]
     rfl
    | some pv=>
     obtain⟨q,v⟩:=pv
     rw[hf]at hfit
     simp only[Bool.and_eq_true,decide_eq_true_eq]at hfit
     have hE2:crE ls (i+1)=(crE ls i).set q ((at' ls i).i,putV (at' ls i).o i v):=by rw[hE]; unfold updE; rw[hf]
     refine⟨q,v,fun id'=>by rw[hE2,Zsd hf],hfit.1,?_,.inl ⟨rfl,hfit.2⟩⟩
     have:=Zwz (y:=((at' ls i).i,putV (at' ls i).o i v)) (Zna hf)
     simp only at this
     rw[Zz1 (by omega) hfit.1]at this
     rw[hE2]; omega
   refine⟨fun id p w hf o ho=>?_,fun j hj hxj=>?_,fun id p w hf hw1 hw2=>?_,by rw[hsum,e,htk]⟩
   ·rw[hfE]at hf
    split at hf
    ·rename_i hid
     cases hf
     rw[Zr9]at ho ⊢
     split at ho
     ·rename_i heq
      subst heq
      rw[if_pos rfl]
      exact⟨i,by omega,rfl,hx,hid.symm,rfl⟩
     ·rename_i hne
      rw[if_neg hne]
      rcases hold with⟨hf,_⟩|⟨hf,hv⟩
      ·obtain⟨j,j1,j2,j3,j4,j5⟩:=b _ _ _ hf o ho
       exact⟨j,by omega,j2,j3,j4.trans hid.symm,j5⟩
      ·subst hv
       cases o<;>simp[Zc6]at ho
    ·obtain⟨j,j1,j2⟩:=b _ _ _ hf o ho
     exact⟨j,by omega,j2⟩
   ·rcases Nat.lt_or_ge j i with h4|h4
    ·obtain⟨p,w,g1,g2⟩:=c j h4 hxj
     rw[hfE]
     split
     ·rename_i hid
      refine⟨_,_,rfl,?_⟩
      rcases hold with⟨hf,_⟩|⟨hf,hv⟩
      ·rw[hid]at g1
       rw[g1]at hf
       cases hf
       rw[Zr9]
       split
       ·rename_i heq
        rw[heq]at g2
        omega
       ·exact g2
      ·rw[hid,hf]at g1; cases g1
     ·exact⟨p,w,g1,g2⟩
    ·have:j=i:=by omega
     subst this
     rw[hfE,if_pos rfl]
     exact⟨_,_,rfl,by rw[Zr9,if_pos rfl]⟩
   ·rw[hfE]at hf
    split at hf
    ·cases hf
     rcases hold with⟨hf,hs⟩|⟨hf,hv⟩
     ·cases ho:(at' ls i).o with
      | true=>
       simp only[ho,putV,Zc6,if_true,Bool.not_true,Bool.false_eq_true,if_false]at hs ⊢
       rw[hs,Int.toNat_natCast]
      | false=>
       simp only[ho,putV,Zc6,if_true,Bool.not_false,Bool.false_eq_true,if_false]at hs ⊢
       rw[hs,Int.toNat_natCast]
     ·subst hv
      cases ho:(at' ls i).o<;>simp[ho,putV]at hw1 hw2
    ·exact d _ _ _ hf hw1 hw2
  ·have hE:crE ls (i+1)=crE ls i:=by simp only[crE,if_neg hx]
   rw[if_neg hx]at htk
   rw[← hE]at b c d e
   refine⟨fun id p w hf o ho=>?_,fun j hj hxj=>?_,d,by rw[e,htk]; rfl⟩
   ·obtain⟨j,j1,j2⟩:=b id p w hf o ho
    exact⟨j,by omega,j2⟩
   ·rcases Nat.lt_or_ge j i with h4|h4
    ·exact c j h4 hxj
    ·have:j=i:=by omega
     subst this
     exact absurd hxj hx
def CrOk (ls:List Lt):Prop:=Zax ls % 2=0∧crF ls (Zax ls) ls.length=true∧(crE ls ls.length).length=Zax ls / 2
theorem Zpb {ls:List Lt} {v j:Nat} (h:(j != v&&isX (at' ls j)&&(at' ls j).i == (at' ls v).i)=true) (hu:∀ x,(x != v&&isX (at' ls x)&&(at' ls x).i == (at' ls v).i)=true→x<ls.length→x=j) :
 ∀ k s,s≤j→j<s+k→s+k≤ls.length→Zbf ls v k s=j
 | 0,s,h1,h2,_=>by omega
 | k+1,s,h1,h2,h3=>by
  simp only[Zbf]
  split
  ·rename_i hc
   exact hu s hc (by omega)
  ·rename_i hc
   have:s≠j:=fun e=>hc (by rw[e]; exact h)
   exact Zpb h hu k (s+1) (by omega) (by omega) (by omega)
theorem Zeq {ls:List Lt} (h:CrOk ls) {v:Nat} (hv:v<ls.length) (hx:isX (at' ls v)=true) :
 ∃ p w j,fnd (at' ls v).i (crE ls ls.length)=some (p,w)∧Zc6 (at' ls v).o w=v∧Zc6 (!(at' ls v).o) w=(j:Nat)∧j<ls.length∧j≠v∧isX (at' ls j)=true∧(at' ls j).i=(at' ls v).i∧(at' ls j).o=(!(at' ls v).o)∧(at' ls j).s=(at' ls v).s ∧
  (∀ x,x<ls.length→isX (at' ls x)=true→(at' ls x).i=(at' ls v).i→x=v∨x=j)∧Zbf ls v ls.length 0=j:=by
 obtain⟨h1,h2,h3⟩:=h
 obtain⟨b,c,d,e⟩:=Z54 ls.length (Nat.le_refl _) h2
 rw[List.take_length]at e
 have hs:sumF (crE ls ls.length)=2*(crE ls ls.length).length:=by
  rw[e,h3]
  have:Zax ls=cntP isX ls:=rfl
  omega
 obtain⟨p,w,g1,g2⟩:=c v hv hx
 have hf:=Zua hs _ (List.mem_of_getElem? (Zna g1))
 simp only at hf
 have hw:0≤w.1∧0≤w.2:=by
  unfold fil at hf
  split at hf<;>split at hf<;>omega
 have hso:0≤Zc6 (!(at' ls v).o) w:=by cases (at' ls v).o<;>simp only[Zc6,Bool.not_true,Bool.not_false,Bool.false_eq_true,if_true,if_false]<;>omega
 obtain⟨j,j1,j2,j3,j4,j5⟩:=b _ _ _ g1 _ hso
 have hjv:j≠v:=by
  intro e1
  subst e1
  cases ho:(at' ls j).o<;>rw[ho]at j5<;>cases j5
 have huniq:∀ x,x<ls.length→isX (at' ls x)=true→(at' ls x).i=(at' ls v).i→x=v∨x=j:=by
  intro x hxl hxx hxi
  obtain⟨p',w',k1,k2⟩:=c x hxl hxx
  rw[hxi,g1]at k1
  cases k1
  by_cases ho:(at' ls x).o=(at' ls v).o
  ·rw[ho,g2]at k2
   exact .inl (by omega)
  ·have:(at' ls x).o = !(at' ls v).o:=by cases h7:(at' ls x).o<;>cases h8:(at' ls v).o<;>rw[h7,h8]at ho<;>simp at ho ⊢
   rw[this,j2]at k2
   exact .inr (by omega)
 have hsg:=d _ _ _ g1 hw.1 hw.2
 refine⟨p,w,j,g1,g2,j2,j1,hjv,j3,j4,j5,?_,huniq,?_⟩
 ·cases ho:(at' ls v).o<;>rw[ho]at g2 j2<;>simp only[Zc6,Bool.not_true,Bool.not_false,Bool.false_eq_true,if_true,if_false]at g2 j2<;>rw[g2,j2]at hsg<;>simp only[Int.toNat_natCast]at hsg
  ·exact hsg.symm
  ·exact hsg
 ·refine Zpb ?_ ?_ ls.length 0 (Nat.zero_le _) (by omega) (by omega)
  ·simp[hjv,j3,j4]
  ·intro x hc hxl
   simp only[Bool.and_eq_true,bne_iff_ne,ne_eq,beq_iff_eq]at hc
   exact(huniq x hxl hc.1.2 hc.2).resolve_left hc.1.1
theorem Z0b {F:Nat} {ls:List Lt} (hl:ls.length≤1000) (hL:ls.all (okC F)=true) (h0:0<ls.length) (hp0:(at' ls 0).k=1) (hr:rkF ls (Zaa ls) ls.length=true) (hc:CrOk ls):Filled ls (crE ls ls.length):=by
 have hG:=Zi4 hL
 refine⟨hl,?_,fun v hv=>?_,fun v hv hk=>Z26 hG hr hv hk,fun v hv hk=>?_⟩
 ·have:0∈axis ls:=mem_axis.2 ⟨h0,by simp[isP,hp0]⟩
  exact List.length_pos_of_mem this
 ·exact Zx5 (List.all_eq_true.1 hL _ (Zcq hv))
 ·obtain⟨p,w,j,g1,g2,g3,g4,_,_,_,_,_,_,g5⟩:=Zeq hc hv (by simp[isX,hk])
  exact⟨p,w,g1,by rw[g5]; exact g3,by rw[g5]; exact g4⟩
end Go.Known
end
