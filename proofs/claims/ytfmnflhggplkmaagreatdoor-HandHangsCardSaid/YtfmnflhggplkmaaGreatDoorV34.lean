/- Part 34 of the proof: Pf, Pg. -/
import Derived.Test.YtfmnflhggplkmaaGreatDoorV22
import Derived.Test.YtfmnflhggplkmaaGreatDoorV33
set_option linter.all false
section
namespace Go.Known
open Go.Plain
theorem alongN_lt' {n i:Nat} {fw:Bool} (h:i<n):alongN n i fw<2*n:=by
 unfold alongN
 have:=Nat.mod_lt (i+n - 1) (show 0<n by omega)
 split<;>omega
theorem otherN_lt' {ls:List Lt} {v:Nat} (hv:v<ls.length):∀ k j,j+k≤ls.length→otherN ls v k j<ls.length
 | 0,j,_=>hv
 | k+1,j,hj=>by
  simp only[otherN]
  split
  ·omega
  ·exact otherN_lt' hv k (j+1) (by omega)
theorem idxN_lt' {x:Nat} {l:List Nat} (h:x∈l):idxN x l<l.length:=(List.getElem?_eq_some_iff.1 (idxN_spec h).1).1
theorem turnN_lt' {ls:List Lt} {ax:List Nat} {d:Nat} (hax:∀ v,v∈ax→v<ls.length) (hm:∀ v,v<ls.length→(at' ls v).k≠2→v∈ax) (h0:0<ax.length) (hd:d<2*ls.length+2*ax.length) :
 turnN ls ax d<2*ls.length+2*ax.length:=by
 have hget:∀ j,j<ax.length→ax.getD j 0<ls.length:=fun j hj=>by
  simp_all
 have hmod:=fun x=>Nat.mod_lt x h0
 unfold turnN
 split
 ·split
  ·exact Nat.lt_of_lt_of_le (alongN_lt' (hget _ (hmod _))) (by omega)
  ·exact Nat.lt_of_lt_of_le (alongN_lt' (hget _ (by omega))) (by omega)
 ·rename_i hlt
  have hv:(if d % 2=0 then (d / 2+1) % ls.length else d / 2)<ls.length:=by
   split
   ·exact Nat.mod_lt _ (by omega)
   ·omega
  simp only
  generalize (if d % 2=0 then (d / 2+1) % ls.length else d / 2)=v at hv
  split
  ·exact Nat.lt_of_lt_of_le (alongN_lt' (otherN_lt' hv ls.length 0 (by omega))) (by omega)
  ·rename_i hk
   have h1:=idxN_lt' (hm v hv hk)
   split
   ·omega
   ·have:=hmod (idxN v ax+ax.length - 1)
    omega
theorem okC_kind {f:Int} {l:Lt} (h:okC f l=true):l.k=1∨l.k=2:=by
 unfold okC at h
 grind
theorem gated_of {F:Nat} {ls:List Lt} (h:ls.all (okC F)=true):Gated F ls:=by
 intro l hl hp
 have:=List.all_eq_true.1 h l hl
 simp only[isP,beq_iff_eq]at hp
 unfold okC at this
 grind
theorem takenF_spec {ls:List Lt} {m:Nat}:∀ (i p:Nat),p<m → ∃ b,(takenF ls m i)[p]? = some b∧(b=true ↔ ∃ j,j<i∧isP (at' ls j)=true∧pos ls (at' ls j)=p)
 | 0,p,hp=>⟨false,by simp[takenF,List.getElem?_replicate,hp],by simp⟩
 | i+1,p,hp=>by
  obtain⟨b,hb,hiff⟩:=takenF_spec (ls:=ls) (m:=m) i p hp
  simp only[takenF]
  grind
theorem rkF_spec {F:Nat} {ls:List Lt} (hG:Gated F ls):∀ i,i≤ls.length→rkF ls (passes ls) i=true →
 (∀ j,j<i→isP (at' ls j)=true→1≤(at' ls j).r∧(at' ls j).r≤(inG (at' ls j).g ls:Nat)) ∧
 (∀ j k,j<k→k<i→isP (at' ls j)=true→isP (at' ls k)=true→pos ls (at' ls j)≠pos ls (at' ls k))
 | 0,_,_=>⟨fun j hj=>by omega,fun j k _ hk=>by omega⟩
 | i+1,hi,h=>by
  simp only[rkF,Bool.and_eq_true,Bool.or_eq_true,Bool.not_eq_true',decide_eq_true_eq]at h
  obtain⟨h1,h2⟩:=h
  obtain⟨a1,a2⟩:=rkF_spec hG i (by omega) h1
  refine⟨fun j hj hp=>?_,fun j k hjk hk hpj hpk=>?_⟩
  ·grind
  ·rcases Nat.lt_or_ge k i with h4|h4
   ·grind
   ·have:k=i:=by omega
    subst this
    rcases h2 with h2|h2
    ·grind
    ·have hpos:=pos_lt hG (at'_mem (by omega)) hpk h2.1.1 h2.1.2
     obtain⟨b,hb,hiff⟩:=takenF_spec (ls:=ls) (m:=passes ls) k (pos ls (at' ls k)) hpos
     grind
theorem ranked_of {F:Nat} {ls:List Lt} (hG:Gated F ls) (h:rkF ls (passes ls) ls.length=true):Ranked ls∧Apart ls:=by
 obtain⟨a1,a2⟩:=rkF_spec hG ls.length (Nat.le_refl _) h
 refine⟨fun l hl hp=>?_,fun i j hi hj hpi hpj hg hr=>?_⟩
 ·obtain⟨j,hj,he⟩:=List.getElem_of_mem hl
  have:at' ls j=l:=by rw[at',List.getD,List.getElem?_eq_getElem hj,he]; rfl
  grind
 ·have hpe:pos ls (at' ls i)=pos ls (at' ls j):=by unfold pos; rw[hg,hr]
  grind
theorem axis_nodup (ls:List Lt):(axis ls).Nodup:=by
 rw[axis,(axisN_perm ls ls.length).nodup_iff]
 exact List.nodup_range.filter _
theorem nodup_idx {l:List Nat} (h:l.Nodup) {i j x:Nat} (hi:l[i]? = some x) (hj:l[j]? = some x):i=j:=by
 obtain⟨h1,h2⟩:=List.getElem?_eq_some_iff.1 hi
 obtain⟨h3,h4⟩:=List.getElem?_eq_some_iff.1 hj
 exact(List.getElem_inj h).1 (h2.trans h4.symm)
theorem axisF_at {F:Nat} {ls:List Lt} (hG:Gated F ls) (h:rkF ls (passes ls) ls.length=true):∀ i,i≤ls.length → ∀ j,j<i→isP (at' ls j)=true→(axisF ls (passes ls) i)[pos ls (at' ls j)]? = some j
 | 0,_,j,hj,_=>by omega
 | i+1,hi,j,hj,hp=>by
  obtain⟨a1,a2⟩:=rkF_spec hG ls.length (Nat.le_refl _) h
  simp only[axisF]
  by_cases hpi:isP (at' ls i)=true
  ·rw[if_pos hpi,List.getElem?_set,axisF_length]
   obtain⟨r1,r2⟩:=a1 i (by omega) hpi
   have hpos:=pos_lt hG (at'_mem (show i<ls.length by omega)) hpi r1 r2
   rcases Nat.lt_or_ge j i with h4|h4
   ·rw[if_neg (fun e=>a2 j i h4 (by omega) hp hpi e.symm)]
    exact axisF_at hG h i (by omega) j h4 hp
   grind
  ·rw[if_neg hpi]
   rcases Nat.lt_or_ge j i with h4|h4
   ·exact axisF_at hG h i (by omega) j h4 hp
   grind
theorem axisF_eq {F:Nat} {ls:List Lt} (hG:Gated F ls) (h:rkF ls (passes ls) ls.length=true):axisF ls (passes ls) ls.length=axis ls:=by
 obtain⟨hr,ha⟩:=ranked_of hG h
 apply List.ext_getElem?
 intro p
 rcases Nat.lt_or_ge p (passes ls)with hp|hp
 ·obtain⟨j,hj⟩:∃ j,(axis ls)[p]? = some j:=⟨_,List.getElem?_eq_getElem (by rw[axis_length]; exact hp)⟩
  obtain⟨h1,h2⟩:=mem_axis.1 (List.mem_of_getElem? hj)
  have h3:=axis_at ha hr h1 h2
  have h4:=nodup_idx (axis_nodup ls) hj h3
  subst h4
  rw[hj]
  exact axisF_at hG h _ (Nat.le_refl _) j h1 h2
 ·rw[List.getElem?_eq_none (by rw[axisF_length]; exact hp),List.getElem?_eq_none (by rw[axis_length]; exact hp)]
theorem placeV_eq {F:Nat} {ls:List Lt} (hG:Gated F ls) (h:rkF ls (passes ls) ls.length=true) {v:Nat} (hv:v<ls.length) (hk:(at' ls v).k=1):placeV ls v=idxN v (axis ls)∧idxN v (axis ls)<(axis ls).length:=by
 obtain⟨hr,ha⟩:=ranked_of hG h
 have hp:isP (at' ls v)=true:=by simp[isP,hk]
 have h1:=axis_at ha hr hv hp
 have hm:v∈axis ls:=mem_axis.2 ⟨hv,hp⟩
 refine⟨?_,idxN_lt' hm⟩
 unfold placeV
 rw[if_pos hp]
 exact nodup_idx (axis_nodup ls) h1 (idxN_spec hm).1
end Go.Known
end
section
namespace Go.Known
open Go.Plain
theorem fnd_set {id id':Int} {w:Int×Int}:∀ {E:List Ent} {p:Nat} {v:Int×Int},fnd id E=some (p,v)→fnd id' (E.set p (id,w))=if id'=id then some (p,w)else fnd id' E
 | [],p,v,h=>by cases h
 | (k,u) :: r,p,v,h=>by
  simp only[fnd]at h
  by_cases hk:id=k
  ·rw[if_pos hk]at h
   cases h
   subst hk
   simp only[List.set_cons_zero,fnd]
   split<;>rfl
  ·rw[if_neg hk]at h
   cases hr:fnd id r with
   | none=>rw[hr]at h; cases h
   | some pu=>
    obtain⟨q,u'⟩:=pu
    rw[hr]at h
    cases h
    simp only[List.set_cons_succ,fnd]
    rw[fnd_set hr]
    grind
theorem fnd_snoc {id id':Int} {w:Int×Int}:∀ {E:List Ent},fnd id E=none→fnd id' (E++[(id,w)])=if id'=id then some (E.length,w)else fnd id' E
 | [],_=>by rfl
 | (k,u) :: r,h=>by
  simp only[fnd]at h
  by_cases hk:id=k
  ·grind
  ·rw[if_neg hk]at h
   have hr:fnd id r=none:=by
    cases hr:fnd id r with
    | none=>rfl
    | some pu=>rw[hr]at h; cases h
   simp only[List.cons_append,fnd]
   rw[fnd_snoc hr]
   grind
def fil (v:Int×Int):Nat:=(if 0≤v.1 then 1 else 0)+(if 0≤v.2 then 1 else 0)
def sumF:List Ent→Nat
 | []=>0
 | e :: r=>fil e.2+sumF r
theorem fil_le (v:Int×Int):fil v≤2:=by unfold fil; grind
theorem sumF_le:∀ (E:List Ent),sumF E≤2*E.length
 | []=>Nat.le_refl _
 | e :: r=>by have:=sumF_le r; have:=fil_le e.2; simp only[sumF,List.length_cons]; omega
theorem sumF_full:∀ {E:List Ent},sumF E=2*E.length → ∀ e,e∈E→fil e.2=2
 | [],_,e,h=>by simp at h
 | x :: r,hs,e,h=>by
  have h1:=sumF_le r
  have h2:=fil_le x.2
  simp only[sumF,List.length_cons]at hs
  rcases List.mem_cons.1 h with rfl|h
  ·omega
  ·exact sumF_full (by omega) e h
theorem sumF_snoc (x:Ent):∀ (E:List Ent),sumF (E++[x])=sumF E+fil x.2
 | []=>by simp[sumF]
 | e :: r=>by simp only[List.cons_append,sumF,sumF_snoc x r]; omega
theorem sumF_set {x y:Ent}:∀ {E:List Ent} {p:Nat},E[p]? = some x→sumF (E.set p y)+fil x.2=sumF E+fil y.2
 | [],p,h=>by simp at h
 | e :: r,0,h=>by
  simp only[List.getElem?_cons_zero,Option.some.injEq]at h
  subst h
  simp only[List.set_cons_zero,sumF]; omega
 | e :: r,p+1,h=>by
  simp only[List.getElem?_cons_succ]at h
  have:=sumF_set (y:=y) h
  simp only[List.set_cons_succ,sumF]; omega
theorem slot_put (o o':Bool) (i:Int) (v:Int×Int):slotV o' (putV o i v)=if o'=o then i else slotV o' v:=by
 cases o<;>cases o'<;>rfl
theorem fil_put {o:Bool} {i:Int} {v:Int×Int} (hi:0≤i) (hs:slotV o v<0):fil (putV o i v)=fil v+1:=by
 cases o<;>simp only[slotV,Bool.false_eq_true,if_true,if_false]at hs<;>unfold fil putV<;>simp only[Bool.false_eq_true,if_true,if_false]
 ·rw[if_pos hi,if_neg (show ¬0≤v.1 by omega)]; try omega
 grind
structure CrInv (ls:List Lt) (i:Nat):Prop where
 slot:∀ id p w,fnd id (crE ls i)=some (p,w) → ∀ o,0≤slotV o w → ∃ j:Nat,j<i∧slotV o w=j∧isX (at' ls j)=true∧(at' ls j).i=id∧(at' ls j).o=o
 visit:∀ j,j<i→isX (at' ls j)=true → ∃ p w,fnd (at' ls j).i (crE ls i)=some (p,w)∧slotV (at' ls j).o w=j
 sign:∀ id p w,fnd id (crE ls i)=some (p,w)→0≤w.1→0≤w.2→(at' ls w.1.toNat).s=(at' ls w.2.toNat).s
 sum:sumF (crE ls i)=cntP isX (ls.take i)
theorem crInv {ls:List Lt} {n:Nat}:∀ i,i≤ls.length→crF ls n i=true→CrInv ls i
 | 0,_,_=>⟨fun id p w h=>(by cases h),fun j hj=>(by omega),fun id p w h=>(by cases h),rfl⟩
 | i+1,hi,h=>by
  simp only[crF,Bool.and_eq_true,Bool.or_eq_true,Bool.not_eq_true',decide_eq_true_eq]at h
  obtain⟨h1,h2⟩:=h
  obtain⟨b,c,d,e⟩:=crInv i (by omega) h1
  have htk:=cntP_take (p:=isX) (ls:=ls) (i:=i) (by omega)
  by_cases hx:isX (at' ls i)=true
  ·have hfit:fitE ls (crE ls i) (at' ls i)=true:=by
    grind
   have hE:crE ls (i+1)=updE (crE ls i) (at' ls i).i (at' ls i).o i:=by simp only[crE,if_pos hx]
   rw[if_pos hx]at htk
   obtain⟨q,v,hfE,hneg,hsum,hold⟩:∃ (q:Nat) (v:Int×Int),(∀ id',fnd id' (crE ls (i+1))=if id'=(at' ls i).i then some (q,putV (at' ls i).o i v)else fnd id' (crE ls i)) ∧
    slotV (at' ls i).o v<0∧sumF (crE ls (i+1))=sumF (crE ls i)+1 ∧
    ((fnd (at' ls i).i (crE ls i)=some (q,v)∧(at' ls (slotV (!(at' ls i).o) v).toNat).s=(at' ls i).s)∨(fnd (at' ls i).i (crE ls i)=none∧v=(-1,-1))):=by
    unfold fitE at hfit
    cases hf:fnd (at' ls i).i (crE ls i)with
    | none=>
     have hE2:crE ls (i+1)=crE ls i++[((at' ls i).i,putV (at' ls i).o i (-1,-1))]:=by rw[hE]; unfold updE; rw[hf]
     refine⟨(crE ls i).length,(-1,-1),fun id'=>by rw[hE2,fnd_snoc hf],by cases (at' ls i).o<;>decide,?_,.inr ⟨rfl,rfl⟩⟩
     rw[hE2,sumF_snoc,fil_put (by omega) (by cases (at' ls i).o<;>decide)]
     rfl
    | some pv=>
     obtain⟨q,v⟩:=pv
     rw[hf]at hfit
     simp only[Bool.and_eq_true,decide_eq_true_eq]at hfit
     have hE2:crE ls (i+1)=(crE ls i).set q ((at' ls i).i,putV (at' ls i).o i v):=by rw[hE]; unfold updE; rw[hf]
     refine⟨q,v,fun id'=>by rw[hE2,fnd_set hf],hfit.1,?_,.inl ⟨rfl,hfit.2⟩⟩
     have:=sumF_set (y:=((at' ls i).i,putV (at' ls i).o i v)) (fnd_mem hf)
     simp only at this
     rw[fil_put (by omega) hfit.1]at this
     rw[hE2]; omega
   refine⟨fun id p w hf o ho=>?_,fun j hj hxj=>?_,fun id p w hf hw1 hw2=>?_,by rw[hsum,e,htk]⟩
   ·rw[hfE]at hf
    split at hf
    ·rename_i hid
     cases hf
     rw[slot_put]at ho ⊢
     split at ho
     ·rename_i heq
      subst heq
      rw[if_pos rfl]
      exact⟨i,by omega,rfl,hx,hid.symm,rfl⟩
     ·rename_i hne
      rw[if_neg hne]
      rcases hold with⟨hf,_⟩|⟨hf,hv⟩
      ·obtain⟨j,j1,j2,j3,j4,j5⟩:=b _ _ _ hf o ho
       exact⟨j,by omega,j2,j3,j4.trans hid.symm,j5⟩
      ·subst hv
       cases o<;>simp[slotV]at ho
    grind
   ·rcases Nat.lt_or_ge j i with h4|h4
    ·obtain⟨p,w,g1,g2⟩:=c j h4 hxj
     rw[hfE]
     split
     ·rename_i hid
      refine⟨_,_,rfl,?_⟩
      rcases hold with⟨hf,_⟩|⟨hf,hv⟩
      ·rw[hid]at g1
       rw[g1]at hf
       cases hf
       rw[slot_put]
       split
       ·rename_i heq
        rw[heq]at g2
        omega
       ·exact g2
      ·rw[hid,hf]at g1; cases g1
     grind
    ·have:j=i:=by omega
     subst this
     rw[hfE,if_pos rfl]
     exact⟨_,_,rfl,by rw[slot_put,if_pos rfl]⟩
   ·rw[hfE]at hf
    split at hf
    ·cases hf
     rcases hold with⟨hf,hs⟩|⟨hf,hv⟩
     ·cases ho:(at' ls i).o with
      | true=>
       simp only[ho,putV,slotV,if_true,Bool.not_true,Bool.false_eq_true,if_false]at hs ⊢
       rw[hs,Int.toNat_natCast]
      | false=>
       simp only[ho,putV,slotV,if_true,Bool.not_false,Bool.false_eq_true,if_false]at hs ⊢
       rw[hs,Int.toNat_natCast]
     ·subst hv
      cases ho:(at' ls i).o<;>simp[ho,putV]at hw1 hw2
    grind
  ·have hE:crE ls (i+1)=crE ls i:=by simp only[crE,if_neg hx]
   rw[if_neg hx]at htk
   rw[← hE]at b c d e
   refine⟨fun id p w hf o ho=>?_,fun j hj hxj=>?_,d,by rw[e,htk]; rfl⟩
   ·obtain⟨j,j1,j2⟩:=b id p w hf o ho
    exact⟨j,by omega,j2⟩
   grind
def CrOk (ls:List Lt):Prop:=visits ls % 2=0∧crF ls (visits ls) ls.length=true∧(crE ls ls.length).length=visits ls / 2
theorem otherN_eq {ls:List Lt} {v j:Nat} (h:(j != v&&isX (at' ls j)&&(at' ls j).i == (at' ls v).i)=true) (hu:∀ x,(x != v&&isX (at' ls x)&&(at' ls x).i == (at' ls v).i)=true→x<ls.length→x=j) :
 ∀ k s,s≤j→j<s+k→s+k≤ls.length→otherN ls v k s=j
 | 0,s,h1,h2,_=>by omega
 | k+1,s,h1,h2,h3=>by
  simp only[otherN]
  split
  ·grind
  ·rename_i hc
   have:s≠j:=fun e=>hc (by rw[e]; exact h)
   exact otherN_eq h hu k (s+1) (by omega) (by omega) (by omega)
theorem cross_other {ls:List Lt} (h:CrOk ls) {v:Nat} (hv:v<ls.length) (hx:isX (at' ls v)=true) :
 ∃ p w j,fnd (at' ls v).i (crE ls ls.length)=some (p,w)∧slotV (at' ls v).o w=v∧slotV (!(at' ls v).o) w=(j:Nat)∧j<ls.length∧j≠v∧isX (at' ls j)=true∧(at' ls j).i=(at' ls v).i∧(at' ls j).o=(!(at' ls v).o)∧(at' ls j).s=(at' ls v).s ∧
  (∀ x,x<ls.length→isX (at' ls x)=true→(at' ls x).i=(at' ls v).i→x=v∨x=j)∧otherN ls v ls.length 0=j:=by
 obtain⟨h1,h2,h3⟩:=h
 obtain⟨b,c,d,e⟩:=crInv ls.length (Nat.le_refl _) h2
 rw[List.take_length]at e
 have hs:sumF (crE ls ls.length)=2*(crE ls ls.length).length:=by
  rw[e,h3]
  have:visits ls=cntP isX ls:=rfl
  omega
 obtain⟨p,w,g1,g2⟩:=c v hv hx
 have hf:=sumF_full hs _ (List.mem_of_getElem? (fnd_mem g1))
 simp only at hf
 have hw:0≤w.1∧0≤w.2:=by
  unfold fil at hf
  grind
 have hso:0≤slotV (!(at' ls v).o) w:=by cases (at' ls v).o<;>simp only[slotV,Bool.not_true,Bool.not_false,Bool.false_eq_true,if_true,if_false]<;>omega
 obtain⟨j,j1,j2,j3,j4,j5⟩:=b _ _ _ g1 _ hso
 have hjv:j≠v:=by
  grind
 have huniq:∀ x,x<ls.length→isX (at' ls x)=true→(at' ls x).i=(at' ls v).i→x=v∨x=j:=by
  intro x hxl hxx hxi
  obtain⟨p',w',k1,k2⟩:=c x hxl hxx
  rw[hxi,g1]at k1
  cases k1
  by_cases ho:(at' ls x).o=(at' ls v).o
  ·rw[ho,g2]at k2
   exact .inl (by omega)
  grind
 have hsg:=d _ _ _ g1 hw.1 hw.2
 refine⟨p,w,j,g1,g2,j2,j1,hjv,j3,j4,j5,?_,huniq,?_⟩
 ·cases ho:(at' ls v).o<;>rw[ho]at g2 j2<;>simp only[slotV,Bool.not_true,Bool.not_false,Bool.false_eq_true,if_true,if_false]at g2 j2<;>rw[g2,j2]at hsg<;>simp only[Int.toNat_natCast]at hsg
  ·exact hsg.symm
  ·exact hsg
 ·refine otherN_eq ?_ ?_ ls.length 0 (Nat.zero_le _) (by omega) (by omega)
  ·simp[hjv,j3,j4]
  grind
theorem filled_of {F:Nat} {ls:List Lt} (hl:ls.length≤1000) (hL:ls.all (okC F)=true) (h0:0<ls.length) (hp0:(at' ls 0).k=1) (hr:rkF ls (passes ls) ls.length=true) (hc:CrOk ls):Filled ls (crE ls ls.length):=by
 have hG:=gated_of hL
 refine⟨hl,?_,fun v hv=>?_,fun v hv hk=>placeV_eq hG hr hv hk,fun v hv hk=>?_⟩
 ·have:0∈axis ls:=mem_axis.2 ⟨h0,by simp[isP,hp0]⟩
  grind
 ·exact okC_kind (List.all_eq_true.1 hL _ (at'_mem hv))
 ·obtain⟨p,w,j,g1,g2,g3,g4,_,_,_,_,_,_,g5⟩:=cross_other hc hv (by simp[isX,hk])
  grind
end Go.Known
end
