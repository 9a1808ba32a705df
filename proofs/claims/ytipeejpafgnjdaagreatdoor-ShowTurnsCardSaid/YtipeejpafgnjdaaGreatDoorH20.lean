/- Part 20 of the proof: Pf, Pg. -/
import Derived.Test.YtipeejpafgnjdaaGreatDoorH9
import Derived.Test.YtipeejpafgnjdaaGreatDoorH19
set_option linter.all false
section
namespace Go.Known
open Go.Plain
theorem Zfd{n i:Nat}{fw:Bool}(h:i<n):U3 n i fw<2*n:=by
 unfold U3;have:=Nat.mod_lt (i+n - 1) (show 0<n by omega)
 split<;>omega
theorem Zpd{ls:List Lt}{v:Nat}(hv:v<ls.length):∀ k j,j+k≤ls.length→W1 ls v k j<ls.length
 | 0,j,_=>hv
 | k+1,j,hj=>by
  simp only[W1];split
  ·omega
  ·exact Zpd hv k (j+1) (by omega)
theorem Zix{x:Nat}{l:List Nat}(h:x∈l):U1 x l<l.length:=(gS.1 (Zax h).1).1
theorem Znz{ls:List Lt}{ax:List Nat}{d:Nat}(hax:∀ v,v∈ax→v<ls.length)(hm:∀ v,v<ls.length→(at' ls v).k≠2→v∈ax)(h0:0<ax.length)(hd:d<2*ls.length+2*ax.length) :
 Y3 ls ax d<2*ls.length+2*ax.length:=by
 have hget:∀ j,j<ax.length→ax.getD j 0<ls.length:=fun j hj=>by
  rw[List.getD,gE hj];exact hax _ (List.getElem_mem hj)
 have hmod:=fun x=>Nat.mod_lt x h0
 unfold Y3;split
 ·split
  ·exact Nat.lt_of_lt_of_le (Zfd (hget _ (hmod _))) (by omega)
  ·exact Nat.lt_of_lt_of_le (Zfd (hget _ (by omega))) (by omega)
 ·rename_i hlt;have hv:(if d % 2=0 then (d / 2+1) % ls.length else d / 2)<ls.length:=by
   split
   ·exact Nat.mod_lt _ (by omega)
   ·omega
  simp only;generalize (if d % 2=0 then (d / 2+1) % ls.length else d / 2)=v at hv
  split
  ·exact Nat.lt_of_lt_of_le (Zfd (Zpd hv ls.length 0 (by omega))) (by omega)
  ·rename_i hk;have h1:=Zix (hm v hv hk);split
   ·omega
   ·have:=hmod (U1 v ax+ax.length - 1);omega
theorem Zsh{f:Int}{l:Lt}(h:okC f l=true):l.k=1∨l.k=2:=by
 unfold okC at h;split at h
 ·exact .inl ‹_›
 ·split at h
  ·exact .inr ‹_›
  ·cases h
theorem Zgn{F:Nat}{ls:List Lt}(h:ls.all (okC F)=true):Za8 F ls:=by
 intro l hl hp;have:=List.all_eq_true.1 h l hl;simp only[isP,beq_iff_eq]at hp;unfold okC at this;rw[if_pos hp]at this;simp at this;omega
theorem Zqa{ls:List Lt}{m:Nat}:∀ (i p:Nat),p<m → ∃ b,(M4 ls m i)[p]? = some b∧(b=true ↔ ∃ j,j<i∧isP (at' ls j)=true∧pos ls (at' ls j)=p)
 | 0,p,hp=>⟨false,by simp[M4,List.getElem?_replicate,hp],by simp⟩
 | i+1,p,hp=>by
  obtain⟨b,hb,hiff⟩:=Zqa (ls:=ls) (m:=m) i p hp;simp only[M4];by_cases hpi:isP (at' ls i)=true
  ·rw[if_pos hpi,List.getElem?_set,Zpa];by_cases hq:pos ls (at' ls i)=p
   ·exact⟨true,by rw[if_pos hq,if_pos (by omega)],by simp only[true_iff]; exact⟨i,by omega,hpi,hq⟩⟩
   ·refine⟨b,by rw[if_neg hq]; exact hb,hiff.trans ⟨fun⟨j,h1,h2,h3⟩=>⟨j,by omega,h2,h3⟩,fun⟨j,h1,h2,h3⟩=>?_⟩⟩
    rcases Nat.lt_or_ge j i with h4|h4
    ·exact⟨j,h4,h2,h3⟩
    ·have:j=i:=by omega
     subst this;exact absurd h3 hq
  ·rw[if_neg hpi];refine⟨b,hb,hiff.trans ⟨fun⟨j,h1,h2,h3⟩=>⟨j,by omega,h2,h3⟩,fun⟨j,h1,h2,h3⟩=>?_⟩⟩
   rcases Nat.lt_or_ge j i with h4|h4
   ·exact⟨j,h4,h2,h3⟩
   ·have:j=i:=by omega
    subst this;exact absurd h2 hpi
theorem Zph{F:Nat}{ls:List Lt}(hG:Za8 F ls):∀ i,i≤ls.length→rkF ls (Z1 ls) i=true →
 (∀ j,j<i→isP (at' ls j)=true→1≤(at' ls j).r∧(at' ls j).r≤(inG (at' ls j).g ls:Nat)) ∧
 (∀ j k,j<k→k<i→isP (at' ls j)=true→isP (at' ls k)=true→pos ls (at' ls j)≠pos ls (at' ls k))
 | 0,_,_=>⟨fun j hj=>by omega,fun j k _ hk=>by omega⟩
 | i+1,hi,h=>by
  simp only[rkF,bA,Bool.or_eq_true,Bool.not_eq_true',decide_eq_true_eq]at h;obtain⟨h1,h2⟩:=h;obtain⟨a1,a2⟩:=Zph hG i (by omega) h1
  refine⟨fun j hj hp=>?_,fun j k hjk hk hpj hpk=>?_⟩
  ·rcases Nat.lt_or_ge j i with h4|h4
   ·exact a1 j h4 hp
   ·have:j=i:=by omega
    subst this;rcases h2 with h2|h2
    ·rw[hp]at h2; cases h2
    ·exact h2.1
  ·rcases Nat.lt_or_ge k i with h4|h4
   ·exact a2 j k hjk h4 hpj hpk
   ·have:k=i:=by omega
    subst this;rcases h2 with h2|h2
    ·rw[hpk]at h2; cases h2
    ·have hpos:=Zlm hG (R9 (by omega)) hpk h2.1.1 h2.1.2
     obtain⟨b,hb,hiff⟩:=Zqa (ls:=ls) (m:=Z1 ls) k (pos ls (at' ls k)) hpos;have hbf:b=false:=by
      have:=h2.2;rw[List.getD,hb]at this;exact this
     subst hbf;intro he;have:=hiff.2 ⟨j,hjk,hpj,he⟩;cases this
theorem Zl4{F:Nat}{ls:List Lt}(hG:Za8 F ls)(h:rkF ls (Z1 ls) ls.length=true):Zjc ls∧Zft ls:=by
 obtain⟨a1,a2⟩:=Zph hG ls.length (Nat.le_refl _) h;refine⟨fun l hl hp=>?_,fun i j hi hj hpi hpj hg hr=>?_⟩
 ·obtain⟨j,hj,he⟩:=List.getElem_of_mem hl;have:at' ls j=l:=by rw[at',List.getD,gE hj,he]; rfl
  subst this;exact a1 j hj hp
 ·have hpe:pos ls (at' ls i)=pos ls (at' ls j):=by unfold pos; rw[hg,hr]
  rcases Nat.lt_trichotomy i j with h1|h1|h1
  ·exact absurd hpe (a2 i j h1 hj hpi hpj)
  ·exact h1
  ·exact absurd hpe.symm (a2 j i h1 hi hpj hpi)
theorem Zga(ls:List Lt):(Z2 ls).Nodup:=by
 rw[Z2,(Zbc ls ls.length).nodup_iff];exact List.nodup_range.filter _
theorem Zjk{l:List Nat}(h:l.Nodup){i j x:Nat}(hi:l[i]? = some x)(hj:l[j]? = some x):i=j:=by
 obtain⟨h1,h2⟩:=gS.1 hi;obtain⟨h3,h4⟩:=gS.1 hj;exact(List.getElem_inj h).1 (h2.trans h4.symm)
theorem Zq0{F:Nat}{ls:List Lt}(hG:Za8 F ls)(h:rkF ls (Z1 ls) ls.length=true):∀ i,i≤ls.length → ∀ j,j<i→isP (at' ls j)=true→(L6 ls (Z1 ls) i)[pos ls (at' ls j)]? = some j
 | 0,_,j,hj,_=>by omega
 | i+1,hi,j,hj,hp=>by
  obtain⟨a1,a2⟩:=Zph hG ls.length (Nat.le_refl _) h;simp only[L6];by_cases hpi:isP (at' ls i)=true
  ·rw[if_pos hpi,List.getElem?_set,Zkj];obtain⟨r1,r2⟩:=a1 i (by omega) hpi
   have hpos:=Zlm hG (R9 (show i<ls.length by omega)) hpi r1 r2
   rcases Nat.lt_or_ge j i with h4|h4
   ·rw[if_neg (fun e=>a2 j i h4 (by omega) hp hpi e.symm)]
    exact Zq0 hG h i (by omega) j h4 hp
   ·have:j=i:=by omega
    subst this;rw[if_pos rfl,if_pos hpos]
  ·rw[if_neg hpi];rcases Nat.lt_or_ge j i with h4|h4
   ·exact Zq0 hG h i (by omega) j h4 hp
   ·have:j=i:=by omega
    subst this;exact absurd hp hpi
theorem Z2z{F:Nat}{ls:List Lt}(hG:Za8 F ls)(h:rkF ls (Z1 ls) ls.length=true):L6 ls (Z1 ls) ls.length=Z2 ls:=by
 obtain⟨hr,ha⟩:=Zl4 hG h;apply List.ext_getElem?;intro p;rcases Nat.lt_or_ge p (Z1 ls)with hp|hp
 ·obtain⟨j,hj⟩:∃ j,(Z2 ls)[p]? = some j:=⟨_,gE (by rw[O6]; exact hp)⟩
  obtain⟨h1,h2⟩:=mem_axis.1 (List.mem_of_getElem? hj);have h3:=Zq7 ha hr h1 h2;have h4:=Zjk (Zga ls) hj h3;subst h4;rw[hj];exact Zq0 hG h _ (Nat.le_refl _) j h1 h2
 ·rw[List.getElem?_eq_none (by rw[Zkj]; exact hp),List.getElem?_eq_none (by rw[O6]; exact hp)]
theorem Z8p{F:Nat}{ls:List Lt}(hG:Za8 F ls)(h:rkF ls (Z1 ls) ls.length=true){v:Nat}(hv:v<ls.length)(hk:(at' ls v).k=1):S6 ls v=U1 v (Z2 ls)∧U1 v (Z2 ls)<(Z2 ls).length:=by
 obtain⟨hr,ha⟩:=Zl4 hG h;have hp:isP (at' ls v)=true:=by simp[isP,hk]
 have h1:=Zq7 ha hr hv hp;have hm:v∈Z2 ls:=mem_axis.2 ⟨hv,hp⟩;refine⟨?_,Zix hm⟩;unfold S6;rw[if_pos hp];exact Zjk (Zga ls) h1 (Zax hm).1
end Go.Known
end
section
namespace Go.Known
open Go.Plain
theorem Zla{id id':Int}{w:Int×Int}:∀ {E:List Ent} {p:Nat} {v:Int×Int},fnd id E=some (p,v)→fnd id' (E.set p (id,w))=if id'=id then some (p,w)else fnd id' E
 | [],p,v,h=>by cases h
 | (k,u) :: r,p,v,h=>by
  simp only[fnd]at h;by_cases hk:id=k
  ·rw[if_pos hk]at h;cases h;subst hk;simp only[List.set_cons_zero,fnd];split<;>rfl
  ·rw[if_neg hk]at h;cases hr:fnd id r with
   | none=>rw[hr]at h; cases h
   | some pu=>
    obtain⟨q,u'⟩:=pu;rw[hr]at h;cases h;simp only[List.set_cons_succ,fnd];rw[Zla hr];by_cases h1:id'=k
    ·rw[if_pos h1,if_neg (fun e=>hk (e.symm.trans h1))]
     simp[h1]
    ·rw[if_neg h1];by_cases h2:id'=id
     ·rw[if_pos h2,if_pos h2]
     ·rw[if_neg h2,if_neg h2,if_neg h1]
theorem Zo2{id id':Int}{w:Int×Int}:∀ {E:List Ent},fnd id E=none→fnd id' (E++[(id,w)])=if id'=id then some (E.length,w)else fnd id' E
 | [],_=>by simp only[List.nil_append,fnd,List.length_nil]
 | (k,u) :: r,h=>by
  simp only[fnd]at h;by_cases hk:id=k
  ·rw[if_pos hk]at h; cases h
  ·rw[if_neg hk]at h;have hr:fnd id r=none:=by
    cases hr:fnd id r with
    | none=>rfl
    | some pu=>rw[hr]at h; cases h
   simp only[List.cons_append,fnd];rw[Zo2 hr];by_cases h1:id'=k
   ·rw[if_pos h1,if_neg (fun e=>hk (e.symm.trans h1))]
    simp[h1]
   ·rw[if_neg h1];by_cases h2:id'=id
    ·rw[if_pos h2,if_pos h2]; rfl
    ·rw[if_neg h2,if_neg h2,if_neg h1]
def fil(v:Int×Int):Nat:=(if 0≤v.1 then 1 else 0)+(if 0≤v.2 then 1 else 0)
def I3:List Ent→Nat
 | []=>0
 | e :: r=>fil e.2+I3 r
theorem Ztt(v:Int×Int):fil v≤2:=by unfold fil; split<;>split<;>omega
theorem Zwq:∀ (E:List Ent),I3 E≤2*E.length
 | []=>Nat.le_refl _
 | e :: r=>by have:=Zwq r; have:=Ztt e.2; simp only[I3,List.length_cons]; omega
theorem Zvo:∀ {E:List Ent},I3 E=2*E.length → ∀ e,e∈E→fil e.2=2
 | [],_,e,h=>by simp at h
 | x :: r,hs,e,h=>by
  have h1:=Zwq r;have h2:=Ztt x.2;simp only[I3,List.length_cons]at hs;rcases List.mem_cons.1 h with rfl|h
  ·omega
  ·exact Zvo (by omega) e h
theorem Ztz(x:Ent):∀ (E:List Ent),I3 (E++[x])=I3 E+fil x.2
 | []=>by simp[I3]
 | e :: r=>by simp only[List.cons_append,I3,Ztz x r]; omega
theorem Zva{x y:Ent}:∀ {E:List Ent} {p:Nat},E[p]? = some x→I3 (E.set p y)+fil x.2=I3 E+fil y.2
 | [],p,h=>by simp at h
 | e :: r,0,h=>by
  simp only[List.getElem?_cons_zero,oI]at h;subst h;simp only[List.set_cons_zero,I3]; omega
 | e :: r,p+1,h=>by
  simp only[List.getElem?_cons_succ]at h;have:=Zva (y:=y) h;simp only[List.set_cons_succ,I3]; omega
theorem Zrn(o o':Bool)(i:Int)(v:Int×Int):T9 o' (L5 o i v)=if o'=o then i else T9 o' v:=by
 cases o<;>cases o'<;>rfl
theorem Zx3{o:Bool}{i:Int}{v:Int×Int}(hi:0≤i)(hs:T9 o v<0):fil (L5 o i v)=fil v+1:=by
 cases o<;>simp only[T9,bF,if_true,if_false]at hs<;>unfold fil L5<;>simp only[bF,if_true,if_false]
 ·rw[if_pos hi,if_neg (show ¬0≤v.1 by omega)]; try omega
 ·rw[if_pos hi,if_neg (show ¬0≤v.2 by omega)]; try omega
structure CrInv (ls:List Lt) (i:Nat):Prop where
 slot:∀ id p w,fnd id (crE ls i)=some (p,w) → ∀ o,0≤T9 o w → ∃ j:Nat,j<i∧T9 o w=j∧isX (at' ls j)=true∧(at' ls j).i=id∧(at' ls j).o=o
 visit:∀ j,j<i→isX (at' ls j)=true → ∃ p w,fnd (at' ls j).i (crE ls i)=some (p,w)∧T9 (at' ls j).o w=j
 sign:∀ id p w,fnd id (crE ls i)=some (p,w)→0≤w.1→0≤w.2→(at' ls w.1.toNat).s=(at' ls w.2.toNat).s
 sum:I3 (crE ls i)=Z4 isX (ls.take i)
theorem Zno{ls:List Lt}{n:Nat}:∀ i,i≤ls.length→crF ls n i=true→CrInv ls i
 | 0,_,_=>⟨fun id p w h=>(by cases h),fun j hj=>(by omega),fun id p w h=>(by cases h),rfl⟩
 | i+1,hi,h=>by
  simp only[crF,bA,Bool.or_eq_true,Bool.not_eq_true',decide_eq_true_eq]at h;obtain⟨h1,h2⟩:=h;obtain⟨b,c,d,e⟩:=Zno i (by omega) h1
  have htk:=Zag (p:=isX) (ls:=ls) (i:=i) (by omega)
  by_cases hx:isX (at' ls i)=true
  ·have hfit:fitE ls (crE ls i) (at' ls i)=true:=by
    rcases h2 with h2|h2
    ·rw[hx]at h2; cases h2
    ·exact h2.2
   have hE:crE ls (i+1)=updE (crE ls i) (at' ls i).i (at' ls i).o i:=by simp only[crE,if_pos hx]
   rw[if_pos hx]at htk;obtain⟨q,v,hfE,hneg,hsum,hold⟩:∃ (q:Nat) (v:Int×Int),(∀ id',fnd id' (crE ls (i+1))=if id'=(at' ls i).i then some (q,L5 (at' ls i).o i v)else fnd id' (crE ls i)) ∧
    T9 (at' ls i).o v<0∧I3 (crE ls (i+1))=I3 (crE ls i)+1 ∧
    ((fnd (at' ls i).i (crE ls i)=some (q,v)∧(at' ls (T9 (!(at' ls i).o) v).toNat).s=(at' ls i).s)∨(fnd (at' ls i).i (crE ls i)=none∧v=(-1,-1))):=by
    unfold fitE at hfit;cases hf:fnd (at' ls i).i (crE ls i)with
    | none=>
     have hE2:crE ls (i+1)=crE ls i++[((at' ls i).i,L5 (at' ls i).o i (-1,-1))]:=by rw[hE]; unfold updE; rw[hf]
     refine⟨(crE ls i).length,(-1,-1),fun id'=>by rw[hE2,Zo2 hf],by cases (at' ls i).o<;>decide,?_,.inr ⟨rfl,rfl⟩⟩
     rw[hE2,Ztz,Zx3 (by omega) (by cases (at' ls i).o<;>decide)]
     rfl
    | some pv=>
     obtain⟨q,v⟩:=pv;rw[hf]at hfit;simp only[bA,decide_eq_true_eq]at hfit;have hE2:crE ls (i+1)=(crE ls i).set q ((at' ls i).i,L5 (at' ls i).o i v):=by rw[hE]; unfold updE; rw[hf]
     refine⟨q,v,fun id'=>by rw[hE2,Zla hf],hfit.1,?_,.inl ⟨rfl,hfit.2⟩⟩
     have:=Zva (y:=((at' ls i).i,L5 (at' ls i).o i v)) (Zhb hf);simp only at this;rw[Zx3 (by omega) hfit.1]at this
     rw[hE2]; omega
   refine⟨fun id p w hf o ho=>?_,fun j hj hxj=>?_,fun id p w hf hw1 hw2=>?_,by rw[hsum,e,htk]⟩
   ·rw[hfE]at hf;split at hf
    ·rename_i hid;cases hf;rw[Zrn]at ho ⊢;split at ho
     ·rename_i heq;subst heq;rw[if_pos rfl];exact⟨i,by omega,rfl,hx,hid.symm,rfl⟩
     ·rename_i hne;rw[if_neg hne];rcases hold with⟨hf,_⟩|⟨hf,hv⟩
      ·obtain⟨j,j1,j2,j3,j4,j5⟩:=b _ _ _ hf o ho;exact⟨j,by omega,j2,j3,j4.trans hid.symm,j5⟩
      ·subst hv;cases o<;>simp[T9]at ho
    ·obtain⟨j,j1,j2⟩:=b _ _ _ hf o ho;exact⟨j,by omega,j2⟩
   ·rcases Nat.lt_or_ge j i with h4|h4
    ·obtain⟨p,w,g1,g2⟩:=c j h4 hxj;rw[hfE];split
     ·rename_i hid;refine⟨_,_,rfl,?_⟩;rcases hold with⟨hf,_⟩|⟨hf,hv⟩
      ·rw[hid]at g1;rw[g1]at hf;cases hf;rw[Zrn];split
       ·rename_i heq;rw[heq]at g2;omega
       ·exact g2
      ·rw[hid,hf]at g1; cases g1
     ·exact⟨p,w,g1,g2⟩
    ·have:j=i:=by omega
     subst this;rw[hfE,if_pos rfl];exact⟨_,_,rfl,by rw[Zrn,if_pos rfl]⟩
   ·rw[hfE]at hf;split at hf
    ·cases hf;rcases hold with⟨hf,hs⟩|⟨hf,hv⟩
     ·cases ho:(at' ls i).o with
      | true=>
       simp only[ho,L5,T9,if_true,Bool.not_true,bF,if_false]at hs ⊢;rw[hs,Int.toNat_natCast]
      | false=>
       simp only[ho,L5,T9,if_true,Bool.not_false,bF,if_false]at hs ⊢;rw[hs,Int.toNat_natCast]
     ·subst hv;cases ho:(at' ls i).o<;>simp[ho,L5]at hw1 hw2
    ·exact d _ _ _ hf hw1 hw2
  ·have hE:crE ls (i+1)=crE ls i:=by simp only[crE,if_neg hx]
   rw[if_neg hx]at htk;rw[← hE]at b c d e;refine⟨fun id p w hf o ho=>?_,fun j hj hxj=>?_,d,by rw[e,htk]; rfl⟩
   ·obtain⟨j,j1,j2⟩:=b id p w hf o ho;exact⟨j,by omega,j2⟩
   ·rcases Nat.lt_or_ge j i with h4|h4
    ·exact c j h4 hxj
    ·have:j=i:=by omega
     subst this;exact absurd hxj hx
def CrOk(ls:List Lt):Prop:=Y7 ls % 2=0∧crF ls (Y7 ls) ls.length=true∧(crE ls ls.length).length=Y7 ls / 2
theorem Zrh{ls:List Lt}{v j:Nat}(h:(j != v&&isX (at' ls j)&&(at' ls j).i == (at' ls v).i)=true)(hu:∀ x,(x != v&&isX (at' ls x)&&(at' ls x).i == (at' ls v).i)=true→x<ls.length→x=j) :
 ∀ k s,s≤j→j<s+k→s+k≤ls.length→W1 ls v k s=j
 | 0,s,h1,h2,_=>by omega
 | k+1,s,h1,h2,h3=>by
  simp only[W1];split
  ·rename_i hc;exact hu s hc (by omega)
  ·rename_i hc;have:s≠j:=fun e=>hc (by rw[e]; exact h)
   exact Zrh h hu k (s+1) (by omega) (by omega) (by omega)
theorem Zd9{ls:List Lt}(h:CrOk ls){v:Nat}(hv:v<ls.length)(hx:isX (at' ls v)=true) :
 ∃ p w j,fnd (at' ls v).i (crE ls ls.length)=some (p,w)∧T9 (at' ls v).o w=v∧T9 (!(at' ls v).o) w=(j:Nat)∧j<ls.length∧j≠v∧isX (at' ls j)=true∧(at' ls j).i=(at' ls v).i∧(at' ls j).o=(!(at' ls v).o)∧(at' ls j).s=(at' ls v).s ∧
  (∀ x,x<ls.length→isX (at' ls x)=true→(at' ls x).i=(at' ls v).i→x=v∨x=j)∧W1 ls v ls.length 0=j:=by
 obtain⟨h1,h2,h3⟩:=h;obtain⟨b,c,d,e⟩:=Zno ls.length (Nat.le_refl _) h2;rw[List.take_length]at e;have hs:I3 (crE ls ls.length)=2*(crE ls ls.length).length:=by
  rw[e,h3];have:Y7 ls=Z4 isX ls:=rfl;omega
 obtain⟨p,w,g1,g2⟩:=c v hv hx;have hf:=Zvo hs _ (List.mem_of_getElem? (Zhb g1));simp only at hf;have hw:0≤w.1∧0≤w.2:=by
  unfold fil at hf;split at hf<;>split at hf<;>omega
 have hso:0≤T9 (!(at' ls v).o) w:=by cases (at' ls v).o<;>simp only[T9,Bool.not_true,Bool.not_false,bF,if_true,if_false]<;>omega
 obtain⟨j,j1,j2,j3,j4,j5⟩:=b _ _ _ g1 _ hso;have hjv:j≠v:=by
  intro e1;subst e1;cases ho:(at' ls j).o<;>rw[ho]at j5<;>cases j5
 have huniq:∀ x,x<ls.length→isX (at' ls x)=true→(at' ls x).i=(at' ls v).i→x=v∨x=j:=by
  intro x hxl hxx hxi;obtain⟨p',w',k1,k2⟩:=c x hxl hxx;rw[hxi,g1]at k1;cases k1;by_cases ho:(at' ls x).o=(at' ls v).o
  ·rw[ho,g2]at k2;exact .inl (by omega)
  ·have:(at' ls x).o = !(at' ls v).o:=by cases h7:(at' ls x).o<;>cases h8:(at' ls v).o<;>rw[h7,h8]at ho<;>simp at ho ⊢
   rw[this,j2]at k2;exact .inr (by omega)
 have hsg:=d _ _ _ g1 hw.1 hw.2;refine⟨p,w,j,g1,g2,j2,j1,hjv,j3,j4,j5,?_,huniq,?_⟩
 ·cases ho:(at' ls v).o<;>rw[ho]at g2 j2<;>simp only[T9,Bool.not_true,Bool.not_false,bF,if_true,if_false]at g2 j2<;>rw[g2,j2]at hsg<;>simp only[Int.toNat_natCast]at hsg
  ·exact hsg.symm
  ·exact hsg
 ·refine Zrh ?_ ?_ ls.length 0 (Nat.zero_le _) (by omega) (by omega)
  ·simp[hjv,j3,j4]
  ·intro x hc hxl;simp only[bA,bne_iff_ne,ne_eq,beq_iff_eq]at hc;exact(huniq x hxl hc.1.2 hc.2).resolve_left hc.1.1
theorem Zyn{F:Nat}{ls:List Lt}(hl:ls.length≤1000)(hL:ls.all (okC F)=true)(h0:0<ls.length)(hp0:(at' ls 0).k=1)(hr:rkF ls (Z1 ls) ls.length=true)(hc:CrOk ls):Filled ls (crE ls ls.length):=by
 have hG:=Zgn hL;refine⟨hl,?_,fun v hv=>?_,fun v hv hk=>Z8p hG hr hv hk,fun v hv hk=>?_⟩
 ·have:0∈Z2 ls:=mem_axis.2 ⟨h0,by simp[isP,hp0]⟩
  exact List.length_pos_of_mem this
 ·exact Zsh (List.all_eq_true.1 hL _ (R9 hv))
 ·obtain⟨p,w,j,g1,g2,g3,g4,_,_,_,_,_,_,g5⟩:=Zd9 hc hv (by simp[isX,hk])
  exact⟨p,w,g1,by rw[g5]; exact g3,by rw[g5]; exact g4⟩
end Go.Known
end
