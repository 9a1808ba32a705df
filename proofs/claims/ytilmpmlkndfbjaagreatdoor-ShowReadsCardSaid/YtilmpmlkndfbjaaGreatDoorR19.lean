/- Part 19 of the proof: Pf, Pg. -/
import Derived.Test.YtilmpmlkndfbjaaGreatDoorR8
import Derived.Test.YtilmpmlkndfbjaaGreatDoorR18
set_option linter.all false
section
namespace Go.Known
open Go.Plain
theorem Zgz{n i:Nat}{fw:Bool}(h:i<n):T6 n i fw<2*n:=by
 unfold T6;have:=Nat.mod_lt (i+n - 1) (show 0<n by omega)
 split<;>omega
theorem Zqz{ls:List Lt}{v:Nat}(a:v<ls.length):∀ k j,j+k≤ls.length→T2 ls v k j<ls.length
 | 0,j,_=>a
 | k+1,j,b=>by
  simp only[T2];split
  ·omega
  ·exact Zqz a k (j+1) (by omega)
theorem Zki{x:Nat}{l:List Nat}(h:x∈l):T8 x l<l.length:=(gS.1 (Zau h).1).1
theorem Zoe{ls:List Lt}{a:List Nat}{d:Nat}(e:∀ v,v∈a→v<ls.length)(hm:∀ v,v<ls.length→(at' ls v).k≠2→v∈a)(h:0<a.length)(n:d<2*ls.length+2*a.length) :
 V1 ls a d<2*ls.length+2*a.length:=by
 have b:∀ j,j<a.length→a.getD j 0<ls.length:=fun j g=>by
  rw[List.getD,gE g];exact e _ (List.getElem_mem g)
 have c:=fun x=>Nat.mod_lt x h
 unfold V1;split
 ·split
  ·exact Nat.lt_of_lt_of_le (Zgz (b _ (c _))) (by omega)
  ·exact Nat.lt_of_lt_of_le (Zgz (b _ (by omega))) (by omega)
 ·rename_i l;have f:(if d % 2=0 then (d / 2+1) % ls.length else d / 2)<ls.length:=by
   split
   ·exact Nat.mod_lt _ (by omega)
   ·omega
  simp only;generalize (if d % 2=0 then (d / 2+1) % ls.length else d / 2)=v at f
  split
  ·exact Nat.lt_of_lt_of_le (Zgz (Zqz f ls.length 0 (by omega))) (by omega)
  ·rename_i i;have m:=Zki (hm v f i);split
   ·omega
   ·have:=c (T8 v a+a.length - 1);omega
theorem Zw2{f:Int}{l:Lt}(h:okC f l=true):l.k=1∨l.k=2:=by
 unfold okC at h;split at h
 ·exact .inl ‹_›
 ·split at h
  ·exact .inr ‹_›
  ·cases h
theorem Zhe{F:Nat}{ls:List Lt}(h:ls.all (okC F)=true):Za2 F ls:=by
 intro l b a;have:=List.all_eq_true.1 h l b;simp only[isP,beq_iff_eq]at a;unfold okC at this;rw[if_pos a]at this;simp at this;omega
theorem Zq8{ls:List Lt}{m:Nat}:∀ (i p:Nat),p<m → ∃ b,(K3 ls m i)[p]? = some b∧(b=true ↔ ∃ j,j<i∧isP (at' ls j)=true∧pos ls (at' ls j)=p)
 | 0,p,f=>⟨false,by simp[K3,List.getElem?_replicate,f],by simp⟩
 | i+1,p,f=>by
  obtain⟨b,g,c⟩:=Zq8 (ls:=ls) (m:=m) i p f;simp only[K3];by_cases a:isP (at' ls i)=true
  ·rw[if_pos a,List.getElem?_set,Zn4];by_cases e:pos ls (at' ls i)=p
   ·exact⟨true,by rw[if_pos e,if_pos (by omega)],by simp only[true_iff]; exact⟨i,by omega,a,e⟩⟩
   ·refine⟨b,by rw[if_neg e]; exact g,c.trans ⟨fun⟨j,h1,h2,h3⟩=>⟨j,by omega,h2,h3⟩,fun⟨j,h1,h2,h3⟩=>?_⟩⟩
    rcases Nat.lt_or_ge j i with d|d
    ·exact⟨j,d,h2,h3⟩
    ·have:j=i:=by omega
     subst this;exact absurd h3 e
  ·rw[if_neg a];refine⟨b,g,c.trans ⟨fun⟨j,h1,h2,h3⟩=>⟨j,by omega,h2,h3⟩,fun⟨j,h1,h2,h3⟩=>?_⟩⟩
   rcases Nat.lt_or_ge j i with d|d
   ·exact⟨j,d,h2,h3⟩
   ·have:j=i:=by omega
    subst this;exact absurd h2 a
theorem Zob{F:Nat}{ls:List Lt}(p:Za2 F ls):∀ i,i≤ls.length→rkF ls (Z3 ls) i=true →
 (∀ j,j<i→isP (at' ls j)=true→1≤(at' ls j).r∧(at' ls j).r≤(inG (at' ls j).g ls:Nat)) ∧
 (∀ j k,j<k→k<i→isP (at' ls j)=true→isP (at' ls k)=true→pos ls (at' ls j)≠pos ls (at' ls k))
 | 0,_,_=>⟨fun j y=>by omega,fun j k _ z=>by omega⟩
 | i+1,hi,h=>by
  simp only[rkF,bA,Bool.or_eq_true,Bool.not_eq_true',decide_eq_true_eq]at h;obtain⟨u,a⟩:=h;obtain⟨s,t⟩:=Zob p i (by omega) u
  refine⟨fun j y q=>?_,fun j k f z l c=>?_⟩
  ·rcases Nat.lt_or_ge j i with d|d
   ·exact s j d q
   ·have:j=i:=by omega
    subst this;rcases a with a|a
    ·rw[q]at a; cases a
    ·exact a.1
  ·rcases Nat.lt_or_ge k i with d|d
   ·exact t j k f d l c
   ·have:k=i:=by omega
    subst this;rcases a with a|a
    ·rw[c]at a; cases a
    ·have n:=Zll p (K2 (by omega)) c a.1.1 a.1.2
     obtain⟨b,v,e⟩:=Zq8 (ls:=ls) (m:=Z3 ls) k (pos ls (at' ls k)) n;have o:b=false:=by
      have:=a.2;rw[List.getD,v]at this;exact this
     subst o;intro w;have:=e.2 ⟨j,f,l,w⟩;cases this
theorem Zm9{F:Nat}{ls:List Lt}(k:Za2 F ls)(h:rkF ls (Z3 ls) ls.length=true):Zj3 ls∧Zg5 ls:=by
 obtain⟨g,f⟩:=Zob k ls.length (Nat.le_refl _) h;refine⟨fun l o p=>?_,fun i j hi e c d n q=>?_⟩
 ·obtain⟨j,e,m⟩:=List.getElem_of_mem o;have:at' ls j=l:=by rw[at',List.getD,gE e,m]; rfl
  subst this;exact g j e p
 ·have b:pos ls (at' ls i)=pos ls (at' ls j):=by unfold pos; rw[n,q]
  rcases Nat.lt_trichotomy i j with a|a|a
  ·exact absurd b (f i j a e c d)
  ·exact a
  ·exact absurd b.symm (f j i a hi d c)
theorem Zj1(ls:List Lt):(Z4 ls).Nodup:=by
 rw[Z4,(Zes ls ls.length).nodup_iff];exact List.nodup_range.filter _
theorem Zih{l:List Nat}(h:l.Nodup){i j x:Nat}(hi:l[i]? = some x)(c:l[j]? = some x):i=j:=by
 obtain⟨d,a⟩:=gS.1 hi;obtain⟨e,b⟩:=gS.1 c;exact(List.getElem_inj h).1 (a.trans b.symm)
theorem Zrf{F:Nat}{ls:List Lt}(d:Za2 F ls)(h:rkF ls (Z3 ls) ls.length=true):∀ i,i≤ls.length → ∀ j,j<i→isP (at' ls j)=true→(K8 ls (Z3 ls) i)[pos ls (at' ls j)]? = some j
 | 0,_,j,l,_=>by omega
 | i+1,hi,j,l,f=>by
  obtain⟨g,k⟩:=Zob d ls.length (Nat.le_refl _) h;simp only[K8];by_cases a:isP (at' ls i)=true
  ·rw[if_pos a,List.getElem?_set,Zlr];obtain⟨m,n⟩:=g i (by omega) a
   have c:=Zll d (K2 (show i<ls.length by omega)) a m n
   rcases Nat.lt_or_ge j i with b|b
   ·rw[if_neg (fun e=>k j i b (by omega) f a e.symm)]
    exact Zrf d h i (by omega) j b f
   ·have:j=i:=by omega
    subst this;rw[if_pos rfl,if_pos c]
  ·rw[if_neg a];rcases Nat.lt_or_ge j i with b|b
   ·exact Zrf d h i (by omega) j b f
   ·have:j=i:=by omega
    subst this;exact absurd f a
theorem Z61{F:Nat}{ls:List Lt}(e:Za2 F ls)(h:rkF ls (Z3 ls) ls.length=true):K8 ls (Z3 ls) ls.length=Z4 ls:=by
 obtain⟨k,i⟩:=Zm9 e h;apply List.ext_getElem?;intro p;rcases Nat.lt_or_ge p (Z3 ls)with a|a
 ·obtain⟨j,b⟩:∃ j,(Z4 ls)[p]? = some j:=⟨_,gE (by rw[H6]; exact a)⟩
  obtain⟨c,d⟩:=mem_axis.1 (List.mem_of_getElem? b);have f:=Zof i k c d;have g:=Zih (Zj1 ls) b f;subst g;rw[b];exact Zrf e h _ (Nat.le_refl _) j c d
 ·rw[List.getElem?_eq_none (by rw[Zlr]; exact a),List.getElem?_eq_none (by rw[H6]; exact a)]
theorem Yau{F:Nat}{ls:List Lt}(d:Za2 F ls)(h:rkF ls (Z3 ls) ls.length=true){v:Nat}(b:v<ls.length)(f:(at' ls v).k=1):O0 ls v=T8 v (Z4 ls)∧T8 v (Z4 ls)<(Z4 ls).length:=by
 obtain⟨g,e⟩:=Zm9 d h;have a:isP (at' ls v)=true:=by simp[isP,f]
 have c:=Zof e g b a;have hm:v∈Z4 ls:=mem_axis.2 ⟨b,a⟩;refine⟨?_,Zki hm⟩;unfold O0;rw[if_pos a];exact Zih (Zj1 ls) c (Zau hm).1
end Go.Known
end
section
namespace Go.Known
open Go.Plain
theorem Zmn{id a:Int}{w:Int×Int}:∀ {E:List Ent} {p:Nat} {v:Int×Int},fnd id E=some (p,v)→fnd a (E.set p (id,w))=if a=id then some (p,w)else fnd a E
 | [],p,v,h=>by cases h
 | (k,u) :: r,p,v,h=>by
  simp only[fnd]at h;by_cases d:id=k
  ·rw[if_pos d]at h;cases h;subst d;simp only[List.set_cons_zero,fnd];split<;>rfl
  ·rw[if_neg d]at h;cases f:fnd id r with
   | none=>rw[f]at h; cases h
   | some g=>
    obtain⟨q,i⟩:=g;rw[f]at h;cases h;simp only[List.set_cons_succ,fnd];rw[Zmn f];by_cases b:a=k
    ·rw[if_pos b,if_neg (fun e=>d (e.symm.trans b))]
     simp[b]
    ·rw[if_neg b];by_cases c:a=id
     ·rw[if_pos c,if_pos c]
     ·rw[if_neg c,if_neg c,if_neg b]
theorem Zpo{id a:Int}{w:Int×Int}:∀ {E:List Ent},fnd id E=none→fnd a (E++[(id,w)])=if a=id then some (E.length,w)else fnd a E
 | [],_=>by simp only[List.nil_append,fnd,List.length_nil]
 | (k,u) :: r,h=>by
  simp only[fnd]at h;by_cases d:id=k
  ·rw[if_pos d]at h; cases h
  ·rw[if_neg d]at h;have f:fnd id r=none:=by
    cases f:fnd id r with
    | none=>rfl
    | some g=>rw[f]at h; cases h
   simp only[List.cons_append,fnd];rw[Zpo f];by_cases b:a=k
   ·rw[if_pos b,if_neg (fun e=>d (e.symm.trans b))]
    simp[b]
   ·rw[if_neg b];by_cases c:a=id
    ·rw[if_pos c,if_pos c]; rfl
    ·rw[if_neg c,if_neg c,if_neg b]
def fil(v:Int×Int):Nat:=(if 0≤v.1 then 1 else 0)+(if 0≤v.2 then 1 else 0)
def H7:List Ent→Nat
 | []=>0
 | e :: r=>fil e.2+H7 r
theorem Ztr(v:Int×Int):fil v≤2:=by unfold fil; split<;>split<;>omega
theorem Zx2:∀ (E:List Ent),H7 E≤2*E.length
 | []=>Nat.le_refl _
 | e :: r=>by have:=Zx2 r; have:=Ztr e.2; simp only[H7,List.length_cons]; omega
theorem Zv6:∀ {E:List Ent},H7 E=2*E.length → ∀ e,e∈E→fil e.2=2
 | [],_,e,h=>by simp at h
 | x :: r,a,e,h=>by
  have b:=Zx2 r;have c:=Ztr x.2;simp only[H7,List.length_cons]at a;rcases List.mem_cons.1 h with rfl|h
  ·omega
  ·exact Zv6 (by omega) e h
theorem Zs1(x:Ent):∀ (E:List Ent),H7 (E++[x])=H7 E+fil x.2
 | []=>by simp[H7]
 | e :: r=>by simp only[List.cons_append,H7,Zs1 x r]; omega
theorem Zu7{x y:Ent}:∀ {E:List Ent} {p:Nat},E[p]? = some x→H7 (E.set p y)+fil x.2=H7 E+fil y.2
 | [],p,h=>by simp at h
 | e :: r,0,h=>by
  simp only[List.getElem?_cons_zero,oI]at h;subst h;simp only[List.set_cons_zero,H7]; omega
 | e :: r,p+1,h=>by
  simp only[List.getElem?_cons_succ]at h;have:=Zu7 (y:=y) h;simp only[List.set_cons_succ,H7]; omega
theorem Zns(o a:Bool)(i:Int)(v:Int×Int):S5 a (J6 o i v)=if a=o then i else S5 a v:=by
 cases o<;>cases a<;>rfl
theorem Zu2{o:Bool}{i:Int}{v:Int×Int}(hi:0≤i)(a:S5 o v<0):fil (J6 o i v)=fil v+1:=by
 cases o<;>simp only[S5,bF,if_true,if_false]at a<;>unfold fil J6<;>simp only[bF,if_true,if_false]
 ·rw[if_pos hi,if_neg (show ¬0≤v.1 by omega)]; try omega
 ·rw[if_pos hi,if_neg (show ¬0≤v.2 by omega)]; try omega
structure CrInv (ls:List Lt) (i:Nat):Prop where
 slot:∀ id p w,fnd id (crE ls i)=some (p,w) → ∀ o,0≤S5 o w → ∃ j:Nat,j<i∧S5 o w=j∧isX (at' ls j)=true∧(at' ls j).i=id∧(at' ls j).o=o
 visit:∀ j,j<i→isX (at' ls j)=true → ∃ p w,fnd (at' ls j).i (crE ls i)=some (p,w)∧S5 (at' ls j).o w=j
 sign:∀ id p w,fnd id (crE ls i)=some (p,w)→0≤w.1→0≤w.2→(at' ls w.1.toNat).s=(at' ls w.2.toNat).s
 sum:H7 (crE ls i)=Z5 isX (ls.take i)
theorem Zkt{ls:List Lt}{n:Nat}:∀ i,i≤ls.length→crF ls n i=true→CrInv ls i
 | 0,_,_=>⟨fun id p w h=>(by cases h),fun j O=>(by omega),fun id p w h=>(by cases h),rfl⟩
 | i+1,hi,h=>by
  simp only[crF,bA,Bool.or_eq_true,Bool.not_eq_true',decide_eq_true_eq]at h;obtain⟨S,C⟩:=h;obtain⟨b,c,d,e⟩:=Zkt i (by omega) S
  have u:=Zba (p:=isX) (ls:=ls) (i:=i) (by omega)
  by_cases B:isX (at' ls i)=true
  ·have f:fitE ls (crE ls i) (at' ls i)=true:=by
    rcases C with C|C
    ·rw[B]at C; cases C
    ·exact C.2
   have J:crE ls (i+1)=updE (crE ls i) (at' ls i).i (at' ls i).o i:=by simp only[crE,if_pos B]
   rw[if_pos B]at u;obtain⟨q,v,t,P,F,m⟩:∃ (q:Nat) (v:Int×Int),(∀ r,fnd r (crE ls (i+1))=if r=(at' ls i).i then some (q,J6 (at' ls i).o i v)else fnd r (crE ls i)) ∧
    S5 (at' ls i).o v<0∧H7 (crE ls (i+1))=H7 (crE ls i)+1 ∧
    ((fnd (at' ls i).i (crE ls i)=some (q,v)∧(at' ls (S5 (!(at' ls i).o) v).toNat).s=(at' ls i).s)∨(fnd (at' ls i).i (crE ls i)=none∧v=(-1,-1))):=by
    unfold fitE at f;cases a:fnd (at' ls i).i (crE ls i)with
    | none=>
     have k:crE ls (i+1)=crE ls i++[((at' ls i).i,J6 (at' ls i).o i (-1,-1))]:=by rw[J]; unfold updE; rw[a]
     refine⟨(crE ls i).length,(-1,-1),fun r=>by rw[k,Zpo a],by cases (at' ls i).o<;>decide,?_,.inr ⟨rfl,rfl⟩⟩
     rw[k,Zs1,Zu2 (by omega) (by cases (at' ls i).o<;>decide)]
     rfl
    | some Y=>
     obtain⟨q,v⟩:=Y;rw[a]at f;simp only[bA,decide_eq_true_eq]at f;have k:crE ls (i+1)=(crE ls i).set q ((at' ls i).i,J6 (at' ls i).o i v):=by rw[J]; unfold updE; rw[a]
     refine⟨q,v,fun r=>by rw[k,Zmn a],f.1,?_,.inl ⟨rfl,f.2⟩⟩
     have:=Zu7 (y:=((at' ls i).i,J6 (at' ls i).o i v)) (Zha a);simp only at this;rw[Zu2 (by omega) f.1]at this
     rw[k]; omega
   refine⟨fun id p w a o g=>?_,fun j O z=>?_,fun id p w a G H=>?_,by rw[F,e,u]⟩
   ·rw[t]at a;split at a
    ·rename_i l;cases a;rw[Zns]at g ⊢;split at g
     ·rename_i A;subst A;rw[if_pos rfl];exact⟨i,by omega,rfl,B,l.symm,rfl⟩
     ·rename_i N;rw[if_neg N];rcases m with⟨a,_⟩|⟨a,L⟩
      ·obtain⟨j,Q,I,U,V,X⟩:=b _ _ _ a o g;exact⟨j,by omega,I,U,V.trans l.symm,X⟩
      ·subst L;cases o<;>simp[S5]at g
    ·obtain⟨j,Q,I⟩:=b _ _ _ a o g;exact⟨j,by omega,I⟩
   ·rcases Nat.lt_or_ge j i with E|E
    ·obtain⟨p,w,D,M⟩:=c j E z;rw[t];split
     ·rename_i l;refine⟨_,_,rfl,?_⟩;rcases m with⟨a,_⟩|⟨a,L⟩
      ·rw[l]at D;rw[D]at a;cases a;rw[Zns];split
       ·rename_i A;rw[A]at M;omega
       ·exact M
      ·rw[l,a]at D; cases D
     ·exact⟨p,w,D,M⟩
    ·have:j=i:=by omega
     subst this;rw[t,if_pos rfl];exact⟨_,_,rfl,by rw[Zns,if_pos rfl]⟩
   ·rw[t]at a;split at a
    ·cases a;rcases m with⟨a,K⟩|⟨a,L⟩
     ·cases g:(at' ls i).o with
      | true=>
       simp only[g,J6,S5,if_true,Bool.not_true,bF,if_false]at K ⊢;rw[K,Int.toNat_natCast]
      | false=>
       simp only[g,J6,S5,if_true,Bool.not_false,bF,if_false]at K ⊢;rw[K,Int.toNat_natCast]
     ·subst L;cases g:(at' ls i).o<;>simp[g,J6]at G H
    ·exact d _ _ _ a G H
  ·have J:crE ls (i+1)=crE ls i:=by simp only[crE,if_neg B]
   rw[if_neg B]at u;rw[← J]at b c d e;refine⟨fun id p w a o g=>?_,fun j O z=>?_,d,by rw[e,u]; rfl⟩
   ·obtain⟨j,Q,I⟩:=b id p w a o g;exact⟨j,by omega,I⟩
   ·rcases Nat.lt_or_ge j i with E|E
    ·exact c j E z
    ·have:j=i:=by omega
     subst this;exact absurd z B
def CrOk(ls:List Lt):Prop:=X7 ls % 2=0∧crF ls (X7 ls) ls.length=true∧(crE ls ls.length).length=X7 ls / 2
theorem Zoq{ls:List Lt}{v j:Nat}(h:(j != v&&isX (at' ls j)&&(at' ls j).i == (at' ls v).i)=true)(b:∀ x,(x != v&&isX (at' ls x)&&(at' ls x).i == (at' ls v).i)=true→x<ls.length→x=j) :
 ∀ k s,s≤j→j<s+k→s+k≤ls.length→T2 ls v k s=j
 | 0,s,c,d,_=>by omega
 | k+1,s,c,d,f=>by
  simp only[T2];split
  ·rename_i a;exact b s a (by omega)
  ·rename_i a;have:s≠j:=fun e=>a (by rw[e]; exact h)
   exact Zoq h b k (s+1) (by omega) (by omega) (by omega)
theorem Zfk{ls:List Lt}(h:CrOk ls){v:Nat}(M:v<ls.length)(N:isX (at' ls v)=true) :
 ∃ p w j,fnd (at' ls v).i (crE ls ls.length)=some (p,w)∧S5 (at' ls v).o w=v∧S5 (!(at' ls v).o) w=(j:Nat)∧j<ls.length∧j≠v∧isX (at' ls j)=true∧(at' ls j).i=(at' ls v).i∧(at' ls j).o=(!(at' ls v).o)∧(at' ls j).s=(at' ls v).s ∧
  (∀ x,x<ls.length→isX (at' ls x)=true→(at' ls x).i=(at' ls v).i→x=v∨x=j)∧T2 ls v ls.length 0=j:=by
 obtain⟨P,H,I⟩:=h;obtain⟨b,c,d,e⟩:=Zkt ls.length (Nat.le_refl _) H;rw[List.take_length]at e;have L:H7 (crE ls ls.length)=2*(crE ls ls.length).length:=by
  rw[e,I];have:X7 ls=Z5 isX ls:=rfl;omega
 obtain⟨p,w,l,m⟩:=c v M N;have t:=Zv6 L _ (List.mem_of_getElem? (Zha l));simp only at t;have B:0≤w.1∧0≤w.2:=by
  unfold fil at t;split at t<;>split at t<;>omega
 have u:0≤S5 (!(at' ls v).o) w:=by cases (at' ls v).o<;>simp only[S5,Bool.not_true,Bool.not_false,bF,if_true,if_false]<;>omega
 obtain⟨j,O,q,C,D,A⟩:=b _ _ _ l _ u;have n:j≠v:=by
  intro G;subst G;cases g:(at' ls j).o<;>rw[g]at A<;>cases A
 have a:∀ x,x<ls.length→isX (at' ls x)=true→(at' ls x).i=(at' ls v).i→x=v∨x=j:=by
  intro x k z y;obtain⟨Q,w',E,F⟩:=c x k z;rw[y,l]at E;cases E;by_cases g:(at' ls x).o=(at' ls v).o
  ·rw[g,m]at F;exact .inl (by omega)
  ·have:(at' ls x).o = !(at' ls v).o:=by cases J:(at' ls x).o<;>cases K:(at' ls v).o<;>rw[J,K]at g<;>simp at g ⊢
   rw[this,q]at F;exact .inr (by omega)
 have f:=d _ _ _ l B.1 B.2;refine⟨p,w,j,l,m,q,O,n,C,D,A,?_,a,?_⟩
 ·cases g:(at' ls v).o<;>rw[g]at m q<;>simp only[S5,Bool.not_true,Bool.not_false,bF,if_true,if_false]at m q<;>rw[m,q]at f<;>simp only[Int.toNat_natCast]at f
  ·exact f.symm
  ·exact f
 ·refine Zoq ?_ ?_ ls.length 0 (Nat.zero_le _) (by omega) (by omega)
  ·simp[n,C,D]
  ·intro x r k;simp only[bA,bne_iff_ne,ne_eq,beq_iff_eq]at r;exact(a x k r.1.2 r.2).resolve_left r.1.1
theorem Ya2{F:Nat}{ls:List Lt}(n:ls.length≤1000)(e:ls.all (okC F)=true)(i:0<ls.length)(c:(at' ls 0).k=1)(o:rkF ls (Z3 ls) ls.length=true)(m:CrOk ls):Filled ls (crE ls ls.length):=by
 have l:=Zhe e;refine⟨n,?_,fun v a=>?_,fun v a b=>Yau l o a b,fun v a b=>?_⟩
 ·have:0∈Z4 ls:=mem_axis.2 ⟨i,by simp[isP,c]⟩
  exact List.length_pos_of_mem this
 ·exact Zw2 (List.all_eq_true.1 e _ (K2 a))
 ·obtain⟨p,w,j,f,q,g,h,_,_,_,_,_,_,d⟩:=Zfk m a (by simp[isX,b])
  exact⟨p,w,f,by rw[d]; exact g,by rw[d]; exact h⟩
end Go.Known
end
