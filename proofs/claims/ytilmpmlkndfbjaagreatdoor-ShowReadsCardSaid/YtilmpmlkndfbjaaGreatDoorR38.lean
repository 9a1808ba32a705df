/- Part 38 of the proof: Ec. -/
import Derived.Test.YtilmpmlkndfbjaaGreatDoorR37
set_option linter.all false
namespace Go.Known
open Go.Plain
def sdE(m:Nat)(X:List Nd)(e:Nat):Bool:=if e<2*m then e % 2 == 1 else (X.getD ((e - 2*m) / 4) (false,false)).2
def wiE(m a:Nat):Nat:=if a<2*m then bkN a else a - (a - 2*m) % 4+((a - 2*m) % 4+2) % 4
def nxE(m:Nat)(L:List (Nat×Nat))(a:Nat):Nat:=ptn L (wiE m a)
theorem Zle{m:Nat}{X:List Nd}(below:Bool):∀ (f:List Ro) (a:List Nat) (g:List (Nat×Nat)) (c:List Nd) (l:List (Nat×Nat)) (i:List Nd),(∀ e,e∈a→sdE m X e=below)→(∀ p,p∈g→sdE m X p.1=sdE m X p.2) →
 W1 m below f a g c=(true,l,i)→(∃ Y,X=i++Y)→(∃ Z,i=c++Z) ∧ ∀ p,p∈l→sdE m X p.1=sdE m X p.2
 | [],a,g,c,l,i,j,o,h,_=>by
  simp only[W1,pI2,decide_eq_true_eq]at h;obtain⟨rfl,rfl,rfl⟩:=h;exact⟨⟨[],by simp⟩,o⟩
 | r :: f,a,g,c,l,i,j,o,h,v=>by
  simp only[W1]at h;split at h
  ·rename_i t;obtain⟨_,A,B,_,_⟩:=t;refine Zle below f _ _ _ _ _ (fun e b=>j e ?_) (fun p d=>?_) h v
   ·rcases List.mem_append.1 b with b|b
    ·exact List.mem_of_mem_take b
    ·exact List.mem_of_mem_drop b
   ·rcases List.mem_append.1 d with d|d
    ·exact o p d
    ·rw[List.mem_singleton]at d;subst d;rw[j _ (Zco (by omega)),j _ (Zco (by omega))]
  ·split at h
   ·rename_i t;obtain⟨_,A,B,c4,D⟩:=t;have n:∃ Z,i=(c++[(r.2.2.2,below)])++Z:=by
     have:∀ (f:List Ro) (a:List Nat) (g:List (Nat×Nat)) (c:List Nd),W1 m below f a g c=(true,l,i) → ∃ Z,i=c++Z:=by
      intro f
      induction f with
      | nil=>
       intro a g c h;simp only[W1,pI2,decide_eq_true_eq]at h;exact⟨[],by rw[h.2.2]; simp⟩
      | cons r f z=>
       intro a g c h;simp only[W1]at h;split at h
       ·exact z _ _ _ h
       ·split at h
        ·obtain⟨Z,s⟩:=z _ _ _ h;exact⟨_ :: Z,by rw[s]; simp; rfl⟩
        ·cases h
     exact this _ _ _ _ h
    obtain⟨Z,s⟩:=n;obtain⟨Y,w⟩:=v;have y:∀ q,q<4→sdE m X (2*m+4*c.length+q)=below:=fun q F=>by
     unfold sdE;rw[if_neg (by omega),show (2*m+4*c.length+q - 2*m) / 4=c.length by omega,w,s,List.getD,List.append_assoc,List.append_assoc,List.getElem?_append_right (Nat.le_refl _),Nat.sub_self]
     rfl
    obtain⟨E,C⟩:=Zle (X:=X) below f _ _ _ _ _ (fun e b=>by
     rcases List.mem_append.1 b with b|b
     ·rcases List.mem_append.1 b with b|b
      ·exact j e (List.mem_of_mem_take b)
      ·obtain⟨k,u,rfl⟩:=List.mem_map.1 b;have:=List.mem_range.1 u;exact y (k+1) (by omega)
     ·exact j e (List.mem_of_mem_drop b)) (fun p d=>by
     rcases List.mem_append.1 d with d|d
     ·exact o p d
     ·obtain⟨k,u,rfl⟩:=List.mem_map.1 d;have:=List.mem_range.1 u;show sdE m X (a.getD _ 0)=sdE m X (_+_);rw[j _ (Zco (by omega)),y _ (Nat.mod_lt _ (by omega))]) h ⟨Y,w⟩
    exact⟨⟨_ :: Z,by rw[s]; simp; rfl⟩,C⟩
   ·cases h
structure Rdg (m:Nat) (X:List Nd) (L:List (Nat×Nat)):Prop where
 hm:0<m
 nd:(U9 L).Nodup
 en:∀ e,e<2*m+4*X.length↔e∈U9 L
 ev:m % 2=0
 sd:∀ e,e<2*m+4*X.length→sdE m X (ptn L e)=sdE m X e
 cy:Perm1 (tnE m X L) (2*m+4*X.length+2*m)→K1 (tnE m X L) (2*m+4*X.length+2*m)=m+X.length+2
theorem Zsy{m:Nat}{a below:List Ro}{L:List (Nat×Nat)}{X:List Nd}(hm:0<m)(h:P6 m a below=(true,L,X)):Rdg m X L:=by
 obtain⟨y,w,f,F⟩:=Z6l hm h;refine⟨hm,y,w,f,fun e q=>?_,F⟩
 have i:∀ p,p∈L→sdE m X p.1=sdE m X p.2:=by
  unfold P6 at h;obtain⟨n,t,u,v⟩:∃ n t u,W1 m false a (V2 m) [] []=(n,t,u):=⟨_,_,_,rfl⟩
  rw[v]at h;cases n with
  | false=>simp at h
  | true=>
   simp only[if_true]at h;have C:∀ e,e∈V2 m→sdE m X e=false:=fun e f=>by
    obtain⟨k,o,rfl⟩:=List.mem_map.1 f;have:=List.mem_range.1 o;unfold sdE;rw[if_pos (by omega)]
    simp
   have B:∀ e,e∈U2 m→sdE m X e=true:=fun e f=>by
    obtain⟨k,o,rfl⟩:=List.mem_map.1 f;have:=List.mem_range.1 o;unfold sdE;rw[if_pos (by omega)]
    simp
   have d:∀ (j:List Ro) (b:List Nat) (l:List (Nat×Nat)) (g:List Nd),W1 m true j b l g=(true,L,X) → ∃ Z,X=g++Z:=by
    intro j
    induction j with
    | nil=>
     intro b l g h;simp only[W1,pI2,decide_eq_true_eq]at h;exact⟨[],by rw[h.2.2]; simp⟩
    | cons r j z=>
     intro b l g h;simp only[W1]at h;split at h
     ·exact z _ _ _ h
     ·split at h
      ·obtain⟨Z,E⟩:=z _ _ _ h;exact⟨_ :: Z,by rw[E]; simp; rfl⟩
      ·cases h
   obtain⟨Y,D⟩:=d _ _ _ _ h;obtain⟨_,A⟩:=Zle (X:=X) false a _ _ _ _ _ C (fun p i=>by cases i) v ⟨Y,D⟩
   exact(Zle (X:=X) true below _ _ _ _ _ B A h ⟨[],by simp⟩).2
 obtain⟨p,c,s⟩:=mem_flt.1 ((w e).1 q);obtain⟨G,H⟩:=Zla y c;rcases s with rfl|rfl
 ·rw[G]; exact(i p c).symm
 ·rw[H]; exact i p c
section
variable {m:Nat} {X:List Nd} {L:List (Nat×Nat)} (h:Rdg m X L)
include h
theorem Rdg.pt{e:Nat}(a:e<2*m+4*X.length):ptn L e<2*m+4*X.length∧ptn L (ptn L e)=e∧ptn L e≠e:=Zhr h.nd h.en a
omit h in
theorem Zgj{a:Nat}(b:a<2*m):wiE m a=bkN a:=by unfold wiE; rw[if_pos b]
omit h in
theorem Zg6{j q:Nat}(a:q<4):wiE m (2*m+4*j+q)=2*m+4*j+(q+2) % 4:=by
 unfold wiE;rw[if_neg (by omega),show (2*m+4*j+q - 2*m) % 4=q by omega,show 2*m+4*j+q - q=2*m+4*j by omega]
omit h in
theorem Zkf{a:Nat}(b:¬a<2*m)(c:a<2*m+4*X.length):∃ j q,j<X.length∧q<4∧a=2*m+4*j+q:=⟨(a - 2*m) / 4,(a - 2*m) % 4,by omega,by omega,by omega⟩
omit h in
theorem F7{a:Nat}(d:a<2*m+4*X.length):wiE m a<2*m+4*X.length∧wiE m (wiE m a)=a∧wiE m a≠a:=by
 by_cases b:a<2*m
 ·rw[Zgj b];have c:bkN a<2*m:=Zn0 b;refine⟨by omega,by rw[Zgj c,Zt0],?_⟩
  unfold bkN;split<;>omega
 ·obtain⟨j,q,f,e,rfl⟩:=Zkf b d;rw[Zg6 e,Zg6 (Nat.mod_lt _ (by omega))]
  refine⟨?_,?_,?_⟩
  ·have:=Nat.mod_lt (q+2) (show 0<4 by omega)
   omega
  ·congr 1
   have:q=0∨q=1∨q=2∨q=3:=by omega
   rcases this with rfl|rfl|rfl|rfl<;>rfl
  ·have:q=0∨q=1∨q=2∨q=3:=by omega
   rcases this with rfl|rfl|rfl|rfl<;>simp
theorem Z83{a:Nat}(b:a<2*m+4*X.length):nxE m L a<2*m+4*X.length:=(h.pt (F7 b).1).1
theorem Zmq:Perm1 (nxE m L) (2*m+4*X.length):=by
 refine⟨fun d j=>Z83 h j,fun a b f g e=>?_⟩
 have c:=(h.pt (F7 f).1).2.1;have i:=(h.pt (F7 g).1).2.1;have e:ptn L (wiE m a)=ptn L (wiE m b):=e;rw[e,i]at c;rw[← (F7 f).2.1,← c,(F7 g).2.1]
theorem Z5q{a:Nat}(c:a<2*m+4*X.length):nxE m L (wiE m (nxE m L a))=wiE m a:=by
 show ptn L (wiE m (wiE m (ptn L (wiE m a))))=wiE m a;have b:=F7 c;rw[(F7 (h.pt b.1).1).2.1,(h.pt b.1).2.1]
end
def arE(m:Nat)(L:List (Nat×Nat))(t:Nat):Nat:=it (nxE m L) t 0
structure Whl (m:Nat) (X:List Nd) (L:List (Nat×Nat)):Prop where
 back:arE m L (m+2*X.length)=0
 first:∀ t,0<t→t<m+2*X.length→arE m L t≠0
section
variable {m:Nat} {X:List Nd} {L:List (Nat×Nat)} (h:Rdg m X L)
include h
theorem P9(t:Nat):arE m L t<2*m+4*X.length:=H9 (Zmq h) (show 0<2*m+4*X.length by have:=h.hm; omega) t
variable (hw:Whl m X L)
include hw
theorem Zh0{s t:Nat}(f:s<m+2*X.length)(b:t<m+2*X.length)(e:arE m L s=arE m L t):s=t:=by
 have key:∀ s t,s<t→t<m+2*X.length→arE m L s≠arE m L t:=fun s t g b e=>by
  have a:=Zf2 (nxE m L) 0 s (t - s);rw[show s+(t - s)=t by omega]at a
  have d:it (nxE m L) s 0=it (nxE m L) s (it (nxE m L) (t - s) 0):=e.trans a;have:=Zkw (Zmq h) s (show 0<2*m+4*X.length by have:=h.hm; omega) (P9 h (t - s)) d
  exact hw.first (t - s) (by omega) (by omega) this.symm
 rcases Nat.lt_trichotomy s t with c|c|c
 ·exact absurd e (key s t c b)
 ·exact c
 ·exact absurd e.symm (key t s c f)
omit hw in
theorem Zp0:∀ (j s t:Nat),j≤t→arE m L s=wiE m (arE m L t)→arE m L (s+j)=wiE m (arE m L (t - j))
 | 0,s,t,_,e=>e
 | j+1,s,t,d,e=>by
  have c:=Zp0 j s t (by omega) e
  have a:arE m L (s+(j+1))=nxE m L (arE m L (s+j)):=rfl;have b:arE m L (t - j)=nxE m L (arE m L (t - (j+1))):=by
   rw[show t - j=t - (j+1)+1 by omega]
   rfl
  rw[a,c,b,Z5q h (P9 h _)]
omit hw in
theorem Zgi{s t:Nat}:arE m L s≠wiE m (arE m L t):=by
 have key:∀ s t,s≤t→arE m L s≠wiE m (arE m L t):=fun s t f e=>by
  rcases Nat.mod_two_eq_zero_or_one (t - s)with c|c
  ·have:=Zp0 h ((t - s) / 2) s t (by omega) e
   rw[show t - (t - s) / 2=s+(t - s) / 2 by omega]at this
   exact(F7 (P9 h (s+(t - s) / 2))).2.2 this.symm
  ·have:=Zp0 h ((t - s) / 2) s t (by omega) e
   rw[show t - (t - s) / 2=s+(t - s) / 2+1 by omega]at this
   generalize s+(t - s) / 2=u at this;have g:=P9 h u;have a:=P9 h (u+1);have b:arE m L (u+1)=ptn L (wiE m (arE m L u)):=rfl;have d:wiE m (arE m L u)=arE m L (u+1):=by rw[this,(F7 a).2.1]
   rw[d]at b;exact(h.pt a).2.2 b.symm
 rcases Nat.le_total s t with c|c
 ·exact key s t c
 ·intro e;refine key t s c ?_;rw[e,(F7 (P9 h t)).2.1]
def phE(m:Nat)(K:Nat)(L:List (Nat×Nat))(d:Nat):Nat:=
 if d<2*K then (if d % 2=0 then wiE m (arE m L (d / 2))else arE m L ((d / 2+1) % K))else d
omit h hw in
theorem Zlf{K t:Nat}(a:t<K)(b:Bool):phE m K L (T6 K t b)=if b then wiE m (arE m L t)else arE m L t:=by
 cases b with
 | true=>
  have e:T6 K t true=2*t:=rfl;rw[e];unfold phE;rw[if_pos (by omega),if_pos (by omega),show 2*t / 2=t by omega]
  rfl
 | false=>
  have e:T6 K t false=2*((t+K - 1) % K)+1:=rfl;have hm:=Nat.mod_lt (t+K - 1) (show 0<K by omega)
  rw[e];unfold phE;rw[if_pos (by omega),if_neg (by omega),show (2*((t+K - 1) % K)+1) / 2=(t+K - 1) % K by omega,Ziu a]
  simp only[bF,if_false];split
  ·rename_i c;rw[c,show K - 1+1=K by omega,Nat.mod_self]
  ·rw[show t - 1+1=t by omega,Nat.mod_eq_of_lt a]
theorem Z74{t:Nat}(a:t<m+2*X.length):arE m L ((t+1) % (m+2*X.length))=ptn L (wiE m (arE m L t)):=by
 rw[Zgs a];split
 ·rename_i b;have:=hw.back;have e:arE m L (t+1)=ptn L (wiE m (arE m L t)):=rfl;rw[← e,show t+1=m+2*X.length by omega,this]
  rfl
 ·rfl
theorem Ydc{d:Nat}(a:d<2*(m+2*X.length)):phE m (m+2*X.length) L (bkN d)=ptn L (phE m (m+2*X.length) L d):=by
 obtain⟨t,b,l,e⟩:=Zfy a;subst e;have key:∀ d,d<2*(m+2*X.length)→d % 2=0→phE m (m+2*X.length) L (bkN d)=ptn L (phE m (m+2*X.length) L d):=fun d a j=>by
  have f:bkN d=d+1:=by unfold bkN; rw[if_pos j]
  rw[f];unfold phE;rw[if_pos (by omega),if_pos a,if_neg (by omega),if_pos j,show (d+1) / 2=d / 2 by omega]
  exact Z74 h hw (by omega)
 generalize arr (m+2*X.length) t b=d at *;rcases Nat.mod_two_eq_zero_or_one d with c|c
 ·exact key d a c
 ·have f:bkN (bkN d)=d:=Zt0 d;have g:bkN d<2*(m+2*X.length):=Zn0 a;have i:=key (bkN d) g (by unfold bkN; rw[if_neg (by omega)]; omega)
  rw[f]at i;rw[i];have k:phE m (m+2*X.length) L (bkN d)<2*m+4*X.length:=by
   unfold phE;rw[if_pos g];split
   ·exact(F7 (P9 h _)).1
   ·exact P9 h _
  exact(h.pt k).2.1.symm
omit hw in
theorem Zo7{d:Nat}(a:d<2*(m+2*X.length)):phE m (m+2*X.length) L d<2*(m+2*X.length):=by
 unfold phE;rw[if_pos a];split
 ·have:=(F7 (X:=X) (P9 h (d / 2))).1;omega
 ·have:=P9 h ((d / 2+1) % (m+2*X.length));omega
theorem Z9h{d a:Nat}(i:d<2*(m+2*X.length))(c:a<2*(m+2*X.length))(e:phE m (m+2*X.length) L d=phE m (m+2*X.length) L a):d=a:=by
 have g:0<m+2*X.length:=by have:=h.hm; omega
 unfold phE at e;rw[if_pos i,if_pos c]at e;split at e
 ·split at e
  ·have b:arE m L (d / 2)=arE m L (a / 2):=by
    have f:=(F7 (X:=X) (P9 h (d / 2))).2.1;rw[e,(F7 (X:=X) (P9 h (a / 2))).2.1]at f;exact f.symm
   have:=Zh0 h hw (show d / 2<m+2*X.length by omega) (show a / 2<m+2*X.length by omega) b
   omega
  ·exact absurd e.symm (Zgi h)
 ·split at e
  ·exact absurd e (Zgi h)
  ·have b:=Zh0 h hw (Nat.mod_lt _ g) (Nat.mod_lt _ g) e;have:=Zsm (show d / 2<m+2*X.length by omega) (show a / 2<m+2*X.length by omega) b
   omega
end
theorem Zuh{l k:List Nat}(e:l.Nodup)(i:k.Nodup)(g:∀ x,x∈l→x∈k)(f:k.length≤l.length):l.Perm k:=by
 have b:∀ x,x∈k→x∈l:=fun x m=>by
  refine Classical.byContradiction fun j=>?_
  have:=List.Nodup.length_le_of_subset (l₁:=x :: l) (l₂:=k) (List.nodup_cons.2 ⟨j,e⟩) fun y d=>by
   rcases List.mem_cons.1 d with rfl|d
   ·exact m
   ·exact g y d
  rw[List.length_cons]at this;omega
 rw[List.perm_iff_count];intro a;rw[e.count,i.count];by_cases h:a∈l
 ·rw[if_pos h,if_pos (g a h)]
 ·rw[if_neg h,if_neg fun c=>h (b a c)]
end Go.Known
