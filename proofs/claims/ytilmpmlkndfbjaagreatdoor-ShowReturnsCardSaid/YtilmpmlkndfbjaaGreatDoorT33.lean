/- Part 33 -/
import Derived.Test.YtilmpmlkndfbjaaGreatDoorT31
import Derived.Test.YtilmpmlkndfbjaaGreatDoorT32
set_option linter.all false
open List (map_cons mem_cons_self flatMap_cons map_take map_map)
section
namespace Go.Ad
open Go.Plain
theorem lW{φ:Int->Int}{x:Int}:∀{met:List Int},(∀z,z∈met->φ x=φ z->x=z)->V0 (φ x) (met.map φ)=V0 x met
 |[],_=>rfl
 |z::r,h=>by
  have b:=lW (φ:=φ) (x:=x) (met:=r) λw a=>h w (List.mem_cons_of_mem _ a);simp only[map_cons,V0,b];grind
theorem bT{met:List Int}{l:Lt}{x:Int}(h:x∈M9 met l):x∈met\/(l.k=2/\l.i=x):=by
 unfold M9 at h;grind
theorem sy{φ:Int->Int}:∀(v:List Lt) (met:List Int),(∀x y,(x∈met \/ ∃a,a∈v/\a.k=2/\a.i=x)->(y∈met \/ ∃a,a∈v/\a.k=2/\a.i=y)->φ x=φ y->x=y)->GW (met.map φ) (v.map (ap φ))=GW met v
 |[],_,_=>rfl
 |l::r,met,h=>by
  have m:M9 (met.map φ) (ap φ l)=(M9 met l).map φ:=by
   unfold M9;rw[ET];by_cases b:l.k=2
   ·have hi:V0 (φ l.i) (met.map φ)=V0 l.i met:=lW λz g e=>h _ _ (.inr ⟨l,mem_cons_self ..,b,rfl⟩) (.inl g) e;rw[J2 b];grind
   simp[b]
  have n:Ep (met.map φ) (ap φ l)=Ep met l:=by
   unfold Ep;rw[ET,m];by_cases b:l.k=2
   ·have hi:V0 (φ l.i) ((M9 met l).map φ)=V0 l.i (M9 met l):=lW λz g e=>by
     refine h _ _ (.inr ⟨l,mem_cons_self ..,b,rfl⟩) ?_ e;rcases bT g with c|⟨c,j⟩
     ·exact .inl c
     grind
    rw[iP b,iP b,J2 b];simp only[hi]
   rw[iN b,iN b,A1 b]
  simp only[map_cons,GW,n,m]
  congr 1
  refine sy r (M9 met l) λx y o p=>h x y ?_ ?_
  ·rcases o with c|⟨a,c,j⟩
   ·rcases bT c with d|⟨d,f⟩
    ·exact .inl d
    exact .inr ⟨l,mem_cons_self ..,d,f⟩
   grind
  rcases p with c|⟨a,c,j⟩
  ·rcases bT c with d|⟨d,f⟩
   ·exact .inl d
   exact .inr ⟨l,mem_cons_self ..,d,f⟩
  grind
theorem z7{φ:Int->Int}{v:List Lt}(h:GB φ v):X7 (v.map (ap φ))=X7 v:=by
 refine sy v [] λx y j k d=>?_;rcases j with c|⟨a,e,f,rfl⟩
 ·cases c
 rcases k with c|⟨b,g,i,rfl⟩
 ·cases c
 exact h a e b g f i d
theorem Oh{y:List Lt}{s p:Nat}(a:s<y.length)(c:p<y.length):at' (U2 s y) p=at' y (BF y.length true s p):=by
 have b:=I5 (e:=true) a c;have f:CN y.length s (BF y.length true s p)=p:=by
  rw[RQ a b];unfold BF;simp only[if_true];split<;>split<;>omega
 have d:=nH a b;grind
theorem Zyd{y u:List Lt}(h:De true y u)(d:As (at' u 0)=true):∃i,i<y.length/\(As (at' y i)&&down y i)=true/\X7 u=M3 y i:=by
 obtain⟨j,s,φ,f,hi,g⟩:=h;obtain⟨k,l⟩:=g 0 (by omega);rw[Xu f]at k l;have m:As (at' y s)=true:=by rw[k,Vh]at d;exact d
 have q:down y s=true:=by
  have e:=l d;have t:down u 0=true:=rfl;grind
 refine⟨s,f,by rw[m,q];rfl,?_⟩;have r:u=(U2 s y).map (ap φ):=by
  refine SB (by rw[lM,A6,j]) λp c=>?_;rw[j]at c;rw[(g p c).1,Py (by rw[A6];exact c),Oh f c]
 rw[r];unfold M3;refine z7 λa n b o=>hi a ?_ b ?_
 ·unfold U2 at n;grind
 unfold U2 at o;grind
theorem Z8c{y u:List Lt}{e:Bool}(f:Ev y)(h:De e y u)(b:As (at' u 0)=true):Cn y (X7 u):=by
 cases e with
 |true=>exact .inl (Zyd h b)
 |false=>
  obtain⟨i,a,c,d⟩:=Zyd ((VW f).symm.trans h) b;rw[Qi]at a;exact .inr ⟨i,a,c,d⟩
theorem Yiw(u:List Lt):X7 (X7 u)=X7 u:=by
 conv=>lhs;rw[Xt u]
 exact z7 (z8 u)
theorem Zz1{y w:List Lt}(h:Ev y)(d:Cn y w):As (at' w 0)=true/\X7 w=w:=by
 have key:∀(l:List Lt) (i:Nat),i<l.length->As (at' l i)=true->As (at' (M3 l i) 0)=true/\X7 (M3 l i)=M3 l i:=λl i hi c=>by
  refine⟨?_,Yiw _⟩;unfold M3;rw[Xt,Py (by rw[A6];omega),Vh,Oh hi (by omega),Xu hi];exact c
 rcases d with⟨i,b,a,rfl⟩|⟨i,b,a,rfl⟩
 ·grind
 simp only[bA]at a;exact key _ _ (by rw[Qi];exact b) a.1
theorem zG{y x:List Lt}{e:Bool}(b:Ev y)(f:Ev x)(h:De e y x)(w:List Lt):Cn y w->Cn x w:=λa=>by
 obtain⟨g,c⟩:=dD b a;obtain⟨d,i⟩:=Zz1 b a;have:=Z8c f (h.symm.trans c) d;grind
theorem zd:∀{a b c:List Int},Hh a b=true->Hh b c=true->Hh a c=true
 |[],_,_,h,_=>by simp[Hh]at h
 |_::_,[],_,h,_=>by simp[Hh]at h
 |_::_,_::_,[],_,h=>by simp[Hh]at h
 |x::r,y::s,z::t,g,f=>by
  simp only[Hh]at g f ⊢;by_cases d:x=y
  ·rw[iP d]at g;by_cases e:y=z
   ·rw[iP e]at f;rw[iP (d.trans e)];exact zd g f
   rw[iN e]at f;rw[iN (by rw[d];exact e),d];exact f
  grind
theorem qk:∀{a b:List Int},a.length=b.length->Hh a b=false->Hh b a=false->a=b
 |[],[],_,_,_=>rfl
 |[],_::_,h,_,_=>by simp at h
 |_::_,[],h,_,_=>by simp at h
 |x::r,y::s,h,d,e=>by
  simp only[Hh]at d e;by_cases c:x=y
  ·rw[iP c]at d;rw[iP c.symm]at e;rw[c,qk (by simpa using h) d e]
  grind
theorem Zwy:∀{p q r s:List Int},p.length=q.length->Hh (p++r) (q++s)=if p=q then Hh r s else Hh p q
 |[],[],_,_,_=>by simp
 |[],_::_,_,_,h=>by simp at h
 |_::_,[],_,_,h=>by simp at h
 |x::p,y::q,r,s,h=>by
  have a:=Zwy (p:=p) (q:=q) (r:=r) (s:=s) (by simpa using h);simp only[List.cons_append,Hh,List.cons.injEq];grind
theorem Zxv{a b:Lt}(h:Gm a=Gm b):a=b:=by
 unfold Gm at h;simp only[List.cons.injEq,and_true]at h;obtain⟨m,n,p,q,c,r⟩:=h;have s:a.o=b.o:=by cases d:a.o<;>cases e:b.o<;>rw[d,e]at c<;>simp at c ⊢
 obtain⟨f,g,i,j,k,l⟩:=a;simp_all
def Hu(w:List Lt):List Int:=w.flatMap Gm
theorem oH:∀w:List Lt,(Hu w).length=6*w.length
 |[]=>rfl
 |a::r=>by
  have:=oH r;unfold Hu at this ⊢;rw[flatMap_cons,lA,this];simp[Gm];omega
theorem UR:∀{a b:List Lt},a.length=b.length->E9 a b=Hh (Hu a) (Hu b)
 |[],[],_=>rfl
 |[],_::_,h=>by simp at h
 |_::_,[],h=>by simp at h
 |x::r,y::s,h=>by
  have d:=UR (a:=r) (b:=s) (by simpa using h);unfold Hu at d ⊢;rw[flatMap_cons,flatMap_cons,Zwy (by simp[Gm]),Yad,<-d];simp only[E9];by_cases c:x=y
  ·grind
  rw[iN c,iN (λe=>c (Zxv e))]
theorem Zy9:∀{a b:List Lt},a.length=b.length->Hu a=Hu b->a=b
 |[],[],_,_=>rfl
 |[],_::_,h,_=>by simp at h
 |_::_,[],h,_=>by simp at h
 |x::r,y::s,h,e=>by
  unfold Hu at e;rw[flatMap_cons,flatMap_cons]at e;obtain⟨c,d⟩:=List.append_inj e (by simp[Gm]);rw[Zxv c,Zy9 (by simpa using h) d]
def OI(z:Option (List Lt))(n:Nat)(S:List Lt→Prop):Prop:=
 match z with
 | none=>∀ u,¬S u
 | some w=>S w ∧ ∀ u,S u→u.length=n∧E9 u w=false
theorem OI.congr{z:Option (List Lt)}{n:Nat}{S T:List Lt->Prop}(h:OI z n S)(a:∀u,S u↔T u):OI z n T:=by
 cases z with
 |none=>exact λu b=>h u ((a u).2 b)
 |some w=>exact ⟨(a w).1 h.1,λu b=>h.2 u ((a u).2 b)⟩
theorem Yl2{l:List Lt}{i n:Nat}{z:Option (List Lt)}{S:List Lt->Prop}(p:l.length=n)(h:OI z n S):OI (Ny l i z) n (λu=>S u\/((As (at' l i)&&down l i)=true/\u=M3 l i)):=by
 have e:(M3 l i).length=n:=by rw[aX,p]
 unfold Ny;by_cases c:(As (at' l i)&&down l i)=true
 ·rw[iP c];cases z with
  |none=>
   refine⟨.inr ⟨c,rfl⟩,λu f=>?_⟩;rcases f with b|⟨_,rfl⟩
   ·exact absurd b (h u)
   exact⟨e,qF _⟩
  |some w=>
   obtain⟨k,hm⟩:=h;have d:=(hm w k).1;simp only;by_cases a:E9 (M3 l i) w=true
   ·rw[iP a];refine⟨.inr ⟨c,rfl⟩,λu f=>?_⟩;rcases f with b|⟨_,rfl⟩
    ·obtain⟨g,q⟩:=hm u b;refine⟨g,?_⟩;cases m:E9 u (M3 l i)with
     |false=>rfl
     |true=>
      rw[UR (by rw[g,e])]at m;rw[UR (by rw[e,d])]at a;have:=zd m a;rw[<-UR (by rw[g,d]),q]at this;cases this
    exact⟨e,qF _⟩
   have j:E9 (M3 l i) w=false:=by simpa using a
   rw[iN a];refine⟨.inl k,λu f=>?_⟩;grind
 rw[iN c];exact h.congr λu=>⟨.inl,λb=>b.elim id λo=>absurd o.1 c⟩
theorem lH{l:List Lt}{n:Nat}{z:Option (List Lt)}{S:List Lt->Prop}(d:l.length=n)(h:OI z n S):∀k,OI (D6 l z k) n (λu=>S u \/ ∃i,i<k/\(As (at' l i)&&down l i)=true/\u=M3 l i)
 |0=>h.congr λu=>⟨.inl,λb=>b.elim id λ⟨i,a,_⟩=>by omega⟩
 |k+1=>by
  refine(Yl2 d (lH d h k)).congr λu=>⟨λb=>?_,λb=>?_⟩
  ·rcases b with(a|⟨i,a,c⟩)|⟨a,c⟩
   ·exact .inl a
   ·exact .inr ⟨i,by omega,c⟩
   exact .inr ⟨k,by omega,a,c⟩
  grind
theorem jX(y:List Lt):OI (Il y) y.length (Cn y):=by
 have a:OI none y.length (λ_=>False):=λ_ h=>h;have b:=lH (l:=y) rfl a y.length;have c:=lH (l:=Q6 y) (Qi y) b y.length;refine c.congr λu=>⟨λh=>?_,λh=>?_⟩
 ·rcases h with(h|h)|h
  ·exact h.elim
  ·exact .inl h
  exact .inr h
 rcases h with h|h
 ·exact .inl (.inr h)
 exact .inr h
theorem Yk5{y x:List Lt}(k:x.length=y.length)(h:∀w,Cn y w↔Cn x w):R8 y=R8 x:=by
 have c:=jX y;have b:=jX x;unfold R8;cases g:Il y with
 |none=>
  rw[g]at c;cases d:Il x with
  |none=>rfl
  |some v=>rw[d]at b;exact absurd ((h v).2 b.1) (c v)
 |some w=>
  rw[g]at c;cases d:Il x with
  |none=>rw[d]at b;exact absurd ((h w).1 c.1) (b w)
  |some v=>
   rw[d]at b;obtain⟨i,e⟩:=c.2 v ((h v).2 b.1);obtain⟨j,f⟩:=b.2 w ((h w).1 c.1);have a:v.length=w.length:=by rw[i,j,k]
   rw[UR a]at e;rw[UR a.symm]at f;exact(Zy9 a (qk (by rw[oH,oH,a]) e f)).symm
theorem Ygb{y x:List Lt}{e:Bool}(b:Ev y)(a:Ev x)(h:De e y x):R8 y=R8 x:=
 Yk5 h.1 λw=>⟨zG b a h w,zG a b h.symm w⟩
theorem fS{y:List Lt}(a:y≠[])(b:As (at' y 0)=true):Cn y (R8 y):=by
 have h:=jX y;rw[Z5f a b]at h;exact h.1
theorem Yjh{y x:List Lt}(c:Ev y)(b:Ev x)(f:As (at' y 0)=true)(d:As (at' x 0)=true)(h:R8 y=R8 x):∃e,De e y x:=by
 obtain⟨i,a⟩:=dD c (fS c.ne f);obtain⟨j,g⟩:=dD b (fS b.ne d);rw[h]at a;exact⟨_,a.trans g.symm⟩
end Go.Ad
end
section
namespace Go.Ad
open Go.Plain
theorem Yfl{g:Lt->Lt}{φ:Int->Int}{y:List Lt}(p:∀l,(g l).k=l.k)(hi:∀l,(g l).i=l.i)(h:GB φ y):GB φ (y.map g):=by
 intro a n b o d e c;obtain⟨f,j,rfl⟩:=mM.1 n;obtain⟨b0,m,rfl⟩:=mM.1 o;rw[hi,hi]at c ⊢;rw[p]at d e;exact h f j b0 m d e c
theorem aW{e:Bool}{y x:List Lt}{p:Lt->Bool}(m:∀φ l,p (ap φ l)=p l)(h:De e y x):Z4 p x=Z4 p y:=by
 obtain⟨c,s,φ,k,hi,g⟩:=h;have hm:∀l:List Lt,Z4 p (l.map (ap φ))=Z4 p l:=λl=>by rw[UK];simp_all
 cases e with
 |true=>
  have f:x=(U2 s y).map (ap φ):=by
   refine SB (by rw[lM,A6,c]) λq a=>?_;rw[c]at a;rw[(g q a).1,Py (by rw[A6];exact a),Oh k a]
  rw[f,hm,MT]
 |false=>
  have f:x=(U2 (y.length-1-s) y.reverse).map (ap φ):=by
   refine SB (by rw[lM,A6,List.length_reverse,c]) λq a=>?_;rw[c]at a;have d:y.length-1-s<y.reverse.length:=by grind
   have b:q<y.reverse.length:=by grind
   have i:y.length-1-BF y.length true (y.length-1-s) q=BF y.length false s q:=by
    unfold BF;grind
   rw[(g q a).1,Py (by rw[A6];exact b),Oh d b,List.length_reverse,Sm (I5 (by omega) a),i]
  have j:Z4 p y.reverse=Z4 p y:=by unfold Z4;grind
  rw[f,hm,MT,j]
theorem uw{e:Bool}{y x:List Lt}(h:De e y x)(g:Int):Bl g x=Bl g y:=
 aW (p:=λl=>As l&&l.g == g) (λφ l=>by
  by_cases a:l.k=2
  ·rw[J2 a];rfl
  rw[A1 a]) h
theorem Z7m(φ:Int->Int)(l:Lt):CB (ap φ l)=ap φ (CB l):=by
 by_cases h:l.k=2
 ·rw[J2 h,Qp (l:={ l with i:=φ l.i }) h,Qp h,J2 (l:={ l with o:=!l.o }) h]
 rw[A1 h];have:CB l=l:=by unfold CB;rw[iN h]
 rw[this,A1 h]
structure Tf (y:List Lt) (a:Nat):Prop where
 ev:Z0 y % 2=0
 lt:a<y.length
 dn:down y a=false
 tu:Bi y=U2 a (y.map CB)
theorem AH.tf{f:Int}{y:List Lt}(h:AH f y)(a:y≠[]):Tf y (BP y y.length):=by
 have d:=h.wv a;obtain⟨e,g,i,j⟩:=Wt d.Eo h.Jk;obtain⟨b,k,c⟩:=Xq y.length (lR _) ⟨e,by omega,g,i,j⟩;exact⟨h.Jk,b,c,rfl⟩
theorem Tf.at{y:List Lt}{a p:Nat}(h:Tf y a)(b:p<y.length):at' (Bi y) p=CB (at' y (BF y.length true a p)):=by
 have c:=I5 (e:=true) h.lt b;rw[h.tu,Oh (by rw[lM];exact h.lt) (by grind),lM,Py c]
theorem Tf.down{y:List Lt}{a p:Nat}(h:Tf y a)(g:p<y.length):down (Bi y) p = !down y (BF y.length true a p):=by
 have c:=I5 (e:=true) h.lt g;have i:CN y.length a (BF y.length true a p)=p:=by
  rw[RQ h.lt c];unfold BF;simp only[if_true];split<;>split<;>omega
 have b:(y.map CB).length=y.length:=by grind
 have d:=dO (ls:=y.map CB) (a:=a) (v:=BF y.length true a p) (by rw[b];exact h.lt) (by rw[b];exact c);rw[b,i,<-h.tu,<-map_take,<-map_take,OY,OY,OY]at d;have f:=h.dn;have j:=h.ev;unfold Plain.down at f ⊢;grind
theorem Yc1{e:Bool}{y x:List Lt}{a b:Nat}(i:Tf y a)(t:Tf x b)(h:De e y x):De e (Bi y) (Bi x):=by
 obtain⟨r,s,φ,u,hi,w⟩:=h;have o:b<y.length:=by have:=t.lt;omega
 have f:=I5 (e:=e) u o;have j:=Qo (e:=true) i.lt;refine⟨by rw[E8,E8,r],BF y.length true (OD y.length true a) (BF y.length e s b),φ,by rw[E8];exact I5 j f,?_,λp g=>?_⟩
 ·have:GB φ (y.map CB):=Yfl Ga Ft hi;intro c A d B;have hm:∀z,z∈Bi y->z∈y.map CB:=λz m=>by
   rw[i.tu]at m;unfold U2 at m;grind
  exact this c (hm c A) d (hm d B)
 rw[E8]at g ⊢;have k:p<x.length:=by rw[r];exact g
 have q:=I5 (n:=y.length) (e:=true) o g;obtain⟨C,D⟩:=w _ q;have l:=I5 (n:=y.length) (e:=true) j f;have hm:=I5 (e:=e) l g;have v:BF y.length true a (BF y.length e (BF y.length true (OD y.length true a) (BF y.length e s b)) p)=BF y.length e s (BF y.length true b p):=by
  rw[nX i.lt l g,Xh i.lt f,nX u o g];cases e<;>rfl
 rw[t.at k,i.at hm,t.down k,i.down hm,r,v];refine⟨by rw[C,Z7m],λm=>?_⟩;rw[VU]at m;rw[D m];cases e<;>cases Plain.down y (BF y.length _ s (BF y.length true b p))<;>rfl
end Go.Ad
end
section
namespace Go.Ad
open Go.Plain
def imp(x y z:Bool):Bool:=!(x&&y)||z
end Go.Ad
end
section
namespace Go.Ad
open Go.Plain
section
variable {T T':Nat→Nat} {N:Nat} {φ ψ:Nat→Nat}
theorem Ykf(c:Cl T N)(g:∀x,x<N->φ x<N)(j:∀x,x<N->ψ x<N)(b:∀x,x<N->ψ (φ x)=x)(r:∀x,x<N->φ (ψ x)=x)(u:∀x,x<N->T' (φ x)=φ (T x)):H0 T' N=H0 T N:=by
 obtain⟨S,t⟩:∃S:Nat->Nat,S=λx=>it T (EZ T N x-1) x:=⟨_,rfl⟩;have f:∀x,x<N->S x<N:=λx a=>by rw[t];exact C8 c a _
 have m:∀x,x<N->T (S x)=x:=λx a=>by
  obtain⟨z,s,_⟩:=Uy c a;rw[t];show it T (EZ T N x-1+1) x=x;grind
 have l:∀x,x<N->S (T x)=x:=λx a=>c.inj _ _ (f _ (c.lt x a)) a (m _ (c.lt x a));have k:Cl S N:=⟨f,λy q d i e=>by grind⟩;have n:Cl T' N:=by
  have e:∀y,y<N->T' y=φ (T (ψ y)):=λy d=>by
   have:=u (ψ y) (j y d);rwa[r y d]at this
  refine⟨λy d=>by rw[e y d];exact g _ (c.lt _ (j y d)),λy q d i h=>?_⟩;rw[e y d,e q i]at h;have s:=b _ (c.lt _ (j y d));rw[h,b _ (c.lt _ (j q i))]at s;grind
 have v:VA T S N N id id:=⟨c,k,λx a=>a,λx a=>a,λx _=>rfl,λx _=>rfl,l,λx _=>Iff.rfl⟩;have w:VA S T' N N φ ψ:=⟨k,n,g,j,b,r,λx a=>by grind,λx a=>⟨λ_=>a,λ_=>g x a⟩⟩;have o:=(pL v).length_eq;have p:=(pL w).length_eq;rw[lM,lM]at o p;unfold Q8 at o p;rw[Pc,Pc]at o p;unfold H0;omega
end
structure Cj (x y:List Lt) (e:Bool) (ρ σ:Nat→Nat):Prop where
 wx:Wv x
 wy:Wv y
 len:y.length=x.length
 Eo:Z0 y=Z0 x
 lt:∀ v,v<x.length→ρ v<x.length
 Fz:∀ v,v<x.length→σ v<x.length
 inv:∀ v,v<x.length→σ (ρ v)=v
 inr:∀ v,v<x.length→ρ (σ v)=v
 pre:∀ v,v<x.length→ρ ((v+x.length - 1) % x.length)=if e then (ρ v+x.length - 1) % x.length else (ρ v+1) % x.length
 nxt:∀ v,v<x.length→ρ ((v+1) % x.length)=if e then (ρ v+1) % x.length else (ρ v+x.length - 1) % x.length
 Cs:∀ v,v<x.length→(at' y (ρ v)).k=(at' x v).k
 Cp:∀ v,v<x.length→(at' x v).k=2→V4 y (ρ v) x.length 0=ρ (V4 x v x.length 0)
 ov:∀ v,v<x.length→(at' x v).k=2→Cw y (ρ v)=Cw x v
 dn:∀ v,v<x.length→(at' x v).k=1→down y (ρ v)=(down x v == e)
 idx:∀ v,v<x.length→(at' x v).k=1→V9 (ρ v) (Z2 y)=V9 v (Z2 x)
def dl(n:Nat)(e:Bool)(ρ:Nat→Nat)(d:Nat):Nat:=if d<2*n then arr n (ρ (V2 n d)) ((d % 2 == 0) == e)else d
theorem Ky{n v:Nat}{e:Bool}{ρ:Nat->Nat}(f:v<n)(b:Bool):dl n e ρ (arr n v b)=arr n (ρ v) (b == e):=by
 obtain⟨a,c,d⟩:=KL f b;unfold dl;rw[iP a,c,d]
theorem fG{n d:Nat}{e:Bool}{ρ:Nat->Nat}(h:2*n<=d):dl n e ρ d=d:=by
 unfold dl;rw[iN (by omega)]
theorem Vd{n v:Nat}(a:v<n):(v+1)%n=if v=n-1 then 0 else v+1:=by
 split
 ·rename_i h;rw[h,show n-1+1=n by omega,Nat.mod_self]
 exact Nat.mod_eq_of_lt (by omega)
theorem OS{n v:Nat}(a:v<n):(v+n-1)%n=if v=0 then n-1 else v-1:=QH a
theorem zw{n v:Nat}(c:v<n)(b:Bool):Y5 n v b=arr n (if b then (v+1)%n else (v+n-1)%n) b:=by
 have a:0<n:=by omega
 cases b with
 |true=>
  unfold Y5 arr;simp only[if_true];have hm:=Nat.mod_lt (v+1) a;rw[OS hm,Vd c];grind
 |false=>
  rfl
theorem J4{n u a:Nat}{c c':Bool}(e:u<n)(b:a<n)(h:Y5 n u c=Y5 n a c'):u=a/\c=c':=by
 have d:=JZ e c;have f:=JZ b c';rw[h,f]at d;obtain⟨g,i⟩:=Jf b e d;grind
theorem Z8s{m a b:Nat}(c:a<m)(d:b<m)(h:(a+1)%m=(b+1)%m):a=b:=by
 rw[Vd c,Vd d]at h;grind
theorem pV{ls:List Lt}(t:Wv ls):Cl (X4 ls (Z2 ls)) (2*ls.length+2*Z0 ls):=by
 obtain⟨Y,S,Z,_⟩:=eM t.Eo t.Cs;have str:∀d,d<2*ls.length->X4 ls (Z2 ls) d<2*ls.length -> ∃v b,v<ls.length/\(at' ls v).k=2/\d=arr ls.length v b/\X4 ls (Z2 ls) d=Y5 ls.length (BY ls v) (b == Cw ls v):=λd I z=>by
  obtain⟨v,b,c,rfl⟩:=L4 I;rcases Decidable.em ((at' ls v).k=2)with f|f
  ·exact⟨v,b,c,f,rfl,XB c f b⟩
  rw[NZ c,iN f]at z;split at z<;>omega
 have m:∀d,2*ls.length<=d->d<2*ls.length+2*Z0 ls -> ∃v q,v<ls.length/\(at' ls v).k=1/\q<Z0 ls/\(Z2 ls).getD q 0=v/\V9 v (Z2 ls)=q /\
  (d%2=0/\q=((d-2*ls.length) / 2+1)%Z0 ls/\X4 ls (Z2 ls) d=Y5 ls.length v (!down ls v)\/d%2=1/\q=(d-2*ls.length) / 2/\X4 ls (Z2 ls) d=Y5 ls.length v (down ls v)):=λd I L=>by
  obtain⟨p,J⟩:∃p,(d-2*ls.length) / 2=p:=⟨_,rfl⟩;have w:p<Z0 ls:=by omega
  rcases Nat.mod_two_eq_zero_or_one d with C|C
  ·have ex:d=2*ls.length+2*p:=by omega
   have E:=Nat.mod_lt (p+1) t.Eo;obtain⟨v,c,f,s,hi⟩:=IV E;exact⟨v,_,c,f,E,s,hi,.inl ⟨C,by rw[J],by rw[ex,Se,s]⟩⟩
  have ex:d=2*ls.length+2*p+1:=by omega
  obtain⟨v,c,f,s,hi⟩:=IV w;exact⟨v,p,c,f,w,s,hi,.inr ⟨C,J.symm,by rw[ex,Sx,s]⟩⟩
 refine⟨S,λy o O A e=>?_⟩;by_cases V:2*ls.length<=X4 ls (Z2 ls) y
 ·grind
 by_cases T:y<2*ls.length
 ·obtain⟨v,b,c,f,rfl,z⟩:=str y T (by omega);obtain⟨w1,w2,U,_,_⟩:=t.Cp v c f;by_cases G:o<2*ls.length
  ·obtain⟨h,b',l,g,rfl,n⟩:=str o G (by omega);obtain⟨j,H,B,_,_⟩:=t.Cp h l g;rw[z,n]at e;obtain⟨u,r⟩:=J4 w1 j e;have ev:v=h:=by
    rw[<-U,u,B]
   subst ev
   congr 1
   revert r;cases b<;>cases b'<;>cases Cw ls v<;>simp
  obtain⟨h,q,l,g,_,_,_,a⟩:=m o (by omega) A;exfalso;rw[z]at e;have:BY ls v=h:=by
   rcases a with⟨_,_,a⟩|⟨_,_,a⟩
   ·rw[a]at e;exact(J4 w1 l e).1
   rw[a]at e;exact(J4 w1 l e).1
  grind
 obtain⟨v,q,c,f,E,s,hi,a⟩:=m y (by omega) O;by_cases G:o<2*ls.length
 ·obtain⟨h,b',l,g,rfl,n⟩:=str o G (by omega);obtain⟨j,H,B,_,_⟩:=t.Cp h l g;exfalso;rw[n]at e;have:v=BY ls h:=by
   rcases a with⟨_,_,a⟩|⟨_,_,a⟩
   ·rw[a]at e;exact(J4 c j e).1
   rw[a]at e;exact(J4 c j e).1
  grind
 obtain⟨h,X,l,g,N,M,D,i⟩:=m o (by omega) A;obtain⟨p1,Q⟩:(y-2*ls.length) / 2<Z0 ls/\(o-2*ls.length) / 2<Z0 ls:=by omega
 rcases a with⟨P,K,a⟩|⟨P,K,a⟩<;>rcases i with⟨m2,F,i⟩|⟨m2,F,i⟩<;>rw[a,i]at e<;>obtain ⟨u,r⟩:=J4 c l e
 ·rw[u,D]at hi;rw[hi,K]at F;have:=Z8s p1 Q F;omega
 ·rw[u]at r;revert r;cases down ls h<;>simp
 ·rw[u]at r;revert r;cases down ls h<;>simp
 grind
section
variable {x y:List Lt} {e:Bool} {ρ σ:Nat→Nat} (h:Cj x y e ρ σ)
include h
theorem Xc{v:Nat}(a:v<x.length)(b:Bool):dl x.length e ρ (Y5 x.length v b)=Y5 x.length (ρ v) (b == e):=by
 have c:0<x.length:=by omega
 rw[zw a,Ky (by split<;>exact Nat.mod_lt _ c),zw (h.lt v a)]
 congr 1
 have d:=h.pre v a;have f:=h.nxt v a;grind
theorem zB{d:Nat}(c:d<2*x.length):dl x.length e ρ d<2*x.length:=by
 obtain⟨v,b,a,rfl⟩:=L4 c;rw[Ky a];exact(KL (h.lt v a) _).1
theorem Yjt{d c:Nat}(m:d<2*x.length)(f:c<2*x.length)(j:dl x.length e ρ d=dl x.length e ρ c):d=c:=by
 obtain⟨v,b,g,rfl⟩:=L4 m;obtain⟨i,b',a,rfl⟩:=L4 f;rw[Ky g,Ky a]at j;obtain⟨k,l⟩:=Jf (h.lt v g) (h.lt i a) j;have:v=i:=by rw[<-h.inv v g,k,h.inv i a]
 subst this
 congr 1
 revert l;cases b<;>cases b'<;>cases e<;>simp
theorem Yh1{d:Nat}(c:d<2*x.length):dl x.length e ρ (Av d)=Av (dl x.length e ρ d):=by
 obtain⟨v,b,a,rfl⟩:=L4 c;rw[KF,Xc h a,Ky a,KF]
 congr 1
 cases b<;>cases e<;>rfl
theorem Zwp{d:Nat}(B:d<2*x.length+2*Z0 x):X4 y (Z2 y) (dl x.length e ρ d)=dl x.length e ρ (X4 x (Z2 x) d):=by
 have c:=h.len;have g:=h.Eo;by_cases A:d<2*x.length
 ·obtain⟨v,b,a,rfl⟩:=L4 A;have ty:=NZ (ls:=y) (v:=ρ v) (by rw[c];exact h.lt v a) (b == e);rw[c,g,h.Cs v a]at ty;rw[Ky a,ty,NZ a];rcases Decidable.em ((at' x v).k=2)with f|f
  ·rw[iP f,iP f,h.Cp v a f,Xc h (h.wx.Cp v a f).1];have:=h.ov v a f;unfold Cw at this;rw[this]
   congr 1
   cases b<;>cases e<;>cases ((at' x v).o == ((at' x v).s == 1))<;>rfl
  have i:=h.wx.Cs v a f;rw[iN f,iN f,h.dn v a i,h.idx v a i];by_cases j:down x v=b
  ·rw[iP j,iP (by rw[j]),fG (by omega)]
  rw[iN j,iN (by revert j;cases down x v<;>cases b<;>cases e<;>simp),fG (by omega)]
 rw[fG (by omega)];obtain⟨p,C⟩:∃p,(d-2*x.length) / 2=p:=⟨_,rfl⟩;have l:p<Z0 x:=by omega
 have key:∀q,q<Z0 x -> ∃v,v<x.length/\(Z2 x).getD q 0=v/\(Z2 y).getD q 0=ρ v/\down y (ρ v)=(down x v == e):=λq z=>by
  obtain⟨v,a,f,w,hi⟩:=IV z;obtain⟨_,t⟩:=SE (ls:=y) (v:=ρ v) (by rw[c];exact h.lt v a) (by rw[h.Cs v a];exact f);rw[h.idx v a f,hi]at t;exact⟨v,a,w,t,h.dn v a f⟩
 have tr:=Se (ls:=y) (p:=p);have tl:=Sx (ls:=y) (p:=p);rw[c]at tr tl;rw[g]at tr;rcases Nat.mod_two_eq_zero_or_one d with u|u
 ·have ex:d=2*x.length+2*p:=by omega
  subst ex;obtain⟨v,a,m,n,r⟩:=key _ (Nat.mod_lt (p+1) h.wx.Eo);rw[tr,Se,m,n,r,Xc h a]
  congr 1
  cases down x v<;>cases e<;>rfl
 have ex:d=2*x.length+2*p+1:=by omega
 subst ex;obtain⟨v,a,m,n,r⟩:=key p l;rw[tl,Sx,m,n,r,Xc h a]
theorem Yko{d:Nat}(c:d<2*x.length):dl x.length e σ (dl x.length e ρ d)=d:=by
 obtain⟨v,b,a,rfl⟩:=L4 c;rw[Ky a,Ky (h.lt v a),h.inv v a];simp
theorem Z9p{d:Nat}(c:d<2*x.length):dl x.length e ρ (dl x.length e σ d)=d:=by
 obtain⟨v,b,a,rfl⟩:=L4 c;rw[Ky a,Ky (h.Fz v a),h.inr v a];simp
theorem Z81:H0 (X4 y (Z2 y)) (2*x.length+2*Z0 x)=H0 (X4 x (Z2 x)) (2*x.length+2*Z0 x):=by
 have f:∀(ρ:Nat->Nat) d,¬d<2*x.length->dl x.length e ρ d=d:=λρ d a=>fG (by omega);have g:∀d,d<2*x.length->dl x.length e σ d<2*x.length:=λd a=>by
  obtain⟨v,b,c,rfl⟩:=L4 a;rw[Ky c];exact(KL (h.Fz v c) _).1
 refine Ykf (φ:=dl x.length e ρ) (ψ:=dl x.length e σ) (pV h.wx) (λd a=>?_) (λd a=>?_) (λd a=>?_) (λd a=>?_) λd a=>Zwp h a
 ·by_cases s:d<2*x.length
  ·have:=zB h s;omega
  grind
 ·grind
 ·by_cases s:d<2*x.length
  ·exact Yko h s
  grind
 by_cases s:d<2*x.length
 ·exact Z9p h s
 grind
theorem xu{d:Nat}(c:d<2*x.length):Ay y (dl x.length e ρ d)=at' y (ρ (V2 x.length d)):=by
 obtain⟨v,b,a,rfl⟩:=L4 c;have:=K1 (ls:=y) (v:=ρ v) (by rw[h.len];exact h.lt v a) (b == e);rw[h.len]at this;rw[Ky a,this,(KL a b).2.1]
theorem Ygy:Y4 y=(Y4 x).map (dl x.length e ρ):=by
 have g:Z2 y=(Z2 x).map ρ:=by
  apply List.ext_getElem?;intro q;by_cases f:q<Z0 x
  ·obtain⟨v,a,b,l,hi⟩:=IV f;obtain⟨c,i⟩:=SE (ls:=y) (v:=ρ v) (by rw[h.len];exact h.lt v a) (by rw[h.Cs v a];exact b);rw[h.idx v a b,hi]at c i;rw[gM];have m:q<(Z2 x).length:=by rw[Q7];exact f
   have n:q<(Z2 y).length:=by rw[Q7];exact c
   grind
  rw[List.getElem?_eq_none (by rw[Q7,h.Eo];omega),List.getElem?_eq_none (by rw[lM,Q7];omega)]
 unfold Y4;rw[g,map_map,map_map];refine List.map_congr_left λv a=>?_;obtain⟨d,j⟩:=AA.1 a;have b:(at' x v).k=1:=by simpa[As]using j
 show Ca y (ρ v)=dl x.length e ρ (Ca x v);unfold Ca;rw[h.len,Xc h d,h.dn v d b]
 congr 1
 cases down x v<;>cases e<;>rfl
end
end Go.Ad
end
section
namespace Go.AE
open Go.RowKit
variable {P:Program}
theorem Au.arg{g:FuncId}{args args':List Aa}{v:Aa}(h:Au P g args v)(f:VB args' args):Au P g args' v:=by
 obtain⟨d,e⟩:=bW f;intro m b;refine⟨(h m b).1,λW Φ ρ vs w j a c=>(h m b).2 W Φ ρ vs w j ⟨by rw[a.1,d],λi y u o k=>?_⟩ c⟩;obtain⟨x,n,l⟩:=e i y o;exact l _ _ _ (a.2 i x u n k)
end Go.AE
namespace Go.Ad
open Go Go.AE Go.Proofs
open Go.Plain
end Go.Ad
end
section
namespace Go.Ad
open Go Go.AE Go.Proofs
open Go.Plain
structure Fg where
 p:Int
 r:Bool
 d:Int
deriving DecidableEq,Inhabited
end Go.Ad
end
