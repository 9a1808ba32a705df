/- Part 22 -/
import Derived.Test.YtilmpmlkndfbjaaGreatDoorT21
set_option linter.all false
open List (range range' range'_succ map_cons replicate map map_map getD)
open Nat (mod_lt mod_eq_of_lt)
namespace Go.Ad
open Go.Plain
def it(T:Nat→Nat):Nat→Nat→Nat
 | 0,x=>x
 | j+1,x=>T (it T j x)
theorem KK(T:Nat->Nat):∀(j x:Nat),it T j (T x)=T (it T j x)
 |0,_=>rfl
 |j+1,x=>by simp only[it];rw[KK T j x]
theorem Sq(T:Nat->Nat)(x:Nat):∀(i j:Nat),it T (i+j) x=it T i (it T j x)
 |0,j=>by rw[Nat.zero_add];rfl
 |i+1,j=>by rw[Nat.succ_add];simp only[it];rw[Sq T x i j]
def EZ(T:Nat→Nat)(N x:Nat):Nat:=(((range (N+1)).find? fun j=>it T (j+1) x == x).map (· + 1)).getD 0
theorem Wm{T:Nat->Nat}{N L x:Nat}(c:0<L)(d:L<=N+1)(a:it T L x=x)(b:∀j,0<j->j<L->it T j x≠x):EZ T N x=L:=by
 unfold EZ;have:(range (N+1)).find? (λj=>it T (j+1) x == x)=some (L-1):=by
  rw[List.find?_range_eq_some];refine⟨?_,by simp;omega,λj e=>?_⟩
  ·rw[show L-1+1=L by omega,a];simp
  have:=b (j+1) (by omega) (by omega);simpa using this
 grind
def Qf(T:Nat→Nat)(n x:Nat):Prop:=∀ j,it T j x<n
structure Cl (T:Nat→Nat) (N:Nat):Prop where
 lt:∀ d,d<N→T d<N
 inj:∀ y y',y<N→y'<N→T y=T y'→y=y'
structure OJ (T:Nat→Nat) (N:Nat) (seen:List Bool):Prop where
 len:seen.length=N
 same:∀ y,y<N→seen.getD (T y) true=seen.getD y true
section
variable {T:Nat→Nat} {N n:Nat} (hP:Cl T N)
include hP
theorem C8{x:Nat}(a:x<N):∀j,it T j x<N
 |0=>a
 |j+1=>hP.lt _ (C8 a j)
theorem tg{S:List Bool}(a:OJ T N S){x:Nat}(b:x<N):∀j,S.getD (it T j x) true=S.getD x true
 |0=>rfl
 |j+1=>by simp only[it];rw[a.same _ (C8 hP b j),tg a b j]
theorem Yi4{S:List Bool}(z:OJ T N S){x:Nat}(l:x<N)(r:S.getD x true=false) :
 ∀(k i:Nat) (seen:List Bool),seen.length=N->A4 seen<k->0<i->(∀y,y<N->(seen.getD y true=true↔S.getD y true=true \/ ∃j,j<i/\it T j x=y))->(∀a b,a<b->b<i->it T a x≠it T b x) ->
  ∃L,i<=L/\it T L x=x/\(∀j,0<j->j<L->it T j x≠x)/\tr T k seen (it T i x)=(range' i (L-i)).map (λj=>it T j x) /\
   ∀y,y<N->((Plain.mark T k seen (it T i x)).getD y true=true↔S.getD y true=true \/ ∃j,j<L/\it T j x=y):=by
 intro k;induction k with
 |zero=>intro i seen _ h;omega
 |succ k D=>
  intro i seen B H hi c A;have o:=C8 hP l i;cases d:seen.getD (it T i x) true with
  |true=>
   rcases (c _ o).1 d with f|⟨j,m,f⟩
   ·rw[tg hP z l,r]at f;cases f
   have n:j=0:=by
    rcases Nat.eq_zero_or_pos j with h|h
    ·exact h
    exfalso;obtain⟨q,rfl⟩:∃q,j=q+1:=⟨j-1,by omega⟩;obtain⟨p,rfl⟩:∃p,i=p+1:=⟨i-1,by omega⟩;have:=hP.inj _ _ (C8 hP l q) (C8 hP l p) f;grind
   subst n;refine⟨i,lR _,f.symm,λj v m e=>A 0 j v m e.symm,?_,?_⟩
   ·simp only[tr,d,if_true,Nat.sub_self,List.range'_zero,List.map_nil]
   simp only[Plain.mark,d,if_true];exact c
  |false=>
   have C:=WK (by omega) d;obtain⟨L,F,s,t,E,u⟩:=D (i+1) (seen.set (it T i x) true) (by simpa using B) (by omega) (by omega) (λy g=>by
    rw[JC (by omega)];simp only[Bool.or_eq_true,decide_eq_true_eq];rw[c y g];constructor
    ·rintro((h|⟨j,m,h⟩)|h)
     ·exact .inl h
     ·exact .inr ⟨j,by omega,h⟩
     exact .inr ⟨i,by omega,h.symm⟩
    grind) (λa b w G e=>by
    grind)
   refine⟨L,by omega,s,t,?_,?_⟩
   ·rw[show L-i=(L-(i+1))+1 by omega,range'_succ];simp only[tr,d,bF,if_false,map_cons]
    congr 1
   simp only[Plain.mark,d,bF,if_false];exact u
theorem Xp{S:List Bool}(d:OJ T N S){x:Nat}(q:x<N)(c:S.getD x true=false) :
 ∃L,0<L/\L<=N+1/\it T L x=x/\(∀j,0<j->j<L->it T j x≠x)/\tr T (N+1) S x=(range' 0 L).map (λj=>it T j x) /\
  ∀y,y<N->((Plain.mark T (N+1) S x).getD y true=true↔S.getD y true=true \/ ∃j,j<L/\it T j x=y):=by
 have n:=d.len;have p:=WK (l:=S) (by omega) c;have o:=UI (l:=S);obtain⟨L,s,g,i,r,k⟩:=Yi4 hP d q c N 1 (S.set x true) (by simpa using n) (by omega) (by omega) (λy f=>by
  rw[JC (by omega)];simp only[Bool.or_eq_true,decide_eq_true_eq];constructor
  ·rintro(h|h)
   ·exact .inl h
   exact .inr ⟨0,by omega,h.symm⟩
  rintro(h|⟨j,u,h⟩)
  ·exact .inl h
  have:j=0:=by omega
  subst this;exact .inr h.symm) (λa b m t=>by omega)
 have e:tr T (N+1) S x=(range' 0 L).map (λj=>it T j x):=by
  rw[show L=(L-1)+1 by omega,range'_succ];simp only[tr,c,bF,if_false,map_cons]
  congr 1
 refine⟨L,by omega,?_,g,i,e,?_⟩
 ·have:=Zxb T (N+1) S x;grind
 intro y f;have:=k y f;simp only[Plain.mark,c,bF,if_false];exact this
theorem Uy{x:Nat}(f:x<N):0<EZ T N x/\it T (EZ T N x) x=x /\ ∀j,0<j->j<EZ T N x->it T j x≠x:=by
 have a:∀y,y<N->(replicate N false).getD y true=false:=λy b=>by grind
 obtain⟨L,c,g,d,e,_⟩:=Xp hP (S:=replicate N false) ⟨by simp,λy b=>by rw[a y b,a _ (hP.lt y b)]⟩ f (a x f);rw[Wm c g d e];exact⟨c,d,e⟩
theorem zD{x:Nat}(d:x<N):EZ T N x<=N+1:=by
 have a:∀y,y<N->(replicate N false).getD y true=false:=λy b=>by grind
 obtain⟨L,e,c,f,g,_⟩:=Xp hP (S:=replicate N false) ⟨by simp,λy b=>by rw[a y b,a _ (hP.lt y b)]⟩ d (a x d);rw[Wm e c f g];exact c
theorem Ya7{x:Nat}(a:x<N):EZ T N (T x)=EZ T N x:=by
 obtain⟨b,c,d⟩:=Uy hP a;refine Wm b (zD hP a) (by rw[KK,c]) λj f g e=>?_;rw[KK]at e;exact d j f g (hP.inj _ _ (C8 hP a j) a e)
theorem Z85{x:Nat}(b:x<N):Qf T n (T x)↔Qf T n x:=by
 obtain⟨c,a,_⟩:=Uy hP b;constructor
 ·intro h j;cases j with
  |zero=>
   have:=h (EZ T N x-1);rw[KK]at this;have e:T (it T (EZ T N x-1) x)=it T (EZ T N x-1+1) x:=rfl;rw[e,show EZ T N x-1+1=EZ T N x by omega,a]at this;exact this
  |succ j=>
   have:=h j;rw[KK]at this;exact this
 intro h j;rw[KK];exact h (j+1)
end
def Ee(P:Nat→Bool):Nat→List Bool→Nat
 | _,[]=>0
 | i,b :: r=>(if !b&&P i then 1 else 0)+Ee P (i+1) r
theorem pF{P:Nat->Bool}:∀(l:List Bool) (i j:Nat),l[j]?=some false->Ee P i (l.set j true)+(if P (i+j)then 1 else 0)=Ee P i l
 |[],_,_,h=>by simp at h
 |b::r,i,0,h=>by
  simp only[List.getElem?_cons_zero,oI]at h;subst h;simp only[List.set_cons_zero,Ee,Bool.not_true,Bool.false_and,Bool.not_false,Bool.true_and,Nat.add_zero,bF,if_false];omega
 |b::r,i,j+1,h=>by
  have:=pF (P:=P) r (i+1) j (by simpa using h);rw[show i+1+j=i+(j+1) by omega]at this;simp only[List.set_cons_succ,Ee];omega
theorem jS{P:Nat->Bool}:∀(l:List Bool) (i:Nat),(∀y,l.getD y true=true)->Ee P i l=0
 |[],_,_=>rfl
 |b::r,i,h=>by
  have a:b=true:=by simpa using h 0
  subst a;have:=jS (P:=P) r (i+1) λy=>by simpa using h (y+1)
  simp only[Ee,this];simp
theorem kO{P:Nat->Bool}:∀(k i:Nat),Ee P i (replicate k false)=((range' i k).filter P).length
 |0,_=>rfl
 |k+1,i=>by
  rw[List.replicate_succ,Ee,kO k (i+1),range'_succ,List.filter_cons];grind
section
variable {T:Nat→Nat} {N n:Nat} (hP:Cl T N)
include hP
theorem x9{P:Nat->Bool}(a:∀d,d<N->P (T d)=P d):∀(k:Nat) (seen:List Bool) (x:Nat),seen.length=N->x<N ->
 Ee P 0 (Plain.mark T k seen x)+(if P x then (tr T k seen x).length else 0)=Ee P 0 seen
 |0,seen,x,_,_=>by simp[Plain.mark,tr]
 |k+1,seen,x,f,b=>by
  cases h:seen.getD x true with
  |true=>simp only[Plain.mark,tr,h,if_true,List.length_nil];split<;>rfl
  |false=>
   have e:seen[x]?=some false:=by
    rw[List.getD_eq_getElem?_getD,gE (by omega)]at h;rw[gE (by omega)];simpa using h
   have g:=pF (P:=P) seen 0 x e;have c:=x9 a k (seen.set x true) (T x) (by simpa using f) (hP.lt x b);rw[a x b]at c;simp only[Plain.mark,tr,h,bF,if_false,lC];grind
theorem q9{S:List Bool}(b:OJ T N S){x:Nat}(c:x<N)(i:S.getD x true=false):OJ T N (Plain.mark T (N+1) S x):=by
 obtain⟨L,l,m,f,n,o,g⟩:=Xp hP b c i;refine⟨by rw[fI];exact b.len,λy a=>?_⟩;have e:((Plain.mark T (N+1) S x).getD (T y) true=true↔(Plain.mark T (N+1) S x).getD y true=true):=by
  rw[g _ (hP.lt y a),g y a,b.same y a];constructor
  ·rintro(h|⟨j,k,h⟩)
   ·exact .inl h
   refine .inr ?_;cases j with
   |zero=>
    refine⟨L-1,by omega,hP.inj _ _ (C8 hP c _) a ?_⟩;have e:T (it T (L-1) x)=it T (L-1+1) x:=rfl;rw[e,show L-1+1=L by omega,f];exact h
   |succ j=>exact ⟨j,by omega,hP.inj _ _ (C8 hP c _) a h⟩
  rintro(h|⟨j,k,rfl⟩)
  ·exact .inl h
  refine .inr ?_;rcases lG (j+1) L with d|d
  ·exact⟨j+1,d,rfl⟩
  have:L=j+1:=by omega
  subst this;exact⟨0,by omega,f.symm⟩
 grind
def sig(n:Nat)(w:List Nat):Nat×Bool:=(w.length,w.all fun d=>decide (d<n))
open Classical in
noncomputable def PK(T:Nat→Nat)(N n K:Nat)(b:Bool)(d:Nat):Bool:=decide (EZ T N d=K)&&(decide (Qf T n d) == b)
omit hP in
theorem gX{L x:Nat}(a:0<L)(b:it T L x=x):(∀j,j<L->it T j x<n)↔Qf T n x:=by
 refine⟨λh j=>?_,λh j _=>h j⟩;have hm:∀q,it T (L*q) x=x:=λq=>by
  induction q with
  |zero=>rfl
  |succ q c=>rw[Nat.mul_succ,Sq,b,c]
 have e:j=j%L+L*(j / L):=by rw[Nat.mod_add_div]
 rw[e,Sq,hm];exact h _ (mod_lt _ a)
open Classical in
theorem Z6u{S:List Bool}(k:OJ T N S){x:Nat}(m:x<N)(e:S.getD x true=false):sig n (tr T (N+1) S x)=(EZ T N x,decide (Qf T n x)):=by
 obtain⟨L,b,f,c,g,i,o⟩:=Xp hP k m e;rw[i,Wm b f c g];unfold sig;refine Prod.ext (by simp) ?_;have:((map (λj=>it T j x) (range' 0 L)).all λd=>decide (d<n))=true↔Qf T n x:=by
  rw[<-gX b c,List.all_eq_true];constructor
  ·intro h j a;have:=h (it T j x) (mM.2 ⟨j,by simp[a],rfl⟩);simpa using this
  intro h d l;obtain⟨j,a,rfl⟩:=mM.1 l;have:=h j (by simpa using a);simpa using this
 grind
theorem Yit(K:Nat)(b:Bool){d:Nat}(a:d<N):PK T N n K b (T d)=PK T N n K b d:=by
 classical
 unfold PK;rw[Ya7 hP a]
 congr 2
 exact decide_eq_decide.2 (Z85 hP a)
theorem oB(K:Nat)(b:Bool):∀(k:Nat) (seen:List Bool),k<=N->OJ T N seen->(∀y,y<N-k->seen.getD y true=true) ->
 K*((EL T N k seen).map (sig n)).count (K,b)=Ee (PK T N n K b) 0 seen
 |0,seen,_,i,l=>by
  rw[jS]
  ·simp[EL]
  intro y;rcases lG y N with h|h
  ·exact l y (by omega)
  rw[List.getD_eq_getElem?_getD,List.getElem?_eq_none (by rw[i.len];omega)];rfl
 |k+1,seen,u,i,l=>by
  have o:N-(k+1)<N:=by omega
  simp only[EL];have c:∀a:List Bool,(∀y,seen.getD y true=true->a.getD y true=true)->a.getD (N-(k+1)) true=true -> ∀y,y<N-k->a.getD y true=true:=λa s t y p=>by
   grind
  cases h:seen.getD (N-(k+1)) true with
  |true=>
   rw[iP rfl];exact oB K b k seen (by omega) i (c seen (λ_ h=>h) h)
  |false=>
   rw[iN (by simp)];have q:=i.len;have r:=oB K b k (Plain.mark T (N+1) seen (N-(k+1))) (by omega) (q9 hP i o h) (c _ (λy p=>RV _ _ _ p) (by
    simp only[Plain.mark,h,bF,if_false];exact RV _ _ _ (by rw[JC (by omega)];simp)))
   have f:=x9 hP (P:=PK T N n K b) (λd l=>Yit hP K b l) (N+1) seen (N-(k+1)) q o;have g:=Z6u (n:=n) hP i o h;have j:(tr T (N+1) seen (N-(k+1))).length=EZ T N (N-(k+1)):=congrArg Prod.fst g;rw[map_cons,List.count_cons,g,Nat.mul_add,r];by_cases m:PK T N n K b (N-(k+1))=true
   ·rw[iP m,j]at f;unfold PK at m;grind
   rw[iN m]at f;rw[iN]
   ·omega
   intro e;apply m;simp only[beq_iff_eq,AT]at e;unfold PK;grind
theorem Zyp(K:Nat)(b:Bool):K*((Q8 T N).map (sig n)).count (K,b)=((range N).filter (PK T N n K b)).length:=by
 have c:∀y,y<N->(replicate N false).getD y true=false:=λy a=>by grind
 rw[Q8,oB hP K b N _ (lR _) ⟨by simp,λy a=>by rw[c y a,c _ (hP.lt y a)]⟩ (λy a=>by omega),kO,List.range_eq_range']
end
theorem Zx2{T:Nat->Nat}{N n:Nat}:∀w,w∈Q8 T N->0<w.length:=by
 have:∀(k:Nat) (seen:List Bool),∀w,w∈EL T N k seen->0<w.length:=by
  intro k;induction k with
  |zero=>intro seen w a;simp[EL]at a
  |succ k b=>
   intro seen w a;simp only[EL]at a;cases h:seen.getD (N-(k+1)) true with
   |true=>grind
   |false=>
    rw[h,iN (by simp)]at a;rcases mC.1 a with rfl|a
    ·simp only[tr,h,bF,if_false,lC];omega
    exact b _ w a
 exact this N _
structure VA (T T':Nat→Nat) (N n:Nat) (φ ψ:Nat→Nat):Prop where
 p:Cl T N
 q:Cl T' N
 lt:∀ x,x<N→φ x<N
 Fz:∀ x,x<N→ψ x<N
 inv:∀ x,x<N→ψ (φ x)=x
 inr:∀ x,x<N→φ (ψ x)=x
 opp:∀ x,x<N→T' (φ (T x))=φ x
 str:∀ x,x<N→(φ x<n↔x<n)
section
variable {T T':Nat→Nat} {N n:Nat} {φ ψ:Nat→Nat} (h:VA T T' N n φ ψ)
include h
theorem iG{x:Nat}(a:x<N):∀j,it T' j (φ (it T j x))=φ x
 |0=>rfl
 |j+1=>by
  have b:=C8 h.p a j;rw[show it T' (j+1) (φ (it T (j+1) x))=it T' j (T' (φ (it T (j+1) x))) from(KK T' j _).symm];show it T' j (T' (φ (T (it T j x))))=φ x;rw[h.opp _ b];exact iG a j
omit h in
theorem jD{T:Nat->Nat}(a:Cl T N):∀(j:Nat) {x y:Nat},x<N->y<N->it T j x=it T j y->x=y
 |0,_,_,_,_,e=>e
 |j+1,_,_,b,c,e=>jD a j b c (a.inj _ _ (C8 a b j) (C8 a c j) e)
theorem pT{x:Nat}(a:x<N)(j:Nat):it T' j (φ x)=φ x↔it T j x=x:=by
 have c:=iG h a j;have d:=C8 h.p a j;constructor
 ·intro e;rw[<-c]at e;have:=jD h.q j (h.lt _ a) (h.lt _ d) (by rw[c]at e ⊢; exact e);have b:=h.inv _ a;rw[this,h.inv _ d]at b;exact b
 grind
theorem Yj7{x:Nat}(c:x<N):EZ T' N (φ x)=EZ T N x:=by
 obtain⟨d,f,g⟩:=Uy h.p c;exact Wm d (zD h.p c) ((pT h c _).2 f) λj a b e=>g j a b ((pT h c _).1 e)
theorem Z7r{x:Nat}(a:x<N):Qf T' n (φ x)↔Qf T n x:=by
 obtain⟨b,c,_⟩:=Uy h.p a;have d:=(pT h a (EZ T N x)).2 c;rw[<-gX b c,<-gX b d];generalize EZ T N x=L at *;have key:∀j,j<=L->it T' j (φ x)=φ (it T (L-j) x):=λj e=>by
  have:=iG h (C8 h.p a (L-j)) j;rw[<-Sq,show j+(L-j)=L by omega,c]at this;exact this
 constructor
 ·intro g j e;cases j with
  |zero=>
   have:=g 0 b;exact(h.str x a).1 this
  |succ j=>
   have:=g (L-(j+1)) (by omega);rw[key _ (by omega),show L-(L-(j+1))=j+1 by omega]at this;exact(h.str _ (C8 h.p a _)).1 this
 intro g j e;rw[key j (by omega)];refine(h.str _ (C8 h.p a _)).2 ?_;cases j with
 |zero=>rw[Nat.sub_zero,c];exact g 0 b
 |succ j=>exact g _ (by omega)
theorem Z6k{x:Nat}(a:x<N)(K:Nat)(b:Bool):PK T' N n K b (φ x)=PK T N n K b x:=by
 classical
 unfold PK;rw[Yj7 h a]
 congr 2
 exact decide_eq_decide.2 (Z7r h a)
omit h in
theorem KJ{f:Nat->Nat}:∀{l:List Nat},(∀x y,x∈l->y∈l->f x=f y->x=y)->l.Nodup->(l.map f).Nodup
 |[],_,_=>by simp
 |a::r,c,d=>by
  obtain⟨h,b⟩:=List.nodup_cons.1 d;rw[map_cons,List.nodup_cons];refine⟨λhm=>?_,KJ (λx y e g=>c x y (List.mem_cons_of_mem _ e) (List.mem_cons_of_mem _ g)) b⟩;grind
theorem pL:((Q8 T N).map (sig n)).Perm ((Q8 T' N).map (sig n)):=by
 rw[List.perm_iff_count];rintro⟨K,b⟩;have m:((range N).filter (PK T N n K b)).length=((range N).filter (PK T' N n K b)).length:=by
  refine Nat.le_antisymm ?_ ?_
  ·have:=List.Nodup.length_le_of_subset (l₁:=((range N).filter (PK T N n K b)).map φ) (l₂:=(range N).filter (PK T' N n K b)) (KJ (λx y c f e=>by
    have d:=mR.1 (List.mem_filter.1 c).1;have g:=mR.1 (List.mem_filter.1 f).1;have:=h.inv x d;rw[e,h.inv y g]at this;exact this.symm) (List.nodup_range.filter _)) λy f=>by
    obtain⟨x,c,rfl⟩:=mM.1 f;obtain⟨a,j⟩:=List.mem_filter.1 c;have a:=mR.1 a;exact List.mem_filter.2 ⟨mR.2 (h.lt x a),by rw[Z6k h a];exact j⟩
   simpa using this
  have:=List.Nodup.length_le_of_subset (l₁:=((range N).filter (PK T' N n K b)).map ψ) (l₂:=(range N).filter (PK T N n K b)) (KJ (λx y c f e=>by
   have d:=mR.1 (List.mem_filter.1 c).1;have g:=mR.1 (List.mem_filter.1 f).1;have:=h.inr x d;rw[e,h.inr y g]at this;exact this.symm) (List.nodup_range.filter _)) λy f=>by
   obtain⟨x,c,rfl⟩:=mM.1 f;obtain⟨a,j⟩:=List.mem_filter.1 c;have a:=mR.1 a;refine List.mem_filter.2 ⟨mR.2 (h.Fz x a),?_⟩;have:=Z6k h (h.Fz x a) K b;rw[h.inr x a]at this;rw[<-this];exact j
  simpa using this
 have k:=Zyp (n:=n) h.p K b;have l:=Zyp (n:=n) h.q K b;rcases Nat.eq_zero_or_pos K with i|i
 ·subst i;have z:∀(T:Nat->Nat),((Q8 T N).map (sig n)).count (0,b)=0:=λT=>List.count_eq_zero.2 λhm=>by
   obtain⟨w,o,e⟩:=mM.1 hm;have:=Zx2 (n:=n) w o;have e:=congrArg Prod.fst e;simp only[sig]at e;omega
  rw[z,z]
 rw[m,<-l]at k;exact Nat.eq_of_mul_eq_mul_left i k
end
section
variable {T:Nat→Nat} {N n:Nat} (hP:Cl T N)
include hP
theorem Yig:OJ T N (replicate N false):=by
 have b:∀y,y<N->(replicate N false).getD y true=false:=λy a=>by grind
 exact⟨by simp,λy a=>by rw[b y a,b _ (hP.lt y a)]⟩
theorem oE:∀(k:Nat) (seen:List Bool),k<=N->OJ T N seen -> ∀w,w∈EL T N k seen -> ∀d,d∈w->d<N/\T d∈w
 |0,seen,_,_,w,a=>by simp[EL]at a
 |k+1,seen,q,b,w,a=>by
  have c:N-(k+1)<N:=by omega
  simp only[EL]at a;cases h:seen.getD (N-(k+1)) true with
  |true=>
   rw[h,iP rfl]at a;exact oE k seen (by omega) b w a
  |false=>
   rw[h,iN (by simp)]at a;rcases mC.1 a with rfl|a
   ·obtain⟨L,m,n,g,o,i,p⟩:=Xp hP b c h;rw[i];intro d l;obtain⟨j,f,rfl⟩:=mM.1 l;have f:j<L:=by simpa using f
    refine⟨C8 hP c j,mM.2 ?_⟩;rcases lG (j+1) L with e|e
    ·exact⟨j+1,by simpa using e,rfl⟩
    have:L=j+1:=by omega
    subst this;exact⟨0,by simp,g.symm⟩
   exact oE k _ (by omega) (q9 hP b c h) w a
theorem WB:∀w,w∈Q8 T N -> ∀d,d∈w->d<N/\T d∈w:=oE hP N _ (lR _) (Yig hP)
theorem Zx6(P:Nat->Bool):∀(k:Nat) (seen:List Bool) (x:Nat),seen.length=N->x<N ->
 Ee P 0 (Plain.mark T k seen x)+((tr T k seen x).filter P).length=Ee P 0 seen
 |0,seen,x,_,_=>by simp[Plain.mark,tr]
 |k+1,seen,x,b,c=>by
  cases h:seen.getD x true with
  |true=>simp only[Plain.mark,tr,h,if_true,List.filter_nil,List.length_nil];rfl
  |false=>
   have a:seen[x]?=some false:=by
    rw[List.getD_eq_getElem?_getD,gE (by omega)]at h;rw[gE (by omega)];simpa using h
   have d:=pF (P:=P) seen 0 x a;have e:=Zx6 P k (seen.set x true) (T x) (by simpa using b) (hP.lt x c);simp only[Plain.mark,tr,h,bF,if_false,List.filter_cons];grind
theorem lX(P:Nat->Bool):∀(k:Nat) (seen:List Bool),k<=N->seen.length=N->(∀y,y<N-k->seen.getD y true=true) ->
 ((EL T N k seen).map λw=>(w.filter P).length).sum=Ee P 0 seen
 |0,seen,_,c,f=>by
  rw[jS]
  ·simp[EL]
  grind
 |k+1,seen,l,c,f=>by
  have g:N-(k+1)<N:=by omega
  simp only[EL];have b:∀a:List Bool,(∀y,seen.getD y true=true->a.getD y true=true)->a.getD (N-(k+1)) true=true -> ∀y,y<N-k->a.getD y true=true:=λa i j y e=>by
   grind
  cases h:seen.getD (N-(k+1)) true with
  |true=>
   rw[iP rfl];exact lX P k seen (by omega) c (b seen (λ_ h=>h) h)
  |false=>
   rw[iN (by simp)];have m:=lX P k (Plain.mark T (N+1) seen (N-(k+1))) (by omega) (by rw[fI];exact c) (b _ (λy e=>RV _ _ _ e) (by
    simp only[Plain.mark,h,bF,if_false];exact RV _ _ _ (by rw[JC (by omega)];simp)))
   have d:=Zx6 hP P (N+1) seen (N-(k+1)) c g;grind
theorem zq(P:Nat->Bool):((Q8 T N).map λw=>(w.filter P).length).sum=((range N).filter P).length:=by
 rw[Q8,lX hP P N _ (lR _) (by simp) (λy a=>by omega),kO,List.range_eq_range']
end
theorem Z7h(a:List Nat)(p q:HE):FW (FW a p) q=FW (FW a q) p:=by
 unfold FW;cases p.2.2<;>cases q.2.2<;>simp only[bF,if_false,if_true]
 unfold GF;by_cases h:p.1=q.1
 ·rw[h]
 rw[List.set_comm _ _ h];grind
theorem Yj6(m:Nat)(p q:HE):ID (ID m p) q=ID (ID m q) p:=by
 unfold ID;grind
theorem Yd9{l m:List HE}(h:l.Perm m):FV l=FV m:=by
 rw[<-Zxe,<-Zxe];unfold TZ;have e:Zw l=Zw m:=h.foldl_eq' (λx _ y _ z=>Yj6 z x y) 0;rw[e];exact h.foldl_eq' (λx _ y _ z=>Z7h z x y) _
def Ks(s:Nat×Bool):HE:=(s.1,s.1,s.2)
section
variable {ls:List Lt}
theorem Yib(hP:Cl (X4 ls (Z2 ls)) (2*ls.length+2*Z0 ls)){w:List Nat}(h:w∈Q8 (X4 ls (Z2 ls)) (2*ls.length+2*Z0 ls))(b:(w.all λd=>decide (d<2*ls.length))=true):pP ls w=w.length:=by
 unfold pP;rw[List.filter_eq_self.2];intro d e;have a:=List.all_eq_true.1 b;have f:d<2*ls.length:=by simpa using a d e
 have c:X4 ls (Z2 ls) d<2*ls.length:=by simpa using a _ (WB hP w h d e).2
 unfold Dv;rw[beq_iff_eq];refine Classical.byContradiction λg=>?_;rw[Qk f,iN g]at c;split at c<;>omega
theorem Ycs{n:Nat}{w:List Nat}(h:(w.all λd=>decide (d<n))=true):JK n w=(w,false):=by
 have a:=List.all_eq_true.1 h;unfold JK;simp_all
theorem Ya6{n:Nat}{w:List Nat}(h:¬(w.all λd=>decide (d<n))=true):(JK n w).2=true:=by
 unfold JK;grind
theorem Z5e(g:0<Z0 ls)(j:∀v,v<ls.length->(at' ls v).k≠2->(at' ls v).k=1)(hP:Cl (X4 ls (Z2 ls)) (2*ls.length+2*Z0 ls)) :
 FV (Vf ls)=FV (((Q8 (X4 ls (Z2 ls)) (2*ls.length+2*Z0 ls)).map (sig (2*ls.length))).map Ks):=by
 unfold Vf FV;rw[<-Z7s g j,map_map,map_map];have i:=λw c=>Yib hP (w:=w) c;generalize Q8 (X4 ls (Z2 ls)) (2*ls.length+2*Z0 ls)=W at *;have:∀(V:List (List Nat)) (b:List Nat),(∀w,w∈V->w∈W)->(V.map (Mg ls∘JK (2*ls.length))).foldl B9 b=(V.map (Ks∘sig (2*ls.length))).foldl B9 b:=by
  intro V;induction V with
  |nil=>intro b _;rfl
  |cons w V l=>
   intro b f;have c:=f w (List.mem_cons_self ..);have e:B9 b ((Mg ls∘JK (2*ls.length)) w)=B9 b ((Ks∘sig (2*ls.length)) w):=by
    simp only[Function.comp];by_cases a:(w.all λd=>decide (d<2*ls.length))=true
    ·rw[Ycs a];have:=i w c a;unfold Mg Ks sig B9;simp only[this,a,Bool.not_false,if_true]
    have h:=Ya6 a;simp only[Bool.not_eq_true]at a;unfold Mg Ks sig B9;simp only[h,a,Bool.not_true,bF,if_false]
   simp only[map_cons,List.foldl_cons];rw[e];exact l _ λw c=>f w (List.mem_cons_of_mem _ c)
 grind
theorem Yg8{ls':List Lt}{φ ψ:Nat->Nat}(i:0<Z0 ls)(j:∀v,v<ls.length->(at' ls v).k≠2->(at' ls v).k=1)(b:∀v,v<ls'.length->(at' ls' v).k≠2->(at' ls' v).k=1)
 (d:ls'.length=ls.length) (e:Z0 ls'=Z0 ls) (h:VA (X4 ls (Z2 ls)) (X4 ls' (Z2 ls')) (2*ls.length+2*Z0 ls) (2*ls.length) φ ψ) :
 FV (Vf ls')=FV (Vf ls)/\H0 (X4 ls' (Z2 ls')) (2*ls.length+2*Z0 ls)=H0 (X4 ls (Z2 ls)) (2*ls.length+2*Z0 ls):=by
 have f:=pL h;have g:=Z5e i j h.p;have c:=Z5e (ls:=ls') (by omega) b (by rw[d,e];exact h.q);rw[d,e]at c;refine⟨by rw[g,c];exact(Yd9 (f.map Ks)).symm,?_⟩;have a:=f.length_eq;rw[lM,lM]at a;unfold Q8 at a;rw[Pc,Pc]at a;exact a.symm
end
def arr(n v:Nat)(b:Bool):Nat:=if b then 2*((v+n - 1) % n)else 2*v+1
theorem KL{n v:Nat}(a:v<n)(b:Bool):arr n v b<2*n/\V2 n (arr n v b)=v/\(arr n v b%2 == 0)=b:=by
 cases b with
 |true=>
  have hm:=mod_lt (v+n-1) (show 0<n by omega);have e:(v+n-1)%n=if v=0 then n-1 else v-1:=by
   split
   ·simp_all
   have:v+n-1=(v-1)+n:=by omega
   rw[this,Nat.add_mod_right,mod_eq_of_lt (by omega)]
  unfold arr V2;simp only[if_true];refine⟨by omega,?_,by simp⟩;rw[iP (by omega),show 2*((v+n-1)%n) / 2=(v+n-1)%n by omega,e];split
  ·rename_i h;subst h;rw[show n-1+1=n by omega,Nat.mod_self]
  rw[show v-1+1=v by omega,mod_eq_of_lt a]
 |false=>
  unfold arr V2;grind
theorem L4{n d:Nat}(a:d<2*n):∃v b,v<n/\d=arr n v b:=by
 have c:=Lg a;obtain⟨e,f,g⟩:=KL c (d%2 == 0);refine⟨V2 n d,(d%2 == 0),c,pG a e f.symm ?_⟩;grind
section
variable {ls:List Lt}
theorem NZ{v:Nat}(e:v<ls.length)(b:Bool):X4 ls (Z2 ls) (arr ls.length v b)=if (at' ls v).k=2 then Y5 ls.length (V4 ls v ls.length 0) (b == ((at' ls v).o == ((at' ls v).s == 1)))
 else if down ls v=b then 2*ls.length+2*V9 v (Z2 ls)else 2*ls.length+2*((V9 v (Z2 ls)+Z0 ls-1)%Z0 ls)+1:=by
 obtain⟨a,c,d⟩:=KL e b;rw[Qk a,c,d,Q7]
theorem Se{p:Nat}:X4 ls (Z2 ls) (2*ls.length+2*p)=Y5 ls.length ((Z2 ls).getD ((p+1)%Z0 ls) 0) (!down ls ((Z2 ls).getD ((p+1)%Z0 ls) 0)):=by
 unfold X4;rw[iP (by omega),iP (by omega),Q7,show (2*ls.length+2*p-2*ls.length) / 2=p by omega]
theorem Sx{p:Nat}:X4 ls (Z2 ls) (2*ls.length+2*p+1)=Y5 ls.length ((Z2 ls).getD p 0) (down ls ((Z2 ls).getD p 0)):=by
 unfold X4;grind
structure Wv (ls:List Lt):Prop where
 Eo:0<Z0 ls
 Cs:∀ v,v<ls.length→(at' ls v).k≠2→(at' ls v).k=1
 Cp:∀ v,v<ls.length→(at' ls v).k=2→V4 ls v ls.length 0<ls.length∧(at' ls (V4 ls v ls.length 0)).k=2∧V4 ls (V4 ls v ls.length 0) ls.length 0=v ∧
  (at' ls (V4 ls v ls.length 0)).o=(!(at' ls v).o)∧(at' ls (V4 ls v ls.length 0)).s=(at' ls v).s
structure RK (ls ls':List Lt) (ρ σ:Nat→Nat) (fl:Bool):Prop where
 wv:Wv ls
 len:ls'.length=ls.length
 Eo:Z0 ls'=Z0 ls
 lt:∀ v,v<ls.length→ρ v<ls.length
 Fz:∀ v,v<ls.length→σ v<ls.length
 inv:∀ v,v<ls.length→σ (ρ v)=v
 inr:∀ v,v<ls.length→ρ (σ v)=v
 pre:∀ v,v<ls.length→ρ ((v+ls.length - 1) % ls.length)=(ρ v+ls.length - 1) % ls.length
 Cs:∀ v,v<ls.length→(at' ls' (ρ v)).k=(at' ls v).k
 Cp:∀ v,v<ls.length→(at' ls v).k=2→V4 ls' (ρ v) ls.length 0=ρ (V4 ls v ls.length 0)
 ov:∀ v,v<ls.length→(at' ls v).k=2→((at' ls' (ρ v)).o == ((at' ls' (ρ v)).s == 1)) = !((at' ls v).o == ((at' ls v).s == 1))
 dn:∀ v,v<ls.length→(at' ls v).k=1→down ls' (ρ v)=(down ls v != fl)
 idx:∀ v,v<ls.length→(at' ls v).k=1→V9 (ρ v) (Z2 ls')=if fl then V9 v (Z2 ls)else Z0 ls - 1 - V9 v (Z2 ls)
def Db(n m:Nat)(fl:Bool)(ρ:Nat→Nat)(d:Nat):Nat:=
 if d<2*n then (if d % 2=0 then 2*ρ (d / 2)+1 else 2*ρ (d / 2))
 else if fl then (if d % 2=0 then d+1 else d - 1)else if d % 2=0 then 2*n+2*((2*m - 2 - (d - 2*n) / 2) % m)else 2*n+2*((2*m - 2 - (d - 2*n) / 2) % m)+1
theorem Xa{m p:Nat}(a:p<m):(2*m-2-p)%m=if p=m-1 then m-1 else m-2-p:=by
 split
 ·rename_i h;subst h;rw[show 2*m-2-(m-1)=m-1 by omega,mod_eq_of_lt (by omega)]
 rw[show 2*m-2-p=(m-2-p)+m by omega,Nat.add_mod_right,mod_eq_of_lt (by omega)]
theorem jW{n m:Nat}{fl:Bool}{ρ:Nat->Nat}(a:∀v,v<n->ρ v<n){x:Nat}(b:x<2*n+2*m):Db n m fl ρ x<2*n+2*m:=by
 unfold Db;split
 ·grind
 split
 ·split<;>omega
 have:=mod_lt (2*m-2-(x-2*n) / 2) (show 0<m by omega);split<;>omega
theorem Yjv{n m:Nat}{fl:Bool}{ρ:Nat->Nat}(a:∀v,v<n->ρ v<n){x:Nat}(b:x<2*n+2*m):Db n m fl ρ x<2*n↔x<2*n:=by
 unfold Db;grind
theorem ve{n m:Nat}{fl:Bool}{ρ σ:Nat->Nat}(f:∀v,v<n->ρ v<n)(i:∀v,v<n->σ (ρ v)=v){x:Nat}(o:x<2*n+2*m):Db n m fl σ (Db n m fl ρ x)=x:=by
 by_cases h:x<2*n
 ·have j:=f (x / 2) (by omega);have k:=i (x / 2) (by omega);rcases Nat.mod_two_eq_zero_or_one x with e|e
  ·have a:Db n m fl ρ x=2*ρ (x / 2)+1:=by unfold Db;rw[iP h,iP e]
   rw[a];unfold Db;grind
  have a:Db n m fl ρ x=2*ρ (x / 2):=by unfold Db;rw[iP h,iN (by omega)]
  rw[a];unfold Db;grind
 obtain⟨p,l⟩:∃p,(x-2*n) / 2=p:=⟨_,rfl⟩;have b:p<m:=by omega
 cases fl with
 |true=>
  unfold Db;grind
 |false=>
  obtain⟨q,c⟩:∃q,(2*m-2-p)%m=q:=⟨_,rfl⟩;have d:q<m:=by rw[<-c];exact mod_lt _ (by omega)
  have g:(2*m-2-q)%m=p:=by
   rw[Xa b]at c;rw[Xa d];split at c<;>split<;>omega
  unfold Db;grind
theorem gY{n m:Nat}{fl:Bool}{ρ:Nat->Nat}{v:Nat}(c:v<n)(a:ρ ((v+n-1)%n)=(ρ v+n-1)%n)(b:Bool):Db n m fl ρ (Y5 n v b)=arr n (ρ v) (!b):=by
 have hm:=mod_lt (v+n-1) (show 0<n by omega);cases b with
 |true=>
  unfold Y5 Db arr;grind
 |false=>
  unfold Y5 Db arr;grind
theorem Ygh{n m:Nat}{fl:Bool}{ρ:Nat->Nat}{v:Nat}(c:v<n)(a:ρ ((v+n-1)%n)=(ρ v+n-1)%n)(b:Bool):Db n m fl ρ (arr n v b)=Y5 n (ρ v) (!b):=by
 have hm:=mod_lt (v+n-1) (show 0<n by omega);cases b with
 |true=>
  unfold Y5 Db arr;grind
 |false=>
  unfold Y5 Db arr;grind
theorem Zw6{n m p:Nat}{fl:Bool}{ρ:Nat->Nat}:Db n m fl ρ (2*n+2*p)=if fl then 2*n+2*p+1 else 2*n+2*((2*m-2-p)%m):=by
 obtain⟨a,b,c⟩:¬2*n+2*p<2*n/\(2*n+2*p)%2=0/\(2*n+2*p-2*n) / 2=p:=by omega
 unfold Db;grind
theorem Zx8{n m p:Nat}{fl:Bool}{ρ:Nat->Nat}:Db n m fl ρ (2*n+2*p+1)=if fl then 2*n+2*p else 2*n+2*((2*m-2-p)%m)+1:=by
 obtain⟨a,b,c⟩:¬2*n+2*p+1<2*n/\¬(2*n+2*p+1)%2=0/\(2*n+2*p+1-2*n) / 2=p:=by omega
 unfold Db;grind
theorem SE{ls:List Lt}{v:Nat}(b:v<ls.length)(a:(at' ls v).k=1):V9 v (Z2 ls)<Z0 ls/\(Z2 ls).getD (V9 v (Z2 ls)) 0=v:=by
 have hm:v∈Z2 ls:=AA.2 ⟨b,by simp[As,a]⟩;refine⟨by rw[<-Q7];exact Wy hm,?_⟩;rw[getD,(Li hm).1];rfl
theorem IV{ls:List Lt}{p:Nat}(d:p<Z0 ls):∃v,v<ls.length/\(at' ls v).k=1/\(Z2 ls).getD p 0=v/\V9 v (Z2 ls)=p:=by
 have a:(Z2 ls)[p]?=some ((Z2 ls).getD p 0):=by rw[getD,gE (by rw[Q7];exact d)];rfl
 have hm:=List.mem_of_getElem? a;obtain⟨b,c⟩:=AA.1 hm;exact⟨_,b,by simpa[As]using c,rfl,Xv (Qx ls) (Li hm).1 a⟩
theorem Xe{m p:Nat}(a:p<m):(p+1)%m=if p=m-1 then 0 else p+1:=by
 split
 ·rename_i h;subst h;rw[show m-1+1=m by omega,Nat.mod_self]
 rw[mod_eq_of_lt (by omega)]
theorem QH{m p:Nat}(a:p<m):(p+m-1)%m=if p=0 then m-1 else p-1:=by
 split
 ·simp_all
 rw[show p+m-1=(p-1)+m by omega,Nat.add_mod_right,mod_eq_of_lt (by omega)]
section
variable {ls ls':List Lt} {ρ σ:Nat→Nat} {fl:Bool} (h:RK ls ls' ρ σ fl)
include h
theorem Z8k{v:Nat}(a:v<ls.length):(at' ls v).k=2\/(at' ls v).k=1:=by
 rcases Decidable.em ((at' ls v).k=2)with e|e
 ·exact .inl e
 exact .inr (h.wv.Cs v a e)
theorem Ws{x:Nat}(D:x<2*ls.length+2*Z0 ls):X4 ls' (Z2 ls') (Db ls.length (Z0 ls) fl ρ (X4 ls (Z2 ls) x))=Db ls.length (Z0 ls) fl ρ x:=by
 have c:=h.len;have f:=h.Eo;have g:∀v,v<ls.length->(at' ls v).k=1 -> ∀b,X4 ls' (Z2 ls') (arr ls.length (ρ v) b)=if (down ls v != fl)=b then 2*ls.length+2*V9 (ρ v) (Z2 ls')else 2*ls.length+2*((V9 (ρ v) (Z2 ls')+Z0 ls-1)%Z0 ls)+1:=by
  intro v a d b;have:=NZ (ls:=ls') (v:=ρ v) (by rw[c];exact h.lt v a) b;rw[c,f,h.Cs v a,d,h.dn v a d]at this;grind
 by_cases w:x<2*ls.length
 ·obtain⟨v,b,a,rfl⟩:=L4 w;rw[Ygh a (h.pre v a)];rcases Z8k h a with d|d
  ·obtain⟨w1,w2,y,z,A⟩:=h.wv.Cp v a d;have r:=h.Cp _ w1 w2;rw[y]at r;rw[NZ a,iP d,gY w1 (h.pre _ w1)];have:=NZ (ls:=ls') (v:=ρ (V4 ls v ls.length 0)) (by rw[c];exact h.lt _ w1);rw[c]at this;rw[this,h.Cs _ w1,iP w2,r,h.ov _ w1 w2,z,A]
   congr 1
   grind
  obtain⟨hi,m⟩:=SE a d;have i:=h.idx v a d;obtain⟨t,n⟩:=SE (ls:=ls') (v:=ρ v) (by rw[c];exact h.lt v a) (by rw[h.Cs v a];exact d);have B:=h.dn v a d;rw[f]at t;have tr:=λp=>Se (ls:=ls') (p:=p);have tl:=λp=>Sx (ls:=ls') (p:=p);rw[c]at tr tl;rw[f]at tr;rw[NZ a,iN (by omega)];have key:∀q,q=V9 (ρ v) (Z2 ls')->(Z2 ls').getD q 0=ρ v:=λq e=>by rw[e,n]
  by_cases l:down ls v=b
  ·rw[iP l,Zw6];cases fl with
   |true=>
    grind
   |false=>
    have e:((2*Z0 ls-2-V9 v (Z2 ls))%Z0 ls+1)%Z0 ls=V9 (ρ v) (Z2 ls'):=by
     rw[i,Xa hi];simp only[bF,if_false];split
     ·rw[Xe (by omega)];split<;>omega
     rw[Xe (by omega)];split<;>omega
    grind
  have o:down ls v = !b:=by grind
  rw[iN l,Zx8];cases fl with
  |true=>
   have e:((V9 v (Z2 ls)+Z0 ls-1)%Z0 ls+1)%Z0 ls=V9 (ρ v) (Z2 ls'):=by
    rw[i,QH hi,iP rfl];split
    ·rw[Xe (by omega)];split<;>omega
    rw[Xe (by omega)];split<;>omega
   grind
  |false=>
   have hm:=mod_lt (V9 v (Z2 ls)+Z0 ls-1) h.wv.Eo;have e:(2*Z0 ls-2-(V9 v (Z2 ls)+Z0 ls-1)%Z0 ls)%Z0 ls=V9 (ρ v) (Z2 ls'):=by
    rw[i,Xa hm,QH hi];simp only[bF,if_false];split<;>split<;>omega
   grind
 obtain⟨p,C⟩:∃p,(x-2*ls.length) / 2=p:=⟨_,rfl⟩;have j:p<Z0 ls:=by omega
 rcases Nat.mod_two_eq_zero_or_one x with s|s
 ·have ex:x=2*ls.length+2*p:=by omega
  subst ex;have u:=mod_lt (p+1) h.wv.Eo;obtain⟨v,a,d,m,hi⟩:=IV u;rw[Se,m,gY a (h.pre v a),g v a d,h.idx v a d,hi,Zw6];rw[Xe j];cases fl with
  |true=>
   rw[iN (by grind)];simp only[if_true]
   congr 2
   split
   ·simp_all
   rw[QH (by omega)];split<;>omega
  |false=>
   rw[iP (by grind)];simp only[bF,if_false]
   congr 2
   rw[Xa j];split<;>omega
 have ex:x=2*ls.length+2*p+1:=by omega
 subst ex;obtain⟨v,a,d,m,hi⟩:=IV j;rw[Sx,m,gY a (h.pre v a),g v a d,h.idx v a d,hi,Zx8];grind
theorem Yif:VA (X4 ls (Z2 ls)) (X4 ls' (Z2 ls')) (2*ls.length+2*Z0 ls) (2*ls.length) (Db ls.length (Z0 ls) fl ρ) (Db ls.length (Z0 ls) fl σ):=by
 obtain⟨_,w,_,_⟩:=eM h.wv.Eo h.wv.Cs;have n:∀v,v<ls'.length->(at' ls' v).k≠2->(at' ls' v).k=1:=λv i l=>by
  rw[h.len]at i;have e:=h.inr v i;rw[<-e]at l ⊢;rw[h.Cs _ (h.Fz v i)]at l ⊢;exact h.wv.Cs _ (h.Fz v i) l
 obtain⟨_,r,_,_⟩:=eM (ls:=ls') (by rw[h.Eo];exact h.wv.Eo) n;rw[h.len,h.Eo]at r;have d:∀x,x<2*ls.length+2*Z0 ls->Db ls.length (Z0 ls) fl σ (Db ls.length (Z0 ls) fl ρ x)=x:=λx a=>ve h.lt h.inv a;have f:∀x,x<2*ls.length+2*Z0 ls->Db ls.length (Z0 ls) fl ρ (Db ls.length (Z0 ls) fl σ x)=x:=λx a=>ve h.Fz h.inr a;have o:Cl (X4 ls (Z2 ls)) (2*ls.length+2*Z0 ls):=⟨w,λy j c b e=>by
  have q:=Ws h c;have t:=Ws h b;rw[e]at q;have u:Db ls.length (Z0 ls) fl ρ y=Db ls.length (Z0 ls) fl ρ j:=by rw[<-q,<-t]
  have:=d y c;rw[u,d j b]at this;exact this.symm⟩
 have g:∀y,y<2*ls.length+2*Z0 ls -> ∃x,x<2*ls.length+2*Z0 ls/\Db ls.length (Z0 ls) fl ρ (X4 ls (Z2 ls) x)=y:=λy c=>by
  have s:=jW (fl:=fl) (m:=Z0 ls) h.Fz c;obtain⟨A,z,_⟩:=Uy o s;refine⟨it (X4 ls (Z2 ls)) (EZ (X4 ls (Z2 ls)) (2*ls.length+2*Z0 ls) (Db ls.length (Z0 ls) fl σ y)-1) (Db ls.length (Z0 ls) fl σ y),C8 o s _,?_⟩;have e:X4 ls (Z2 ls) (it (X4 ls (Z2 ls)) (EZ (X4 ls (Z2 ls)) (2*ls.length+2*Z0 ls) (Db ls.length (Z0 ls) fl σ y)-1) (Db ls.length (Z0 ls) fl σ y))=it (X4 ls (Z2 ls)) (EZ (X4 ls (Z2 ls)) (2*ls.length+2*Z0 ls) (Db ls.length (Z0 ls) fl σ y)-1+1) (Db ls.length (Z0 ls) fl σ y):=rfl;rw[e,show EZ (X4 ls (Z2 ls)) (2*ls.length+2*Z0 ls) (Db ls.length (Z0 ls) fl σ y)-1+1=EZ (X4 ls (Z2 ls)) (2*ls.length+2*Z0 ls) (Db ls.length (Z0 ls) fl σ y) by omega,z];exact f y c
 refine⟨o,⟨r,λy j c b e=>?_⟩,λx a=>jW h.lt a,λx a=>jW h.Fz a,d,f,λx a=>Ws h a,λx a=>Yjv h.lt a⟩;obtain⟨x,a,rfl⟩:=g y c;obtain⟨B,p,rfl⟩:=g j b;rw[Ws h a,Ws h p]at e;grind
end
end
end Go.Ad
