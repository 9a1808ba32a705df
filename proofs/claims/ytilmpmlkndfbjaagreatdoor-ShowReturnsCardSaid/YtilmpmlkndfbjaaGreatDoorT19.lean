/- Part 19 -/
import Derived.Test.YtilmpmlkndfbjaaGreatDoorT18
set_option linter.all false
open Nat (mod_lt mod_self mod_eq_of_lt)
namespace Go.Ad
open Go Go.AE Go.Proofs Go.Plain
section
attribute [local simp] No JX QG JJ JW ND KY Vg G4 Im E5 B7 Ih E3 JM Ka S2 AG Env.get Y8 R4 Ak Ac.at Ac.app Ac.get Z7 Aa.cells Aa.one I4 K4 H9 S7 S6 W5 S5 Gy Ez C3 K5 GX U9 Ai CY Dy Dx F8 JF I1 N7 W4 H3 O7 W6
theorem Qy{l:List Bool}{x:Nat}{b:Bool}(h:l[x]?=some b):l.getD x true=b:=by rw[List.getD,h];rfl
theorem pW{l:List Bool}{x:Nat}(h:l[x]?=some false):A4 (l.set x true)+1=A4 l:=by
 induction l generalizing x with
 |nil=>simp at h
 |cons a r b=>
  cases x with
  |zero=>
   simp only[List.getElem?_cons_zero,oI]at h;subst h;simp[A4]
  |succ x=>
   simp only[List.getElem?_cons_succ]at h;have:=b h;simp only[A4,List.set_cons_succ,List.filter_cons]at this ⊢;cases a<;>simp<;>omega
theorem UI{l:List Bool}:A4 l<=l.length:=List.length_filter_le _ _
theorem Ybe{T:Nat->Nat}{N d:Nat}{seen:List Bool}(e:d<N)(h:seen[d]?=some true):Gu T N (N-d) seen=Gu T N (N-(d+1)) seen:=by
 obtain⟨k,c⟩:∃k,N-d=k+1:=⟨N-d-1,by omega⟩;obtain⟨a,b⟩:N-(d+1)=k/\N-(k+1)=d:=by omega
 rw[c,a,Gu,b,Qy h,iP rfl]
theorem Zyo{T:Nat->Nat}{N d:Nat}{seen:List Bool}(e:d<N)(h:seen[d]?=some false):Gu T N (N-d) seen=1+Gu T N (N-(d+1)) (Plain.mark T (N+1) seen d):=by
 obtain⟨k,c⟩:∃k,N-d=k+1:=⟨N-d-1,by omega⟩;obtain⟨a,b⟩:N-(d+1)=k/\N-(k+1)=d:=by omega
 rw[c,a,Gu,b,Qy h,iN (by simp)]
theorem zm{T:Nat->Nat}{k x:Nat}{seen:List Bool}(h:seen[x]?=some true):Plain.mark T k seen x=seen:=by
 cases k with
 |zero=>rfl
 |succ k=>rw[Plain.mark,Qy h,iP rfl]
theorem Z5t{T:Nat->Nat}{k x:Nat}{seen:List Bool}(h:seen[x]?=some false):Plain.mark T (k+1) seen x=Plain.mark T k (seen.set x true) (T x):=by
 rw[Plain.mark,Qy h,iN (by simp)]
theorem Z91{T:Nat->Nat}{N:Nat}(h:0<N):0<H0 T N:=by
 have:=Zyo (T:=T) (N:=N) (d:=0) (seen:=List.replicate N false) h (by simp[h]);rw[Nat.sub_zero]at this;unfold H0;omega
end
def tr(T:Nat→Nat):Nat→List Bool→Nat→List Nat
 | 0,_,_=>[]
 | k+1,seen,x=>if seen.getD x true then []else x :: tr T k (seen.set x true) (T x)
def EL(T:Nat→Nat)(N:Nat):Nat→List Bool→List (List Nat)
 | 0,_=>[]
 | k+1,seen=>if seen.getD (N - (k+1)) true then EL T N k seen else tr T (N+1) seen (N - (k+1)) :: EL T N k (Plain.mark T (N+1) seen (N - (k+1)))
def Q8(T:Nat→Nat)(N:Nat):List (List Nat):=EL T N N (List.replicate N false)
theorem Pc(T:Nat->Nat)(N:Nat):∀(k:Nat) (seen:List Bool),(EL T N k seen).length=Gu T N k seen
 |0,_=>rfl
 |k+1,seen=>by
  simp only[EL,Gu];split
  ·exact Pc T N k seen
  rw[lC,Pc T N k,Nat.add_comm]
def Ug(T:Nat→Nat)(n:Nat):Nat→List Bool→Nat→List Nat×Bool
 | 0,_,_=>([],false)
 | k+1,seen,x=>if x<n then (if seen.getD x true then ([],false)else (x :: (Ug T n k (seen.set x true) (T x)).1,(Ug T n k (seen.set x true) (T x)).2))else ((Ug T n k seen (T x)).1,true)
def Vu(T:Nat→Nat)(n:Nat):Nat→List Bool→Nat→List Bool
 | 0,seen,_=>seen
 | k+1,seen,x=>if x<n then (if seen.getD x true then seen else Vu T n k (seen.set x true) (T x))else Vu T n k seen (T x)
def Zo(T:Nat→Nat)(n:Nat):Nat→List Bool→List (List Nat×Bool)
 | 0,_=>[]
 | k+1,seen=>if seen.getD (n - (k+1)) true then Zo T n k seen else Ug T n (2*n+2) seen (n - (k+1)) :: Zo T n k (Vu T n (2*n+2) seen (n - (k+1)))
def fR(T:Nat→Nat)(n:Nat):List (List Nat×Bool):=Zo T n n (List.replicate n false)
def JK(n:Nat)(w:List Nat):List Nat×Bool:=(w.filter fun x=>decide (x<n),w.any fun x=>decide (n≤x))
theorem JC{l:List Bool}{x y:Nat}(a:x<l.length):(l.set x true).getD y true=(l.getD y true||decide (y=x)):=by
 grind
theorem Zy0{l:List Bool}{n x:Nat}(a:x<n):(l.take n).getD x true=l.getD x true:=by
 grind
theorem WK{l:List Bool}{x:Nat}(a:x<l.length)(h:l.getD x true=false):A4 (l.set x true)+1=A4 l:=by
 refine pW ?_;grind
theorem RV{T:Nat->Nat}{y:Nat}:∀(k:Nat) (seen:List Bool) (x:Nat),seen.getD y true=true->(Plain.mark T k seen x).getD y true=true
 |0,_,_,h=>h
 |k+1,seen,x,h=>by
  simp only[Plain.mark];split
  ·exact h
  refine RV k _ _ ?_;grind
section
variable {T:Nat→Nat} {n N:Nat}
theorem Ydj(L:n<=N)(D:∀z,n<=z->z<N->T z<n)(F:∀d,d<N->T d<N)(K:∀y t,y<n->t<n->n<=T y->T y=T t->y=t) :
 ∀(k f:Nat) (seen:List Bool) (x:Nat),seen.length=N->x<N->A4 seen<k->2*A4 (seen.take n)+(if n<=x then 1 else 0)<f ->
  (∀y,y<n->n<=T y->seen.getD (T y) true=(seen.getD y true&&decide (T y≠x)))->(n<=x -> ∃y,y<n/\T y=x/\seen.getD y true=true) ->
  JK n (tr T k seen x)=Ug T n f (seen.take n) x/\(Plain.mark T k seen x).take n=Vu T n f (seen.take n) x /\ ∀y,y<n->n<=T y->(Plain.mark T k seen x).getD (T y) true=(Plain.mark T k seen x).getD y true:=by
 intro k;induction k with
 |zero=>omega
 |succ k B=>
  intro f seen x v A M G q E;cases f with
  |zero=>omega
  |succ f=>
  by_cases a:x<n
  ·have l:=F x A;simp only[tr,Plain.mark,Ug,Vu,iP a,Zy0 a];cases c:seen.getD x true with
   |true=>
    refine⟨by simp[JK],by simp,λy m b=>?_⟩;rw[iP rfl,q y m b];grind
   |false=>
    have s:=WK (by omega) c;have r:(seen.set x true).take n=(seen.take n).set x true:=by rw[List.take_set]
    have w:A4 ((seen.take n).set x true)+1=A4 (seen.take n):=WK (by grind) (by grind);obtain⟨i,j,p⟩:=B f (seen.set x true) (T x) (by simpa using v) l (by omega) (by grind)
     (λy m b=>by
       rw[JC (by omega),JC (by omega),q y m b];have o:T y≠x:=by omega
       by_cases g:y=x
       ·subst g;rw[c];simp[o]
       grind)
     (λu=>⟨x,a,rfl,by grind⟩)
    rw[r]at i j;simp only[bF,if_false];refine⟨?_,j,p⟩;rw[<-i];have:¬n<=x:=by omega
    simp[JK,a,this]
  have e:n<=x:=by omega
  obtain⟨O,H,I,J⟩:=E e;have c:seen.getD x true=false:=by
   grind
  have s:=WK (by omega) c;have r:(seen.set x true).take n=seen.take n:=by
   rw[List.take_set,List.set_eq_of_length_le (by grind)]
  simp only[tr,Plain.mark,Ug,Vu,iN a,c,bF,if_false];have l:=D x e A;obtain⟨i,j,p⟩:=B f (seen.set x true) (T x) (by simpa using v) (by omega) (by omega) (by grind)
   (λy m b=>by
     rw[JC (by omega),JC (by omega),q y m b];obtain⟨o,C⟩:y≠x/\T y≠T x:=by omega
     by_cases g:T y=x
     ·grind
     simp[g,o,C])
   (λh=>by omega)
  rw[r]at i j;refine⟨?_,j,p⟩;rw[<-i];simp[JK,a,e]
theorem zY:∀(k:Nat) (seen:List Bool),(∀x,seen.getD x true=true)->EL T N k seen=[]
 |0,_,_=>rfl
 |k+1,seen,h=>by simp only[EL];rw[iP (h _)];exact zY k seen h
theorem nY(q:n<=N)(i:∀z,n<=z->z<N->T z<n)(o:∀d,d<N->T d<N)(j:∀y r,y<n->r<n->n<=T y->T y=T r->y=r)(u:∀z,n<=z->z<N -> ∃y,y<n/\T y=z) :
 ∀(k:Nat) (seen:List Bool),k<=n->seen.length=N->(∀y,y<n-k->seen.getD y true=true)->(∀y,y<n->n<=T y->seen.getD (T y) true=seen.getD y true) ->
  (EL T N (k+(N-n)) seen).map (JK n)=Zo T n k (seen.take n)
 |0,seen,_,f,B,m=>by
  rw[zY]
  ·rfl
  grind
 |k+1,seen,D,f,B,m=>by
  obtain⟨e,w⟩:k+1+(N-n)=(k+(N-n))+1/\N-(k+(N-n)+1)=n-(k+1):=by omega
  rw[e];simp only[EL,Zo,w];rw[Zy0 (show n-(k+1)<n by omega)];have b:∀a:List Bool,(∀y,seen.getD y true=true->a.getD y true=true)->a.getD (n-(k+1)) true=true -> ∀y,y<n-k->a.getD y true=true:=λa s t y g=>by
   grind
  cases v:seen.getD (n-(k+1)) true with
  |true=>
   simp only[if_true];exact nY q i o j u k seen (by omega) f (b seen (λ_ h=>h) v) m
  |false=>
   have C:=UI (l:=seen);have c:=UI (l:=seen.take n);rw[lK]at c;obtain⟨s,t,A⟩:=Ydj q i o j (N+1) (2*n+2) seen (n-(k+1)) f (by omega) (by omega) (by rw[iN (by omega)];omega)
    (λy g p=>by
      rw[m y g p];have:T y≠n-(k+1):=by omega
      simp[this]) (λh=>by omega)
   simp only[bF,if_false,List.map_cons];rw[s,nY q i o j u k _ (by omega) (by rw[fI];exact f) (b _ (λy g=>RV _ _ _ g) ?_) A,t];simp only[Plain.mark,v,bF,if_false];exact RV _ _ _ (by rw[JC (by omega)];simp)
theorem Ya2(a:n<=N)(c:∀z,n<=z->z<N->T z<n)(g:∀d,d<N->T d<N)(e:∀y b,y<n->b<n->n<=T y->T y=T b->y=b)(f:∀z,n<=z->z<N -> ∃y,y<n/\T y=z) :
 (Q8 T N).map (JK n)=fR T n:=by
 have h:=nY a c g e f n (List.replicate N false) (lR _) (by simp) (λy j=>by omega) (λy j i=>by
  grind)
 rw[Nat.add_sub_cancel' a]at h;rw[Q8,h,fR,List.take_replicate,Nat.min_eq_left a]
end
def V2(n d:Nat):Nat:=if d % 2=0 then (d / 2+1) % n else d / 2
theorem Lg{n d:Nat}(h:d<2*n):V2 n d<n:=by
 unfold V2;split
 ·exact mod_lt _ (by omega)
 omega
theorem pG{n d a:Nat}(h:d<2*n)(i:a<2*n)(b:V2 n d=V2 n a)(j:d%2=a%2):d=a:=by
 unfold V2 at b;by_cases g:d%2=0
 ·rw[iP g,iP (by omega)]at b;have c:(d / 2+1)%n=if d / 2+1=n then 0 else d / 2+1:=by
   split
   ·rename_i e;rw[e,mod_self]
   rw[mod_eq_of_lt (by omega)]
  have f:(a / 2+1)%n=if a / 2+1=n then 0 else a / 2+1:=by
   split
   ·rename_i e;rw[e,mod_self]
   rw[mod_eq_of_lt (by omega)]
  rw[c,f]at b;split at b<;>split at b<;>omega
 grind
theorem yM{n v:Nat}(a:v<n)(b:Bool):∃d,d<2*n/\V2 n d=v/\(d%2 == 0)=b:=by
 cases b with
 |true=>
  by_cases c:v=0
  ·refine⟨2*(n-1),by omega,?_,by simp⟩;unfold V2;rw[iP (by omega)];have:2*(n-1) / 2+1=n:=by omega
   simp_all
  refine⟨2*(v-1),by omega,?_,by simp⟩;unfold V2;rw[iP (by omega)];have:2*(v-1) / 2+1=v:=by omega
  rw[this,mod_eq_of_lt a]
 |false=>
  refine⟨2*v+1,by omega,?_,by simp⟩;unfold V2;grind
section
variable {ls:List Lt}
theorem Qk{a:List Nat}{d:Nat}(b:d<2*ls.length):X4 ls a d=if (at' ls (V2 ls.length d)).k=2 then Y5 ls.length (V4 ls (V2 ls.length d) ls.length 0) ((d%2 == 0) == ((at' ls (V2 ls.length d)).o == ((at' ls (V2 ls.length d)).s == 1)))
 else if down ls (V2 ls.length d)=(d%2 == 0)then 2*ls.length+2*V9 (V2 ls.length d) a else 2*ls.length+2*((V9 (V2 ls.length d) a+a.length-1)%a.length)+1:=by
 unfold X4 V2;rw[iN (by omega)]
theorem Yax{m a b:Nat}(d:a<m)(f:b<m)(h:(a+m-1)%m=(b+m-1)%m):a=b:=by
 have e:∀a,a<m->(a+m-1)%m=if a=0 then m-1 else a-1:=λa d=>by
  split
  ·rename_i c;subst c;rw[Nat.zero_add,mod_eq_of_lt (by omega)]
  have:a+m-1=(a-1)+m:=by omega
  rw[this,Nat.add_mod_right,mod_eq_of_lt (by omega)]
 grind
theorem Z5l(hm:∀v,v<ls.length->(at' ls v).k≠2->v∈Z2 ls){d:Nat}(a:d<2*ls.length)(c:2*ls.length<=X4 ls (Z2 ls) d):(at' ls (V2 ls.length d)).k≠2/\V2 ls.length d∈Z2 ls:=by
 have e:=Lg a;have b:(at' ls (V2 ls.length d)).k≠2:=λb=>by
  rw[Qk a,iP b]at c;have:=HJ (fw:=(d%2 == 0) == ((at' ls (V2 ls.length d)).o == ((at' ls (V2 ls.length d)).s == 1))) (qE e ls.length 0 (by omega));omega
 grind
theorem eM(F:0<Z0 ls)(M:∀v,v<ls.length->(at' ls v).k≠2->(at' ls v).k=1) :
 (∀z,2*ls.length<=z->z<2*ls.length+2*Z0 ls->X4 ls (Z2 ls) z<2*ls.length)/\(∀d,d<2*ls.length+2*Z0 ls->X4 ls (Z2 ls) d<2*ls.length+2*Z0 ls) /\
   (∀y f,y<2*ls.length->f<2*ls.length->2*ls.length<=X4 ls (Z2 ls) y->X4 ls (Z2 ls) y=X4 ls (Z2 ls) f->y=f)/\(∀z,2*ls.length<=z->z<2*ls.length+2*Z0 ls -> ∃y,y<2*ls.length/\X4 ls (Z2 ls) y=z):=by
 have m:=Q7 ls;have K:∀v,v∈Z2 ls->v<ls.length:=λv u=>(AA.1 u).1;have hm:∀v,v<ls.length->(at' ls v).k≠2->v∈Z2 ls:=λv u l=>AA.2 ⟨u,by simp[As,M v u l]⟩;have c:∀j,j<Z0 ls->(Z2 ls).getD j 0<ls.length:=λj L=>by
  simp_all
 refine⟨λz I E=>?_,λd H=>?_,λy f w h C D=>?_,λz I E=>?_⟩
 ·unfold X4;rw[iP I];split
  ·exact HJ (c _ (by rw[m];exact mod_lt _ F))
  exact HJ (c _ (by omega))
 ·rw[<-m]at H ⊢;exact jI K hm (by omega) H
 ·obtain⟨T,J⟩:=Z5l hm w C;obtain⟨U,m2⟩:=Z5l hm h (by omega);have Q:=Wy J;have S:=Wy m2;have a:V9 (V2 ls.length y) (Z2 ls)=V9 (V2 ls.length f) (Z2 ls)->V2 ls.length y=V2 ls.length f:=λe=>by
   have V:=(Li J).1;have X:=(Li m2).1;grind
  rw[Qk w,Qk h,iN T,iN U]at D;have r:∀{b b':Bool}{x A:Nat},(b == (x%2 == 0))=(b' == (A%2 == 0))->b=b'->x%2=A%2:=by
   intro b b' x A i l;subst l;rcases Nat.mod_two_eq_zero_or_one x with e|e<;>rcases Nat.mod_two_eq_zero_or_one A with e'|e'<;>rw[e,e']<;>rw[e,e']at i<;>cases b<;>simp at i
  by_cases B:down ls (V2 ls.length y)=(y%2 == 0)
  ·by_cases s:down ls (V2 ls.length f)=(f%2 == 0)
   ·rw[iP B,iP s]at D;have o:=a (by omega);exact pG w h o (r (b:=down ls (V2 ls.length y)) (b':=down ls (V2 ls.length f)) (by rw[B,s];simp) (by rw[o]))
   grind
  by_cases s:down ls (V2 ls.length f)=(f%2 == 0)
  ·grind
  rw[iN B,iN s]at D;have o:=a (Yax Q S (by omega));refine pG w h o (r (b:=down ls (V2 ls.length y)) (b':=down ls (V2 ls.length f)) ?_ (by rw[o]));grind
 obtain⟨j,L⟩:∃j,(z-2*ls.length) / 2=j:=⟨_,rfl⟩;have g:j<Z0 ls:=by omega
 have nd:=Qx ls;have a:∀p,p<Z0 ls->V9 ((Z2 ls).getD p 0) (Z2 ls)=p:=λp N=>by
  have t:(Z2 ls)[p]?=some ((Z2 ls).getD p 0):=by grind
  exact Xv nd (Li (List.mem_of_getElem? t)).1 t
 have q:∀p,p<Z0 ls->(at' ls ((Z2 ls).getD p 0)).k≠2:=λp N=>by
  have t:(Z2 ls)[p]?=some ((Z2 ls).getD p 0):=by grind
  have:=(AA.1 (List.mem_of_getElem? t)).2;simp only[As,beq_iff_eq]at this;omega
 by_cases P:z%2=0
 ·obtain⟨d,i,l,G⟩:=yM (c j g) (down ls ((Z2 ls).getD j 0));refine⟨d,i,?_⟩;rw[Qk i,l,iN (q j g),iP G.symm,a j g];omega
 have n:(j+1)%Z0 ls<Z0 ls:=mod_lt _ F;obtain⟨d,i,l,G⟩:=yM (c _ n) (!down ls ((Z2 ls).getD ((j+1)%Z0 ls) 0));refine⟨d,i,?_⟩;rw[Qk i,l,iN (q _ n),iN (by grind),a _ n,m];have e:((j+1)%Z0 ls+Z0 ls-1)%Z0 ls=j:=by
  by_cases O:j+1=Z0 ls
  ·rw[O,mod_self,Nat.zero_add,mod_eq_of_lt (by omega)];omega
  rw[mod_eq_of_lt (show j+1<Z0 ls by omega)];have:j+1+Z0 ls-1=j+Z0 ls:=by omega
  rw[this,Nat.add_mod_right,mod_eq_of_lt g]
 rw[e];omega
theorem Z7s(a:0<Z0 ls)(f:∀v,v<ls.length->(at' ls v).k≠2->(at' ls v).k=1) :
 (Q8 (X4 ls (Z2 ls)) (2*ls.length+2*Z0 ls)).map (JK (2*ls.length))=fR (X4 ls (Z2 ls)) (2*ls.length):=by
 obtain⟨b,c,d,e⟩:=eM a f;exact Ya2 (by omega) b c d e
end
end Go.Ad
