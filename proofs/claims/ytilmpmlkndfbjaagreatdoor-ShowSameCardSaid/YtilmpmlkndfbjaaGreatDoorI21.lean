/- Part 21 of the proof: Ld, Pi, Pj. -/
import Derived.Test.YtilmpmlkndfbjaaGreatDoorI17
import Derived.Test.YtilmpmlkndfbjaaGreatDoorI20
set_option linter.all false
section
namespace Go.Known
open Go Go.AE Go.Proofs
open Go.Plain
attribute [local simp] F2 E3 F8 E4 E6 F7 F4 F0 O4 P9 P7 O0 P6 P8 E5 F1 V4 evE Env.get Y6 V2 stepD SMem.at SMem.app SMem.get Z9 AVal.cells AVal.one R9 T9 Q8 T0 V5 X7 V9 unA eqA R8 U8 J6 W4 aundef SubS SubE SubB G7 Zae N5 R4 O6 L4 Q5 X6
theorem Zfh{l:List Bool}{x:Nat}{b:Bool}(h:l[x]? = some b):l.getD x true=b:=by rw[List.getD,h]; rfl
theorem Zsw{l:List Bool}{x:Nat}(h:l[x]? = some false):D9 (l.set x true)+1=D9 l:=by
 induction l generalizing x with
 | nil=>simp at h
 | cons a r b=>
  cases x with
  | zero=>
   simp only[List.getElem?_cons_zero,oI]at h;subst h;simp[D9]
  | succ x=>
   simp only[List.getElem?_cons_succ]at h;have:=b h;simp only[D9,List.set_cons_succ,List.filter_cons]at this ⊢;cases a<;>simp<;>omega
theorem Zfp{l:List Bool}:D9 l≤l.length:=List.length_filter_le _ _
theorem Z8l{T:Nat→Nat}{N d:Nat}{seen:List Bool}(e:d<N)(h:seen[d]? = some true):cyc T N (N - d) seen=cyc T N (N - (d+1)) seen:=by
 obtain⟨k,c⟩:∃ k,N - d=k+1:=⟨N - d - 1,by omega⟩
 have a:N - (d+1)=k:=by omega
 have b:N - (k+1)=d:=by omega
 rw[c,a,cyc,b,Zfh h,if_pos rfl]
theorem Zwb{T:Nat→Nat}{N d:Nat}{seen:List Bool}(e:d<N)(h:seen[d]? = some false):cyc T N (N - d) seen=1+cyc T N (N - (d+1)) (Plain.mark T (N+1) seen d):=by
 obtain⟨k,c⟩:∃ k,N - d=k+1:=⟨N - d - 1,by omega⟩
 have a:N - (d+1)=k:=by omega
 have b:N - (k+1)=d:=by omega
 rw[c,a,cyc,b,Zfh h,if_neg (by simp)]
theorem Zzb{T:Nat→Nat}{k x:Nat}{seen:List Bool}(h:seen[x]? = some true):Plain.mark T k seen x=seen:=by
 cases k with
 | zero=>rfl
 | succ k=>rw[Plain.mark,Zfh h,if_pos rfl]
theorem Zyj{T:Nat→Nat}{k x:Nat}{seen:List Bool}(h:seen[x]? = some false):Plain.mark T (k+1) seen x=Plain.mark T k (seen.set x true) (T x):=by
 rw[Plain.mark,Zfh h,if_neg (by simp)]
theorem Ygq{T:Nat→Nat}{N:Nat}(h:0<N):0<L2 T N:=by
 have:=Zwb (T:=T) (N:=N) (d:=0) (seen:=List.replicate N false) h (by simp[h])
 rw[Nat.sub_zero]at this;unfold L2;omega
end Go.Known
end
section
namespace Go.Known
open Go.Plain
def tr(T:Nat→Nat):Nat→List Bool→Nat→List Nat
 | 0,_,_=>[]
 | k+1,seen,x=>if seen.getD x true then []else x :: tr T k (seen.set x true) (T x)
def wks(T:Nat→Nat)(N:Nat):Nat→List Bool→List (List Nat)
 | 0,_=>[]
 | k+1,seen=>if seen.getD (N - (k+1)) true then wks T N k seen else tr T (N+1) seen (N - (k+1)) :: wks T N k (Plain.mark T (N+1) seen (N - (k+1)))
def T3(T:Nat→Nat)(N:Nat):List (List Nat):=wks T N N (List.replicate N false)
theorem Zet(T:Nat→Nat)(N:Nat):∀ (k:Nat) (seen:List Bool),(wks T N k seen).length=cyc T N k seen
 | 0,_=>rfl
 | k+1,seen=>by
  simp only[wks,cyc];split
  ·exact Zet T N k seen
  ·rw[List.length_cons,Zet T N k,Nat.add_comm]
def tr2(T:Nat→Nat)(n:Nat):Nat→List Bool→Nat→List Nat×Bool
 | 0,_,_=>([],false)
 | k+1,seen,x=>if x<n then (if seen.getD x true then ([],false)else (x :: (tr2 T n k (seen.set x true) (T x)).1,(tr2 T n k (seen.set x true) (T x)).2))else ((tr2 T n k seen (T x)).1,true)
def mk2(T:Nat→Nat)(n:Nat):Nat→List Bool→Nat→List Bool
 | 0,seen,_=>seen
 | k+1,seen,x=>if x<n then (if seen.getD x true then seen else mk2 T n k (seen.set x true) (T x))else mk2 T n k seen (T x)
def fcs(T:Nat→Nat)(n:Nat):Nat→List Bool→List (List Nat×Bool)
 | 0,_=>[]
 | k+1,seen=>if seen.getD (n - (k+1)) true then fcs T n k seen else tr2 T n (2*n+2) seen (n - (k+1)) :: fcs T n k (mk2 T n (2*n+2) seen (n - (k+1)))
def Zg0(T:Nat→Nat)(n:Nat):List (List Nat×Bool):=fcs T n n (List.replicate n false)
def Zao(n:Nat)(w:List Nat):List Nat×Bool:=(w.filter fun x=>decide (x<n),w.any fun x=>decide (n≤x))
theorem C6{l:List Bool}{x y:Nat}(a:x<l.length):(l.set x true).getD y true=(l.getD y true||decide (y=x)):=by
 rw[List.getD_eq_getElem?_getD,List.getD_eq_getElem?_getD,List.getElem?_set];by_cases h:x=y
 ·subst h;rw[if_pos rfl,if_pos a];simp
 ·rw[if_neg h];have:¬y=x:=fun e=>h e.symm
  simp[this]
theorem Zq6{l:List Bool}{n x:Nat}(a:x<n):(l.take n).getD x true=l.getD x true:=by
 rw[List.getD_eq_getElem?_getD,List.getD_eq_getElem?_getD,List.getElem?_take,if_pos a]
theorem Zi7{l:List Bool}{x:Nat}(a:x<l.length)(h:l.getD x true=false):D9 (l.set x true)+1=D9 l:=by
 refine Zsw ?_;rw[List.getD_eq_getElem?_getD,gE a]at h;rw[gE a];simpa using h
theorem Ze4{T:Nat→Nat}{y:Nat}:∀ (k:Nat) (seen:List Bool) (x:Nat),seen.getD y true=true→(Plain.mark T k seen x).getD y true=true
 | 0,_,_,h=>h
 | k+1,seen,x,h=>by
  simp only[Plain.mark];split
  ·exact h
  ·refine Ze4 k _ _ ?_;rcases Nat.lt_or_ge x seen.length with a|a
   ·rw[C6 a,h]; rfl
   ·rw[List.set_eq_of_length_le a]; exact h
section
variable {T:Nat→Nat} {n N:Nat}
theorem Z11(O:n≤N)(K:∀ z,n≤z→z<N→T z<n)(M:∀ d,d<N→T d<N)(E:∀ y C,y<n→C<n→n≤T y→T y=T C→y=C) :
 ∀(k i:Nat) (seen:List Bool) (x:Nat),seen.length=N→x<N→D9 seen<k→2*D9 (seen.take n)+(if n≤x then 1 else 0)<i →
  (∀ y,y<n→n≤T y→seen.getD (T y) true=(seen.getD y true&&decide (T y≠x)))→(n≤x → ∃ y,y<n∧T y=x∧seen.getD y true=true) →
  Zao n (tr T k seen x)=tr2 T n i (seen.take n) x∧(Plain.mark T k seen x).take n=mk2 T n i (seen.take n) x ∧ ∀ y,y<n→n≤T y→(Plain.mark T k seen x).getD (T y) true=(Plain.mark T k seen x).getD y true:=by
 intro k
 induction k with
 | zero=>intro i seen x _ _ h; omega
 | succ k J=>
  intro i seen x G I P r u L;cases i with
  | zero=>omega
  | succ i=>
  by_cases a:x<n
  ·have p:=M x I;simp only[tr,Plain.mark,tr2,mk2,if_pos a,Zq6 a];cases f:seen.getD x true with
   | true=>
    refine⟨by simp[Zao],by simp,fun y j b=>?_⟩
    rw[if_pos rfl,u y j b];have:T y≠x:=by omega
    simp[this]
   | false=>
    have A:=Zi7 (by omega) f
    have q:(seen.set x true).take n=(seen.take n).set x true:=by rw[List.take_set]
    have H:D9 ((seen.take n).set x true)+1=D9 (seen.take n):=Zi7 (by rw[List.length_take]; omega) (by rw[Zq6 a]; exact f)
    obtain⟨m,o,v⟩:=J i (seen.set x true) (T x) (by simpa using G) p (by omega) (by rw[q]; split<;>split at r<;>omega)
     (fun y j b=>by
       rw[C6 (by omega),C6 (by omega),u y j b]
       have l:T y≠x:=by omega
       by_cases g:y=x
       ·subst g;rw[f];simp[l]
       ·have w:T y≠T x:=fun e=>g (E y x j a b e)
        simp[l,g,w])
     (fun F=>⟨x,a,rfl,by rw[C6 (by omega)]; simp⟩)
    rw[q]at m o;simp only[bF,if_false];refine⟨?_,o,v⟩;rw[← m];have:¬n≤x:=by omega
    simp[Zao,a,this]
  ·have c:n≤x:=by omega
   obtain⟨D,s,B,t⟩:=L c;have f:seen.getD x true=false:=by
    have:=u D s (by omega)
    rw[B]at this;simpa using this
   have A:=Zi7 (by omega) f
   have q:(seen.set x true).take n=seen.take n:=by
    rw[List.take_set,List.set_eq_of_length_le (by rw[List.length_take]; omega)]
   simp only[tr,Plain.mark,tr2,mk2,if_neg a,f,bF,if_false];have p:=K x c I;obtain⟨m,o,v⟩:=J i (seen.set x true) (T x) (by simpa using G) (by omega) (by omega) (by rw[q,if_neg (by omega)]; rw[if_pos c]at r; omega)
    (fun y j b=>by
      rw[C6 (by omega),C6 (by omega),u y j b]
      have l:y≠x:=by omega
      have w:T y≠T x:=by omega
      by_cases g:T y=x
      ·have:y=D:=E y D j s b (by omega)
       subst this;simp[g,t,a,l];exact⟨by simpa using t,by omega⟩
      ·simp[g,l,w])
    (fun h=>by omega)
   rw[q]at m o;refine⟨?_,o,v⟩;rw[← m];simp[Zao,a,c]
theorem Zow:∀ (k:Nat) (seen:List Bool),(∀ x,seen.getD x true=true)→wks T N k seen=[]
 | 0,_,_=>rfl
 | k+1,seen,h=>by simp only[wks]; rw[if_pos (h _)]; exact Zow k seen h
theorem Zsz(v:n≤N)(q:∀ z,n≤z→z<N→T z<n)(t:∀ d,d<N→T d<N)(r:∀ y w,y<n→w<n→n≤T y→T y=T w→y=w)(s:∀ z,n≤z→z<N → ∃ y,y<n∧T y=z) :
 ∀(k:Nat) (seen:List Bool),k≤n→seen.length=N→(∀ y,y<n - k→seen.getD y true=true)→(∀ y,y<n→n≤T y→seen.getD (T y) true=seen.getD y true) →
  (wks T N (k+(N - n)) seen).map (Zao n)=fcs T n k (seen.take n)
 | 0,seen,_,p,o,m=>by
  rw[Zow]
  ·rfl
  ·intro x;rcases Nat.lt_or_ge x n with c|c
   ·exact o x (by omega)
   ·rcases Nat.lt_or_ge x N with f|f
    ·obtain⟨y,g,rfl⟩:=s x c f;rw[m y g c];exact o y (by omega)
    ·rw[List.getD_eq_getElem?_getD,List.getElem?_eq_none (by omega)]; rfl
 | k+1,seen,D,p,o,m=>by
  have e:k+1+(N - n)=(k+(N - n))+1:=by omega
  have B:N - (k+(N - n)+1)=n - (k+1):=by omega
  rw[e];simp only[wks,fcs,B];rw[Zq6 (show n - (k+1)<n by omega)]
  have b:∀ a:List Bool,(∀ y,seen.getD y true=true→a.getD y true=true)→a.getD (n - (k+1)) true=true → ∀ y,y<n - k→a.getD y true=true:=fun a c f y g=>by
   rcases Nat.lt_or_ge y (n - (k+1))with j|j
   ·exact c y (o y j)
   ·have:y=n - (k+1):=by omega
    rw[this]; exact f
  cases A:seen.getD (n - (k+1)) true with
  | true=>
   simp only[if_true];exact Zsz v q t r s k seen (by omega) p (b seen (fun _ h=>h) A) m
  | false=>
   have C:=Zfp (l:=seen);have i:=Zfp (l:=seen.take n);rw[List.length_take]at i;obtain⟨c,f,j⟩:=Z11 v q t r (N+1) (2*n+2) seen (n - (k+1)) p (by omega) (by omega) (by rw[if_neg (by omega)]; omega)
    (fun y g u=>by
      rw[m y g u];have:T y≠n - (k+1):=by omega
      simp[this]) (fun h=>by omega)
   simp only[bF,if_false,List.map_cons];rw[c,Zsz v q t r s k _ (by omega) (by rw[Zjm]; exact p) (b _ (fun y g=>Ze4 _ _ _ g) ?_) j,f]
   simp only[Plain.mark,A,bF,if_false];exact Ze4 _ _ _ (by rw[C6 (by omega)]; simp)
theorem Z8m(a:n≤N)(g:∀ z,n≤z→z<N→T z<n)(f:∀ d,d<N→T d<N)(i:∀ y c,y<n→c<n→n≤T y→T y=T c→y=c)(j:∀ z,n≤z→z<N → ∃ y,y<n∧T y=z) :
 (T3 T N).map (Zao n)=Zg0 T n:=by
 have h:=Zsz a g f i j n (List.replicate N false) (Nat.le_refl _) (by simp) (fun y b=>by omega) (fun y b k=>by
  have e:∀ y,y<N→(List.replicate N false).getD y true=false:=fun y b=>by rw[List.getD_eq_getElem?_getD,List.getElem?_replicate,if_pos b]; rfl
  rw[e y (by omega),e (T y) (f y (by omega))])
 rw[Nat.add_sub_cancel' a]at h;rw[T3,h,Zg0,List.take_replicate,Nat.min_eq_left a]
end
def W1(n d:Nat):Nat:=if d % 2=0 then (d / 2+1) % n else d / 2
theorem Zba{n d:Nat}(h:d<2*n):W1 n d<n:=by
 unfold W1;split
 ·exact Nat.mod_lt _ (by omega)
 ·omega
theorem Zqc{n d a:Nat}(h:d<2*n)(i:a<2*n)(b:W1 n d=W1 n a)(j:d % 2=a % 2):d=a:=by
 unfold W1 at b;by_cases c:d % 2=0
 ·rw[if_pos c,if_pos (by omega)]at b
  have f:(d / 2+1) % n=if d / 2+1=n then 0 else d / 2+1:=by
   split
   ·rename_i e; rw[e,Nat.mod_self]
   ·rw[Nat.mod_eq_of_lt (by omega)]
  have g:(a / 2+1) % n=if a / 2+1=n then 0 else a / 2+1:=by
   split
   ·rename_i e; rw[e,Nat.mod_self]
   ·rw[Nat.mod_eq_of_lt (by omega)]
  rw[f,g]at b;split at b<;>split at b<;>omega
 ·rw[if_neg c,if_neg (by omega)]at b
  omega
theorem Zug{n v:Nat}(c:v<n)(b:Bool):∃ d,d<2*n∧W1 n d=v∧(d % 2 == 0)=b:=by
 cases b with
 | true=>
  by_cases a:v=0
  ·refine⟨2*(n - 1),by omega,?_,by simp⟩
   unfold W1;rw[if_pos (by omega)]
   have:2*(n - 1) / 2+1=n:=by omega
   rw[this,Nat.mod_self,a]
  ·refine⟨2*(v - 1),by omega,?_,by simp⟩
   unfold W1;rw[if_pos (by omega)]
   have:2*(v - 1) / 2+1=v:=by omega
   rw[this,Nat.mod_eq_of_lt c]
 | false=>
  refine⟨2*v+1,by omega,?_,by simp⟩
  unfold W1;rw[if_neg (by omega)]
  omega
section
variable {ls:List Lt}
theorem Zft{a:List Nat}{d:Nat}(b:d<2*ls.length):Y4 ls a d=if (at' ls (W1 ls.length d)).k=2 then Y0 ls.length (X9 ls (W1 ls.length d) ls.length 0) ((d % 2 == 0) == ((at' ls (W1 ls.length d)).o == ((at' ls (W1 ls.length d)).s == 1)))
 else if down ls (W1 ls.length d)=(d % 2 == 0)then 2*ls.length+2*V1 (W1 ls.length d) a else 2*ls.length+2*((V1 (W1 ls.length d) a+a.length - 1) % a.length)+1:=by
 unfold Y4 W1;rw[if_neg (by omega)]
theorem Z3r{m a b:Nat}(c:a<m)(f:b<m)(h:(a+m - 1) % m=(b+m - 1) % m):a=b:=by
 have e:∀ a,a<m→(a+m - 1) % m=if a=0 then m - 1 else a - 1:=fun a c=>by
  split
  ·rename_i d; subst d; rw[Nat.zero_add,Nat.mod_eq_of_lt (by omega)]
  ·have:a+m - 1=(a - 1)+m:=by omega
   rw[this,Nat.add_mod_right,Nat.mod_eq_of_lt (by omega)]
 rw[e a c,e b f]at h;split at h<;>split at h<;>omega
theorem Z1h(hm:∀ v,v<ls.length→(at' ls v).k≠2→v∈Z1 ls){d:Nat}(b:d<2*ls.length)(e:2*ls.length≤Y4 ls (Z1 ls) d):(at' ls (W1 ls.length d)).k≠2∧W1 ls.length d∈Z1 ls:=by
 have c:=Zba b;have a:(at' ls (W1 ls.length d)).k≠2:=fun a=>by
  rw[Zft b,if_pos a]at e;have:=F9 (fw:=(d % 2 == 0) == ((at' ls (W1 ls.length d)).o == ((at' ls (W1 ls.length d)).s == 1))) (Zqd c ls.length 0 (by omega))
  omega
 exact⟨a,hm _ c a⟩
theorem Zhv(I:0<Z0 ls)(Q:∀ v,v<ls.length→(at' ls v).k≠2→(at' ls v).k=1) :
 (∀ z,2*ls.length≤z→z<2*ls.length+2*Z0 ls→Y4 ls (Z1 ls) z<2*ls.length)∧(∀ d,d<2*ls.length+2*Z0 ls→Y4 ls (Z1 ls) d<2*ls.length+2*Z0 ls) ∧
   (∀ y f,y<2*ls.length→f<2*ls.length→2*ls.length≤Y4 ls (Z1 ls) y→Y4 ls (Z1 ls) y=Y4 ls (Z1 ls) f→y=f)∧(∀ z,2*ls.length≤z→z<2*ls.length+2*Z0 ls → ∃ y,y<2*ls.length∧Y4 ls (Z1 ls) y=z):=by
 have n:=T4 ls;have s:∀ v,v∈Z1 ls→v<ls.length:=fun v C=>(mem_axis.1 C).1
 have hm:∀ v,v<ls.length→(at' ls v).k≠2→v∈Z1 ls:=fun v C m=>mem_axis.2 ⟨C,by simp[isP,Q v C m]⟩
 have c:∀ j,j<Z0 ls→(Z1 ls).getD j 0<ls.length:=fun j P=>by
  rw[List.getD,gE (by omega)]
  exact s _ (List.getElem_mem (by omega))
 refine⟨fun z K H=>?_,fun d J=>?_,fun y f D h G t=>?_,fun z K H=>?_⟩
 ·unfold Y4;rw[if_pos K];split
  ·exact F9 (c _ (by rw[n]; exact Nat.mod_lt _ I))
  ·exact F9 (c _ (by omega))
 ·rw[← n]at J ⊢;exact Zs0 s hm (by omega) J
 ·obtain⟨Z,L⟩:=Z1h hm D G;obtain⟨k2,m2⟩:=Z1h hm h (by omega)
  have X:=Zij L;have Y:=Zij m2;have a:V1 (W1 ls.length y) (Z1 ls)=V1 (W1 ls.length f) (Z1 ls)→W1 ls.length y=W1 ls.length f:=fun e=>by
   have A:=(Zbh L).1;have O:=(Zbh m2).1;rw[e,O]at A;injection A with A
   exact A.symm
  rw[Zft D,Zft h,if_neg Z,if_neg k2]at t;have w:∀ {b b':Bool} {x E:Nat},(b == (x % 2 == 0))=(b' == (E % 2 == 0))→b=b'→x % 2=E % 2:=by
   intro b b' x E i m;subst m;rcases Nat.mod_two_eq_zero_or_one x with e|e<;>rcases Nat.mod_two_eq_zero_or_one E with e'|e'<;>rw[e,e']<;>rw[e,e']at i<;>cases b<;>simp at i
  by_cases q:down ls (W1 ls.length y)=(y % 2 == 0)
  ·by_cases l:down ls (W1 ls.length f)=(f % 2 == 0)
   ·rw[if_pos q,if_pos l]at t;have r:=a (by omega)
    exact Zqc D h r (w (b:=down ls (W1 ls.length y)) (b':=down ls (W1 ls.length f)) (by rw[q,l]; simp) (by rw[r]))
   ·rw[if_pos q,if_neg l]at t;omega
  ·by_cases l:down ls (W1 ls.length f)=(f % 2 == 0)
   ·rw[if_neg q,if_pos l]at t;omega
   ·rw[if_neg q,if_neg l]at t;have r:=a (Z3r X Y (by omega))
    refine Zqc D h r (w (b:=down ls (W1 ls.length y)) (b':=down ls (W1 ls.length f)) ?_ (by rw[r]))
    have M:(down ls (W1 ls.length y) == (y % 2 == 0))=false:=by simpa using q
    have N:(down ls (W1 ls.length f) == (f % 2 == 0))=false:=by simpa using l
    rw[M,N]
 ·obtain⟨j,P⟩:∃ j,(z - 2*ls.length) / 2=j:=⟨_,rfl⟩
  have g:j<Z0 ls:=by omega
  have nd:=Zfy ls;have a:∀ p,p<Z0 ls→V1 ((Z1 ls).getD p 0) (Z1 ls)=p:=fun p S=>by
   have B:(Z1 ls)[p]? = some ((Z1 ls).getD p 0):=by rw[List.getD,gE (by omega)]; rfl
   exact Zkg nd (Zbh (List.mem_of_getElem? B)).1 B
  have u:∀ p,p<Z0 ls→(at' ls ((Z1 ls).getD p 0)).k≠2:=fun p S=>by
   have B:(Z1 ls)[p]? = some ((Z1 ls).getD p 0):=by rw[List.getD,gE (by omega)]; rfl
   have:=(mem_axis.1 (List.mem_of_getElem? B)).2;simp only[isP,beq_iff_eq]at this;omega
  by_cases V:z % 2=0
  ·obtain⟨d,i,m,F⟩:=Zug (c j g) (down ls ((Z1 ls).getD j 0));refine⟨d,i,?_⟩;rw[Zft i,m,if_neg (u j g),if_pos F.symm,a j g];omega
  ·have o:(j+1) % Z0 ls<Z0 ls:=Nat.mod_lt _ I;obtain⟨d,i,m,F⟩:=Zug (c _ o) (!down ls ((Z1 ls).getD ((j+1) % Z0 ls) 0));refine⟨d,i,?_⟩;rw[Zft i,m,if_neg (u _ o),if_neg (by rw[F]; cases down ls ((Z1 ls).getD ((j+1) % Z0 ls) 0)<;>simp),a _ o,n]
   have e:((j+1) % Z0 ls+Z0 ls - 1) % Z0 ls=j:=by
    by_cases U:j+1=Z0 ls
    ·rw[U,Nat.mod_self,Nat.zero_add,Nat.mod_eq_of_lt (by omega)]; omega
    ·rw[Nat.mod_eq_of_lt (show j+1<Z0 ls by omega)]
     have:j+1+Z0 ls - 1=j+Z0 ls:=by omega
     rw[this,Nat.add_mod_right,Nat.mod_eq_of_lt g]
   rw[e];omega
theorem Z4n(a:0<Z0 ls)(f:∀ v,v<ls.length→(at' ls v).k≠2→(at' ls v).k=1) :
 (T3 (Y4 ls (Z1 ls)) (2*ls.length+2*Z0 ls)).map (Zao (2*ls.length))=Zg0 (Y4 ls (Z1 ls)) (2*ls.length):=by
 obtain⟨b,c,d,e⟩:=Zhv a f;exact Z8m (by omega) b c d e
end
end Go.Known
end
section
namespace Go.Known
open Go.Plain
abbrev Pol:=Nat×Nat×Bool
def isC(ls:List Lt)(d:Nat):Bool:=(at' ls (W1 ls.length d)).k == 2
def Zsp(ls:List Lt)(w:List Nat):Nat:=(w.filter (isC ls)).length
def polN(ls:List Lt)(w:List Nat×Bool):Pol:=(Zsp ls w.1,w.1.length,!w.2)
def Zhg(ls:List Lt):List Pol:=(Zg0 (Y4 ls (Z1 ls)) (2*ls.length)).map (polN ls)
def Zh9(out:List Nat)(c:Nat):List Nat:=out++List.replicate (c+1 - out.length) 0
def addP(out:List Nat)(c:Nat):List Nat:=out.set c (out.getD c 0+1)
def E9(out:List Nat)(p:Pol):List Nat:=if p.2.2 then addP (Zh9 out p.1) p.1 else out
def patP(ps:List Pol):List Nat:=ps.foldl E9 []
def mxS(m:Nat)(p:Pol):Nat:=if p.2.2 then max m (p.1+1)else m
def mxP(ps:List Pol):Nat:=ps.foldl mxS 0
def patT(out:List Nat)(p:Pol):List Nat:=if p.2.2 then addP out p.1 else out
def patR(ps:List Pol):List Nat:=ps.foldl patT (List.replicate (mxP ps) 0)
theorem Zum(a:List Nat)(c:Nat):(Zh9 a c).length=max a.length (c+1):=by simp[Zh9]; omega
theorem Z66(a:List Nat)(c:Nat):(addP a c).length=a.length:=by simp[addP]
theorem Yha{a b:List Nat}{c:Nat}(h:c<a.length):addP (a++b) c=addP a c++b:=by
 unfold addP;rw[List.set_append_left _ _ h,List.getD_eq_getElem?_getD,List.getD_eq_getElem?_getD,List.getElem?_append_left h]
theorem Ya6(p:Pol)(m:Nat):m≤mxS m p:=by unfold mxS; split<;>omega
theorem Zy1:∀ (ps:List Pol) (m:Nat),m≤ps.foldl mxS m
 | [],m=>Nat.le_refl _
 | p :: r,m=>Nat.le_trans (Ya6 p m) (Zy1 r _)
theorem Zsq(M:Nat):∀ (ps:List Pol) (a:List Nat),ps.foldl mxS a.length≤M→ps.foldl patT (a++List.replicate (M - a.length) 0)=ps.foldl E9 a++List.replicate (M - (ps.foldl E9 a).length) 0∧(ps.foldl E9 a).length=ps.foldl mxS a.length
 | [],a,_=>⟨rfl,rfl⟩
 | p :: r,a,h=>by
  simp only[List.foldl_cons]at h ⊢;cases b:p.2.2 with
  | false=>
   have e:patT (a++List.replicate (M - a.length) 0) p=a++List.replicate (M - a.length) 0:=by simp[patT,b]
   have c:E9 a p=a:=by simp[E9,b]
   have d:mxS a.length p=a.length:=by simp[mxS,b]
   rw[e,c,d];rw[d]at h;exact Zsq M r a h
  | true=>
   have d:mxS a.length p=max a.length (p.1+1):=by simp[mxS,b]
   rw[d]at h ⊢;have g:max a.length (p.1+1)≤M:=Nat.le_trans (Zy1 r _) h;have c:E9 a p=addP (Zh9 a p.1) p.1:=by simp[E9,b]
   have f:(E9 a p).length=max a.length (p.1+1):=by rw[c,Z66,Zum]
   have e:patT (a++List.replicate (M - a.length) 0) p=E9 a p++List.replicate (M - (E9 a p).length) 0:=by
    have:a++List.replicate (M - a.length) 0=Zh9 a p.1++List.replicate (M - max a.length (p.1+1)) 0:=by
     unfold Zh9;rw[List.append_assoc,List.replicate_append_replicate]
     congr 2
     omega
    rw[f,c,this];simp only[patT,b,if_true];exact Yha (by rw[Zum]; omega)
   rw[e,← f];rw[← f]at h;exact Zsq M r _ h
theorem Z10(ps:List Pol):patR ps=patP ps:=by
 obtain⟨a,b⟩:=Zsq (mxP ps) ps [] (Nat.le_refl _);unfold patR patP;have c:(ps.foldl E9 []).length=mxP ps:=b;rw[c,Nat.sub_self]at a;simpa using a
end Go.Known
end
