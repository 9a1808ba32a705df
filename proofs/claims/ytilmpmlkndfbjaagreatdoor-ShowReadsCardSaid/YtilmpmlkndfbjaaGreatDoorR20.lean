/- Part 20 of the proof: Ld, Pi. -/
import Derived.Test.YtilmpmlkndfbjaaGreatDoorR16
import Derived.Test.YtilmpmlkndfbjaaGreatDoorR19
set_option linter.all false
section
namespace Go.Known
open Go Go.AE Go.Proofs
open Go.Plain
attribute [local simp] E8 E3 F9 F8 E4 E5 F5 D1 O6 O3 P8 P7 O1 O5 E9 E7 U0 evE Env.get Y3 U1 stepD SMem.at SMem.app SMem.get Z7 AVal.cells AVal.one Q5 T7 P0 W2 U5 W7 V6 unA eqA Q7 T0 I6 W8 aundef SubS SubE SubB J8 Zaf I7 C3 X5 L4 S3 W6
theorem Zfn{l:List Bool}{x:Nat}{b:Bool}(h:l[x]? = some b):l.getD x true=b:=by rw[List.getD,h]; rfl
theorem Zoh{l:List Bool}{x:Nat}(h:l[x]? = some false):D6 (l.set x true)+1=D6 l:=by
 induction l generalizing x with
 | nil=>simp at h
 | cons a r b=>
  cases x with
  | zero=>
   simp only[List.getElem?_cons_zero,oI]at h;subst h;simp[D6]
  | succ x=>
   simp only[List.getElem?_cons_succ]at h;have:=b h;simp only[D6,List.set_cons_succ,List.filter_cons]at this ⊢;cases a<;>simp<;>omega
theorem Zh4{l:List Bool}:D6 l≤l.length:=List.length_filter_le _ _
theorem Z36{T:Nat→Nat}{N d:Nat}{seen:List Bool}(e:d<N)(h:seen[d]? = some true):cyc T N (N - d) seen=cyc T N (N - (d+1)) seen:=by
 obtain⟨k,c⟩:∃ k,N - d=k+1:=⟨N - d - 1,by omega⟩
 have a:N - (d+1)=k:=by omega
 have b:N - (k+1)=d:=by omega
 rw[c,a,cyc,b,Zfn h,if_pos rfl]
theorem Zup{T:Nat→Nat}{N d:Nat}{seen:List Bool}(e:d<N)(h:seen[d]? = some false):cyc T N (N - d) seen=1+cyc T N (N - (d+1)) (Plain.mark T (N+1) seen d):=by
 obtain⟨k,c⟩:∃ k,N - d=k+1:=⟨N - d - 1,by omega⟩
 have a:N - (d+1)=k:=by omega
 have b:N - (k+1)=d:=by omega
 rw[c,a,cyc,b,Zfn h,if_neg (by simp)]
theorem Zx3{T:Nat→Nat}{k x:Nat}{seen:List Bool}(h:seen[x]? = some true):Plain.mark T k seen x=seen:=by
 cases k with
 | zero=>rfl
 | succ k=>rw[Plain.mark,Zfn h,if_pos rfl]
theorem Zvf{T:Nat→Nat}{k x:Nat}{seen:List Bool}(h:seen[x]? = some false):Plain.mark T (k+1) seen x=Plain.mark T k (seen.set x true) (T x):=by
 rw[Plain.mark,Zfn h,if_neg (by simp)]
theorem Z0z{T:Nat→Nat}{N:Nat}(h:0<N):0<K1 T N:=by
 have:=Zup (T:=T) (N:=N) (d:=0) (seen:=List.replicate N false) h (by simp[h])
 rw[Nat.sub_zero]at this;unfold K1;omega
end Go.Known
end
section
namespace Go.Known
open Go.Plain
def tr(T:Nat→Nat):Nat→List Bool→Nat→List Nat
 | 0,_,_=>[]
 | k+1,seen,x=>if seen.getD x true then []else x :: tr T k (seen.set x true) (T x)
def wks(T:Nat→Nat)(N:Nat):Nat→List Bool→List (List Nat)
 | 0,_=>[]
 | k+1,seen=>if seen.getD (N - (k+1)) true then wks T N k seen else tr T (N+1) seen (N - (k+1)) :: wks T N k (Plain.mark T (N+1) seen (N - (k+1)))
def Q8(T:Nat→Nat)(N:Nat):List (List Nat):=wks T N N (List.replicate N false)
theorem Zf9(T:Nat→Nat)(N:Nat):∀ (k:Nat) (seen:List Bool),(wks T N k seen).length=cyc T N k seen
 | 0,_=>rfl
 | k+1,seen=>by
  simp only[wks,cyc];split
  ·exact Zf9 T N k seen
  ·rw[List.length_cons,Zf9 T N k,Nat.add_comm]
def tr2(T:Nat→Nat)(n:Nat):Nat→List Bool→Nat→List Nat×Bool
 | 0,_,_=>([],false)
 | k+1,seen,x=>if x<n then (if seen.getD x true then ([],false)else (x :: (tr2 T n k (seen.set x true) (T x)).1,(tr2 T n k (seen.set x true) (T x)).2))else ((tr2 T n k seen (T x)).1,true)
def mk2(T:Nat→Nat)(n:Nat):Nat→List Bool→Nat→List Bool
 | 0,seen,_=>seen
 | k+1,seen,x=>if x<n then (if seen.getD x true then seen else mk2 T n k (seen.set x true) (T x))else mk2 T n k seen (T x)
def fcs(T:Nat→Nat)(n:Nat):Nat→List Bool→List (List Nat×Bool)
 | 0,_=>[]
 | k+1,seen=>if seen.getD (n - (k+1)) true then fcs T n k seen else tr2 T n (2*n+2) seen (n - (k+1)) :: fcs T n k (mk2 T n (2*n+2) seen (n - (k+1)))
def Zp6(T:Nat→Nat)(n:Nat):List (List Nat×Bool):=fcs T n n (List.replicate n false)
def Zkp(n:Nat)(w:List Nat):List Nat×Bool:=(w.filter fun x=>decide (x<n),w.any fun x=>decide (n≤x))
theorem B1{l:List Bool}{x y:Nat}(a:x<l.length):(l.set x true).getD y true=(l.getD y true||decide (y=x)):=by
 rw[List.getD_eq_getElem?_getD,List.getD_eq_getElem?_getD,List.getElem?_set];by_cases h:x=y
 ·subst h;rw[if_pos rfl,if_pos a];simp
 ·rw[if_neg h];have:¬y=x:=fun e=>h e.symm
  simp[this]
theorem Zuo{l:List Bool}{n x:Nat}(a:x<n):(l.take n).getD x true=l.getD x true:=by
 rw[List.getD_eq_getElem?_getD,List.getD_eq_getElem?_getD,List.getElem?_take,if_pos a]
theorem Zi4{l:List Bool}{x:Nat}(a:x<l.length)(h:l.getD x true=false):D6 (l.set x true)+1=D6 l:=by
 refine Zoh ?_;rw[List.getD_eq_getElem?_getD,gE a]at h;rw[gE a];simpa using h
theorem Zg8{T:Nat→Nat}{y:Nat}:∀ (k:Nat) (seen:List Bool) (x:Nat),seen.getD y true=true→(Plain.mark T k seen x).getD y true=true
 | 0,_,_,h=>h
 | k+1,seen,x,h=>by
  simp only[Plain.mark];split
  ·exact h
  ·refine Zg8 k _ _ ?_;rcases Nat.lt_or_ge x seen.length with a|a
   ·rw[B1 a,h]; rfl
   ·rw[List.set_eq_of_length_le a]; exact h
section
variable {T:Nat→Nat} {n N:Nat}
theorem Z1k(O:n≤N)(K:∀ z,n≤z→z<N→T z<n)(M:∀ d,d<N→T d<N)(E:∀ y C,y<n→C<n→n≤T y→T y=T C→y=C) :
 ∀(k i:Nat) (seen:List Bool) (x:Nat),seen.length=N→x<N→D6 seen<k→2*D6 (seen.take n)+(if n≤x then 1 else 0)<i →
  (∀ y,y<n→n≤T y→seen.getD (T y) true=(seen.getD y true&&decide (T y≠x)))→(n≤x → ∃ y,y<n∧T y=x∧seen.getD y true=true) →
  Zkp n (tr T k seen x)=tr2 T n i (seen.take n) x∧(Plain.mark T k seen x).take n=mk2 T n i (seen.take n) x ∧ ∀ y,y<n→n≤T y→(Plain.mark T k seen x).getD (T y) true=(Plain.mark T k seen x).getD y true:=by
 intro k
 induction k with
 | zero=>intro i seen x _ _ h; omega
 | succ k J=>
  intro i seen x G I P r u L;cases i with
  | zero=>omega
  | succ i=>
  by_cases a:x<n
  ·have p:=M x I;simp only[tr,Plain.mark,tr2,mk2,if_pos a,Zuo a];cases f:seen.getD x true with
   | true=>
    refine⟨by simp[Zkp],by simp,fun y j b=>?_⟩
    rw[if_pos rfl,u y j b];have:T y≠x:=by omega
    simp[this]
   | false=>
    have A:=Zi4 (by omega) f
    have q:(seen.set x true).take n=(seen.take n).set x true:=by rw[List.take_set]
    have H:D6 ((seen.take n).set x true)+1=D6 (seen.take n):=Zi4 (by rw[List.length_take]; omega) (by rw[Zuo a]; exact f)
    obtain⟨m,o,v⟩:=J i (seen.set x true) (T x) (by simpa using G) p (by omega) (by rw[q]; split<;>split at r<;>omega)
     (fun y j b=>by
       rw[B1 (by omega),B1 (by omega),u y j b]
       have l:T y≠x:=by omega
       by_cases g:y=x
       ·subst g;rw[f];simp[l]
       ·have w:T y≠T x:=fun e=>g (E y x j a b e)
        simp[l,g,w])
     (fun F=>⟨x,a,rfl,by rw[B1 (by omega)]; simp⟩)
    rw[q]at m o;simp only[bF,if_false];refine⟨?_,o,v⟩;rw[← m];have:¬n≤x:=by omega
    simp[Zkp,a,this]
  ·have c:n≤x:=by omega
   obtain⟨D,s,B,t⟩:=L c;have f:seen.getD x true=false:=by
    have:=u D s (by omega)
    rw[B]at this;simpa using this
   have A:=Zi4 (by omega) f
   have q:(seen.set x true).take n=seen.take n:=by
    rw[List.take_set,List.set_eq_of_length_le (by rw[List.length_take]; omega)]
   simp only[tr,Plain.mark,tr2,mk2,if_neg a,f,bF,if_false];have p:=K x c I;obtain⟨m,o,v⟩:=J i (seen.set x true) (T x) (by simpa using G) (by omega) (by omega) (by rw[q,if_neg (by omega)]; rw[if_pos c]at r; omega)
    (fun y j b=>by
      rw[B1 (by omega),B1 (by omega),u y j b]
      have l:y≠x:=by omega
      have w:T y≠T x:=by omega
      by_cases g:T y=x
      ·have:y=D:=E y D j s b (by omega)
       subst this;simp[g,t,a,l];exact⟨by simpa using t,by omega⟩
      ·simp[g,l,w])
    (fun h=>by omega)
   rw[q]at m o;refine⟨?_,o,v⟩;rw[← m];simp[Zkp,a,c]
theorem Zuk:∀ (k:Nat) (seen:List Bool),(∀ x,seen.getD x true=true)→wks T N k seen=[]
 | 0,_,_=>rfl
 | k+1,seen,h=>by simp only[wks]; rw[if_pos (h _)]; exact Zuk k seen h
end
def U8(n d:Nat):Nat:=if d % 2=0 then (d / 2+1) % n else d / 2
theorem Zwi{n d:Nat}(h:d<2*n):U8 n d<n:=by
 unfold U8;split
 ·exact Nat.mod_lt _ (by omega)
 ·omega
theorem Zqp{n d a:Nat}(h:d<2*n)(i:a<2*n)(b:U8 n d=U8 n a)(j:d % 2=a % 2):d=a:=by
 unfold U8 at b;by_cases c:d % 2=0
 ·rw[if_pos c,if_pos (by omega)]at b
  have f:(d / 2+1) % n=if d / 2+1=n then 0 else d / 2+1:=by
   split
   ·rename_i e; rw[e,Nat.mod_self]
   ·rw[Nat.mod_eq_of_lt (by omega)]
  have g:(a / 2+1) % n=if a / 2+1=n then 0 else a / 2+1:=by
   split
   ·rename_i e; rw[e,Nat.mod_self]
   ·rw[Nat.mod_eq_of_lt (by omega)]
  rw[f,g]at b;split at b<;>split at b<;>omega
 ·rw[if_neg c,if_neg (by omega)]at b
  omega
theorem Zyu{n v:Nat}(c:v<n)(b:Bool):∃ d,d<2*n∧U8 n d=v∧(d % 2 == 0)=b:=by
 cases b with
 | true=>
  by_cases a:v=0
  ·refine⟨2*(n - 1),by omega,?_,by simp⟩
   unfold U8;rw[if_pos (by omega)]
   have:2*(n - 1) / 2+1=n:=by omega
   rw[this,Nat.mod_self,a]
  ·refine⟨2*(v - 1),by omega,?_,by simp⟩
   unfold U8;rw[if_pos (by omega)]
   have:2*(v - 1) / 2+1=v:=by omega
   rw[this,Nat.mod_eq_of_lt c]
 | false=>
  refine⟨2*v+1,by omega,?_,by simp⟩
  unfold U8;rw[if_neg (by omega)]
  omega
section
variable {ls:List Lt}
theorem Zho{a:List Nat}{d:Nat}(b:d<2*ls.length):V1 ls a d=if (at' ls (U8 ls.length d)).k=2 then T6 ls.length (T2 ls (U8 ls.length d) ls.length 0) ((d % 2 == 0) == ((at' ls (U8 ls.length d)).o == ((at' ls (U8 ls.length d)).s == 1)))
 else if down ls (U8 ls.length d)=(d % 2 == 0)then 2*ls.length+2*T8 (U8 ls.length d) a else 2*ls.length+2*((T8 (U8 ls.length d) a+a.length - 1) % a.length)+1:=by
 unfold V1 U8;rw[if_neg (by omega)]
theorem Z6a{m a b:Nat}(c:a<m)(f:b<m)(h:(a+m - 1) % m=(b+m - 1) % m):a=b:=by
 have e:∀ a,a<m→(a+m - 1) % m=if a=0 then m - 1 else a - 1:=fun a c=>by
  split
  ·rename_i d; subst d; rw[Nat.zero_add,Nat.mod_eq_of_lt (by omega)]
  ·have:a+m - 1=(a - 1)+m:=by omega
   rw[this,Nat.add_mod_right,Nat.mod_eq_of_lt (by omega)]
 rw[e a c,e b f]at h;split at h<;>split at h<;>omega
theorem Ztl(hm:∀ v,v<ls.length→(at' ls v).k≠2→v∈Z4 ls){d:Nat}(b:d<2*ls.length)(e:2*ls.length≤V1 ls (Z4 ls) d):(at' ls (U8 ls.length d)).k≠2∧U8 ls.length d∈Z4 ls:=by
 have c:=Zwi b;have a:(at' ls (U8 ls.length d)).k≠2:=fun a=>by
  rw[Zho b,if_pos a]at e;have:=Zgz (fw:=(d % 2 == 0) == ((at' ls (U8 ls.length d)).o == ((at' ls (U8 ls.length d)).s == 1))) (Zqz c ls.length 0 (by omega))
  omega
 exact⟨a,hm _ c a⟩
theorem Zq0(I:0<Z3 ls)(Q:∀ v,v<ls.length→(at' ls v).k≠2→(at' ls v).k=1) :
 (∀ z,2*ls.length≤z→z<2*ls.length+2*Z3 ls→V1 ls (Z4 ls) z<2*ls.length)∧(∀ d,d<2*ls.length+2*Z3 ls→V1 ls (Z4 ls) d<2*ls.length+2*Z3 ls) ∧
   (∀ y f,y<2*ls.length→f<2*ls.length→2*ls.length≤V1 ls (Z4 ls) y→V1 ls (Z4 ls) y=V1 ls (Z4 ls) f→y=f)∧(∀ z,2*ls.length≤z→z<2*ls.length+2*Z3 ls → ∃ y,y<2*ls.length∧V1 ls (Z4 ls) y=z):=by
 have n:=H6 ls;have s:∀ v,v∈Z4 ls→v<ls.length:=fun v C=>(mem_axis.1 C).1
 have hm:∀ v,v<ls.length→(at' ls v).k≠2→v∈Z4 ls:=fun v C m=>mem_axis.2 ⟨C,by simp[isP,Q v C m]⟩
 have c:∀ j,j<Z3 ls→(Z4 ls).getD j 0<ls.length:=fun j P=>by
  rw[List.getD,gE (by omega)]
  exact s _ (List.getElem_mem (by omega))
 refine⟨fun z K H=>?_,fun d J=>?_,fun y f D h G t=>?_,fun z K H=>?_⟩
 ·unfold V1;rw[if_pos K];split
  ·exact Zgz (c _ (by rw[n]; exact Nat.mod_lt _ I))
  ·exact Zgz (c _ (by omega))
 ·rw[← n]at J ⊢;exact Zoe s hm (by omega) J
 ·obtain⟨Z,L⟩:=Ztl hm D G;obtain⟨k2,m2⟩:=Ztl hm h (by omega)
  have X:=Zki L;have Y:=Zki m2;have a:T8 (U8 ls.length y) (Z4 ls)=T8 (U8 ls.length f) (Z4 ls)→U8 ls.length y=U8 ls.length f:=fun e=>by
   have A:=(Zau L).1;have O:=(Zau m2).1;rw[e,O]at A;injection A with A
   exact A.symm
  rw[Zho D,Zho h,if_neg Z,if_neg k2]at t;have w:∀ {b b':Bool} {x E:Nat},(b == (x % 2 == 0))=(b' == (E % 2 == 0))→b=b'→x % 2=E % 2:=by
   intro b b' x E i m;subst m;rcases Nat.mod_two_eq_zero_or_one x with e|e<;>rcases Nat.mod_two_eq_zero_or_one E with e'|e'<;>rw[e,e']<;>rw[e,e']at i<;>cases b<;>simp at i
  by_cases q:down ls (U8 ls.length y)=(y % 2 == 0)
  ·by_cases l:down ls (U8 ls.length f)=(f % 2 == 0)
   ·rw[if_pos q,if_pos l]at t;have r:=a (by omega)
    exact Zqp D h r (w (b:=down ls (U8 ls.length y)) (b':=down ls (U8 ls.length f)) (by rw[q,l]; simp) (by rw[r]))
   ·rw[if_pos q,if_neg l]at t;omega
  ·by_cases l:down ls (U8 ls.length f)=(f % 2 == 0)
   ·rw[if_neg q,if_pos l]at t;omega
   ·rw[if_neg q,if_neg l]at t;have r:=a (Z6a X Y (by omega))
    refine Zqp D h r (w (b:=down ls (U8 ls.length y)) (b':=down ls (U8 ls.length f)) ?_ (by rw[r]))
    have M:(down ls (U8 ls.length y) == (y % 2 == 0))=false:=by simpa using q
    have N:(down ls (U8 ls.length f) == (f % 2 == 0))=false:=by simpa using l
    rw[M,N]
 ·obtain⟨j,P⟩:∃ j,(z - 2*ls.length) / 2=j:=⟨_,rfl⟩
  have g:j<Z3 ls:=by omega
  have nd:=Zj1 ls;have a:∀ p,p<Z3 ls→T8 ((Z4 ls).getD p 0) (Z4 ls)=p:=fun p S=>by
   have B:(Z4 ls)[p]? = some ((Z4 ls).getD p 0):=by rw[List.getD,gE (by omega)]; rfl
   exact Zih nd (Zau (List.mem_of_getElem? B)).1 B
  have u:∀ p,p<Z3 ls→(at' ls ((Z4 ls).getD p 0)).k≠2:=fun p S=>by
   have B:(Z4 ls)[p]? = some ((Z4 ls).getD p 0):=by rw[List.getD,gE (by omega)]; rfl
   have:=(mem_axis.1 (List.mem_of_getElem? B)).2;simp only[isP,beq_iff_eq]at this;omega
  by_cases V:z % 2=0
  ·obtain⟨d,i,m,F⟩:=Zyu (c j g) (down ls ((Z4 ls).getD j 0));refine⟨d,i,?_⟩;rw[Zho i,m,if_neg (u j g),if_pos F.symm,a j g];omega
  ·have o:(j+1) % Z3 ls<Z3 ls:=Nat.mod_lt _ I;obtain⟨d,i,m,F⟩:=Zyu (c _ o) (!down ls ((Z4 ls).getD ((j+1) % Z3 ls) 0));refine⟨d,i,?_⟩;rw[Zho i,m,if_neg (u _ o),if_neg (by rw[F]; cases down ls ((Z4 ls).getD ((j+1) % Z3 ls) 0)<;>simp),a _ o,n]
   have e:((j+1) % Z3 ls+Z3 ls - 1) % Z3 ls=j:=by
    by_cases U:j+1=Z3 ls
    ·rw[U,Nat.mod_self,Nat.zero_add,Nat.mod_eq_of_lt (by omega)]; omega
    ·rw[Nat.mod_eq_of_lt (show j+1<Z3 ls by omega)]
     have:j+1+Z3 ls - 1=j+Z3 ls:=by omega
     rw[this,Nat.add_mod_right,Nat.mod_eq_of_lt g]
   rw[e];omega
end
end Go.Known
end
