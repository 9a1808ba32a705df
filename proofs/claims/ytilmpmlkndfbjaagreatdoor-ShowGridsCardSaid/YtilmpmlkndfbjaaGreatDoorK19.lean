/- Part 19 of the proof: Ld, Pi. -/
import Derived.Test.YtilmpmlkndfbjaaGreatDoorK15
import Derived.Test.YtilmpmlkndfbjaaGreatDoorK18
set_option linter.all false
section
namespace Go.Ab
open Go Go.AE Go.Proofs
open Go.Plain
attribute [local simp] bN ZP cR Yx Zh Zb bU Zx HG HJ HC HK HL HF YT YS Q4 AI Env.get X6 P3 Ak Ac.at Ac.app Ac.get Y2 Aa.cells Aa.one F1 J4 C0 V9 P7 X4 S7 Ga FG F5 N6 Jk U5 Aj Fq GC GB I2 MF T7 Q3 Z8 I8 P0 W6
theorem Xo{l:List Bool}{x:Nat}{b:Bool}(h:l[x]? = some b):l.getD x true=b:=by rw[List.getD,h]; rfl
theorem mX{l:List Bool}{x:Nat}(h:l[x]? = some false):Kp (l.set x true)+1=Kp l:=by
 induction l generalizing x with
 | nil=>simp at h
 | cons a r ih=>
  cases x with
  | zero=>
   simp only[List.getElem?_cons_zero,oI]at h;subst h;simp[Kp]
  | succ x=>
   simp only[List.getElem?_cons_succ]at h;have:=ih h;simp only[Kp,List.set_cons_succ,List.filter_cons]at this ⊢;cases a<;>simp<;>omega
theorem wW{l:List Bool}:Kp l≤l.length:=List.length_filter_le _ _
theorem qe{T:Nat→Nat}{N d:Nat}{seen:List Bool}(hd:d<N)(h:seen[d]? = some true):FX T N (N - d) seen=FX T N (N - (d+1)) seen:=by
 obtain⟨k,hk⟩:∃ k,N - d=k+1:=⟨N - d - 1,by omega⟩
 have hk2:N - (d+1)=k:=by omega
 have hk3:N - (k+1)=d:=by omega
 rw[hk,hk2,FX,hk3,Xo h,iP rfl]
theorem vu{T:Nat→Nat}{N d:Nat}{seen:List Bool}(hd:d<N)(h:seen[d]? = some false):FX T N (N - d) seen=1+FX T N (N - (d+1)) (Plain.mark T (N+1) seen d):=by
 obtain⟨k,hk⟩:∃ k,N - d=k+1:=⟨N - d - 1,by omega⟩
 have hk2:N - (d+1)=k:=by omega
 have hk3:N - (k+1)=d:=by omega
 rw[hk,hk2,FX,hk3,Xo h,iN (by simp)]
theorem y9{T:Nat→Nat}{k x:Nat}{seen:List Bool}(h:seen[x]? = some true):Plain.mark T k seen x=seen:=by
 cases k with
 | zero=>rfl
 | succ k=>rw[Plain.mark,Xo h,iP rfl]
theorem Zzu{T:Nat→Nat}{k x:Nat}{seen:List Bool}(h:seen[x]? = some false):Plain.mark T (k+1) seen x=Plain.mark T k (seen.set x true) (T x):=by
 rw[Plain.mark,Xo h,iN (by simp)]
end Go.Ab
end
section
namespace Go.Ab
open Go.Plain
def tr(T:Nat→Nat):Nat→List Bool→Nat→List Nat
 | 0,_,_=>[]
 | k+1,seen,x=>if seen.getD x true then []else x :: tr T k (seen.set x true) (T x)
def FK(T:Nat→Nat)(N:Nat):Nat→List Bool→List (List Nat)
 | 0,_=>[]
 | k+1,seen=>if seen.getD (N - (k+1)) true then FK T N k seen else tr T (N+1) seen (N - (k+1)) :: FK T N k (Plain.mark T (N+1) seen (N - (k+1)))
def H3(T:Nat→Nat)(N:Nat):List (List Nat):=FK T N N (List.replicate N false)
theorem Tj(T:Nat→Nat)(N:Nat):∀ (k:Nat) (seen:List Bool),(FK T N k seen).length=FX T N k seen
 | 0,_=>rfl
 | k+1,seen=>by
  simp only[FK,FX];split
  ·exact Tj T N k seen
  ·rw[lC,Tj T N k,Nat.add_comm]
def XT(T:Nat→Nat)(n:Nat):Nat→List Bool→Nat→List Nat×Bool
 | 0,_,_=>([],false)
 | k+1,seen,x=>if x<n then (if seen.getD x true then ([],false)else (x :: (XT T n k (seen.set x true) (T x)).1,(XT T n k (seen.set x true) (T x)).2))else ((XT T n k seen (T x)).1,true)
def jC(T:Nat→Nat)(n:Nat):Nat→List Bool→Nat→List Bool
 | 0,seen,_=>seen
 | k+1,seen,x=>if x<n then (if seen.getD x true then seen else jC T n k (seen.set x true) (T x))else jC T n k seen (T x)
def eZ(T:Nat→Nat)(n:Nat):Nat→List Bool→List (List Nat×Bool)
 | 0,_=>[]
 | k+1,seen=>if seen.getD (n - (k+1)) true then eZ T n k seen else XT T n (2*n+2) seen (n - (k+1)) :: eZ T n k (jC T n (2*n+2) seen (n - (k+1)))
def eV(T:Nat→Nat)(n:Nat):List (List Nat×Bool):=eZ T n n (List.replicate n false)
def strOf(n:Nat)(w:List Nat):List Nat×Bool:=(w.filter fun x=>decide (x<n),w.any fun x=>decide (n≤x))
theorem Nj{l:List Bool}{x y:Nat}(hx:x<l.length):(l.set x true).getD y true=(l.getD y true||decide (y=x)):=by
 grind
theorem nB{l:List Bool}{x:Nat}(hx:x<l.length)(h:l.getD x true=false):Kp (l.set x true)+1=Kp l:=by
 refine mX ?_
 grind
theorem Td{T:Nat→Nat}{y:Nat}:∀ (k:Nat) (seen:List Bool) (x:Nat),seen.getD y true=true→(Plain.mark T k seen x).getD y true=true
 | 0,_,_,h=>h
 | k+1,seen,x,h=>by
  simp only[Plain.mark];split
  ·exact h
  ·refine Td k _ _ ?_
   grind
section
variable {T:Nat→Nat} {n N:Nat}
end
def U7(n d:Nat):Nat:=if d % 2=0 then (d / 2+1) % n else d / 2
theorem vO{n d:Nat}(h:d<2*n):U7 n d<n:=by
 unfold U7;split
 ·exact Nat.mod_lt _ (by omega)
 ·omega
theorem cK{n d d':Nat}(h:d<2*n)(h':d'<2*n)(he:U7 n d=U7 n d')(hp:d % 2=d' % 2):d=d':=by
 unfold U7 at he;by_cases h0:d % 2=0
 ·rw[iP h0,iP (by omega)]at he
  have e1:(d / 2+1) % n=if d / 2+1=n then 0 else d / 2+1:=by
   split
   ·rename_i e; rw[e,Nat.mod_self]
   ·rw[Nat.mod_eq_of_lt (by omega)]
  have e2:(d' / 2+1) % n=if d' / 2+1=n then 0 else d' / 2+1:=by
   split
   ·rename_i e; rw[e,Nat.mod_self]
   ·rw[Nat.mod_eq_of_lt (by omega)]
  rw[e1,e2]at he;split at he<;>split at he<;>omega
 grind
theorem tM{n v:Nat}(hv:v<n)(b:Bool):∃ d,d<2*n∧U7 n d=v∧(d % 2 == 0)=b:=by
 cases b with
 | true=>
  by_cases h0:v=0
  ·refine⟨2*(n - 1),by omega,?_,by simp⟩
   unfold U7;rw[iP (by omega)]
   have:2*(n - 1) / 2+1=n:=by omega
   simp_all
  ·refine⟨2*(v - 1),by omega,?_,by simp⟩
   unfold U7;rw[iP (by omega)]
   have:2*(v - 1) / 2+1=v:=by omega
   rw[this,Nat.mod_eq_of_lt hv]
 | false=>
  refine⟨2*v+1,by omega,?_,by simp⟩
  unfold U7
  grind
section
variable {ls:List Lt}
theorem QT{ax:List Nat}{d:Nat}(hd:d<2*ls.length):U2 ls ax d=if (at' ls (U7 ls.length d)).k=2 then Q5 ls.length (Q9 ls (U7 ls.length d) ls.length 0) ((d % 2 == 0) == ((at' ls (U7 ls.length d)).o == ((at' ls (U7 ls.length d)).s == 1)))
 else if W4 ls (U7 ls.length d)=(d % 2 == 0)then 2*ls.length+2*R9 (U7 ls.length d) ax else 2*ls.length+2*((R9 (U7 ls.length d) ax+ax.length - 1) % ax.length)+1:=by
 unfold U2 U7;rw[iN (by omega)]
theorem Z7b{m a b:Nat}(ha:a<m)(hb:b<m)(h:(a+m - 1) % m=(b+m - 1) % m):a=b:=by
 have e:∀ a,a<m→(a+m - 1) % m=if a=0 then m - 1 else a - 1:=fun a ha=>by
  split
  ·rename_i h0; subst h0; rw[Nat.zero_add,Nat.mod_eq_of_lt (by omega)]
  ·have:a+m - 1=(a - 1)+m:=by omega
   rw[this,Nat.add_mod_right,Nat.mod_eq_of_lt (by omega)]
 grind
theorem qU(hm:∀ v,v<ls.length→(at' ls v).k≠2→v∈Z4 ls){d:Nat}(hd:d<2*ls.length)(hT:2*ls.length≤U2 ls (Z4 ls) d):(at' ls (U7 ls.length d)).k≠2∧U7 ls.length d∈Z4 ls:=by
 have hh:=vO hd;have hk:(at' ls (U7 ls.length d)).k≠2:=fun hk=>by
  rw[QT hd,iP hk]at hT;have:=OD (fw:=(d % 2 == 0) == ((at' ls (U7 ls.length d)).o == ((at' ls (U7 ls.length d)).s == 1))) (aL hh ls.length 0 (by omega))
  omega
 grind
theorem x6(h0:0<Z5 ls)(hk:∀ v,v<ls.length→(at' ls v).k≠2→(at' ls v).k=1) :
 (∀ z,2*ls.length≤z→z<2*ls.length+2*Z5 ls→U2 ls (Z4 ls) z<2*ls.length)∧(∀ d,d<2*ls.length+2*Z5 ls→U2 ls (Z4 ls) d<2*ls.length+2*Z5 ls) ∧
   (∀ y y',y<2*ls.length→y'<2*ls.length→2*ls.length≤U2 ls (Z4 ls) y→U2 ls (Z4 ls) y=U2 ls (Z4 ls) y'→y=y')∧(∀ z,2*ls.length≤z→z<2*ls.length+2*Z5 ls → ∃ y,y<2*ls.length∧U2 ls (Z4 ls) y=z):=by
 have hal:=HI ls;have GZ:∀ v,v∈Z4 ls→v<ls.length:=fun v hv=>(Bb.1 hv).1
 have hm:∀ v,v<ls.length→(at' ls v).k≠2→v∈Z4 ls:=fun v hv h2=>Bb.2 ⟨hv,by simp[AT,hk v hv h2]⟩
 have hget:∀ j,j<Z5 ls→(Z4 ls).getD j 0<ls.length:=fun j hj=>by
  simp_all
 refine⟨fun z hz hz2=>?_,fun d hd=>?_,fun y y' hy hy' hTy he=>?_,fun z hz hz2=>?_⟩
 ·unfold U2;rw[iP hz];split
  ·exact OD (hget _ (by rw[hal]; exact Nat.mod_lt _ h0))
  ·exact OD (hget _ (by omega))
 ·rw[← hal]at hd ⊢;exact sB GZ hm (by omega) hd
 ·obtain⟨k1,m1⟩:=qU hm hy hTy;obtain⟨k2,m2⟩:=qU hm hy' (by omega)
  have i1:=SA m1;have i2:=SA m2;have hidx:R9 (U7 ls.length y) (Z4 ls)=R9 (U7 ls.length y') (Z4 ls)→U7 ls.length y=U7 ls.length y':=fun e=>by
   have g1:=(LC m1).1;have g2:=(LC m2).1
   grind
  rw[QT hy,QT hy',iN k1,iN k2]at he;have par:∀ {b b':Bool} {x x':Nat},(b == (x % 2 == 0))=(b' == (x' % 2 == 0))→b=b'→x % 2=x' % 2:=by
   intro b b' x x' h1 h2;subst h2;rcases Nat.mod_two_eq_zero_or_one x with e|e<;>rcases Nat.mod_two_eq_zero_or_one x' with e'|e'<;>rw[e,e']<;>rw[e,e']at h1<;>cases b<;>simp at h1
  by_cases d1:W4 ls (U7 ls.length y)=(y % 2 == 0)
  ·by_cases d2:W4 ls (U7 ls.length y')=(y' % 2 == 0)
   ·rw[iP d1,iP d2]at he;have e1:=hidx (by omega)
    exact cK hy hy' e1 (par (b:=W4 ls (U7 ls.length y)) (b':=W4 ls (U7 ls.length y')) (by rw[d1,d2]; simp) (by rw[e1]))
   grind
  ·by_cases d2:W4 ls (U7 ls.length y')=(y' % 2 == 0)
   ·grind
   ·rw[iN d1,iN d2]at he;have e1:=hidx (Z7b i1 i2 (by omega))
    refine cK hy hy' e1 (par (b:=W4 ls (U7 ls.length y)) (b':=W4 ls (U7 ls.length y')) ?_ (by rw[e1]))
    grind
 ·obtain⟨j,hj⟩:∃ j,(z - 2*ls.length) / 2=j:=⟨_,rfl⟩
  have hjm:j<Z5 ls:=by omega
  have nd:=Su ls;have hidx:∀ p,p<Z5 ls→R9 ((Z4 ls).getD p 0) (Z4 ls)=p:=fun p hp=>by
   have hg:(Z4 ls)[p]? = some ((Z4 ls).getD p 0):=by grind
   exact RJ nd (LC (List.mem_of_getElem? hg)).1 hg
  have hk2:∀ p,p<Z5 ls→(at' ls ((Z4 ls).getD p 0)).k≠2:=fun p hp=>by
   have hg:(Z4 ls)[p]? = some ((Z4 ls).getD p 0):=by grind
   have:=(Bb.1 (List.mem_of_getElem? hg)).2;simp only[AT,beq_iff_eq]at this;omega
  by_cases hz0:z % 2=0
  ·obtain⟨d,h1,h2,h3⟩:=tM (hget j hjm) (W4 ls ((Z4 ls).getD j 0));refine⟨d,h1,?_⟩;rw[QT h1,h2,iN (hk2 j hjm),iP h3.symm,hidx j hjm];omega
  ·have hpm:(j+1) % Z5 ls<Z5 ls:=Nat.mod_lt _ h0;obtain⟨d,h1,h2,h3⟩:=tM (hget _ hpm) (!W4 ls ((Z4 ls).getD ((j+1) % Z5 ls) 0));refine⟨d,h1,?_⟩;rw[QT h1,h2,iN (hk2 _ hpm),iN (by grind),hidx _ hpm,hal]
   have e:((j+1) % Z5 ls+Z5 ls - 1) % Z5 ls=j:=by
    by_cases hw:j+1=Z5 ls
    ·rw[hw,Nat.mod_self,Nat.zero_add,Nat.mod_eq_of_lt (by omega)]; omega
    ·rw[Nat.mod_eq_of_lt (show j+1<Z5 ls by omega)]
     have:j+1+Z5 ls - 1=j+Z5 ls:=by omega
     rw[this,Nat.add_mod_right,Nat.mod_eq_of_lt hjm]
   rw[e];omega
end
end Go.Ab
end
