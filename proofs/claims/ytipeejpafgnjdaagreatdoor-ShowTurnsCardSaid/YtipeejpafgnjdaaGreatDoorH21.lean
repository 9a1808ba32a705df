/- Part 21 of the proof: Ld, Pi, Pj. -/
import Derived.Test.YtipeejpafgnjdaaGreatDoorH17
import Derived.Test.YtipeejpafgnjdaaGreatDoorH20
set_option linter.all false
section
namespace Go.Known
open Go Go.AE Go.Proofs
open Go.Plain
attribute [local simp] F5 F3 G5 F4 F9 F8 F1 G9 P1 P3 Q7 P6 Q9 P4 G7 F0 V2 evE Env.get Y4 W9 stepD SMem.at SMem.app SMem.get Z8 AVal.cells AVal.one R4 T6 Q1 U9 V1 X6 V4 unA eqA R5 U8 J0 X9 aundef SubS SubE SubB I6 Zaa P9 R2 P7 M8 R6 X4
theorem Zfu{l:List Bool}{x:Nat}{b:Bool}(h:l[x]? = some b):l.getD x true=b:=by rw[List.getD,h]; rfl
theorem Zn7{l:List Bool}{x:Nat}(h:l[x]? = some false):E7 (l.set x true)+1=E7 l:=by
 induction l generalizing x with
 | nil=>simp at h
 | cons a r ih=>
  cases x with
  | zero=>
   simp only[List.getElem?_cons_zero,oI]at h;subst h;simp[E7]
  | succ x=>
   simp only[List.getElem?_cons_succ]at h;have:=ih h;simp only[E7,List.set_cons_succ,List.filter_cons]at this ⊢;cases a<;>simp<;>omega
theorem Ze3{l:List Bool}:E7 l≤l.length:=List.length_filter_le _ _
theorem Z28{T:Nat→Nat}{N d:Nat}{seen:List Bool}(hd:d<N)(h:seen[d]? = some true):cyc T N (N - d) seen=cyc T N (N - (d+1)) seen:=by
 obtain⟨k,hk⟩:∃ k,N - d=k+1:=⟨N - d - 1,by omega⟩
 have hk2:N - (d+1)=k:=by omega
 have hk3:N - (k+1)=d:=by omega
 rw[hk,hk2,cyc,hk3,Zfu h,if_pos rfl]
theorem Zxp{T:Nat→Nat}{N d:Nat}{seen:List Bool}(hd:d<N)(h:seen[d]? = some false):cyc T N (N - d) seen=1+cyc T N (N - (d+1)) (Plain.mark T (N+1) seen d):=by
 obtain⟨k,hk⟩:∃ k,N - d=k+1:=⟨N - d - 1,by omega⟩
 have hk2:N - (d+1)=k:=by omega
 have hk3:N - (k+1)=d:=by omega
 rw[hk,hk2,cyc,hk3,Zfu h,if_neg (by simp)]
theorem Zx2{T:Nat→Nat}{k x:Nat}{seen:List Bool}(h:seen[x]? = some true):Plain.mark T k seen x=seen:=by
 cases k with
 | zero=>rfl
 | succ k=>rw[Plain.mark,Zfu h,if_pos rfl]
theorem Zsl{T:Nat→Nat}{k x:Nat}{seen:List Bool}(h:seen[x]? = some false):Plain.mark T (k+1) seen x=Plain.mark T k (seen.set x true) (T x):=by
 rw[Plain.mark,Zfu h,if_neg (by simp)]
theorem Z3n{T:Nat→Nat}{N:Nat}(h:0<N):0<I0 T N:=by
 have:=Zxp (T:=T) (N:=N) (d:=0) (seen:=List.replicate N false) h (by simp[h])
 rw[Nat.sub_zero]at this;unfold I0;omega
end Go.Known
end
section
namespace Go.Known
open Go.Plain
def tr(T:Nat→Nat):Nat→List Bool→Nat→List Nat
 | 0,_,_=>[]
 | k+1,seen,x=>if seen.getD x true then []else x :: tr T k (seen.set x true) (T x)
def wks(T:Nat→Nat)(N:Nat):Nat→List Bool→List (List Nat)
 | 0,_=>[]
 | k+1,seen=>if seen.getD (N - (k+1)) true then wks T N k seen else tr T (N+1) seen (N - (k+1)) :: wks T N k (Plain.mark T (N+1) seen (N - (k+1)))
def Q5(T:Nat→Nat)(N:Nat):List (List Nat):=wks T N N (List.replicate N false)
theorem Zez(T:Nat→Nat)(N:Nat):∀ (k:Nat) (seen:List Bool),(wks T N k seen).length=cyc T N k seen
 | 0,_=>rfl
 | k+1,seen=>by
  simp only[wks,cyc];split
  ·exact Zez T N k seen
  ·rw[List.length_cons,Zez T N k,Nat.add_comm]
def tr2(T:Nat→Nat)(n:Nat):Nat→List Bool→Nat→List Nat×Bool
 | 0,_,_=>([],false)
 | k+1,seen,x=>if x<n then (if seen.getD x true then ([],false)else (x :: (tr2 T n k (seen.set x true) (T x)).1,(tr2 T n k (seen.set x true) (T x)).2))else ((tr2 T n k seen (T x)).1,true)
def mk2(T:Nat→Nat)(n:Nat):Nat→List Bool→Nat→List Bool
 | 0,seen,_=>seen
 | k+1,seen,x=>if x<n then (if seen.getD x true then seen else mk2 T n k (seen.set x true) (T x))else mk2 T n k seen (T x)
def fcs(T:Nat→Nat)(n:Nat):Nat→List Bool→List (List Nat×Bool)
 | 0,_=>[]
 | k+1,seen=>if seen.getD (n - (k+1)) true then fcs T n k seen else tr2 T n (2*n+2) seen (n - (k+1)) :: fcs T n k (mk2 T n (2*n+2) seen (n - (k+1)))
def Za4(T:Nat→Nat)(n:Nat):List (List Nat×Bool):=fcs T n n (List.replicate n false)
def D4(n:Nat)(w:List Nat):List Nat×Bool:=(w.filter fun x=>decide (x<n),w.any fun x=>decide (n≤x))
theorem C8{l:List Bool}{x y:Nat}(hx:x<l.length):(l.set x true).getD y true=(l.getD y true||decide (y=x)):=by
 rw[List.getD_eq_getElem?_getD,List.getD_eq_getElem?_getD,List.getElem?_set];by_cases h:x=y
 ·subst h;rw[if_pos rfl,if_pos hx];simp
 ·rw[if_neg h];have:¬y=x:=fun e=>h e.symm
  simp[this]
theorem Zpp{l:List Bool}{n x:Nat}(hx:x<n):(l.take n).getD x true=l.getD x true:=by
 rw[List.getD_eq_getElem?_getD,List.getD_eq_getElem?_getD,List.getElem?_take,if_pos hx]
theorem Zjo{l:List Bool}{x:Nat}(hx:x<l.length)(h:l.getD x true=false):E7 (l.set x true)+1=E7 l:=by
 refine Zn7 ?_;rw[List.getD_eq_getElem?_getD,gE hx]at h;rw[gE hx];simpa using h
theorem Zf6{T:Nat→Nat}{y:Nat}:∀ (k:Nat) (seen:List Bool) (x:Nat),seen.getD y true=true→(Plain.mark T k seen x).getD y true=true
 | 0,_,_,h=>h
 | k+1,seen,x,h=>by
  simp only[Plain.mark];split
  ·exact h
  ·refine Zf6 k _ _ ?_;rcases Nat.lt_or_ge x seen.length with hx|hx
   ·rw[C8 hx,h]; rfl
   ·rw[List.set_eq_of_length_le hx]; exact h
section
variable {T:Nat→Nat} {n N:Nat}
theorem Zws(hn:n≤N)(hA:∀ z,n≤z→z<N→T z<n)(hT:∀ d,d<N→T d<N)(hI:∀ y y',y<n→y'<n→n≤T y→T y=T y'→y=y') :
 ∀(k k2:Nat) (seen:List Bool) (x:Nat),seen.length=N→x<N→E7 seen<k→2*E7 (seen.take n)+(if n≤x then 1 else 0)<k2 →
  (∀ y,y<n→n≤T y→seen.getD (T y) true=(seen.getD y true&&decide (T y≠x)))→(n≤x → ∃ y,y<n∧T y=x∧seen.getD y true=true) →
  D4 n (tr T k seen x)=tr2 T n k2 (seen.take n) x∧(Plain.mark T k seen x).take n=mk2 T n k2 (seen.take n) x ∧ ∀ y,y<n→n≤T y→(Plain.mark T k seen x).getD (T y) true=(Plain.mark T k seen x).getD y true:=by
 intro k
 induction k with
 | zero=>intro k2 seen x _ _ h; omega
 | succ k ih=>
  intro k2 seen x hs hx hu hu2 hJ hP;cases k2 with
  | zero=>omega
  | succ k2=>
  by_cases hxn:x<n
  ·have hTx:=hT x hx;simp only[tr,Plain.mark,tr2,mk2,if_pos hxn,Zpp hxn];cases hsx:seen.getD x true with
   | true=>
    refine⟨by simp[D4],by simp,fun y hy hTy=>?_⟩
    rw[if_pos rfl,hJ y hy hTy];have:T y≠x:=by omega
    simp[this]
   | false=>
    have hun:=Zjo (by omega) hsx
    have ht:(seen.set x true).take n=(seen.take n).set x true:=by rw[List.take_set]
    have hun2:E7 ((seen.take n).set x true)+1=E7 (seen.take n):=Zjo (by rw[List.length_take]; omega) (by rw[Zpp hxn]; exact hsx)
    obtain⟨h1,h2,h3⟩:=ih k2 (seen.set x true) (T x) (by simpa using hs) hTx (by omega) (by rw[ht]; split<;>split at hu2<;>omega)
     (fun y hy hTy=>by
       rw[C8 (by omega),C8 (by omega),hJ y hy hTy]
       have h0:T y≠x:=by omega
       by_cases hyx:y=x
       ·subst hyx;rw[hsx];simp[h0]
       ·have h4:T y≠T x:=fun e=>hyx (hI y x hy hxn hTy e)
        simp[h0,hyx,h4])
     (fun hTx2=>⟨x,hxn,rfl,by rw[C8 (by omega)]; simp⟩)
    rw[ht]at h1 h2;simp only[bF,if_false];refine⟨?_,h2,h3⟩;rw[← h1];have:¬n≤x:=by omega
    simp[D4,hxn,this]
  ·have hxn':n≤x:=by omega
   obtain⟨y0,hy0,hy1,hy2⟩:=hP hxn';have hsx:seen.getD x true=false:=by
    have:=hJ y0 hy0 (by omega)
    rw[hy1]at this;simpa using this
   have hun:=Zjo (by omega) hsx
   have ht:(seen.set x true).take n=seen.take n:=by
    rw[List.take_set,List.set_eq_of_length_le (by rw[List.length_take]; omega)]
   simp only[tr,Plain.mark,tr2,mk2,if_neg hxn,hsx,bF,if_false];have hTx:=hA x hxn' hx;obtain⟨h1,h2,h3⟩:=ih k2 (seen.set x true) (T x) (by simpa using hs) (by omega) (by omega) (by rw[ht,if_neg (by omega)]; rw[if_pos hxn']at hu2; omega)
    (fun y hy hTy=>by
      rw[C8 (by omega),C8 (by omega),hJ y hy hTy]
      have h0:y≠x:=by omega
      have h4:T y≠T x:=by omega
      by_cases hyx:T y=x
      ·have:y=y0:=hI y y0 hy hy0 hTy (by omega)
       subst this;simp[hyx,hy2,hxn,h0];exact⟨by simpa using hy2,by omega⟩
      ·simp[hyx,h0,h4])
    (fun h=>by omega)
   rw[ht]at h1 h2;refine⟨?_,h2,h3⟩;rw[← h1];simp[D4,hxn,hxn']
theorem Zow:∀ (k:Nat) (seen:List Bool),(∀ x,seen.getD x true=true)→wks T N k seen=[]
 | 0,_,_=>rfl
 | k+1,seen,h=>by simp only[wks]; rw[if_pos (h _)]; exact Zow k seen h
theorem Zox(hn:n≤N)(hA:∀ z,n≤z→z<N→T z<n)(hT:∀ d,d<N→T d<N)(hI:∀ y y',y<n→y'<n→n≤T y→T y=T y'→y=y')(hS:∀ z,n≤z→z<N → ∃ y,y<n∧T y=z) :
 ∀(k:Nat) (seen:List Bool),k≤n→seen.length=N→(∀ y,y<n - k→seen.getD y true=true)→(∀ y,y<n→n≤T y→seen.getD (T y) true=seen.getD y true) →
  (wks T N (k+(N - n)) seen).map (D4 n)=fcs T n k (seen.take n)
 | 0,seen,_,hs,hd,hJ=>by
  rw[Zow]
  ·rfl
  ·intro x;rcases Nat.lt_or_ge x n with h1|h1
   ·exact hd x (by omega)
   ·rcases Nat.lt_or_ge x N with h2|h2
    ·obtain⟨y,hy,rfl⟩:=hS x h1 h2;rw[hJ y hy h1];exact hd y (by omega)
    ·rw[List.getD_eq_getElem?_getD,List.getElem?_eq_none (by omega)]; rfl
 | k+1,seen,hk,hs,hd,hJ=>by
  have e:k+1+(N - n)=(k+(N - n))+1:=by omega
  have e2:N - (k+(N - n)+1)=n - (k+1):=by omega
  rw[e];simp only[wks,fcs,e2];rw[Zpp (show n - (k+1)<n by omega)]
  have hstep:∀ seen':List Bool,(∀ y,seen.getD y true=true→seen'.getD y true=true)→seen'.getD (n - (k+1)) true=true → ∀ y,y<n - k→seen'.getD y true=true:=fun seen' h1 h2 y hy=>by
   rcases Nat.lt_or_ge y (n - (k+1))with h3|h3
   ·exact h1 y (hd y h3)
   ·have:y=n - (k+1):=by omega
    rw[this]; exact h2
  cases hx:seen.getD (n - (k+1)) true with
  | true=>
   simp only[if_true];exact Zox hn hA hT hI hS k seen (by omega) hs (hstep seen (fun _ h=>h) hx) hJ
  | false=>
   have hul:=Ze3 (l:=seen);have hul2:=Ze3 (l:=seen.take n);rw[List.length_take]at hul2;obtain⟨h1,h2,h3⟩:=Zws hn hA hT hI (N+1) (2*n+2) seen (n - (k+1)) hs (by omega) (by omega) (by rw[if_neg (by omega)]; omega)
    (fun y hy hTy=>by
      rw[hJ y hy hTy];have:T y≠n - (k+1):=by omega
      simp[this]) (fun h=>by omega)
   simp only[bF,if_false,List.map_cons];rw[h1,Zox hn hA hT hI hS k _ (by omega) (by rw[Zmr]; exact hs) (hstep _ (fun y hy=>Zf6 _ _ _ hy) ?_) h3,h2]
   simp only[Plain.mark,hx,bF,if_false];exact Zf6 _ _ _ (by rw[C8 (by omega)]; simp)
theorem Yb9(hn:n≤N)(hA:∀ z,n≤z→z<N→T z<n)(hT:∀ d,d<N→T d<N)(hI:∀ y y',y<n→y'<n→n≤T y→T y=T y'→y=y')(hS:∀ z,n≤z→z<N → ∃ y,y<n∧T y=z) :
 (Q5 T N).map (D4 n)=Za4 T n:=by
 have h:=Zox hn hA hT hI hS n (List.replicate N false) (Nat.le_refl _) (by simp) (fun y hy=>by omega) (fun y hy hTy=>by
  have h1:∀ y,y<N→(List.replicate N false).getD y true=false:=fun y hy=>by rw[List.getD_eq_getElem?_getD,List.getElem?_replicate,if_pos hy]; rfl
  rw[h1 y (by omega),h1 (T y) (hT y (by omega))])
 rw[Nat.add_sub_cancel' hn]at h;rw[Q5,h,Za4,List.take_replicate,Nat.min_eq_left hn]
end
def X3(n d:Nat):Nat:=if d % 2=0 then (d / 2+1) % n else d / 2
theorem Zah{n d:Nat}(h:d<2*n):X3 n d<n:=by
 unfold X3;split
 ·exact Nat.mod_lt _ (by omega)
 ·omega
theorem Zqx{n d d':Nat}(h:d<2*n)(h':d'<2*n)(he:X3 n d=X3 n d')(hp:d % 2=d' % 2):d=d':=by
 unfold X3 at he;by_cases h0:d % 2=0
 ·rw[if_pos h0,if_pos (by omega)]at he
  have e1:(d / 2+1) % n=if d / 2+1=n then 0 else d / 2+1:=by
   split
   ·rename_i e; rw[e,Nat.mod_self]
   ·rw[Nat.mod_eq_of_lt (by omega)]
  have e2:(d' / 2+1) % n=if d' / 2+1=n then 0 else d' / 2+1:=by
   split
   ·rename_i e; rw[e,Nat.mod_self]
   ·rw[Nat.mod_eq_of_lt (by omega)]
  rw[e1,e2]at he;split at he<;>split at he<;>omega
 ·rw[if_neg h0,if_neg (by omega)]at he
  omega
theorem Zzw{n v:Nat}(hv:v<n)(b:Bool):∃ d,d<2*n∧X3 n d=v∧(d % 2 == 0)=b:=by
 cases b with
 | true=>
  by_cases h0:v=0
  ·refine⟨2*(n - 1),by omega,?_,by simp⟩
   unfold X3;rw[if_pos (by omega)]
   have:2*(n - 1) / 2+1=n:=by omega
   rw[this,Nat.mod_self,h0]
  ·refine⟨2*(v - 1),by omega,?_,by simp⟩
   unfold X3;rw[if_pos (by omega)]
   have:2*(v - 1) / 2+1=v:=by omega
   rw[this,Nat.mod_eq_of_lt hv]
 | false=>
  refine⟨2*v+1,by omega,?_,by simp⟩
  unfold X3;rw[if_neg (by omega)]
  omega
section
variable {ls:List Lt}
theorem Zfm{ax:List Nat}{d:Nat}(hd:d<2*ls.length):Y3 ls ax d=if (at' ls (X3 ls.length d)).k=2 then U3 ls.length (W1 ls (X3 ls.length d) ls.length 0) ((d % 2 == 0) == ((at' ls (X3 ls.length d)).o == ((at' ls (X3 ls.length d)).s == 1)))
 else if down ls (X3 ls.length d)=(d % 2 == 0)then 2*ls.length+2*U1 (X3 ls.length d) ax else 2*ls.length+2*((U1 (X3 ls.length d) ax+ax.length - 1) % ax.length)+1:=by
 unfold Y3 X3;rw[if_neg (by omega)]
theorem Z0v{m a b:Nat}(ha:a<m)(hb:b<m)(h:(a+m - 1) % m=(b+m - 1) % m):a=b:=by
 have e:∀ a,a<m→(a+m - 1) % m=if a=0 then m - 1 else a - 1:=fun a ha=>by
  split
  ·rename_i h0; subst h0; rw[Nat.zero_add,Nat.mod_eq_of_lt (by omega)]
  ·have:a+m - 1=(a - 1)+m:=by omega
   rw[this,Nat.add_mod_right,Nat.mod_eq_of_lt (by omega)]
 rw[e a ha,e b hb]at h;split at h<;>split at h<;>omega
theorem Zss(hm:∀ v,v<ls.length→(at' ls v).k≠2→v∈Z2 ls){d:Nat}(hd:d<2*ls.length)(hT:2*ls.length≤Y3 ls (Z2 ls) d):(at' ls (X3 ls.length d)).k≠2∧X3 ls.length d∈Z2 ls:=by
 have hh:=Zah hd;have hk:(at' ls (X3 ls.length d)).k≠2:=fun hk=>by
  rw[Zfm hd,if_pos hk]at hT;have:=Zfd (fw:=(d % 2 == 0) == ((at' ls (X3 ls.length d)).o == ((at' ls (X3 ls.length d)).s == 1))) (Zpd hh ls.length 0 (by omega))
  omega
 exact⟨hk,hm _ hh hk⟩
theorem Zg3(h0:0<Z1 ls)(hk:∀ v,v<ls.length→(at' ls v).k≠2→(at' ls v).k=1) :
 (∀ z,2*ls.length≤z→z<2*ls.length+2*Z1 ls→Y3 ls (Z2 ls) z<2*ls.length)∧(∀ d,d<2*ls.length+2*Z1 ls→Y3 ls (Z2 ls) d<2*ls.length+2*Z1 ls) ∧
   (∀ y y',y<2*ls.length→y'<2*ls.length→2*ls.length≤Y3 ls (Z2 ls) y→Y3 ls (Z2 ls) y=Y3 ls (Z2 ls) y'→y=y')∧(∀ z,2*ls.length≤z→z<2*ls.length+2*Z1 ls → ∃ y,y<2*ls.length∧Y3 ls (Z2 ls) y=z):=by
 have hal:=O6 ls;have hax:∀ v,v∈Z2 ls→v<ls.length:=fun v hv=>(mem_axis.1 hv).1
 have hm:∀ v,v<ls.length→(at' ls v).k≠2→v∈Z2 ls:=fun v hv h2=>mem_axis.2 ⟨hv,by simp[isP,hk v hv h2]⟩
 have hget:∀ j,j<Z1 ls→(Z2 ls).getD j 0<ls.length:=fun j hj=>by
  rw[List.getD,gE (by omega)]
  exact hax _ (List.getElem_mem (by omega))
 refine⟨fun z hz hz2=>?_,fun d hd=>?_,fun y y' hy hy' hTy he=>?_,fun z hz hz2=>?_⟩
 ·unfold Y3;rw[if_pos hz];split
  ·exact Zfd (hget _ (by rw[hal]; exact Nat.mod_lt _ h0))
  ·exact Zfd (hget _ (by omega))
 ·rw[← hal]at hd ⊢;exact Znz hax hm (by omega) hd
 ·obtain⟨k1,m1⟩:=Zss hm hy hTy;obtain⟨k2,m2⟩:=Zss hm hy' (by omega)
  have i1:=Zix m1;have i2:=Zix m2;have hidx:U1 (X3 ls.length y) (Z2 ls)=U1 (X3 ls.length y') (Z2 ls)→X3 ls.length y=X3 ls.length y':=fun e=>by
   have g1:=(Zax m1).1;have g2:=(Zax m2).1;rw[e,g2]at g1;injection g1 with g1
   exact g1.symm
  rw[Zfm hy,Zfm hy',if_neg k1,if_neg k2]at he;have par:∀ {b b':Bool} {x x':Nat},(b == (x % 2 == 0))=(b' == (x' % 2 == 0))→b=b'→x % 2=x' % 2:=by
   intro b b' x x' h1 h2;subst h2;rcases Nat.mod_two_eq_zero_or_one x with e|e<;>rcases Nat.mod_two_eq_zero_or_one x' with e'|e'<;>rw[e,e']<;>rw[e,e']at h1<;>cases b<;>simp at h1
  by_cases d1:down ls (X3 ls.length y)=(y % 2 == 0)
  ·by_cases d2:down ls (X3 ls.length y')=(y' % 2 == 0)
   ·rw[if_pos d1,if_pos d2]at he;have e1:=hidx (by omega)
    exact Zqx hy hy' e1 (par (b:=down ls (X3 ls.length y)) (b':=down ls (X3 ls.length y')) (by rw[d1,d2]; simp) (by rw[e1]))
   ·rw[if_pos d1,if_neg d2]at he;omega
  ·by_cases d2:down ls (X3 ls.length y')=(y' % 2 == 0)
   ·rw[if_neg d1,if_pos d2]at he;omega
   ·rw[if_neg d1,if_neg d2]at he;have e1:=hidx (Z0v i1 i2 (by omega))
    refine Zqx hy hy' e1 (par (b:=down ls (X3 ls.length y)) (b':=down ls (X3 ls.length y')) ?_ (by rw[e1]))
    have f1:(down ls (X3 ls.length y) == (y % 2 == 0))=false:=by simpa using d1
    have f2:(down ls (X3 ls.length y') == (y' % 2 == 0))=false:=by simpa using d2
    rw[f1,f2]
 ·obtain⟨j,hj⟩:∃ j,(z - 2*ls.length) / 2=j:=⟨_,rfl⟩
  have hjm:j<Z1 ls:=by omega
  have nd:=Zga ls;have hidx:∀ p,p<Z1 ls→U1 ((Z2 ls).getD p 0) (Z2 ls)=p:=fun p hp=>by
   have hg:(Z2 ls)[p]? = some ((Z2 ls).getD p 0):=by rw[List.getD,gE (by omega)]; rfl
   exact Zjk nd (Zax (List.mem_of_getElem? hg)).1 hg
  have hk2:∀ p,p<Z1 ls→(at' ls ((Z2 ls).getD p 0)).k≠2:=fun p hp=>by
   have hg:(Z2 ls)[p]? = some ((Z2 ls).getD p 0):=by rw[List.getD,gE (by omega)]; rfl
   have:=(mem_axis.1 (List.mem_of_getElem? hg)).2;simp only[isP,beq_iff_eq]at this;omega
  by_cases hz0:z % 2=0
  ·obtain⟨d,h1,h2,h3⟩:=Zzw (hget j hjm) (down ls ((Z2 ls).getD j 0));refine⟨d,h1,?_⟩;rw[Zfm h1,h2,if_neg (hk2 j hjm),if_pos h3.symm,hidx j hjm];omega
  ·have hpm:(j+1) % Z1 ls<Z1 ls:=Nat.mod_lt _ h0;obtain⟨d,h1,h2,h3⟩:=Zzw (hget _ hpm) (!down ls ((Z2 ls).getD ((j+1) % Z1 ls) 0));refine⟨d,h1,?_⟩;rw[Zfm h1,h2,if_neg (hk2 _ hpm),if_neg (by rw[h3]; cases down ls ((Z2 ls).getD ((j+1) % Z1 ls) 0)<;>simp),hidx _ hpm,hal]
   have e:((j+1) % Z1 ls+Z1 ls - 1) % Z1 ls=j:=by
    by_cases hw:j+1=Z1 ls
    ·rw[hw,Nat.mod_self,Nat.zero_add,Nat.mod_eq_of_lt (by omega)]; omega
    ·rw[Nat.mod_eq_of_lt (show j+1<Z1 ls by omega)]
     have:j+1+Z1 ls - 1=j+Z1 ls:=by omega
     rw[this,Nat.add_mod_right,Nat.mod_eq_of_lt hjm]
   rw[e];omega
theorem Zs6(h0:0<Z1 ls)(hk:∀ v,v<ls.length→(at' ls v).k≠2→(at' ls v).k=1) :
 (Q5 (Y3 ls (Z2 ls)) (2*ls.length+2*Z1 ls)).map (D4 (2*ls.length))=Za4 (Y3 ls (Z2 ls)) (2*ls.length):=by
 obtain⟨h1,h2,h3,h4⟩:=Zg3 h0 hk;exact Yb9 (by omega) h1 h2 h3 h4
end
end Go.Known
end
section
namespace Go.Known
open Go.Plain
abbrev Pol:=Nat×Nat×Bool
def isC(ls:List Lt)(d:Nat):Bool:=(at' ls (X3 ls.length d)).k == 2
def Zaj(ls:List Lt)(w:List Nat):Nat:=(w.filter (isC ls)).length
def I5(ls:List Lt)(w:List Nat×Bool):Pol:=(Zaj ls w.1,w.1.length,!w.2)
def Zes(ls:List Lt):List Pol:=(Za4 (Y3 ls (Z2 ls)) (2*ls.length)).map (I5 ls)
theorem Z4c(ls:List Lt)(w:List Nat)(d:Nat):Zaj ls (w++[d])=Zaj ls w+if isC ls d then 1 else 0:=by
 unfold Zaj;rw[List.filter_append,List.length_append,List.filter_cons];split<;>rfl
theorem Ycv(ls:List Lt)(w:List Nat):Zaj ls w≤w.length:=List.length_filter_le _ _
def A2(out:List Nat)(c:Nat):List Nat:=out++List.replicate (c+1 - out.length) 0
def E4(out:List Nat)(c:Nat):List Nat:=out.set c (out.getD c 0+1)
def R1(out:List Nat)(p:Pol):List Nat:=if p.2.2 then E4 (A2 out p.1) p.1 else out
def C7(ps:List Pol):List Nat:=ps.foldl R1 []
def mxS(m:Nat)(p:Pol):Nat:=if p.2.2 then max m (p.1+1)else m
def mxP(ps:List Pol):Nat:=ps.foldl mxS 0
def A1(out:List Nat)(p:Pol):List Nat:=if p.2.2 then E4 out p.1 else out
def patR(ps:List Pol):List Nat:=ps.foldl A1 (List.replicate (mxP ps) 0)
theorem Zkc(out:List Nat)(c:Nat):(A2 out c).length=max out.length (c+1):=by simp[A2]; omega
theorem Zyl(out:List Nat)(c:Nat):(E4 out c).length=out.length:=by simp[E4]
theorem Z1h{a b:List Nat}{c:Nat}(h:c<a.length):E4 (a++b) c=E4 a c++b:=by
 unfold E4;rw[List.set_append_left _ _ h,List.getD_eq_getElem?_getD,List.getD_eq_getElem?_getD,List.getElem?_append_left h]
theorem Z2l(p:Pol)(m:Nat):m≤mxS m p:=by unfold mxS; split<;>omega
theorem Zy4:∀ (ps:List Pol) (m:Nat),m≤ps.foldl mxS m
 | [],m=>Nat.le_refl _
 | p :: r,m=>Nat.le_trans (Z2l p m) (Zy4 r _)
theorem Zny(M:Nat):∀ (ps:List Pol) (out:List Nat),ps.foldl mxS out.length≤M→ps.foldl A1 (out++List.replicate (M - out.length) 0)=ps.foldl R1 out++List.replicate (M - (ps.foldl R1 out).length) 0∧(ps.foldl R1 out).length=ps.foldl mxS out.length
 | [],out,_=>⟨rfl,rfl⟩
 | p :: r,out,h=>by
  simp only[List.foldl_cons]at h ⊢;cases hp:p.2.2 with
  | false=>
   have e1:A1 (out++List.replicate (M - out.length) 0) p=out++List.replicate (M - out.length) 0:=by simp[A1,hp]
   have e2:R1 out p=out:=by simp[R1,hp]
   have e3:mxS out.length p=out.length:=by simp[mxS,hp]
   rw[e1,e2,e3];rw[e3]at h;exact Zny M r out h
  | true=>
   have e3:mxS out.length p=max out.length (p.1+1):=by simp[mxS,hp]
   rw[e3]at h ⊢;have hM:max out.length (p.1+1)≤M:=Nat.le_trans (Zy4 r _) h;have e2:R1 out p=E4 (A2 out p.1) p.1:=by simp[R1,hp]
   have hl:(R1 out p).length=max out.length (p.1+1):=by rw[e2,Zyl,Zkc]
   have e1:A1 (out++List.replicate (M - out.length) 0) p=R1 out p++List.replicate (M - (R1 out p).length) 0:=by
    have:out++List.replicate (M - out.length) 0=A2 out p.1++List.replicate (M - max out.length (p.1+1)) 0:=by
     unfold A2;rw[List.append_assoc,List.replicate_append_replicate]
     congr 2
     omega
    rw[hl,e2,this];simp only[A1,hp,if_true];exact Z1h (by rw[Zkc]; omega)
   rw[e1,← hl];rw[← hl]at h;exact Zny M r _ h
theorem Zsx(ps:List Pol):patR ps=C7 ps:=by
 obtain⟨h1,h2⟩:=Zny (mxP ps) ps [] (Nat.le_refl _);unfold patR C7;have h3:(ps.foldl R1 []).length=mxP ps:=h2;rw[h3,Nat.sub_self]at h1;simpa using h1
theorem Yc5{α β:Type}(f:β→α→β)(b:β){l:List α}{i:Nat}{x:α}(h:l[i]? = some x):(l.take (i+1)).foldl f b=f ((l.take i).foldl f b) x:=by
 rw[List.take_add_one,h];simp
theorem Ydo{out:List Nat}{p:Pol}{b:Nat}(h:∀ x,x∈out→x≤b):∀ x,x∈A1 out p→x≤b+1:=by
 intro x hx;unfold A1 at hx;split at hx
 ·unfold E4 at hx;rcases List.mem_or_eq_of_mem_set hx with h1|h1
  ·have:=h x h1; omega
  ·rw[h1,List.getD_eq_getElem?_getD];cases hz:out[p.1]? with
   | none=>simp
   | some y=>have:=h y (List.mem_of_getElem? hz); simp; omega
 ·have:=h x hx; omega
theorem Z17{out:List Nat}{p:Pol}{b:Nat}(h:∀ x,x∈out→x≤b):∀ x,x∈R1 out p→x≤b+1:=by
 have hg:∀ x,x∈A2 out p.1→x≤b:=fun x hx=>by
  rcases List.mem_append.1 hx with h1|h1
  ·exact h x h1
  ·have:=(List.mem_replicate.1 h1).2; omega
 intro x hx;have:=Ydo (out:=A2 out p.1) (p:=(p.1,p.2.1,true)) hg x;unfold R1 at hx;split at hx
 ·exact this (by simpa[A1]using hx)
 ·have:=h x hx; omega
theorem Ybz{out:List Nat}{p:Pol}{b:Nat}(h:out.length≤b)(hp:p.1<b):(R1 out p).length≤b:=by
 unfold R1;split
 ·rw[Zyl,Zkc]; omega
 ·exact h
end Go.Known
end
