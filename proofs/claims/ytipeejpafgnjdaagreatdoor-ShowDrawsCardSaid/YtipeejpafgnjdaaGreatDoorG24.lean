/- Part 24 of the proof: Ld, Pi, Pj. -/
import Derived.Test.YtipeejpafgnjdaaGreatDoorG20
import Derived.Test.YtipeejpafgnjdaaGreatDoorG23
set_option linter.all false
section
namespace Go.Known
open Go Go.AE Go.Proofs
open Go.Plain
attribute [local simp] Zcx Zbu Zbk Zeg Zc0 Zcc Zcy Zeh Zam Za2 Zat Zai Zau Zap Zcb Zbv Zav evE Env.get putE argE stepD SMem.at SMem.app SMem.get Zar AVal.cells AVal.one addA Zc2 Zce Zaw Zb6 binA Za9 unA eqA Zb7 Zbp retS Zaq aundef SubS SubE SubB Zbq Zeb Zbe Zbh Zan Zfl Zb8 room
theorem Zig {l:List Bool} {x:Nat} {b:Bool} (h:l[x]? = some b):l.getD x true=b:=by rw[List.getD,h]; rfl
theorem Zms {l:List Bool} {x:Nat} (h:l[x]? = some false):Zfd (l.set x true)+1=Zfd l:=by
 induction l generalizing x with
 | nil=>simp at h
 | cons a r ih=>
  cases x with
  | zero=>
   simp only[List.getElem?_cons_zero,Option.some.injEq]at h
   subst h
   simp[Zfd]
  | succ x=>
   simp only[List.getElem?_cons_succ]at h
   have:=ih h
   simp only[Zfd,List.set_cons_succ,List.filter_cons]at this ⊢
   cases a<;>simp<;>omega
theorem Ze9 {l:List Bool}:Zfd l≤l.length:=List.length_filter_le _ _
theorem Z5v {T:Nat→Nat} {N d:Nat} {seen:List Bool} (hd:d<N) (h:seen[d]? = some true):cyc T N (N - d) seen=cyc T N (N - (d+1)) seen:=by
 obtain⟨k,hk⟩:∃ k,N - d=k+1:=⟨N - d - 1,by omega⟩
 have hk2:N - (d+1)=k:=by omega
 have hk3:N - (k+1)=d:=by omega
 rw[hk,hk2,cyc,hk3,Zig h,if_pos rfl]
theorem Z0j {T:Nat→Nat} {N d:Nat} {seen:List Bool} (hd:d<N) (h:seen[d]? = some false):cyc T N (N - d) seen=1+cyc T N (N - (d+1)) (Plain.mark T (N+1) seen d):=by
 obtain⟨k,hk⟩:∃ k,N - d=k+1:=⟨N - d - 1,by omega⟩
 have hk2:N - (d+1)=k:=by omega
 have hk3:N - (k+1)=d:=by omega
 rw[hk,hk2,cyc,hk3,Zig h,if_neg (by simp)]
theorem Zth {T:Nat→Nat} {k x:Nat} {seen:List Bool} (h:seen[x]? = some true):Plain.mark T k seen x=seen:=by
 cases k with
 | zero=>rfl
 | succ k=>rw[Plain.mark,Zig h,if_pos rfl]
theorem Zw6 {T:Nat→Nat} {k x:Nat} {seen:List Bool} (h:seen[x]? = some false):Plain.mark T (k+1) seen x=Plain.mark T k (seen.set x true) (T x):=by
 rw[Plain.mark,Zig h,if_neg (by simp)]
theorem Zy8 {T:Nat→Nat} {N:Nat} (h:0<N):0<Zfr T N:=by
 have:=Z0j (T:=T) (N:=N) (d:=0) (seen:=List.replicate N false) h (by simp[h])
 rw[Nat.sub_zero]at this
 unfold Zfr
 omega
end Go.Known
end
section
namespace Go.Known
open Go.Plain
def tr (T:Nat→Nat):Nat→List Bool→Nat→List Nat
 | 0,_,_=>[]
 | k+1,seen,x=>if seen.getD x true then []else x :: tr T k (seen.set x true) (T x)
def wks (T:Nat→Nat) (N:Nat):Nat→List Bool→List (List Nat)
 | 0,_=>[]
 | k+1,seen=>if seen.getD (N - (k+1)) true then wks T N k seen else tr T (N+1) seen (N - (k+1)) :: wks T N k (Plain.mark T (N+1) seen (N - (k+1)))
def Zed (T:Nat→Nat) (N:Nat):List (List Nat):=wks T N N (List.replicate N false)
theorem Zfo (T:Nat→Nat) (N:Nat):∀ (k:Nat) (seen:List Bool),(wks T N k seen).length=cyc T N k seen
 | 0,_=>rfl
 | k+1,seen=>by
  simp only[wks,cyc]
  split
  ·exact Zfo T N k seen
  ·rw[List.length_cons,Zfo T N k,Nat.add_comm]
def tr2 (T:Nat→Nat) (n:Nat):Nat→List Bool→Nat→List Nat×Bool
 | 0,_,_=>([],false)
 | k+1,seen,x=>if x<n then (if seen.getD x true then ([],false)else (x :: (tr2 T n k (seen.set x true) (T x)).1,(tr2 T n k (seen.set x true) (T x)).2))else ((tr2 T n k seen (T x)).1,true)
def mk2 (T:Nat→Nat) (n:Nat):Nat→List Bool→Nat→List Bool
 | 0,seen,_=>seen
 | k+1,seen,x=>if x<n then (if seen.getD x true then seen else mk2 T n k (seen.set x true) (T x))else mk2 T n k seen (T x)
def fcs (T:Nat→Nat) (n:Nat):Nat→List Bool→List (List Nat×Bool)
 | 0,_=>[]
 | k+1,seen=>if seen.getD (n - (k+1)) true then fcs T n k seen else tr2 T n (2*n+2) seen (n - (k+1)) :: fcs T n k (mk2 T n (2*n+2) seen (n - (k+1)))
def Zwx (T:Nat→Nat) (n:Nat):List (List Nat×Bool):=fcs T n n (List.replicate n false)
def Zmu (n:Nat) (w:List Nat):List Nat×Bool:=(w.filter fun x=>decide (x<n),w.any fun x=>decide (n≤x))
theorem Zcp {l:List Bool} {x y:Nat} (hx:x<l.length):(l.set x true).getD y true=(l.getD y true||decide (y=x)):=by
 rw[List.getD_eq_getElem?_getD,List.getD_eq_getElem?_getD,List.getElem?_set]
 by_cases h:x=y
 ·subst h
  rw[if_pos rfl,if_pos hx]
  simp
 ·rw[if_neg h]
  have:¬y=x:=fun e=>h e.symm
  simp[this]
theorem Zoe {l:List Bool} {n x:Nat} (hx:x<n):(l.take n).getD x true=l.getD x true:=by
 rw[List.getD_eq_getElem?_getD,List.getD_eq_getElem?_getD,List.getElem?_take,if_pos hx]
theorem Zfs {l:List Bool} {x:Nat} (hx:x<l.length) (h:l.getD x true=false):Zfd (l.set x true)+1=Zfd l:=by
 refine Zms ?_
 rw[List.getD_eq_getElem?_getD,List.getElem?_eq_getElem hx]at h
 rw[List.getElem?_eq_getElem hx]
 simpa using h
theorem Zfv {T:Nat→Nat} {y:Nat}:∀ (k:Nat) (seen:List Bool) (x:Nat),seen.getD y true=true→(Plain.mark T k seen x).getD y true=true
 | 0,_,_,h=>h
 | k+1,seen,x,h=>by
  simp only[Plain.mark]
  split
  ·exact h
  ·refine Zfv k _ _ ?_
   rcases Nat.lt_or_ge x seen.length with hx|hx
   ·rw[Zcp hx,h]; rfl
   ·rw[List.set_eq_of_length_le hx]; exact h
section
variable {T:Nat→Nat} {n N:Nat}
theorem Zxz (hn:n≤N) (hA:∀ z,n≤z→z<N→T z<n) (hT:∀ d,d<N→T d<N) (hI:∀ y y',y<n→y'<n→n≤T y→T y=T y'→y=y') :
 ∀(k k2:Nat) (seen:List Bool) (x:Nat),seen.length=N→x<N→Zfd seen<k→2*Zfd (seen.take n)+(if n≤x then 1 else 0)<k2 →
  (∀ y,y<n→n≤T y→seen.getD (T y) true=(seen.getD y true&&decide (T y≠x)))→(n≤x → ∃ y,y<n∧T y=x∧seen.getD y true=true) →
  Zmu n (tr T k seen x)=tr2 T n k2 (seen.take n) x∧(Plain.mark T k seen x).take n=mk2 T n k2 (seen.take n) x ∧ ∀ y,y<n→n≤T y→(Plain.mark T k seen x).getD (T y) true=(Plain.mark T k seen x).getD y true:=by
 intro k
 induction k with
 | zero=>intro k2 seen x _ _ h; omega
 | succ k ih=>
  intro k2 seen x hs hx hu hu2 hJ hP
  cases k2 with
  | zero=>omega
  | succ k2=>
  by_cases hxn:x<n
  ·have hTx:=hT x hx
   simp only[tr,Plain.mark,tr2,mk2,if_pos hxn,Zoe hxn]
   cases hsx:seen.getD x true with
   | true=>
    refine⟨by simp[Zmu],by simp,fun y hy hTy=>?_⟩
    rw[if_pos rfl,hJ y hy hTy]
    have:T y≠x:=by omega
    simp[this]
   | false=>
    have hun:=Zfs (by omega) hsx
    have ht:(seen.set x true).take n=(seen.take n).set x true:=by rw[List.take_set]
    have hun2:Zfd ((seen.take n).set x true)+1=Zfd (seen.take n):=Zfs (by rw[List.length_take]; omega) (by rw[Zoe hxn]; exact hsx)
    obtain⟨h1,h2,h3⟩:=ih k2 (seen.set x true) (T x) (by simpa using hs) hTx (by omega) (by rw[ht]; split<;>split at hu2<;>omega)
     (fun y hy hTy=>by
       rw[Zcp (by omega),Zcp (by omega),hJ y hy hTy]
       have h0:T y≠x:=by omega
       by_cases hyx:y=x
       ·subst hyx
        rw[hsx]
        simp[h0]
       ·have h4:T y≠T x:=fun e=>hyx (hI y x hy hxn hTy e)
        simp[h0,hyx,h4])
     (fun hTx2=>⟨x,hxn,rfl,by rw[Zcp (by omega)]; simp⟩)
    rw[ht]at h1 h2
    simp only[Bool.false_eq_true,if_false]
    refine⟨?_,h2,h3⟩
    rw[← h1]
    have:¬n≤x:=by omega
    simp[Zmu,hxn,this]
  ·have hxn':n≤x:=by omega
   obtain⟨y0,hy0,hy1,hy2⟩:=hP hxn'
   have hsx:seen.getD x true=false:=by
    have:=hJ y0 hy0 (by omega)
    rw[hy1]at this
    simpa using this
   have hun:=Zfs (by omega) hsx
   have ht:(seen.set x true).take n=seen.take n:=by
    rw[List.take_set,List.set_eq_of_length_le (by rw[List.length_take]; omega)]
   simp only[tr,Plain.mark,tr2,mk2,if_neg hxn,hsx,Bool.false_eq_true,if_false]
   have hTx:=hA x hxn' hx
   obtain⟨h1,h2,h3⟩:=ih k2 (seen.set x true) (T x) (by simpa using hs) (by omega) (by omega) (by rw[ht,if_neg (by omega)]; rw[if_pos hxn']at hu2; omega)
    (fun y hy hTy=>by
      rw[Zcp (by omega),Zcp (by omega),hJ y hy hTy]
      have h0:y≠x:=by omega
      have h4:T y≠T x:=by omega
      by_cases hyx:T y=x
      ·have:y=y0:=hI y y0 hy hy0 hTy (by omega)
       subst this
       simp[hyx,hy2,hxn,h0]
       exact⟨by simpa using hy2,by omega⟩
      ·simp[hyx,h0,h4])
    (fun h=>by omega)
   rw[ht]at h1 h2
   refine⟨?_,h2,h3⟩
   rw[← h1]
   simp[Zmu,hxn,hxn']
theorem Zr8:∀ (k:Nat) (seen:List Bool),(∀ x,seen.getD x true=true)→wks T N k seen=[]
 | 0,_,_=>rfl
 | k+1,seen,h=>by simp only[wks]; rw[if_pos (h _)]; exact Zr8 k seen h
theorem Zv7 (hn:n≤N) (hA:∀ z,n≤z→z<N→T z<n) (hT:∀ d,d<N→T d<N) (hI:∀ y y',y<n→y'<n→n≤T y→T y=T y'→y=y') (hS:∀ z,n≤z→z<N → ∃ y,y<n∧T y=z) :
 ∀(k:Nat) (seen:List Bool),k≤n→seen.length=N→(∀ y,y<n - k→seen.getD y true=true)→(∀ y,y<n→n≤T y→seen.getD (T y) true=seen.getD y true) →
  (wks T N (k+(N - n)) seen).map (Zmu n)=fcs T n k (seen.take n)
 | 0,seen,_,hs,hd,hJ=>by
  rw[Zr8]
  ·rfl
  ·intro x
   rcases Nat.lt_or_ge x n with h1|h1
   ·exact hd x (by omega)
   ·rcases Nat.lt_or_ge x N with h2|h2
    ·obtain⟨y,hy,rfl⟩:=hS x h1 h2
     rw[hJ y hy h1]
     exact hd y (by omega)
    ·rw[List.getD_eq_getElem?_getD,List.getElem?_eq_none (by omega)]; rfl
 | k+1,seen,hk,hs,hd,hJ=>by
  have e:k+1+(N - n)=(k+(N - n))+1:=by omega
  have e2:N - (k+(N - n)+1)=n - (k+1):=by omega
  rw[e]
  simp only[wks,fcs,e2]
  rw[Zoe (show n - (k+1)<n by omega)]
  have hstep:∀ seen':List Bool,(∀ y,seen.getD y true=true→seen'.getD y true=true)→seen'.getD (n - (k+1)) true=true → ∀ y,y<n - k→seen'.getD y true=true:=fun seen' h1 h2 y hy=>by
   rcases Nat.lt_or_ge y (n - (k+1))with h3|h3
   ·exact h1 y (hd y h3)
   ·have:y=n - (k+1):=by omega
    rw[this]; exact h2
  cases hx:seen.getD (n - (k+1)) true with
  | true=>
   simp only[if_true]
   exact Zv7 hn hA hT hI hS k seen (by omega) hs (hstep seen (fun _ h=>h) hx) hJ
  | false=>
   have hul:=Ze9 (l:=seen)
   have hul2:=Ze9 (l:=seen.take n)
   rw[List.length_take]at hul2
   obtain⟨h1,h2,h3⟩:=Zxz hn hA hT hI (N+1) (2*n+2) seen (n - (k+1)) hs (by omega) (by omega) (by rw[if_neg (by omega)]; omega)
    (fun y hy hTy=>by
      rw[hJ y hy hTy]
      have:T y≠n - (k+1):=by omega
      simp[this]) (fun h=>by omega)
   simp only[Bool.false_eq_true,if_false,List.map_cons]
   rw[h1,Zv7 hn hA hT hI hS k _ (by omega) (by rw[Zhu]; exact hs) (hstep _ (fun y hy=>Zfv _ _ _ hy) ?_) h3,h2]
   simp only[Plain.mark,hx,Bool.false_eq_true,if_false]
   exact Zfv _ _ _ (by rw[Zcp (by omega)]; simp)
theorem Zvc (hn:n≤N) (hA:∀ z,n≤z→z<N→T z<n) (hT:∀ d,d<N→T d<N) (hI:∀ y y',y<n→y'<n→n≤T y→T y=T y'→y=y') (hS:∀ z,n≤z→z<N → ∃ y,y<n∧T y=z) :
 (Zed T N).map (Zmu n)=Zwx T n:=by
 have h:=Zv7 hn hA hT hI hS n (List.replicate N false) (Nat.le_refl _) (by simp) (fun y hy=>by omega) (fun y hy hTy=>by
  have h1:∀ y,y<N→(List.replicate N false).getD y true=false:=fun y hy=>by rw[List.getD_eq_getElem?_getD,List.getElem?_replicate,if_pos hy]; rfl
  rw[h1 y (by omega),h1 (T y) (hT y (by omega))])
 rw[Nat.add_sub_cancel' hn]at h
 rw[Zed,h,Zwx,List.take_replicate,Nat.min_eq_left hn]
end
def Zbj (n d:Nat):Nat:=if d % 2=0 then (d / 2+1) % n else d / 2
theorem Zg6 {n d:Nat} (h:d<2*n):Zbj n d<n:=by
 unfold Zbj
 split
 ·exact Nat.mod_lt _ (by omega)
 ·omega
theorem Zsa {n d d':Nat} (h:d<2*n) (h':d'<2*n) (he:Zbj n d=Zbj n d') (hp:d % 2=d' % 2):d=d':=by
 unfold Zbj at he
 by_cases h0:d % 2=0
 ·rw[if_pos h0,if_pos (by omega)]at he
  have e1:(d / 2+1) % n=if d / 2+1=n then 0 else d / 2+1:=by
   split
   ·rename_i e; rw[e,Nat.mod_self]
   ·rw[Nat.mod_eq_of_lt (by omega)]
  have e2:(d' / 2+1) % n=if d' / 2+1=n then 0 else d' / 2+1:=by
   split
   ·rename_i e; rw[e,Nat.mod_self]
   ·rw[Nat.mod_eq_of_lt (by omega)]
  rw[e1,e2]at he
  split at he<;>split at he<;>omega
 ·rw[if_neg h0,if_neg (by omega)]at he
  omega
theorem Z0p {n v:Nat} (hv:v<n) (b:Bool):∃ d,d<2*n∧Zbj n d=v∧(d % 2 == 0)=b:=by
 cases b with
 | true=>
  by_cases h0:v=0
  ·refine⟨2*(n - 1),by omega,?_,by simp⟩
   unfold Zbj
   rw[if_pos (by omega)]
   have:2*(n - 1) / 2+1=n:=by omega
   rw[this,Nat.mod_self,h0]
  ·refine⟨2*(v - 1),by omega,?_,by simp⟩
   unfold Zbj
   rw[if_pos (by omega)]
   have:2*(v - 1) / 2+1=v:=by omega
   rw[this,Nat.mod_eq_of_lt hv]
 | false=>
  refine⟨2*v+1,by omega,?_,by simp⟩
  unfold Zbj
  rw[if_neg (by omega)]
  omega
section
variable {ls:List Lt}
theorem Zf9 {ax:List Nat} {d:Nat} (hd:d<2*ls.length):Za6 ls ax d=if (at' ls (Zbj ls.length d)).k=2 then Zb5 ls.length (Zbf ls (Zbj ls.length d) ls.length 0) ((d % 2 == 0) == ((at' ls (Zbj ls.length d)).o == ((at' ls (Zbj ls.length d)).s == 1)))
 else if down ls (Zbj ls.length d)=(d % 2 == 0)then 2*ls.length+2*idxN (Zbj ls.length d) ax else 2*ls.length+2*((idxN (Zbj ls.length d) ax+ax.length - 1) % ax.length)+1:=by
 unfold Za6 Zbj
 rw[if_neg (by omega)]
theorem Ztq {m a b:Nat} (ha:a<m) (hb:b<m) (h:(a+m - 1) % m=(b+m - 1) % m):a=b:=by
 have e:∀ a,a<m→(a+m - 1) % m=if a=0 then m - 1 else a - 1:=fun a ha=>by
  split
  ·rename_i h0; subst h0; rw[Nat.zero_add,Nat.mod_eq_of_lt (by omega)]
  ·have:a+m - 1=(a - 1)+m:=by omega
   rw[this,Nat.add_mod_right,Nat.mod_eq_of_lt (by omega)]
 rw[e a ha,e b hb]at h
 split at h<;>split at h<;>omega
theorem Zlt (hm:∀ v,v<ls.length→(at' ls v).k≠2→v∈axis ls) {d:Nat} (hd:d<2*ls.length) (hT:2*ls.length≤Za6 ls (axis ls) d):(at' ls (Zbj ls.length d)).k≠2∧Zbj ls.length d∈axis ls:=by
 have hh:=Zg6 hd
 have hk:(at' ls (Zbj ls.length d)).k≠2:=fun hk=>by
  rw[Zf9 hd,if_pos hk]at hT
  have:=Zd6 (fw:=(d % 2 == 0) == ((at' ls (Zbj ls.length d)).o == ((at' ls (Zbj ls.length d)).s == 1))) (Zm1 hh ls.length 0 (by omega))
  omega
 exact⟨hk,hm _ hh hk⟩
theorem Zis (h0:0<Zaa ls) (hk:∀ v,v<ls.length→(at' ls v).k≠2→(at' ls v).k=1) :
 (∀ z,2*ls.length≤z→z<2*ls.length+2*Zaa ls→Za6 ls (axis ls) z<2*ls.length)∧(∀ d,d<2*ls.length+2*Zaa ls→Za6 ls (axis ls) d<2*ls.length+2*Zaa ls) ∧
   (∀ y y',y<2*ls.length→y'<2*ls.length→2*ls.length≤Za6 ls (axis ls) y→Za6 ls (axis ls) y=Za6 ls (axis ls) y'→y=y')∧(∀ z,2*ls.length≤z→z<2*ls.length+2*Zaa ls → ∃ y,y<2*ls.length∧Za6 ls (axis ls) y=z):=by
 have hal:=Zas ls
 have hax:∀ v,v∈axis ls→v<ls.length:=fun v hv=>(mem_axis.1 hv).1
 have hm:∀ v,v<ls.length→(at' ls v).k≠2→v∈axis ls:=fun v hv h2=>mem_axis.2 ⟨hv,by simp[isP,hk v hv h2]⟩
 have hget:∀ j,j<Zaa ls→(axis ls).getD j 0<ls.length:=fun j hj=>by
  rw[List.getD,List.getElem?_eq_getElem (by omega)]
  exact hax _ (List.getElem_mem (by omega))
 refine⟨fun z hz hz2=>?_,fun d hd=>?_,fun y y' hy hy' hTy he=>?_,fun z hz hz2=>?_⟩
 ·unfold Za6
  rw[if_pos hz]
  split
  ·exact Zd6 (hget _ (by rw[hal]; exact Nat.mod_lt _ h0))
  ·exact Zd6 (hget _ (by omega))
 ·rw[← hal]at hd ⊢
  exact Zoy hax hm (by omega) hd
 ·obtain⟨k1,m1⟩:=Zlt hm hy hTy
  obtain⟨k2,m2⟩:=Zlt hm hy' (by omega)
  have i1:=Zl2 m1
  have i2:=Zl2 m2
  have hidx:idxN (Zbj ls.length y) (axis ls)=idxN (Zbj ls.length y') (axis ls)→Zbj ls.length y=Zbj ls.length y':=fun e=>by
   have g1:=(Zc3 m1).1
   have g2:=(Zc3 m2).1
   rw[e,g2]at g1
   injection g1 with g1
   exact g1.symm
  rw[Zf9 hy,Zf9 hy',if_neg k1,if_neg k2]at he
  have par:∀ {b b':Bool} {x x':Nat},(b == (x % 2 == 0))=(b' == (x' % 2 == 0))→b=b'→x % 2=x' % 2:=by
   intro b b' x x' h1 h2
   subst h2
   rcases Nat.mod_two_eq_zero_or_one x with e|e<;>rcases Nat.mod_two_eq_zero_or_one x' with e'|e'<;>rw[e,e']<;>rw[e,e']at h1<;>cases b<;>simp at h1
  by_cases d1:down ls (Zbj ls.length y)=(y % 2 == 0)
  ·by_cases d2:down ls (Zbj ls.length y')=(y' % 2 == 0)
   ·rw[if_pos d1,if_pos d2]at he
    have e1:=hidx (by omega)
    exact Zsa hy hy' e1 (par (b:=down ls (Zbj ls.length y)) (b':=down ls (Zbj ls.length y')) (by rw[d1,d2]; simp) (by rw[e1]))
   ·rw[if_pos d1,if_neg d2]at he
    omega
  ·by_cases d2:down ls (Zbj ls.length y')=(y' % 2 == 0)
   ·rw[if_neg d1,if_pos d2]at he
    omega
   ·rw[if_neg d1,if_neg d2]at he
    have e1:=hidx (Ztq i1 i2 (by omega))
    refine Zsa hy hy' e1 (par (b:=down ls (Zbj ls.length y)) (b':=down ls (Zbj ls.length y')) ?_ (by rw[e1]))
    have f1:(down ls (Zbj ls.length y) == (y % 2 == 0))=false:=by simpa using d1
    have f2:(down ls (Zbj ls.length y') == (y' % 2 == 0))=false:=by simpa using d2
    rw[f1,f2]
 ·obtain⟨j,hj⟩:∃ j,(z - 2*ls.length) / 2=j:=⟨_,rfl⟩
  have hjm:j<Zaa ls:=by omega
  have nd:=Zej ls
  have hidx:∀ p,p<Zaa ls→idxN ((axis ls).getD p 0) (axis ls)=p:=fun p hp=>by
   have hg:(axis ls)[p]? = some ((axis ls).getD p 0):=by rw[List.getD,List.getElem?_eq_getElem (by omega)]; rfl
   exact Zir nd (Zc3 (List.mem_of_getElem? hg)).1 hg
  have hk2:∀ p,p<Zaa ls→(at' ls ((axis ls).getD p 0)).k≠2:=fun p hp=>by
   have hg:(axis ls)[p]? = some ((axis ls).getD p 0):=by rw[List.getD,List.getElem?_eq_getElem (by omega)]; rfl
   have:=(mem_axis.1 (List.mem_of_getElem? hg)).2
   simp only[isP,beq_iff_eq]at this
   omega
  by_cases hz0:z % 2=0
  ·obtain⟨d,h1,h2,h3⟩:=Z0p (hget j hjm) (down ls ((axis ls).getD j 0))
   refine⟨d,h1,?_⟩
   rw[Zf9 h1,h2,if_neg (hk2 j hjm),if_pos h3.symm,hidx j hjm]
   omega
  ·have hpm:(j+1) % Zaa ls<Zaa ls:=Nat.mod_lt _ h0
   obtain⟨d,h1,h2,h3⟩:=Z0p (hget _ hpm) (!down ls ((axis ls).getD ((j+1) % Zaa ls) 0))
   refine⟨d,h1,?_⟩
   rw[Zf9 h1,h2,if_neg (hk2 _ hpm),if_neg (by rw[h3]; cases down ls ((axis ls).getD ((j+1) % Zaa ls) 0)<;>simp),hidx _ hpm,hal]
   have e:((j+1) % Zaa ls+Zaa ls - 1) % Zaa ls=j:=by
    by_cases hw:j+1=Zaa ls
    ·rw[hw,Nat.mod_self,Nat.zero_add,Nat.mod_eq_of_lt (by omega)]; omega
    ·rw[Nat.mod_eq_of_lt (show j+1<Zaa ls by omega)]
     have:j+1+Zaa ls - 1=j+Zaa ls:=by omega
     rw[this,Nat.add_mod_right,Nat.mod_eq_of_lt hjm]
   rw[e]
   omega
theorem Zzi (h0:0<Zaa ls) (hk:∀ v,v<ls.length→(at' ls v).k≠2→(at' ls v).k=1) :
 (Zed (Za6 ls (axis ls)) (2*ls.length+2*Zaa ls)).map (Zmu (2*ls.length))=Zwx (Za6 ls (axis ls)) (2*ls.length):=by
 obtain⟨h1,h2,h3,h4⟩:=Zis h0 hk
 exact Zvc (by omega) h1 h2 h3 h4
end
end Go.Known
end
section
namespace Go.Known
open Go.Plain
abbrev Pol:=Nat×Nat×Bool
def isC (ls:List Lt) (d:Nat):Bool:=(at' ls (Zbj ls.length d)).k == 2
def Z7b (ls:List Lt) (w:List Nat):Nat:=(w.filter (isC ls)).length
def polN (ls:List Lt) (w:List Nat×Bool):Pol:=(Z7b ls w.1,w.1.length,!w.2)
def Zzg (ls:List Lt):List Pol:=(Zwx (Za6 ls (axis ls)) (2*ls.length)).map (polN ls)
def Zy3 (out:List Nat) (c:Nat):List Nat:=out++List.replicate (c+1 - out.length) 0
def addP (out:List Nat) (c:Nat):List Nat:=out.set c (out.getD c 0+1)
def patS (out:List Nat) (p:Pol):List Nat:=if p.2.2 then addP (Zy3 out p.1) p.1 else out
def patP (ps:List Pol):List Nat:=ps.foldl patS []
def mxS (m:Nat) (p:Pol):Nat:=if p.2.2 then max m (p.1+1)else m
def mxP (ps:List Pol):Nat:=ps.foldl mxS 0
def patT (out:List Nat) (p:Pol):List Nat:=if p.2.2 then addP out p.1 else out
def patR (ps:List Pol):List Nat:=ps.foldl patT (List.replicate (mxP ps) 0)
theorem Znf (out:List Nat) (c:Nat):(Zy3 out c).length=max out.length (c+1):=by simp[Zy3]; omega
theorem Zu1 (out:List Nat) (c:Nat):(addP out c).length=out.length:=by simp[addP]
theorem Zvq {a b:List Nat} {c:Nat} (h:c<a.length):addP (a++b) c=addP a c++b:=by
 unfold addP
 rw[List.set_append_left _ _ h,List.getD_eq_getElem?_getD,List.getD_eq_getElem?_getD,List.getElem?_append_left h]
theorem mxS_le (p:Pol) (m:Nat):m≤mxS m p:=by unfold mxS; split<;>omega
theorem Z2w:∀ (ps:List Pol) (m:Nat),m≤ps.foldl mxS m
 | [],m=>Nat.le_refl _
 | p :: r,m=>Nat.le_trans (mxS_le p m) (Z2w r _)
theorem Zs1 (M:Nat):∀ (ps:List Pol) (out:List Nat),ps.foldl mxS out.length≤M→ps.foldl patT (out++List.replicate (M - out.length) 0)=ps.foldl patS out++List.replicate (M - (ps.foldl patS out).length) 0∧(ps.foldl patS out).length=ps.foldl mxS out.length
 | [],out,_=>⟨rfl,rfl⟩
 | p :: r,out,h=>by
  simp only[List.foldl_cons]at h ⊢
  cases hp:p.2.2 with
  | false=>
   have e1:patT (out++List.replicate (M - out.length) 0) p=out++List.replicate (M - out.length) 0:=by simp[patT,hp]
   have e2:patS out p=out:=by simp[patS,hp]
   have e3:mxS out.length p=out.length:=by simp[mxS,hp]
   rw[e1,e2,e3]
   rw[e3]at h
   exact Zs1 M r out h
  | true=>
   have e3:mxS out.length p=max out.length (p.1+1):=by simp[mxS,hp]
   rw[e3]at h ⊢
   have hM:max out.length (p.1+1)≤M:=Nat.le_trans (Z2w r _) h
   have e2:patS out p=addP (Zy3 out p.1) p.1:=by simp[patS,hp]
   have hl:(patS out p).length=max out.length (p.1+1):=by rw[e2,Zu1,Znf]
   have e1:patT (out++List.replicate (M - out.length) 0) p=patS out p++List.replicate (M - (patS out p).length) 0:=by
    have:out++List.replicate (M - out.length) 0=Zy3 out p.1++List.replicate (M - max out.length (p.1+1)) 0:=by
     unfold Zy3
     rw[List.append_assoc,List.replicate_append_replicate]
     congr 2
     omega
    rw[hl,e2,this]
    simp only[patT,hp,if_true]
    exact Zvq (by rw[Znf]; omega)
   rw[e1,← hl]
   rw[← hl]at h
   exact Zs1 M r _ h
theorem Z6f (ps:List Pol):patR ps=patP ps:=by
 obtain⟨h1,h2⟩:=Zs1 (mxP ps) ps [] (Nat.le_refl _)
 unfold patR patP
 have h3:(ps.foldl patS []).length=mxP ps:=h2
 rw[h3,Nat.sub_self]at h1
 simpa using h1
end Go.Known
end
