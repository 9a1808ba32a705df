/- Part 33 of the proof: Pm. -/
import Derived.Test.YtipeejpafgnjdaaGreatDoorG31
set_option linter.all false
namespace Go.Known
open Go.Plain
def arr (n v:Nat) (b:Bool):Nat:=if b then 2*((v+n - 1) % n)else 2*v+1
theorem Zmg {n v:Nat} (hv:v<n) (b:Bool):arr n v b<2*n∧Zbj n (arr n v b)=v∧(arr n v b % 2 == 0)=b:=by
 cases b with
 | true=>
  have hm:=Nat.mod_lt (v+n - 1) (show 0<n by omega)
  have e:(v+n - 1) % n=if v=0 then n - 1 else v - 1:=by
   split
   ·rename_i h; subst h; rw[Nat.zero_add,Nat.mod_eq_of_lt (by omega)]
   ·have:v+n - 1=(v - 1)+n:=by omega
    rw[this,Nat.add_mod_right,Nat.mod_eq_of_lt (by omega)]
  unfold arr Zbj
  simp only[if_true]
  refine⟨by omega,?_,by simp⟩
  rw[if_pos (by omega),show 2*((v+n - 1) % n) / 2=(v+n - 1) % n by omega,e]
  split
  ·rename_i h; subst h; rw[show n - 1+1=n by omega,Nat.mod_self]
  ·rw[show v - 1+1=v by omega,Nat.mod_eq_of_lt hv]
 | false=>
  unfold arr Zbj
  simp only[Bool.false_eq_true,if_false]
  refine⟨by omega,?_,by simp⟩
  rw[if_neg (by omega)]
  omega
theorem Zs9 {n d:Nat} (hd:d<2*n):∃ v b,v<n∧d=arr n v b:=by
 have hh:=Zg6 hd
 obtain⟨h1,h2,h3⟩:=Zmg hh (d % 2 == 0)
 refine⟨Zbj n d,(d % 2 == 0),hh,Zsa hd h1 h2.symm ?_⟩
 generalize arr n (Zbj n d) (d % 2 == 0)=y at *
 rcases Nat.mod_two_eq_zero_or_one d with e|e<;>rcases Nat.mod_two_eq_zero_or_one y with e'|e'<;>rw[e,e']at h3 ⊢ <;> simp at h3
section
variable {ls:List Lt}
theorem Zlr {v:Nat} (hv:v<ls.length) (b:Bool):Za6 ls (axis ls) (arr ls.length v b)=if (at' ls v).k=2 then Zb5 ls.length (Zbf ls v ls.length 0) (b == ((at' ls v).o == ((at' ls v).s == 1)))
 else if down ls v=b then 2*ls.length+2*idxN v (axis ls)else 2*ls.length+2*((idxN v (axis ls)+Zaa ls - 1) % Zaa ls)+1:=by
 obtain⟨h1,h2,h3⟩:=Zmg hv b
 rw[Zf9 h1,h2,h3,Zas]
theorem Zrb {p:Nat}:Za6 ls (axis ls) (2*ls.length+2*p)=Zb5 ls.length ((axis ls).getD ((p+1) % Zaa ls) 0) (!down ls ((axis ls).getD ((p+1) % Zaa ls) 0)):=by
 unfold Za6
 rw[if_pos (by omega),if_pos (by omega),Zas,show (2*ls.length+2*p - 2*ls.length) / 2=p by omega]
theorem Zuw {p:Nat}:Za6 ls (axis ls) (2*ls.length+2*p+1)=Zb5 ls.length ((axis ls).getD p 0) (down ls ((axis ls).getD p 0)):=by
 unfold Za6
 rw[if_pos (by omega),if_neg (by omega),show (2*ls.length+2*p+1 - 2*ls.length) / 2=p by omega]
structure Wv (ls:List Lt):Prop where
 pas:0<Zaa ls
 kin:∀ v,v<ls.length→(at' ls v).k≠2→(at' ls v).k=1
 oth:∀ v,v<ls.length→(at' ls v).k=2→Zbf ls v ls.length 0<ls.length∧(at' ls (Zbf ls v ls.length 0)).k=2∧Zbf ls (Zbf ls v ls.length 0) ls.length 0=v ∧
  (at' ls (Zbf ls v ls.length 0)).o=(!(at' ls v).o)∧(at' ls (Zbf ls v ls.length 0)).s=(at' ls v).s
structure Img (ls ls':List Lt) (ρ σ:Nat→Nat) (fl:Bool):Prop where
 wv:Wv ls
 len:ls'.length=ls.length
 pas:Zaa ls'=Zaa ls
 lt:∀ v,v<ls.length→ρ v<ls.length
 ltr:∀ v,v<ls.length→σ v<ls.length
 inv:∀ v,v<ls.length→σ (ρ v)=v
 inr:∀ v,v<ls.length→ρ (σ v)=v
 pre:∀ v,v<ls.length→ρ ((v+ls.length - 1) % ls.length)=(ρ v+ls.length - 1) % ls.length
 kin:∀ v,v<ls.length→(at' ls' (ρ v)).k=(at' ls v).k
 oth:∀ v,v<ls.length→(at' ls v).k=2→Zbf ls' (ρ v) ls.length 0=ρ (Zbf ls v ls.length 0)
 ov:∀ v,v<ls.length→(at' ls v).k=2→((at' ls' (ρ v)).o == ((at' ls' (ρ v)).s == 1)) = !((at' ls v).o == ((at' ls v).s == 1))
 dn:∀ v,v<ls.length→(at' ls v).k=1→down ls' (ρ v)=(down ls v != fl)
 idx:∀ v,v<ls.length→(at' ls v).k=1→idxN (ρ v) (axis ls')=if fl then idxN v (axis ls)else Zaa ls - 1 - idxN v (axis ls)
def phi (n m:Nat) (fl:Bool) (ρ:Nat→Nat) (d:Nat):Nat:=
 if d<2*n then (if d % 2=0 then 2*ρ (d / 2)+1 else 2*ρ (d / 2))
 else if fl then (if d % 2=0 then d+1 else d - 1)else if d % 2=0 then 2*n+2*((2*m - 2 - (d - 2*n) / 2) % m)else 2*n+2*((2*m - 2 - (d - 2*n) / 2) % m)+1
theorem Zmz {m p:Nat} (hp:p<m):(2*m - 2 - p) % m=if p=m - 1 then m - 1 else m - 2 - p:=by
 split
 ·rename_i h; subst h; rw[show 2*m - 2 - (m - 1)=m - 1 by omega,Nat.mod_eq_of_lt (by omega)]
 ·rw[show 2*m - 2 - p=(m - 2 - p)+m by omega,Nat.add_mod_right,Nat.mod_eq_of_lt (by omega)]
theorem Z10 {n m:Nat} {fl:Bool} {ρ:Nat→Nat} (hρ:∀ v,v<n→ρ v<n) {x:Nat} (hx:x<2*n+2*m):phi n m fl ρ x<2*n+2*m:=by
 unfold phi
 split
 ·have:=hρ (x / 2) (by omega)
  split<;>omega
 ·split
  ·split<;>omega
  ·have:=Nat.mod_lt (2*m - 2 - (x - 2*n) / 2) (show 0<m by omega)
   split<;>omega
theorem Z8o {n m:Nat} {fl:Bool} {ρ:Nat→Nat} (hρ:∀ v,v<n→ρ v<n) {x:Nat} (hx:x<2*n+2*m):phi n m fl ρ x<2*n↔x<2*n:=by
 unfold phi
 split
 ·rename_i h
  have:=hρ (x / 2) (by omega)
  constructor
  ·intro _; exact h
  ·intro _; split<;>omega
 ·rename_i h
  constructor
  ·intro h2
   split at h2
   ·split at h2<;>omega
   ·split at h2<;>omega
  ·intro h2; omega
theorem Z20 {n m:Nat} {fl:Bool} {ρ σ:Nat→Nat} (hρ:∀ v,v<n→ρ v<n) (hσ:∀ v,v<n→σ (ρ v)=v) {x:Nat} (hx:x<2*n+2*m):phi n m fl σ (phi n m fl ρ x)=x:=by
 by_cases h:x<2*n
 ·have h1:=hρ (x / 2) (by omega)
  have h2:=hσ (x / 2) (by omega)
  rcases Nat.mod_two_eq_zero_or_one x with e|e
  ·have e1:phi n m fl ρ x=2*ρ (x / 2)+1:=by unfold phi; rw[if_pos h,if_pos e]
   rw[e1]
   unfold phi
   rw[if_pos (by omega),if_neg (by omega),show (2*ρ (x / 2)+1) / 2=ρ (x / 2) by omega,h2]
   omega
  ·have e1:phi n m fl ρ x=2*ρ (x / 2):=by unfold phi; rw[if_pos h,if_neg (by omega)]
   rw[e1]
   unfold phi
   rw[if_pos (by omega),if_pos (by omega),show (2*ρ (x / 2)) / 2=ρ (x / 2) by omega,h2]
   omega
 ·obtain⟨p,hp⟩:∃ p,(x - 2*n) / 2=p:=⟨_,rfl⟩
  have hpm:p<m:=by omega
  cases fl with
  | true=>
   unfold phi
   rcases Nat.mod_two_eq_zero_or_one x with e|e
   ·simp only[if_neg h,if_true,if_pos e]
    rw[if_neg (by omega),if_neg (by omega)]
    omega
   ·simp only[if_neg h,if_true,if_neg (show ¬x % 2=0 by omega)]
    rw[if_neg (by omega),if_pos (by omega)]
    omega
  | false=>
   obtain⟨q,hq⟩:∃ q,(2*m - 2 - p) % m=q:=⟨_,rfl⟩
   have hqm:q<m:=by rw[← hq]; exact Nat.mod_lt _ (by omega)
   have hqp:(2*m - 2 - q) % m=p:=by
    rw[Zmz hpm]at hq
    rw[Zmz hqm]
    split at hq<;>split<;>omega
   unfold phi
   rcases Nat.mod_two_eq_zero_or_one x with e|e
   ·simp only[if_neg h,Bool.false_eq_true,if_false,if_pos e,hp,hq]
    rw[if_neg (by omega),if_pos (by omega),show (2*n+2*q - 2*n) / 2=q by omega,hqp]
    omega
   ·simp only[if_neg h,Bool.false_eq_true,if_false,if_neg (show ¬x % 2=0 by omega),hp,hq]
    rw[if_neg (by omega),if_neg (by omega),show (2*n+2*q+1 - 2*n) / 2=q by omega,hqp]
    omega
theorem Zoa {n m:Nat} {fl:Bool} {ρ:Nat→Nat} {v:Nat} (hv:v<n) (hpre:ρ ((v+n - 1) % n)=(ρ v+n - 1) % n) (b:Bool):phi n m fl ρ (Zb5 n v b)=arr n (ρ v) (!b):=by
 have hm:=Nat.mod_lt (v+n - 1) (show 0<n by omega)
 cases b with
 | true=>
  unfold Zb5 phi arr
  simp only[if_true,Bool.not_true,Bool.false_eq_true,if_false]
  rw[if_pos (by omega),if_pos (by omega),show 2*v / 2=v by omega]
 | false=>
  unfold Zb5 phi arr
  simp only[if_true,Bool.not_false,Bool.false_eq_true,if_false]
  rw[if_pos (by omega),if_neg (by omega),show (2*((v+n - 1) % n)+1) / 2=(v+n - 1) % n by omega,hpre]
theorem Z63 {n m:Nat} {fl:Bool} {ρ:Nat→Nat} {v:Nat} (hv:v<n) (hpre:ρ ((v+n - 1) % n)=(ρ v+n - 1) % n) (b:Bool):phi n m fl ρ (arr n v b)=Zb5 n (ρ v) (!b):=by
 have hm:=Nat.mod_lt (v+n - 1) (show 0<n by omega)
 cases b with
 | true=>
  unfold Zb5 phi arr
  simp only[if_true,Bool.not_true,Bool.false_eq_true,if_false]
  rw[if_pos (by omega),if_pos (by omega),show 2*((v+n - 1) % n) / 2=(v+n - 1) % n by omega,hpre]
 | false=>
  unfold Zb5 phi arr
  simp only[if_true,Bool.not_false,Bool.false_eq_true,if_false]
  rw[if_pos (by omega),if_neg (by omega),show (2*v+1) / 2=v by omega]
theorem Zuz {n m p:Nat} {fl:Bool} {ρ:Nat→Nat}:phi n m fl ρ (2*n+2*p)=if fl then 2*n+2*p+1 else 2*n+2*((2*m - 2 - p) % m):=by
 have e1:¬2*n+2*p<2*n:=by omega
 have e2:(2*n+2*p) % 2=0:=by omega
 have e3:(2*n+2*p - 2*n) / 2=p:=by omega
 unfold phi
 rw[if_neg e1,if_pos e2,if_pos e2,e3]
theorem Zxs {n m p:Nat} {fl:Bool} {ρ:Nat→Nat}:phi n m fl ρ (2*n+2*p+1)=if fl then 2*n+2*p else 2*n+2*((2*m - 2 - p) % m)+1:=by
 have e1:¬2*n+2*p+1<2*n:=by omega
 have e2:¬(2*n+2*p+1) % 2=0:=by omega
 have e3:(2*n+2*p+1 - 2*n) / 2=p:=by omega
 unfold phi
 rw[if_neg e1,if_neg e2,if_neg e2,e3]
 rfl
theorem Ztw {ls:List Lt} {v:Nat} (hv:v<ls.length) (hk:(at' ls v).k=1):idxN v (axis ls)<Zaa ls∧(axis ls).getD (idxN v (axis ls)) 0=v:=by
 have hm:v∈axis ls:=mem_axis.2 ⟨hv,by simp[isP,hk]⟩
 refine⟨by rw[← Zas]; exact Zl2 hm,?_⟩
 rw[List.getD,(Zc3 hm).1]; rfl
theorem Zs4 {ls:List Lt} {p:Nat} (hp:p<Zaa ls):∃ v,v<ls.length∧(at' ls v).k=1∧(axis ls).getD p 0=v∧idxN v (axis ls)=p:=by
 have hg:(axis ls)[p]? = some ((axis ls).getD p 0):=by rw[List.getD,List.getElem?_eq_getElem (by rw[Zas]; exact hp)]; rfl
 have hm:=List.mem_of_getElem? hg
 obtain⟨h1,h2⟩:=mem_axis.1 hm
 exact⟨_,h1,by simpa[isP]using h2,rfl,Zir (Zej ls) (Zc3 hm).1 hg⟩
theorem Zmh {m p:Nat} (hp:p<m):(p+1) % m=if p=m - 1 then 0 else p+1:=by
 split
 ·rename_i h; subst h; rw[show m - 1+1=m by omega,Nat.mod_self]
 ·rw[Nat.mod_eq_of_lt (by omega)]
theorem Zh2 {m p:Nat} (hp:p<m):(p+m - 1) % m=if p=0 then m - 1 else p - 1:=by
 split
 ·rename_i h; subst h; rw[Nat.zero_add,Nat.mod_eq_of_lt (by omega)]
 ·rw[show p+m - 1=(p - 1)+m by omega,Nat.add_mod_right,Nat.mod_eq_of_lt (by omega)]
section
variable {ls ls':List Lt} {ρ σ:Nat→Nat} {fl:Bool} (h:Img ls ls' ρ σ fl)
include h
theorem Z77 {v:Nat} (hv:v<ls.length):(at' ls v).k=2∨(at' ls v).k=1:=by
 rcases Decidable.em ((at' ls v).k=2)with e|e
 ·exact .inl e
 ·exact .inr (h.wv.kin v hv e)
theorem Zok {x:Nat} (hx:x<2*ls.length+2*Zaa ls):Za6 ls' (axis ls') (phi ls.length (Zaa ls) fl ρ (Za6 ls (axis ls) x))=phi ls.length (Zaa ls) fl ρ x:=by
 have hlen:=h.len
 have hpas:=h.pas
 have himg:∀ v,v<ls.length→(at' ls v).k=1 → ∀ b,Za6 ls' (axis ls') (arr ls.length (ρ v) b)=if (down ls v != fl)=b then 2*ls.length+2*idxN (ρ v) (axis ls')else 2*ls.length+2*((idxN (ρ v) (axis ls')+Zaa ls - 1) % Zaa ls)+1:=by
  intro v hv hk b
  have:=Zlr (ls:=ls') (v:=ρ v) (by rw[hlen]; exact h.lt v hv) b
  rw[hlen,hpas,h.kin v hv,hk,h.dn v hv hk]at this
  rw[this,if_neg (by decide)]
 by_cases hs:x<2*ls.length
 ·obtain⟨v,b,hv,rfl⟩:=Zs9 hs
  rw[Z63 hv (h.pre v hv)]
  rcases Z77 h hv with hk|hk
  ·obtain⟨w1,w2,w3,w4,w5⟩:=h.wv.oth v hv hk
   have ho:=h.oth _ w1 w2
   rw[w3]at ho
   rw[Zlr hv,if_pos hk,Zoa w1 (h.pre _ w1)]
   have:=Zlr (ls:=ls') (v:=ρ (Zbf ls v ls.length 0)) (by rw[hlen]; exact h.lt _ w1)
   rw[hlen]at this
   rw[this,h.kin _ w1,if_pos w2,ho,h.ov _ w1 w2,w4,w5]
   congr 1
   cases b<;>cases (at' ls v).o<;>cases ((at' ls v).s == 1)<;>rfl
  ·obtain⟨hi,hg⟩:=Ztw hv hk
   have hi':=h.idx v hv hk
   obtain⟨hj,hg'⟩:=Ztw (ls:=ls') (v:=ρ v) (by rw[hlen]; exact h.lt v hv) (by rw[h.kin v hv]; exact hk)
   have hd:=h.dn v hv hk
   rw[hpas]at hj
   have tr:=fun p=>Zrb (ls:=ls') (p:=p)
   have tl:=fun p=>Zuw (ls:=ls') (p:=p)
   rw[hlen]at tr tl
   rw[hpas]at tr
   rw[Zlr hv,if_neg (by omega)]
   have key:∀ q,q=idxN (ρ v) (axis ls')→(axis ls').getD q 0=ρ v:=fun q e=>by rw[e,hg']
   by_cases hdb:down ls v=b
   ·rw[if_pos hdb,Zuz]
    cases fl with
    | true=>
     rw[if_pos rfl,tl,key _ (by rw[hi',if_pos rfl]),hd,hdb]
     cases b<;>rfl
    | false=>
     have e:((2*Zaa ls - 2 - idxN v (axis ls)) % Zaa ls+1) % Zaa ls=idxN (ρ v) (axis ls'):=by
      rw[hi',Zmz hi]
      simp only[Bool.false_eq_true,if_false]
      split
      ·rw[Zmh (by omega)]; split<;>omega
      ·rw[Zmh (by omega)]; split<;>omega
     rw[if_neg (by decide),tr,key _ e,hd,hdb]
     cases b<;>rfl
   ·have hdb':down ls v = !b:=by revert hdb; cases down ls v<;>cases b<;>simp
    rw[if_neg hdb,Zxs]
    cases fl with
    | true=>
     have e:((idxN v (axis ls)+Zaa ls - 1) % Zaa ls+1) % Zaa ls=idxN (ρ v) (axis ls'):=by
      rw[hi',Zh2 hi,if_pos rfl]
      split
      ·rw[Zmh (by omega)]; split<;>omega
      ·rw[Zmh (by omega)]; split<;>omega
     rw[if_pos rfl,tr,key _ e,hd,hdb']
     cases b<;>rfl
    | false=>
     have hm:=Nat.mod_lt (idxN v (axis ls)+Zaa ls - 1) h.wv.pas
     have e:(2*Zaa ls - 2 - (idxN v (axis ls)+Zaa ls - 1) % Zaa ls) % Zaa ls=idxN (ρ v) (axis ls'):=by
      rw[hi',Zmz hm,Zh2 hi]
      simp only[Bool.false_eq_true,if_false]
      split<;>split<;>omega
     rw[if_neg (by decide),tl,key _ e,hd,hdb']
     cases b<;>rfl
 ·obtain⟨p,hp⟩:∃ p,(x - 2*ls.length) / 2=p:=⟨_,rfl⟩
  have hpm:p<Zaa ls:=by omega
  rcases Nat.mod_two_eq_zero_or_one x with e0|e0
  ·have ex:x=2*ls.length+2*p:=by omega
   subst ex
   have hq:=Nat.mod_lt (p+1) h.wv.pas
   obtain⟨v,hv,hk,hg,hi⟩:=Zs4 hq
   rw[Zrb,hg,Zoa hv (h.pre v hv),himg v hv hk,h.idx v hv hk,hi,Zuz]
   rw[Zmh hpm]
   cases fl with
   | true=>
    rw[if_neg (by cases down ls v<;>decide)]
    simp only[if_true]
    congr 2
    split
    ·rw[Zh2 (by omega)]; split<;>omega
    ·rw[Zh2 (by omega)]; split<;>omega
   | false=>
    rw[if_pos (by cases down ls v<;>decide)]
    simp only[Bool.false_eq_true,if_false]
    congr 2
    rw[Zmz hpm]
    split<;>omega
  ·have ex:x=2*ls.length+2*p+1:=by omega
   subst ex
   obtain⟨v,hv,hk,hg,hi⟩:=Zs4 hpm
   rw[Zuw,hg,Zoa hv (h.pre v hv),himg v hv hk,h.idx v hv hk,hi,Zxs]
   cases fl with
   | true=>
    rw[if_pos (by cases down ls v<;>decide)]
    simp only[if_true]
   | false=>
    rw[if_neg (by cases down ls v<;>decide)]
    simp only[Bool.false_eq_true,if_false]
    congr 2
    rw[Zmz hpm,Zh2 (by omega)]
    split<;>split<;>omega
theorem Z7d:Opp (Za6 ls (axis ls)) (Za6 ls' (axis ls')) (2*ls.length+2*Zaa ls) (2*ls.length) (phi ls.length (Zaa ls) fl ρ) (phi ls.length (Zaa ls) fl σ):=by
 obtain⟨_,h2,_,_⟩:=Zis h.wv.pas h.wv.kin
 have hk':∀ v,v<ls'.length→(at' ls' v).k≠2→(at' ls' v).k=1:=fun v hv hk=>by
  rw[h.len]at hv
  have e:=h.inr v hv
  rw[← e]at hk ⊢
  rw[h.kin _ (h.ltr v hv)]at hk ⊢
  exact h.wv.kin _ (h.ltr v hv) hk
 obtain⟨_,g2,_,_⟩:=Zis (ls:=ls') (by rw[h.pas]; exact h.wv.pas) hk'
 rw[h.len,h.pas]at g2
 have hφ:∀ x,x<2*ls.length+2*Zaa ls→phi ls.length (Zaa ls) fl σ (phi ls.length (Zaa ls) fl ρ x)=x:=fun x hx=>Z20 h.lt h.inv hx
 have hψ:∀ x,x<2*ls.length+2*Zaa ls→phi ls.length (Zaa ls) fl ρ (phi ls.length (Zaa ls) fl σ x)=x:=fun x hx=>Z20 h.ltr h.inr hx
 have hp:Perm1 (Za6 ls (axis ls)) (2*ls.length+2*Zaa ls):=⟨h2,fun y y' hy hy' e=>by
  have e1:=Zok h hy
  have e2:=Zok h hy'
  rw[e]at e1
  have e3:phi ls.length (Zaa ls) fl ρ y=phi ls.length (Zaa ls) fl ρ y':=by rw[← e1,← e2]
  have:=hφ y hy
  rw[e3,hφ y' hy']at this
  exact this.symm⟩
 have sur:∀ y,y<2*ls.length+2*Zaa ls → ∃ x,x<2*ls.length+2*Zaa ls∧phi ls.length (Zaa ls) fl ρ (Za6 ls (axis ls) x)=y:=fun y hy=>by
  have hz:=Z10 (fl:=fl) (m:=Zaa ls) h.ltr hy
  obtain⟨q0,q1,_⟩:=Zl6 hp hz
  refine⟨it (Za6 ls (axis ls)) (per (Za6 ls (axis ls)) (2*ls.length+2*Zaa ls) (phi ls.length (Zaa ls) fl σ y) - 1) (phi ls.length (Zaa ls) fl σ y),Zi2 hp hz _,?_⟩
  have e:Za6 ls (axis ls) (it (Za6 ls (axis ls)) (per (Za6 ls (axis ls)) (2*ls.length+2*Zaa ls) (phi ls.length (Zaa ls) fl σ y) - 1) (phi ls.length (Zaa ls) fl σ y))=it (Za6 ls (axis ls)) (per (Za6 ls (axis ls)) (2*ls.length+2*Zaa ls) (phi ls.length (Zaa ls) fl σ y) - 1+1) (phi ls.length (Zaa ls) fl σ y):=rfl
  rw[e,show per (Za6 ls (axis ls)) (2*ls.length+2*Zaa ls) (phi ls.length (Zaa ls) fl σ y) - 1+1=per (Za6 ls (axis ls)) (2*ls.length+2*Zaa ls) (phi ls.length (Zaa ls) fl σ y) by omega,q1]
  exact hψ y hy
 refine⟨hp,⟨g2,fun y y' hy hy' e=>?_⟩,fun x hx=>Z10 h.lt hx,fun x hx=>Z10 h.ltr hx,hφ,hψ,fun x hx=>Zok h hx,fun x hx=>Z8o h.lt hx⟩
 obtain⟨x,hx,rfl⟩:=sur y hy
 obtain⟨x',hx',rfl⟩:=sur y' hy'
 rw[Zok h hx,Zok h hx']at e
 have:=hφ x hx
 rw[e,hφ x' hx']at this
 rw[this]
end
end
end Go.Known
